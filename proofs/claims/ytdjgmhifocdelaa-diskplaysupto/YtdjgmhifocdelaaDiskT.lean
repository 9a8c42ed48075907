/- The disk, plainly: behind calls without crashes and arms. -/
import Derived.Test.YtdjgmhifocdelaaDiskS
namespace Go.Proofs.Ytdjgmhifocdelaa
open Go Go.Vm
variable {D : DiskR} {limit : Int}
/-- what holds behind calls without arms -/
structure InvN (limit : Int) (D : DiskR) : Prop where
  inv : InvD D
  left : D.left = -1
  down : D.down = false
  lim : D.limit = limit
  used : usedR D.l ≤ limit
  names : ∀ f ∈ D.l, okName f.name = true
theorem InvN.new (h : ¬ (limit < 1 ∨ 1048576 < limit)) : InvN limit ⟨limit, [], -1, false⟩ := ⟨newR_inv h, rfl, rfl, rfl, by simp [usedR]; omega, by simp⟩
theorem changed_eq (h : D.left = -1) (l : List FileR) : changedR D l = ⟨D.limit, l, -1, false⟩ := by unfold changedR; rw [h]; rfl
theorem with_used {L : List FileR} {f : FileR} : usedR (withR L f) = f.safe.size + f.tail.size + usedR (withoutR L f.name) := insR_used f _
theorem without_used {L : List FileR} (h : SortedR L) (s : ByteArray) : usedR (withoutR L s) ≤ usedR L := by
  cases hf : findR L s with
  | none => rw [without_none hf]; exact Nat.le_refl _
  | some x => have := (without_some h hf).2; omega
theorem without_file (h : SortedR D.l) {s : ByteArray} : usedR (withoutR D.l s) + ((fileR D s).safe.size + (fileR D s).tail.size) = usedR D.l := by
  cases hf : findR D.l s with
  | none =>
    have : fileR D s = ⟨s, .empty, .empty⟩ := by unfold fileR; rw [hf]; rfl
    rw [without_none hf, this]; rfl
  | some x =>
    have : fileR D s = x := by unfold fileR; rw [hf]; rfl
    rw [this]; exact (without_some h hf).2
theorem InvN.with (h : InvN limit D) {D' : DiskR} (hi : InvD D') {f : FileR} {L : List FileR} (hL : ∀ x ∈ L, x ∈ D.l) (e : D' = ⟨D.limit, withR L f, -1, false⟩) (hn : okName f.name = true) (hu : (usedR (withR L f) : Int) ≤ limit) : InvN limit D' := by
  subst e
  refine ⟨hi, rfl, rfl, h.lim, hu, fun x hx => ?_⟩
  rcases withR_mem.1 hx with rfl | ⟨hx, _⟩
  · exact hn
  · exact h.names x (hL x hx)
theorem InvN.append (h : InvN limit D) (s : ByteArray) (p : List UInt8) : InvN limit (appendR D s p).1 := by
  have hi := appendR_inv h.inv s p
  unfold appendR at hi ⊢
  split
  · exact h
  · rename_i h0
    rw [if_neg h0] at hi
    split
    · exact h
    · rename_i h1
      rw [if_neg h1] at hi
      refine h.with hi (fun x hx => hx) (changed_eq h.left _) (readyE_zero (by simpa using h0)).2 ?_
      rw [with_used]
      have h2 := without_file h.inv.sort (s := s)
      have hsz : ((fileR D s).tail ++ (⟨p.toArray⟩ : ByteArray)).size = (fileR D s).tail.size + p.length := by rw [← bl_len, bl_append, List.length_append, bl_len, bl_mk]
      have hl := h.lim
      dsimp only
      rw [hsz]
      omega
theorem InvN.sync (h : InvN limit D) (s : ByteArray) : InvN limit (syncR D s).1 := by
  have hi := syncR_inv h.inv s
  unfold syncR at hi ⊢
  split
  · exact h
  · rename_i h0
    rw [if_neg h0] at hi
    refine h.with hi (fun x hx => hx) (changed_eq h.left _) (readyE_zero (thereE_zero (by simpa using h0)).1).2 ?_
    rw [with_used]
    have h2 := without_file h.inv.sort (s := s)
    have h3 := h.used
    have e0 : ByteArray.empty.size = 0 := rfl
    dsimp only
    rw [all_size]
    omega
theorem InvN.cut (h : InvN limit D) (s : ByteArray) (k : Int) : InvN limit (cutR D s k).1 := by
  have hi := cutR_inv h.inv s k
  unfold cutR at hi ⊢
  split
  · exact h
  · rename_i h0
    rw [if_neg h0] at hi
    split
    · exact h
    · rename_i h1
      rw [if_neg h1] at hi
      refine h.with hi (fun x hx => hx) (changed_eq h.left _) (readyE_zero (thereE_zero (by simpa using h0)).1).2 ?_
      rw [with_used]
      have h2 := without_file h.inv.sort (s := s)
      have h3 := h.used
      have e0 : ByteArray.empty.size = 0 := rfl
      have h4 : ((fileR D s).all.extract 0 k.toNat).size ≤ (fileR D s).all.size := by rw [← bl_len, ← bl_len, bl_extract, List.length_take]; omega
      rw [all_size] at h4
      dsimp only
      omega
theorem InvN.rename (h : InvN limit D) (s t : ByteArray) : InvN limit (renameR D s t).1 := by
  have hi := renameR_inv h.inv s t
  unfold renameR at hi ⊢
  split
  · exact h
  · rename_i h0
    rw [if_neg h0] at hi
    split
    · exact h
    · rename_i h1
      rw [if_neg h1] at hi
      split
      · exact h
      · rename_i h2
        rw [if_neg h2] at hi
        split
        · exact h
        · rename_i h3
          rw [if_neg h3] at hi
          refine h.with hi (fun x hx => (withoutR_mem.1 hx).1) (changed_eq h.left _) (readyE_zero (by simpa using h1)).2 ?_
          rw [with_used]
          have h4 := without_file h.inv.sort (s := s)
          have h5 := h.used
          have h6 := without_used (withoutR_sorted h.inv.sort s) t
          have e0 : ByteArray.empty.size = 0 := rfl
          dsimp only
          omega
theorem InvN.remove (h : InvN limit D) (s : ByteArray) : InvN limit (removeR D s).1 := by
  have hi := removeR_inv h.inv s
  unfold removeR at hi ⊢
  split
  · exact h
  · rename_i h0
    rw [if_neg h0] at hi
    dsimp only
    dsimp only at hi
    rw [changed_eq h.left] at hi ⊢
    have h2 := without_used h.inv.sort s
    have h3 := h.used
    exact ⟨hi, rfl, rfl, h.lim, by dsimp only; omega, fun x hx => h.names x (withoutR_mem.1 hx).1⟩
/-! refused: nothing changes -/
theorem append_no {s : ByteArray} {p : List UInt8} (h : (appendR D s p).2 ≠ 0) : (appendR D s p).1 = D := by
  unfold appendR at h ⊢; repeat' split
  all_goals first | rfl | simp_all
theorem sync_no {s : ByteArray} (h : (syncR D s).2 ≠ 0) : (syncR D s).1 = D := by
  unfold syncR at h ⊢; repeat' split
  all_goals first | rfl | simp_all
theorem cut_no {s : ByteArray} {k : Int} (h : (cutR D s k).2 ≠ 0) : (cutR D s k).1 = D := by
  unfold cutR at h ⊢; repeat' split
  all_goals first | rfl | simp_all
theorem rename_no {s t : ByteArray} (h : (renameR D s t).2 ≠ 0) : (renameR D s t).1 = D := by
  unfold renameR at h ⊢; repeat' split
  all_goals first | rfl | simp_all
theorem remove_no {s : ByteArray} (h : (removeR D s).2 ≠ 0) : (removeR D s).1 = D := by
  unfold removeR at h ⊢; repeat' split
  all_goals first | rfl | simp_all
theorem InvN.there (h : InvN limit D) {f : FileR} (hf : f ∈ D.l) : thereE D f.name = 0 ∧ fileR D f.name = f := by
  have h1 := (findR_some h.inv.sort).2 ⟨hf, rfl⟩
  refine ⟨?_, by unfold fileR; rw [h1]; rfl⟩
  unfold thereE readyE
  rw [h.down, h.names f hf, h1]
  simp
theorem InvN.len (h : InvN limit D) {f : FileR} (hf : f ∈ D.l) : f.name.size ≤ 12 := by
  have := h.names f hf
  unfold okName at this
  rw [Bool.and_eq_true] at this
  exact (of_decide_eq_true this.1).2
end Go.Proofs.Ytdjgmhifocdelaa
