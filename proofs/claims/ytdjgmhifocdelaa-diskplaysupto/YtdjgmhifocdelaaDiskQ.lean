/- The disk, plainly: what holds of each disk stays. -/
import Derived.Test.YtdjgmhifocdelaaDiskG
namespace Go.Proofs.Ytdjgmhifocdelaa
open Go Go.Vm
variable {D : DiskR}
theorem readyE_zero {s : ByteArray} (h : readyE D s = 0) : D.down = false ∧ okName s = true := by
  unfold readyE at h
  split at h
  · cases h
  · rename_i hd
    split at h
    · cases h
    · rename_i ho; exact ⟨by simpa using hd, by simpa using ho⟩
theorem thereE_zero {s : ByteArray} (h : thereE D s = 0) : readyE D s = 0 ∧ findR D.l s = some (fileR D s) := by
  unfold thereE at h
  split at h
  · rename_i g; exact absurd h g
  · rename_i g
    split at h
    · cases h
    · rename_i hf
      refine ⟨by simpa using g, ?_⟩
      obtain ⟨f, hf'⟩ := Option.ne_none_iff_exists'.1 hf
      rw [hf']; unfold fileR; rw [hf']; rfl
theorem InvD.with (h : InvD D) {f : FileR} (hl : findR D.l f.name = none → D.l.length < 64) (hu : usedR (withoutR D.l f.name) + (f.safe.size + f.tail.size) ≤ 1048576) : SortedR (withR D.l f) ∧ (withR D.l f).length ≤ 64 ∧ usedR (withR D.l f) ≤ 1048576 := by
  refine ⟨withR_sorted h.sort f, ?_, ?_⟩
  · rw [withR, insR_length]
    cases hf : findR D.l f.name with
    | none => rw [without_none hf]; have := hl hf; omega
    | some x => have := (without_some h.sort hf).1; have := h.len; omega
  · rw [withR, insR_used]; omega
theorem InvD.changed (h : InvD D) {l : List FileR} (h1 : SortedR l ∧ l.length ≤ 64 ∧ usedR l ≤ 1048576) : InvD (changedR D l) := by
  refine ⟨h1.1, h1.2.1, h1.2.2, h.limit, ?_⟩
  have := h.left
  unfold changedR; dsimp only; split <;> omega
theorem InvD.without (h : InvD D) (s : ByteArray) : SortedR (withoutR D.l s) ∧ (withoutR D.l s).length ≤ 64 ∧ usedR (withoutR D.l s) ≤ 1048576 := by
  refine ⟨withoutR_sorted h.sort s, Nat.le_trans (List.length_filter_le _ _) h.len, ?_⟩
  cases hf : findR D.l s with
  | none => rw [without_none hf]; exact h.used
  | some x => have := (without_some h.sort hf).2; have := h.used; omega
theorem newR_inv {limit : Int} (h : ¬ (limit < 1 ∨ 1048576 < limit)) : InvD ⟨limit, [], -1, false⟩ :=
  ⟨by simp [SortedR], by simp, by simp [usedR], by dsimp only; omega, by dsimp only; omega⟩
theorem appendR_inv (h : InvD D) (s : ByteArray) (p : List UInt8) : InvD (appendR D s p).1 := by
  unfold appendR
  split
  · exact h
  · split
    · exact h
    · rename_i h1 h2
      have hu := h.used
      have hlim := h.limit
      refine h.changed (h.with (fun hf => ?_) ?_)
      · dsimp only at hf
        apply Classical.byContradiction
        intro hc
        exact h2 (.inr ⟨hf, by omega⟩)
      · dsimp only
        have hsz : ((fileR D s).tail ++ (⟨p.toArray⟩ : ByteArray)).size = (fileR D s).tail.size + p.length := by rw [← bl_len, bl_append, List.length_append, bl_len, bl_mk]
        rw [hsz]
        cases hf : findR D.l s with
        | none =>
          rw [without_none hf]
          have : fileR D s = ⟨s, .empty, .empty⟩ := by unfold fileR; rw [hf]; rfl
          rw [this]
          have : ByteArray.empty.size = 0 := rfl
          dsimp only; omega
        | some x =>
          have : fileR D s = x := by unfold fileR; rw [hf]; rfl
          rw [this]
          have := (without_some h.sort hf).2
          omega
theorem all_size (f : FileR) : f.all.size = f.safe.size + f.tail.size := by rw [← bl_len, FileR.all_size]
theorem InvD.there (h : InvD D) {s : ByteArray} (h0 : thereE D s = 0) {f : FileR} (hn : f.name = s) (hs : f.safe.size + f.tail.size ≤ (fileR D s).safe.size + (fileR D s).tail.size) : SortedR (withR D.l f) ∧ (withR D.l f).length ≤ 64 ∧ usedR (withR D.l f) ≤ 1048576 := by
  have hf := (thereE_zero h0).2
  refine h.with (fun hn' => ?_) ?_
  · rw [hn, hf] at hn'; cases hn'
  · rw [hn]
    have := (without_some h.sort hf).2
    have := h.used
    omega
theorem syncR_inv (h : InvD D) (s : ByteArray) : InvD (syncR D s).1 := by
  unfold syncR
  split
  · exact h
  · rename_i h0
    refine h.changed (h.there (by simpa using h0) rfl ?_)
    have : ByteArray.empty.size = 0 := rfl
    dsimp only; rw [all_size]; omega
theorem cutR_inv (h : InvD D) (s : ByteArray) (k : Int) : InvD (cutR D s k).1 := by
  unfold cutR
  split
  · exact h
  · split
    · exact h
    · rename_i h0 _
      refine h.changed (h.there (by simpa using h0) rfl ?_)
      have : ByteArray.empty.size = 0 := rfl
      dsimp only
      have : ((fileR D s).all.extract 0 k.toNat).size ≤ (fileR D s).all.size := by rw [← bl_len, ← bl_len, bl_extract, List.length_take]; omega
      rw [all_size] at this; omega
theorem removeR_inv (h : InvD D) (s : ByteArray) : InvD (removeR D s).1 := by
  unfold removeR
  split
  · exact h
  · exact h.changed (h.without s)
theorem renameR_inv (h : InvD D) (s t : ByteArray) : InvD (renameR D s t).1 := by
  unfold renameR
  split
  · exact h
  · split
    · exact h
    · split
      · exact h
      · split
        · exact h
        · rename_i _ _ h0 _
          have hf := (thereE_zero (by simpa using h0)).2
          obtain ⟨w1, w2⟩ := without_some h.sort hf
          have hl := h.len
          have hu := h.used
          have h2 : InvD ⟨D.limit, withoutR D.l s, D.left, D.down⟩ := ⟨(h.without s).1, (h.without s).2.1, (h.without s).2.2, h.limit, h.left⟩
          have := h2.with (f := ⟨t, (fileR D s).safe, .empty⟩) (fun _ => by dsimp only; omega) (by
            have e0 : ByteArray.empty.size = 0 := rfl
            dsimp only
            cases hft : findR (withoutR D.l s) t with
            | none => rw [without_none hft]; omega
            | some x => have := (without_some h2.sort hft).2; dsimp only at this; omega)
          exact h.changed this
theorem limitR_inv (h : InvD D) (k : Int) : InvD (limitR D k).1 := by
  unfold limitR
  split
  · exact h
  · exact ⟨h.sort, h.len, h.used, by dsimp only; omega, h.left⟩
theorem armR_inv (h : InvD D) {k : Int} (hk : k ≤ 9223372036854775807) : InvD (armR D k).1 := by
  unfold armR
  split
  · exact h
  · exact ⟨h.sort, h.len, h.used, h.limit, by dsimp only; split <;> omega⟩
theorem crashR_names (keep : List Int) : (crashR D keep).l.map (·.name) = D.l.map (·.name) := by
  have := crashTo_names keep D.l.length D.l
  rwa [crashTo_all] at this
theorem crashR_used (keep : List Int) : usedR (crashR D keep).l ≤ usedR D.l := by
  unfold crashR usedR
  dsimp only
  have : ∀ (l : List FileR) (g : Nat → FileR → FileR), (∀ i f, (g i f).safe.size + (g i f).tail.size ≤ f.safe.size + f.tail.size) → ((l.mapIdx g).map fun f => f.safe.size + f.tail.size).sum ≤ (l.map fun f => f.safe.size + f.tail.size).sum := fun l => by
    induction l with
    | nil => intro g _; simp
    | cons x r ih =>
      intro g hg
      rw [List.mapIdx_cons]
      simp only [List.map_cons, List.sum_cons]
      have h1 := ih (fun i => g (i + 1)) (fun i f => hg (i + 1) f)
      have h2 := hg 0 x
      omega
  refine this _ _ fun i f => ?_
  have h1 := keptN_le keep i f
  have e0 : ByteArray.empty.size = 0 := rfl
  unfold crashF
  dsimp only
  rw [← bl_len (f.safe ++ f.tail.extract 0 (keptN keep i f)), bl_append, bl_extract, List.length_append, List.length_take, bl_len, bl_len]
  omega
theorem crashR_inv (h : InvD D) (keep : List Int) : InvD (crashR D keep) := by
  refine ⟨sortedR_names h.sort (crashR_names keep), ?_, Nat.le_trans (crashR_used keep) h.used, h.limit, by unfold crashR; dsimp only; omega⟩
  have := congrArg List.length (crashR_names (D := D) keep)
  simp only [List.length_map] at this
  rw [this]; exact h.len
end Go.Proofs.Ytdjgmhifocdelaa
