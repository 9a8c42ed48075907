/- WalLasts, plainly: what lies on the disk is what was put. -/
import Derived.Test.YtnlghoenbhbfhaaJoin28
namespace Go.Proofs.Ytnlghoenbhbfhaa
open Go Go.Vm
variable {D : DiskR} {L : LogR} {last : Int} {l : List FileR} {put : List (List UInt8)} {safe : Nat}
/-- the segment under way -/
def CurI (l : List FileR) (last : Int) (parts cur : List (List UInt8)) (safe : Nat) : Prop :=
  (findR l (nameB last) = none ∧ cur = [] ∧ safe ≤ parts.length) ∨ ∃ s t j, findR l (nameB last) = some ⟨nameB last, s, t⟩ ∧ bl s ++ bl t = rowsB cur ∧ j ≤ cur.length ∧ lenR (cur.take j) ≤ s.size ∧ safe ≤ parts.length + j
structure PutI (last : Int) (l : List FileR) (put : List (List UInt8)) (safe : Nat) : Prop where
  ok : ∀ q ∈ put, okRec q
  last1 : 1 ≤ last ∧ last ≤ 99999
  names : ∀ f ∈ l, ∃ k : Int, 1 ≤ k ∧ k ≤ last ∧ f.name = nameB k
  seg : ∃ (parts : List (List (List UInt8))) (cur : List (List UInt8)), (parts.length : Int) + 1 = last ∧ put = parts.flatten ++ cur ∧
    (∀ (i : Nat) q, parts[i]? = some q → ∃ s : ByteArray, findR l (nameB ((i : Int) + 1)) = some ⟨nameB ((i : Int) + 1), s, .empty⟩ ∧ bl s = rowsB q) ∧ CurI l last parts.flatten cur safe
theorem PutI.start : PutI 1 [] [] 0 := ⟨by simp, by omega, by simp, [], [], rfl, rfl, by simp, .inl ⟨rfl, rfl, Nat.le_refl _⟩⟩
theorem name_ne {j k : Int} (hj : 1 ≤ j ∧ j ≤ 99999) (hk : 1 ≤ k ∧ k ≤ 99999) (h : j ≠ k) : nameB j ≠ nameB k := fun e => h (name_inj (by omega) (by omega) e)
theorem PutI.safe_le (h : PutI last l put safe) : safe ≤ put.length := by
  obtain ⟨parts, cur, h1, h2, h3, h4⟩ := h.seg
  rw [h2, List.length_append]
  rcases h4 with ⟨_, _, h5⟩ | ⟨s, t, j, _, _, h6, _, h7⟩ <;> omega
/-- the file under way turns -/
theorem PutI.turn (h : PutI last l put safe) (hs : SortedR l) {s t : ByteArray} {q : List (List UInt8)} (hq : ∀ p ∈ q, okRec p) {safe' : Nat}
    (hc : ∀ parts cur, CurI l last parts cur safe → bl s ++ bl t = rowsB (cur ++ q) ∧ ∃ j, j ≤ (cur ++ q).length ∧ lenR ((cur ++ q).take j) ≤ s.size ∧ safe' ≤ parts.length + j) : PutI last (withR l ⟨nameB last, s, t⟩) (put ++ q) safe' := by
  obtain ⟨parts, cur, h1, h2, h3, h4⟩ := h.seg
  obtain ⟨h5, j, h6, h7, h8⟩ := hc _ _ h4
  refine ⟨fun p hp => ?_, h.last1, fun f hf => ?_, parts, cur ++ q, h1, by rw [h2, List.append_assoc], fun i p hp => ?_, .inr ⟨s, t, j, ?_, h5, h6, h7, h8⟩⟩
  · rcases List.mem_append.1 hp with hp | hp
    · exact h.ok p hp
    · exact hq p hp
  · rcases withR_mem.1 hf with rfl | ⟨hf, _⟩
    · exact ⟨last, h.last1.1, Int.le_refl _, rfl⟩
    · exact h.names f hf
  · obtain ⟨s2, g1, g2⟩ := h3 i p hp
    have hi := (List.getElem?_eq_some_iff.1 hp).1
    have hl1 := h.last1
    refine ⟨s2, ?_, g2⟩
    rw [findR_with hs, if_neg]
    · exact g1
    · exact name_ne (by omega) h.last1 (by omega)
  · rw [findR_with hs, if_pos rfl]
theorem bl_empty : bl .empty = [] := rfl
theorem size_zero {b : ByteArray} (h : b.size = 0) : b = .empty := bl_inj (by rw [bl_empty]; exact List.eq_nil_of_length_eq_zero (by rw [bl_len]; exact h))
theorem CurI.le {parts cur : List (List UInt8)} {safe' : Nat} (h : CurI l last parts cur safe) (hle : safe' ≤ safe) : CurI l last parts cur safe' := by
  rcases h with ⟨h1, h2, h3⟩ | ⟨s, t, j, h1, h2, h3, h4, h5⟩
  · exact .inl ⟨h1, h2, by omega⟩
  · exact .inr ⟨s, t, j, h1, h2, h3, h4, by omega⟩
/-- all of the file under way is safe -/
def SafeC (l : List FileR) (last : Int) : Prop := ∀ f, findR l (nameB last) = some f → f.tail = .empty
theorem PutI.full (h : PutI last l put safe) (hf : SafeC l last) : PutI last l put put.length := by
  obtain ⟨parts, cur, h1, h2, h3, h4⟩ := h.seg
  refine ⟨h.ok, h.last1, h.names, parts, cur, h1, h2, h3, ?_⟩
  rcases h4 with ⟨h5, h6, h7⟩ | ⟨s, t, j, h5, h6, h7, h8, h9⟩
  · exact .inl ⟨h5, h6, by rw [h2, h6]; simp⟩
  · have ht : t = .empty := hf _ h5
    refine .inr ⟨s, t, cur.length, h5, h6, Nat.le_refl _, ?_, by rw [h2, List.length_append]; exact Nat.le_refl _⟩
    rw [List.take_length, ← rowsB_len, ← h6, ht, bl_empty, List.append_nil, bl_len]
    exact Nat.le_refl _
theorem readR_find {D : DiskR} {s : ByteArray} (hd : D.down = false) (hn : okName s = true) : (readR D s).1 = match findR D.l s with | some f => f.all | none => .empty := by
  have hr : thereE D s = if findR D.l s = none then 4 else 0 := by unfold thereE readyE; simp [hd, hn]
  unfold readR
  rw [hr]
  cases hf : findR D.l s with
  | none => simp
  | some f => simp [fileR, hf]
theorem nameB_size {k : Int} (h : 1 ≤ k ∧ k ≤ 99999) : okName (nameB k) = true := by
  have hn : ¬ (k < 1 ∨ 99999 < k) := by omega
  rw [nameC_eq hn]
  have hnn : 0 ≤ k := by omega
  have d0 := dg_range hnn 0
  have d1 := dg_range hnn 1
  have d2 := dg_range hnn 2
  have d3 := dg_range hnn 3
  have d4 := dg_range hnn 4
  unfold okName
  rw [Bool.and_eq_true, List.all_eq_true]
  refine ⟨rfl, fun c hc => ?_⟩
  have hc' : c ∈ [119, dgB k 4, dgB k 3, dgB k 2, dgB k 1, dgB k 0] := hc
  simp only [List.mem_cons, List.not_mem_nil, or_false] at hc'
  apply decide_eq_true
  rcases hc' with rfl | rfl | rfl | rfl | rfl | rfl
  · right; right; decide
  all_goals right; left; omega
/-- Sync -/
theorem PutI.sync (h : PutI L.last D.l put safe) (hi : InvD D) : PutI L.last (syncL D L).1.l put safe ∧ ((syncL D L).2.2 = 0 → SafeC (syncL D L).1.l L.last) := by
  unfold syncL
  split
  · exact ⟨h, fun e => by cases e⟩
  split
  · exact ⟨h, fun e => by cases e⟩
  rename_i hd
  have hd' : D.down = false := by simpa using hd
  split
  · rename_i he
    refine ⟨h, fun _ f hf => ?_⟩
    unfold lenL at he
    rw [if_neg hd, readR_find hd' (nameB_size h.last1), hf] at he
    unfold safeR at he
    rw [hf] at he
    dsimp only at he
    rw [all_size] at he
    exact size_zero (by omega)
  · rename_i he
    dsimp only
    unfold syncR
    split
    · rename_i h0
      refine ⟨h, fun e => absurd e h0⟩
    · rename_i h0
      have hf := (thereE_zero (by simpa using h0)).2
      have hn := (findR_some hi.sort).1 hf
      refine ⟨?_, fun _ f hf2 => ?_⟩
      · have := h.turn hi.sort (s := (fileR D (nameB L.last)).all) (t := .empty) (q := []) (by simp) (safe' := safe) fun parts cur hc => by
          rcases hc with ⟨h5, _, _⟩ | ⟨s, t, j, h5, h6, h7, h8, h9⟩
          · rw [hf] at h5; cases h5
          · rw [hf] at h5
            have h10 := Option.some.inj h5
            rw [h10]
            refine ⟨by rw [bl_empty, List.append_nil, List.append_nil, FileR.all, bl_append]; exact h6, j, by simpa using h7, ?_, h9⟩
            rw [List.append_nil, all_size]
            dsimp only
            omega
        rw [List.append_nil] at this
        exact this
      · have : findR (withR D.l ⟨nameB L.last, (fileR D (nameB L.last)).all, .empty⟩) (nameB L.last) = some f := hf2
        rw [findR_with hi.sort, if_pos rfl] at this
        cases this; rfl
theorem lenR_zero {ps : List (List UInt8)} (h : lenR ps = 0) : ps = [] := by
  cases ps with
  | nil => rfl
  | cons p r => simp [lenR] at h
/-- another segment -/
theorem PutI.next (h : PutI last l put safe) (hf : SafeC l last) (hne : ∃ f, findR l (nameB last) = some f) (hl : last < 99999) : PutI (last + 1) l put safe := by
  obtain ⟨parts, cur, h1, h2, h3, h4⟩ := h.seg
  have hsf := h.safe_le
  obtain ⟨f, hff⟩ := hne
  rcases h4 with ⟨h5, _, _⟩ | ⟨s, t, j, h5, h6, h7, h8, h9⟩
  · rw [hff] at h5; cases h5
  have ht : t = .empty := hf _ h5
  subst ht
  have hl1 := h.last1
  refine ⟨h.ok, by omega, fun f hf => ?_, parts ++ [cur], [], by simp; omega, by rw [h2]; simp, fun i q hq => ?_, .inl ⟨?_, rfl, by rw [h2] at hsf; simpa using hsf⟩⟩
  · obtain ⟨k, g1, g2, g3⟩ := h.names f hf
    exact ⟨k, g1, by omega, g3⟩
  · by_cases hi : i < parts.length
    · rw [List.getElem?_append_left hi] at hq
      exact h3 i q hq
    · rw [List.getElem?_append_right (by omega)] at hq
      have hi0 : i - parts.length = 0 := by
        have := (List.getElem?_eq_some_iff.1 hq).1; simp at this; omega
      rw [hi0] at hq
      simp at hq; subst hq
      have e : (i : Int) + 1 = last := by omega
      rw [e]
      exact ⟨s, h5, by rw [bl_empty, List.append_nil] at h6; exact h6⟩
  · rw [findR_none]
    intro f hf e
    obtain ⟨k, g1, g2, g3⟩ := h.names f hf
    rw [g3] at e
    exact name_ne (by omega) (by omega) (by omega) e
theorem syncL_log (D : DiskR) (L : LogR) : (syncL D L).2.1.last = L.last := (syncL_last D L).1
/-- Begin -/
theorem PutI.begin (h : PutI L.last D.l put safe) (hi : InvD D) (_hi2 : InvD (syncL D L).1) : PutI (beginL D L).2.1.last (beginL D L).1.l put safe ∧ ((beginL D L).2.2.2 = 0 → PutI (beginL D L).2.1.last (beginL D L).1.l put put.length) ∧ (beginL D L).2.1.last ≤ L.last + 1 := by
  obtain ⟨g1, g2⟩ := h.sync hi
  have g3 := syncL_log D L
  unfold beginL
  split
  · rename_i he
    dsimp only
    rw [g3]
    exact ⟨g1, fun e => absurd e he, by omega⟩
  rename_i he
  have gs := g2 (by simpa using he)
  split
  · dsimp only
    rw [g3]
    exact ⟨g1, fun _ => g1.full gs, by omega⟩
  rename_i hl
  split
  · dsimp only
    rw [g3]
    exact ⟨g1, fun e => (by cases e), by omega⟩
  rename_i hm
  dsimp only
  have hne : ∃ f, findR (syncL D L).1.l (nameB L.last) = some f := by
    cases hf : findR (syncL D L).1.l (nameB L.last) with
    | some f => exact ⟨f, rfl⟩
    | none =>
      exfalso
      apply hl
      unfold lenL
      split
      · unfold safeR; rw [hf]
      · rename_i hd
        rw [readR_find (by simpa using hd) (nameB_size h.last1), hf]; rfl
  have hlt : L.last < 99999 := by have := h.last1; omega
  exact ⟨g1.next gs hne hlt, fun _ => (g1.full gs).next gs hne hlt, Int.le_refl _⟩
end Go.Proofs.Ytnlghoenbhbfhaa

/- WalLasts, plainly: Append; what is read when the log is opened behind a crash. -/
namespace Go.Proofs.Ytnlghoenbhbfhaa
open Go Go.Vm
variable {D : DiskR} {L : LogR} {last : Int} {l : List FileR} {put : List (List UInt8)} {safe : Nat}
theorem syncL_inv (h : InvD D) (L : LogR) : InvD (syncL D L).1 := by
  unfold syncL; repeat' split
  all_goals first | exact h | exact syncR_inv h _
theorem beginL_inv (h : InvD D) (L : LogR) : InvD (beginL D L).1 := by
  unfold beginL; repeat' split
  all_goals exact syncL_inv h L
theorem PutI.app1 (h : PutI last D.l put safe) (hi : InvD D) {q : List UInt8} (hq : okRec q) :
    ((appendR D (nameB last) (putB q)).2 = 0 → PutI last (appendR D (nameB last) (putB q)).1.l (put ++ [q]) safe) ∧ ((appendR D (nameB last) (putB q)).2 ≠ 0 → PutI last (appendR D (nameB last) (putB q)).1.l put safe) := by
  unfold appendR
  split
  · rename_i h0
    exact ⟨fun e => absurd e h0, fun _ => h⟩
  split
  · exact ⟨fun e => (by cases e), fun _ => h⟩
  refine ⟨fun _ => ?_, fun e => absurd rfl e⟩
  refine h.turn hi.sort (by simpa using hq) fun parts cur hc => ?_
  rcases hc with ⟨h5, h6, h7⟩ | ⟨s, t, j, h5, h6, h7, h8, h9⟩
  · have e : fileR D (nameB last) = ⟨nameB last, .empty, .empty⟩ := by unfold fileR; rw [h5]; rfl
    rw [e, h6]
    refine ⟨by rw [bl_append, bl_empty, bl_mk]; simp [rowsB], 0, Nat.zero_le _, by simp [lenR], by omega⟩
  · have e : fileR D (nameB last) = ⟨nameB last, s, t⟩ := by unfold fileR; rw [h5]; rfl
    rw [e]
    refine ⟨by dsimp only; rw [bl_append, ← List.append_assoc, h6, rowsB_append]; congr 1; rw [bl_mk]; simp [rowsB], j, by simp; omega, ?_, h9⟩
    rw [List.take_append_of_le_length h7]; exact h8
theorem putE_zero {q : List UInt8} (h : ¬ putE q ≠ 0) : okRec q := by
  unfold putE at h
  unfold okRec
  split at h
  · simp at h
  · split at h
    · simp at h
    · omega
theorem appendL_log (D : DiskR) (L : LogR) (q : List UInt8) : (appendL D L q).2.1.first = L.first ∧ (appendL D L q).2.1.size = L.size := by
  obtain ⟨h1, h2⟩ := beginL_first D L
  have hr : (roomL D L (putB q).length).2.1.first = L.first ∧ (roomL D L (putB q).length).2.1.size = L.size := by
    unfold roomL; split
    · exact ⟨h1, h2⟩
    · exact ⟨rfl, rfl⟩
  unfold appendL; repeat' split
  all_goals first | exact ⟨rfl, rfl⟩ | exact hr
/-- Append -/
theorem PutI.append (h : PutI L.last D.l put safe) (hi : InvD D) (q : List UInt8) :
    ((appendL D L q).2.2 = 0 → PutI (appendL D L q).2.1.last (appendL D L q).1.l (put ++ [q]) safe) ∧ ((appendL D L q).2.2 ≠ 0 → PutI (appendL D L q).2.1.last (appendL D L q).1.l put safe) ∧ (appendL D L q).2.1.last ≤ L.last + 1 := by
  obtain ⟨g1, g2, g3⟩ := h.begin hi (syncL_inv hi L)
  have gi := beginL_inv hi L
  unfold appendL
  split
  · exact ⟨fun e => (by cases e), fun _ => h, by dsimp only; omega⟩
  split
  · rename_i h0
    exact ⟨fun e => absurd e h0, fun _ => h, by dsimp only; omega⟩
  rename_i h0
  have hq := putE_zero h0
  split
  · exact ⟨fun e => (by cases e), fun _ => h, by unfold downL; dsimp only; omega⟩
  split
  · rename_i he
    unfold roomL at he ⊢
    split at he
    · rename_i hf
      rw [if_pos hf]
      exact ⟨fun e => absurd e he, fun _ => g1, g3⟩
    · exact absurd rfl he
  · unfold roomL
    split
    · obtain ⟨a1, a2⟩ := g1.app1 gi hq
      exact ⟨a1, a2, g3⟩
    · obtain ⟨a1, a2⟩ := h.app1 hi hq
      exact ⟨a1, a2, by unfold downL; dsimp only; omega⟩
/-! behind a crash -/
theorem crash_find (hi : InvD D) (keep : List Int) {n : ByteArray} {f : FileR} (h : findR D.l n = some f) : ∃ i, findR (crashR D keep).l n = some (crashF keep i f) := by
  obtain ⟨h1, h2⟩ := (findR_some hi.sort).1 h
  obtain ⟨i, hlt, he⟩ := List.getElem_of_mem h1
  refine ⟨i, (findR_some (crashR_inv hi keep).sort).2 ⟨?_, h2⟩⟩
  have : (crashR D keep).l[i]? = some (crashF keep i f) := by
    unfold crashR
    dsimp only
    rw [List.getElem?_mapIdx, List.getElem?_eq_getElem hlt, he]; rfl
  exact List.mem_of_getElem? this
theorem crash_none (keep : List Int) {n : ByteArray} (h : findR D.l n = none) : findR (crashR D keep).l n = none := by
  rw [findR_none] at h ⊢
  intro f hf e
  have hn := crashR_names (D := D) keep
  have : f.name ∈ D.l.map (·.name) := by rw [← hn]; exact List.mem_map.2 ⟨f, hf, rfl⟩
  obtain ⟨f', hf', e2⟩ := List.mem_map.1 this
  exact h f' hf' (by rw [e2, e])
/-- what a disk with power reads -/
theorem readR_there {D : DiskR} {s : ByteArray} {f : FileR} (hd : D.down = false) (hn : okName s = true) (hf : findR D.l s = some f) : readR D s = (f.all, 0) ∧ thereE D s = 0 ∧ fileR D s = f := by
  have hr : thereE D s = 0 := by unfold thereE readyE; simp [hd, hn, hf]
  have hfi : fileR D s = f := by unfold fileR; rw [hf]; rfl
  refine ⟨?_, hr, hfi⟩
  unfold readR
  rw [if_neg (by simp [hr]), hfi]
theorem readR_not {D : DiskR} {s : ByteArray} (hd : D.down = false) (hn : okName s = true) (hf : findR D.l s = none) : (readR D s).2 = 4 := by
  have hr : thereE D s = 4 := by unfold thereE readyE; simp [hd, hn, hf]
  unfold readR
  rw [if_pos (by rw [hr]; decide), hr]
/-- files one behind the other, each read whole -/
theorem openLoop_walk {D : DiskR} (hd : D.down = false) {parts : List (List (List UInt8))} (hok : ∀ q ∈ parts, ∀ p ∈ q, okRec p) (hlen : parts.length < 99999)
    (hf : ∀ (i : Nat) q, parts[i]? = some q → ∃ f, findR D.l (nameB ((i : Int) + 1)) = some f ∧ bl f.all = rowsB q) : ∀ i, i ≤ parts.length →
    ∃ la, openLoop 99999 D 1 1 [] = openLoop (99999 - i) D ((i : Int) + 1) la ((parts.take i).flatten)
  | 0, _ => ⟨1, rfl⟩
  | i + 1, hi => by
    obtain ⟨la, h1⟩ := openLoop_walk hd hok hlen hf i (by omega)
    have hx : parts[i]? = some parts[i] := List.getElem?_eq_getElem (by omega)
    have hm : parts[i] ∈ parts := List.getElem_mem _
    obtain ⟨f, h2, h3⟩ := hf i _ hx
    have htk : (parts.take (i + 1)).flatten = (parts.take i).flatten ++ parts[i] := by rw [List.take_add_one, hx, List.flatten_append]; simp
    generalize parts[i] = q at *
    obtain ⟨h4, -, -⟩ := readR_there hd (nameB_size (k := (i : Int) + 1) (by omega)) h2
    have hsc : scanR (rowsB q) = q := by
      have := scanR_rows (hok q hm) []
      rw [List.append_nil] at this
      rw [this]
      have e0 : scanR ([] : List UInt8) = [] := rfl
      rw [e0, List.append_nil]
    refine ⟨(i : Int) + 1, ?_⟩
    rw [h1, show 99999 - i = (99999 - (i + 1)) + 1 by omega, openLoop, h4]
    dsimp only
    rw [if_neg (by omega), if_neg (by simp), h3, hsc, rowsB_len, if_neg (by omega), htk]
    congr 1
theorem filter_none {α : Type} {p : α → Bool} : ∀ {l : List α}, (∀ x ∈ l, p x = false) → l.filter p = []
  | [], _ => rfl
  | x :: l, h => by rw [List.filter_cons, if_neg (by rw [h x (by simp)]; simp), filter_none fun y hy => h y (by simp [hy])]
theorem segs_none {D : DiskR} {pick : Int → Bool} (h : ∀ f ∈ D.l, pick (numR f.name) = false) : segsR D pick = [] := by
  unfold segsR
  refine filter_none fun x hx => ?_
  obtain ⟨f, hf, rfl⟩ := List.mem_map.1 hx
  exact h f hf
/-- the log of what was put, opened behind a crash -/
theorem PutI.reopen (h : PutI last D.l put safe) (hi : InvD D) (hl : last < 90000) (keep : List Int) (size : Int) :
    (openR (crashR D keep) (L0 1 size)).2.2.2 = 0 ∧ ∃ m, safe ≤ m ∧ m ≤ put.length ∧ (openR (crashR D keep) (L0 1 size)).2.2.1 = put.take m := by
  obtain ⟨parts, cur, h1, h2, h3, h4⟩ := h.seg
  have hl1 := h.last1
  have hok := h.ok
  obtain ⟨C, hC⟩ : ∃ C, C = crashR D keep := ⟨_, rfl⟩
  have hd : C.down = false := by rw [hC]; rfl
  have hCi : InvD C := hC ▸ crashR_inv hi keep
  have hCn : ∀ f ∈ C.l, ∃ k : Int, 1 ≤ k ∧ k ≤ last ∧ f.name = nameB k := fun f hf => by
    have hn := crashR_names (D := D) keep
    rw [← hC] at hn
    have : f.name ∈ D.l.map (·.name) := by rw [← hn]; exact List.mem_map.2 ⟨f, hf, rfl⟩
    obtain ⟨f', hf', e⟩ := List.mem_map.1 this
    obtain ⟨k, g1, g2, g3⟩ := h.names f' hf'
    exact ⟨k, g1, g2, by rw [← e, g3]⟩
  have hnum : ∀ f ∈ C.l, 1 ≤ numR f.name ∧ numR f.name ≤ last := fun f hf => by
    obtain ⟨k, g1, g2, g3⟩ := hCn f hf
    rw [g3, numR_name (by omega)]; exact ⟨g1, g2⟩
  rw [← hC]
  have hseg1 : segsR C (fun k => decide (k < (L0 1 size).first)) = [] := segs_none fun f hf => by
    have := hnum f hf
    exact decide_eq_false (by show ¬ numR f.name < 1; omega)
  have hfu : (100000 - (L0 1 size).first).toNat = 99999 := by show (100000 - (1 : Int)).toNat = 99999; decide
  have hparts : ∀ (i : Nat) q, parts[i]? = some q → ∃ f, findR C.l (nameB ((i : Int) + 1)) = some f ∧ bl f.all = rowsB q := fun i q hq => by
    obtain ⟨s, g1, g2⟩ := h3 i q hq
    obtain ⟨j, g3⟩ := crash_find hi keep g1
    rw [← hC] at g3
    refine ⟨_, g3, ?_⟩
    have hz := keptN_le keep j ⟨nameB ((i : Int) + 1), s, .empty⟩
    have e0 : ByteArray.empty.size = 0 := rfl
    rw [e0] at hz
    have hz0 : keptN keep j ⟨nameB ((i : Int) + 1), s, .empty⟩ = 0 := by omega
    unfold crashF FileR.all
    dsimp only
    rw [hz0, bl_append, bl_append, bl_extract, bl_empty]
    simpa using g2
  obtain ⟨la, hw⟩ := openLoop_walk hd (fun q hq p hp => hok p (by rw [h2]; exact List.mem_append_left _ (List.mem_flatten.2 ⟨q, hq, hp⟩))) (by omega) hparts parts.length (Nat.le_refl _)
  rw [List.take_length] at hw
  have hlast : (parts.length : Int) + 1 = last := h1
  rw [hlast] at hw
  -- the loop's end, and what follows it
  have key : ∀ {E : DiskR} {nx la2 : Int} {all : List (List UInt8)}, openLoop 99999 C 1 1 [] = (E, nx, la2, all, 0) → (∀ f ∈ E.l, ¬ nx ≤ numR f.name) → (openR C (L0 1 size)).2.2.2 = 0 ∧ (openR C (L0 1 size)).2.2.1 = all := fun {E nx la2 all} he hn => by
    have hs2 : segsR E (fun k => decide (nx ≤ k)) = [] := segs_none fun f hf => decide_eq_false (hn f hf)
    unfold openR
    rw [hseg1]
    simp only [removeAll, hfu]
    have he' : openLoop 99999 C (L0 1 size).first (L0 1 size).last [] = (E, nx, la2, all, 0) := he
    rw [he', hs2]
    simp [removeAll]
  have hfs : 99999 - parts.length = (99999 - (parts.length + 1)) + 1 := by omega
  rcases h4 with ⟨h5, h6, h7⟩ | ⟨s, t, j, h5, h6, h7, h8, h9⟩
  · have hn : findR C.l (nameB last) = none := hC ▸ crash_none keep h5
    have hr := readR_not hd (nameB_size hl1) hn
    have he : openLoop 99999 C 1 1 [] = (C, last, la, parts.flatten, 0) := by
      rw [hw, hfs, openLoop, if_pos (.inr hr)]
    obtain ⟨k1, k2⟩ := key he fun f hf hle => by
      obtain ⟨k, g1, g2, g3⟩ := hCn f hf
      rw [g3, numR_name (by omega)] at hle
      have hk : k = last := by omega
      rw [hk] at g3
      exact (findR_none.1 hn) f hf g3
    refine ⟨k1, put.length, ?_, Nat.le_refl _, ?_⟩
    · rw [h2, List.length_append]; omega
    · rw [k2, List.take_length, h2, h6, List.append_nil]
  · obtain ⟨i, g3⟩ := crash_find hi keep h5
    rw [← hC] at g3
    obtain ⟨f, hf⟩ : ∃ f, f = crashF keep i ⟨nameB last, s, t⟩ := ⟨_, rfl⟩
    rw [← hf] at g3
    have hz := keptN_le keep i ⟨nameB last, s, t⟩
    dsimp only at hz
    have hcl : s.size + t.size = lenR cur := by
      rw [← rowsB_len, ← h6, List.length_append, bl_len, bl_len]
    obtain ⟨m, hm⟩ : ∃ m, m = s.size + keptN keep i ⟨nameB last, s, t⟩ := ⟨_, rfl⟩
    have hrow : bl f.all = (rowsB cur).take m := by
      rw [hf]
      unfold crashF FileR.all
      dsimp only
      rw [bl_append, bl_append, bl_extract, bl_empty, List.append_nil, ← h6, hm, ← bl_len s, List.take_length_add_append]
    obtain ⟨j2, k1, k2, k3, k4⟩ := scanR_cut (fun p hp => hok p (by rw [h2]; exact List.mem_append_right _ hp)) (ps := cur) (m := m) (by omega)
    have hrl : (bl f.all).length = m := by rw [hrow, List.length_take, rowsB_len]; omega
    obtain ⟨r1, r2, r3⟩ := readR_there hd (nameB_size hl1) g3
    have hres : ∀ {E : DiskR} {la2 : Int}, openLoop 99999 C 1 1 [] = (E, last + 1, la2, parts.flatten ++ cur.take j2, 0) → (∀ f ∈ E.l, ∃ k : Int, 1 ≤ k ∧ k ≤ last ∧ f.name = nameB k) →
        (openR C (L0 1 size)).2.2.2 = 0 ∧ ∃ m, safe ≤ m ∧ m ≤ put.length ∧ (openR C (L0 1 size)).2.2.1 = put.take m := fun {E la2} he hn => by
      obtain ⟨e1, e2⟩ := key he fun f hf hle => by
        obtain ⟨k, g1, g2, g3⟩ := hn f hf
        rw [g3, numR_name (by omega)] at hle
        omega
      refine ⟨e1, parts.flatten.length + j2, ?_, ?_, ?_⟩
      · have := k4 j h7 (by omega); omega
      · rw [h2, List.length_append]; omega
      · rw [e2, h2, List.take_length_add_append]
    by_cases hcut : lenR (cur.take j2) < m
    · have hcr : (cutR C (nameB last) (lenR (cur.take j2))).2 = 0 ∧ ∀ f ∈ (cutR C (nameB last) (lenR (cur.take j2))).1.l, ∃ k : Int, 1 ≤ k ∧ k ≤ last ∧ f.name = nameB k := by
        have hsz : (f.all.size : Int) = m := by rw [← bl_len, hrl]
        unfold cutR
        rw [if_neg (by simp [r2]), r3, if_neg (by omega)]
        refine ⟨rfl, fun x hx => ?_⟩
        rcases withR_mem.1 hx with rfl | ⟨hx, _⟩
        · exact ⟨last, hl1.1, Int.le_refl _, rfl⟩
        · exact hCn x hx
      refine hres (E := (cutR C (nameB last) (lenR (cur.take j2))).1) (la2 := last) ?_ hcr.2
      rw [hw, hfs, openLoop, r1]
      dsimp only
      rw [if_neg (by omega), if_neg (by simp), hrow, k2, ← hrow, hrl, if_pos hcut, if_neg (by simp [hcr.1])]
    · have hn2 : findR C.l (nameB (last + 1)) = none := by
        rw [findR_none]
        intro x hx e
        obtain ⟨k, g1, g2, g3⟩ := hCn x hx
        rw [g3] at e
        exact name_ne (by omega) (by omega) (by omega) e
      have hr2 := readR_not hd (nameB_size (k := last + 1) (by omega)) hn2
      refine hres (E := C) (la2 := last) ?_ hCn
      rw [hw, hfs, openLoop, r1]
      dsimp only
      rw [if_neg (by omega), if_neg (by simp), hrow, k2, ← hrow, hrl, if_neg hcut, show 99999 - (parts.length + 1) = (99999 - (parts.length + 2)) + 1 by omega, openLoop, if_pos (.inr hr2)]
end Go.Proofs.Ytnlghoenbhbfhaa

/- WalLasts: as a contract. -/
namespace Go.Proofs.Ytnlghoenbhbfhaa
open Go Go.Vm
attribute [local irreducible] Brn Ob Grow CallsM inR LoopVC Mem.row Mem.cells Mem.setCells Mem.upd Go.Vm.Own AppVC SrcVC StrVC NextVC New SrcOk subA NewSl Mem.textAt Mem.mapAt Mem.iterAt entryOf kfind Wr NewEls Elems
set_option maxRecDepth 10000
variable {M : Mem}
theorem str_inj {x y : List UInt8} : ((⟨x.toArray⟩ : ByteArray) = ⟨y.toArray⟩) ↔ x = y := by
  constructor
  · intro h
    have := congrArg (fun b : ByteArray => b.data.toList) h
    simpa using this
  · rintro rfl; rfl
theorem same_ok {a a' : Option Addr} {n n' c c' : Nat} {xs ys : List (List UInt8)} (h : Elems M 1 a n (BytesR M) xs) (h' : Elems M 1 a' n' (BytesR M) ys) (hn : n ≤ 4000000000000) :
    CallsM Try.prog F.ref03_Same [.slice a n c, .slice a' n' c'] M fun v M' => v = .bool (decide (xs = ys)) ∧ M = M' := by
  refine fo_ref03_Same (by simp) ?_
  have hl := h.len
  have hl' := h'.len
  (conv => whnf); refine brn (fun e => ?_) (fun e => ?_)
  · have e1 : n ≠ n' := fun e1 => by rw [e1] at e; simp at e
    repeat' ((conv => whnf); first | refine ⟨?_, True.intro⟩ | refine brn_t rfl ?_ | refine brn_f rfl ?_ | refine ob rfl ?_ | refine ob (by decide) ?_ | refine grow_same (Mem.le_refl _) ?_ | refine ob (Mem.le_refl _) ?_ | refine ⟨_, Mem.le_refl _, ?_⟩ | fail)
    refine ⟨?_, rfl⟩
    rw [decide_eq_false]
    rintro rfl
    exact e1 (hl.symm.trans hl')
  have e1 : n = n' := by have : (n : Int) = n' := by simpa using e
                         omega
  subst e1
  (conv => whnf)
  refine loopQ (σ := Nat) [5] (fun i => [(5, .int .i64 i)]) (fun i => i ≤ n ∧ ∀ j, j < i → xs[j]? = ys[j]?) (fun i => n - i) 0 ⟨by omega, by omega⟩ ⟨(by repeat' first | exact True.intro | refine ⟨rfl, ?_⟩), (by repeat' first | exact True.intro | refine ⟨rfl, ?_⟩), Mem.le_refl _, rfl⟩ ?_
  rintro i ⟨hi, hall⟩
  (conv => whnf); refine brn (fun e => ?_) (fun e => ?_)
  · have hlt : i < n := by have := of_decide_eq_true e; omega
    obtain ⟨k1, b1, o1, cs1, e1, -, hr1, -, p1, m1, q1, rfl, -, hs1⟩ := h.at (by decide) hlt
    obtain ⟨k2, b2, o2, cs2, e2, -, hr2, -, p2, m2, q2, rfl, -, hs2⟩ := h'.at (by decide) hlt
    have hx : xs[i]? = some xs[i] := List.getElem?_eq_getElem k1
    have hy : ys[i]? = some ys[i] := List.getElem?_eq_getElem k2
    generalize xs[i] = x at *
    generalize ys[i] = y at *
    (conv => whnf); refine ob (by first | omega | (dsimp only; omega)) ?_
    (conv => whnf); refine atp e1 ?_
    (conv => whnf); refine on hr1 ?_
    (conv => whnf); refine strv hs1 ?_
    (conv => whnf); refine ob (by first | omega | (dsimp only; omega)) ?_
    (conv => whnf); refine atp e2 ?_
    (conv => whnf); refine on hr2 ?_
    (conv => whnf); refine strv hs2 ?_
    (conv => whnf); refine brn (fun e => ?_) (fun e => ?_)
    · have e3 : x ≠ y := fun e3 => by subst e3; simp at e
      repeat' ((conv => whnf); first | refine ⟨?_, True.intro⟩ | refine brn_t rfl ?_ | refine brn_f rfl ?_ | refine ob rfl ?_ | refine ob (by decide) ?_ | refine grow_same (Mem.le_refl _) ?_ | refine ob (Mem.le_refl _) ?_ | refine ⟨_, Mem.le_refl _, ?_⟩ | fail)
      refine ⟨?_, rfl⟩
      rw [decide_eq_false]
      rintro rfl
      rw [hx] at hy; cases hy; exact e3 rfl
    · have e3 : x = y := str_inj.1 (by simpa using e)
      subst e3
      repeat' ((conv => whnf); first | refine ⟨?_, True.intro⟩ | refine brn_t rfl ?_ | refine brn_f rfl ?_ | refine ob rfl ?_ | refine ob (by decide) ?_ | refine grow_same (Mem.le_refl _) ?_ | refine ob (Mem.le_refl _) ?_ | refine ⟨_, Mem.le_refl _, ?_⟩ | fail)
      refine ob (inR_i64 (by first | omega | (dsimp only; omega))) ?_
      (conv => whnf)
      refine ⟨i + 1, ⟨by omega, fun j hj => ?_⟩, by omega, ⟨(by repeat' first | exact True.intro | refine ⟨rfl, ?_⟩), (by repeat' first | exact True.intro | refine ⟨rfl, ?_⟩), Mem.le_refl _, rfl⟩⟩
      by_cases ej : j = i
      · subst ej; rw [hx, hy]
      · exact hall j (by omega)
  · have hge : i = n := by have := of_decide_eq_false e; omega
    subst hge
    repeat' ((conv => whnf); first | refine ⟨?_, True.intro⟩ | refine brn_t rfl ?_ | refine brn_f rfl ?_ | refine ob rfl ?_ | refine ob (by decide) ?_ | refine grow_same (Mem.le_refl _) ?_ | refine ob (Mem.le_refl _) ?_ | refine ⟨_, Mem.le_refl _, ?_⟩ | fail)
    refine ⟨?_, rfl⟩
    rw [decide_eq_true]
    apply List.ext_getElem?
    intro j
    by_cases hj : j < i
    · exact hall j hj
    · rw [List.getElem?_eq_none (by omega), List.getElem?_eq_none (by omega)]
/-- one more element of a row; the blocks of S are none of it -/
theorem appS {α : Type} {M0 Z : Mem} {S : Nat → Prop} {E : TypeId} {bytes : Nat} {a : Option Addr} {n c : Nat} {R : List Value → α → Prop} {l : List α} (h : NewEls M0 E 1 a n c R l Z) (hZ : Z.le M) (hS1 : ∀ y, S y → Z y = none) (hS2 : ∀ y, S y → M y ≠ none)
    (v : Value) (x : α) (hx : R [v] x) (hv : v.oneCell' = true) {k : Option Addr → Nat → Mem → Prop} (h1 : (n + 1) * bytes ≤ 140737488355328) (h2 : n + 1 ≤ maxLen)
    (hk : ∀ a' c' M', NewEls M0 E 1 a' (n + 1) c' R (l ++ [x]) (M'.minus S) → Mem.keep (blk a) M M' → (∀ y, blk a y → M0 y = none ∧ ¬ S y) → k a' c' M') : AppVC E 1 bytes a n c 1 [v] M k := by
  unfold NewEls at h
  obtain ⟨css, s1, l1, m1, u1, r1⟩ := h
  have hblk : ∀ y, blk a y → M0 y = none ∧ ¬ S y := fun y ⟨q, hq, e⟩ => by
    obtain ⟨h3, cs, h4⟩ := s1.block hq
    rw [e] at h3 h4
    refine ⟨h3, fun hs => ?_⟩
    have := hS1 y hs
    unfold Mem.has at h4; rw [h4] at this; cases this
  have hm0 : M0.le (M.minus (blk a)) := Mem.le_minus (Mem.le_trans s1.le hZ) fun y hy => (hblk y hy).1
  refine appK (M.minus (blk a)) _ (s1.rebase hZ) h1 h2 (fun u hu => by simp at hu; subst hu; exact hv) fun a' c' M' hN hkp => ?_
  have hold : ∀ y o, Z y = some o → ¬ blk a y → (M'.minus S) y = some o := fun y o hy hny => by
    unfold Mem.minus
    rw [if_neg fun hs => by rw [hS1 y hs] at hy; cases hy]
    exact hkp y o hny (hZ y o hy)
  have hN2 : NewSl M0 E 1 a' (n + 1) c' (css.flatten ++ [v]) (M'.minus S) := by
    obtain ⟨w0, w1, w2, w3⟩ := newSl_iff.1 hN
    refine newSl_iff.2 ⟨fun y o hy => ?_, w1, w2, w3.imp id fun ⟨b1, cs, ha, hb1, hh, hr⟩ => ⟨b1, cs, ha, ?_, ?_, hr⟩⟩
    · exact hold y o (s1.le y o hy) fun hbl => by rw [(hblk y hbl).1] at hy; cases hy
    · cases e : M0 b1 with
      | none => rfl
      | some o => rw [hm0 b1 o e] at hb1; cases hb1
    · unfold Mem.has at hh ⊢
      unfold Mem.minus
      rw [if_neg fun hs => ?_]
      · exact hh
      · rcases Classical.em (blk a b1) with hbl | hbl
        · exact (hblk b1 hbl).2 hs
        · unfold Mem.minus at hb1
          rw [if_neg hbl] at hb1
          exact hS2 b1 hs hb1
  refine hk a' c' M' ?_ hkp hblk
  unfold NewEls
  refine ⟨css ++ [[v]], by rw [List.flatten_append]; simpa using hN2, by simp [l1], by simp [m1], fun cs hcs => ?_, fun i cs y hi hy => ?_⟩
  · rcases List.mem_append.1 hcs with hcs | hcs
    · exact u1 cs hcs
    · simp at hcs; subst hcs; rfl
  · by_cases hlt : i < css.length
    · rw [List.getElem?_append_left hlt] at hi
      rw [List.getElem?_append_left (by omega)] at hy
      exact r1 i cs y hi hy
    · rw [List.getElem?_append_right (by omega)] at hi
      rw [List.getElem?_append_right (by omega)] at hy
      have hi0 := (List.getElem?_eq_some_iff.1 hi).1
      simp at hi0
      rw [show i - css.length = 0 by omega] at hi
      rw [show i - l.length = 0 by omega] at hy
      simp at hi hy
      subst hi; subst hy
      exact hx
theorem may_okW (size : Int) : CallsM Try.prog F.law12_may [.int .i64 size] M fun v M' => v = .bool (decide (16 ≤ size ∧ size ≤ 1048576)) ∧ M = M' := by
  refine fo_law12_may (by simp) ?_
  (conv => whnf); refine brn (fun e => ?_) (fun e => ?_)
  · repeat' ((conv => whnf); first | refine ⟨?_, True.intro⟩ | refine brn_t rfl ?_ | refine brn_f rfl ?_ | refine ob rfl ?_ | refine ob (by decide) ?_ | refine grow_same (Mem.le_refl _) ?_ | refine ob (Mem.le_refl _) ?_ | refine ⟨_, Mem.le_refl _, ?_⟩ | fail)
    refine ⟨?_, rfl⟩
    have e1 := of_decide_eq_true e
    congr 1
    simp [e1]
  · repeat' ((conv => whnf); first | refine ⟨?_, True.intro⟩ | refine brn_t rfl ?_ | refine brn_f rfl ?_ | refine ob rfl ?_ | refine ob (by decide) ?_ | refine grow_same (Mem.le_refl _) ?_ | refine ob (Mem.le_refl _) ?_ | refine ⟨_, Mem.le_refl _, ?_⟩ | fail)
    refine ⟨?_, rfl⟩
    have e1 := of_decide_eq_false e
    congr 1
    simp [e1]
def D0 : DiskR := ⟨1048576, [], -1, false⟩
theorem open0 (size : Int) : openR D0 (L0 1 size) = (D0, L0 1 size, [], 0) := by
  have h : openLoop 99999 D0 1 1 [] = (D0, 1, 1, [], 0) := by kernel_rfl
  unfold openR
  have e1 : removeAll D0 (segsR D0 fun k => decide (k < (L0 1 size).first)) = (D0, 0) := rfl
  have e2 : (100000 - (L0 1 size).first).toNat = 99999 := by show (100000 - (1 : Int)).toNat = 99999; decide
  have h' : openLoop 99999 D0 (L0 1 size).first (L0 1 size).last [] = (D0, 1, 1, [], 0) := h
  rw [e1]
  dsimp only
  rw [if_neg (by simp), e2, h']
  dsimp only
  rw [if_neg (by simp)]
  rfl
theorem begin_okW (size : Int) : CallsM Try.prog F.law12_begin [.int .i64 size] M fun v M' =>
    (¬ (16 ≤ size ∧ size ≤ 1048576) ∧ v = .tuple #[.pointer none, .pointer none] ∧ M.le M') ∨
    ((16 ≤ size ∧ size ≤ 1048576) ∧ ∃ p b g es, v = .tuple #[ptr p, ptr g] ∧ LogAt M M' g p b D0 es (L0 1 size)) := by
  refine fo_law12_begin (by simp) ?_
  (conv => whnf); refine (newF 1048576).mono ?_
  rintro v M1 (⟨h, -⟩ | ⟨-, p, b, rfl, h1⟩)
  · omega
  repeat' ((conv => whnf); first | refine ⟨?_, True.intro⟩ | refine brn_t rfl ?_ | refine brn_f rfl ?_ | refine ob rfl ?_ | refine ob (by decide) ?_ | refine grow_same (Mem.le_refl _) ?_ | refine ob (Mem.le_refl _) ?_ | refine ⟨_, Mem.le_refl _, ?_⟩ | fail)
  refine (Open_ok h1 NamesW.nil 1 size).mono ?_
  unfold OpenOut
  have ho : openR ⟨1048576, [], -1, false⟩ (L0 1 size) = (D0, L0 1 size, [], 0) := open0 size
  rw [ho]
  rintro v M2 (⟨hs, rfl, es2, h2⟩ | ⟨-, h, -⟩ | ⟨-, -, h, -⟩ | ⟨hs, -, -, g, es2, a2, n2, c2, rfl, h2, -⟩)
  · repeat' ((conv => whnf); first | refine ⟨?_, True.intro⟩ | refine brn_t rfl ?_ | refine brn_f rfl ?_ | refine ob rfl ?_ | refine ob (by decide) ?_ | refine grow_same (Mem.le_refl _) ?_ | refine ob (Mem.le_refl _) ?_ | refine ⟨_, Mem.le_refl _, ?_⟩ | fail)
    exact .inl ⟨by omega, rfl, h2.le⟩
  · cases h
  · exact absurd rfl h
  · repeat' ((conv => whnf); first | refine ⟨?_, True.intro⟩ | refine brn_t rfl ?_ | refine brn_f rfl ?_ | refine ob rfl ?_ | refine ob (by decide) ?_ | refine grow_same (Mem.le_refl _) ?_ | refine ob (Mem.le_refl _) ?_ | refine ⟨_, Mem.le_refl _, ?_⟩ | fail)
    exact .inr ⟨by omega, p, b, g, es2, rfl, h2⟩
end Go.Proofs.Ytnlghoenbhbfhaa

