/- Tables of ways: the table and the document's table say the same (plain law). -/
import Derived.Test.YtankgacaeejlhaaRoutesT
namespace Go.Proofs.Ytankgacaeejlhaa
open Go Go.Vm
set_option linter.unusedSectionVars false
/-- a table and the document's table -/
structure SameT (nb : List Int) (st : List (Int × Int)) (m : List (Int × Hd)) (sr : List (Int × Int)) (lr : List (Int × Hd)) : Prop where
  set : ∀ d, aget st d = aget sr d
  hrd : ∀ x, aget m x = aget lr x
  nodup : (m.map (·.1)).Nodup
  sorted : lr.Pairwise (fun x y => x.1 < y.1)
  good : GoodM m
  left : GoodL m
  keys : ∀ x h, aget m x = some h → x ∈ nb
  vias : ∀ d v, aget st d = some v → v ∈ nb
variable {nb : List Int} {st : List (Int × Int)} {m : List (Int × Hd)} {sr : List (Int × Int)} {lr : List (Int × Hd)}
theorem sorted_nodup (h : lr.Pairwise (fun x y => x.1 < y.1)) : (lr.map (·.1)).Nodup := by
  rw [List.Nodup, List.pairwise_map]
  exact h.imp fun hlt e => by omega
theorem SameT.goodR (h : SameT nb st m sr lr) : GoodM lr := fun k x hk => h.good k x (by rw [h.hrd]; exact hk)
theorem SameT.leftR (h : SameT nb st m sr lr) : ∀ x ∈ lr, 1 ≤ x.2.left ∧ x.2.left ≤ 64 := fun x hx => h.left x.1 x.2 (by rw [h.hrd]; exact aget_of_mem (sorted_nodup h.sorted) hx)
theorem SameT.byC (h : SameT nb st m sr lr) (d x : Int) : byC m d x = byC lr d x := by unfold Proofs.Ytankgacaeejlhaa.byC; rw [h.hrd]
theorem okNb_node {me : Int} : ∀ {l : List Int} {last : Int}, okNb me last l = true → ∀ x ∈ l, isNode x = true ∧ x ≠ me ∧ last < x
  | [], _, _ => by simp
  | y :: r, last, h => by
    simp only [okNb, Bool.and_eq_true] at h
    obtain ⟨⟨⟨h1, h2⟩, h3⟩, h4⟩ := h
    intro x hx
    have h3' : last < y := by simpa using h3
    rcases List.mem_cons.1 hx with rfl | hx
    · exact ⟨h1, by simpa using h2, h3'⟩
    · obtain ⟨k1, k2, k3⟩ := okNb_node h4 x hx
      exact ⟨k1, k2, by omega⟩
theorem foldmin_le (f : Int → Int) : ∀ (l : List Int) (a : Int), l.foldl (fun x k => min x (f k)) a ≤ a ∧ ∀ k ∈ l, l.foldl (fun x k => min x (f k)) a ≤ f k
  | [], a => by simp
  | y :: r, a => by
    obtain ⟨h1, h2⟩ := foldmin_le f r (min a (f y))
    simp only [List.foldl_cons]
    refine ⟨by omega, fun k hk => ?_⟩
    rcases List.mem_cons.1 hk with rfl | hk
    · omega
    · exact h2 k hk
theorem foldmin_att (f : Int → Int) : ∀ (l : List Int) (a : Int), l.foldl (fun x k => min x (f k)) a = a ∨ ∃ k ∈ l, l.foldl (fun x k => min x (f k)) a = f k
  | [], a => .inl rfl
  | y :: r, a => by
    simp only [List.foldl_cons]
    rcases foldmin_att f r (min a (f y)) with h | ⟨k, hk, h⟩
    · by_cases e : a ≤ f y
      · left; omega
      · right; exact ⟨y, by simp, by omega⟩
    · right; exact ⟨k, List.mem_cons_of_mem _ hk, h⟩
theorem lstN_le (l : List (Int × Hd)) (d : Int) {nb : List Int} {k : Int} (hk : k ∈ nb) : lstN l d nb ≤ byC l d k := (foldmin_le _ nb 16).2 k hk
theorem lstN_att (l : List (Int × Hd)) (d : Int) (nb : List Int) : lstN l d nb = 16 ∨ ∃ k ∈ nb, lstN l d nb = byC l d k := foldmin_att _ nb 16
theorem lst_le' {d x : Int} {h : Hd} {l : List (Int × Hd)} (hm : (x, h) ∈ l) : lst d l ≤ min 16 (h.c d.toNat + 1) := by
  induction l with
  | nil => cases hm
  | cons q l ih =>
    simp only [lst, List.foldr_cons] at ih ⊢
    rcases List.mem_cons.1 hm with rfl | hm
    · dsimp only; omega
    · have := ih hm; omega
theorem lst_att' {d : Int} {l : List (Int × Hd)} (hl : lst d l < 16) : ∃ x h, (x, h) ∈ l ∧ lst d l = h.c d.toNat + 1 := by
  induction l with
  | nil => simp [lst] at hl
  | cons q l ih =>
    obtain ⟨x, h⟩ := q
    simp only [lst, List.foldr_cons] at ih hl ⊢
    by_cases hc : h.c d.toNat + 1 ≤ l.foldr (fun q x => min (min 16 (q.2.c d.toNat + 1)) x) 16
    · exact ⟨x, h, by simp, by omega⟩
    · obtain ⟨x', h', hm, e⟩ := ih (by omega)
      exact ⟨x', h', List.mem_cons_of_mem _ hm, by omega⟩
theorem SameT.lst (h : SameT nb st m sr lr) (d : Int) : lst d m = lstN lr d nb := by
  apply Int.le_antisymm
  · rcases lstN_att lr d nb with e | ⟨k, hk, e⟩
    · rw [e]; exact lst_top d m
    · rw [e, ← h.byC]
      unfold Proofs.Ytankgacaeejlhaa.byC
      cases ek : aget m k with
      | none => exact lst_top d m
      | some x => exact lst_le' (aget_mem ek)
  · by_cases hc : Proofs.Ytankgacaeejlhaa.lst d m < 16
    · obtain ⟨x, y, hm, e⟩ := lst_att' hc
      have hx := aget_of_mem h.nodup hm
      have := lstN_le lr d (h.keys x y hx)
      rw [← h.byC] at this
      simp only [Proofs.Ytankgacaeejlhaa.byC, hx] at this
      omega
    · have := (foldmin_le (Proofs.Ytankgacaeejlhaa.byC lr d) nb 16).1
      have h2 : lstN lr d nb ≤ 16 := this
      have := lst_top d m
      omega
variable {me : Int}
theorem SameT.via (h : SameT nb st m sr lr) (hok : okNb me (-1) nb = true) (d : Int) : (aget st d = none ∧ viaR sr d = -1) ∨ ∃ v, aget st d = some v ∧ viaR sr d = v ∧ 0 ≤ v := by
  unfold viaR
  rw [← h.set]
  cases e : aget st d with
  | none => exact .inl ⟨rfl, rfl⟩
  | some v =>
    have := (okNb_node hok v (h.vias d v e)).1
    have : 0 ≤ v ∧ v < 64 := by simpa [isNode] using this
    exact .inr ⟨v, rfl, rfl, this.1⟩
theorem SameT.cost (h : SameT nb st m sr lr) (hok : okNb me (-1) nb = true) (d : Int) : costOf me st m d = costR me nb sr lr d := by
  unfold costOf costR
  rcases h.via hok d with ⟨h1, h2⟩ | ⟨v, h1, h2, h3⟩
  · rw [h1, h2, if_neg (show ¬ (0 : Int) ≤ -1 by omega), h.lst]
  · rw [h1, h2, if_pos h3]
    simp only [h.byC]
theorem SameT.next (h : SameT nb st m sr lr) (hok : okNb me (-1) nb = true) (d : Int) : nextOf me nb st m d = nextR me nb sr lr d := by
  unfold nextOf nextR
  rcases h.via hok d with ⟨h1, h2⟩ | ⟨v, h1, h2, h3⟩
  · rw [h1, h2, if_neg (show ¬ (0 : Int) ≤ -1 by omega)]
    have hc := h.cost hok d
    by_cases e : costOf me st m d < 16
    · rw [if_pos e]
      dsimp only
      congr 2
      funext k
      rw [h.byC, hc]
      by_cases e2 : Proofs.Ytankgacaeejlhaa.byC lr d k = costR me nb sr lr d
      · rw [e2]; simp; omega
      · simp [e2]
    · rw [if_neg e]
      split
      · symm
        rw [List.find?_eq_none]
        intro k _ hk
        simp at hk
        omega
      · rfl
  · rw [h1, h2, if_pos h3]
theorem SameT.vec (h : SameT nb st m sr lr) (hok : okNb me (-1) nb = true) (to d : Int) : vecOf me nb st m to d = vecR me nb sr lr to d := by
  unfold vecOf vecR
  rw [h.next hok, h.cost hok]
theorem optT_eq (o : Option Int) : optT o = optT' o := by cases o <;> rfl
theorem SameT.heard (h : SameT nb st m sr lr) : sortedI (m.map (·.1)) = lr.map (·.1) := by
  have hp : (m.map (·.1)).Perm (lr.map (·.1)) := by
    rw [List.perm_ext_iff_of_nodup h.nodup (sorted_nodup h.sorted)]
    intro x
    constructor
    · intro hx
      apply Classical.byContradiction
      intro hn
      have := aget_none.2 hn
      rw [← h.hrd] at this
      exact (aget_none.1 this) hx
    · intro hx
      apply Classical.byContradiction
      intro hn
      have := aget_none.2 hn
      rw [h.hrd] at this
      exact (aget_none.1 this) hx
  refine List.Perm.eq_of_pairwise (le := (· ≤ ·)) (fun x y _ _ h1 h2 => Int.le_antisymm h1 h2) (sortedI_sorted _) ?_ ((sortedI_perm _).trans hp)
  rw [List.pairwise_map]
  exact h.sorted.imp fun hlt => by omega
theorem SameT.len (h : SameT nb st m sr lr) : m.length = lr.length := by
  have := congrArg List.length h.heard
  rw [(sortedI_perm _).length_eq] at this
  simpa using this
theorem SameT.start : SameT nb [] [] [] [] := ⟨fun _ => rfl, fun _ => rfl, by simp, by simp, GoodM.nil, fun k h hk => (by cases hk), fun x h hk => (by cases hk), fun d v hk => (by cases hk)⟩
theorem aget_setR (d x i : Int) : aget (setR sr d x) i = if i = d then (if x = -1 then none else some x) else aget sr i := by
  unfold setR
  rw [aget_append, aget_adel]
  by_cases e : i = d
  · subst e
    rw [if_pos rfl, if_pos rfl]
    split <;> simp [aget]
  · rw [if_neg e, if_neg e]
    split
    · simp [aget]
    · simp only [aget]
      rw [if_neg (fun h => e h.symm)]
      simp
theorem SameT.setTo (h : SameT nb st m sr lr) {d x : Int} (he : setE me nb d x = 0) : SameT nb (setS st d x) m (setR sr d x) lr := by
  have hx : x ≠ -1 → x ∈ nb := fun hne => by
    unfold setE at he
    split at he
    · split at he
      · cases he
      · split at he
        · assumption
        · cases he
    · cases he
  have hs : ∀ i, aget (setS st d x) i = if i = d then (if x = -1 then none else some x) else aget st i := fun i => by
    unfold setS
    split
    · rw [aget_adel]
    · rw [aget_aput]
  refine ⟨fun i => ?_, h.hrd, h.nodup, h.sorted, h.good, h.left, h.keys, fun i v hv => ?_⟩
  · rw [hs, aget_setR, h.set]
  · rw [hs] at hv
    split at hv
    · split at hv
      · cases hv
      · cases hv; exact hx ‹_›
    · exact h.vias i v hv
theorem aget_insH (x : Int) (h : Hd) (i : Int) : ∀ l : List (Int × Hd), aget (insH x h l) i = if i = x then some h else aget l i
  | [] => by
    simp only [insH, aget]
    by_cases e : i = x
    · simp [e]
    · rw [if_neg (fun e' => e e'.symm), if_neg e]
  | y :: r => by
    have ih := aget_insH x h i r
    simp only [insH]
    split
    · rename_i e
      rw [ih]
      by_cases e2 : i = x
      · simp [e2]
      · rw [if_neg e2, if_neg e2]
        obtain ⟨y1, y2⟩ := y
        simp only [aget]
        rw [if_neg (fun e3 => e2 (e3.symm.trans e))]
    · rename_i e
      obtain ⟨y1, y2⟩ := y
      simp only at e
      split
      · simp only [aget, aget_adel]
        by_cases e2 : i = x
        · simp [e2]
        · rw [if_neg (fun e' => e2 e'.symm), if_neg e2, if_neg e2]
      · simp only [aget, ih]
        by_cases e2 : i = x
        · subst e2; rw [if_neg e, if_pos rfl, if_pos rfl]
        · rw [if_neg e2, if_neg e2]
theorem insH_mem {x : Int} {h : Hd} {z : Int × Hd} : ∀ {l : List (Int × Hd)}, z ∈ insH x h l → z = (x, h) ∨ (z ∈ l ∧ z.1 ≠ x)
  | [], hz => by simp [insH] at hz; exact .inl hz
  | y :: r, hz => by
    simp only [insH] at hz
    split at hz
    · rcases insH_mem hz with h1 | ⟨h1, h2⟩
      · exact .inl h1
      · exact .inr ⟨List.mem_cons_of_mem _ h1, h2⟩
    · rename_i e
      split at hz
      · rcases List.mem_cons.1 hz with h1 | hz
        · exact .inl h1
        · rcases List.mem_cons.1 hz with rfl | hz
          · exact .inr ⟨by simp, e⟩
          · have := List.mem_filter.1 hz
            exact .inr ⟨List.mem_cons_of_mem _ this.1, by simpa using this.2⟩
      · rcases List.mem_cons.1 hz with rfl | hz
        · exact .inr ⟨by simp, e⟩
        · rcases insH_mem hz with h1 | ⟨h1, h2⟩
          · exact .inl h1
          · exact .inr ⟨List.mem_cons_of_mem _ h1, h2⟩
theorem insH_sorted (x : Int) (h : Hd) : ∀ {l : List (Int × Hd)}, l.Pairwise (fun x y => x.1 < y.1) → (insH x h l).Pairwise (fun x y => x.1 < y.1)
  | [], _ => by simp [insH]
  | y :: r, hp => by
    have hp' := List.pairwise_cons.1 hp
    simp only [insH]
    split
    · exact insH_sorted x h hp'.2
    · rename_i e
      split
      · rename_i hlt
        refine List.pairwise_cons.2 ⟨fun z hz => ?_, List.pairwise_cons.2 ⟨fun z hz => hp'.1 z (List.mem_filter.1 hz).1, hp'.2.sublist List.filter_sublist⟩⟩
        rcases List.mem_cons.1 hz with rfl | hz
        · exact hlt
        · have := hp'.1 z (List.mem_filter.1 hz).1; dsimp only; omega
      · rename_i hlt
        refine List.pairwise_cons.2 ⟨fun z hz => ?_, insH_sorted x h hp'.2⟩
        rcases insH_mem hz with rfl | ⟨h1, _⟩
        · dsimp only; omega
        · exact hp'.1 z h1
theorem SameT.hear (h : SameT nb st m sr lr) {x : Int} (hx : x ∈ nb) {l : List Int} {hd : Hd} (hr : rightC l = true) (hc : ∀ i, i < 64 → l[i]? = some (hd.c i)) (hl : 1 ≤ hd.left ∧ hd.left ≤ 64) : SameT nb st (aput m x hd) sr (insH x hd lr) := by
  refine ⟨h.set, fun i => ?_, aput_nodup h.nodup _ _, insH_sorted x hd h.sorted, h.good.put hr hc, fun k y hk => ?_, fun k y hk => ?_, h.vias⟩
  · rw [aget_aput, aget_insH, h.hrd]
  · rw [aget_aput] at hk
    split at hk
    · cases hk; exact hl
    · exact h.left k y hk
  · rw [aget_aput] at hk
    split at hk
    · rename_i e; subst e; exact hx
    · exact h.keys k y hk
theorem aget_tickL (i : Int) : ∀ {l : List (Int × Hd)}, (∀ x ∈ l, 1 ≤ x.2.left) → (l.map (·.1)).Nodup → aget (tickL l) i = tickO (aget l i)
  | [], _, _ => rfl
  | y :: r, hl, hn => by
    obtain ⟨y1, y2⟩ := y
    have hl1 := hl (y1, y2) (by simp)
    simp only [List.map_cons, List.nodup_cons] at hn
    have ih := aget_tickL i (l := r) (fun x hx => hl x (List.mem_cons_of_mem _ hx)) hn.2
    simp only [tickL, List.filterMap_cons, aget] at ih ⊢
    by_cases e : y1 = i
    · subst e
      rw [if_pos rfl]
      by_cases e2 : 1 < y2.left
      · simp only at hl1
        simp only [if_pos e2, aget, tickO, if_true]
        rw [if_neg (by omega)]
      · simp only at hl1
        simp only [if_neg e2, tickO]
        rw [ih, if_pos (by omega), aget_none.2 hn.1]; rfl
    · rw [if_neg e]
      by_cases e2 : 1 < y2.left
      · simp only [if_pos e2, aget, if_neg e]; exact ih
      · simp only [if_neg e2]; exact ih
theorem SameT.tick (h : SameT nb st m sr lr) {m' : List (Int × Hd)} (hm : ∀ k, aget m' k = tickO (aget m k)) (hn : (m'.map (·.1)).Nodup) : SameT nb st m' sr (tickL lr) := by
  have hk : ∀ k y, aget m' k = some y → ∃ z, aget m k = some z ∧ y = ⟨z.c, z.left - 1⟩ ∧ z.left ≠ 1 := fun k y hy => by
    rw [hm] at hy
    cases e : aget m k with
    | none => rw [e] at hy; cases hy
    | some z =>
      rw [e] at hy
      simp only [tickO] at hy
      split at hy
      · cases hy
      · cases hy; exact ⟨z, rfl, rfl, ‹_›⟩
  refine ⟨h.set, fun i => ?_, hn, ?_, fun k y hy i hi => ?_, fun k y hy => ?_, fun k y hy => ?_, h.vias⟩
  · rw [hm, aget_tickL i (fun x hx => (h.leftR x hx).1) (sorted_nodup h.sorted), h.hrd]
  · unfold tickL
    rw [List.pairwise_filterMap]
    refine h.sorted.imp fun hlt b hb b' hb' => ?_
    split at hb
    · split at hb'
      · cases hb; cases hb'; exact hlt
      · cases hb'
    · cases hb
  · obtain ⟨z, hz, rfl, _⟩ := hk k y hy
    exact h.good k z hz i hi
  · obtain ⟨z, hz, rfl, hne⟩ := hk k y hy
    have := h.left k z hz
    dsimp only; omega
  · obtain ⟨z, hz, _⟩ := hk k y hy
    exact h.keys k z hz
end Go.Proofs.Ytankgacaeejlhaa
