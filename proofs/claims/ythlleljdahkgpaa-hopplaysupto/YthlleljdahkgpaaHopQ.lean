/- Desks, plainly: the program's map and the document's list in order. -/
import Derived.Test.YthlleljdahkgpaaHopL
namespace Go.Proofs.Ythlleljdahkgpaa
open Go Go.Vm
abbrev KL := List (Id × Known)
def SortedK (L : KL) : Prop := (L.map (·.1)).Pairwise fun x y => ltId x y = true
theorem SortedK.nodup {L : KL} (h : SortedK L) : (L.map (·.1)).Nodup := h.imp fun {x y} hxy e => by subst e; exact ltId_irr _ hxy
structure RelD (m L : KL) : Prop where
  nd : (m.map (·.1)).Nodup
  sort : SortedK L
  same : ∀ i, aget m i = aget L i
theorem RelD.nil : RelD [] [] := ⟨by simp, by simp [SortedK], fun _ => rfl⟩
def withoutL (L : KL) (i : Id) : KL := L.filter fun x => decide (x.1 ≠ i)
theorem aget_cons (x : Id × Known) (L : KL) (i : Id) : aget (x :: L) i = if x.1 = i then some x.2 else aget L i := by
  obtain ⟨j, k⟩ := x
  simp only [aget]
theorem aget_without (L : KL) (i j : Id) : aget (withoutL L i) j = if j = i then none else aget L j := by
  induction L with
  | nil => simp [withoutL, aget]
  | cons x r ih =>
    unfold withoutL at ih ⊢
    rw [List.filter_cons]
    split
    · rename_i h
      have h := of_decide_eq_true h
      rw [aget_cons, aget_cons, ih]
      split
      · rename_i e; subst e; rw [if_neg h]
      · rfl
    · rename_i h
      have h : x.1 = i := by simpa using h
      rw [ih, aget_cons]
      split
      · rfl
      · rename_i e; rw [if_neg (fun e' => e (by rw [← e', h] ))]
theorem without_sorted {L : KL} (h : SortedK L) (i : Id) : SortedK (withoutL L i) := h.sublist (List.Sublist.map _ List.filter_sublist)
theorem without_key {L : KL} {i : Id} {x : Id × Known} (h : x ∈ withoutL L i) : x ∈ L ∧ x.1 ≠ i := by
  unfold withoutL at h
  obtain ⟨h1, h2⟩ := List.mem_filter.1 h
  exact ⟨h1, of_decide_eq_true h2⟩
theorem RelD.without {m L : KL} (h : RelD m L) (i : Id) {m' : KL} (hn : (m'.map (·.1)).Nodup) (hm : ∀ j, aget m' j = if j = i then none else aget m j) : RelD m' (withoutL L i) :=
  ⟨hn, without_sorted h.sort i, fun j => by rw [hm, aget_without, h.same]⟩
/-- one thing put in its place -/
def insL (x : Id × Known) : Bool → KL → KL
  | dn, [] => if dn then [] else [x]
  | dn, y :: r => if dn = false ∧ ltId x.1 y.1 = true then x :: y :: insL x true r else y :: insL x dn r
theorem insL_true (x : Id × Known) : ∀ L : KL, insL x true L = L
  | [] => rfl
  | y :: r => by rw [insL, if_neg (by simp), insL_true x r]
@[reducible] def withL (L : KL) (x : Id × Known) : KL := insL x false (withoutL L x.1)
theorem insL_mem (x : Id × Known) : ∀ (L : KL) (y : Id × Known), y ∈ insL x false L ↔ y = x ∨ y ∈ L
  | [], y => by simp [insL]
  | z :: r, y => by
    rw [insL]
    split
    · rw [insL_true]; simp
    · simp only [List.mem_cons, insL_mem x r y]
      constructor
      · rintro (h | h | h) <;> simp [h]
      · rintro (h | h | h) <;> simp [h]
theorem insL_sorted {x : Id × Known} : ∀ {L : KL}, SortedK L → (∀ y ∈ L, y.1 ≠ x.1) → SortedK (insL x false L)
  | [], _, _ => by simp [insL, SortedK]
  | z :: r, h, hne => by
    unfold SortedK at h
    rw [List.map_cons, List.pairwise_cons] at h
    rw [insL]
    split
    · rename_i g
      rw [insL_true]
      unfold SortedK
      simp only [List.map_cons, List.pairwise_cons]
      refine ⟨fun y hy => ?_, h.1, h.2⟩
      rcases List.mem_cons.1 hy with rfl | hy
      · exact g.2
      · exact ltId_trans g.2 (h.1 y hy)
    · rename_i g
      unfold SortedK
      rw [List.map_cons, List.pairwise_cons]
      refine ⟨fun y hy => ?_, insL_sorted (L := r) h.2 fun y hy => hne y (by simp [hy])⟩
      obtain ⟨w, hw, rfl⟩ := List.mem_map.1 hy
      rcases (insL_mem x r w).1 hw with rfl | hw
      · exact (ltId_tri (hne z (by simp))).resolve_right fun h' => g ⟨rfl, h'⟩
      · exact h.1 _ (List.mem_map.2 ⟨w, hw, rfl⟩)
theorem aget_ins {x : Id × Known} : ∀ {L : KL}, (∀ y ∈ L, y.1 ≠ x.1) → ∀ j, aget (insL x false L) j = if j = x.1 then some x.2 else aget L j
  | [], _, j => by
    rw [insL, if_neg (by simp), aget_cons]
    by_cases h : x.1 = j
    · rw [if_pos h, if_pos h.symm]
    · rw [if_neg h, if_neg (fun e => h e.symm)]
  | z :: r, hne, j => by
    have hz := hne z (by simp)
    rw [insL]
    split
    · rw [insL_true, aget_cons]
      by_cases h : x.1 = j
      · rw [if_pos h, if_pos h.symm]
      · rw [if_neg h, if_neg (fun e => h e.symm)]
    · rw [aget_cons, aget_cons, aget_ins (L := r) (fun y hy => hne y (by simp [hy]))]
      by_cases h : z.1 = j
      · rw [if_pos h, if_pos h, if_neg (fun e => hz (h.trans e))]
      · rw [if_neg h, if_neg h]
theorem RelD.with {m L : KL} (h : RelD m L) (x : Id × Known) : RelD (aput m x.1 x.2) (withL L x) := by
  have hne : ∀ y ∈ withoutL L x.1, y.1 ≠ x.1 := fun y hy => (without_key hy).2
  refine ⟨aput_nodup h.nd _ _, insL_sorted (without_sorted h.sort _) hne, fun j => ?_⟩
  rw [aget_aput, aget_ins hne, aget_without, h.same]
  split <;> rfl
def placeOf : KL → Id → Nat → Int
  | [], _, _ => -1
  | x :: r, i, k => if x.1 = i then k else placeOf r i (k + 1)
theorem place_none : ∀ {L : KL} {i : Id} {k : Nat}, aget L i = none → placeOf L i k = -1
  | [], _, _, _ => rfl
  | x :: r, i, k, h => by
    rw [aget_cons] at h
    split at h
    · cases h
    · rename_i g
      rw [placeOf, if_neg g]; exact place_none h
theorem place_some : ∀ {L : KL} {i : Id} {k : Nat} {y : Known}, aget L i = some y → ∃ j : Nat, placeOf L i k = ((k + j : Nat) : Int) ∧ L[j]? = some (i, y)
  | [], _, _, _, h => by simp [aget] at h
  | x :: r, i, k, y, h => by
    rw [aget_cons] at h
    split at h
    · rename_i g
      refine ⟨0, by rw [placeOf, if_pos g]; rfl, ?_⟩
      subst g
      cases h
      rfl
    · rename_i g
      obtain ⟨j, h1, h2⟩ := place_some (k := k + 1) h
      exact ⟨j + 1, by rw [placeOf, if_neg g, h1]; congr 1; omega, by simpa using h2⟩
/-- what a tick makes, in the document -/
def tickD (k : Known) : Option Known :=
  if 1 < k.waits then some ⟨k.to, 0, 0, k.waits - 1⟩ else if k.waits = 0 ∧ k.ticks + 1 < 64 then some ⟨k.to, k.n, k.ticks + 1, 0⟩ else none
def tickL (L : KL) : KL := L.filterMap fun x => (tickD x.2).map fun k => (x.1, k)
/-- what holds of all that is known -/
structure KInv (k : Known) : Prop where
  ok : KOk k
  bare : 0 < k.waits → k.n = 0 ∧ k.ticks = 0
def AllK (m : KL) : Prop := ∀ i k, aget m i = some k → KInv k
theorem tick_same {k : Known} (h : KInv k) : tickK k = tickD k := by
  obtain ⟨⟨h1, h2, h3, h4⟩, h5⟩ := h
  unfold tickK tickD
  obtain ⟨t, n, ti, w⟩ := k
  dsimp only at *
  by_cases hw : 0 < w
  · obtain ⟨rfl, rfl⟩ := h5 hw
    rw [if_pos hw]
    by_cases h6 : 1 < w
    · rw [if_neg (by omega), if_pos h6]
    · rw [if_pos ⟨by omega, .inl rfl⟩, if_neg h6, if_neg (by omega)]
  · have : w = 0 := by omega
    subst this
    rw [if_neg hw]
    by_cases h6 : ti + 1 = 64
    · rw [if_pos ⟨rfl, .inr h6⟩, if_neg (show ¬ (1 : Int) < 0 by omega), if_neg (fun h => by omega)]
    · rw [if_neg (show ¬ ((0 : Int) = 0 ∧ (ti + 1 = 0 ∨ ti + 1 = 64)) by omega), if_neg (show ¬ (1 : Int) < 0 by omega), if_pos ⟨rfl, by omega⟩]
theorem tickD_inv {k k' : Known} (h : KInv k) (ht : tickD k = some k') : KInv k' := by
  obtain ⟨⟨h1, h2, h3, h4⟩, h5⟩ := h
  unfold tickD at ht
  split at ht
  · cases ht
    exact ⟨⟨by dsimp only; omega, by dsimp only; omega, by dsimp only; omega, by dsimp only; omega⟩, fun _ => ⟨rfl, rfl⟩⟩
  · split at ht
    · cases ht
      exact ⟨⟨by dsimp only; omega, by dsimp only; omega, by dsimp only; omega, by dsimp only; omega⟩, fun h => by dsimp only at h; omega⟩
    · cases ht
theorem tickL_keys (L : KL) : ((tickL L).map (·.1)).Sublist (L.map (·.1)) := by
  induction L with
  | nil => simp [tickL]
  | cons x r ih =>
    unfold tickL at ih ⊢
    rw [List.filterMap_cons]
    cases tickD x.2 with
    | none => exact ih.trans (by simp)
    | some k => simpa using ih
theorem aget_tick : ∀ {L : KL}, (L.map (·.1)).Nodup → ∀ i, aget (tickL L) i = (aget L i).bind tickD
  | [], _, i => rfl
  | x :: r, h, i => by
    rw [List.map_cons, List.nodup_cons] at h
    have ih := aget_tick h.2 i
    have hk : x.1 ∉ (tickL r).map (·.1) := fun hm => h.1 ((tickL_keys r).subset hm)
    rw [aget_cons]
    have e : tickL (x :: r) = match tickD x.2 with | none => tickL r | some k => (x.1, k) :: tickL r := by
      unfold tickL
      rw [List.filterMap_cons]
      cases tickD x.2 <;> rfl
    rw [e]
    by_cases hx : x.1 = i
    · rw [if_pos hx]
      cases hd : tickD x.2 with
      | none =>
        dsimp only
        rw [aget_none.2 (hx ▸ hk)]
        simp [hd]
      | some k =>
        dsimp only
        rw [aget_cons, if_pos hx]
        simp [hd]
    · rw [if_neg hx]
      cases hd : tickD x.2 with
      | none => exact ih
      | some k => dsimp only; rw [aget_cons, if_neg hx]; exact ih
theorem RelD.tick {m L : KL} (h : RelD m L) (hA : AllK m) {m' : KL} (hn : (m'.map (·.1)).Nodup) (hm : ∀ i, aget m' i = (aget m i).bind tickK) : RelD m' (tickL L) ∧ AllK m' := by
  have hmm : ∀ i, aget m' i = (aget m i).bind tickD := fun i => by
    rw [hm]
    cases e : aget m i with
    | none => rfl
    | some k => exact tick_same (hA i k e)
  refine ⟨⟨hn, h.sort.sublist (tickL_keys L), fun i => ?_⟩, fun i k' hk => ?_⟩
  · rw [hmm, aget_tick h.sort.nodup, h.same]
  · rw [hmm] at hk
    cases e : aget m i with
    | none => rw [e] at hk; cases hk
    | some k => rw [e] at hk; exact tickD_inv (hA i k e) hk
def offeredL (L : KL) (n : Int) : List Id := (L.filter fun x => toK n x.2).map (·.1)
theorem aget_iff {L : KL} (h : (L.map (·.1)).Nodup) {i : Id} {k : Known} : aget L i = some k ↔ (i, k) ∈ L := ⟨aget_mem, aget_of_mem h⟩
theorem RelD.offered {m L : KL} (h : RelD m L) (n : Int) {l : List Id} (hn : l.Nodup) (hs : l.Pairwise fun x y => ¬ ltId y x = true) (hm : ∀ i, i ∈ l ↔ isTo m n i = true) : l = offeredL L n := by
  refine sortedI_ext (sortedI_of hn hs) (h.sort.sublist (List.Sublist.map _ List.filter_sublist)) fun i => ?_
  rw [hm, isTo_iff]
  unfold offeredL
  rw [List.mem_map]
  constructor
  · rintro ⟨k, h1, h2⟩
    rw [h.same, aget_iff h.sort.nodup] at h1
    exact ⟨(i, k), List.mem_filter.2 ⟨h1, h2⟩, rfl⟩
  · rintro ⟨⟨j, k⟩, h1, rfl⟩
    obtain ⟨h1, h2⟩ := List.mem_filter.1 h1
    exact ⟨k, by rw [h.same, aget_iff h.sort.nodup]; exact h1, h2⟩
/-- many are taken away -/
theorem RelD.reset : ∀ (l : List Id) {m L : KL}, RelD m L → RelD (l.foldl adel m) (l.foldl withoutL L)
  | [], _, _, h => h
  | i :: r, m, L, h => by
    rw [List.foldl_cons, List.foldl_cons]
    exact RelD.reset r (h.without i (adel_nodup h.nd i) fun j => aget_adel _ _ _)
theorem AllK.sub {m m' : KL} (h : AllK m) (hs : ∀ i k, aget m' i = some k → aget m i = some k) : AllK m' := fun i k hk => h i k (hs i k hk)
theorem dels_sub : ∀ (l : List Id) {m : KL} (i : Id) (k : Known), aget (l.foldl adel m) i = some k → aget m i = some k
  | [], _, _, _, h => h
  | j :: r, m, i, k, h => by
    rw [List.foldl_cons] at h
    have := dels_sub r i k h
    rw [aget_adel] at this
    split at this
    · cases this
    · exact this
end Go.Proofs.Ythlleljdahkgpaa
