/- Tables of ways: what rounds of telling come to. -/
import Derived.Test.YtankgacaeejlhaaRoutesJ
import Derived.Test.YtankgacaeejlhaaWays
namespace Go.Proofs.Ytankgacaeejlhaa
open Go Go.Vm
set_option linter.unusedSectionVars false
/-- what is heard: costs, of neighbours alone, each once -/
structure GoodS (links : Int) (n : Nat) (S : Nat → List (Int × Hd)) : Prop where
  good : ∀ i, i < n → GoodM (S i)
  keys : ∀ i, i < n → ∀ x h, aget (S i) x = some h → x ∈ nbOf links n i
  nodup : ∀ i, i < n → ((S i).map (·.1)).Nodup
/-- one round: everybody has heard what each neighbour said -/
def Round (links : Int) (n : Nat) (S S' : Nat → List (Int × Hd)) : Prop :=
  ∀ i k : Nat, i < n → k < n → lnkOf links i k = true → ∃ h, aget (S' k) (i : Int) = some h ∧ ∀ d : Nat, d < 64 → h.c d = vecOf i (nbOf links n i) [] (S i) k d
theorem lst_le {d x : Int} {h : Hd} {l : List (Int × Hd)} (hm : (x, h) ∈ l) : lst d l ≤ min 16 (h.c d.toNat + 1) := by
  induction l with
  | nil => cases hm
  | cons q l ih =>
    simp only [lst, List.foldr_cons] at ih ⊢
    rcases List.mem_cons.1 hm with rfl | hm
    · dsimp only; omega
    · have := ih hm; omega
theorem lst_att {d : Int} {l : List (Int × Hd)} (hl : lst d l < 16) : ∃ x h, (x, h) ∈ l ∧ lst d l = h.c d.toNat + 1 := by
  induction l with
  | nil => simp [lst] at hl
  | cons q l ih =>
    obtain ⟨x, h⟩ := q
    simp only [lst, List.foldr_cons] at ih hl ⊢
    by_cases hc : h.c d.toNat + 1 ≤ l.foldr (fun q x => min (min 16 (q.2.c d.toNat + 1)) x) 16
    · exact ⟨x, h, by simp, by omega⟩
    · obtain ⟨x', h', hm, e⟩ := ih (by omega)
      exact ⟨x', h', List.mem_cons_of_mem _ hm, by omega⟩
theorem lst_pos {d : Int} {l : List (Int × Hd)} (hp : ∀ x h, (x, h) ∈ l → 0 ≤ h.c d.toNat) : 1 ≤ lst d l := by
  induction l with
  | nil => simp [lst]
  | cons q l ih =>
    obtain ⟨x, h⟩ := q
    simp only [lst, List.foldr_cons] at ih ⊢
    have h1 := hp x h (by simp)
    have h2 := ih fun x h hm => hp x h (List.mem_cons_of_mem _ hm)
    omega
theorem costOf_nil (me : Int) (m : List (Int × Hd)) (d : Int) : costOf me [] m d = if isNode d then (if d = me then 0 else lst d m) else 16 := rfl
theorem costOf_range {me : Int} {m : List (Int × Hd)} (hg : GoodM m) (hn : (m.map (·.1)).Nodup) (d : Int) : 0 ≤ costOf me [] m d ∧ costOf me [] m d ≤ 16 := by
  rw [costOf_nil]
  split
  · rename_i hd
    have hd' : 0 ≤ d ∧ d < 64 := by simpa [isNode] using hd
    split
    · omega
    · have := lst_top d m
      have := lst_pos (d := d) (l := m) fun x h hm => (hg x h (aget_of_mem hn hm) d.toNat (by omega)).1
      omega
  · omega
theorem vecOf_range {me to : Int} {nb : List Int} {m : List (Int × Hd)} (hg : GoodM m) (hn : (m.map (·.1)).Nodup) (d : Int) : 0 ≤ vecOf me nb [] m to d ∧ vecOf me nb [] m to d ≤ 16 := by
  unfold vecOf
  split
  · omega
  · exact costOf_range hg hn d
theorem nextOf_nil (me : Int) (nb : List Int) (m : List (Int × Hd)) (d : Int) :
    nextOf me nb [] m d = if isNode d && decide (d ≠ me) then (if costOf me [] m d < 16 then nb.find? (fun k => decide (byC m d k = costOf me [] m d)) else none) else none := rfl
section
variable {links : Int} {n R : Nat} {f : Nat → Nat → List (Int × Hd)}
def cc (n : Nat) (f : Nat → Nat → List (Int × Hd)) (r i d : Nat) : Nat := if i < n then (costOf i [] (f r i) d).toNat else if i = d then 0 else 16
def nxx (links : Int) (n : Nat) (f : Nat → Nat → List (Int × Hd)) (r i d : Nat) : Option Nat := if i < n then (nextOf i (nbOf links n i) [] (f r i) d).map Int.toNat else none
theorem nextOf_mem {me d x : Int} {nb : List Int} {m : List (Int × Hd)} (h : nextOf me nb [] m d = some x) : x ∈ nb ∧ isNode d = true ∧ d ≠ me ∧ costOf me [] m d < 16 ∧ byC m d x = costOf me [] m d := by
  rw [nextOf_nil] at h
  split at h
  · rename_i h1
    split at h
    · rename_i h2
      simp only [Bool.and_eq_true, decide_eq_true_eq] at h1
      exact ⟨List.mem_of_find?_eq_some h, h1.1, h1.2, h2, by simpa using List.find?_some h⟩
    · cases h
  · cases h
theorem nxx_iff {r i d k : Nat} : nxx links n f r i d = some k ↔ i < n ∧ nextOf i (nbOf links n i) [] (f r i) d = some (k : Int) := by
  unfold nxx
  by_cases hi : i < n
  · rw [if_pos hi]
    constructor
    · intro h
      obtain ⟨x, hx, e⟩ := Option.map_eq_some_iff.1 h
      obtain ⟨j, rfl, _⟩ := mem_nbOf.1 (nextOf_mem hx).1
      have : j = k := by simpa using e
      subst this
      exact ⟨hi, hx⟩
    · rintro ⟨_, h⟩
      rw [h]; rfl
  · rw [if_neg hi]; simp [hi]
/-- rounds of telling -/
structure Rounds (links : Int) (n R : Nat) (f : Nat → Nat → List (Int × Hd)) : Prop where
  good : ∀ r, r ≤ R → GoodS links n (f r)
  step : ∀ r, r < R → Round links n (f r) (f (r + 1))
variable (H : Rounds links n R f) (hn : n ≤ 8)
include H hn
theorem ent {r i : Nat} (hr : r < R) (hi : i < n) {x : Int} {h : Hd} (hm : (x, h) ∈ f (r + 1) i) :
    ∃ k : Nat, x = k ∧ lnkN links n i k ∧ ∀ d : Nat, d < 64 → h.c d = vecOf k (nbOf links n k) [] (f r k) i d := by
  have hg := H.good (r + 1) (by omega)
  have ha := aget_of_mem (hg.nodup i hi) hm
  obtain ⟨k, rfl, hk, hl⟩ := mem_nbOf.1 (hg.keys i hi x h ha)
  obtain ⟨h', h1, h2⟩ := H.step r hr k i hk hi (by rw [lnkOf_symm]; exact hl)
  rw [ha] at h1; cases h1
  exact ⟨k, rfl, ⟨hi, hk, hl⟩, h2⟩
theorem ent' {r i k : Nat} (hr : r < R) (hl : lnkN links n i k) :
    ∃ h, aget (f (r + 1) i) (k : Int) = some h ∧ ∀ d : Nat, d < 64 → h.c d = vecOf k (nbOf links n k) [] (f r k) i d :=
  H.step r hr k i hl.2.1 hl.1 (by rw [lnkOf_symm]; exact hl.2.2)
theorem node_lt {d : Nat} : isNode (d : Int) = true ↔ d < 64 := by simp [isNode]; omega
theorem cost_range {r i : Nat} (hr : r ≤ R) (hi : i < n) (d : Int) : 0 ≤ costOf i [] (f r i) d ∧ costOf i [] (f r i) d ≤ 16 :=
  costOf_range ((H.good r hr).good i hi) ((H.good r hr).nodup i hi) d
theorem told : Told R (lnkN links n) (cc n f) (nxx links n f) where
  self r i hr := by
    unfold cc
    split
    · rw [costOf_nil, if_pos (by simp [isNode]; omega), if_pos rfl]; rfl
    · rw [if_pos rfl]
  pos r i d hr hne := by
    unfold cc
    split
    · rename_i hi
      rw [costOf_nil]
      have hg := H.good r hr
      split
      · rename_i hd
        have hd' : d < 64 := Int.ofNat_lt.1 (by simpa [isNode] using hd)
        rw [if_neg (by omega)]
        have := lst_pos (d := d) (l := f r i) fun x h hm => (hg.good i hi x h (aget_of_mem (hg.nodup i hi) hm) (d : Int).toNat (by simpa using hd')).1
        omega
      · decide
    · omega
  top r i d hr := by
    unfold cc
    split
    · rename_i hi
      have := cost_range H hn hr hi d; omega
    · split <;> omega
  by' r i d hr hne hc := by
    have hi : i < n := by
      rcases Nat.lt_or_ge i n with h | h
      · exact h
      · unfold cc at hc; rw [if_neg (by omega), if_neg hne] at hc; omega
    have hrg := cost_range H hn (r := r + 1) (by omega) hi d
    have hcc : cc n f (r + 1) i d = (costOf i [] (f (r + 1) i) d).toNat := by unfold cc; rw [if_pos hi]
    rw [hcc] at hc ⊢
    have hc' : costOf i [] (f (r + 1) i) d < 16 := by omega
    rw [costOf_nil] at hc' hrg ⊢
    split at hc'
    · rename_i hd
      rw [if_pos hd] at hrg ⊢
      rw [if_neg (by omega)] at hrg hc' ⊢
      obtain ⟨x, h, hm, e⟩ := lst_att hc'
      obtain ⟨k, rfl, hl, hv⟩ := ent H hn hr hi hm
      have hd' : d < 64 := Int.ofNat_lt.1 (by simpa [isNode] using hd)
      have hvd := hv d hd'
      have e' : (d : Int).toNat = d := by simp
      rw [e'] at e
      refine ⟨k, hl, fun hx => ?_, ?_⟩
      · have := (nxx_iff.1 hx).2
        rw [vecOf, if_pos this] at hvd
        omega
      · unfold vecOf at hvd
        split at hvd
        · omega
        · have := cost_range H hn (r := r) (by omega) hl.2.1 d
          unfold cc
          rw [if_pos hl.2.1]
          omega
    · omega
  le r i k d hr hne hl hx := by
    have hi := hl.1
    have hk := hl.2.1
    have e1 : cc n f (r + 1) i d = (costOf i [] (f (r + 1) i) d).toNat := by unfold cc; rw [if_pos hi]
    have e2 : cc n f r k d = (costOf k [] (f r k) d).toNat := by unfold cc; rw [if_pos hk]
    have hrg := cost_range H hn (r := r + 1) (by omega) hi d
    have hrg2 := cost_range H hn (r := r) (by omega) hk d
    rw [e1, e2]
    by_cases hd : d < 64
    · have hd' : isNode (d : Int) = true := by simp [isNode]; omega
      obtain ⟨h, ha, hv⟩ := ent' H hn hr hl
      have hvd := hv d hd
      have hnx : ¬ nextOf k (nbOf links n k) [] (f r k) d = some (i : Int) := fun e => hx (nxx_iff.2 ⟨hk, e⟩)
      rw [vecOf, if_neg hnx] at hvd
      have := lst_le (d := d) (aget_mem ha)
      have e' : (d : Int).toNat = d := by simp
      rw [e'] at this
      rw [costOf_nil, if_pos hd', if_neg (by omega)] at hrg ⊢
      omega
    · have : costOf k [] (f r k) d = 16 := by rw [costOf_nil, if_neg (by simp [isNode]; omega)]
      omega
  nxt r k i d hr hx := by
    obtain ⟨hk, hx⟩ := nxx_iff.1 hx
    obtain ⟨h1, h2, h3, h4, h5⟩ := nextOf_mem hx
    obtain ⟨i', e, hi, hl⟩ := mem_nbOf.1 h1
    have e : i' = i := by omega
    subst e
    have hd : d < 64 := Int.ofNat_lt.1 (by simpa [isNode] using h2)
    have hlk : lnkN links n k i' := ⟨hk, hi, hl⟩
    obtain ⟨h, ha, hv⟩ := ent' H hn hr hlk
    have hvd := hv d hd
    have hrg := cost_range H hn (r := r + 1) (by omega) hk d
    have hrg2 := cost_range H hn (r := r) (by omega) hi d
    have e' : (d : Int).toNat = d := by simp
    simp only [byC, ha, e'] at h5
    have e1 : cc n f (r + 1) k d = (costOf k [] (f (r + 1) k) d).toNat := by unfold cc; rw [if_pos hk]
    have e2 : cc n f r i' d = (costOf i' [] (f r i') d).toNat := by unfold cc; rw [if_pos hi]
    rw [e1, e2]
    refine ⟨by omega, hlk, by omega, ?_⟩
    unfold vecOf at hvd
    split at hvd
    · omega
    · omega
/-- there is a next hop -/
theorem hop_ok {r i d : Nat} (hr : r < R) (hi : i < n) (hd : d < 64) (hne : i ≠ d) (hc : cc n f (r + 1) i d < 16) : ∃ k, nxx links n f (r + 1) i d = some k := by
  have hrg := cost_range H hn (r := r + 1) (by omega) hi d
  unfold cc at hc
  rw [if_pos hi] at hc
  have hd' : isNode (d : Int) = true := by simp [isNode]; omega
  have hcl : costOf i [] (f (r + 1) i) d = lst d (f (r + 1) i) := by rw [costOf_nil, if_pos hd', if_neg (by omega)]
  obtain ⟨x, h, hm, e⟩ := lst_att (d := d) (l := f (r + 1) i) (by omega)
  obtain ⟨k, rfl, hl, hv⟩ := ent H hn hr hi hm
  have ha := aget_of_mem ((H.good (r + 1) (by omega)).nodup i hi) hm
  have hby : byC (f (r + 1) i) d k = costOf i [] (f (r + 1) i) d := by
    simp only [byC, ha]; omega
  have hf : (nbOf links n i).find? (fun k => decide (byC (f (r + 1) i) d k = costOf i [] (f (r + 1) i) d)) ≠ none := by
    rw [Ne, List.find?_eq_none]
    intro hall
    exact hall (k : Int) (mem_nbOf.2 ⟨k, rfl, hl.2.1, hl.2.2⟩) (by simpa using hby)
  obtain ⟨y, hy⟩ := Option.ne_none_iff_exists'.1 hf
  unfold nxx
  refine ⟨y.toNat, ?_⟩
  have hlt : costOf i [] (f (r + 1) i) d < 16 := by omega
  have hdne : ((d : Int) ≠ i) := by omega
  rw [if_pos hi, nextOf_nil, if_pos (by simp [hd', hdne]), if_pos hlt, hy]
  rfl
end
/-- a net is connected: its nodes follow one another in a row -/
theorem row_way (links : Int) {n : Nat} : ∀ (j a : Nat), a + j < n → Way (lnkN links n) j a (a + j) ∧ Way (lnkN links n) j (a + j) a := by
  intro j
  induction j with
  | zero => intro a _; exact ⟨.nil _, .nil _⟩
  | succ j ih =>
    intro a h
    obtain ⟨h1, h2⟩ := ih a (by omega)
    have hl : lnkN links n (a + j) (a + j + 1) := ⟨by omega, by omega, by have := lnkOf_next links (a + j : Nat); simpa using this⟩
    have hl' : lnkN links n (a + j + 1) (a + j) := ⟨by omega, by omega, by rw [lnkOf_symm]; exact hl.2.2⟩
    exact ⟨h1.snoc hl, .cons hl' h2⟩
theorem joined (links : Int) {n a b : Nat} (ha : a < n) (hb : b < n) : ∃ j, j < n ∧ Way (lnkN links n) j a b := by
  by_cases h : a ≤ b
  · obtain ⟨j, rfl⟩ := Nat.exists_eq_add_of_le h
    exact ⟨j, by omega, (row_way links j a hb).1⟩
  · obtain ⟨j, rfl⟩ := Nat.exists_eq_add_of_le (show b ≤ a by omega)
    exact ⟨j, by omega, (row_way links j b ha).2⟩
theorem way_lt {links : Int} {n j a b : Nat} (ha : a < n) (h : Way (lnkN links n) j a b) : b < n := by
  induction h with
  | nil => exact ha
  | cons hl _ ih => exact ih hl.2.1
section
variable {links : Int} {n : Nat} {f : Nat → Nat → List (Int × Hd)} (H : Rounds links n 24 f) (hn : n ≤ 8)
include H hn
theorem cost_exact {i d j : Nat} (hi : i < n) (hj : j ≤ 8) (hl : Least (lnkN links n) j i d) : costOf i [] (f 24 i) d = j := by
  have h := (told H hn).exact j 24 i d (by omega) (by omega) hj hl
  have hr := cost_range H hn (r := 24) (by omega) hi d
  unfold cc at h
  rw [if_pos hi] at h
  omega
theorem cost_far {i d : Nat} (hi : i < n) (hd : n ≤ d) : costOf i [] (f 24 i) d = 16 := by
  have h := (told H hn).far (r := 24) (i := i) (d := d) (by omega) (by omega) fun j hw => by have := way_lt hi hw; omega
  have hr := cost_range H hn (r := 24) (by omega) hi d
  unfold cc at h
  rw [if_pos hi] at h
  omega
theorem hop_least {i d j : Nat} (hi : i < n) (hd : d < n) (hne : i ≠ d) (hj : j ≤ 8) (hl : Least (lnkN links n) j i d) :
    ∃ k : Nat, nextOf i (nbOf links n i) [] (f 24 i) d = some (k : Int) ∧ k < n ∧ lnkOf links i k = true ∧ ∃ j', j = j' + 1 ∧ Least (lnkN links n) j' k d := by
  have hT := told H hn
  have hc := hT.exact j 24 i d (by omega) (by omega) hj hl
  obtain ⟨k, hk⟩ := hop_ok H hn (r := 23) (by omega) hi (show d < 64 by omega) hne (by show cc n f 24 i d < 16; omega)
  obtain ⟨_, hlk, _, e⟩ := hT.nxt 23 i k d (by omega) hk
  have e : cc n f 24 i d = cc n f 23 k d + 1 := e
  have hw := hT.low 23 k d (by omega) (by omega) (by omega)
  refine ⟨k, (nxx_iff.1 hk).2, hlk.2.1, hlk.2.2, cc n f 23 k d, by omega, hw, fun i' hi' => ?_⟩
  have := hl.2 _ (.cons hlk hi')
  omega
end
end Go.Proofs.Ytankgacaeejlhaa
