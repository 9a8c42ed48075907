/- How long the shortest ways are: rounds over all links. -/
import Derived.Test.YtankgacaeejlhaaWays
namespace Go.Proofs.Ytankgacaeejlhaa
def val (L : List Int) (k : Nat) : Int := L.getD k 0
theorem val_set (L : List Int) (i k : Nat) (x : Int) (hi : i < L.length) : val (L.set i x) k = if i = k then x else val L k := by
  simp only [val, List.getD_eq_getElem?_getD, List.getElem?_set]
  by_cases h : i = k
  · subst h; simp [hi]
  · simp [h]
theorem val_get {L : List Int} {k : Nat} (h : k < L.length) : L[k]? = some (val L k) := by
  simp [val, List.getD_eq_getElem?_getD, List.getElem?_eq_getElem h]
variable {lnk : Nat → Nat → Prop} {n frm : Nat}
structure LenOk (lnk : Nat → Nat → Prop) (n frm : Nat) (L : List Int) : Prop where
  len : L.length = n
  way : ∀ k, k < n → 0 ≤ val L k ∧ (val L k = 99 ∨ (val L k < 99 ∧ Way lnk (val L k).toNat frm k))
/-- no shorter way of so many steps -/
def Upto (lnk : Nat → Nat → Prop) (n frm r : Nat) (L : List Int) : Prop := ∀ j, j ≤ r → ∀ k, k < n → Way lnk j frm k → val L k ≤ j
/-- links that were looked at in this round -/
def Part (lnk : Nat → Nat → Prop) (n frm r i k : Nat) (L : List Int) : Prop := ∀ i' k', i' < n → k' < n → (i' < i ∨ (i' = i ∧ k' < k)) → lnk i' k' → ∀ j, j ≤ r → Way lnk j frm i' → val L k' ≤ j + 1
theorem LenOk.le99 {L : List Int} (h : LenOk lnk n frm L) {k : Nat} (hk : k < n) : val L k ≤ 99 := by
  obtain ⟨_, h1 | ⟨h1, _⟩⟩ := h.way k hk <;> omega
theorem LenOk.step {L : List Int} (h : LenOk lnk n frm L) {i k : Nat} (hi : i < n) (hk : k < n) (hl : lnk i k) : LenOk lnk n frm (L.set k (min (val L k) (val L i + 1))) := by
  refine ⟨by simpa using h.len, fun m hm => ?_⟩
  rw [val_set _ _ _ _ (by rw [h.len]; exact hk)]
  by_cases e : k = m
  · subst e
    rw [if_pos rfl]
    obtain ⟨h0, h1⟩ := h.way i hi
    obtain ⟨h2, h3⟩ := h.way k hk
    have := h.le99 hk
    refine ⟨by omega, ?_⟩
    by_cases hlt : val L i + 1 < val L k
    · rcases h1 with h1 | ⟨h1, hw⟩
      · omega
      · refine .inr ⟨by omega, ?_⟩
        have e1 : (min (val L k) (val L i + 1)).toNat = (val L i).toNat + 1 := by omega
        rw [e1]
        exact hw.snoc hl
    · have e1 : min (val L k) (val L i + 1) = val L k := by omega
      rw [e1]; exact h3
  · rw [if_neg e]; exact h.way m hm
theorem set_le {L : List Int} {k : Nat} (hk : k < L.length) (x : Int) (m : Nat) : val (L.set k (min (val L k) x)) m ≤ val L m := by
  rw [val_set _ _ _ _ hk]
  by_cases e : k = m
  · subst e; rw [if_pos rfl]; omega
  · rw [if_neg e]; omega
theorem Upto.le {r : Nat} {L L' : List Int} (h : Upto lnk n frm r L) (hl : ∀ m, val L' m ≤ val L m) : Upto lnk n frm r L' := fun j hj k hk hw => Int.le_trans (hl k) (h j hj k hk hw)
theorem Part.le {r i k : Nat} {L L' : List Int} (h : Part lnk n frm r i k L) (hl : ∀ m, val L' m ≤ val L m) : Part lnk n frm r i k L' := fun i' k' h1 h2 h3 h4 j hj hw => Int.le_trans (hl k') (h i' k' h1 h2 h3 h4 j hj hw)
theorem Part.step {r i k : Nat} {L : List Int} (h : Part lnk n frm r i k L) (hu : Upto lnk n frm r L) (hL : L.length = n) (hk : k < n) : Part lnk n frm r i (k + 1) (L.set k (min (val L k) (val L i + 1))) := by
  intro i' k' h1 h2 h3 h4 j hj hw
  by_cases e : i' = i ∧ k' = k
  · obtain ⟨rfl, rfl⟩ := e
    rw [val_set _ _ _ _ (by omega), if_pos rfl]
    have := hu j hj i' h1 hw
    omega
  · exact Int.le_trans (set_le (by omega) _ _) (h i' k' h1 h2 (by omega) h4 j hj hw)
theorem Part.skip {r i k : Nat} {L : List Int} (h : Part lnk n frm r i k L) (hn : ¬ lnk i k) : Part lnk n frm r i (k + 1) L := by
  intro i' k' h1 h2 h3 h4 j hj hw
  by_cases e : i' = i ∧ k' = k
  · obtain ⟨rfl, rfl⟩ := e; exact absurd h4 hn
  · exact h i' k' h1 h2 (by omega) h4 j hj hw
theorem Part.row {r i : Nat} {L : List Int} (h : Part lnk n frm r i n L) : Part lnk n frm r (i + 1) 0 L := fun i' k' h1 h2 h3 h4 j hj hw => h i' k' h1 h2 (by omega) h4 j hj hw
theorem Part.start {r : Nat} {L : List Int} : Part lnk n frm r 0 0 L := fun i' k' h1 h2 h3 => by omega
theorem Part.done {r : Nat} {L : List Int} (h : Part lnk n frm r n 0 L) (hu : Upto lnk n frm r L) (hlt : ∀ a b, lnk a b → a < n ∧ b < n) : Upto lnk n frm (r + 1) L := by
  intro j hj k hk hw
  by_cases e : j ≤ r
  · exact hu j e k hk hw
  · have : j = r + 1 := by omega
    subst this
    obtain ⟨b, hb, hl⟩ := hw.unsnoc
    obtain ⟨h1, h2⟩ := hlt _ _ hl
    have := h b k h1 h2 (by omega) hl r (Nat.le_refl _) hb
    push_cast
    exact this
theorem lens_least {L : List Int} (h : LenOk lnk n frm L) (hu : Upto lnk n frm n L) (hn : n ≤ 90) (hc : ∀ k, k < n → ∃ j, j < n ∧ Way lnk j frm k) {k : Nat} (hk : k < n) : ∃ j, j < n ∧ val L k = (j : Nat) ∧ Least lnk j frm k := by
  obtain ⟨j0, hj0, hw0⟩ := hc k hk
  have h0 := hu j0 (by omega) k hk hw0
  obtain ⟨h1, h2 | ⟨_, h2⟩⟩ := h.way k hk
  · omega
  · refine ⟨(val L k).toNat, by omega, by omega, h2, fun i hi => ?_⟩
    by_cases e : i ≤ n
    · have := hu i e k hk hi; omega
    · omega
end Go.Proofs.Ytankgacaeejlhaa
