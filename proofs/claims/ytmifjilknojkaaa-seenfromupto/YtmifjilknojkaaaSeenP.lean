/- Plain law: marks are what is there, in order, told in one way alone. -/
import Derived.Test.YtmifjilknojkaaaSeenJ
namespace Go.Proofs.Ytmifjilknojkaaa
open Go Go.Vm
def CanR (up : Int) (more : List Int) : Prop := 0 ≤ up ∧ more.Pairwise (· < ·) ∧ ∀ c ∈ more, up + 1 < c
def inM (up : Int) (more : List Int) (c : Int) : Prop := (1 ≤ c ∧ c ≤ up) ∨ c ∈ more
theorem sorted_ext {α : Type} {R : α → α → Prop} (irr : ∀ x, ¬ R x x) (asym : ∀ x y, R x y → ¬ R y x) : ∀ {l l' : List α}, l.Pairwise R → l'.Pairwise R → (∀ x, x ∈ l ↔ x ∈ l') → l = l'
  | [], [], _, _, _ => rfl
  | [], y :: s, _, _, h => absurd ((h y).2 (by simp)) (by simp)
  | x :: r, [], _, _, h => absurd ((h x).1 (by simp)) (by simp)
  | x :: r, y :: s, h1, h2, h => by
    obtain ⟨h3, h4⟩ := List.pairwise_cons.1 h1
    obtain ⟨h5, h6⟩ := List.pairwise_cons.1 h2
    have hxy : x = y := by
      rcases List.mem_cons.1 ((h x).1 (by simp)) with e | e
      · exact e
      · rcases List.mem_cons.1 ((h y).2 (by simp)) with e' | e'
        · exact e'.symm
        · exact absurd (h5 x e) (asym _ _ (h3 y e'))
    subst hxy
    rw [sorted_ext irr asym h4 h6 fun z => ?_]
    constructor
    · intro hz
      rcases List.mem_cons.1 ((h z).1 (by simp [hz])) with e | e
      · subst e; exact absurd (h3 z hz) (irr z)
      · exact e
    · intro hz
      rcases List.mem_cons.1 ((h z).2 (by simp [hz])) with e | e
      · subst e; exact absurd (h5 z hz) (irr z)
      · exact e
theorem CanR.up_le {up up' : Int} {more more' : List Int} (h' : CanR up' more') (he : ∀ c, inM up more c ↔ inM up' more' c) : up ≤ up' := by
  apply Classical.byContradiction
  intro hn
  have h1 : inM up' more' (up' + 1) := (he _).1 (.inl ⟨by have := h'.1; omega, by omega⟩)
  rcases h1 with h1 | h1
  · omega
  · have := h'.2.2 _ h1; omega
theorem CanR.uniq {up up' : Int} {more more' : List Int} (h : CanR up more) (h' : CanR up' more') (he : ∀ c, inM up more c ↔ inM up' more' c) : up = up' ∧ more = more' := by
  have e : up = up' := Int.le_antisymm (CanR.up_le h' he) (CanR.up_le h fun c => (he c).symm)
  subst e
  refine ⟨rfl, sorted_ext (R := (· < ·)) (fun x => by omega) (fun x y => by omega) h.2.1 h'.2.1 fun c => ⟨fun hc => ?_, fun hc => ?_⟩⟩
  · have h1 := h.2.2 c hc
    rcases (he c).1 (.inr hc) with h2 | h2
    · omega
    · exact h2
  · have h1 := h'.2.2 c hc
    rcases (he c).2 (.inr hc) with h2 | h2
    · omega
    · exact h2
def ltMk (x y : Mk) : Prop := x.o < y.o ∨ (x.o = y.o ∧ x.e < y.e)
theorem ltMk_key : ∀ {l : List Mk}, l.Pairwise ltMk → ∀ {x y : Mk}, x ∈ l → y ∈ l → x.o = y.o → x.e = y.e → x = y
  | [], _, x, y, hx, _, _, _ => by cases hx
  | z :: r, h, x, y, hx, hy, h1, h2 => by
    obtain ⟨h3, h4⟩ := List.pairwise_cons.1 h
    rcases List.mem_cons.1 hx with e | e
    · rcases List.mem_cons.1 hy with e' | e'
      · rw [e, e']
      · subst e; have := h3 y e'; unfold ltMk at this; omega
    · rcases List.mem_cons.1 hy with e' | e'
      · subst e'; have := h3 x e; unfold ltMk at this; omega
      · exact ltMk_key h4 e e' h1 h2
/-- a list of marks tells what is there -/
structure Canon (S : Int → Int → Int → Prop) (l : List Mk) : Prop where
  sorted : l.Pairwise ltMk
  can : ∀ m ∈ l, CanR m.up m.more ∧ (0 < m.up ∨ m.more ≠ [])
  mem : ∀ o e c, S o e c ↔ ∃ m ∈ l, m.o = o ∧ m.e = e ∧ inM m.up m.more c
theorem CanR.some {up : Int} {more : List Int} (h : 0 < up ∨ more ≠ []) : ∃ c, inM up more c := by
  rcases h with h | h
  · exact ⟨up, .inl ⟨by omega, Int.le_refl _⟩⟩
  · obtain ⟨x, r, rfl⟩ := List.exists_cons_of_ne_nil h
    exact ⟨x, .inr (by simp)⟩
theorem Canon.sub {S : Int → Int → Int → Prop} {l l' : List Mk} (h : Canon S l) (h' : Canon S l') {m : Mk} (hm : m ∈ l) : m ∈ l' := by
  obtain ⟨h1, h2⟩ := h.can m hm
  obtain ⟨c0, hc0⟩ := CanR.some h2
  obtain ⟨m', hm', e1, e2, -⟩ := (h'.mem _ _ _).1 ((h.mem _ _ _).2 ⟨m, hm, rfl, rfl, hc0⟩)
  have he : ∀ c, inM m.up m.more c ↔ inM m'.up m'.more c := fun c => by
    constructor
    · intro hc
      obtain ⟨m2, hm2, e3, e4, hc2⟩ := (h'.mem _ _ _).1 ((h.mem _ _ _).2 ⟨m, hm, rfl, rfl, hc⟩)
      rw [ltMk_key h'.sorted hm' hm2 (by omega) (by omega)]; exact hc2
    · intro hc
      obtain ⟨m2, hm2, e3, e4, hc2⟩ := (h.mem _ _ _).1 ((h'.mem _ _ _).2 ⟨m', hm', rfl, rfl, hc⟩)
      rw [ltMk_key h.sorted hm hm2 (by omega) (by omega)]; exact hc2
  obtain ⟨e3, e4⟩ := h1.uniq (h'.can m' hm').1 he
  have : m = m' := by
    obtain ⟨a, b, c, d⟩ := m
    obtain ⟨a', b', c', d'⟩ := m'
    simp only at e1 e2 e3 e4
    rw [e1, e2, e3, e4]
  rw [this]; exact hm'
theorem Canon.uniq {S : Int → Int → Int → Prop} {l l' : List Mk} (h : Canon S l) (h' : Canon S l') : l = l' :=
  sorted_ext (R := ltMk) (fun x => by unfold ltMk; omega) (fun x y => by unfold ltMk; omega) h.sorted h'.sorted fun _ => ⟨fun hm => h.sub h' hm, fun hm => h'.sub h hm⟩
theorem Canon.of {S S' : Int → Int → Int → Prop} {l : List Mk} (h : Canon S l) (he : ∀ o e c, S' o e c ↔ S o e c) : Canon S' l := ⟨h.sorted, h.can, fun o e c => (he o e c).trans (h.mem o e c)⟩
/-- a number more -/
theorem insC_mem (c : Int) : ∀ (l : List Int) (x : Int), x ∈ insC c l ↔ x = c ∨ x ∈ l
  | [], x => by simp [insC]
  | y :: r, x => by
    simp only [insC]
    split
    · simp only [List.mem_cons, insC_mem c r x]
      constructor
      · rintro (h | h | h) <;> simp [h]
      · rintro (h | h | h) <;> simp [h]
    · simp only [List.mem_cons]
theorem insC_sorted (c : Int) : ∀ (l : List Int), l.Pairwise (· < ·) → c ∉ l → (insC c l).Pairwise (· < ·)
  | [], _, _ => by simp [insC]
  | y :: r, h, hn => by
    obtain ⟨h1, h2⟩ := List.pairwise_cons.1 h
    simp only [List.mem_cons, not_or] at hn
    simp only [insC]
    split
    · refine List.pairwise_cons.2 ⟨fun z hz => ?_, insC_sorted c r h2 hn.2⟩
      rcases (insC_mem c r z).1 hz with e | e
      · omega
      · exact h1 z e
    · refine List.pairwise_cons.2 ⟨fun z hz => ?_, h⟩
      rcases List.mem_cons.1 hz with e | e
      · omega
      · have := h1 z e; omega
theorem normC_ok : ∀ (l : List Int) (up : Int), 0 ≤ up → l.Pairwise (· < ·) → (∀ x ∈ l, up < x) → CanR (normC up l).1 (normC up l).2 ∧ (∀ c, inM (normC up l).1 (normC up l).2 c ↔ inM up l c) ∧ (normC up l).2.length ≤ l.length
  | [], up, h0, _, _ => by simp [normC, CanR, h0]
  | y :: r, up, h0, h1, h2 => by
    obtain ⟨h3, h4⟩ := List.pairwise_cons.1 h1
    simp only [normC]
    split
    · rename_i e
      obtain ⟨i1, i2, i3⟩ := normC_ok r (up + 1) (by omega) h4 (fun x hx => by have := h3 x hx; omega)
      refine ⟨i1, fun c => (i2 c).trans ?_, by simp; omega⟩
      unfold inM
      simp only [List.mem_cons]
      constructor
      · rintro (h | h)
        · by_cases h5 : c = up + 1
          · exact .inr (.inl (by omega))
          · exact .inl (by omega)
        · exact .inr (.inr h)
      · rintro (h | h | h)
        · exact .inl (by omega)
        · exact .inl (by omega)
        · exact .inr h
    · rename_i e
      refine ⟨⟨h0, h1, fun x hx => ?_⟩, fun c => .rfl, by simp⟩
      have hy := h2 y (by simp)
      rcases List.mem_cons.1 hx with e' | e'
      · omega
      · have := h3 x e'; omega
theorem normC_pop (up : Int) (r : List Int) (h0 : 0 ≤ up) (h : ((up + 1) :: r).Pairwise (· < ·)) : (normC up ((up + 1) :: r)).2.length ≤ r.length := by
  obtain ⟨h3, h4⟩ := List.pairwise_cons.1 h
  simp only [normC, if_true]
  exact (normC_ok r (up + 1) (by omega) h4 h3).2.2
end Go.Proofs.Ytmifjilknojkaaa
