/- Plain law: the document's marks are canonical too. -/
import Derived.Test.YtmifjilknojkaaaSeenU
import Derived.Test.YtmifjilknojkaaaSeenQ
namespace Go.Proofs.Ytmifjilknojkaaa
open Go Go.Vm
theorem bump_key (m : Mk) (c : Int) : (bump m c).o = m.o ∧ (bump m c).e = m.e := by
  unfold bump
  split <;> exact ⟨rfl, rfl⟩
theorem bump_ok {m : Mk} {c : Int} (h : CanR m.up m.more) (hc : 1 ≤ c) (hlt : ∀ c', inM m.up m.more c' → c' < c) :
    CanR (bump m c).up (bump m c).more ∧ (0 < (bump m c).up ∨ (bump m c).more ≠ []) ∧ ∀ c', inM (bump m c).up (bump m c).more c' ↔ inM m.up m.more c' ∨ c' = c := by
  obtain ⟨h0, h1, h2⟩ := h
  have hup : m.up < c := by
    by_cases e : m.up = 0
    · omega
    · exact hlt _ (.inl ⟨by omega, Int.le_refl _⟩)
  unfold bump
  split
  · rename_i e
    obtain ⟨e1, e2⟩ := e
    refine ⟨⟨by dsimp only; omega, by simp, by simp⟩, .inl (by dsimp only; omega), fun c' => ?_⟩
    simp only [inM, e1, List.not_mem_nil, or_false]
    omega
  · rename_i e
    refine ⟨⟨h0, ?_, fun c' hc' => ?_⟩, .inr (by simp), fun c' => ?_⟩
    · rw [List.pairwise_append]
      refine ⟨h1, by simp, fun a ha b hb => ?_⟩
      simp only [List.mem_singleton] at hb
      subst hb
      exact hlt a (.inr ha)
    · rcases List.mem_append.1 hc' with h3 | h3
      · exact h2 c' h3
      · simp only [List.mem_singleton] at h3
        subst h3
        cases hm : m.more with
        | nil =>
          have : ¬ c' = m.up + 1 := fun e1 => e ⟨hm, e1⟩
          dsimp only; omega
        | cons y r =>
          have h4 := h2 y (by rw [hm]; simp)
          have h5 := hlt y (.inr (by rw [hm]; simp))
          dsimp only; omega
    · unfold inM
      dsimp only
      rw [List.mem_append, List.mem_singleton, or_assoc]
theorem lessK_iff (a b : K) : lessK a b = true ↔ a.o < b.o ∨ (a.o = b.o ∧ (a.e < b.e ∨ (a.e = b.e ∧ a.c < b.c))) := by
  unfold lessK
  split
  · rw [decide_eq_true_eq]; omega
  · split
    · rw [decide_eq_true_eq]; omega
    · rw [decide_eq_true_eq]; omega
def SetL (L : List K) (o e c : Int) : Prop := (⟨o, e, c⟩ : K) ∈ L
theorem marks_step {L : List K} {l : List Mk} (h : Canon (SetL L) l) {k : K} (hk : 1 ≤ k.c) (hlt : ∀ y ∈ L, lessK y k = true) : Canon (SetL (L ++ [k])) (addMk l k) := by
  have hS : ∀ o e c, SetL (L ++ [k]) o e c ↔ SetL L o e c ∨ (o = k.o ∧ e = k.e ∧ c = k.c) := fun o e c => by
    unfold SetL
    rw [List.mem_append, List.mem_singleton]
    obtain ⟨ko, ke, kc⟩ := k
    simp
  have hb : ∀ m ∈ l, ∀ c', inM m.up m.more c' → lessK ⟨m.o, m.e, c'⟩ k = true := fun m hm c' hc' => hlt _ ((h.mem _ _ _).2 ⟨m, hm, rfl, rfl, hc'⟩)
  have hnew := bump_ok (m := ⟨k.o, k.e, 0, []⟩) (c := k.c) ⟨Int.le_refl _, by simp, by simp⟩ hk (fun c' hc' => by simp only [inM, List.not_mem_nil, or_false] at hc'; omega)
  have hnk := bump_key ⟨k.o, k.e, 0, []⟩ k.c
  have hfresh : (∀ m ∈ l, m.o < k.o ∨ (m.o = k.o ∧ m.e < k.e)) → Canon (SetL (L ++ [k])) (l ++ [bump ⟨k.o, k.e, 0, []⟩ k.c]) := fun hall => by
    obtain ⟨n1, n2, n3⟩ := hnew
    refine ⟨?_, fun m hm => ?_, fun o e c => ?_⟩
    · rw [List.pairwise_append]
      refine ⟨h.sorted, by simp, fun a ha b hb => ?_⟩
      simp only [List.mem_singleton] at hb
      subst hb
      have := hall a ha
      unfold ltMk
      rw [hnk.1, hnk.2]
      exact this
    · rcases List.mem_append.1 hm with h1 | h1
      · exact h.can m h1
      · simp only [List.mem_singleton] at h1
        subst h1
        exact ⟨n1, n2⟩
    · rw [hS, h.mem]
      constructor
      · rintro (⟨m, hm, e1, e2, e3⟩ | ⟨rfl, rfl, rfl⟩)
        · exact ⟨m, by simp [hm], e1, e2, e3⟩
        · exact ⟨_, by simp, hnk.1, hnk.2, (n3 _).2 (.inr rfl)⟩
      · rintro ⟨m, hm, e1, e2, e3⟩
        rcases List.mem_append.1 hm with h1 | h1
        · exact .inl ⟨m, h1, e1, e2, e3⟩
        · simp only [List.mem_singleton] at h1
          subst h1
          right
          rw [hnk.1] at e1
          rw [hnk.2] at e2
          refine ⟨e1.symm, e2.symm, ?_⟩
          rcases (n3 _).1 e3 with h2 | h2
          · simp only [inM, List.not_mem_nil, or_false] at h2; omega
          · exact h2
  unfold addMk
  cases hl : l.getLast? with
  | none =>
    have : l = [] := List.getLast?_eq_none_iff.1 hl
    subst this
    exact hfresh (by simp)
  | some m =>
    obtain ⟨u, rfl⟩ : ∃ u, l = u ++ [m] := ⟨l.dropLast, by
      obtain ⟨hne, he⟩ := List.getLast?_eq_some_iff.1 hl
      rw [he]; simp⟩
    have hmm : m ∈ u ++ [m] := by simp
    dsimp only
    have hps := List.pairwise_append.1 h.sorted
    split
    · rename_i e
      obtain ⟨e1, e2⟩ := e
      obtain ⟨n1, n2, n3⟩ := bump_ok (h.can m hmm).1 hk (fun c' hc' => by
        have := (lessK_iff _ _).1 (hb m hmm c' hc')
        dsimp only at this
        omega)
      have hk' := bump_key m k.c
      rw [List.dropLast_concat]
      refine ⟨?_, fun m' hm => ?_, fun o e c => ?_⟩
      · rw [List.pairwise_append]
        refine ⟨hps.1, by simp, fun a ha b hb => ?_⟩
        simp only [List.mem_singleton] at hb
        subst hb
        have := hps.2.2 a ha m (by simp)
        unfold ltMk at this ⊢
        rw [hk'.1, hk'.2]; exact this
      · rcases List.mem_append.1 hm with h1 | h1
        · exact h.can m' (by simp [h1])
        · simp only [List.mem_singleton] at h1
          subst h1
          exact ⟨n1, n2⟩
      · rw [hS, h.mem]
        constructor
        · rintro (⟨m', hm, f1, f2, f3⟩ | ⟨rfl, rfl, rfl⟩)
          · rcases List.mem_append.1 hm with h1 | h1
            · exact ⟨m', by simp [h1], f1, f2, f3⟩
            · simp only [List.mem_singleton] at h1
              subst h1
              exact ⟨_, by simp, hk'.1.trans f1, hk'.2.trans f2, (n3 _).2 (.inl f3)⟩
          · exact ⟨_, by simp, hk'.1.trans e1, hk'.2.trans e2, (n3 _).2 (.inr rfl)⟩
        · rintro ⟨m', hm, f1, f2, f3⟩
          rcases List.mem_append.1 hm with h1 | h1
          · exact .inl ⟨m', by simp [h1], f1, f2, f3⟩
          · simp only [List.mem_singleton] at h1
            subst h1
            rw [hk'.1] at f1
            rw [hk'.2] at f2
            rcases (n3 _).1 f3 with h2 | h2
            · exact .inl ⟨m, by simp, f1, f2, h2⟩
            · exact .inr ⟨by omega, by omega, h2⟩
    · rename_i e
      obtain ⟨c0, hc0⟩ := CanR.some (h.can m hmm).2
      have h1 := (lessK_iff _ _).1 (hb m hmm c0 hc0)
      dsimp only at h1
      refine hfresh fun m' hm' => ?_
      rcases List.mem_append.1 hm' with h2 | h2
      · have := hps.2.2 m' h2 m (by simp)
        unfold ltMk at this
        omega
      · simp only [List.mem_singleton] at h2
        subst h2
        omega
def SortK (L : List K) : Prop := L.Pairwise (fun a b => lessK a b = true) ∧ ∀ k ∈ L, 1 ≤ k.c
theorem marksK_canon {L : List K} (h : SortK L) : Canon (SetL L) (marksK L) := by
  have : ∀ i, i ≤ L.length → Canon (SetL (L.take i)) (marksK (L.take i)) := fun i => by
    induction i with
    | zero => intro _; exact ⟨by simp [marksK], by simp [marksK], by simp [marksK, SetL]⟩
    | succ i ih =>
      intro hi
      have e : L.take (i + 1) = L.take i ++ [L[i]] := by rw [List.take_add_one, List.getElem?_eq_getElem (by omega)]; rfl
      rw [e]
      have := marks_step (ih (by omega)) (k := L[i]) (h.2 _ (List.getElem_mem _)) fun y hy => by
        obtain ⟨j, hj, rfl⟩ := List.getElem_of_mem hy
        rw [List.getElem_take]
        exact List.pairwise_iff_getElem.1 h.1 j i _ _ (by simp at hj; omega)
      unfold marksK at this ⊢
      rw [List.foldl_append]; exact this
  have h1 := this L.length (Nat.le_refl _)
  rw [List.take_length] at h1
  exact h1
theorem putK_mem (k : K) : ∀ (L : List K) (x : K), x ∈ putK k L ↔ x = k ∨ x ∈ L
  | [], x => by simp [putK]
  | y :: r, x => by
    simp only [putK]
    split
    · simp only [List.mem_cons]
    · simp only [List.mem_cons, putK_mem k r x]
      constructor
      · rintro (h | h | h) <;> simp [h]
      · rintro (h | h | h) <;> simp [h]
theorem putK_sorted (k : K) : ∀ {L : List K}, L.Pairwise (fun a b => lessK a b = true) → k ∉ L → (putK k L).Pairwise (fun a b => lessK a b = true)
  | [], _, _ => by simp [putK]
  | y :: r, h, hn => by
    obtain ⟨h1, h2⟩ := List.pairwise_cons.1 h
    simp only [List.mem_cons, not_or] at hn
    simp only [putK]
    split
    · rename_i e
      refine List.pairwise_cons.2 ⟨fun z hz => ?_, h⟩
      rcases List.mem_cons.1 hz with e1 | e1
      · subst e1; exact e
      · have h3 := (lessK_iff _ _).1 (h1 z e1)
        have h4 := (lessK_iff _ _).1 e
        exact (lessK_iff _ _).2 (by omega)
    · rename_i e
      refine List.pairwise_cons.2 ⟨fun z hz => ?_, putK_sorted k h2 hn.2⟩
      rcases (putK_mem k r z).1 hz with e1 | e1
      · subst e1
        have h5 : ¬ (z.o = y.o ∧ z.e = y.e ∧ z.c = y.c) := fun ⟨a1, a2, a3⟩ => hn.1 (by
          obtain ⟨z1, z2, z3⟩ := z
          obtain ⟨y1, y2, y3⟩ := y
          simp only at a1 a2 a3
          rw [a1, a2, a3])
        rw [lessK_iff] at e
        exact (lessK_iff _ _).2 (by omega)
      · exact h1 z e1
end Go.Proofs.Ytmifjilknojkaaa
