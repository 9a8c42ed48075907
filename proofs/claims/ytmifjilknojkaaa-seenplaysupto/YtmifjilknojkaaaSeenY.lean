/- Plain law: the set's rows and the document's keys say the same. -/
import Derived.Test.YtmifjilknojkaaaSeenX
import Derived.Test.YtmifjilknojkaaaSeenR
namespace Go.Proofs.Ytmifjilknojkaaa
open Go Go.Vm
structure RelS (es : EsT) (L : List K) : Prop where
  inv : InvE es
  sort : SortK L
  same : ∀ o e c, inE es o e c ↔ SetL L o e c
theorem RelS.nil : RelS [] [] := ⟨InvE.nil, ⟨by simp, by simp⟩, fun o e c => by
  simp only [inE, inM, upOf, moreOf, aget, List.not_mem_nil, or_false, SetL, iff_false]; omega⟩
theorem RelS.canon {es : EsT} {L : List K} (h : RelS es L) : Canon (inE es) (marksK L) := (marksK_canon h.sort).of h.same
theorem RelS.marks {es : EsT} {L : List K} (h : RelS es L) {l : List Mk} (hc : Canon (inE es) l) : l = marksK L := hc.uniq h.canon
theorem RelS.perm {es : EsT} {L : List K} (h : RelS es L) : (marksK L).Perm (es.map mkOf) := by
  obtain ⟨toC, htoC⟩ : ∃ toC : Mk → MkC, toC = fun m => ⟨m.o, m.e, m.up, none, 0, m.more⟩ := ⟨_, rfl⟩
  have hto : ∀ m, (toC m).mk' = m := fun m => by rw [htoC]; rfl
  obtain ⟨le, hle⟩ : ∃ le : Mk → Mk → Bool, le = fun x y => decide (¬ (y.o < x.o ∨ (y.o = x.o ∧ y.e < x.e))) := ⟨_, rfl⟩
  have hs : ((es.map mkOf).mergeSort le).Pairwise (fun a b => le a b = true) := List.pairwise_mergeSort (fun a b c => by rw [hle]; simp only [decide_eq_true_eq]; omega) (fun a b => by rw [hle]; simp only [Bool.or_eq_true, decide_eq_true_eq]; omega) _
  have hp : ((es.map mkOf).mergeSort le).Perm (es.map mkOf) := List.mergeSort_perm _ _
  have hid : (((es.map mkOf).mergeSort le).map toC).map MkC.mk' = (es.map mkOf).mergeSort le := by
    rw [List.map_map, List.map_congr_left (f := MkC.mk' ∘ toC) (g := id) (fun m _ => hto m), List.map_id]
  have hc := marks_canon h.inv (l := ((es.map mkOf).mergeSort le).map toC) (by rw [hid]; exact hp) (by
    rw [List.pairwise_map]
    refine hs.imp fun {x y} hxy => ?_
    rw [cmpM_lt]
    rw [hle] at hxy
    rw [htoC]
    exact of_decide_eq_true hxy)
  rw [hid] at hc
  rw [← h.marks hc]; exact hp
theorem RelS.gaps {es : EsT} {L : List K} (h : RelS es L) : gapsE es = gapsK L := by
  have := (h.perm.map fun m => m.more.length).sum_nat
  rw [gapsK, this, List.map_map]; rfl
theorem nextOf_some : ∀ {l : List Mk} {o e : Int} {m : Mk}, l.Pairwise ltMk → m ∈ l → m.o = o → m.e = e → nextOf l o e = m.up + 1
  | [], _, _, _, _, hm, _, _ => by cases hm
  | x :: r, o, e, m, hp, hm, e1, e2 => by
    unfold nextOf
    split
    · rename_i h
      rw [ltMk_key hp (x := x) (y := m) (by simp) hm (by omega) (by omega)]
    · rename_i h
      rcases List.mem_cons.1 hm with h1 | h1
      · subst h1; exact absurd ⟨e1, e2⟩ h
      · exact nextOf_some (List.pairwise_cons.1 hp).2 h1 e1 e2
theorem nextOf_none : ∀ {l : List Mk} {o e : Int}, (∀ m ∈ l, ¬ (m.o = o ∧ m.e = e)) → nextOf l o e = 1
  | [], _, _, _ => rfl
  | x :: r, o, e, h => by
    unfold nextOf
    rw [if_neg (h x (by simp))]
    exact nextOf_none fun m hm => h m (by simp [hm])
theorem RelS.next {es : EsT} {L : List K} (h : RelS es L) (o e : Int) : nextK L o e = upOf es (o, e) + 1 := by
  unfold nextK upOf
  cases hx : aget es (o, e) with
  | some x =>
    have hm : mkOf ((o, e), x) ∈ marksK L := h.perm.mem_iff.2 (List.mem_map.2 ⟨_, aget_mem hx, rfl⟩)
    exact nextOf_some h.canon.sorted hm rfl rfl
  | none =>
    refine nextOf_none fun m hm ⟨e1, e2⟩ => ?_
    obtain ⟨q, hq, rfl⟩ := List.mem_map.1 (h.perm.mem_iff.1 hm)
    exact aget_none.1 hx (List.mem_map.2 ⟨q, hq, by
      obtain ⟨⟨a, b⟩, z⟩ := q
      simp only [mkOf] at e1 e2 ⊢
      rw [e1, e2]⟩)
theorem RelS.has {es : EsT} {L : List K} (h : RelS es L) (o d e c : Int) : hasE es o d e c = hasK L o d e c := by
  unfold hasK
  by_cases h0 : idErr o d e c = 0
  · rw [decide_eq_true h0, Bool.true_and]
    by_cases h1 : inE es o e c
    · rw [(hasE_iff h0).2 h1]
      have h2 : (⟨o, e, c⟩ : K) ∈ L := (h.same o e c).1 h1
      exact (decide_eq_true h2).symm
    · have : hasE es o d e c = false := by rw [← Bool.not_eq_true, hasE_iff h0]; exact h1
      rw [this]
      have h2 : ¬ (⟨o, e, c⟩ : K) ∈ L := fun h2 => h1 ((h.same o e c).2 h2)
      exact (decide_eq_false h2).symm
  · simp [hasE, h0]
theorem RelS.may {es : EsT} {L : List K} (h : RelS es L) (gaps : Int) (o d e c : Int) : mayE gaps es o d e c = mayK gaps L o d e c := by
  unfold mayE mayK
  rw [h.has, h.next, h.gaps]
/-- both sides add -/
theorem RelS.step {es es' : EsT} {L : List K} (h : RelS es L) {gaps : Int} {o d e c : Int} (hst : StepE gaps es es' o d e c) :
    (mayK gaps L o d e c ≠ 0 ∧ RelS es' L) ∨ (mayK gaps L o d e c = 0 ∧ RelS es' (putK ⟨o, e, c⟩ L)) := by
  rw [← h.may]
  rcases hst with ⟨hne, rfl⟩ | ⟨hz, x, rfl, hx⟩
  · exact .inl ⟨hne, h⟩
  · obtain ⟨hid, hni, -⟩ := mayE_zero hz
    obtain ⟨-, hc1, -⟩ := idErr_zero hid
    obtain ⟨i1, i2, -, -⟩ := add_inv h.inv hz hx
    have hnk : (⟨o, e, c⟩ : K) ∉ L := fun hm => hni ((h.same _ _ _).2 hm)
    refine .inr ⟨hz, i1, ⟨putK_sorted _ h.sort.1 hnk, fun k hk => ?_⟩, fun o' e' c' => ?_⟩
    · rcases (putK_mem _ _ _).1 hk with rfl | h1
      · exact hc1
      · exact h.sort.2 k h1
    · rw [i2, h.same]
      unfold SetL
      rw [putK_mem]
      simp
end Go.Proofs.Ytmifjilknojkaaa
