/- Plain law: the rows of a set, and what an added id turns. -/
import Derived.Test.YtmifjilknojkaaaSeenP
namespace Go.Proofs.Ytmifjilknojkaaa
open Go Go.Vm
abbrev EsT := List ((Int × Int) × Ent)
def inE (es : EsT) (o e c : Int) : Prop := inM (upOf es (o, e)) (moreOf es (o, e)) c
def RightK (o e : Int) : Prop := 0 ≤ o ∧ o ≤ 63 ∧ 1 ≤ e ∧ e ≤ 65535
structure InvE (es : EsT) : Prop where
  nodup : (es.map (·.1)).Nodup
  can : ∀ q ∈ es, CanR q.2.up q.2.more ∧ (0 < q.2.up ∨ q.2.more ≠ [])
  range : ∀ q ∈ es, RightK q.1.1 q.1.2 ∧ ∀ c, inM q.2.up q.2.more c → c ≤ 65535
theorem InvE.nil : InvE [] := ⟨by simp, by simp, by simp⟩
theorem InvE.good {es : EsT} (h : InvE es) : GoodE es := fun q hq => by
  obtain ⟨h1, _⟩ := h.can q hq
  have h0 := h1.1
  refine ⟨h0, ?_⟩
  by_cases e : q.2.up = 0
  · omega
  · exact (h.range q hq).2 _ (.inl ⟨by omega, Int.le_refl _⟩)
theorem InvE.sorted {es : EsT} (h : InvE es) : ∀ q ∈ es, q.2.more.Pairwise (· < ·) := fun q hq => (h.can q hq).1.2.1
theorem inE_mem {es : EsT} (h : InvE es) (o e c : Int) : inE es o e c ↔ ∃ q ∈ es, q.1.1 = o ∧ q.1.2 = e ∧ inM q.2.up q.2.more c := by
  unfold inE upOf moreOf
  cases hx : aget es (o, e) with
  | none =>
    refine ⟨fun hc => ?_, fun ⟨q, hq, e1, e2, _⟩ => ?_⟩
    · simp only [inM, List.not_mem_nil, or_false] at hc; omega
    · have := aget_none.1 hx
      exact absurd (List.mem_map.2 ⟨q, hq, by obtain ⟨⟨a, b⟩, z⟩ := q; simp only at e1 e2 ⊢; rw [e1, e2]⟩) this
  | some x =>
    refine ⟨fun hc => ⟨((o, e), x), aget_mem hx, rfl, rfl, hc⟩, fun ⟨q, hq, e1, e2, hc⟩ => ?_⟩
    have : aget es (o, e) = some q.2 := aget_of_mem h.nodup (by obtain ⟨⟨a, b⟩, z⟩ := q; simp only at e1 e2 ⊢; rw [← e1, ← e2]; exact hq)
    rw [hx] at this
    cases this
    exact hc
theorem canR_at {es : EsT} (h : InvE es) (k : Int × Int) : CanR (upOf es k) (moreOf es k) := by
  unfold upOf moreOf
  cases hx : aget es k with
  | none => simp [CanR]
  | some x => exact (h.can _ (aget_mem hx)).1
theorem marks_canon {es : EsT} (h : InvE es) {l : List MkC} (hp : (l.map MkC.mk').Perm (es.map mkOf)) (hs : l.Pairwise (fun x y => ¬ cmpM y x < 0)) : Canon (inE es) (l.map MkC.mk') := by
  have hkeys : ((l.map MkC.mk').map fun m => (m.o, m.e)).Nodup := by
    rw [(hp.map _).nodup_iff, List.map_map]
    exact h.nodup
  refine ⟨?_, fun m hm => ?_, fun o e c => ?_⟩
  · rw [List.map_map, List.Nodup, List.pairwise_map] at hkeys
    rw [List.pairwise_map]
    refine (hs.and hkeys).imp fun {x y} ⟨h1, h2⟩ => ?_
    rw [cmpM_lt] at h1
    have h3 : ¬ (x.o = y.o ∧ x.e = y.e) := fun ⟨e1, e2⟩ => h2 (by simp [MkC.mk', e1, e2])
    show x.o < y.o ∨ (x.o = y.o ∧ x.e < y.e)
    omega
  · obtain ⟨q, hq, rfl⟩ := List.mem_map.1 (hp.mem_iff.1 hm)
    exact h.can q hq
  · rw [inE_mem h]
    constructor
    · rintro ⟨q, hq, e1, e2, hc⟩
      exact ⟨mkOf q, hp.mem_iff.2 (List.mem_map.2 ⟨q, hq, rfl⟩), e1, e2, hc⟩
    · rintro ⟨m, hm, e1, e2, hc⟩
      obtain ⟨q, hq, rfl⟩ := List.mem_map.1 (hp.mem_iff.1 hm)
      exact ⟨q, hq, e1, e2, hc⟩
theorem sum_aset : ∀ (es : EsT) (k : Int × Int) (x x0 : Ent), aget es k = some x0 → gapsE (aset es k x) + x0.more.length = gapsE es + x.more.length
  | [], k, x, x0, h => by simp [aget] at h
  | (k1, y) :: r, k, x, x0, h => by
    simp only [aget] at h
    by_cases e : k1 = k
    · subst e
      simp only [if_true, Option.some.injEq] at h
      subst h
      simp only [aset, if_true, gapsE, List.map_cons, List.sum_cons]
      omega
    · rw [if_neg e] at h
      have ih := sum_aset r k x x0 h
      simp only [aset, if_neg e, gapsE, List.map_cons, List.sum_cons] at ih ⊢
      omega
theorem gaps_aput (es : EsT) (k : Int × Int) (x : Ent) : gapsE (aput es k x) + (moreOf es k).length = gapsE es + x.more.length := by
  unfold moreOf aput
  cases hx : aget es k with
  | none => simp [gapsE]
  | some x0 => exact sum_aset es k x x0 hx
theorem aput_mem {es : EsT} (hn : (es.map (·.1)).Nodup) {k : Int × Int} {x : Ent} {q : (Int × Int) × Ent} (hq : q ∈ aput es k x) : q = (k, x) ∨ (q ∈ es ∧ q.1 ≠ k) := by
  unfold aput at hq
  cases hx : aget es k with
  | none =>
    rw [hx] at hq
    rcases List.mem_append.1 hq with h | h
    · refine .inr ⟨h, fun e => aget_none.1 hx (List.mem_map.2 ⟨q, h, e⟩)⟩
    · exact .inl (by simpa using h)
  | some x0 =>
    rw [hx] at hq
    obtain ⟨u, v, h1, h2, h3, h4⟩ := aset_split hn hx x
    rw [h2] at hq
    rcases List.mem_append.1 hq with h | h
    · exact .inr ⟨by rw [h1]; simp [h], h3 q h⟩
    · rcases List.mem_cons.1 h with h | h
      · exact .inl h
      · exact .inr ⟨by rw [h1]; simp [h], h4 q h⟩
theorem idErr_zero {o d e c : Int} (h : idErr o d e c = 0) : RightK o e ∧ 1 ≤ c ∧ c ≤ 65535 := by
  unfold idErr at h
  split at h
  · unfold RightK; omega
  · omega
theorem hasE_iff {es : EsT} {o d e c : Int} (h : idErr o d e c = 0) : hasE es o d e c = true ↔ inE es o e c := by
  obtain ⟨_, h1, _⟩ := idErr_zero h
  simp only [hasE, h, decide_true, Bool.true_and, Bool.or_eq_true, decide_eq_true_eq, inE, inM]
  constructor
  · rintro (h2 | h2)
    · exact .inl ⟨h1, h2⟩
    · exact .inr h2
  · rintro (h2 | h2)
    · exact .inl h2.2
    · exact .inr h2
theorem mayE_zero {gaps : Int} {es : EsT} {o d e c : Int} (h : mayE gaps es o d e c = 0) : idErr o d e c = 0 ∧ ¬ inE es o e c ∧ (c = upOf es (o, e) + 1 ∨ (gapsE es : Int) < gaps) := by
  have hid : idErr o d e c = 0 := by
    apply Classical.byContradiction
    intro hn
    simp [mayE, hn] at h
  refine ⟨hid, fun hi => ?_, ?_⟩
  · have := (hasE_iff hid).2 hi
    simp [mayE, hid, this] at h
  · by_cases e1 : c = upOf es (o, e) + 1
    · exact .inl e1
    · right
      by_cases e2 : gaps ≤ (gapsE es : Int)
      · by_cases hh : hasE es o d e c = true <;> simp [mayE, hid, e1, e2, hh] at h
      · omega
/-- what an added id turns -/
theorem add_inv {gaps : Int} {es : EsT} (h : InvE es) {o d e c : Int} (hz : mayE gaps es o d e c = 0) {x : Ent} (hx : (x.up, x.more) = addE es o e c) :
    InvE (aput es (o, e) x) ∧ (∀ o' e' c', inE (aput es (o, e) x) o' e' c' ↔ (o' = o ∧ e' = e ∧ c' = c) ∨ inE es o' e' c') ∧ ((gapsE es : Int) ≤ gaps → (gapsE (aput es (o, e) x) : Int) ≤ gaps) ∧ gapsE (aput es (o, e) x) ≤ gapsE es + 1 := by
  obtain ⟨hid, hni, hroom⟩ := mayE_zero hz
  obtain ⟨hrk, hc1, hc2⟩ := idErr_zero hid
  have hcan := canR_at h (o, e)
  obtain ⟨h0, h1, h2⟩ := hcan
  have hni' : ¬ c ≤ upOf es (o, e) ∧ c ∉ moreOf es (o, e) := by
    unfold inE inM at hni
    exact ⟨fun hh => hni (.inl ⟨hc1, hh⟩), fun hh => hni (.inr hh)⟩
  have hso := insC_sorted c _ h1 hni'.2
  have hab : ∀ y ∈ insC c (moreOf es (o, e)), upOf es (o, e) < y := fun y hy => by
    rcases (insC_mem c _ y).1 hy with e1 | e1
    · omega
    · have := h2 y e1; omega
  obtain ⟨n1, n2, n3⟩ := normC_ok _ _ h0 hso hab
  have hup : x.up = (addE es o e c).1 := congrArg Prod.fst hx
  have hmo : x.more = (addE es o e c).2 := congrArg Prod.snd hx
  unfold addE at hup hmo
  rw [← hup, ← hmo] at n1 n2
  rw [← hmo] at n3
  rw [insC_len] at n3
  have hin : ∀ c', inM x.up x.more c' ↔ c' = c ∨ inE es o e c' := fun c' => by
    rw [n2]
    unfold inE inM
    rw [insC_mem]
    constructor
    · rintro (h | h | h) <;> simp [h]
    · rintro (h | h | h) <;> simp [h]
  have hg := gaps_aput es (o, e) x
  refine ⟨⟨aput_nodup h.nodup _ _, fun q hq => ?_, fun q hq => ?_⟩, fun o' e' c' => ?_, fun hle => ?_, by omega⟩
  · rcases aput_mem h.nodup hq with rfl | ⟨hq, _⟩
    · refine ⟨n1, ?_⟩
      by_cases e1 : x.more = []
      · left
        rcases (hin c).2 (.inl rfl) with h5 | h5
        · show 0 < x.up
          omega
        · rw [e1] at h5; cases h5
      · exact .inr e1
    · exact h.can q hq
  · rcases aput_mem h.nodup hq with rfl | ⟨hq, _⟩
    · refine ⟨hrk, fun c' hc' => ?_⟩
      rcases (hin c').1 hc' with e1 | e1
      · omega
      · obtain ⟨q, hq, _, _, hm⟩ := (inE_mem h _ _ _).1 e1
        exact (h.range q hq).2 _ hm
    · exact h.range q hq
  · unfold inE upOf moreOf
    rw [aget_aput]
    by_cases e1 : (o', e') = (o, e)
    · rw [if_pos e1]
      obtain ⟨rfl, rfl⟩ := Prod.mk.injEq .. ▸ e1
      dsimp only
      rw [hin]
      unfold inE upOf moreOf
      simp
    · rw [if_neg e1]
      have : ¬ (o' = o ∧ e' = e ∧ c' = c) := fun ⟨a1, a2, _⟩ => e1 (by rw [a1, a2])
      simp [this]
  · rcases hroom with e1 | e1
    · have hins : insC c (moreOf es (o, e)) = c :: moreOf es (o, e) := by
        cases hm : moreOf es (o, e) with
        | nil => rfl
        | cons y r =>
          simp only [insC]
          rw [if_neg]
          have := h2 y (by rw [hm]; simp)
          omega
      rw [hins, e1] at hmo hso
      have := normC_pop _ _ h0 hso
      rw [← hmo] at this
      omega
    · omega
end Go.Proofs.Ytmifjilknojkaaa
