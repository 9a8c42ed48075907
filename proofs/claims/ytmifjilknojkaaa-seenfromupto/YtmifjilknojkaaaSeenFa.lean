/- The set of marks: which marks are right; the document's check. -/
import Derived.Test.YtmifjilknojkaaaSeenJ
import Derived.Test.YtmifjilknojkaaaSeenR
namespace Go.Proofs.Ytmifjilknojkaaa
open Go Go.Vm
attribute [local irreducible] Brn Ob Grow CallsM inR LoopVC Mem.row Mem.cells Mem.setCells Mem.upd Own AppVC SrcVC StrVC NextVC New SrcOk subA NewSl Mem.textAt Mem.mapAt Mem.iterAt entryOf kfind Wr NewEls Elems
set_option maxRecDepth 10000
variable {M : Mem}
def Chain : Int → List Int → Prop
  | _, [] => True
  | last, n :: r => last < n ∧ n ≤ 65535 ∧ Chain n r
def RightM (m : Mk) : Prop := (0 ≤ m.o ∧ m.o < 64 ∧ 1 ≤ m.e ∧ m.e ≤ 65535 ∧ 0 ≤ m.up ∧ m.up ≤ 65535) ∧ (0 < m.up ∨ 0 < m.more.length) ∧ Chain (m.up + 1) m.more
theorem Chain.can : ∀ {l : List Int} {last : Int}, Chain last l → l.Pairwise (· < ·) ∧ ∀ c ∈ l, last < c ∧ c ≤ 65535
  | [], _, _ => ⟨.nil, by simp⟩
  | x :: r, last, ⟨h1, h2, h3⟩ => by
    obtain ⟨h4, h5⟩ := Chain.can h3
    refine ⟨List.pairwise_cons.2 ⟨fun y hy => (h5 y hy).1, h4⟩, fun c hc => ?_⟩
    rcases List.mem_cons.1 hc with rfl | hc
    · exact ⟨h1, h2⟩
    · have := h5 c hc; omega
theorem right_ok {m : MkC} (hs : SrcOk M 1 m.a m.more.length (m.more.map intV)) (hn : m.more.length ≤ 4194304) :
    CallsM Try.prog F.seen_right [.agg (encM m).toArray] M fun v M' => ∃ r, v = .bool r ∧ (r = true ↔ RightM m.mk') ∧ M = M' := by
  refine fo_seen_right (by simp) ?_
  have no : ¬ RightM m.mk' → (false = true ↔ RightM m.mk') := fun h => ⟨fun h => (by cases h), fun h' => absurd h' h⟩
  (conv => whnf); refine brn (fun g => ?_) (fun g => ?_)
  · repeat' ((conv => whnf); first | refine ⟨?_, True.intro⟩ | refine brn_t rfl ?_ | refine brn_f rfl ?_ | refine ob rfl ?_ | refine ob (by decide) ?_ | refine grow_same (Mem.le_refl _) ?_ | refine ob (Mem.le_refl _) ?_ | refine ⟨_, Mem.le_refl _, ?_⟩ | fail)
    refine ⟨false, rfl, no fun hr => ?_, rfl⟩
    have g' := of_decide_eq_true g
    have h1 := hr.1
    simp only [MkC.mk'] at h1
    omega
  replace g := of_decide_eq_false g
  (conv => whnf); refine brn (fun g => ?_) (fun g => ?_)
  · repeat' ((conv => whnf); first | refine ⟨?_, True.intro⟩ | refine brn_t rfl ?_ | refine brn_f rfl ?_ | refine ob rfl ?_ | refine ob (by decide) ?_ | refine grow_same (Mem.le_refl _) ?_ | refine ob (Mem.le_refl _) ?_ | refine ⟨_, Mem.le_refl _, ?_⟩ | fail)
    refine ⟨false, rfl, no fun hr => ?_, rfl⟩
    have g' := of_decide_eq_true g
    have h1 := hr.1
    simp only [MkC.mk'] at h1
    omega
  replace g := of_decide_eq_false g
  (conv => whnf); refine brn (fun g => ?_) (fun g => ?_)
  · repeat' ((conv => whnf); first | refine ⟨?_, True.intro⟩ | refine brn_t rfl ?_ | refine brn_f rfl ?_ | refine ob rfl ?_ | refine ob (by decide) ?_ | refine grow_same (Mem.le_refl _) ?_ | refine ob (Mem.le_refl _) ?_ | refine ⟨_, Mem.le_refl _, ?_⟩ | fail)
    refine ⟨false, rfl, no fun hr => ?_, rfl⟩
    have g' := of_decide_eq_true g
    have h1 := hr.1
    simp only [MkC.mk'] at h1
    omega
  replace g := of_decide_eq_false g
  (conv => whnf); refine brn (fun g => ?_) (fun g => ?_)
  · repeat' ((conv => whnf); first | refine ⟨?_, True.intro⟩ | refine brn_t rfl ?_ | refine brn_f rfl ?_ | refine ob rfl ?_ | refine ob (by decide) ?_ | refine grow_same (Mem.le_refl _) ?_ | refine ob (Mem.le_refl _) ?_ | refine ⟨_, Mem.le_refl _, ?_⟩ | fail)
    refine ⟨false, rfl, no fun hr => ?_, rfl⟩
    have g' := of_decide_eq_true g
    have h1 := hr.1
    simp only [MkC.mk'] at h1
    omega
  replace g := of_decide_eq_false g
  (conv => whnf); refine brn (fun g => ?_) (fun g => ?_)
  · repeat' ((conv => whnf); first | refine ⟨?_, True.intro⟩ | refine brn_t rfl ?_ | refine brn_f rfl ?_ | refine ob rfl ?_ | refine ob (by decide) ?_ | refine grow_same (Mem.le_refl _) ?_ | refine ob (Mem.le_refl _) ?_ | refine ⟨_, Mem.le_refl _, ?_⟩ | fail)
    refine ⟨false, rfl, no fun hr => ?_, rfl⟩
    have g' := of_decide_eq_true g
    have h1 := hr.1
    simp only [MkC.mk'] at h1
    omega
  replace g := of_decide_eq_false g
  (conv => whnf); refine brn (fun g => ?_) (fun g => ?_)
  · repeat' ((conv => whnf); first | refine ⟨?_, True.intro⟩ | refine brn_t rfl ?_ | refine brn_f rfl ?_ | refine ob rfl ?_ | refine ob (by decide) ?_ | refine grow_same (Mem.le_refl _) ?_ | refine ob (Mem.le_refl _) ?_ | refine ⟨_, Mem.le_refl _, ?_⟩ | fail)
    refine ⟨false, rfl, no fun hr => ?_, rfl⟩
    have g' := of_decide_eq_true g
    have h1 := hr.1
    simp only [MkC.mk'] at h1
    omega
  replace g := of_decide_eq_false g
  have hb : 0 ≤ m.o ∧ m.o < 64 ∧ 1 ≤ m.e ∧ m.e ≤ 65535 ∧ 0 ≤ m.up ∧ m.up ≤ 65535 := by omega
  (conv => whnf); refine ob (inR_i64 (by omega)) ?_
  (conv => whnf)
  refine loopQ [40, 3] (fun (y : Nat × Int) => [(40, .int .i64 y.1), (3, .int .i64 y.2)]) (fun y => y.1 ≤ m.more.length ∧ (Chain (m.up + 1) m.more ↔ Chain y.2 (m.more.drop y.1))) (fun y => m.more.length - y.1) ⟨0, m.up + 1⟩ ⟨by omega, by simp⟩ ⟨(by repeat' first | exact True.intro | refine ⟨rfl, ?_⟩), (by repeat' first | exact True.intro | refine ⟨rfl, ?_⟩), Mem.le_refl _, rfl⟩ ?_
  rintro ⟨i, last⟩ ⟨hi, hch⟩
  (conv => whnf); refine brn (fun g => ?_) (fun g => ?_)
  · have hlt : i < m.more.length := by have := of_decide_eq_true g; dsimp only at this; omega
    obtain ⟨hkx, bx, ox, hax, hrx⟩ := hs.at (i := i) hlt
    dsimp only at hch
    rw [List.drop_eq_getElem_cons hlt] at hch
    generalize m.more[i] = x at *
    (conv => whnf); refine ob (by first | omega | (dsimp only; omega)) ?_
    (conv => whnf); refine atp hax ?_
    (conv => whnf); refine on hrx ?_
    (conv => whnf); refine brn (fun g1 => ?_) (fun g1 => ?_)
    · repeat' ((conv => whnf); first | refine ⟨?_, True.intro⟩ | refine brn_t rfl ?_ | refine brn_f rfl ?_ | refine ob rfl ?_ | refine ob (by decide) ?_ | refine grow_same (Mem.le_refl _) ?_ | refine ob (Mem.le_refl _) ?_ | refine ⟨_, Mem.le_refl _, ?_⟩ | fail)
      refine ⟨false, rfl, no fun hr => ?_, rfl⟩
      have := (hch.1 hr.2.2).1
      have := of_decide_eq_true g1
      omega
    (conv => whnf); refine brn (fun g2 => ?_) (fun g2 => ?_)
    · repeat' ((conv => whnf); first | refine ⟨?_, True.intro⟩ | refine brn_t rfl ?_ | refine brn_f rfl ?_ | refine ob rfl ?_ | refine ob (by decide) ?_ | refine grow_same (Mem.le_refl _) ?_ | refine ob (Mem.le_refl _) ?_ | refine ⟨_, Mem.le_refl _, ?_⟩ | fail)
      refine ⟨false, rfl, no fun hr => ?_, rfl⟩
      have := (hch.1 hr.2.2).2.1
      have := of_decide_eq_true g2
      omega
    (conv => whnf); refine ob (inR_i64 (by first | omega | (dsimp only; omega))) ?_
    (conv => whnf)
    refine ⟨⟨i + 1, x⟩, ⟨by omega, hch.trans ⟨fun h => h.2.2, fun h => ⟨?_, ?_, h⟩⟩⟩, by dsimp only; omega, ⟨(by repeat' first | exact True.intro | refine ⟨rfl, ?_⟩), (by repeat' first | exact True.intro | refine ⟨rfl, ?_⟩), Mem.le_refl _, rfl⟩⟩
    · have := of_decide_eq_false g1; omega
    · have := of_decide_eq_false g2; omega
  have hge : i = m.more.length := by have := of_decide_eq_false g; dsimp only at this; omega
  subst hge
  have hc : Chain (m.up + 1) m.more := hch.2 (by rw [List.drop_length]; exact True.intro)
  (conv => whnf); refine brn (fun g => ?_) (fun g => ?_)
  · repeat' ((conv => whnf); first | refine ⟨?_, True.intro⟩ | refine brn_t rfl ?_ | refine brn_f rfl ?_ | refine ob rfl ?_ | refine ob (by decide) ?_ | refine grow_same (Mem.le_refl _) ?_ | refine ob (Mem.le_refl _) ?_ | refine ⟨_, Mem.le_refl _, ?_⟩ | fail)
    exact ⟨true, rfl, ⟨fun _ => ⟨hb, .inl (of_decide_eq_true g), hc⟩, fun _ => rfl⟩, rfl⟩
  · repeat' ((conv => whnf); first | refine ⟨?_, True.intro⟩ | refine brn_t rfl ?_ | refine brn_f rfl ?_ | refine ob rfl ?_ | refine ob (by decide) ?_ | refine grow_same (Mem.le_refl _) ?_ | refine ob (Mem.le_refl _) ?_ | refine ⟨_, Mem.le_refl _, ?_⟩ | fail)
    refine ⟨_, rfl, ⟨fun h => ⟨hb, .inr ?_, hc⟩, fun h => ?_⟩, rfl⟩
    · have h3 := of_decide_eq_true h
      show 0 < m.more.length
      omega
    · have h2 := h.2.1
      have := of_decide_eq_false g
      simp only [MkC.mk'] at h2
      exact decide_eq_true (by omega)
theorem rightR_ok {m : MkC} (hs : SrcOk M 1 m.a m.more.length (m.more.map intV)) (hn : m.more.length ≤ 4194304) :
    CallsM Try.prog F.ref14_Right [.agg (encM m).toArray] M fun v M' => ∃ r, v = .bool r ∧ (r = true ↔ RightM m.mk') ∧ M = M' := by
  refine fo_ref14_Right (by simp) ?_
  have no : ¬ RightM m.mk' → (false = true ↔ RightM m.mk') := fun h => ⟨fun h => (by cases h), fun h' => absurd h' h⟩
  (conv => whnf); refine brn (fun g => ?_) (fun g => ?_)
  · repeat' ((conv => whnf); first | refine ⟨?_, True.intro⟩ | refine brn_t rfl ?_ | refine brn_f rfl ?_ | refine ob rfl ?_ | refine ob (by decide) ?_ | refine grow_same (Mem.le_refl _) ?_ | refine ob (Mem.le_refl _) ?_ | refine ⟨_, Mem.le_refl _, ?_⟩ | fail)
    refine ⟨false, rfl, no fun hr => ?_, rfl⟩
    have g' := of_decide_eq_true g
    have h1 := hr.1
    simp only [MkC.mk'] at h1
    omega
  replace g := of_decide_eq_false g
  (conv => whnf); refine brn (fun g => ?_) (fun g => ?_)
  · repeat' ((conv => whnf); first | refine ⟨?_, True.intro⟩ | refine brn_t rfl ?_ | refine brn_f rfl ?_ | refine ob rfl ?_ | refine ob (by decide) ?_ | refine grow_same (Mem.le_refl _) ?_ | refine ob (Mem.le_refl _) ?_ | refine ⟨_, Mem.le_refl _, ?_⟩ | fail)
    refine ⟨false, rfl, no fun hr => ?_, rfl⟩
    have g' := of_decide_eq_true g
    have h1 := hr.1
    simp only [MkC.mk'] at h1
    omega
  replace g := of_decide_eq_false g
  (conv => whnf); refine brn (fun g => ?_) (fun g => ?_)
  · repeat' ((conv => whnf); first | refine ⟨?_, True.intro⟩ | refine brn_t rfl ?_ | refine brn_f rfl ?_ | refine ob rfl ?_ | refine ob (by decide) ?_ | refine grow_same (Mem.le_refl _) ?_ | refine ob (Mem.le_refl _) ?_ | refine ⟨_, Mem.le_refl _, ?_⟩ | fail)
    refine ⟨false, rfl, no fun hr => ?_, rfl⟩
    have g' := of_decide_eq_true g
    have h1 := hr.1
    simp only [MkC.mk'] at h1
    omega
  replace g := of_decide_eq_false g
  (conv => whnf); refine brn (fun g => ?_) (fun g => ?_)
  · repeat' ((conv => whnf); first | refine ⟨?_, True.intro⟩ | refine brn_t rfl ?_ | refine brn_f rfl ?_ | refine ob rfl ?_ | refine ob (by decide) ?_ | refine grow_same (Mem.le_refl _) ?_ | refine ob (Mem.le_refl _) ?_ | refine ⟨_, Mem.le_refl _, ?_⟩ | fail)
    refine ⟨false, rfl, no fun hr => ?_, rfl⟩
    have g' := of_decide_eq_true g
    have h1 := hr.1
    simp only [MkC.mk'] at h1
    omega
  replace g := of_decide_eq_false g
  (conv => whnf); refine brn (fun g => ?_) (fun g => ?_)
  · repeat' ((conv => whnf); first | refine ⟨?_, True.intro⟩ | refine brn_t rfl ?_ | refine brn_f rfl ?_ | refine ob rfl ?_ | refine ob (by decide) ?_ | refine grow_same (Mem.le_refl _) ?_ | refine ob (Mem.le_refl _) ?_ | refine ⟨_, Mem.le_refl _, ?_⟩ | fail)
    refine ⟨false, rfl, no fun hr => ?_, rfl⟩
    have g' := of_decide_eq_true g
    have h1 := hr.1
    simp only [MkC.mk'] at h1
    omega
  replace g := of_decide_eq_false g
  (conv => whnf); refine brn (fun g => ?_) (fun g => ?_)
  · repeat' ((conv => whnf); first | refine ⟨?_, True.intro⟩ | refine brn_t rfl ?_ | refine brn_f rfl ?_ | refine ob rfl ?_ | refine ob (by decide) ?_ | refine grow_same (Mem.le_refl _) ?_ | refine ob (Mem.le_refl _) ?_ | refine ⟨_, Mem.le_refl _, ?_⟩ | fail)
    refine ⟨false, rfl, no fun hr => ?_, rfl⟩
    have g' := of_decide_eq_true g
    have h1 := hr.1
    simp only [MkC.mk'] at h1
    omega
  replace g := of_decide_eq_false g
  have hb : 0 ≤ m.o ∧ m.o < 64 ∧ 1 ≤ m.e ∧ m.e ≤ 65535 ∧ 0 ≤ m.up ∧ m.up ≤ 65535 := by omega
  (conv => whnf); refine brn (fun g => ?_) (fun g => ?_)
  · replace g := of_decide_eq_true g
    (conv => whnf); refine brn (fun g1 => ?_) (fun g1 => ?_)
    · replace g1 := of_decide_eq_true g1
      repeat' ((conv => whnf); first | refine ⟨?_, True.intro⟩ | refine brn_t rfl ?_ | refine brn_f rfl ?_ | refine ob rfl ?_ | refine ob (by decide) ?_ | refine grow_same (Mem.le_refl _) ?_ | refine ob (Mem.le_refl _) ?_ | refine ⟨_, Mem.le_refl _, ?_⟩ | fail)
      refine ⟨false, rfl, no fun hr => ?_, rfl⟩
      have h1 := hr.2.1
      dsimp only [MkC.mk'] at h1
      omega
    replace g1 := of_decide_eq_false g1
    have hz : 0 < m.up ∨ 0 < m.more.length := by omega
    (conv => whnf)
    refine loopQ [3] (fun (i : Nat) => [(3, .int .i64 i)]) (fun i => i ≤ m.more.length ∧ ∃ last, m.up + 1 ≤ last ∧ (i = 0 → last = m.up + 1) ∧ (∀ j, i = j + 1 → m.more[j]? = some last) ∧ (Chain (m.up + 1) m.more ↔ Chain last (m.more.drop i))) (fun i => m.more.length - i) 0 ⟨by omega, m.up + 1, by omega, by simp, by simp, by simp⟩ ⟨(by repeat' first | exact True.intro | refine ⟨rfl, ?_⟩), (by repeat' first | exact True.intro | refine ⟨rfl, ?_⟩), Mem.le_refl _, rfl⟩ ?_
    rintro i ⟨hi, last, hla, hl0, hlj, hch⟩
    (conv => whnf); refine brn (fun g => ?_) (fun g => ?_)
    · have hlt : i < m.more.length := by have := of_decide_eq_true g; omega
      obtain ⟨hkx, bx, ox, hax, hrx⟩ := hs.at (i := i) hlt
      rw [List.drop_eq_getElem_cons hlt] at hch
      have hxi : m.more[i]? = some m.more[i] := List.getElem?_eq_getElem hlt
      generalize m.more[i] = x at *
      (conv => whnf); refine ob (by first | omega | (dsimp only; omega)) ?_
      (conv => whnf); refine atp hax ?_
      (conv => whnf); refine on hrx ?_
      (conv => whnf); refine ob (inR_i64 (by omega)) ?_
      (conv => whnf); refine brn (fun g1 => ?_) (fun g1 => ?_)
      · repeat' ((conv => whnf); first | refine ⟨?_, True.intro⟩ | refine brn_t rfl ?_ | refine brn_f rfl ?_ | refine ob rfl ?_ | refine ob (by decide) ?_ | refine grow_same (Mem.le_refl _) ?_ | refine ob (Mem.le_refl _) ?_ | refine ⟨_, Mem.le_refl _, ?_⟩ | fail)
        refine ⟨false, rfl, no fun hr => ?_, rfl⟩
        have h1 := (Chain.can hr.2.2).2 x (List.mem_of_getElem? hxi)
        have := of_decide_eq_true g1
        dsimp only [MkC.mk'] at h1
        omega
      replace g1 := of_decide_eq_false g1
      (conv => whnf); refine ob (by first | omega | (dsimp only; omega)) ?_
      (conv => whnf); refine atp hax ?_
      (conv => whnf); refine on hrx ?_
      (conv => whnf); refine brn (fun g2 => ?_) (fun g2 => ?_)
      · repeat' ((conv => whnf); first | refine ⟨?_, True.intro⟩ | refine brn_t rfl ?_ | refine brn_f rfl ?_ | refine ob rfl ?_ | refine ob (by decide) ?_ | refine grow_same (Mem.le_refl _) ?_ | refine ob (Mem.le_refl _) ?_ | refine ⟨_, Mem.le_refl _, ?_⟩ | fail)
        refine ⟨false, rfl, no fun hr => ?_, rfl⟩
        have h1 := (hch.1 hr.2.2).2.1
        have := of_decide_eq_true g2
        omega
      replace g2 := of_decide_eq_false g2
      (conv => whnf); refine brn (fun g3 => ?_) (fun g3 => ?_)
      · replace g3 := of_decide_eq_true g3
        obtain ⟨j, rfl⟩ : ∃ j, i = j + 1 := ⟨i - 1, by omega⟩
        have hl1 := hlj j rfl
        have hjl : j < m.more.length := by omega
        obtain ⟨hky, by', oy, hay, hry⟩ := hs.at (i := j) hjl
        rw [List.getElem?_eq_getElem hjl, Option.some.injEq] at hl1
        rw [hl1] at hry
        (conv => whnf); refine ob (by first | omega | (dsimp only; omega)) ?_
        (conv => whnf); refine atp hax ?_
        (conv => whnf); refine on hrx ?_
        (conv => whnf); refine ob (inR_i64 (by omega)) ?_
        (conv => whnf)
        erw [show ((j + 1 : Nat) : Int) - 1 = (j : Nat) from by omega]
        (conv => whnf); refine ob (by first | omega | (dsimp only; omega)) ?_
        (conv => whnf); refine atp hay ?_
        (conv => whnf); refine on hry ?_
        (conv => whnf); refine brn (fun g4 => ?_) (fun g4 => ?_)
        · repeat' ((conv => whnf); first | refine ⟨?_, True.intro⟩ | refine brn_t rfl ?_ | refine brn_f rfl ?_ | refine ob rfl ?_ | refine ob (by decide) ?_ | refine grow_same (Mem.le_refl _) ?_ | refine ob (Mem.le_refl _) ?_ | refine ⟨_, Mem.le_refl _, ?_⟩ | fail)
          refine ⟨false, rfl, no fun hr => ?_, rfl⟩
          have h1 := (hch.1 hr.2.2).1
          have := of_decide_eq_true g4
          omega
        replace g4 := of_decide_eq_false g4
        (conv => whnf); refine ob (inR_i64 (by first | omega | (dsimp only; omega))) ?_
        (conv => whnf)
        exact ⟨j + 1 + 1, ⟨by omega, x, by omega, by omega, fun j' e => by rw [show j' = j + 1 from by omega]; exact hxi, hch.trans ⟨fun h => h.2.2, fun h => ⟨by omega, by omega, h⟩⟩⟩, by omega, ⟨(by repeat' first | exact True.intro | refine ⟨rfl, ?_⟩), (by repeat' first | exact True.intro | refine ⟨rfl, ?_⟩), Mem.le_refl _, rfl⟩⟩
      · have h0 : i = 0 := by have := of_decide_eq_false g3; omega
        have hla2 := hl0 h0
        (conv => whnf); refine ob (inR_i64 (by first | omega | (dsimp only; omega))) ?_
        (conv => whnf)
        exact ⟨i + 1, ⟨by omega, x, by omega, by omega, fun j' e => by rw [show j' = i from by omega]; exact hxi, hch.trans ⟨fun h => h.2.2, fun h => ⟨by omega, by omega, h⟩⟩⟩, by omega, ⟨(by repeat' first | exact True.intro | refine ⟨rfl, ?_⟩), (by repeat' first | exact True.intro | refine ⟨rfl, ?_⟩), Mem.le_refl _, rfl⟩⟩
    have hge : i = m.more.length := by have := of_decide_eq_false g; omega
    subst hge
    have hc : Chain (m.up + 1) m.more := hch.2 (by rw [List.drop_length]; exact True.intro)
    repeat' ((conv => whnf); first | refine ⟨?_, True.intro⟩ | refine brn_t rfl ?_ | refine brn_f rfl ?_ | refine ob rfl ?_ | refine ob (by decide) ?_ | refine grow_same (Mem.le_refl _) ?_ | refine ob (Mem.le_refl _) ?_ | refine ⟨_, Mem.le_refl _, ?_⟩ | fail)
    exact ⟨true, rfl, ⟨fun _ => ⟨hb, hz, hc⟩, fun _ => rfl⟩, rfl⟩
  · replace g := of_decide_eq_false g
    have hz : 0 < m.up ∨ 0 < m.more.length := by omega
    (conv => whnf)
    refine loopQ [3] (fun (i : Nat) => [(3, .int .i64 i)]) (fun i => i ≤ m.more.length ∧ ∃ last, m.up + 1 ≤ last ∧ (i = 0 → last = m.up + 1) ∧ (∀ j, i = j + 1 → m.more[j]? = some last) ∧ (Chain (m.up + 1) m.more ↔ Chain last (m.more.drop i))) (fun i => m.more.length - i) 0 ⟨by omega, m.up + 1, by omega, by simp, by simp, by simp⟩ ⟨(by repeat' first | exact True.intro | refine ⟨rfl, ?_⟩), (by repeat' first | exact True.intro | refine ⟨rfl, ?_⟩), Mem.le_refl _, rfl⟩ ?_
    rintro i ⟨hi, last, hla, hl0, hlj, hch⟩
    (conv => whnf); refine brn (fun g => ?_) (fun g => ?_)
    · have hlt : i < m.more.length := by have := of_decide_eq_true g; omega
      obtain ⟨hkx, bx, ox, hax, hrx⟩ := hs.at (i := i) hlt
      rw [List.drop_eq_getElem_cons hlt] at hch
      have hxi : m.more[i]? = some m.more[i] := List.getElem?_eq_getElem hlt
      generalize m.more[i] = x at *
      (conv => whnf); refine ob (by first | omega | (dsimp only; omega)) ?_
      (conv => whnf); refine atp hax ?_
      (conv => whnf); refine on hrx ?_
      (conv => whnf); refine ob (inR_i64 (by omega)) ?_
      (conv => whnf); refine brn (fun g1 => ?_) (fun g1 => ?_)
      · repeat' ((conv => whnf); first | refine ⟨?_, True.intro⟩ | refine brn_t rfl ?_ | refine brn_f rfl ?_ | refine ob rfl ?_ | refine ob (by decide) ?_ | refine grow_same (Mem.le_refl _) ?_ | refine ob (Mem.le_refl _) ?_ | refine ⟨_, Mem.le_refl _, ?_⟩ | fail)
        refine ⟨false, rfl, no fun hr => ?_, rfl⟩
        have h1 := (Chain.can hr.2.2).2 x (List.mem_of_getElem? hxi)
        have := of_decide_eq_true g1
        dsimp only [MkC.mk'] at h1
        omega
      replace g1 := of_decide_eq_false g1
      (conv => whnf); refine ob (by first | omega | (dsimp only; omega)) ?_
      (conv => whnf); refine atp hax ?_
      (conv => whnf); refine on hrx ?_
      (conv => whnf); refine brn (fun g2 => ?_) (fun g2 => ?_)
      · repeat' ((conv => whnf); first | refine ⟨?_, True.intro⟩ | refine brn_t rfl ?_ | refine brn_f rfl ?_ | refine ob rfl ?_ | refine ob (by decide) ?_ | refine grow_same (Mem.le_refl _) ?_ | refine ob (Mem.le_refl _) ?_ | refine ⟨_, Mem.le_refl _, ?_⟩ | fail)
        refine ⟨false, rfl, no fun hr => ?_, rfl⟩
        have h1 := (hch.1 hr.2.2).2.1
        have := of_decide_eq_true g2
        omega
      replace g2 := of_decide_eq_false g2
      (conv => whnf); refine brn (fun g3 => ?_) (fun g3 => ?_)
      · replace g3 := of_decide_eq_true g3
        obtain ⟨j, rfl⟩ : ∃ j, i = j + 1 := ⟨i - 1, by omega⟩
        have hl1 := hlj j rfl
        have hjl : j < m.more.length := by omega
        obtain ⟨hky, by', oy, hay, hry⟩ := hs.at (i := j) hjl
        rw [List.getElem?_eq_getElem hjl, Option.some.injEq] at hl1
        rw [hl1] at hry
        (conv => whnf); refine ob (by first | omega | (dsimp only; omega)) ?_
        (conv => whnf); refine atp hax ?_
        (conv => whnf); refine on hrx ?_
        (conv => whnf); refine ob (inR_i64 (by omega)) ?_
        (conv => whnf)
        erw [show ((j + 1 : Nat) : Int) - 1 = (j : Nat) from by omega]
        (conv => whnf); refine ob (by first | omega | (dsimp only; omega)) ?_
        (conv => whnf); refine atp hay ?_
        (conv => whnf); refine on hry ?_
        (conv => whnf); refine brn (fun g4 => ?_) (fun g4 => ?_)
        · repeat' ((conv => whnf); first | refine ⟨?_, True.intro⟩ | refine brn_t rfl ?_ | refine brn_f rfl ?_ | refine ob rfl ?_ | refine ob (by decide) ?_ | refine grow_same (Mem.le_refl _) ?_ | refine ob (Mem.le_refl _) ?_ | refine ⟨_, Mem.le_refl _, ?_⟩ | fail)
          refine ⟨false, rfl, no fun hr => ?_, rfl⟩
          have h1 := (hch.1 hr.2.2).1
          have := of_decide_eq_true g4
          omega
        replace g4 := of_decide_eq_false g4
        (conv => whnf); refine ob (inR_i64 (by first | omega | (dsimp only; omega))) ?_
        (conv => whnf)
        exact ⟨j + 1 + 1, ⟨by omega, x, by omega, by omega, fun j' e => by rw [show j' = j + 1 from by omega]; exact hxi, hch.trans ⟨fun h => h.2.2, fun h => ⟨by omega, by omega, h⟩⟩⟩, by omega, ⟨(by repeat' first | exact True.intro | refine ⟨rfl, ?_⟩), (by repeat' first | exact True.intro | refine ⟨rfl, ?_⟩), Mem.le_refl _, rfl⟩⟩
      · have h0 : i = 0 := by have := of_decide_eq_false g3; omega
        have hla2 := hl0 h0
        (conv => whnf); refine ob (inR_i64 (by first | omega | (dsimp only; omega))) ?_
        (conv => whnf)
        exact ⟨i + 1, ⟨by omega, x, by omega, by omega, fun j' e => by rw [show j' = i from by omega]; exact hxi, hch.trans ⟨fun h => h.2.2, fun h => ⟨by omega, by omega, h⟩⟩⟩, by omega, ⟨(by repeat' first | exact True.intro | refine ⟨rfl, ?_⟩), (by repeat' first | exact True.intro | refine ⟨rfl, ?_⟩), Mem.le_refl _, rfl⟩⟩
    have hge : i = m.more.length := by have := of_decide_eq_false g; omega
    subst hge
    have hc : Chain (m.up + 1) m.more := hch.2 (by rw [List.drop_length]; exact True.intro)
    repeat' ((conv => whnf); first | refine ⟨?_, True.intro⟩ | refine brn_t rfl ?_ | refine brn_f rfl ?_ | refine ob rfl ?_ | refine ob (by decide) ?_ | refine grow_same (Mem.le_refl _) ?_ | refine ob (Mem.le_refl _) ?_ | refine ⟨_, Mem.le_refl _, ?_⟩ | fail)
    exact ⟨true, rfl, ⟨fun _ => ⟨hb, hz, hc⟩, fun _ => rfl⟩, rfl⟩
end Go.Proofs.Ytmifjilknojkaaa
