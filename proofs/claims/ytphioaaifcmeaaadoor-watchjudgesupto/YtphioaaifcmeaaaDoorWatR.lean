/- The document's Judge; written by gen_judge.py. -/
import Derived.Test.YtphioaaifcmeaaaDoorWatQ
namespace Go.Proofs.YtphioaaifcmeaaaDoor
open Go Go.Vm
attribute [local irreducible] Brn Ob Grow CallsM inR LoopVC LoopVC0 Mem.row Mem.cells Mem.setCells Mem.upd Go.Vm.Own AppVC SrcVC StrVC NextVC New SrcOk subA NewSl Mem.textAt Mem.mapAt Mem.iterAt entryOf kfind Wr NewEls Elems
set_option maxRecDepth 10000
variable {M M0 : Mem}
theorem NewEls.new0' {α : Type} {b : Nat} (hb : M b = none) (E : TypeId) (s : Nat) (R : List Value → α → Prop) : NewEls M E s (some ⟨b, 0, none⟩) 0 0 R [] (M.setCells b E []) := by
  unfold NewEls
  refine ⟨[], newSl_iff.2 ⟨Mem.le_setCells hb, by simp, Nat.le_refl _, .inr ⟨b, [], rfl, hb, Mem.has_setCells, by simp, by simp⟩⟩, rfl, rfl, by simp, by simp⟩
set_option maxRecDepth 20000 in
theorem judgeR_ok {a : Option Addr} {n c : Nat} {l : List TdR} (hl : Elems M 9 a n (TdL M) l) (hn : n ≤ 60) {sa : Option Addr} {sn sc : Nat} {steps : List StR} (hs : Elems M 5 sa sn (StL M) steps) (hsn : sn ≤ 1048576) :
    CallsM Tryd.prog F.ref24_Judge [.slice sa sn sc, .slice a n c] M fun v M' => ∃ a2 m c2, v = .slice a2 m c2 ∧ NewEls M T.api_Finding 6 a2 m c2 FdR (judP steps l n) M' := by
  refine fo_ref24_Judge (by simp) ?_
  have hll := hl.len
  repeat' ((conv => whnf); first | refine ⟨?_, True.intro⟩ | refine brn_t rfl ?_ | refine brn_f rfl ?_ | refine ob rfl ?_ | refine ob (by decide) ?_ | refine grow_same (Mem.le_refl _) ?_ | refine ob (Mem.le_refl _) ?_ | refine ⟨_, Mem.le_refl _, ?_⟩ | fail)
  refine new (fun b0 hb0 => ?_)
  replace hb0 : M b0 = none := hb0
  have hN1 : NewEls M T.api_Finding 6 (some ⟨b0, 0, none⟩) 0 0 FdR [] (M.setCells b0 T.api_Finding []) := NewEls.new0' hb0 _ _ _
  obtain ⟨M1, hM1⟩ : ∃ M1, M1 = M.setCells b0 T.api_Finding [] := ⟨_, rfl⟩
  rw [← hM1] at hN1
  (conv => whnf)
  erw [← hM1]
  refine loopF (σ := Nat × Mem × Option Addr × Nat × Nat) [6, 5] (fun y => [(6, .int .i64 y.1), (5, .slice y.2.2.1 y.2.2.2.1 y.2.2.2.2)]) (fun _ => []) (fun y => y.2.1)
    (fun | ⟨i, Mc, a2, m, c2⟩ => i ≤ n ∧ NewEls M T.api_Finding 6 a2 m c2 FdR (judP steps l i) Mc) (fun y => n - y.1) ⟨0, M1, some ⟨b0, 0, none⟩, 0, 0⟩ ⟨by omega, hN1⟩ ⟨(by repeat' first | exact True.intro | refine ⟨rfl, ?_⟩), (by repeat' first | exact True.intro | refine ⟨rfl, ?_⟩), Mem.le_refl _, rfl⟩ ?_
  rintro ⟨i, Mc, a2, m, c2⟩ ⟨hi, hN⟩
  have hjl := judP_len steps l i
  have hml := hN.len
  (conv => whnf); refine brn (fun e => ?_) (fun e => ?_)
  · have hlt : i < n := by have := of_decide_eq_true e; dsimp only at this; omega
    have hle := hN.le
    obtain ⟨hk1, b1, o1, cs, e1, -, hrow, -, hx⟩ := hl.at (by decide) hlt
    have hxi : l[i]? = some l[i] := List.getElem?_eq_getElem hk1
    generalize l[i] = t at *
    have hju : judP steps l (i + 1) = oneP steps (l.take i) i t (judP steps l i) := by rw [judP, hxi]
    obtain ⟨ta, tn, tc, rfl, hts, htb⟩ := hx
    have hlM := hl.imp hle fun _ _ _ hx => hx.le hle
    (conv => whnf); refine ob (by first | omega | (dsimp only; omega)) ?_
    (conv => whnf); refine atp e1 ?_
    (conv => whnf); refine on (Mem.row_le hle hrow) ?_
    (conv => whnf)
    cases ho : t.out

    · (conv => whnf); refine brn (fun g => ?_) (fun g => ?_)
      · repeat' ((conv => whnf); first | refine ⟨?_, True.intro⟩ | refine brn_t rfl ?_ | refine brn_f rfl ?_ | refine ob rfl ?_ | refine ob (by decide) ?_ | refine grow_same (Mem.le_refl _) ?_ | refine ob (Mem.le_refl _) ?_ | refine ⟨_, Mem.le_refl _, ?_⟩ | fail)
        (conv => whnf); refine (againR_ok hlM (by omega) hlt hxi).mono ?_
        rintro v M2 ⟨rfl, hle2⟩
        have hN2 := hN.up hle2
        cases hb4 : againB (l.take i) t.id
        · skip
          repeat' ((conv => whnf); first | refine ⟨?_, True.intro⟩ | refine brn_t rfl ?_ | refine brn_f rfl ?_ | refine ob rfl ?_ | refine ob (by decide) ?_ | refine grow_same (Mem.le_refl _) ?_ | refine ob (Mem.le_refl _) ?_ | refine ⟨_, Mem.le_refl _, ?_⟩ | fail)
          (conv => whnf); refine ob (inR_i64 (by first | omega | (dsimp only; omega))) ?_
          (conv => whnf)
          have hj2 : judP steps l (i + 1) = judP steps l i := by rw [hju]; simp [oneP, addF, ho, hb4]
          refine ⟨⟨i + 1, M2, a2, m, c2⟩, ⟨by omega, ?_⟩, by dsimp only; omega, ⟨(by repeat' first | exact True.intro | refine ⟨rfl, ?_⟩), (by repeat' first | exact True.intro | refine ⟨rfl, ?_⟩), Mem.le_refl _, rfl⟩⟩
          rw [hj2]
          exact hN2
        · skip
          repeat' ((conv => whnf); first | refine ⟨?_, True.intro⟩ | refine brn_t rfl ?_ | refine brn_f rfl ?_ | refine ob rfl ?_ | refine ob (by decide) ?_ | refine grow_same (Mem.le_refl _) ?_ | refine ob (Mem.le_refl _) ?_ | refine ⟨_, Mem.le_refl _, ?_⟩ | fail)
          (conv => whnf); refine appE M hN2 (⟨4, i, t.id⟩ : Fd) rfl rfl (by dsimp only; omega) (by simp [maxLen]; omega) (by simp [Value.oneCell']) fun a1x c1x M1x hN1x _ => ?_
          repeat' ((conv => whnf); first | refine ⟨?_, True.intro⟩ | refine brn_t rfl ?_ | refine brn_f rfl ?_ | refine ob rfl ?_ | refine ob (by decide) ?_ | refine grow_same (Mem.le_refl _) ?_ | refine ob (Mem.le_refl _) ?_ | refine ⟨_, Mem.le_refl _, ?_⟩ | fail)
          (conv => whnf); refine ob (inR_i64 (by first | omega | (dsimp only; omega))) ?_
          (conv => whnf)
          have hj2 : judP steps l (i + 1) = judP steps l i ++ [⟨4, i, t.id⟩] := by rw [hju]; simp [oneP, addF, ho, hb4, (of_decide_eq_true g : t.err = 0)]
          refine ⟨⟨i + 1, M1x, a1x, (m + 1), c1x⟩, ⟨by omega, ?_⟩, by dsimp only; omega, ⟨(by repeat' first | exact True.intro | refine ⟨rfl, ?_⟩), (by repeat' first | exact True.intro | refine ⟨rfl, ?_⟩), Mem.le_refl _, rfl⟩⟩
          rw [hj2]
          exact hN1x
      · skip
        repeat' ((conv => whnf); first | refine ⟨?_, True.intro⟩ | refine brn_t rfl ?_ | refine brn_f rfl ?_ | refine ob rfl ?_ | refine ob (by decide) ?_ | refine grow_same (Mem.le_refl _) ?_ | refine ob (Mem.le_refl _) ?_ | refine ⟨_, Mem.le_refl _, ?_⟩ | fail)
        (conv => whnf); refine ob (inR_i64 (by first | omega | (dsimp only; omega))) ?_
        (conv => whnf)
        have hj2 : judP steps l (i + 1) = judP steps l i := by rw [hju]; simp [oneP, addF, ho, (of_decide_eq_false g : ¬ t.err = 0)]
        refine ⟨⟨i + 1, Mc, a2, m, c2⟩, ⟨by omega, ?_⟩, by dsimp only; omega, ⟨(by repeat' first | exact True.intro | refine ⟨rfl, ?_⟩), (by repeat' first | exact True.intro | refine ⟨rfl, ?_⟩), Mem.le_refl _, rfl⟩⟩
        rw [hj2]
        exact hN
    · have hcs : tdC t ta tn tc = [.int .i64 t.step, .int .i64 t.node, .int .i64 t.o, .int .i64 t.d, .int .i64 t.e, .int .i64 t.c, .int .i64 t.err, .slice ta tn tc, .bool true] := by rw [← ho]
      (conv => whnf); refine (twiceR_ok hlM (by omega) hlt hxi).mono ?_
      rintro v _ ⟨rfl, rfl⟩
      cases hb1 : (l.take i).any (twP t.id)
      · skip
        repeat' ((conv => whnf); first | refine ⟨?_, True.intro⟩ | refine brn_t rfl ?_ | refine brn_f rfl ?_ | refine ob rfl ?_ | refine ob (by decide) ?_ | refine grow_same (Mem.le_refl _) ?_ | refine ob (Mem.le_refl _) ?_ | refine ⟨_, Mem.le_refl _, ?_⟩ | fail)
        (conv => whnf); refine brn (fun g => ?_) (fun g => ?_)
        · have g2 : ¬ t.node = t.d := by simpa using g
          repeat' ((conv => whnf); first | refine ⟨?_, True.intro⟩ | refine brn_t rfl ?_ | refine brn_f rfl ?_ | refine ob rfl ?_ | refine ob (by decide) ?_ | refine grow_same (Mem.le_refl _) ?_ | refine ob (Mem.le_refl _) ?_ | refine ⟨_, Mem.le_refl _, ?_⟩ | fail)
          (conv => whnf); refine appE M hN (⟨2, i, t.id⟩ : Fd) rfl rfl (by dsimp only; omega) (by simp [maxLen]; omega) (by simp [Value.oneCell']) fun a2x c2x M2x hN2x _ => ?_
          repeat' ((conv => whnf); first | refine ⟨?_, True.intro⟩ | refine brn_t rfl ?_ | refine brn_f rfl ?_ | refine ob rfl ?_ | refine ob (by decide) ?_ | refine grow_same (Mem.le_refl _) ?_ | refine ob (Mem.le_refl _) ?_ | refine ⟨_, Mem.le_refl _, ?_⟩ | fail)
          have hle3 := (hN2x).le
          have hgv := givenR_ok (c := sc) (ta := ta) (tn := tn) (tc := tc) (t := t) (hs.imp hle3 fun _ _ _ hx => hx.le hle3) hsn (hts.le hle3)
          rw [hcs] at hgv
          (conv => whnf); refine hgv.mono ?_
          rintro v _ ⟨rfl, rfl⟩
          cases hb3 : (stepsB steps t).any (gvP t)
          · skip
            repeat' ((conv => whnf); first | refine ⟨?_, True.intro⟩ | refine brn_t rfl ?_ | refine brn_f rfl ?_ | refine ob rfl ?_ | refine ob (by decide) ?_ | refine grow_same (Mem.le_refl _) ?_ | refine ob (Mem.le_refl _) ?_ | refine ⟨_, Mem.le_refl _, ?_⟩ | fail)
            (conv => whnf); refine appE M hN2x (⟨3, i, t.id⟩ : Fd) rfl rfl (by dsimp only; omega) (by simp [maxLen]; omega) (by simp [Value.oneCell']) fun a3x c3x M3x hN3x _ => ?_
            repeat' ((conv => whnf); first | refine ⟨?_, True.intro⟩ | refine brn_t rfl ?_ | refine brn_f rfl ?_ | refine ob rfl ?_ | refine ob (by decide) ?_ | refine grow_same (Mem.le_refl _) ?_ | refine ob (Mem.le_refl _) ?_ | refine ⟨_, Mem.le_refl _, ?_⟩ | fail)
            (conv => whnf); refine ob (inR_i64 (by first | omega | (dsimp only; omega))) ?_
            (conv => whnf)
            have hj2 : judP steps l (i + 1) = judP steps l i ++ [⟨2, i, t.id⟩] ++ [⟨3, i, t.id⟩] := by rw [hju]; simp [oneP, addF, ho, hb1, g2, hb3]
            refine ⟨⟨i + 1, M3x, a3x, ((m + 1) + 1), c3x⟩, ⟨by omega, ?_⟩, by dsimp only; omega, ⟨(by repeat' first | exact True.intro | refine ⟨rfl, ?_⟩), (by repeat' first | exact True.intro | refine ⟨rfl, ?_⟩), Mem.le_refl _, rfl⟩⟩
            rw [hj2]
            exact hN3x
          · skip
            repeat' ((conv => whnf); first | refine ⟨?_, True.intro⟩ | refine brn_t rfl ?_ | refine brn_f rfl ?_ | refine ob rfl ?_ | refine ob (by decide) ?_ | refine grow_same (Mem.le_refl _) ?_ | refine ob (Mem.le_refl _) ?_ | refine ⟨_, Mem.le_refl _, ?_⟩ | fail)
            (conv => whnf); refine ob (inR_i64 (by first | omega | (dsimp only; omega))) ?_
            (conv => whnf)
            have hj2 : judP steps l (i + 1) = judP steps l i ++ [⟨2, i, t.id⟩] := by rw [hju]; simp [oneP, addF, ho, hb1, g2, hb3]
            refine ⟨⟨i + 1, M2x, a2x, (m + 1), c2x⟩, ⟨by omega, ?_⟩, by dsimp only; omega, ⟨(by repeat' first | exact True.intro | refine ⟨rfl, ?_⟩), (by repeat' first | exact True.intro | refine ⟨rfl, ?_⟩), Mem.le_refl _, rfl⟩⟩
            rw [hj2]
            exact hN2x
        · have g2 : t.node = t.d := by simpa using g
          repeat' ((conv => whnf); first | refine ⟨?_, True.intro⟩ | refine brn_t rfl ?_ | refine brn_f rfl ?_ | refine ob rfl ?_ | refine ob (by decide) ?_ | refine grow_same (Mem.le_refl _) ?_ | refine ob (Mem.le_refl _) ?_ | refine ⟨_, Mem.le_refl _, ?_⟩ | fail)
          have hle3 := (hN).le
          have hgv := givenR_ok (c := sc) (ta := ta) (tn := tn) (tc := tc) (t := t) (hs.imp hle3 fun _ _ _ hx => hx.le hle3) hsn (hts.le hle3)
          rw [hcs] at hgv
          (conv => whnf); refine hgv.mono ?_
          rintro v _ ⟨rfl, rfl⟩
          cases hb3 : (stepsB steps t).any (gvP t)
          · skip
            repeat' ((conv => whnf); first | refine ⟨?_, True.intro⟩ | refine brn_t rfl ?_ | refine brn_f rfl ?_ | refine ob rfl ?_ | refine ob (by decide) ?_ | refine grow_same (Mem.le_refl _) ?_ | refine ob (Mem.le_refl _) ?_ | refine ⟨_, Mem.le_refl _, ?_⟩ | fail)
            (conv => whnf); refine appE M hN (⟨3, i, t.id⟩ : Fd) rfl rfl (by dsimp only; omega) (by simp [maxLen]; omega) (by simp [Value.oneCell']) fun a4x c4x M4x hN4x _ => ?_
            repeat' ((conv => whnf); first | refine ⟨?_, True.intro⟩ | refine brn_t rfl ?_ | refine brn_f rfl ?_ | refine ob rfl ?_ | refine ob (by decide) ?_ | refine grow_same (Mem.le_refl _) ?_ | refine ob (Mem.le_refl _) ?_ | refine ⟨_, Mem.le_refl _, ?_⟩ | fail)
            (conv => whnf); refine ob (inR_i64 (by first | omega | (dsimp only; omega))) ?_
            (conv => whnf)
            have hj2 : judP steps l (i + 1) = judP steps l i ++ [⟨3, i, t.id⟩] := by rw [hju]; simp [oneP, addF, ho, hb1, g2, hb3]
            refine ⟨⟨i + 1, M4x, a4x, (m + 1), c4x⟩, ⟨by omega, ?_⟩, by dsimp only; omega, ⟨(by repeat' first | exact True.intro | refine ⟨rfl, ?_⟩), (by repeat' first | exact True.intro | refine ⟨rfl, ?_⟩), Mem.le_refl _, rfl⟩⟩
            rw [hj2]
            exact hN4x
          · skip
            repeat' ((conv => whnf); first | refine ⟨?_, True.intro⟩ | refine brn_t rfl ?_ | refine brn_f rfl ?_ | refine ob rfl ?_ | refine ob (by decide) ?_ | refine grow_same (Mem.le_refl _) ?_ | refine ob (Mem.le_refl _) ?_ | refine ⟨_, Mem.le_refl _, ?_⟩ | fail)
            (conv => whnf); refine ob (inR_i64 (by first | omega | (dsimp only; omega))) ?_
            (conv => whnf)
            have hj2 : judP steps l (i + 1) = judP steps l i := by rw [hju]; simp [oneP, addF, ho, hb1, g2, hb3]
            refine ⟨⟨i + 1, Mc, a2, m, c2⟩, ⟨by omega, ?_⟩, by dsimp only; omega, ⟨(by repeat' first | exact True.intro | refine ⟨rfl, ?_⟩), (by repeat' first | exact True.intro | refine ⟨rfl, ?_⟩), Mem.le_refl _, rfl⟩⟩
            rw [hj2]
            exact hN
      · skip
        repeat' ((conv => whnf); first | refine ⟨?_, True.intro⟩ | refine brn_t rfl ?_ | refine brn_f rfl ?_ | refine ob rfl ?_ | refine ob (by decide) ?_ | refine grow_same (Mem.le_refl _) ?_ | refine ob (Mem.le_refl _) ?_ | refine ⟨_, Mem.le_refl _, ?_⟩ | fail)
        (conv => whnf); refine appE M hN (⟨1, i, t.id⟩ : Fd) rfl rfl (by dsimp only; omega) (by simp [maxLen]; omega) (by simp [Value.oneCell']) fun a5x c5x M5x hN5x _ => ?_
        repeat' ((conv => whnf); first | refine ⟨?_, True.intro⟩ | refine brn_t rfl ?_ | refine brn_f rfl ?_ | refine ob rfl ?_ | refine ob (by decide) ?_ | refine grow_same (Mem.le_refl _) ?_ | refine ob (Mem.le_refl _) ?_ | refine ⟨_, Mem.le_refl _, ?_⟩ | fail)
        (conv => whnf); refine brn (fun g => ?_) (fun g => ?_)
        · have g2 : ¬ t.node = t.d := by simpa using g
          repeat' ((conv => whnf); first | refine ⟨?_, True.intro⟩ | refine brn_t rfl ?_ | refine brn_f rfl ?_ | refine ob rfl ?_ | refine ob (by decide) ?_ | refine grow_same (Mem.le_refl _) ?_ | refine ob (Mem.le_refl _) ?_ | refine ⟨_, Mem.le_refl _, ?_⟩ | fail)
          (conv => whnf); refine appE M hN5x (⟨2, i, t.id⟩ : Fd) rfl rfl (by dsimp only; omega) (by simp [maxLen]; omega) (by simp [Value.oneCell']) fun a6x c6x M6x hN6x _ => ?_
          repeat' ((conv => whnf); first | refine ⟨?_, True.intro⟩ | refine brn_t rfl ?_ | refine brn_f rfl ?_ | refine ob rfl ?_ | refine ob (by decide) ?_ | refine grow_same (Mem.le_refl _) ?_ | refine ob (Mem.le_refl _) ?_ | refine ⟨_, Mem.le_refl _, ?_⟩ | fail)
          have hle3 := (hN6x).le
          have hgv := givenR_ok (c := sc) (ta := ta) (tn := tn) (tc := tc) (t := t) (hs.imp hle3 fun _ _ _ hx => hx.le hle3) hsn (hts.le hle3)
          rw [hcs] at hgv
          (conv => whnf); refine hgv.mono ?_
          rintro v _ ⟨rfl, rfl⟩
          cases hb3 : (stepsB steps t).any (gvP t)
          · skip
            repeat' ((conv => whnf); first | refine ⟨?_, True.intro⟩ | refine brn_t rfl ?_ | refine brn_f rfl ?_ | refine ob rfl ?_ | refine ob (by decide) ?_ | refine grow_same (Mem.le_refl _) ?_ | refine ob (Mem.le_refl _) ?_ | refine ⟨_, Mem.le_refl _, ?_⟩ | fail)
            (conv => whnf); refine appE M hN6x (⟨3, i, t.id⟩ : Fd) rfl rfl (by dsimp only; omega) (by simp [maxLen]; omega) (by simp [Value.oneCell']) fun a7x c7x M7x hN7x _ => ?_
            repeat' ((conv => whnf); first | refine ⟨?_, True.intro⟩ | refine brn_t rfl ?_ | refine brn_f rfl ?_ | refine ob rfl ?_ | refine ob (by decide) ?_ | refine grow_same (Mem.le_refl _) ?_ | refine ob (Mem.le_refl _) ?_ | refine ⟨_, Mem.le_refl _, ?_⟩ | fail)
            (conv => whnf); refine ob (inR_i64 (by first | omega | (dsimp only; omega))) ?_
            (conv => whnf)
            have hj2 : judP steps l (i + 1) = judP steps l i ++ [⟨1, i, t.id⟩] ++ [⟨2, i, t.id⟩] ++ [⟨3, i, t.id⟩] := by rw [hju]; simp [oneP, addF, ho, hb1, g2, hb3]
            refine ⟨⟨i + 1, M7x, a7x, (((m + 1) + 1) + 1), c7x⟩, ⟨by omega, ?_⟩, by dsimp only; omega, ⟨(by repeat' first | exact True.intro | refine ⟨rfl, ?_⟩), (by repeat' first | exact True.intro | refine ⟨rfl, ?_⟩), Mem.le_refl _, rfl⟩⟩
            rw [hj2]
            exact hN7x
          · skip
            repeat' ((conv => whnf); first | refine ⟨?_, True.intro⟩ | refine brn_t rfl ?_ | refine brn_f rfl ?_ | refine ob rfl ?_ | refine ob (by decide) ?_ | refine grow_same (Mem.le_refl _) ?_ | refine ob (Mem.le_refl _) ?_ | refine ⟨_, Mem.le_refl _, ?_⟩ | fail)
            (conv => whnf); refine ob (inR_i64 (by first | omega | (dsimp only; omega))) ?_
            (conv => whnf)
            have hj2 : judP steps l (i + 1) = judP steps l i ++ [⟨1, i, t.id⟩] ++ [⟨2, i, t.id⟩] := by rw [hju]; simp [oneP, addF, ho, hb1, g2, hb3]
            refine ⟨⟨i + 1, M6x, a6x, ((m + 1) + 1), c6x⟩, ⟨by omega, ?_⟩, by dsimp only; omega, ⟨(by repeat' first | exact True.intro | refine ⟨rfl, ?_⟩), (by repeat' first | exact True.intro | refine ⟨rfl, ?_⟩), Mem.le_refl _, rfl⟩⟩
            rw [hj2]
            exact hN6x
        · have g2 : t.node = t.d := by simpa using g
          repeat' ((conv => whnf); first | refine ⟨?_, True.intro⟩ | refine brn_t rfl ?_ | refine brn_f rfl ?_ | refine ob rfl ?_ | refine ob (by decide) ?_ | refine grow_same (Mem.le_refl _) ?_ | refine ob (Mem.le_refl _) ?_ | refine ⟨_, Mem.le_refl _, ?_⟩ | fail)
          have hle3 := (hN5x).le
          have hgv := givenR_ok (c := sc) (ta := ta) (tn := tn) (tc := tc) (t := t) (hs.imp hle3 fun _ _ _ hx => hx.le hle3) hsn (hts.le hle3)
          rw [hcs] at hgv
          (conv => whnf); refine hgv.mono ?_
          rintro v _ ⟨rfl, rfl⟩
          cases hb3 : (stepsB steps t).any (gvP t)
          · skip
            repeat' ((conv => whnf); first | refine ⟨?_, True.intro⟩ | refine brn_t rfl ?_ | refine brn_f rfl ?_ | refine ob rfl ?_ | refine ob (by decide) ?_ | refine grow_same (Mem.le_refl _) ?_ | refine ob (Mem.le_refl _) ?_ | refine ⟨_, Mem.le_refl _, ?_⟩ | fail)
            (conv => whnf); refine appE M hN5x (⟨3, i, t.id⟩ : Fd) rfl rfl (by dsimp only; omega) (by simp [maxLen]; omega) (by simp [Value.oneCell']) fun a8x c8x M8x hN8x _ => ?_
            repeat' ((conv => whnf); first | refine ⟨?_, True.intro⟩ | refine brn_t rfl ?_ | refine brn_f rfl ?_ | refine ob rfl ?_ | refine ob (by decide) ?_ | refine grow_same (Mem.le_refl _) ?_ | refine ob (Mem.le_refl _) ?_ | refine ⟨_, Mem.le_refl _, ?_⟩ | fail)
            (conv => whnf); refine ob (inR_i64 (by first | omega | (dsimp only; omega))) ?_
            (conv => whnf)
            have hj2 : judP steps l (i + 1) = judP steps l i ++ [⟨1, i, t.id⟩] ++ [⟨3, i, t.id⟩] := by rw [hju]; simp [oneP, addF, ho, hb1, g2, hb3]
            refine ⟨⟨i + 1, M8x, a8x, ((m + 1) + 1), c8x⟩, ⟨by omega, ?_⟩, by dsimp only; omega, ⟨(by repeat' first | exact True.intro | refine ⟨rfl, ?_⟩), (by repeat' first | exact True.intro | refine ⟨rfl, ?_⟩), Mem.le_refl _, rfl⟩⟩
            rw [hj2]
            exact hN8x
          · skip
            repeat' ((conv => whnf); first | refine ⟨?_, True.intro⟩ | refine brn_t rfl ?_ | refine brn_f rfl ?_ | refine ob rfl ?_ | refine ob (by decide) ?_ | refine grow_same (Mem.le_refl _) ?_ | refine ob (Mem.le_refl _) ?_ | refine ⟨_, Mem.le_refl _, ?_⟩ | fail)
            (conv => whnf); refine ob (inR_i64 (by first | omega | (dsimp only; omega))) ?_
            (conv => whnf)
            have hj2 : judP steps l (i + 1) = judP steps l i ++ [⟨1, i, t.id⟩] := by rw [hju]; simp [oneP, addF, ho, hb1, g2, hb3]
            refine ⟨⟨i + 1, M5x, a5x, (m + 1), c5x⟩, ⟨by omega, ?_⟩, by dsimp only; omega, ⟨(by repeat' first | exact True.intro | refine ⟨rfl, ?_⟩), (by repeat' first | exact True.intro | refine ⟨rfl, ?_⟩), Mem.le_refl _, rfl⟩⟩
            rw [hj2]
            exact hN5x
  · have hge : i = n := by have := of_decide_eq_false e; dsimp only at this; omega
    subst hge
    repeat' ((conv => whnf); first | refine ⟨?_, True.intro⟩ | refine brn_t rfl ?_ | refine brn_f rfl ?_ | refine ob rfl ?_ | refine ob (by decide) ?_ | refine grow_same (Mem.le_refl _) ?_ | refine ob (Mem.le_refl _) ?_ | refine ⟨_, Mem.le_refl _, ?_⟩ | fail)
    exact ⟨a2, m, c2, rfl, hN⟩
end Go.Proofs.YtphioaaifcmeaaaDoor
