/- Judge. -/
import Derived.Test.YtjkejbenppeagaaGreatDoorWatP
namespace Go.Proofs.YtjkejbenppeagaaGreatDoor
open Go Go.Vm
attribute [local irreducible] Brn Ob Grow CallsM inR LoopVC LoopVC0 Mem.row Mem.cells Mem.setCells Mem.upd Go.Vm.Own AppVC SrcVC StrVC NextVC New SrcOk subA NewSl Mem.textAt Mem.mapAt Mem.iterAt entryOf kfind Wr NewEls Elems
set_option maxRecDepth 10000
variable {M M0 : Mem}
set_option maxRecDepth 20000 in
theorem judge_ok {a : Option Addr} {n c : Nat} {l : List TdR} (hl : Elems M 9 a n (TdL M) l) (hn : n ≤ 60) (hc : n ≤ c) {sa : Option Addr} {sn sc : Nat} {steps : List StR} (hs : Elems M 5 sa sn (StL M) steps) (hsn : sn ≤ 1048576) (hsc : sn ≤ sc) :
    CallsM Tryz.prog F.watch_Judge [.slice sa sn sc, .slice a n c] M fun v M' => ∃ a2 c2, v = .slice a2 (judP steps l n).length c2 ∧ NewEls M T.api_Finding 6 a2 (judP steps l n).length c2 FdR (judP steps l n) M' := by
  refine fo_watch_Judge (by simp) ?_
  have hll := hl.len
  repeat' ((conv => whnf); first | refine ⟨?_, True.intro⟩ | refine brn_t rfl ?_ | refine brn_f rfl ?_ | refine ob rfl ?_ | refine ob (by decide) ?_ | refine grow_same (Mem.le_refl _) ?_ | refine ob (Mem.le_refl _) ?_ | refine ⟨_, Mem.le_refl _, ?_⟩ | fail)
  refine loopP ?_
  (conv => whnf); refine new (fun bo hbo => ?_)
  replace hbo : M bo = none := hbo
  have hle1 : M.le (M.setCells bo T.s_api_Finding [.slice none 0 0]) := Mem.le_setCells hbo
  have hb1 : (M.setCells bo T.s_api_Finding [.slice none 0 0]).has bo T.s_api_Finding [.slice none 0 0] := Mem.has_setCells
  have hJ : JuAt M (M.setCells bo T.s_api_Finding [.slice none 0 0]) bo [] := ⟨none, 0, hb1, (NewEls.nil M T.api_Finding 6 FdR).up fun y o hy => by
    unfold Mem.minus
    rw [if_neg fun e => by subst e; rw [hbo] at hy; cases hy]
    exact hle1 _ _ hy, hbo⟩
  obtain ⟨M1, hM1⟩ : ∃ M1, M1 = M.setCells bo T.s_api_Finding [.slice none 0 0] := ⟨_, rfl⟩
  rw [← hM1] at hle1 hb1 hJ
  (conv => whnf)
  erw [← hM1]
  refine loopF0 (σ := Nat × Mem) [11] (fun y => [(11, .int .i64 y.1)]) (fun _ => [.gone bo]) (fun y => y.2) (fun y => y.1 ≤ n ∧ JuAt M y.2 bo (judP steps l y.1)) (fun y => n - y.1) ⟨0, M1⟩ ⟨by omega, hJ⟩ ⟨(by repeat' first | exact True.intro | refine ⟨rfl, ?_⟩), (by repeat' first | exact True.intro | refine ⟨rfl, ?_⟩), Mem.le_refl _, rfl⟩ ?_
  rintro ⟨i, Mc⟩ ⟨hi, hJc⟩
  dsimp only at hi hJc
  have hjl := judP_len steps l i
  (conv => whnf); refine brn (fun e => ?_) (fun e => ?_)
  · have hlt : i < n := by have := of_decide_eq_true e; dsimp only at this; omega
    have hle := hJc.le
    obtain ⟨hk1, b1, o1, cs, e1, -, hrow, -, hx⟩ := hl.at (by decide) hlt
    have hxi : l[i]? = some l[i] := List.getElem?_eq_getElem hk1
    generalize l[i] = t at *
    have hju : judP steps l (i + 1) = oneP steps (l.take i) i t (judP steps l i) := by rw [judP, hxi]
    obtain ⟨ta, tn, tc, rfl, hts, htb⟩ := hx
    have hpre : Elems M 9 (subA a 0 c 9) i (TdL M) (l.take i) := hl.take (by omega) hc (by decide)
    (conv => whnf); refine ob (by first | omega | (dsimp only; omega)) ?_
    (conv => whnf); refine atp e1 ?_
    (conv => whnf); refine on (Mem.row_le hle hrow) ?_
    have hpreM := hpre.imp hle fun _ _ _ hx => hx.le hle
    have t1 : ((i : Nat) : Int).toNat - Int.toNat 0 = i := by show i - 0 = i; omega
    have t2 : Int.toNat 0 = 0 := rfl
    (conv => whnf)
    cases ho : t.out
    · skip
      (conv => whnf); refine brn (fun g => ?_) (fun g => ?_)
      · (conv => whnf); refine ob ⟨by decide, by omega, by omega⟩ ?_
        (conv => whnf)
        rw [t1, t2]
        repeat' ((conv => whnf); first | refine ⟨?_, True.intro⟩ | refine brn_t rfl ?_ | refine brn_f rfl ?_ | refine ob rfl ?_ | refine ob (by decide) ?_ | refine grow_same (Mem.le_refl _) ?_ | refine ob (Mem.le_refl _) ?_ | refine ⟨_, Mem.le_refl _, ?_⟩ | fail)
        refine (again_ok hpreM (by omega) t.id).mono ?_
        rintro v M2 ⟨rfl, hle2⟩
        have hJ2 := hJc.to hle2
        repeat' ((conv => whnf); first | refine ⟨?_, True.intro⟩ | refine brn_t rfl ?_ | refine brn_f rfl ?_ | refine ob rfl ?_ | refine ob (by decide) ?_ | refine grow_same (Mem.le_refl _) ?_ | refine ob (Mem.le_refl _) ?_ | refine ⟨_, Mem.le_refl _, ?_⟩ | fail)
        refine new (fun ba hba => ?_)
        replace hba : M2 ba = none := hba
        have hle3 : M2.le (M2.setCells ba T.int [.int .i64 i]) := Mem.le_setCells hba
        have ka3 : (M2.setCells ba T.int [.int .i64 i]).has ba T.int [.int .i64 i] := Mem.has_setCells
        obtain ⟨M3, hM3⟩ : ∃ M3, M3 = M2.setCells ba T.int [.int .i64 i] := ⟨_, rfl⟩
        rw [← hM3] at hle3 ka3
        (conv => whnf)
        erw [← hM3]
        refine new (fun bt hbt => ?_)
        replace hbt : M3 bt = none := hbt
        have hcs : tdC t ta tn tc = [.int .i64 t.step, .int .i64 t.node, .int .i64 t.o, .int .i64 t.d, .int .i64 t.e, .int .i64 t.c, .int .i64 t.err, .slice ta tn tc, .bool false] := by rw [← ho]
        have hle4 : M3.le (M3.setCells bt T.api_Told [.int .i64 t.step, .int .i64 t.node, .int .i64 t.o, .int .i64 t.d, .int .i64 t.e, .int .i64 t.c, .int .i64 t.err, .slice ta tn tc, .bool false]) := Mem.le_setCells hbt
        have kt4 : (M3.setCells bt T.api_Told [.int .i64 t.step, .int .i64 t.node, .int .i64 t.o, .int .i64 t.d, .int .i64 t.e, .int .i64 t.c, .int .i64 t.err, .slice ta tn tc, .bool false]).has bt T.api_Told (tdC t ta tn tc) := by rw [hcs]; exact Mem.has_setCells
        obtain ⟨M4, hM4⟩ : ∃ M4, M4 = M3.setCells bt T.api_Told [.int .i64 t.step, .int .i64 t.node, .int .i64 t.o, .int .i64 t.d, .int .i64 t.e, .int .i64 t.c, .int .i64 t.err, .slice ta tn tc, .bool false] := ⟨_, rfl⟩
        rw [← hM4] at hle4 kt4
        (conv => whnf)
        erw [← hM4]
        have ka4 := ka3.le hle4
        have hJ4 := hJ2.to (Mem.le_trans hle3 hle4)
        refine (found_ok hJ4 (by omega) ka4 kt4 4 _).mono ?_
        rintro v M5 ⟨rfl, hJ5, ka5, kt5⟩
        repeat' ((conv => whnf); first | refine ⟨?_, True.intro⟩ | refine brn_t rfl ?_ | refine brn_f rfl ?_ | refine ob rfl ?_ | refine ob (by decide) ?_ | refine grow_same (Mem.le_refl _) ?_ | refine ob (Mem.le_refl _) ?_ | refine ⟨_, Mem.le_refl _, ?_⟩ | fail)
        refine ob (inR_i64 (by first | omega | (dsimp only; omega))) ?_
        (conv => whnf)
        refine ⟨⟨i + 1, M5⟩, ⟨by dsimp only; omega, ?_⟩, by dsimp only; omega, ⟨(by repeat' first | exact True.intro | refine ⟨rfl, ?_⟩), (by repeat' first | exact True.intro | refine ⟨rfl, ?_⟩), Mem.le_refl _, rfl⟩⟩
        dsimp only
        rw [hju]
        unfold oneP
        rw [ho, if_neg (by decide), g]
        exact hJ5
      · skip
        repeat' ((conv => whnf); first | refine ⟨?_, True.intro⟩ | refine brn_t rfl ?_ | refine brn_f rfl ?_ | refine ob rfl ?_ | refine ob (by decide) ?_ | refine grow_same (Mem.le_refl _) ?_ | refine ob (Mem.le_refl _) ?_ | refine ⟨_, Mem.le_refl _, ?_⟩ | fail)
        refine new (fun ba hba => ?_)
        replace hba : Mc ba = none := hba
        have hle3 : Mc.le (Mc.setCells ba T.int [.int .i64 i]) := Mem.le_setCells hba
        have ka3 : (Mc.setCells ba T.int [.int .i64 i]).has ba T.int [.int .i64 i] := Mem.has_setCells
        obtain ⟨M3, hM3⟩ : ∃ M3, M3 = Mc.setCells ba T.int [.int .i64 i] := ⟨_, rfl⟩
        rw [← hM3] at hle3 ka3
        (conv => whnf)
        erw [← hM3]
        refine new (fun bt hbt => ?_)
        replace hbt : M3 bt = none := hbt
        have hcs : tdC t ta tn tc = [.int .i64 t.step, .int .i64 t.node, .int .i64 t.o, .int .i64 t.d, .int .i64 t.e, .int .i64 t.c, .int .i64 t.err, .slice ta tn tc, .bool false] := by rw [← ho]
        have hle4 : M3.le (M3.setCells bt T.api_Told [.int .i64 t.step, .int .i64 t.node, .int .i64 t.o, .int .i64 t.d, .int .i64 t.e, .int .i64 t.c, .int .i64 t.err, .slice ta tn tc, .bool false]) := Mem.le_setCells hbt
        have kt4 : (M3.setCells bt T.api_Told [.int .i64 t.step, .int .i64 t.node, .int .i64 t.o, .int .i64 t.d, .int .i64 t.e, .int .i64 t.c, .int .i64 t.err, .slice ta tn tc, .bool false]).has bt T.api_Told (tdC t ta tn tc) := by rw [hcs]; exact Mem.has_setCells
        obtain ⟨M4, hM4⟩ : ∃ M4, M4 = M3.setCells bt T.api_Told [.int .i64 t.step, .int .i64 t.node, .int .i64 t.o, .int .i64 t.d, .int .i64 t.e, .int .i64 t.c, .int .i64 t.err, .slice ta tn tc, .bool false] := ⟨_, rfl⟩
        rw [← hM4] at hle4 kt4
        (conv => whnf)
        erw [← hM4]
        have ka4 := ka3.le hle4
        have hJ4 := hJc.to (Mem.le_trans hle3 hle4)
        refine (found_ok hJ4 (by omega) ka4 kt4 4 _).mono ?_
        rintro v M5 ⟨rfl, hJ5, ka5, kt5⟩
        repeat' ((conv => whnf); first | refine ⟨?_, True.intro⟩ | refine brn_t rfl ?_ | refine brn_f rfl ?_ | refine ob rfl ?_ | refine ob (by decide) ?_ | refine grow_same (Mem.le_refl _) ?_ | refine ob (Mem.le_refl _) ?_ | refine ⟨_, Mem.le_refl _, ?_⟩ | fail)
        refine ob (inR_i64 (by first | omega | (dsimp only; omega))) ?_
        (conv => whnf)
        refine ⟨⟨i + 1, M5⟩, ⟨by dsimp only; omega, ?_⟩, by dsimp only; omega, ⟨(by repeat' first | exact True.intro | refine ⟨rfl, ?_⟩), (by repeat' first | exact True.intro | refine ⟨rfl, ?_⟩), Mem.le_refl _, rfl⟩⟩
        dsimp only
        rw [hju]
        unfold oneP
        rw [ho, if_neg (by decide), g]
        exact hJ5
    · (conv => whnf); refine ob ⟨by decide, by omega, by omega⟩ ?_
      (conv => whnf)
      rw [t1, t2]
      repeat' ((conv => whnf); first | refine ⟨?_, True.intro⟩ | refine brn_t rfl ?_ | refine brn_f rfl ?_ | refine ob rfl ?_ | refine ob (by decide) ?_ | refine grow_same (Mem.le_refl _) ?_ | refine ob (Mem.le_refl _) ?_ | refine ⟨_, Mem.le_refl _, ?_⟩ | fail)
      refine (twice_ok hpreM (by omega) t.id).mono ?_
      rintro v M2 ⟨rfl, hle2⟩
      have hJ2 := hJc.to hle2
      repeat' ((conv => whnf); first | refine ⟨?_, True.intro⟩ | refine brn_t rfl ?_ | refine brn_f rfl ?_ | refine ob rfl ?_ | refine ob (by decide) ?_ | refine grow_same (Mem.le_refl _) ?_ | refine ob (Mem.le_refl _) ?_ | refine ⟨_, Mem.le_refl _, ?_⟩ | fail)
      refine new (fun ba hba => ?_)
      replace hba : M2 ba = none := hba
      have hle3 : M2.le (M2.setCells ba T.int [.int .i64 i]) := Mem.le_setCells hba
      have ka3 : (M2.setCells ba T.int [.int .i64 i]).has ba T.int [.int .i64 i] := Mem.has_setCells
      obtain ⟨M3, hM3⟩ : ∃ M3, M3 = M2.setCells ba T.int [.int .i64 i] := ⟨_, rfl⟩
      rw [← hM3] at hle3 ka3
      (conv => whnf)
      erw [← hM3]
      refine new (fun bt hbt => ?_)
      replace hbt : M3 bt = none := hbt
      have hcs : tdC t ta tn tc = [.int .i64 t.step, .int .i64 t.node, .int .i64 t.o, .int .i64 t.d, .int .i64 t.e, .int .i64 t.c, .int .i64 t.err, .slice ta tn tc, .bool true] := by rw [← ho]
      have hle4 : M3.le (M3.setCells bt T.api_Told [.int .i64 t.step, .int .i64 t.node, .int .i64 t.o, .int .i64 t.d, .int .i64 t.e, .int .i64 t.c, .int .i64 t.err, .slice ta tn tc, .bool true]) := Mem.le_setCells hbt
      have kt4 : (M3.setCells bt T.api_Told [.int .i64 t.step, .int .i64 t.node, .int .i64 t.o, .int .i64 t.d, .int .i64 t.e, .int .i64 t.c, .int .i64 t.err, .slice ta tn tc, .bool true]).has bt T.api_Told (tdC t ta tn tc) := by rw [hcs]; exact Mem.has_setCells
      obtain ⟨M4, hM4⟩ : ∃ M4, M4 = M3.setCells bt T.api_Told [.int .i64 t.step, .int .i64 t.node, .int .i64 t.o, .int .i64 t.d, .int .i64 t.e, .int .i64 t.c, .int .i64 t.err, .slice ta tn tc, .bool true] := ⟨_, rfl⟩
      rw [← hM4] at hle4 kt4
      (conv => whnf)
      erw [← hM4]
      have ka4 := ka3.le hle4
      have hJ4 := hJ2.to (Mem.le_trans hle3 hle4)
      refine (found_ok hJ4 (by omega) ka4 kt4 1 _).mono ?_
      rintro v M5 ⟨rfl, hJ5, ka5, kt5⟩
      have l5 := addF_len ((l.take i).any (twP t.id)) ⟨1, i, t.id⟩ (judP steps l i)
      (conv => whnf); refine on (kt5.c1 (o := 1) rfl) ?_
      (conv => whnf); refine on (kt5.c1 (o := 3) rfl) ?_
      repeat' ((conv => whnf); first | refine ⟨?_, True.intro⟩ | refine brn_t rfl ?_ | refine brn_f rfl ?_ | refine ob rfl ?_ | refine ob (by decide) ?_ | refine grow_same (Mem.le_refl _) ?_ | refine ob (Mem.le_refl _) ?_ | refine ⟨_, Mem.le_refl _, ?_⟩ | fail)
      refine (found_ok hJ5 (by omega) ka5 kt5 2 _).mono ?_
      rintro v M6 ⟨rfl, hJ6, ka6, kt6⟩
      have l6 := addF_len (!decide (t.node = t.d)) ⟨2, i, t.id⟩ (addF ((l.take i).any (twP t.id)) ⟨1, i, t.id⟩ (judP steps l i))
      (conv => whnf); refine on (kt6.row (o := 0) (n := 9) (Nat.le_refl 9)) ?_
      repeat' ((conv => whnf); first | refine ⟨?_, True.intro⟩ | refine brn_t rfl ?_ | refine brn_f rfl ?_ | refine ob rfl ?_ | refine ob (by decide) ?_ | refine grow_same (Mem.le_refl _) ?_ | refine ob (Mem.le_refl _) ?_ | refine ⟨_, Mem.le_refl _, ?_⟩ | fail)
      refine (strange_ok (hs.imp hJ6.le fun _ _ _ hx => hx.le hJ6.le) hsn hsc (hts.le hJ6.le)).mono ?_
      rintro v M7 ⟨rfl, hle7⟩
      repeat' ((conv => whnf); first | refine ⟨?_, True.intro⟩ | refine brn_t rfl ?_ | refine brn_f rfl ?_ | refine ob rfl ?_ | refine ob (by decide) ?_ | refine grow_same (Mem.le_refl _) ?_ | refine ob (Mem.le_refl _) ?_ | refine ⟨_, Mem.le_refl _, ?_⟩ | fail)
      refine (found_ok (hJ6.to hle7) (by omega) (ka6.le hle7) (kt6.le hle7) 3 _).mono ?_
      rintro v M8 ⟨rfl, hJ8, ka8, kt8⟩
      have l8 := addF_len (!(stepsB steps t).any (gvP t)) ⟨3, i, t.id⟩ (addF (!decide (t.node = t.d)) ⟨2, i, t.id⟩ (addF ((l.take i).any (twP t.id)) ⟨1, i, t.id⟩ (judP steps l i)))
      have o8 : M8.row bt 8 1 = some [.bool true] := by have := kt8.c1 (o := 8) (v := .bool t.out) rfl; rw [ho] at this; exact this
      (conv => whnf); refine on o8 ?_
      repeat' ((conv => whnf); first | refine ⟨?_, True.intro⟩ | refine brn_t rfl ?_ | refine brn_f rfl ?_ | refine ob rfl ?_ | refine ob (by decide) ?_ | refine grow_same (Mem.le_refl _) ?_ | refine ob (Mem.le_refl _) ?_ | refine ⟨_, Mem.le_refl _, ?_⟩ | fail)
      refine (found_ok hJ8 (by omega) ka8 kt8 4 _).mono ?_
      rintro v M9 ⟨rfl, hJ9, ka9, kt9⟩
      repeat' ((conv => whnf); first | refine ⟨?_, True.intro⟩ | refine brn_t rfl ?_ | refine brn_f rfl ?_ | refine ob rfl ?_ | refine ob (by decide) ?_ | refine grow_same (Mem.le_refl _) ?_ | refine ob (Mem.le_refl _) ?_ | refine ⟨_, Mem.le_refl _, ?_⟩ | fail)
      refine ob (inR_i64 (by first | omega | (dsimp only; omega))) ?_
      (conv => whnf)
      refine ⟨⟨i + 1, M9⟩, ⟨by dsimp only; omega, ?_⟩, by dsimp only; omega, ⟨(by repeat' first | exact True.intro | refine ⟨rfl, ?_⟩), (by repeat' first | exact True.intro | refine ⟨rfl, ?_⟩), Mem.le_refl _, rfl⟩⟩
      dsimp only
      rw [hju]
      unfold oneP
      rw [if_pos ho, ho]
      exact hJ9
  · have hge : i = n := by have := of_decide_eq_false e; dsimp only at this; omega
    subst hge
    obtain ⟨a2, c2, h1, h2, h3⟩ := hJc
    repeat' ((conv => whnf); first | refine ⟨?_, True.intro⟩ | refine brn_t rfl ?_ | refine brn_f rfl ?_ | refine ob rfl ?_ | refine ob (by decide) ?_ | refine grow_same (Mem.le_refl _) ?_ | refine ob (Mem.le_refl _) ?_ | refine ⟨_, Mem.le_refl _, ?_⟩ | fail)
    refine on (h1.c1 (o := 0) rfl) ?_
    repeat' ((conv => whnf); first | refine ⟨?_, True.intro⟩ | refine brn_t rfl ?_ | refine brn_f rfl ?_ | refine ob rfl ?_ | refine ob (by decide) ?_ | refine grow_same (Mem.le_refl _) ?_ | refine ob (Mem.le_refl _) ?_ | refine ⟨_, Mem.le_refl _, ?_⟩ | fail)
    exact ⟨a2, c2, rfl, h2.up (Mem.minus_le _ _)⟩
end Go.Proofs.YtjkejbenppeagaaGreatDoor
