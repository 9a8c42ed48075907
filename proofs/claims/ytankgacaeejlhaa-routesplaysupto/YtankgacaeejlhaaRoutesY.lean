/- Tables of ways: any calls of any table. -/
import Derived.Test.YtankgacaeejlhaaRoutesW
namespace Go.Proofs.Ytankgacaeejlhaa
open Go Go.Vm
attribute [local irreducible] Brn Ob CallsM inR LoopVC Mem.row Mem.cells Mem.setCells Mem.upd Own AppVC SrcVC StrVC NextVC New SrcOk subA NewSl Mem.textAt Mem.mapAt Mem.iterAt entryOf kfind Wr NewEls Elems
set_option maxRecDepth 10000
variable {M : Mem}
theorem plays_ok (me age : Int) {a : Option Addr} {n c : Nat} {nb : List Int} (hs : SrcOk M 1 a n (nb.map intV)) (hn : n ≤ 1048576) {a2 : Option Addr} {n2 c2 : Nat} {l : List Act} (hl : Elems M 4 a2 n2 (ActR M) l) (hn2 : n2 ≤ 1048576) :
    CallsM Try.prog F.law18_RoutesPlays [setV me age a n c, .slice a2 n2 c2] M fun v M' => v = .bool true ∧ M.le M' := by
  refine fo_law18_RoutesPlays (by simp) ?_
  repeat' ((conv => whnf); first | refine ⟨?_, True.intro⟩ | refine brn_t rfl ?_ | refine brn_f rfl ?_ | refine ob rfl ?_ | refine ob (by decide) ?_ | refine ob (Mem.le_refl _) ?_ | refine ⟨_, Mem.le_refl _, ?_⟩ | fail)
  refine (New_ok me age a n c nb hs (by omega)).mono ?_
  rintro v M1 (⟨hne, rfl, rfl⟩ | ⟨he, p, b1, b2, a', c', rfl, hp, hb1, hb2, ha, hle, ht⟩)
  · repeat' ((conv => whnf); first | refine ⟨?_, True.intro⟩ | refine brn_t rfl ?_ | refine brn_f rfl ?_ | refine ob rfl ?_ | refine ob (by decide) ?_ | refine ob (Mem.le_refl _) ?_ | refine ⟨_, Mem.le_refl _, ?_⟩ | fail)
    refine (newR_ok me age hs (by omega)).mono ?_
    rintro v M2 (⟨_, rfl, rfl⟩ | ⟨he, _⟩)
    · repeat' ((conv => whnf); first | refine ⟨?_, True.intro⟩ | refine brn_t rfl ?_ | refine brn_f rfl ?_ | refine ob rfl ?_ | refine ob (by decide) ?_ | refine ob (Mem.le_refl _) ?_ | refine ⟨_, Mem.le_refl _, ?_⟩ | fail)
      refine brn_f (by simp) ?_
      (conv => whnf); refine brn_f (by simpa using hne) ?_
      (conv => whnf); refine brn_t (by simpa using hne) ?_
      repeat' ((conv => whnf); first | refine ⟨?_, True.intro⟩ | refine brn_t rfl ?_ | refine brn_f rfl ?_ | refine ob rfl ?_ | refine ob (by decide) ?_ | refine ob (Mem.le_refl _) ?_ | refine ⟨_, Mem.le_refl _, ?_⟩ | fail)
      refine awake_ok.mono ?_
      rintro v M3 ⟨rfl, hle3⟩
      repeat' ((conv => whnf); first | refine ⟨?_, True.intro⟩ | refine brn_t rfl ?_ | refine brn_f rfl ?_ | refine ob rfl ?_ | refine ob (by decide) ?_ | refine ob (Mem.le_refl _) ?_ | refine ⟨_, Mem.le_refl _, ?_⟩ | fail)
      exact ⟨rfl, hle3⟩
    · exact absurd he hne
  repeat' ((conv => whnf); first | refine ⟨?_, True.intro⟩ | refine brn_t rfl ?_ | refine brn_f rfl ?_ | refine ob rfl ?_ | refine ob (by decide) ?_ | refine ob (Mem.le_refl _) ?_ | refine ⟨_, Mem.le_refl _, ?_⟩ | fail)
  refine (newR_ok me age (hs.le hle) (by omega)).mono ?_
  rintro v M2 (⟨hne, _⟩ | ⟨_, aq, cq, rfl, hN⟩)
  · exact absurd he hne
  have hJ := joint0 he (by omega) ht hN
  have hM2 : M.le M2 := Mem.le_trans hle hN.le
  have hz1 : M b1 = none := hb1
  have hz2 : M b2 = none := hb2
  repeat' ((conv => whnf); first | refine brn_f rfl ?_ | refine brn_t rfl ?_ | fail)
  (conv => whnf)
  refine loopF (σ := Nat × Mem × Ref × List (Int × Int) × List (Int × Hd) × List (Int × Int) × List (Int × Hd)) [9] (fun y => [(9, .int .i64 y.1)]) (fun y => [.live T.portagelaw18_Set [.v (.int .i64 me), .v (.slice a n c), .v (.int .i64 age)], .live T.portageref18_Table [.v (.int .i64 me), .v (.int .i64 age), .v (.slice y.2.2.1.a y.2.2.1.n y.2.2.1.c), .v (.slice y.2.2.1.a2 y.2.2.1.n2 y.2.2.1.c2), .v (.slice y.2.2.1.a3 y.2.2.1.n3 y.2.2.1.c3)]]) (fun y => y.2.1)
    (fun | ⟨i, Mc, q, st, m, sr, lr⟩ => i ≤ n2 ∧ i ≤ 40 ∧ M.le Mc ∧ Joint Mc p b1 b2 a' n c' me age nb q i st m sr lr) (fun y => 40 - y.1) ⟨0, M2, ⟨aq, n, cq, none, 0, 0, none, 0, 0⟩, [], [], [], []⟩ ⟨by omega, by omega, hM2, hJ⟩ ⟨(by repeat' first | exact True.intro | refine ⟨rfl, ?_⟩), (by repeat' first | exact True.intro | refine ⟨rfl, ?_⟩), Mem.le_refl _, rfl⟩ ?_
  rintro ⟨i, Mc, q, st, m, sr, lr⟩ ⟨hi, hi40, hleC, hJ⟩
  (conv => whnf); refine brn (fun g => ?_) (fun g => ?_)
  · have hi' : i < n2 := by have := of_decide_eq_true g; dsimp only at this; omega
    (conv => whnf); refine brn (fun g => ?_) (fun g => ?_)
    · have hi4 : i < 40 := by have := of_decide_eq_true g; dsimp only at this; omega
      obtain ⟨hlt, b, o, cs, rfl, hrows, hrow, hcl, a3, n3, c3, hcs, hsc, hn3⟩ := hl.at (by decide) (i := i) hi'
      have hrow3 := Mem.row_le hleC hrow
      rw [hcs] at hrow3
      have hplay := play_ok (c1 := c3) hJ (by omega) l[i].kind l[i].dest l[i].via (hsc.le hleC) hn3
      (conv => whnf); refine ob (by first | omega | (dsimp only; omega)) ?_
      (conv => whnf); refine on hrow3 ?_
      (conv => whnf)
      refine ⟨?_, ?_, trivial⟩
      · (conv => whnf); refine hplay.mono ?_
        rintro v M3 ⟨q3, st3, m3, sr3, lr3, rfl, hkp, hJ3⟩
        have hle3 : M.le M3 := hkp.le hleC fun y hy => by rcases hy with rfl | rfl <;> assumption
        repeat' ((conv => whnf); first | refine ob rfl ?_ | refine ob (Mem.le_refl _) ?_ | refine ⟨?_, True.intro⟩ | fail)
        repeat' ((conv => whnf); first | refine ⟨?_, True.intro⟩ | refine brn_t rfl ?_ | refine brn_f rfl ?_ | refine ob rfl ?_ | refine ob (by decide) ?_ | refine ob (Mem.le_refl _) ?_ | refine ⟨_, Mem.le_refl _, ?_⟩ | fail)
        refine (Heard_ok hJ3.tab (by have := hJ3.lenm; omega)).mono ?_
        rintro v M4 ⟨ah, ch, rfl, hN4⟩
        repeat' ((conv => whnf); first | refine ob rfl ?_ | refine ob hN4.le ?_ | refine ⟨?_, True.intro⟩ | fail)
        refine (fromsR_ok (hJ3.le hN4.le).ref me age).mono ?_
        rintro v M5 ⟨af, cf, rfl, hN5⟩
        repeat' ((conv => whnf); first | refine ob rfl ?_ | refine ob (Mem.le_refl _) ?_ | refine ⟨?_, True.intro⟩ | fail)
        refine (same_ok (hN4.src.le hN5.le) hN5.src (by have := hJ3.lenm; omega)).mono ?_
        rintro v _ ⟨rfl, rfl⟩
        rw [hJ3.same.heard]
        repeat' ((conv => whnf); first | refine ⟨?_, True.intro⟩ | refine brn_t rfl ?_ | refine brn_f rfl ?_ | refine ob rfl ?_ | refine ob (by decide) ?_ | refine ob (Mem.le_refl _) ?_ | refine ⟨_, Mem.le_refl _, ?_⟩ | fail)
        refine brn_f (by simp) ?_
        have hJ5 := hJ3.le (Mem.le_trans hN4.le hN5.le)
        have hle5 : M.le M5 := Mem.le_trans hle3 (Mem.le_trans hN4.le hN5.le)
        (conv => whnf)
        refine loopF (σ := Nat × Mem) [12] (fun y => [(12, .int .i64 ((y.1 : Int) - 1))]) (fun _ => [.live T.portagelaw18_Set [.v (.int .i64 me), .v (.slice a n c), .v (.int .i64 age)], .live T.portageref18_Table [.v (.int .i64 me), .v (.int .i64 age), .v (.slice q3.a q3.n q3.c), .v (.slice q3.a2 q3.n2 q3.c2), .v (.slice q3.a3 q3.n3 q3.c3)]]) (fun y => y.2)
          (fun | ⟨j, Md⟩ => j ≤ 66 ∧ M5.le Md) (fun y => 66 - y.1) ⟨0, M5⟩ ⟨by omega, Mem.le_refl _⟩ ⟨(by repeat' first | exact True.intro | refine ⟨rfl, ?_⟩), (by repeat' first | exact True.intro | refine ⟨rfl, ?_⟩), Mem.le_refl _, rfl⟩ ?_
        rintro ⟨j, Md⟩ ⟨hj, hleD⟩
        have hJd := hJ5.le hleD
        (conv => whnf); refine brn (fun g => ?_) (fun g => ?_)
        · have hj' : j < 66 := by have := of_decide_eq_true g; first | omega | (dsimp only at this; omega)
          (conv => whnf); refine (Next_ok hJd.tab hJd.same.good hJd.n _).mono ?_
          rintro v Me ⟨rfl, hleE⟩
          have hJe := hJd.le hleE
          rw [optT_eq, hJe.same.next hJe.ok]
          repeat' ((conv => whnf); first | refine ⟨?_, True.intro⟩ | refine brn_t rfl ?_ | refine brn_f rfl ?_ | refine ob rfl ?_ | refine ob (by decide) ?_ | refine ob (Mem.le_refl _) ?_ | refine ⟨_, Mem.le_refl _, ?_⟩ | fail)
          refine (nextR_ok hJe.ref hJe.same.goodR me age _).mono ?_
          rintro v _ ⟨rfl, rfl⟩
          (conv => whnf); refine ⟨Me, Mem.le_refl _, ?_⟩
          (conv => whnf); refine brn_f (by simp) ?_
          (conv => whnf); refine brn_f (by simp) ?_
          repeat' ((conv => whnf); first | refine ob rfl ?_ | refine ob (Mem.le_refl _) ?_ | refine ⟨?_, True.intro⟩ | fail)
          refine (Cost_ok hJe.tab hJe.same.good _).mono ?_
          rintro v Mf ⟨rfl, hleF⟩
          repeat' ((conv => whnf); first | refine ob rfl ?_ | refine ob hleF ?_ | refine ⟨?_, True.intro⟩ | fail)
          refine (costR_ok (hJe.le hleF).ref hJe.same.goodR me age _).mono ?_
          rintro v _ ⟨rfl, rfl⟩
          rw [hJe.same.cost hJe.ok]
          repeat' ((conv => whnf); first | refine ob rfl ?_ | refine ob (Mem.le_refl _) ?_ | refine ⟨?_, True.intro⟩ | fail)
          refine brn_f (by simp) ?_
          have ej : ((j : Int) - 1) + 1 = ((j + 1 : Nat) : Int) - 1 := by omega
          (conv => whnf); refine ob (inR_i64 (by first | omega | (dsimp only; omega))) ?_
          (conv => whnf)
          refine ⟨⟨j + 1, Mf⟩, ⟨by omega, Mem.le_trans hleD (Mem.le_trans hleE hleF)⟩, by dsimp only; omega, ?_⟩
          dsimp only
          rw [ej]
          exact ⟨(by repeat' first | exact True.intro | refine ⟨rfl, ?_⟩), (by repeat' first | exact True.intro | refine ⟨rfl, ?_⟩), Mem.le_refl _, rfl⟩
        · (conv => whnf); refine ob (inR_i64 (by first | omega | (dsimp only; omega))) ?_
          (conv => whnf)
          exact ⟨⟨i + 1, Md, q3, st3, m3, sr3, lr3⟩, ⟨by omega, by omega, Mem.le_trans hle5 hleD, hJd⟩, by dsimp only; omega, ⟨(by repeat' first | exact True.intro | refine ⟨rfl, ?_⟩), (by repeat' first | exact True.intro | refine ⟨rfl, ?_⟩), Mem.le_refl _, rfl⟩⟩
      · repeat' ((conv => whnf); first | refine ob rfl ?_ | refine ob (Mem.le_refl _) ?_ | refine ⟨?_, True.intro⟩ | fail)
        refine hplay.mono ?_
        rintro v M3 ⟨q3, st3, m3, sr3, lr3, rfl, hkp, hJ3⟩
        have hle3 : M.le M3 := hkp.le hleC fun y hy => by rcases hy with rfl | rfl <;> assumption
        repeat' ((conv => whnf); first | refine ob rfl ?_ | refine ob (Mem.le_refl _) ?_ | refine ⟨?_, True.intro⟩ | fail)
        repeat' ((conv => whnf); first | refine ⟨?_, True.intro⟩ | refine brn_t rfl ?_ | refine brn_f rfl ?_ | refine ob rfl ?_ | refine ob (by decide) ?_ | refine ob (Mem.le_refl _) ?_ | refine ⟨_, Mem.le_refl _, ?_⟩ | fail)
        refine (Heard_ok hJ3.tab (by have := hJ3.lenm; omega)).mono ?_
        rintro v M4 ⟨ah, ch, rfl, hN4⟩
        repeat' ((conv => whnf); first | refine ob rfl ?_ | refine ob hN4.le ?_ | refine ⟨?_, True.intro⟩ | fail)
        refine (fromsR_ok (hJ3.le hN4.le).ref me age).mono ?_
        rintro v M5 ⟨af, cf, rfl, hN5⟩
        repeat' ((conv => whnf); first | refine ob rfl ?_ | refine ob (Mem.le_refl _) ?_ | refine ⟨?_, True.intro⟩ | fail)
        refine (same_ok (hN4.src.le hN5.le) hN5.src (by have := hJ3.lenm; omega)).mono ?_
        rintro v _ ⟨rfl, rfl⟩
        rw [hJ3.same.heard]
        repeat' ((conv => whnf); first | refine ⟨?_, True.intro⟩ | refine brn_t rfl ?_ | refine brn_f rfl ?_ | refine ob rfl ?_ | refine ob (by decide) ?_ | refine ob (Mem.le_refl _) ?_ | refine ⟨_, Mem.le_refl _, ?_⟩ | fail)
        refine brn_f (by simp) ?_
        have hJ5 := hJ3.le (Mem.le_trans hN4.le hN5.le)
        have hle5 : M.le M5 := Mem.le_trans hle3 (Mem.le_trans hN4.le hN5.le)
        (conv => whnf)
        refine loopF (σ := Nat × Mem) [12] (fun y => [(12, .int .i64 ((y.1 : Int) - 1))]) (fun _ => [.live T.portagelaw18_Set [.v (.int .i64 me), .v (.slice a n c), .v (.int .i64 age)], .live T.portageref18_Table [.v (.int .i64 me), .v (.int .i64 age), .v (.slice q3.a q3.n q3.c), .v (.slice q3.a2 q3.n2 q3.c2), .v (.slice q3.a3 q3.n3 q3.c3)]]) (fun y => y.2)
          (fun | ⟨j, Md⟩ => j ≤ 66 ∧ M5.le Md) (fun y => 66 - y.1) ⟨0, M5⟩ ⟨by omega, Mem.le_refl _⟩ ⟨(by repeat' first | exact True.intro | refine ⟨rfl, ?_⟩), (by repeat' first | exact True.intro | refine ⟨rfl, ?_⟩), Mem.le_refl _, rfl⟩ ?_
        rintro ⟨j, Md⟩ ⟨hj, hleD⟩
        have hJd := hJ5.le hleD
        (conv => whnf); refine brn (fun g => ?_) (fun g => ?_)
        · have hj' : j < 66 := by have := of_decide_eq_true g; first | omega | (dsimp only at this; omega)
          (conv => whnf); refine (Next_ok hJd.tab hJd.same.good hJd.n _).mono ?_
          rintro v Me ⟨rfl, hleE⟩
          have hJe := hJd.le hleE
          rw [optT_eq, hJe.same.next hJe.ok]
          repeat' ((conv => whnf); first | refine ⟨?_, True.intro⟩ | refine brn_t rfl ?_ | refine brn_f rfl ?_ | refine ob rfl ?_ | refine ob (by decide) ?_ | refine ob (Mem.le_refl _) ?_ | refine ⟨_, Mem.le_refl _, ?_⟩ | fail)
          refine (nextR_ok hJe.ref hJe.same.goodR me age _).mono ?_
          rintro v _ ⟨rfl, rfl⟩
          (conv => whnf); refine ⟨Me, Mem.le_refl _, ?_⟩
          (conv => whnf); refine brn_f (by simp) ?_
          (conv => whnf); refine brn_f (by simp) ?_
          repeat' ((conv => whnf); first | refine ob rfl ?_ | refine ob (Mem.le_refl _) ?_ | refine ⟨?_, True.intro⟩ | fail)
          refine (Cost_ok hJe.tab hJe.same.good _).mono ?_
          rintro v Mf ⟨rfl, hleF⟩
          repeat' ((conv => whnf); first | refine ob rfl ?_ | refine ob hleF ?_ | refine ⟨?_, True.intro⟩ | fail)
          refine (costR_ok (hJe.le hleF).ref hJe.same.goodR me age _).mono ?_
          rintro v _ ⟨rfl, rfl⟩
          rw [hJe.same.cost hJe.ok]
          repeat' ((conv => whnf); first | refine ob rfl ?_ | refine ob (Mem.le_refl _) ?_ | refine ⟨?_, True.intro⟩ | fail)
          refine brn_f (by simp) ?_
          have ej : ((j : Int) - 1) + 1 = ((j + 1 : Nat) : Int) - 1 := by omega
          (conv => whnf); refine ob (inR_i64 (by first | omega | (dsimp only; omega))) ?_
          (conv => whnf)
          refine ⟨⟨j + 1, Mf⟩, ⟨by omega, Mem.le_trans hleD (Mem.le_trans hleE hleF)⟩, by dsimp only; omega, ?_⟩
          dsimp only
          rw [ej]
          exact ⟨(by repeat' first | exact True.intro | refine ⟨rfl, ?_⟩), (by repeat' first | exact True.intro | refine ⟨rfl, ?_⟩), Mem.le_refl _, rfl⟩
        · (conv => whnf); refine ob (inR_i64 (by first | omega | (dsimp only; omega))) ?_
          (conv => whnf)
          exact ⟨⟨i + 1, Md, q3, st3, m3, sr3, lr3⟩, ⟨by omega, by omega, Mem.le_trans hle5 hleD, hJd⟩, by dsimp only; omega, ⟨(by repeat' first | exact True.intro | refine ⟨rfl, ?_⟩), (by repeat' first | exact True.intro | refine ⟨rfl, ?_⟩), Mem.le_refl _, rfl⟩⟩
    · skip
      (conv => whnf); refine awake_ok.mono ?_
      rintro v M9 ⟨rfl, hle9⟩
      repeat' ((conv => whnf); first | refine ⟨?_, True.intro⟩ | refine brn_t rfl ?_ | refine brn_f rfl ?_ | refine ob rfl ?_ | refine ob (by decide) ?_ | refine ob (Mem.le_refl _) ?_ | refine ⟨_, Mem.le_refl _, ?_⟩ | fail)
      exact ⟨rfl, Mem.le_trans hleC hle9⟩
  · skip
    (conv => whnf); refine awake_ok.mono ?_
    rintro v M9 ⟨rfl, hle9⟩
    repeat' ((conv => whnf); first | refine ⟨?_, True.intro⟩ | refine brn_t rfl ?_ | refine brn_f rfl ?_ | refine ob rfl ?_ | refine ob (by decide) ?_ | refine ob (Mem.le_refl _) ?_ | refine ⟨_, Mem.le_refl _, ?_⟩ | fail)
    exact ⟨rfl, Mem.le_trans hleC hle9⟩
end Go.Proofs.Ytankgacaeejlhaa
