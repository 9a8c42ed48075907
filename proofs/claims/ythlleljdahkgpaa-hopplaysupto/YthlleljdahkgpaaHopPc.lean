/- HopPlays, as a contract. -/
import Derived.Test.YthlleljdahkgpaaHopPb
import Derived.Test.YthlleljdahkgpaaAwake
namespace Go.Proofs.Ythlleljdahkgpaa
open Go Go.Vm
attribute [local irreducible] Brn Ob Grow CallsM inR LoopVC Mem.row Mem.cells Mem.setCells Mem.upd Own AppVC SrcVC StrVC NextVC New SrcOk subA NewSl Mem.textAt Mem.mapAt Mem.iterAt entryOf kfind Wr NewEls Elems
set_option maxRecDepth 10000
variable {A M : Mem} {p b : Nat} {wait next : Int} {m L : KL}
structure StP where
  i : Nat
  mem : Mem
  A : Mem
  next : Int
  m : KL
  L : KL
  a : Option Addr
  c : Nat
theorem plays_law (wait : Int) {a : Option Addr} {n c : Nat} {l : List Act} (hl : Elems M 10 a n (ActR M) l) (hn : n ≤ 1048576) :
    CallsM Try.prog F.law20_HopPlays [.int .i64 wait, .slice a n c] M fun v M' => v = .bool true ∧ M.le M' := by
  refine fo_law20_HopPlays (by simp) ?_
  (conv => whnf); refine (new_ok wait M).mono ?_
  rintro v M1 (⟨hw, rfl, rfl⟩ | ⟨hw, p, b, rfl, hp, hb, hle, hd⟩)
  · repeat' ((conv => whnf); first | refine ⟨?_, True.intro⟩ | refine brn_t rfl ?_ | refine brn_f rfl ?_ | refine ob rfl ?_ | refine ob (by decide) ?_ | refine grow_same (Mem.le_refl _) ?_ | refine ob (Mem.le_refl _) ?_ | refine ⟨_, Mem.le_refl _, ?_⟩ | fail)
    refine (newR_ok wait).mono ?_
    rintro v _ ⟨rfl, ⟨-, rfl⟩ | ⟨hw2, -⟩⟩
    rotate_left
    · omega
    repeat' ((conv => whnf); first | refine ⟨?_, True.intro⟩ | refine brn_t rfl ?_ | refine brn_f rfl ?_ | refine ob rfl ?_ | refine ob (by decide) ?_ | refine grow_same (Mem.le_refl _) ?_ | refine ob (Mem.le_refl _) ?_ | refine ⟨_, Mem.le_refl _, ?_⟩ | fail)
    refine (awake_ok M).mono ?_
    rintro v M2 ⟨rfl, hle⟩
    repeat' ((conv => whnf); first | refine ⟨?_, True.intro⟩ | refine brn_t rfl ?_ | refine brn_f rfl ?_ | refine ob rfl ?_ | refine ob (by decide) ?_ | refine grow_same (Mem.le_refl _) ?_ | refine ob (Mem.le_refl _) ?_ | refine ⟨_, Mem.le_refl _, ?_⟩ | fail)
    exact ⟨rfl, hle⟩
  repeat' ((conv => whnf); first | refine ⟨?_, True.intro⟩ | refine brn_t rfl ?_ | refine brn_f rfl ?_ | refine ob rfl ?_ | refine ob (by decide) ?_ | refine grow_same (Mem.le_refl _) ?_ | refine ob (Mem.le_refl _) ?_ | refine ⟨_, Mem.le_refl _, ?_⟩ | fail)
  refine (newR_ok wait).mono ?_
  rintro v _ ⟨rfl, ⟨hw2, -⟩ | ⟨-, rfl⟩⟩
  · omega
  repeat' ((conv => whnf); first | refine ⟨?_, True.intro⟩ | refine brn_t rfl ?_ | refine brn_f rfl ?_ | refine ob rfl ?_ | refine ob (by decide) ?_ | refine grow_same (Mem.le_refl _) ?_ | refine ob (Mem.le_refl _) ?_ | refine ⟨_, Mem.le_refl _, ?_⟩ | fail)
  refine loopF (σ := StP) [9] (fun y => [(9, .int .i64 y.i)]) (fun y => [.live T.portageref20_Desk [.v (.int .i64 wait), .v (.int .i64 y.next), .v (.slice y.a y.L.length y.c)]]) (fun y => y.mem)
    (fun y => (y.i ≤ n ∧ y.i ≤ 60) ∧ M.le y.A ∧ BothD y.A y.mem p b wait y.next y.m y.L y.a y.L.length ∧ y.m.length ≤ y.i * 1048576) (fun y => 60 - y.i)
    ⟨0, M1, M, 0, [], [], none, 0⟩ ⟨by simp, Mem.le_refl _, ⟨⟨hle, hd, hp, hb⟩, RelD.nil, (fun i k h => by cases h), by simp, SrcOk.nil _ _, rfl⟩, by simp⟩ ⟨(by repeat' first | exact True.intro | refine ⟨rfl, ?_⟩), (by repeat' first | exact True.intro | refine ⟨rfl, ?_⟩), Mem.le_refl _, rfl⟩ ?_
  clear hd hp hb hle
  rintro ⟨i, Mc, A, next, m, L, aL, cL⟩ ⟨⟨hi, hi60⟩, hMA, hB, hml⟩
  dsimp only at hi hi60 hMA hB hml
  have hM := Mem.le_trans hMA hB.dk.le
  (conv => whnf); refine brn (fun g => ?_) (fun g => ?_)
  rotate_left
  · repeat' ((conv => whnf); first | refine ⟨?_, True.intro⟩ | refine brn_t rfl ?_ | refine brn_f rfl ?_ | refine ob rfl ?_ | refine ob (by decide) ?_ | refine grow_same (Mem.le_refl _) ?_ | refine ob (Mem.le_refl _) ?_ | refine ⟨_, Mem.le_refl _, ?_⟩ | fail)
    refine (awake_ok Mc).mono ?_
    rintro v M2 ⟨rfl, hle⟩
    repeat' ((conv => whnf); first | refine ⟨?_, True.intro⟩ | refine brn_t rfl ?_ | refine brn_f rfl ?_ | refine ob rfl ?_ | refine ob (by decide) ?_ | refine grow_same (Mem.le_refl _) ?_ | refine ob (Mem.le_refl _) ?_ | refine ⟨_, Mem.le_refl _, ?_⟩ | fail)
    exact ⟨rfl, Mem.le_trans hM hle⟩
  have hlt : i < n := by have := of_decide_eq_true g; dsimp only at this; omega
  (conv => whnf); refine brn (fun g' => ?_) (fun g' => ?_)
  rotate_left
  · repeat' ((conv => whnf); first | refine ⟨?_, True.intro⟩ | refine brn_t rfl ?_ | refine brn_f rfl ?_ | refine ob rfl ?_ | refine ob (by decide) ?_ | refine grow_same (Mem.le_refl _) ?_ | refine ob (Mem.le_refl _) ?_ | refine ⟨_, Mem.le_refl _, ?_⟩ | fail)
    refine (awake_ok Mc).mono ?_
    rintro v M2 ⟨rfl, hle⟩
    repeat' ((conv => whnf); first | refine ⟨?_, True.intro⟩ | refine brn_t rfl ?_ | refine brn_f rfl ?_ | refine ob rfl ?_ | refine ob (by decide) ?_ | refine grow_same (Mem.le_refl _) ?_ | refine ob (Mem.le_refl _) ?_ | refine ⟨_, Mem.le_refl _, ?_⟩ | fail)
    exact ⟨rfl, Mem.le_trans hM hle⟩
  have hlt60 : i < 60 := by have := of_decide_eq_true g'; dsimp only at this; omega
  have hml2 : m.length ≤ 70000000 := by omega
  obtain ⟨hil, bb, o, cs, ha, hrows, hrow, _, a1, a2, a3, n1, n2, n3, c1, c2, c3, rfl, g1, g2, g3, g4, g5, g6⟩ := hl.at (by decide) hlt
  generalize l[i] = x at *
  have hplay := play_ok (c := cL) hB hw (by omega) x (c1 := c1) (c2 := c2) (c3 := c3) (g1.imp hMA fun cs y _ hy => hy.le hMA) g2 (g3.le hMA) g4 (g5.le hMA) g6
  repeat' ((conv => whnf); first | refine ⟨?_, True.intro⟩ | refine brn_t rfl ?_ | refine brn_f rfl ?_ | refine ob rfl ?_ | refine ob (by decide) ?_ | refine grow_same (Mem.le_refl _) ?_ | refine ob (Mem.le_refl _) ?_ | refine ⟨_, Mem.le_refl _, ?_⟩ | fail)
  refine ob (by first | omega | (dsimp only; omega)) ?_
  (conv => whnf); refine atp ha ?_
  (conv => whnf); refine on (Mem.row_le hM hrow) ?_
  repeat' ((conv => whnf); first | refine ⟨?_, True.intro⟩ | refine ⟨?_, ?_, True.intro⟩ | refine brn_t rfl ?_ | refine brn_f rfl ?_ | refine ob rfl ?_ | refine ob (by decide) ?_ | refine grow_same (Mem.le_refl _) ?_ | refine ob (Mem.le_refl _) ?_ | refine ⟨_, Mem.le_refl _, ?_⟩ | fail)
  · refine hplay.mono ?_
    rintro v M2 ⟨A2, next2, m2, L2, aD, cD, rfl, hA2, hB2, hm2⟩
    have hM2 : M.le M2 := Mem.le_trans hMA (Mem.le_trans hA2 hB2.dk.le)
    have hl2 := hB2.rel.len
    have hww : waitsOf m2 x.id = waitsOf L2 x.id := by unfold waitsOf; rw [hB2.rel.same]
    have hii : isIs m2 x.id = isIs L2 x.id := by unfold isIs; rw [hB2.rel.same]
    have hdoc := hB2.doc.le hB2.dk.le
    repeat' ((conv => whnf); first | refine ⟨?_, True.intro⟩ | refine brn_t rfl ?_ | refine brn_f rfl ?_ | refine ob rfl ?_ | refine ob (by decide) ?_ | refine grow_same (Mem.le_refl _) ?_ | refine ob (Mem.le_refl _) ?_ | refine ⟨_, Mem.le_refl _, ?_⟩ | fail)
    refine ob (by first | omega | (dsimp only; omega)) ?_
    (conv => whnf); refine atp ha ?_
    (conv => whnf); refine on (Mem.row_le hM2 (hrows 6 4 (by decide))) ?_
    repeat' ((conv => whnf); first | refine ⟨?_, True.intro⟩ | refine brn_t rfl ?_ | refine brn_f rfl ?_ | refine ob rfl ?_ | refine ob (by decide) ?_ | refine grow_same (Mem.le_refl _) ?_ | refine ob (Mem.le_refl _) ?_ | refine ⟨_, Mem.le_refl _, ?_⟩ | fail)
    refine ob (by first | omega | (dsimp only; omega)) ?_
    (conv => whnf); refine atp ha ?_
    (conv => whnf); refine on (Mem.row_le hM2 (hrows 6 4 (by decide))) ?_
    repeat' ((conv => whnf); first | refine ⟨?_, True.intro⟩ | refine brn_t rfl ?_ | refine brn_f rfl ?_ | refine ob rfl ?_ | refine ob (by decide) ?_ | refine grow_same (Mem.le_refl _) ?_ | refine ob (Mem.le_refl _) ?_ | refine ⟨_, Mem.le_refl _, ?_⟩ | fail)
    refine (waits_ok hB2.dk.desk x.id).mono ?_
    rintro v _ ⟨rfl, rfl⟩
    repeat' ((conv => whnf); first | refine ob rfl ?_ | refine grow_same (Mem.le_refl _) ?_ | refine ob (Mem.le_refl _) ?_ | refine ⟨?_, True.intro⟩ | fail)
    repeat' ((conv => whnf); first | refine ⟨?_, True.intro⟩ | refine brn_t rfl ?_ | refine brn_f rfl ?_ | refine ob rfl ?_ | refine ob (by decide) ?_ | refine grow_same (Mem.le_refl _) ?_ | refine ob (Mem.le_refl _) ?_ | refine ⟨_, Mem.le_refl _, ?_⟩ | fail)
    refine (waitsR_ok (c := cD) hdoc (by omega) x.id).mono ?_
    rintro v _ ⟨rfl, rfl⟩
    rw [hww]
    repeat' ((conv => whnf); first | refine ob rfl ?_ | refine grow_same (Mem.le_refl _) ?_ | refine ob (Mem.le_refl _) ?_ | refine ⟨?_, True.intro⟩ | fail)
    (conv => whnf); refine brn_f (by simp) ?_
    repeat' ((conv => whnf); first | refine ⟨?_, True.intro⟩ | refine brn_t rfl ?_ | refine brn_f rfl ?_ | refine ob rfl ?_ | refine ob (by decide) ?_ | refine grow_same (Mem.le_refl _) ?_ | refine ob (Mem.le_refl _) ?_ | refine ⟨_, Mem.le_refl _, ?_⟩ | fail)
    refine ob (by first | omega | (dsimp only; omega)) ?_
    (conv => whnf); refine atp ha ?_
    (conv => whnf); refine on (Mem.row_le hM2 (hrows 6 4 (by decide))) ?_
    repeat' ((conv => whnf); first | refine ⟨?_, True.intro⟩ | refine brn_t rfl ?_ | refine brn_f rfl ?_ | refine ob rfl ?_ | refine ob (by decide) ?_ | refine grow_same (Mem.le_refl _) ?_ | refine ob (Mem.le_refl _) ?_ | refine ⟨_, Mem.le_refl _, ?_⟩ | fail)
    refine ob (by first | omega | (dsimp only; omega)) ?_
    (conv => whnf); refine atp ha ?_
    (conv => whnf); refine on (Mem.row_le hM2 (hrows 6 4 (by decide))) ?_
    repeat' ((conv => whnf); first | refine ⟨?_, True.intro⟩ | refine brn_t rfl ?_ | refine brn_f rfl ?_ | refine ob rfl ?_ | refine ob (by decide) ?_ | refine grow_same (Mem.le_refl _) ?_ | refine ob (Mem.le_refl _) ?_ | refine ⟨_, Mem.le_refl _, ?_⟩ | fail)
    refine (is_ok hB2.dk.desk x.id).mono ?_
    rintro v _ ⟨rfl, rfl⟩
    repeat' ((conv => whnf); first | refine ob rfl ?_ | refine grow_same (Mem.le_refl _) ?_ | refine ob (Mem.le_refl _) ?_ | refine ⟨?_, True.intro⟩ | fail)
    repeat' ((conv => whnf); first | refine ⟨?_, True.intro⟩ | refine brn_t rfl ?_ | refine brn_f rfl ?_ | refine ob rfl ?_ | refine ob (by decide) ?_ | refine grow_same (Mem.le_refl _) ?_ | refine ob (Mem.le_refl _) ?_ | refine ⟨_, Mem.le_refl _, ?_⟩ | fail)
    refine (isR_ok (c := cD) hdoc (by omega) x.id).mono ?_
    rintro v _ ⟨rfl, rfl⟩
    rw [hii]
    repeat' ((conv => whnf); first | refine ob rfl ?_ | refine grow_same (Mem.le_refl _) ?_ | refine ob (Mem.le_refl _) ?_ | refine ⟨?_, True.intro⟩ | fail)
    (conv => whnf); refine brn_f (by simp) ?_
    (conv => whnf)
    refine loopF (σ := Int × Mem) [12] (fun y => [(12, .int .i64 y.1)]) (fun _ => [.live T.portageref20_Desk [.v (.int .i64 wait), .v (.int .i64 next2), .v (.slice aD L2.length cD)]]) (fun y => y.2)
      (fun y => (-1 ≤ y.1 ∧ y.1 ≤ 6) ∧ M2.le y.2) (fun y => (6 - y.1).toNat) ⟨-1, M2⟩ ⟨by simp, Mem.le_refl _⟩ ⟨(by repeat' first | exact True.intro | refine ⟨rfl, ?_⟩), (by repeat' first | exact True.intro | refine ⟨rfl, ?_⟩), Mem.le_refl _, rfl⟩ ?_
    rintro ⟨w, M3⟩ ⟨hw1, hle3⟩
    dsimp only at hw1 hle3
    have hdk3 := hB2.dk.to hle3
    (conv => whnf); refine brn (fun g8 => ?_) (fun g8 => ?_)
    rotate_left
    · repeat' ((conv => whnf); first | refine ⟨?_, True.intro⟩ | refine brn_t rfl ?_ | refine brn_f rfl ?_ | refine ob rfl ?_ | refine ob (by decide) ?_ | refine grow_same (Mem.le_refl _) ?_ | refine ob (Mem.le_refl _) ?_ | refine ⟨_, Mem.le_refl _, ?_⟩ | fail)
      refine ob (inR_i64 (by first | omega | (dsimp only; omega))) ?_
      (conv => whnf)
      refine ⟨⟨i + 1, M3, A2, next2, m2, L2, aD, cD⟩, ⟨by dsimp only; omega, Mem.le_trans hMA hA2, ⟨hdk3, hB2.rel, hB2.all, hB2.nx, hB2.doc, rfl⟩, ?_⟩, by dsimp only; omega, ⟨(by repeat' first | exact True.intro | refine ⟨rfl, ?_⟩), (by repeat' first | exact True.intro | refine ⟨rfl, ?_⟩), Mem.le_refl _, rfl⟩⟩
      dsimp only
      omega
    have hw6 : w < 6 := of_decide_eq_true g8
    repeat' ((conv => whnf); first | refine ⟨?_, True.intro⟩ | refine brn_t rfl ?_ | refine brn_f rfl ?_ | refine ob rfl ?_ | refine ob (by decide) ?_ | refine grow_same (Mem.le_refl _) ?_ | refine ob (Mem.le_refl _) ?_ | refine ⟨_, Mem.le_refl _, ?_⟩ | fail)
    refine (offered_ok hdk3.desk w (by omega)).mono ?_
    rintro v M4 ⟨a4, c4, ids, rfl, hN4, hnd, hlen4, hsrt, hmem⟩
    have hids : ids = offeredL L2 w := hB2.rel.offered w hnd hsrt hmem
    repeat' ((conv => whnf); first | refine ob rfl ?_ | refine grow_same hN4.le ?_ | refine ob hN4.le ?_ | refine ⟨?_, True.intro⟩ | fail)
    repeat' ((conv => whnf); first | refine ⟨?_, True.intro⟩ | refine brn_t rfl ?_ | refine brn_f rfl ?_ | refine ob rfl ?_ | refine ob (by decide) ?_ | refine grow_same (Mem.le_refl _) ?_ | refine ob (Mem.le_refl _) ?_ | refine ⟨_, Mem.le_refl _, ?_⟩ | fail)
    refine (offeredR_ok (c := cD) (hdoc.le (Mem.le_trans hle3 hN4.le)) (by omega) w).mono ?_
    rintro v M5 ⟨a5, c5, rfl, hN5⟩
    repeat' ((conv => whnf); first | refine ob rfl ?_ | refine grow_same hN5.le ?_ | refine ob hN5.le ?_ | refine ⟨?_, True.intro⟩ | fail)
    repeat' ((conv => whnf); first | refine ⟨?_, True.intro⟩ | refine brn_t rfl ?_ | refine brn_f rfl ?_ | refine ob rfl ?_ | refine ob (by decide) ?_ | refine grow_same (Mem.le_refl _) ?_ | refine ob (Mem.le_refl _) ?_ | refine ⟨_, Mem.le_refl _, ?_⟩ | fail)
    refine (sameIds_ok (hN4.src.le hN5.le) hN5.src (by omega) hids).mono ?_
    rintro v _ ⟨rfl, rfl⟩
    repeat' ((conv => whnf); first | refine ob rfl ?_ | refine grow_same (Mem.le_refl _) ?_ | refine ob (Mem.le_refl _) ?_ | refine ⟨?_, True.intro⟩ | fail)
    (conv => whnf); refine brn_f (by simp) ?_
    repeat' ((conv => whnf); first | refine ⟨?_, True.intro⟩ | refine brn_t rfl ?_ | refine brn_f rfl ?_ | refine ob rfl ?_ | refine ob (by decide) ?_ | refine grow_same (Mem.le_refl _) ?_ | refine ob (Mem.le_refl _) ?_ | refine ⟨_, Mem.le_refl _, ?_⟩ | fail)
    refine ob (inR_i64 (by first | omega | (dsimp only; omega))) ?_
    (conv => whnf)
    exact ⟨⟨w + 1, M5⟩, ⟨by dsimp only; omega, Mem.le_trans hle3 (Mem.le_trans hN4.le hN5.le)⟩, by dsimp only; omega, ⟨(by repeat' first | exact True.intro | refine ⟨rfl, ?_⟩), (by repeat' first | exact True.intro | refine ⟨rfl, ?_⟩), Mem.le_refl _, rfl⟩⟩
  · refine hplay.mono ?_
    rintro v M2 ⟨A2, next2, m2, L2, aD, cD, rfl, hA2, hB2, hm2⟩
    have hM2 : M.le M2 := Mem.le_trans hMA (Mem.le_trans hA2 hB2.dk.le)
    have hl2 := hB2.rel.len
    have hww : waitsOf m2 x.id = waitsOf L2 x.id := by unfold waitsOf; rw [hB2.rel.same]
    have hii : isIs m2 x.id = isIs L2 x.id := by unfold isIs; rw [hB2.rel.same]
    have hdoc := hB2.doc.le hB2.dk.le
    repeat' ((conv => whnf); first | refine ⟨?_, True.intro⟩ | refine brn_t rfl ?_ | refine brn_f rfl ?_ | refine ob rfl ?_ | refine ob (by decide) ?_ | refine grow_same (Mem.le_refl _) ?_ | refine ob (Mem.le_refl _) ?_ | refine ⟨_, Mem.le_refl _, ?_⟩ | fail)
    refine ob (by first | omega | (dsimp only; omega)) ?_
    (conv => whnf); refine atp ha ?_
    (conv => whnf); refine on (Mem.row_le hM2 (hrows 6 4 (by decide))) ?_
    repeat' ((conv => whnf); first | refine ⟨?_, True.intro⟩ | refine brn_t rfl ?_ | refine brn_f rfl ?_ | refine ob rfl ?_ | refine ob (by decide) ?_ | refine grow_same (Mem.le_refl _) ?_ | refine ob (Mem.le_refl _) ?_ | refine ⟨_, Mem.le_refl _, ?_⟩ | fail)
    refine ob (by first | omega | (dsimp only; omega)) ?_
    (conv => whnf); refine atp ha ?_
    (conv => whnf); refine on (Mem.row_le hM2 (hrows 6 4 (by decide))) ?_
    repeat' ((conv => whnf); first | refine ⟨?_, True.intro⟩ | refine brn_t rfl ?_ | refine brn_f rfl ?_ | refine ob rfl ?_ | refine ob (by decide) ?_ | refine grow_same (Mem.le_refl _) ?_ | refine ob (Mem.le_refl _) ?_ | refine ⟨_, Mem.le_refl _, ?_⟩ | fail)
    refine (waits_ok hB2.dk.desk x.id).mono ?_
    rintro v _ ⟨rfl, rfl⟩
    repeat' ((conv => whnf); first | refine ob rfl ?_ | refine grow_same (Mem.le_refl _) ?_ | refine ob (Mem.le_refl _) ?_ | refine ⟨?_, True.intro⟩ | fail)
    repeat' ((conv => whnf); first | refine ⟨?_, True.intro⟩ | refine brn_t rfl ?_ | refine brn_f rfl ?_ | refine ob rfl ?_ | refine ob (by decide) ?_ | refine grow_same (Mem.le_refl _) ?_ | refine ob (Mem.le_refl _) ?_ | refine ⟨_, Mem.le_refl _, ?_⟩ | fail)
    refine (waitsR_ok (c := cD) hdoc (by omega) x.id).mono ?_
    rintro v _ ⟨rfl, rfl⟩
    rw [hww]
    repeat' ((conv => whnf); first | refine ob rfl ?_ | refine grow_same (Mem.le_refl _) ?_ | refine ob (Mem.le_refl _) ?_ | refine ⟨?_, True.intro⟩ | fail)
    (conv => whnf); refine brn_f (by simp) ?_
    repeat' ((conv => whnf); first | refine ⟨?_, True.intro⟩ | refine brn_t rfl ?_ | refine brn_f rfl ?_ | refine ob rfl ?_ | refine ob (by decide) ?_ | refine grow_same (Mem.le_refl _) ?_ | refine ob (Mem.le_refl _) ?_ | refine ⟨_, Mem.le_refl _, ?_⟩ | fail)
    refine ob (by first | omega | (dsimp only; omega)) ?_
    (conv => whnf); refine atp ha ?_
    (conv => whnf); refine on (Mem.row_le hM2 (hrows 6 4 (by decide))) ?_
    repeat' ((conv => whnf); first | refine ⟨?_, True.intro⟩ | refine brn_t rfl ?_ | refine brn_f rfl ?_ | refine ob rfl ?_ | refine ob (by decide) ?_ | refine grow_same (Mem.le_refl _) ?_ | refine ob (Mem.le_refl _) ?_ | refine ⟨_, Mem.le_refl _, ?_⟩ | fail)
    refine ob (by first | omega | (dsimp only; omega)) ?_
    (conv => whnf); refine atp ha ?_
    (conv => whnf); refine on (Mem.row_le hM2 (hrows 6 4 (by decide))) ?_
    repeat' ((conv => whnf); first | refine ⟨?_, True.intro⟩ | refine brn_t rfl ?_ | refine brn_f rfl ?_ | refine ob rfl ?_ | refine ob (by decide) ?_ | refine grow_same (Mem.le_refl _) ?_ | refine ob (Mem.le_refl _) ?_ | refine ⟨_, Mem.le_refl _, ?_⟩ | fail)
    refine (is_ok hB2.dk.desk x.id).mono ?_
    rintro v _ ⟨rfl, rfl⟩
    repeat' ((conv => whnf); first | refine ob rfl ?_ | refine grow_same (Mem.le_refl _) ?_ | refine ob (Mem.le_refl _) ?_ | refine ⟨?_, True.intro⟩ | fail)
    repeat' ((conv => whnf); first | refine ⟨?_, True.intro⟩ | refine brn_t rfl ?_ | refine brn_f rfl ?_ | refine ob rfl ?_ | refine ob (by decide) ?_ | refine grow_same (Mem.le_refl _) ?_ | refine ob (Mem.le_refl _) ?_ | refine ⟨_, Mem.le_refl _, ?_⟩ | fail)
    refine (isR_ok (c := cD) hdoc (by omega) x.id).mono ?_
    rintro v _ ⟨rfl, rfl⟩
    rw [hii]
    repeat' ((conv => whnf); first | refine ob rfl ?_ | refine grow_same (Mem.le_refl _) ?_ | refine ob (Mem.le_refl _) ?_ | refine ⟨?_, True.intro⟩ | fail)
    (conv => whnf); refine brn_f (by simp) ?_
    (conv => whnf)
    refine loopF (σ := Int × Mem) [12] (fun y => [(12, .int .i64 y.1)]) (fun _ => [.live T.portageref20_Desk [.v (.int .i64 wait), .v (.int .i64 next2), .v (.slice aD L2.length cD)]]) (fun y => y.2)
      (fun y => (-1 ≤ y.1 ∧ y.1 ≤ 6) ∧ M2.le y.2) (fun y => (6 - y.1).toNat) ⟨-1, M2⟩ ⟨by simp, Mem.le_refl _⟩ ⟨(by repeat' first | exact True.intro | refine ⟨rfl, ?_⟩), (by repeat' first | exact True.intro | refine ⟨rfl, ?_⟩), Mem.le_refl _, rfl⟩ ?_
    rintro ⟨w, M3⟩ ⟨hw1, hle3⟩
    dsimp only at hw1 hle3
    have hdk3 := hB2.dk.to hle3
    (conv => whnf); refine brn (fun g8 => ?_) (fun g8 => ?_)
    rotate_left
    · repeat' ((conv => whnf); first | refine ⟨?_, True.intro⟩ | refine brn_t rfl ?_ | refine brn_f rfl ?_ | refine ob rfl ?_ | refine ob (by decide) ?_ | refine grow_same (Mem.le_refl _) ?_ | refine ob (Mem.le_refl _) ?_ | refine ⟨_, Mem.le_refl _, ?_⟩ | fail)
      refine ob (inR_i64 (by first | omega | (dsimp only; omega))) ?_
      (conv => whnf)
      refine ⟨⟨i + 1, M3, A2, next2, m2, L2, aD, cD⟩, ⟨by dsimp only; omega, Mem.le_trans hMA hA2, ⟨hdk3, hB2.rel, hB2.all, hB2.nx, hB2.doc, rfl⟩, ?_⟩, by dsimp only; omega, ⟨(by repeat' first | exact True.intro | refine ⟨rfl, ?_⟩), (by repeat' first | exact True.intro | refine ⟨rfl, ?_⟩), Mem.le_refl _, rfl⟩⟩
      dsimp only
      omega
    have hw6 : w < 6 := of_decide_eq_true g8
    repeat' ((conv => whnf); first | refine ⟨?_, True.intro⟩ | refine brn_t rfl ?_ | refine brn_f rfl ?_ | refine ob rfl ?_ | refine ob (by decide) ?_ | refine grow_same (Mem.le_refl _) ?_ | refine ob (Mem.le_refl _) ?_ | refine ⟨_, Mem.le_refl _, ?_⟩ | fail)
    refine (offered_ok hdk3.desk w (by omega)).mono ?_
    rintro v M4 ⟨a4, c4, ids, rfl, hN4, hnd, hlen4, hsrt, hmem⟩
    have hids : ids = offeredL L2 w := hB2.rel.offered w hnd hsrt hmem
    repeat' ((conv => whnf); first | refine ob rfl ?_ | refine grow_same hN4.le ?_ | refine ob hN4.le ?_ | refine ⟨?_, True.intro⟩ | fail)
    repeat' ((conv => whnf); first | refine ⟨?_, True.intro⟩ | refine brn_t rfl ?_ | refine brn_f rfl ?_ | refine ob rfl ?_ | refine ob (by decide) ?_ | refine grow_same (Mem.le_refl _) ?_ | refine ob (Mem.le_refl _) ?_ | refine ⟨_, Mem.le_refl _, ?_⟩ | fail)
    refine (offeredR_ok (c := cD) (hdoc.le (Mem.le_trans hle3 hN4.le)) (by omega) w).mono ?_
    rintro v M5 ⟨a5, c5, rfl, hN5⟩
    repeat' ((conv => whnf); first | refine ob rfl ?_ | refine grow_same hN5.le ?_ | refine ob hN5.le ?_ | refine ⟨?_, True.intro⟩ | fail)
    repeat' ((conv => whnf); first | refine ⟨?_, True.intro⟩ | refine brn_t rfl ?_ | refine brn_f rfl ?_ | refine ob rfl ?_ | refine ob (by decide) ?_ | refine grow_same (Mem.le_refl _) ?_ | refine ob (Mem.le_refl _) ?_ | refine ⟨_, Mem.le_refl _, ?_⟩ | fail)
    refine (sameIds_ok (hN4.src.le hN5.le) hN5.src (by omega) hids).mono ?_
    rintro v _ ⟨rfl, rfl⟩
    repeat' ((conv => whnf); first | refine ob rfl ?_ | refine grow_same (Mem.le_refl _) ?_ | refine ob (Mem.le_refl _) ?_ | refine ⟨?_, True.intro⟩ | fail)
    (conv => whnf); refine brn_f (by simp) ?_
    repeat' ((conv => whnf); first | refine ⟨?_, True.intro⟩ | refine brn_t rfl ?_ | refine brn_f rfl ?_ | refine ob rfl ?_ | refine ob (by decide) ?_ | refine grow_same (Mem.le_refl _) ?_ | refine ob (Mem.le_refl _) ?_ | refine ⟨_, Mem.le_refl _, ?_⟩ | fail)
    refine ob (inR_i64 (by first | omega | (dsimp only; omega))) ?_
    (conv => whnf)
    exact ⟨⟨w + 1, M5⟩, ⟨by dsimp only; omega, Mem.le_trans hle3 (Mem.le_trans hN4.le hN5.le)⟩, by dsimp only; omega, ⟨(by repeat' first | exact True.intro | refine ⟨rfl, ?_⟩), (by repeat' first | exact True.intro | refine ⟨rfl, ?_⟩), Mem.le_refl _, rfl⟩⟩
end Go.Proofs.Ythlleljdahkgpaa
