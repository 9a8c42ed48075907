/- DiskPlays, as a contract. -/
import Derived.Test.YtdjgmhifocdelaaRefDiskE
namespace Go.Proofs.Ytdjgmhifocdelaa
open Go Go.Vm
attribute [local irreducible] Brn Ob Grow CallsM inR LoopVC Mem.row Mem.cells Mem.setCells Mem.upd Own AppVC SrcVC StrVC NextVC New SrcOk subA NewSl Mem.textAt Mem.mapAt Mem.iterAt entryOf kfind Wr NewEls Elems
set_option maxRecDepth 10000
variable {M : Mem}
structure StP where
  i : Nat
  mem : Mem
  B : Mem
  p : Nat
  b : Nat
  es : FsT
  D : DiskR
  a : Option Addr
  c : Nat
theorem plays_law (limit : Int) {a : Option Addr} {n c : Nat} {l : List ActD} (hl : Elems M 6 a n (ActR M) l) (hn : n ≤ 1048576) :
    CallsM Try.prog F.law10_DiskPlays [.int .i64 limit, .slice a n c] M fun v M' => v = .bool true ∧ M.le M' := by
  refine fo_law10_DiskPlays (by simp) ?_
  repeat' ((conv => whnf); first | refine ⟨?_, True.intro⟩ | refine brn_t rfl ?_ | refine brn_f rfl ?_ | refine ob rfl ?_ | refine ob (by decide) ?_ | refine grow_same (Mem.le_refl _) ?_ | refine ob (Mem.le_refl _) ?_ | refine ⟨_, Mem.le_refl _, ?_⟩ | fail)
  refine (newF limit).mono ?_
  rintro v M1 (⟨hg, rfl, rfl⟩ | ⟨hg, p, b, rfl, h1⟩)
  · repeat' ((conv => whnf); first | refine ⟨?_, True.intro⟩ | refine brn_t rfl ?_ | refine brn_f rfl ?_ | refine ob rfl ?_ | refine ob (by decide) ?_ | refine grow_same (Mem.le_refl _) ?_ | refine ob (Mem.le_refl _) ?_ | refine ⟨_, Mem.le_refl _, ?_⟩ | fail)
    refine (newR_ok limit).mono ?_
    rintro v _ (⟨-, rfl, rfl⟩ | ⟨hg2, -⟩)
    · repeat' ((conv => whnf); first | refine ⟨?_, True.intro⟩ | refine brn_t rfl ?_ | refine brn_f rfl ?_ | refine ob rfl ?_ | refine ob (by decide) ?_ | refine grow_same (Mem.le_refl _) ?_ | refine ob (Mem.le_refl _) ?_ | refine ⟨_, Mem.le_refl _, ?_⟩ | fail)
      refine awake_ok.mono ?_
      rintro v M2 ⟨rfl, hle⟩
      repeat' ((conv => whnf); first | refine ⟨?_, True.intro⟩ | refine brn_t rfl ?_ | refine brn_f rfl ?_ | refine ob rfl ?_ | refine ob (by decide) ?_ | refine grow_same (Mem.le_refl _) ?_ | refine ob (Mem.le_refl _) ?_ | refine ⟨_, Mem.le_refl _, ?_⟩ | fail)
      exact ⟨rfl, hle⟩
    · exact absurd hg hg2
  repeat' ((conv => whnf); first | refine ⟨?_, True.intro⟩ | refine brn_t rfl ?_ | refine brn_f rfl ?_ | refine ob rfl ?_ | refine ob (by decide) ?_ | refine grow_same (Mem.le_refl _) ?_ | refine ob (Mem.le_refl _) ?_ | refine ⟨_, Mem.le_refl _, ?_⟩ | fail)
  refine (newR_ok limit).mono ?_
  rintro v _ (⟨hg2, -⟩ | ⟨-, rfl, rfl⟩)
  · exact absurd hg2 hg
  repeat' ((conv => whnf); first | refine ⟨?_, True.intro⟩ | refine brn_t rfl ?_ | refine brn_f rfl ?_ | refine ob rfl ?_ | refine ob (by decide) ?_ | refine grow_same (Mem.le_refl _) ?_ | refine ob (Mem.le_refl _) ?_ | refine ⟨_, Mem.le_refl _, ?_⟩ | fail)
  refine loopF (σ := StP) [9, 5] (fun y => [(9, .int .i64 y.i), (5, .c (.v (ptr y.p)))]) (fun y => [.live T.portageref10_Disk [.v (.int .i64 y.D.limit), .v (.slice y.a y.D.l.length y.c), .v (.int .i64 y.D.left), .v (.bool y.D.down)]]) (fun y => y.mem)
    (fun y => y.i ≤ n ∧ M.le y.B ∧ Both y.B y.mem y.p y.b y.es y.D y.a ∧ NamesOk y.D) (fun y => n - y.i) ⟨0, M1, M, p, b, _, ⟨limit, [], -1, false⟩, none, 0⟩ ⟨by simp, Mem.le_refl _, ⟨h1, SrcOk.nil _ _⟩, fun f hf => by cases hf⟩ ⟨(by repeat' first | exact True.intro | refine ⟨rfl, ?_⟩), (by repeat' first | exact True.intro | refine ⟨rfl, ?_⟩), Mem.le_refl _, rfl⟩ ?_
  rintro ⟨i, Mc, B, p, b, es, D, ra, rc⟩ ⟨hi, hB, hBo, hnk⟩
  dsimp only at hi hB hBo hnk
  (conv => whnf); refine brn (fun g => ?_) (fun g => ?_)
  rotate_left
  · (conv => whnf)
    repeat' ((conv => whnf); first | refine ⟨?_, True.intro⟩ | refine brn_t rfl ?_ | refine brn_f rfl ?_ | refine ob rfl ?_ | refine ob (by decide) ?_ | refine grow_same (Mem.le_refl _) ?_ | refine ob (Mem.le_refl _) ?_ | refine ⟨_, Mem.le_refl _, ?_⟩ | fail)
    refine awake_ok.mono ?_
    rintro v M2 ⟨rfl, hle⟩
    repeat' ((conv => whnf); first | refine ⟨?_, True.intro⟩ | refine brn_t rfl ?_ | refine brn_f rfl ?_ | refine ob rfl ?_ | refine ob (by decide) ?_ | refine grow_same (Mem.le_refl _) ?_ | refine ob (Mem.le_refl _) ?_ | refine ⟨_, Mem.le_refl _, ?_⟩ | fail)
    exact ⟨rfl, Mem.le_trans hB (Mem.le_trans hBo.own.le hle)⟩
  have hlt : i < n := by have := of_decide_eq_true g; dsimp only at this; omega
  obtain ⟨hil, bb, o, a1, n1, c1, a2, n2, c2, ha, hc, hrow, hp, hp1, hk, hk1, hnm, hto, hnn⟩ := act_at hl hlt
  generalize l[i] = x at *
  have hM := Mem.le_trans hB hBo.own.le
  (conv => whnf); refine brn (fun g1 => ?_) (fun g1 => ?_)
  rotate_left
  · (conv => whnf)
    repeat' ((conv => whnf); first | refine ⟨?_, True.intro⟩ | refine brn_t rfl ?_ | refine brn_f rfl ?_ | refine ob rfl ?_ | refine ob (by decide) ?_ | refine grow_same (Mem.le_refl _) ?_ | refine ob (Mem.le_refl _) ?_ | refine ⟨_, Mem.le_refl _, ?_⟩ | fail)
    refine awake_ok.mono ?_
    rintro v M2 ⟨rfl, hle⟩
    repeat' ((conv => whnf); first | refine ⟨?_, True.intro⟩ | refine brn_t rfl ?_ | refine brn_f rfl ?_ | refine ob rfl ?_ | refine ob (by decide) ?_ | refine grow_same (Mem.le_refl _) ?_ | refine ob (Mem.le_refl _) ?_ | refine ⟨_, Mem.le_refl _, ?_⟩ | fail)
    exact ⟨rfl, Mem.le_trans hB (Mem.le_trans hBo.own.le hle)⟩
  (conv => whnf); refine ob (by first | omega | (dsimp only; omega)) ?_
  (conv => whnf); refine atp ha ?_
  (conv => whnf); refine on (Mem.row_le hM (hc 0 _ rfl)) ?_
  (conv => whnf); refine brn (fun g2 => ?_) (fun g2 => ?_)
  · repeat' ((conv => whnf); first | refine ⟨?_, True.intro⟩ | refine brn_t rfl ?_ | refine brn_f rfl ?_ | refine ob rfl ?_ | refine ob (by decide) ?_ | refine grow_same (Mem.le_refl _) ?_ | refine ob (Mem.le_refl _) ?_ | refine ⟨_, Mem.le_refl _, ?_⟩ | fail)
    refine (Fork_ok hBo.own.at' hBo.own.rel hBo.own.inv).mono ?_
    rintro v M4 ⟨q, d, gs, rfl, hle4, h4, hr4, hfr4⟩
    have h4d := hBo.own.to hle4
    obtain ⟨h4b, hB1⟩ := h4d.base
    have h4c := h4.minus (S := diskB p b es) fun y hy hb => hBo.own.at'.full hb (hfr4 y hy)
    obtain ⟨B1, hBe⟩ : ∃ B1, B1 = M4.minus (diskB p b es) := ⟨_, rfl⟩
    rw [← hBe] at h4b h4c hB1
    repeat' ((conv => whnf); first | refine ⟨?_, True.intro⟩ | refine brn_t rfl ?_ | refine brn_f rfl ?_ | refine ob rfl ?_ | refine ob (by decide) ?_ | refine grow_same (Mem.le_refl _) ?_ | refine ob (Mem.le_refl _) ?_ | refine ⟨_, Mem.le_refl _, ?_⟩ | fail)
    refine (crashFr h4b (keep := []) (SrcOk.nil _ _) (by omega)).mono ?_
    rintro v M5 ⟨es5, rfl, h5⟩
    repeat' ((conv => whnf); first | refine ⟨?_, True.intro⟩ | refine brn_t rfl ?_ | refine brn_f rfl ?_ | refine ob rfl ?_ | refine ob (by decide) ?_ | refine grow_same (Mem.le_refl _) ?_ | refine ob (Mem.le_refl _) ?_ | refine ⟨_, Mem.le_refl _, ?_⟩ | fail)
    refine new (fun b2 hb2 => ?_)
    replace hb2 : M5 b2 = none := hb2
    (conv => whnf); refine on Mem.textAt_setCells ?_
    (conv => whnf)
    have hle6 : M5.le ((M5.setCells b2 T.uint8 [S.u 120]).upd b2 (.cells [S.u 120].toArray T.uint8 (1, 2))) := by
      intro c o hc
      have hne : c ≠ b2 := fun e => by subst e; rw [hb2] at hc; cases hc
      unfold Mem.setCells
      rw [Mem.upd_ne _ _ hne, Mem.upd_ne _ _ hne]; exact hc
    have hs6 : SrcOk ((M5.setCells b2 T.uint8 [S.u 120]).upd b2 (.cells [S.u 120].toArray T.uint8 (1, 2))) 1 (some ⟨b2, 0, none⟩) 1 ([120].map byteV) :=
      by unfold SrcOk; exact ⟨rfl, .inr ⟨b2, 0, rfl, Mem.row_obj (Mem.upd_same _ _ _) (by decide)⟩⟩
    obtain ⟨M6, hM6⟩ : ∃ M6, M6 = (M5.setCells b2 T.uint8 [S.u 120]).upd b2 (.cells [S.u 120].toArray T.uint8 (1, 2)) := ⟨_, rfl⟩
    rw [← hM6] at hle6 hs6
    erw [← hM6]
    refine (appendF (h5.to hle6) (s := ⟨#[111, 116, 104, 101, 114]⟩) (by decide) hs6).mono ?_
    generalize appendR (crashR D []) ⟨#[111, 116, 104, 101, 114]⟩ [120] = r
    rintro v M7 ⟨es7, rfl, h7⟩
    have hBS : Both B M7 q d gs D ra := ⟨⟨Mem.le_trans hB1 h7.le, h4c.le h7.le, hr4, hBo.own.inv, fun y hy => by
      have h8 := hfr4 y hy
      cases e : B y with
      | none => rfl
      | some o => rw [hBo.own.le y o e] at h8; cases h8⟩, hBo.ref⟩
    have hMS := Mem.le_trans hB hBS.own.le
    have hx : ActR B (actCs x a1 n1 c1 a2 n2 c2) x := ⟨a1, n1, c1, a2, n2, c2, rfl, hp.le hB, hp1, hk.le hB, hk1, hnm, hto, hnn⟩
    repeat' ((conv => whnf); first | refine ⟨?_, True.intro⟩ | refine brn_t rfl ?_ | refine brn_f rfl ?_ | refine ob rfl ?_ | refine ob (by decide) ?_ | refine grow_same (Mem.le_refl _) ?_ | refine ob (Mem.le_refl _) ?_ | refine ⟨_, Mem.le_refl _, ?_⟩ | fail)
    (conv => whnf); refine ob (by first | omega | (dsimp only; omega)) ?_
    (conv => whnf); refine atp ha ?_
    (conv => whnf); refine on (Mem.row_le hMS hrow) ?_
    repeat' ((conv => whnf); first | refine ⟨?_, True.intro⟩ | refine ⟨?_, ?_, True.intro⟩ | refine brn_t rfl ?_ | refine brn_f rfl ?_ | refine ob rfl ?_ | refine ob (by decide) ?_ | refine grow_same (Mem.le_refl _) ?_ | refine ob (Mem.le_refl _) ?_ | refine ⟨_, Mem.le_refl _, ?_⟩ | fail)
    · (conv => whnf)
      refine (step_ok hBS hnk hx).mono ?_
      rintro v M8 ⟨B8, b8, es8, D8, a8, c8, rfl, hB8, h8, hnk8⟩
      repeat' ((conv => whnf); first | refine ⟨?_, True.intro⟩ | refine brn_t rfl ?_ | refine brn_f rfl ?_ | refine ob rfl ?_ | refine ob (by decide) ?_ | refine grow_same (Mem.le_refl _) ?_ | refine ob (Mem.le_refl _) ?_ | refine ⟨_, Mem.le_refl _, ?_⟩ | fail)
      (conv => whnf); refine (as_ok h8 hnk8).mono ?_
      rintro v M9 ⟨rfl, hle9⟩
      repeat' ((conv => whnf); first | refine ⟨?_, True.intro⟩ | refine brn_t rfl ?_ | refine brn_f rfl ?_ | refine ob rfl ?_ | refine ob (by decide) ?_ | refine grow_same (Mem.le_refl _) ?_ | refine ob (Mem.le_refl _) ?_ | refine ⟨_, Mem.le_refl _, ?_⟩ | fail)
      refine ob (inR_i64 (by first | omega | (dsimp only; omega))) ?_
      (conv => whnf)
      exact ⟨⟨i + 1, M9, B8, _, b8, es8, D8, a8, c8⟩, ⟨by dsimp only at *; omega, Mem.le_trans hB hB8, ⟨h8.own.to hle9, h8.ref⟩, hnk8⟩, by dsimp only; omega, ⟨(by repeat' first | exact True.intro | refine ⟨rfl, ?_⟩), (by repeat' first | exact True.intro | refine ⟨rfl, ?_⟩), Mem.le_refl _, rfl⟩⟩
    · (conv => whnf)
      refine (step_ok hBS hnk hx).mono ?_
      rintro v M8 ⟨B8, b8, es8, D8, a8, c8, rfl, hB8, h8, hnk8⟩
      repeat' ((conv => whnf); first | refine ⟨?_, True.intro⟩ | refine brn_t rfl ?_ | refine brn_f rfl ?_ | refine ob rfl ?_ | refine ob (by decide) ?_ | refine grow_same (Mem.le_refl _) ?_ | refine ob (Mem.le_refl _) ?_ | refine ⟨_, Mem.le_refl _, ?_⟩ | fail)
      (conv => whnf); refine (as_ok h8 hnk8).mono ?_
      rintro v M9 ⟨rfl, hle9⟩
      repeat' ((conv => whnf); first | refine ⟨?_, True.intro⟩ | refine brn_t rfl ?_ | refine brn_f rfl ?_ | refine ob rfl ?_ | refine ob (by decide) ?_ | refine grow_same (Mem.le_refl _) ?_ | refine ob (Mem.le_refl _) ?_ | refine ⟨_, Mem.le_refl _, ?_⟩ | fail)
      refine ob (inR_i64 (by first | omega | (dsimp only; omega))) ?_
      (conv => whnf)
      exact ⟨⟨i + 1, M9, B8, _, b8, es8, D8, a8, c8⟩, ⟨by dsimp only at *; omega, Mem.le_trans hB hB8, ⟨h8.own.to hle9, h8.ref⟩, hnk8⟩, by dsimp only; omega, ⟨(by repeat' first | exact True.intro | refine ⟨rfl, ?_⟩), (by repeat' first | exact True.intro | refine ⟨rfl, ?_⟩), Mem.le_refl _, rfl⟩⟩
  · have hBS := hBo
    have hMS := Mem.le_trans hB hBS.own.le
    have hx : ActR B (actCs x a1 n1 c1 a2 n2 c2) x := ⟨a1, n1, c1, a2, n2, c2, rfl, hp.le hB, hp1, hk.le hB, hk1, hnm, hto, hnn⟩
    repeat' ((conv => whnf); first | refine ⟨?_, True.intro⟩ | refine brn_t rfl ?_ | refine brn_f rfl ?_ | refine ob rfl ?_ | refine ob (by decide) ?_ | refine grow_same (Mem.le_refl _) ?_ | refine ob (Mem.le_refl _) ?_ | refine ⟨_, Mem.le_refl _, ?_⟩ | fail)
    (conv => whnf); refine ob (by first | omega | (dsimp only; omega)) ?_
    (conv => whnf); refine atp ha ?_
    (conv => whnf); refine on (Mem.row_le hMS hrow) ?_
    repeat' ((conv => whnf); first | refine ⟨?_, True.intro⟩ | refine ⟨?_, ?_, True.intro⟩ | refine brn_t rfl ?_ | refine brn_f rfl ?_ | refine ob rfl ?_ | refine ob (by decide) ?_ | refine grow_same (Mem.le_refl _) ?_ | refine ob (Mem.le_refl _) ?_ | refine ⟨_, Mem.le_refl _, ?_⟩ | fail)
    · (conv => whnf)
      refine (step_ok hBS hnk hx).mono ?_
      rintro v M8 ⟨B8, b8, es8, D8, a8, c8, rfl, hB8, h8, hnk8⟩
      repeat' ((conv => whnf); first | refine ⟨?_, True.intro⟩ | refine brn_t rfl ?_ | refine brn_f rfl ?_ | refine ob rfl ?_ | refine ob (by decide) ?_ | refine grow_same (Mem.le_refl _) ?_ | refine ob (Mem.le_refl _) ?_ | refine ⟨_, Mem.le_refl _, ?_⟩ | fail)
      (conv => whnf); refine (as_ok h8 hnk8).mono ?_
      rintro v M9 ⟨rfl, hle9⟩
      repeat' ((conv => whnf); first | refine ⟨?_, True.intro⟩ | refine brn_t rfl ?_ | refine brn_f rfl ?_ | refine ob rfl ?_ | refine ob (by decide) ?_ | refine grow_same (Mem.le_refl _) ?_ | refine ob (Mem.le_refl _) ?_ | refine ⟨_, Mem.le_refl _, ?_⟩ | fail)
      refine ob (inR_i64 (by first | omega | (dsimp only; omega))) ?_
      (conv => whnf)
      exact ⟨⟨i + 1, M9, B8, _, b8, es8, D8, a8, c8⟩, ⟨by dsimp only at *; omega, Mem.le_trans hB hB8, ⟨h8.own.to hle9, h8.ref⟩, hnk8⟩, by dsimp only; omega, ⟨(by repeat' first | exact True.intro | refine ⟨rfl, ?_⟩), (by repeat' first | exact True.intro | refine ⟨rfl, ?_⟩), Mem.le_refl _, rfl⟩⟩
    · (conv => whnf)
      refine (step_ok hBS hnk hx).mono ?_
      rintro v M8 ⟨B8, b8, es8, D8, a8, c8, rfl, hB8, h8, hnk8⟩
      repeat' ((conv => whnf); first | refine ⟨?_, True.intro⟩ | refine brn_t rfl ?_ | refine brn_f rfl ?_ | refine ob rfl ?_ | refine ob (by decide) ?_ | refine grow_same (Mem.le_refl _) ?_ | refine ob (Mem.le_refl _) ?_ | refine ⟨_, Mem.le_refl _, ?_⟩ | fail)
      (conv => whnf); refine (as_ok h8 hnk8).mono ?_
      rintro v M9 ⟨rfl, hle9⟩
      repeat' ((conv => whnf); first | refine ⟨?_, True.intro⟩ | refine brn_t rfl ?_ | refine brn_f rfl ?_ | refine ob rfl ?_ | refine ob (by decide) ?_ | refine grow_same (Mem.le_refl _) ?_ | refine ob (Mem.le_refl _) ?_ | refine ⟨_, Mem.le_refl _, ?_⟩ | fail)
      refine ob (inR_i64 (by first | omega | (dsimp only; omega))) ?_
      (conv => whnf)
      exact ⟨⟨i + 1, M9, B8, _, b8, es8, D8, a8, c8⟩, ⟨by dsimp only at *; omega, Mem.le_trans hB hB8, ⟨h8.own.to hle9, h8.ref⟩, hnk8⟩, by dsimp only; omega, ⟨(by repeat' first | exact True.intro | refine ⟨rfl, ?_⟩), (by repeat' first | exact True.intro | refine ⟨rfl, ?_⟩), Mem.le_refl _, rfl⟩⟩
end Go.Proofs.Ytdjgmhifocdelaa
