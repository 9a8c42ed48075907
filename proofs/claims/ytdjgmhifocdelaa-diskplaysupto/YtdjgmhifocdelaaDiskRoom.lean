/- DiskRooms, as a contract. -/
import Derived.Test.YtdjgmhifocdelaaDiskSync
namespace Go.Proofs.Ytdjgmhifocdelaa
open Go Go.Vm
attribute [local irreducible] Brn Ob Grow CallsM inR LoopVC Mem.row Mem.cells Mem.setCells Mem.upd Own AppVC SrcVC StrVC NextVC New SrcOk subA NewSl Mem.textAt Mem.mapAt Mem.iterAt entryOf kfind Wr NewEls Elems
set_option maxRecDepth 10000
variable {M : Mem} {D : DiskR}
theorem newR_ok (limit : Int) : CallsM Try.prog F.ref10_New [.int .i64 limit] M fun v M' =>
    ((limit < 1 ∨ 1048576 < limit) ∧ v = .tuple #[.agg #[.int .i64 0, .slice none 0 0, .int .i64 0, .bool false], .int .i64 1] ∧ M = M') ∨
    (¬ (limit < 1 ∨ 1048576 < limit) ∧ v = .tuple #[.agg #[.int .i64 limit, .slice none 0 0, .int .i64 (-1), .bool false], .int .i64 0] ∧ M = M') := by
  refine fo_ref10_New (by simp) ?_
  (conv => whnf); refine brn (fun h => ?_) (fun h => ?_)
  · repeat' ((conv => whnf); first | refine ⟨?_, True.intro⟩ | refine brn_t rfl ?_ | refine brn_f rfl ?_ | refine ob rfl ?_ | refine ob (by decide) ?_ | refine grow_same (Mem.le_refl _) ?_ | refine ob (Mem.le_refl _) ?_ | refine ⟨_, Mem.le_refl _, ?_⟩ | fail)
    exact .inl ⟨.inl (of_decide_eq_true h), rfl, rfl⟩
  · (conv => whnf); refine brn (fun h1 => ?_) (fun h1 => ?_)
    · repeat' ((conv => whnf); first | refine ⟨?_, True.intro⟩ | refine brn_t rfl ?_ | refine brn_f rfl ?_ | refine ob rfl ?_ | refine ob (by decide) ?_ | refine grow_same (Mem.le_refl _) ?_ | refine ob (Mem.le_refl _) ?_ | refine ⟨_, Mem.le_refl _, ?_⟩ | fail)
      exact .inl ⟨.inr (of_decide_eq_true h1), rfl, rfl⟩
    · repeat' ((conv => whnf); first | refine ⟨?_, True.intro⟩ | refine brn_t rfl ?_ | refine brn_f rfl ?_ | refine ob rfl ?_ | refine ob (by decide) ?_ | refine grow_same (Mem.le_refl _) ?_ | refine ob (Mem.le_refl _) ?_ | refine ⟨_, Mem.le_refl _, ?_⟩ | fail)
      exact .inr ⟨by have := of_decide_eq_false h; have := of_decide_eq_false h1; omega, rfl, rfl⟩
theorem rooms_law (limit : Int) {a : Option Addr} {n c : Nat} {l : List ActD} (hl : Elems M 6 a n (ActR M) l) (hn : n ≤ 1048576) {cs : List Value} {x : ActD} (hx : ActR M cs x) :
    CallsM Try.prog F.law10_DiskRooms [.int .i64 limit, .slice a n c, .agg cs.toArray] M fun v M' => v = .bool true ∧ M.le M' := by
  obtain ⟨a1, n1, c1, a2, n2, c2, rfl, hp, hp1, hk, hk1, hnm, hto, hnn⟩ := hx
  refine fo_law10_DiskRooms (by simp) ?_
  repeat' ((conv => whnf); first | refine ⟨?_, True.intro⟩ | refine brn_t rfl ?_ | refine brn_f rfl ?_ | refine ob rfl ?_ | refine ob (by decide) ?_ | refine grow_same (Mem.le_refl _) ?_ | refine ob (Mem.le_refl _) ?_ | refine ⟨_, Mem.le_refl _, ?_⟩ | fail)
  refine (done_ok limit hl hn).mono ?_
  rintro v M1 (⟨hg, rfl, rfl⟩ | ⟨hg, p, b, D, es, rfl, h1, hN1⟩)
  · repeat' ((conv => whnf); first | refine ⟨?_, True.intro⟩ | refine brn_t rfl ?_ | refine brn_f rfl ?_ | refine ob rfl ?_ | refine ob (by decide) ?_ | refine grow_same (Mem.le_refl _) ?_ | refine ob (Mem.le_refl _) ?_ | refine ⟨_, Mem.le_refl _, ?_⟩ | fail)
    refine (may_ok limit).mono ?_
    rintro v _ ⟨rfl, rfl⟩
    (conv => whnf); refine brn_t (by simp [hg]) ?_
    repeat' ((conv => whnf); first | refine ⟨?_, True.intro⟩ | refine brn_t rfl ?_ | refine brn_f rfl ?_ | refine ob rfl ?_ | refine ob (by decide) ?_ | refine grow_same (Mem.le_refl _) ?_ | refine ob (Mem.le_refl _) ?_ | refine ⟨_, Mem.le_refl _, ?_⟩ | fail)
    refine awake_ok.mono ?_
    rintro v M2 ⟨rfl, hle⟩
    repeat' ((conv => whnf); first | refine ⟨?_, True.intro⟩ | refine brn_t rfl ?_ | refine brn_f rfl ?_ | refine ob rfl ?_ | refine ob (by decide) ?_ | refine grow_same (Mem.le_refl _) ?_ | refine ob (Mem.le_refl _) ?_ | refine ⟨_, Mem.le_refl _, ?_⟩ | fail)
    exact ⟨rfl, hle⟩
  have hu1 := h1.rel.used
  have hi1 := h1.inv.used
  have hln := h1.inv.len
  have hus := hN1.used
  repeat' ((conv => whnf); first | refine ⟨?_, True.intro⟩ | refine brn_t rfl ?_ | refine brn_f rfl ?_ | refine ob rfl ?_ | refine ob (by decide) ?_ | refine grow_same (Mem.le_refl _) ?_ | refine ob (Mem.le_refl _) ?_ | refine ⟨_, Mem.le_refl _, ?_⟩ | fail)
  refine (Used_ok h1.at' (by omega)).mono ?_
  rintro v M2 ⟨rfl, hle2⟩
  rw [hu1]
  (conv => whnf); refine brn_f (decide_eq_false (by omega)) ?_
  have h2 := h1.to hle2
  repeat' ((conv => whnf); first | refine ⟨?_, True.intro⟩ | refine brn_t rfl ?_ | refine brn_f rfl ?_ | refine ob rfl ?_ | refine ob (by decide) ?_ | refine grow_same (Mem.le_refl _) ?_ | refine ob (Mem.le_refl _) ?_ | refine ⟨_, Mem.le_refl _, ?_⟩ | fail)
  refine (Names_ok h2.at' h2.rel h2.inv).mono ?_
  rintro v M3 ⟨na, nc, rfl, hNm⟩
  have h3 := h2.to hNm.le
  (conv => whnf); refine brn_f (decide_eq_false (by omega)) ?_
  repeat' ((conv => whnf); first | refine ⟨?_, True.intro⟩ | refine brn_t rfl ?_ | refine brn_f rfl ?_ | refine ob rfl ?_ | refine ob (by decide) ?_ | refine grow_same (Mem.le_refl _) ?_ | refine ob (Mem.le_refl _) ?_ | refine ⟨_, Mem.le_refl _, ?_⟩ | fail)
  refine (Fork_ok h3.at' h3.rel h3.inv).mono ?_
  rintro v M4 ⟨q, d, gs, rfl, hle4, h4, hr4, hfr4⟩
  have h4d := h3.to hle4
  obtain ⟨h4b, hB⟩ := h4d.base
  have h4c := h4.minus (S := diskB p b es) fun y hy hb => h3.at'.full hb (hfr4 y hy)
  repeat' ((conv => whnf); first | refine ⟨?_, True.intro⟩ | refine brn_t rfl ?_ | refine brn_f rfl ?_ | refine ob rfl ?_ | refine ob (by decide) ?_ | refine grow_same (Mem.le_refl _) ?_ | refine ob (Mem.le_refl _) ?_ | refine ⟨_, Mem.le_refl _, ?_⟩ | fail)
  refine (newR_ok limit).mono ?_
  rintro v _ (⟨hg2, -⟩ | ⟨-, rfl, rfl⟩)
  · exact absurd hg2 hg
  have hpB := hp.le hB
  obtain ⟨B, hBe⟩ : ∃ B, B = M4.minus (diskB p b es) := ⟨_, rfl⟩
  rw [← hBe] at h4b h4c hB hpB
  repeat' ((conv => whnf); first | refine ⟨?_, True.intro⟩ | refine brn_t rfl ?_ | refine brn_f rfl ?_ | refine ob rfl ?_ | refine ob (by decide) ?_ | refine grow_same (Mem.le_refl _) ?_ | refine ob (Mem.le_refl _) ?_ | refine ⟨_, Mem.le_refl _, ?_⟩ | fail)
  refine brn (fun g1 => ?_) (fun g1 => ?_)
  · repeat' ((conv => whnf); first | refine ⟨?_, True.intro⟩ | refine brn_t rfl ?_ | refine brn_f rfl ?_ | refine ob rfl ?_ | refine ob (by decide) ?_ | refine grow_same (Mem.le_refl _) ?_ | refine ob (Mem.le_refl _) ?_ | refine ⟨_, Mem.le_refl _, ?_⟩ | fail)
    refine (appendF h4b (by omega) (hpB.le h4b.le)).mono ?_
    rintro v M5 ⟨fs5, rfl, h5⟩
    have hN5 := hN1.append x.name x.p
    have hno := @append_no D x.name x.p
    generalize appendR D x.name x.p = r at *
    obtain ⟨E, e5⟩ := r
    dsimp only at h5 hN5 hno
    have hu5 := h5.rel.used
    have hi5 := h5.inv.used
    have hus5 := hN5.used
    repeat' ((conv => whnf); first | refine ⟨?_, True.intro⟩ | refine brn_t rfl ?_ | refine brn_f rfl ?_ | refine ob rfl ?_ | refine ob (by decide) ?_ | refine grow_same (Mem.le_refl _) ?_ | refine ob (Mem.le_refl _) ?_ | refine ⟨_, Mem.le_refl _, ?_⟩ | fail)
    refine brn_t (by simp) ?_
    (conv => whnf)
    refine brn (fun ge => ?_) (fun ge => ?_)
    · have h6 := h5
      repeat' ((conv => whnf); first | refine ⟨?_, True.intro⟩ | refine brn_t rfl ?_ | refine brn_f rfl ?_ | refine ob rfl ?_ | refine ob (by decide) ?_ | refine grow_same (Mem.le_refl _) ?_ | refine ob (Mem.le_refl _) ?_ | refine ⟨_, Mem.le_refl _, ?_⟩ | fail)
      refine (Used_ok h6.at' (by omega)).mono ?_
      rintro v M7 ⟨rfl, hle7⟩
      rw [hu5]
      (conv => whnf); refine brn_t (decide_eq_true (by omega)) ?_
      repeat' ((conv => whnf); first | refine ⟨?_, True.intro⟩ | refine brn_t rfl ?_ | refine brn_f rfl ?_ | refine ob rfl ?_ | refine ob (by decide) ?_ | refine grow_same (Mem.le_refl _) ?_ | refine ob (Mem.le_refl _) ?_ | refine ⟨_, Mem.le_refl _, ?_⟩ | fail)
      refine awake_ok.mono ?_
      rintro v M8 ⟨rfl, hle8⟩
      repeat' ((conv => whnf); first | refine ⟨?_, True.intro⟩ | refine brn_t rfl ?_ | refine brn_f rfl ?_ | refine ob rfl ?_ | refine ob (by decide) ?_ | refine grow_same (Mem.le_refl _) ?_ | refine ob (Mem.le_refl _) ?_ | refine ⟨_, Mem.le_refl _, ?_⟩ | fail)
      exact ⟨rfl, Mem.le_trans hB (Mem.le_trans h6.le (Mem.le_trans hle7 hle8))⟩
    · have ge' : ¬ e5 = 0 := by simpa using ge
      have hED := hno ge'
      subst hED
      repeat' ((conv => whnf); first | refine ⟨?_, True.intro⟩ | refine brn_t rfl ?_ | refine brn_f rfl ?_ | refine ob rfl ?_ | refine ob (by decide) ?_ | refine grow_same (Mem.le_refl _) ?_ | refine ob (Mem.le_refl _) ?_ | refine ⟨_, Mem.le_refl _, ?_⟩ | fail)
      refine (same_ok (h4c.le h5.le) hr4 hN1.lit h5.at' h5.rel hN5.lit rfl).mono ?_
      rintro v M6 ⟨rfl, hle6⟩
      have h6 := h5.to hle6
      repeat' ((conv => whnf); first | refine ⟨?_, True.intro⟩ | refine brn_t rfl ?_ | refine brn_f rfl ?_ | refine ob rfl ?_ | refine ob (by decide) ?_ | refine grow_same (Mem.le_refl _) ?_ | refine ob (Mem.le_refl _) ?_ | refine ⟨_, Mem.le_refl _, ?_⟩ | fail)
      refine (Used_ok h6.at' (by omega)).mono ?_
      rintro v M7 ⟨rfl, hle7⟩
      rw [hu5]
      (conv => whnf); refine brn_t (decide_eq_true (by omega)) ?_
      repeat' ((conv => whnf); first | refine ⟨?_, True.intro⟩ | refine brn_t rfl ?_ | refine brn_f rfl ?_ | refine ob rfl ?_ | refine ob (by decide) ?_ | refine grow_same (Mem.le_refl _) ?_ | refine ob (Mem.le_refl _) ?_ | refine ⟨_, Mem.le_refl _, ?_⟩ | fail)
      refine awake_ok.mono ?_
      rintro v M8 ⟨rfl, hle8⟩
      repeat' ((conv => whnf); first | refine ⟨?_, True.intro⟩ | refine brn_t rfl ?_ | refine brn_f rfl ?_ | refine ob rfl ?_ | refine ob (by decide) ?_ | refine grow_same (Mem.le_refl _) ?_ | refine ob (Mem.le_refl _) ?_ | refine ⟨_, Mem.le_refl _, ?_⟩ | fail)
      exact ⟨rfl, Mem.le_trans hB (Mem.le_trans h6.le (Mem.le_trans hle7 hle8))⟩
  (conv => whnf); refine brn (fun g2 => ?_) (fun g2 => ?_)
  · repeat' ((conv => whnf); first | refine ⟨?_, True.intro⟩ | refine brn_t rfl ?_ | refine brn_f rfl ?_ | refine ob rfl ?_ | refine ob (by decide) ?_ | refine grow_same (Mem.le_refl _) ?_ | refine ob (Mem.le_refl _) ?_ | refine ⟨_, Mem.le_refl _, ?_⟩ | fail)
    refine (syncF h4b (by omega)).mono ?_
    rintro v M5 ⟨fs5, rfl, h5⟩
    have hN5 := hN1.sync x.name
    have hno := @sync_no D x.name
    generalize syncR D x.name = r at *
    obtain ⟨E, e5⟩ := r
    dsimp only at h5 hN5 hno
    have hu5 := h5.rel.used
    have hi5 := h5.inv.used
    have hus5 := hN5.used
    repeat' ((conv => whnf); first | refine ⟨?_, True.intro⟩ | refine brn_t rfl ?_ | refine brn_f rfl ?_ | refine ob rfl ?_ | refine ob (by decide) ?_ | refine grow_same (Mem.le_refl _) ?_ | refine ob (Mem.le_refl _) ?_ | refine ⟨_, Mem.le_refl _, ?_⟩ | fail)
    refine brn_t (by simp) ?_
    (conv => whnf)
    refine brn (fun ge => ?_) (fun ge => ?_)
    · have h6 := h5
      repeat' ((conv => whnf); first | refine ⟨?_, True.intro⟩ | refine brn_t rfl ?_ | refine brn_f rfl ?_ | refine ob rfl ?_ | refine ob (by decide) ?_ | refine grow_same (Mem.le_refl _) ?_ | refine ob (Mem.le_refl _) ?_ | refine ⟨_, Mem.le_refl _, ?_⟩ | fail)
      refine (Used_ok h6.at' (by omega)).mono ?_
      rintro v M7 ⟨rfl, hle7⟩
      rw [hu5]
      (conv => whnf); refine brn_t (decide_eq_true (by omega)) ?_
      repeat' ((conv => whnf); first | refine ⟨?_, True.intro⟩ | refine brn_t rfl ?_ | refine brn_f rfl ?_ | refine ob rfl ?_ | refine ob (by decide) ?_ | refine grow_same (Mem.le_refl _) ?_ | refine ob (Mem.le_refl _) ?_ | refine ⟨_, Mem.le_refl _, ?_⟩ | fail)
      refine awake_ok.mono ?_
      rintro v M8 ⟨rfl, hle8⟩
      repeat' ((conv => whnf); first | refine ⟨?_, True.intro⟩ | refine brn_t rfl ?_ | refine brn_f rfl ?_ | refine ob rfl ?_ | refine ob (by decide) ?_ | refine grow_same (Mem.le_refl _) ?_ | refine ob (Mem.le_refl _) ?_ | refine ⟨_, Mem.le_refl _, ?_⟩ | fail)
      exact ⟨rfl, Mem.le_trans hB (Mem.le_trans h6.le (Mem.le_trans hle7 hle8))⟩
    · have ge' : ¬ e5 = 0 := by simpa using ge
      have hED := hno ge'
      subst hED
      repeat' ((conv => whnf); first | refine ⟨?_, True.intro⟩ | refine brn_t rfl ?_ | refine brn_f rfl ?_ | refine ob rfl ?_ | refine ob (by decide) ?_ | refine grow_same (Mem.le_refl _) ?_ | refine ob (Mem.le_refl _) ?_ | refine ⟨_, Mem.le_refl _, ?_⟩ | fail)
      refine (same_ok (h4c.le h5.le) hr4 hN1.lit h5.at' h5.rel hN5.lit rfl).mono ?_
      rintro v M6 ⟨rfl, hle6⟩
      have h6 := h5.to hle6
      repeat' ((conv => whnf); first | refine ⟨?_, True.intro⟩ | refine brn_t rfl ?_ | refine brn_f rfl ?_ | refine ob rfl ?_ | refine ob (by decide) ?_ | refine grow_same (Mem.le_refl _) ?_ | refine ob (Mem.le_refl _) ?_ | refine ⟨_, Mem.le_refl _, ?_⟩ | fail)
      refine (Used_ok h6.at' (by omega)).mono ?_
      rintro v M7 ⟨rfl, hle7⟩
      rw [hu5]
      (conv => whnf); refine brn_t (decide_eq_true (by omega)) ?_
      repeat' ((conv => whnf); first | refine ⟨?_, True.intro⟩ | refine brn_t rfl ?_ | refine brn_f rfl ?_ | refine ob rfl ?_ | refine ob (by decide) ?_ | refine grow_same (Mem.le_refl _) ?_ | refine ob (Mem.le_refl _) ?_ | refine ⟨_, Mem.le_refl _, ?_⟩ | fail)
      refine awake_ok.mono ?_
      rintro v M8 ⟨rfl, hle8⟩
      repeat' ((conv => whnf); first | refine ⟨?_, True.intro⟩ | refine brn_t rfl ?_ | refine brn_f rfl ?_ | refine ob rfl ?_ | refine ob (by decide) ?_ | refine grow_same (Mem.le_refl _) ?_ | refine ob (Mem.le_refl _) ?_ | refine ⟨_, Mem.le_refl _, ?_⟩ | fail)
      exact ⟨rfl, Mem.le_trans hB (Mem.le_trans h6.le (Mem.le_trans hle7 hle8))⟩
  (conv => whnf); refine brn (fun g3 => ?_) (fun g3 => ?_)
  · repeat' ((conv => whnf); first | refine ⟨?_, True.intro⟩ | refine brn_t rfl ?_ | refine brn_f rfl ?_ | refine ob rfl ?_ | refine ob (by decide) ?_ | refine grow_same (Mem.le_refl _) ?_ | refine ob (Mem.le_refl _) ?_ | refine ⟨_, Mem.le_refl _, ?_⟩ | fail)
    refine (cutF h4b (by omega) x.n).mono ?_
    rintro v M5 ⟨fs5, rfl, h5⟩
    have hN5 := hN1.cut x.name x.n
    have hno := @cut_no D x.name x.n
    generalize cutR D x.name x.n = r at *
    obtain ⟨E, e5⟩ := r
    dsimp only at h5 hN5 hno
    have hu5 := h5.rel.used
    have hi5 := h5.inv.used
    have hus5 := hN5.used
    repeat' ((conv => whnf); first | refine ⟨?_, True.intro⟩ | refine brn_t rfl ?_ | refine brn_f rfl ?_ | refine ob rfl ?_ | refine ob (by decide) ?_ | refine grow_same (Mem.le_refl _) ?_ | refine ob (Mem.le_refl _) ?_ | refine ⟨_, Mem.le_refl _, ?_⟩ | fail)
    refine brn_t (by simp) ?_
    (conv => whnf)
    refine brn (fun ge => ?_) (fun ge => ?_)
    · have h6 := h5
      repeat' ((conv => whnf); first | refine ⟨?_, True.intro⟩ | refine brn_t rfl ?_ | refine brn_f rfl ?_ | refine ob rfl ?_ | refine ob (by decide) ?_ | refine grow_same (Mem.le_refl _) ?_ | refine ob (Mem.le_refl _) ?_ | refine ⟨_, Mem.le_refl _, ?_⟩ | fail)
      refine (Used_ok h6.at' (by omega)).mono ?_
      rintro v M7 ⟨rfl, hle7⟩
      rw [hu5]
      (conv => whnf); refine brn_t (decide_eq_true (by omega)) ?_
      repeat' ((conv => whnf); first | refine ⟨?_, True.intro⟩ | refine brn_t rfl ?_ | refine brn_f rfl ?_ | refine ob rfl ?_ | refine ob (by decide) ?_ | refine grow_same (Mem.le_refl _) ?_ | refine ob (Mem.le_refl _) ?_ | refine ⟨_, Mem.le_refl _, ?_⟩ | fail)
      refine awake_ok.mono ?_
      rintro v M8 ⟨rfl, hle8⟩
      repeat' ((conv => whnf); first | refine ⟨?_, True.intro⟩ | refine brn_t rfl ?_ | refine brn_f rfl ?_ | refine ob rfl ?_ | refine ob (by decide) ?_ | refine grow_same (Mem.le_refl _) ?_ | refine ob (Mem.le_refl _) ?_ | refine ⟨_, Mem.le_refl _, ?_⟩ | fail)
      exact ⟨rfl, Mem.le_trans hB (Mem.le_trans h6.le (Mem.le_trans hle7 hle8))⟩
    · have ge' : ¬ e5 = 0 := by simpa using ge
      have hED := hno ge'
      subst hED
      repeat' ((conv => whnf); first | refine ⟨?_, True.intro⟩ | refine brn_t rfl ?_ | refine brn_f rfl ?_ | refine ob rfl ?_ | refine ob (by decide) ?_ | refine grow_same (Mem.le_refl _) ?_ | refine ob (Mem.le_refl _) ?_ | refine ⟨_, Mem.le_refl _, ?_⟩ | fail)
      refine (same_ok (h4c.le h5.le) hr4 hN1.lit h5.at' h5.rel hN5.lit rfl).mono ?_
      rintro v M6 ⟨rfl, hle6⟩
      have h6 := h5.to hle6
      repeat' ((conv => whnf); first | refine ⟨?_, True.intro⟩ | refine brn_t rfl ?_ | refine brn_f rfl ?_ | refine ob rfl ?_ | refine ob (by decide) ?_ | refine grow_same (Mem.le_refl _) ?_ | refine ob (Mem.le_refl _) ?_ | refine ⟨_, Mem.le_refl _, ?_⟩ | fail)
      refine (Used_ok h6.at' (by omega)).mono ?_
      rintro v M7 ⟨rfl, hle7⟩
      rw [hu5]
      (conv => whnf); refine brn_t (decide_eq_true (by omega)) ?_
      repeat' ((conv => whnf); first | refine ⟨?_, True.intro⟩ | refine brn_t rfl ?_ | refine brn_f rfl ?_ | refine ob rfl ?_ | refine ob (by decide) ?_ | refine grow_same (Mem.le_refl _) ?_ | refine ob (Mem.le_refl _) ?_ | refine ⟨_, Mem.le_refl _, ?_⟩ | fail)
      refine awake_ok.mono ?_
      rintro v M8 ⟨rfl, hle8⟩
      repeat' ((conv => whnf); first | refine ⟨?_, True.intro⟩ | refine brn_t rfl ?_ | refine brn_f rfl ?_ | refine ob rfl ?_ | refine ob (by decide) ?_ | refine grow_same (Mem.le_refl _) ?_ | refine ob (Mem.le_refl _) ?_ | refine ⟨_, Mem.le_refl _, ?_⟩ | fail)
      exact ⟨rfl, Mem.le_trans hB (Mem.le_trans h6.le (Mem.le_trans hle7 hle8))⟩
  (conv => whnf); refine brn (fun g4 => ?_) (fun g4 => ?_)
  · repeat' ((conv => whnf); first | refine ⟨?_, True.intro⟩ | refine brn_t rfl ?_ | refine brn_f rfl ?_ | refine ob rfl ?_ | refine ob (by decide) ?_ | refine grow_same (Mem.le_refl _) ?_ | refine ob (Mem.le_refl _) ?_ | refine ⟨_, Mem.le_refl _, ?_⟩ | fail)
    refine (renameF h4b (by omega) (by omega)).mono ?_
    rintro v M5 ⟨fs5, rfl, h5⟩
    have hN5 := hN1.rename x.name x.to
    have hno := @rename_no D x.name x.to
    generalize renameR D x.name x.to = r at *
    obtain ⟨E, e5⟩ := r
    dsimp only at h5 hN5 hno
    have hu5 := h5.rel.used
    have hi5 := h5.inv.used
    have hus5 := hN5.used
    repeat' ((conv => whnf); first | refine ⟨?_, True.intro⟩ | refine brn_t rfl ?_ | refine brn_f rfl ?_ | refine ob rfl ?_ | refine ob (by decide) ?_ | refine grow_same (Mem.le_refl _) ?_ | refine ob (Mem.le_refl _) ?_ | refine ⟨_, Mem.le_refl _, ?_⟩ | fail)
    refine brn_t (by simp) ?_
    (conv => whnf)
    refine brn (fun ge => ?_) (fun ge => ?_)
    · have h6 := h5
      repeat' ((conv => whnf); first | refine ⟨?_, True.intro⟩ | refine brn_t rfl ?_ | refine brn_f rfl ?_ | refine ob rfl ?_ | refine ob (by decide) ?_ | refine grow_same (Mem.le_refl _) ?_ | refine ob (Mem.le_refl _) ?_ | refine ⟨_, Mem.le_refl _, ?_⟩ | fail)
      refine (Used_ok h6.at' (by omega)).mono ?_
      rintro v M7 ⟨rfl, hle7⟩
      rw [hu5]
      (conv => whnf); refine brn_t (decide_eq_true (by omega)) ?_
      repeat' ((conv => whnf); first | refine ⟨?_, True.intro⟩ | refine brn_t rfl ?_ | refine brn_f rfl ?_ | refine ob rfl ?_ | refine ob (by decide) ?_ | refine grow_same (Mem.le_refl _) ?_ | refine ob (Mem.le_refl _) ?_ | refine ⟨_, Mem.le_refl _, ?_⟩ | fail)
      refine awake_ok.mono ?_
      rintro v M8 ⟨rfl, hle8⟩
      repeat' ((conv => whnf); first | refine ⟨?_, True.intro⟩ | refine brn_t rfl ?_ | refine brn_f rfl ?_ | refine ob rfl ?_ | refine ob (by decide) ?_ | refine grow_same (Mem.le_refl _) ?_ | refine ob (Mem.le_refl _) ?_ | refine ⟨_, Mem.le_refl _, ?_⟩ | fail)
      exact ⟨rfl, Mem.le_trans hB (Mem.le_trans h6.le (Mem.le_trans hle7 hle8))⟩
    · have ge' : ¬ e5 = 0 := by simpa using ge
      have hED := hno ge'
      subst hED
      repeat' ((conv => whnf); first | refine ⟨?_, True.intro⟩ | refine brn_t rfl ?_ | refine brn_f rfl ?_ | refine ob rfl ?_ | refine ob (by decide) ?_ | refine grow_same (Mem.le_refl _) ?_ | refine ob (Mem.le_refl _) ?_ | refine ⟨_, Mem.le_refl _, ?_⟩ | fail)
      refine (same_ok (h4c.le h5.le) hr4 hN1.lit h5.at' h5.rel hN5.lit rfl).mono ?_
      rintro v M6 ⟨rfl, hle6⟩
      have h6 := h5.to hle6
      repeat' ((conv => whnf); first | refine ⟨?_, True.intro⟩ | refine brn_t rfl ?_ | refine brn_f rfl ?_ | refine ob rfl ?_ | refine ob (by decide) ?_ | refine grow_same (Mem.le_refl _) ?_ | refine ob (Mem.le_refl _) ?_ | refine ⟨_, Mem.le_refl _, ?_⟩ | fail)
      refine (Used_ok h6.at' (by omega)).mono ?_
      rintro v M7 ⟨rfl, hle7⟩
      rw [hu5]
      (conv => whnf); refine brn_t (decide_eq_true (by omega)) ?_
      repeat' ((conv => whnf); first | refine ⟨?_, True.intro⟩ | refine brn_t rfl ?_ | refine brn_f rfl ?_ | refine ob rfl ?_ | refine ob (by decide) ?_ | refine grow_same (Mem.le_refl _) ?_ | refine ob (Mem.le_refl _) ?_ | refine ⟨_, Mem.le_refl _, ?_⟩ | fail)
      refine awake_ok.mono ?_
      rintro v M8 ⟨rfl, hle8⟩
      repeat' ((conv => whnf); first | refine ⟨?_, True.intro⟩ | refine brn_t rfl ?_ | refine brn_f rfl ?_ | refine ob rfl ?_ | refine ob (by decide) ?_ | refine grow_same (Mem.le_refl _) ?_ | refine ob (Mem.le_refl _) ?_ | refine ⟨_, Mem.le_refl _, ?_⟩ | fail)
      exact ⟨rfl, Mem.le_trans hB (Mem.le_trans h6.le (Mem.le_trans hle7 hle8))⟩
  (conv => whnf); refine brn (fun g5 => ?_) (fun g5 => ?_)
  · repeat' ((conv => whnf); first | refine ⟨?_, True.intro⟩ | refine brn_t rfl ?_ | refine brn_f rfl ?_ | refine ob rfl ?_ | refine ob (by decide) ?_ | refine grow_same (Mem.le_refl _) ?_ | refine ob (Mem.le_refl _) ?_ | refine ⟨_, Mem.le_refl _, ?_⟩ | fail)
    refine (removeF h4b (by omega)).mono ?_
    rintro v M5 ⟨fs5, rfl, h5⟩
    have hN5 := hN1.remove x.name
    have hno := @remove_no D x.name
    generalize removeR D x.name = r at *
    obtain ⟨E, e5⟩ := r
    dsimp only at h5 hN5 hno
    have hu5 := h5.rel.used
    have hi5 := h5.inv.used
    have hus5 := hN5.used
    repeat' ((conv => whnf); first | refine ⟨?_, True.intro⟩ | refine brn_t rfl ?_ | refine brn_f rfl ?_ | refine ob rfl ?_ | refine ob (by decide) ?_ | refine grow_same (Mem.le_refl _) ?_ | refine ob (Mem.le_refl _) ?_ | refine ⟨_, Mem.le_refl _, ?_⟩ | fail)
    refine brn_t (by simp) ?_
    (conv => whnf)
    refine brn (fun ge => ?_) (fun ge => ?_)
    · have h6 := h5
      repeat' ((conv => whnf); first | refine ⟨?_, True.intro⟩ | refine brn_t rfl ?_ | refine brn_f rfl ?_ | refine ob rfl ?_ | refine ob (by decide) ?_ | refine grow_same (Mem.le_refl _) ?_ | refine ob (Mem.le_refl _) ?_ | refine ⟨_, Mem.le_refl _, ?_⟩ | fail)
      refine (Used_ok h6.at' (by omega)).mono ?_
      rintro v M7 ⟨rfl, hle7⟩
      rw [hu5]
      (conv => whnf); refine brn_t (decide_eq_true (by omega)) ?_
      repeat' ((conv => whnf); first | refine ⟨?_, True.intro⟩ | refine brn_t rfl ?_ | refine brn_f rfl ?_ | refine ob rfl ?_ | refine ob (by decide) ?_ | refine grow_same (Mem.le_refl _) ?_ | refine ob (Mem.le_refl _) ?_ | refine ⟨_, Mem.le_refl _, ?_⟩ | fail)
      refine awake_ok.mono ?_
      rintro v M8 ⟨rfl, hle8⟩
      repeat' ((conv => whnf); first | refine ⟨?_, True.intro⟩ | refine brn_t rfl ?_ | refine brn_f rfl ?_ | refine ob rfl ?_ | refine ob (by decide) ?_ | refine grow_same (Mem.le_refl _) ?_ | refine ob (Mem.le_refl _) ?_ | refine ⟨_, Mem.le_refl _, ?_⟩ | fail)
      exact ⟨rfl, Mem.le_trans hB (Mem.le_trans h6.le (Mem.le_trans hle7 hle8))⟩
    · have ge' : ¬ e5 = 0 := by simpa using ge
      have hED := hno ge'
      subst hED
      repeat' ((conv => whnf); first | refine ⟨?_, True.intro⟩ | refine brn_t rfl ?_ | refine brn_f rfl ?_ | refine ob rfl ?_ | refine ob (by decide) ?_ | refine grow_same (Mem.le_refl _) ?_ | refine ob (Mem.le_refl _) ?_ | refine ⟨_, Mem.le_refl _, ?_⟩ | fail)
      refine (same_ok (h4c.le h5.le) hr4 hN1.lit h5.at' h5.rel hN5.lit rfl).mono ?_
      rintro v M6 ⟨rfl, hle6⟩
      have h6 := h5.to hle6
      repeat' ((conv => whnf); first | refine ⟨?_, True.intro⟩ | refine brn_t rfl ?_ | refine brn_f rfl ?_ | refine ob rfl ?_ | refine ob (by decide) ?_ | refine grow_same (Mem.le_refl _) ?_ | refine ob (Mem.le_refl _) ?_ | refine ⟨_, Mem.le_refl _, ?_⟩ | fail)
      refine (Used_ok h6.at' (by omega)).mono ?_
      rintro v M7 ⟨rfl, hle7⟩
      rw [hu5]
      (conv => whnf); refine brn_t (decide_eq_true (by omega)) ?_
      repeat' ((conv => whnf); first | refine ⟨?_, True.intro⟩ | refine brn_t rfl ?_ | refine brn_f rfl ?_ | refine ob rfl ?_ | refine ob (by decide) ?_ | refine grow_same (Mem.le_refl _) ?_ | refine ob (Mem.le_refl _) ?_ | refine ⟨_, Mem.le_refl _, ?_⟩ | fail)
      refine awake_ok.mono ?_
      rintro v M8 ⟨rfl, hle8⟩
      repeat' ((conv => whnf); first | refine ⟨?_, True.intro⟩ | refine brn_t rfl ?_ | refine brn_f rfl ?_ | refine ob rfl ?_ | refine ob (by decide) ?_ | refine grow_same (Mem.le_refl _) ?_ | refine ob (Mem.le_refl _) ?_ | refine ⟨_, Mem.le_refl _, ?_⟩ | fail)
      exact ⟨rfl, Mem.le_trans hB (Mem.le_trans h6.le (Mem.le_trans hle7 hle8))⟩
  · have hu5 := hu1
    have hi5 := hi1
    have hus5 := hus
    have h6 := h4b
    repeat' ((conv => whnf); first | refine ⟨?_, True.intro⟩ | refine brn_t rfl ?_ | refine brn_f rfl ?_ | refine ob rfl ?_ | refine ob (by decide) ?_ | refine grow_same (Mem.le_refl _) ?_ | refine ob (Mem.le_refl _) ?_ | refine ⟨_, Mem.le_refl _, ?_⟩ | fail)
    refine brn_t (by simp) ?_
    repeat' ((conv => whnf); first | refine ⟨?_, True.intro⟩ | refine brn_t rfl ?_ | refine brn_f rfl ?_ | refine ob rfl ?_ | refine ob (by decide) ?_ | refine grow_same (Mem.le_refl _) ?_ | refine ob (Mem.le_refl _) ?_ | refine ⟨_, Mem.le_refl _, ?_⟩ | fail)
    refine (Used_ok h6.at' (by omega)).mono ?_
    rintro v M7 ⟨rfl, hle7⟩
    rw [hu5]
    (conv => whnf); refine brn_t (decide_eq_true (by omega)) ?_
    repeat' ((conv => whnf); first | refine ⟨?_, True.intro⟩ | refine brn_t rfl ?_ | refine brn_f rfl ?_ | refine ob rfl ?_ | refine ob (by decide) ?_ | refine grow_same (Mem.le_refl _) ?_ | refine ob (Mem.le_refl _) ?_ | refine ⟨_, Mem.le_refl _, ?_⟩ | fail)
    refine awake_ok.mono ?_
    rintro v M8 ⟨rfl, hle8⟩
    repeat' ((conv => whnf); first | refine ⟨?_, True.intro⟩ | refine brn_t rfl ?_ | refine brn_f rfl ?_ | refine ob rfl ?_ | refine ob (by decide) ?_ | refine grow_same (Mem.le_refl _) ?_ | refine ob (Mem.le_refl _) ?_ | refine ⟨_, Mem.le_refl _, ?_⟩ | fail)
    exact ⟨rfl, Mem.le_trans hB (Mem.le_trans h6.le (Mem.le_trans hle7 hle8))⟩
end Go.Proofs.Ytdjgmhifocdelaa
