/- WalAgain, as a contract. -/
import Derived.Test.YtnlghoenbhbfhaaJoin30
namespace Go.Proofs.Ytnlghoenbhbfhaa
open Go Go.Vm
attribute [local irreducible] Brn Ob Grow CallsM inR LoopVC Mem.row Mem.cells Mem.setCells Mem.upd Go.Vm.Own AppVC SrcVC StrVC NextVC New SrcOk subA NewSl Mem.textAt Mem.mapAt Mem.iterAt entryOf kfind Wr NewEls Elems
set_option maxRecDepth 10000
variable {M : Mem}
structure AgS where
  i : Nat
  M : Mem
  D : DiskR
  es : FsT
  L : LogR
structure AgI (M : Mem) (g p b n : Nat) (size : Int) (y : AgS) : Prop where
  i : y.i ≤ n ∧ y.i ≤ 60
  log : LogAt M y.M g p b y.D y.es y.L
  nm : NamesW y.D
  words : y.L.size = size ∧ 1 ≤ y.L.last ∧ y.L.last ≤ 1 + y.i
set_option maxRecDepth 10000 in
theorem again_law (size : Int) {a : Option Addr} {n c : Nat} {l : List ActW} (hl : Elems M 4 a n (ActL M) l) (hn : n ≤ 1048576) {ka : Option Addr} {kn kc : Nat} {keep : List Int} (hk : SrcOk M 1 ka kn (keep.map intV)) (hkn : kn ≤ 1048576) :
    CallsM Try.prog F.law12_WalAgain [.int .i64 size, .slice a n c, .slice ka kn kc] M fun v M' => v = .bool true ∧ M.le M' := by
  refine fo_law12_WalAgain (by simp) ?_
  repeat' ((conv => whnf); first | refine ⟨?_, True.intro⟩ | refine brn_t rfl ?_ | refine brn_f rfl ?_ | refine ob rfl ?_ | refine ob (by decide) ?_ | refine grow_same (Mem.le_refl _) ?_ | refine ob (Mem.le_refl _) ?_ | refine ⟨_, Mem.le_refl _, ?_⟩ | fail)
  refine (begin_okW size).mono ?_
  rintro v M1 (⟨hs, rfl, hle1⟩ | ⟨hs, p, b, g, es, rfl, h1⟩)
  · repeat' ((conv => whnf); first | refine ⟨?_, True.intro⟩ | refine brn_t rfl ?_ | refine brn_f rfl ?_ | refine ob rfl ?_ | refine ob (by decide) ?_ | refine grow_same (Mem.le_refl _) ?_ | refine ob (Mem.le_refl _) ?_ | refine ⟨_, Mem.le_refl _, ?_⟩ | fail)
    refine (may_okW size).mono ?_
    rintro v _ ⟨rfl, rfl⟩
    (conv => whnf); refine brn_t (by rw [decide_eq_false hs]; rfl) ?_
    repeat' ((conv => whnf); first | refine ⟨?_, True.intro⟩ | refine brn_t rfl ?_ | refine brn_f rfl ?_ | refine ob rfl ?_ | refine ob (by decide) ?_ | refine grow_same (Mem.le_refl _) ?_ | refine ob (Mem.le_refl _) ?_ | refine ⟨_, Mem.le_refl _, ?_⟩ | fail)
    refine awake_ok.mono ?_
    rintro v M2 ⟨rfl, hle2⟩
    repeat' ((conv => whnf); first | refine ⟨?_, True.intro⟩ | refine brn_t rfl ?_ | refine brn_f rfl ?_ | refine ob rfl ?_ | refine ob (by decide) ?_ | refine grow_same (Mem.le_refl _) ?_ | refine ob (Mem.le_refl _) ?_ | refine ⟨_, Mem.le_refl _, ?_⟩ | fail)
    exact ⟨rfl, Mem.le_trans hle1 hle2⟩
  repeat' ((conv => whnf); first | refine ⟨?_, True.intro⟩ | refine brn_t rfl ?_ | refine brn_f rfl ?_ | refine ob rfl ?_ | refine ob (by decide) ?_ | refine grow_same (Mem.le_refl _) ?_ | refine ob (Mem.le_refl _) ?_ | refine ⟨_, Mem.le_refl _, ?_⟩ | fail)
  refine loopF (σ := AgS) [9] (fun y => [(9, .int .i64 y.i)]) (fun _ => []) (fun y => y.M) (AgI M g p b n size) (fun y => 60 - y.i)
    ⟨0, M1, D0, es, L0 1 size⟩ ⟨⟨by dsimp only; omega, by dsimp only; omega⟩, h1, NamesW.nil, rfl, by show (1 : Int) ≤ 1; decide, by show (1 : Int) ≤ 1 + ((0 : Nat) : Int); decide⟩ ⟨(by repeat' first | exact True.intro | refine ⟨rfl, ?_⟩), (by repeat' first | exact True.intro | refine ⟨rfl, ?_⟩), Mem.le_refl _, rfl⟩ ?_
  rintro ⟨i, Mc, D, ec, L⟩ ⟨⟨hi1, hi2⟩, hL, hnm, hsz, hla1, hla⟩
  dsimp only at hi1 hi2 hL hnm hsz hla1 hla
  have hin : (i : Int) ≤ 60 := by omega
  (conv => whnf); refine brn (fun e => ?_) (fun e => ?_)
  case refine_2 =>
    repeat' ((conv => whnf); first | refine ⟨?_, True.intro⟩ | refine brn_t rfl ?_ | refine brn_f rfl ?_ | refine ob rfl ?_ | refine ob (by decide) ?_ | refine grow_same (Mem.le_refl _) ?_ | refine ob (Mem.le_refl _) ?_ | refine ⟨_, Mem.le_refl _, ?_⟩ | fail)
    obtain ⟨hLb, hMb⟩ := hL.base
    obtain ⟨Z, hZ⟩ : ∃ Z, Z = Mc.minus (logB g p b ec) := ⟨_, rfl⟩
    rw [← hZ] at hLb hMb
    refine (crashFr hLb.disk (hk.le hMb) (by omega)).mono ?_
    rintro v M3 ⟨es3, rfl, h3⟩
    have hP := PowW.crash hL.disk.inv hnm keep
    have hlen := openR_len hP.inv hP.nm size
    obtain ⟨E, la, all, o1, o2, o3⟩ := open_again hP size
    obtain ⟨L4, hL4⟩ : ∃ L4 : LogR, L4 = { L0 1 size with last := la } := ⟨_, rfl⟩
    rw [← hL4] at o1 o3
    rw [o1] at hlen
    dsimp only at hlen
    repeat' ((conv => whnf); first | refine ⟨?_, True.intro⟩ | refine brn_t rfl ?_ | refine brn_f rfl ?_ | refine ob rfl ?_ | refine ob (by decide) ?_ | refine grow_same (Mem.le_refl _) ?_ | refine ob (Mem.le_refl _) ?_ | refine ⟨_, Mem.le_refl _, ?_⟩ | fail)
    refine (Open_ok h3 hP.nm 1 size).mono ?_
    unfold OpenOut
    rw [o1]
    rintro v M4 (⟨h, -⟩ | ⟨-, h, -⟩ | ⟨-, -, h, -⟩ | ⟨-, -, -, g4, es4, a4, n4, c4, rfl, h4, hA⟩)
    · omega
    · cases h
    · exact absurd rfl h
    dsimp only at h4 hA
    have hn4 : n4 = all.length := hA.len.symm
    repeat' ((conv => whnf); first | refine ⟨?_, True.intro⟩ | refine brn_t rfl ?_ | refine brn_f rfl ?_ | refine ob rfl ?_ | refine ob (by decide) ?_ | refine grow_same (Mem.le_refl _) ?_ | refine ob (Mem.le_refl _) ?_ | refine ⟨_, Mem.le_refl _, ?_⟩ | fail)
    refine (Fork_ok h4.disk.at' h4.disk.rel h4.disk.inv).mono ?_
    rintro v M5 ⟨p', b', es', rfl, hle5, hF5, hFr5, hFf5⟩
    have h5 := h4.to hle5
    obtain ⟨hd5, hZX⟩ := h5.disk.base
    have hAX : AllAt Z (M5.minus (diskB p b es4)) a4 n4 c4 all := hA.up (Mem.le_trans (h4.zle hle5) fun y o hy => by
      unfold Mem.minus at hy ⊢
      split at hy
      · cases hy
      · rename_i hno
        rw [if_neg fun hd => hno (.inr hd)]; exact hy)
    have hFX : DAt (M5.minus (diskB p b es4)) p' b' E es' := hF5.minus fun y hy hS => h4.disk.at'.full hS (hFf5 y hy)
    have hgX : (M5.minus (diskB p b es4)).has g4 T.wal_Log (logCs p L4) := by
      have := h5.self
      unfold Mem.has at this ⊢
      unfold Mem.minus
      rw [if_neg (h5.disk.at'.notB h5.self)]
      exact this
    obtain ⟨X, hX⟩ : ∃ X, X = M5.minus (diskB p b es4) := ⟨_, rfl⟩
    rw [← hX] at hd5 hZX hAX hFX hgX
    repeat' ((conv => whnf); first | refine ⟨?_, True.intro⟩ | refine brn_t rfl ?_ | refine brn_f rfl ?_ | refine ob rfl ?_ | refine ob (by decide) ?_ | refine grow_same (Mem.le_refl _) ?_ | refine ob (Mem.le_refl _) ?_ | refine ⟨_, Mem.le_refl _, ?_⟩ | fail)
    refine (Open_ok hd5 o2.nm 1 size).mono ?_
    unfold OpenOut
    rw [o3]
    rintro v M6 (⟨h, -⟩ | ⟨-, h, -⟩ | ⟨-, -, h, -⟩ | ⟨-, -, -, g6, es6, a6, n6, c6, rfl, h6, hA6⟩)
    · omega
    · rw [o2.down] at h; cases h
    · exact absurd rfl h
    dsimp only at h6 hA6
    have hX6 := h6.disk.le
    have hy6 : LogAt Z M6 g4 p b E es6 L4 := ⟨h6.disk.mono hZX, hgX.le hX6, h4.fresh⟩
    have hE1 := (hAX.up hX6).elems.imp (Mem.le_refl _) fun _ _ _ hx => BytesW.r hx
    have hE2 := (hA6.up (Mem.minus_le _ _)).elems.imp (Mem.le_refl _) fun _ _ _ hx => BytesW.r hx
    repeat' ((conv => whnf); first | refine ⟨?_, True.intro⟩ | refine brn_t rfl ?_ | refine brn_f rfl ?_ | refine ob rfl ?_ | refine ob (by decide) ?_ | refine grow_same (Mem.le_refl _) ?_ | refine ob (Mem.le_refl _) ?_ | refine ⟨_, Mem.le_refl _, ?_⟩ | fail)
    refine (same_ok hE1 hE2 (by omega)).mono ?_
    rintro v _ ⟨hv, rfl⟩
    rw [show decide (all = all) = true from decide_eq_true rfl] at hv
    subst hv
    repeat' ((conv => whnf); first | refine ⟨?_, True.intro⟩ | refine brn_t rfl ?_ | refine brn_f rfl ?_ | refine ob rfl ?_ | refine ob (by decide) ?_ | refine grow_same (Mem.le_refl _) ?_ | refine ob (Mem.le_refl _) ?_ | refine ⟨_, Mem.le_refl _, ?_⟩ | fail)
    refine (last_okL hy6.self).mono ?_
    rintro v _ ⟨rfl, rfl⟩
    repeat' ((conv => whnf); first | refine ⟨?_, True.intro⟩ | refine brn_t rfl ?_ | refine brn_f rfl ?_ | refine ob rfl ?_ | refine ob (by decide) ?_ | refine grow_same (Mem.le_refl _) ?_ | refine ob (Mem.le_refl _) ?_ | refine ⟨_, Mem.le_refl _, ?_⟩ | fail)
    refine (last_okL h6.self).mono ?_
    rintro v _ ⟨rfl, rfl⟩
    repeat' ((conv => whnf); first | refine ⟨?_, True.intro⟩ | refine brn_t rfl ?_ | refine brn_f rfl ?_ | refine ob rfl ?_ | refine ob (by decide) ?_ | refine grow_same (Mem.le_refl _) ?_ | refine ob (Mem.le_refl _) ?_ | refine ⟨_, Mem.le_refl _, ?_⟩ | fail)
    refine brn_f (by simp) ?_
    repeat' ((conv => whnf); first | refine ⟨?_, True.intro⟩ | refine brn_t rfl ?_ | refine brn_f rfl ?_ | refine ob rfl ?_ | refine ob (by decide) ?_ | refine grow_same (Mem.le_refl _) ?_ | refine ob (Mem.le_refl _) ?_ | refine ⟨_, Mem.le_refl _, ?_⟩ | fail)
    refine (size_ok hy6 o2.nm).mono ?_
    rintro v M7 ⟨rfl, hle7⟩
    repeat' ((conv => whnf); first | refine ⟨?_, True.intro⟩ | refine brn_t rfl ?_ | refine brn_f rfl ?_ | refine ob rfl ?_ | refine ob (by decide) ?_ | refine grow_same (Mem.le_refl _) ?_ | refine ob (Mem.le_refl _) ?_ | refine ⟨_, Mem.le_refl _, ?_⟩ | fail)
    refine (size_ok (h6.to hle7) o2.nm).mono ?_
    rintro v M8 ⟨rfl, hle8⟩
    repeat' ((conv => whnf); first | refine ⟨?_, True.intro⟩ | refine brn_t rfl ?_ | refine brn_f rfl ?_ | refine ob rfl ?_ | refine ob (by decide) ?_ | refine grow_same (Mem.le_refl _) ?_ | refine ob (Mem.le_refl _) ?_ | refine ⟨_, Mem.le_refl _, ?_⟩ | fail)
    refine brn_f (by simp) ?_
    have hF8 := ((hFX.le hX6).le hle7).le hle8
    have hd8 := (h6.disk.to hle7).to hle8
    repeat' ((conv => whnf); first | refine ⟨?_, True.intro⟩ | refine brn_t rfl ?_ | refine brn_f rfl ?_ | refine ob rfl ?_ | refine ob (by decide) ?_ | refine grow_same (Mem.le_refl _) ?_ | refine ob (Mem.le_refl _) ?_ | refine ⟨_, Mem.le_refl _, ?_⟩ | fail)
    refine (Names_ok hF8 hFr5 o2.inv).mono ?_
    rintro v M9 ⟨na, nc, rfl, hNa⟩
    repeat' ((conv => whnf); first | refine ⟨?_, True.intro⟩ | refine brn_t rfl ?_ | refine brn_f rfl ?_ | refine ob rfl ?_ | refine ob (by decide) ?_ | refine grow_same (Mem.le_refl _) ?_ | refine ob (Mem.le_refl _) ?_ | refine ⟨_, Mem.le_refl _, ?_⟩ | fail)
    refine (Names_ok (hd8.at'.le hNa.le) hd8.rel hd8.inv).mono ?_
    rintro v M10 ⟨nb, nd, rfl, hNb⟩
    have hn9 := hNa.src.le hNb.le
    have hn10 := hNb.src
    have hle10 : M8.le M10 := Mem.le_trans hNa.le hNb.le
    have hEl := o2.inv.len
    repeat' ((conv => whnf); first | refine ⟨?_, True.intro⟩ | refine brn_t rfl ?_ | refine brn_f rfl ?_ | refine ob rfl ?_ | refine ob (by decide) ?_ | refine grow_same (Mem.le_refl _) ?_ | refine ob (Mem.le_refl _) ?_ | refine ⟨_, Mem.le_refl _, ?_⟩ | fail)
    refine brn_f (by simp) ?_
    repeat' ((conv => whnf); first | refine ⟨?_, True.intro⟩ | refine brn_t rfl ?_ | refine brn_f rfl ?_ | refine ob rfl ?_ | refine ob (by decide) ?_ | refine grow_same (Mem.le_refl _) ?_ | refine ob (Mem.le_refl _) ?_ | refine ⟨_, Mem.le_refl _, ?_⟩ | fail)
    refine loopF (σ := Nat × Mem) [19] (fun y => [(19, .int .i64 y.1)]) (fun _ => []) (fun y => y.2) (fun | ⟨j, Me⟩ => j ≤ E.l.length ∧ M10.le Me) (fun y => E.l.length - y.1) ⟨0, M10⟩ ⟨by omega, Mem.le_refl _⟩ ⟨(by repeat' first | exact True.intro | refine ⟨rfl, ?_⟩), (by repeat' first | exact True.intro | refine ⟨rfl, ?_⟩), Mem.le_refl _, rfl⟩ ?_
    rintro ⟨j, Me⟩ ⟨hj1, hle⟩
    (conv => whnf); refine brn (fun e => ?_) (fun e => ?_)
    · have hlt : j < E.l.length := by have := of_decide_eq_true e; dsimp only at this; omega
      obtain ⟨hk1, b1, p1, e1, hr1⟩ := (hn9.le hle).at (i := j) hlt
      obtain ⟨hk2, b2, p2, e2, hr2⟩ := (hn10.le hle).at (i := j) hlt
      obtain ⟨nmk, hnk⟩ := o2.nm.num (List.getElem_mem hlt)
      have hnm1 : (E.l.map (·.name))[j] = E.l[j].name := by simp
      rw [hnm1] at hr1 hr2
      rw [hnk] at hr1 hr2
      generalize numR E.l[j].name = k at *
      have hle8e := Mem.le_trans hle10 hle
      (conv => whnf); refine ob (by first | omega | (dsimp only; omega)) ?_
      (conv => whnf); refine atp e1 ?_
      (conv => whnf); refine on hr1 ?_
      repeat' ((conv => whnf); first | refine ⟨?_, True.intro⟩ | refine brn_t rfl ?_ | refine brn_f rfl ?_ | refine ob rfl ?_ | refine ob (by decide) ?_ | refine grow_same (Mem.le_refl _) ?_ | refine ob (Mem.le_refl _) ?_ | refine ⟨_, Mem.le_refl _, ?_⟩ | fail)
      refine (Read_ok (hF8.le hle8e) hFr5 o2.inv _ (name_size k)).mono ?_
      rintro v M11 ⟨a11, n11, c11, rfl, hn11, hN11⟩
      repeat' ((conv => whnf); first | refine ⟨?_, True.intro⟩ | refine brn_t rfl ?_ | refine brn_f rfl ?_ | refine ob rfl ?_ | refine ob (by decide) ?_ | refine grow_same (Mem.le_refl _) ?_ | refine ob (Mem.le_refl _) ?_ | refine ⟨_, Mem.le_refl _, ?_⟩ | fail)
      refine ob (by first | omega | (dsimp only; omega)) ?_
      (conv => whnf); refine atp e2 ?_
      (conv => whnf); refine on (Mem.row_le hN11.le hr2) ?_
      repeat' ((conv => whnf); first | refine ⟨?_, True.intro⟩ | refine brn_t rfl ?_ | refine brn_f rfl ?_ | refine ob rfl ?_ | refine ob (by decide) ?_ | refine grow_same (Mem.le_refl _) ?_ | refine ob (Mem.le_refl _) ?_ | refine ⟨_, Mem.le_refl _, ?_⟩ | fail)
      refine (readF ((hd8.to hle8e).to hN11.le) (name_size k)).mono ?_
      rintro v M12 ⟨a12, n12, c12, rfl, hn12, hN12⟩
      have hle12 := Mem.le_trans hN11.le hN12.le
      repeat' ((conv => whnf); first | refine ⟨?_, True.intro⟩ | refine brn_t rfl ?_ | refine brn_f rfl ?_ | refine ob rfl ?_ | refine ob (by decide) ?_ | refine grow_same (Mem.le_refl _) ?_ | refine ob (Mem.le_refl _) ?_ | refine ⟨_, Mem.le_refl _, ?_⟩ | fail)
      refine ob (by first | omega | (dsimp only; omega)) ?_
      (conv => whnf); refine atp e1 ?_
      (conv => whnf); refine on (Mem.row_le hle12 hr1) ?_
      repeat' ((conv => whnf); first | refine ⟨?_, True.intro⟩ | refine brn_t rfl ?_ | refine brn_f rfl ?_ | refine ob rfl ?_ | refine ob (by decide) ?_ | refine grow_same (Mem.le_refl _) ?_ | refine ob (Mem.le_refl _) ?_ | refine ⟨_, Mem.le_refl _, ?_⟩ | fail)
      refine ob (by first | omega | (dsimp only; omega)) ?_
      (conv => whnf); refine atp e2 ?_
      (conv => whnf); refine on (Mem.row_le hle12 hr2) ?_
      repeat' ((conv => whnf); first | refine ⟨?_, True.intro⟩ | refine brn_t rfl ?_ | refine brn_f rfl ?_ | refine ob rfl ?_ | refine ob (by decide) ?_ | refine grow_same (Mem.le_refl _) ?_ | refine ob (Mem.le_refl _) ?_ | refine ⟨_, Mem.le_refl _, ?_⟩ | fail)
      refine brn_f (by simp) ?_
      repeat' ((conv => whnf); first | refine ⟨?_, True.intro⟩ | refine brn_t rfl ?_ | refine brn_f rfl ?_ | refine ob rfl ?_ | refine ob (by decide) ?_ | refine grow_same (Mem.le_refl _) ?_ | refine ob (Mem.le_refl _) ?_ | refine ⟨_, Mem.le_refl _, ?_⟩ | fail)
      refine strv (hN11.src.le hN12.le) ?_
      repeat' ((conv => whnf); first | refine ⟨?_, True.intro⟩ | refine brn_t rfl ?_ | refine brn_f rfl ?_ | refine ob rfl ?_ | refine ob (by decide) ?_ | refine grow_same (Mem.le_refl _) ?_ | refine ob (Mem.le_refl _) ?_ | refine ⟨_, Mem.le_refl _, ?_⟩ | fail)
      refine strv hN12.src ?_
      repeat' ((conv => whnf); first | refine ⟨?_, True.intro⟩ | refine brn_t rfl ?_ | refine brn_f rfl ?_ | refine ob rfl ?_ | refine ob (by decide) ?_ | refine grow_same (Mem.le_refl _) ?_ | refine ob (Mem.le_refl _) ?_ | refine ⟨_, Mem.le_refl _, ?_⟩ | fail)
      refine brn_f (by simp) ?_
      repeat' ((conv => whnf); first | refine ⟨?_, True.intro⟩ | refine brn_t rfl ?_ | refine brn_f rfl ?_ | refine ob rfl ?_ | refine ob (by decide) ?_ | refine grow_same (Mem.le_refl _) ?_ | refine ob (Mem.le_refl _) ?_ | refine ⟨_, Mem.le_refl _, ?_⟩ | fail)
      refine ob (inR_i64 (by first | omega | (dsimp only; omega))) ?_
      (conv => whnf)
      exact ⟨⟨j + 1, M12⟩, ⟨by omega, Mem.le_trans hle hle12⟩, by dsimp only; omega, ⟨(by repeat' first | exact True.intro | refine ⟨rfl, ?_⟩), (by repeat' first | exact True.intro | refine ⟨rfl, ?_⟩), Mem.le_refl _, rfl⟩⟩
    · repeat' ((conv => whnf); first | refine ⟨?_, True.intro⟩ | refine brn_t rfl ?_ | refine brn_f rfl ?_ | refine ob rfl ?_ | refine ob (by decide) ?_ | refine grow_same (Mem.le_refl _) ?_ | refine ob (Mem.le_refl _) ?_ | refine ⟨_, Mem.le_refl _, ?_⟩ | fail)
      refine awake_ok.mono ?_
      rintro v M11 ⟨rfl, hle11⟩
      repeat' ((conv => whnf); first | refine ⟨?_, True.intro⟩ | refine brn_t rfl ?_ | refine brn_f rfl ?_ | refine ob rfl ?_ | refine ob (by decide) ?_ | refine grow_same (Mem.le_refl _) ?_ | refine ob (Mem.le_refl _) ?_ | refine ⟨_, Mem.le_refl _, ?_⟩ | fail)
      exact ⟨rfl, Mem.le_trans (Mem.le_trans hMb (Mem.le_trans hZX hX6)) (Mem.le_trans hle7 (Mem.le_trans hle8 (Mem.le_trans hle10 (Mem.le_trans hle hle11))))⟩
  have hlt : i < n := by have := of_decide_eq_true e; dsimp only at this; omega
  repeat' ((conv => whnf); first | refine ⟨?_, True.intro⟩ | refine brn_t rfl ?_ | refine brn_f rfl ?_ | refine ob rfl ?_ | refine ob (by decide) ?_ | refine grow_same (Mem.le_refl _) ?_ | refine ob (Mem.le_refl _) ?_ | refine ⟨_, Mem.le_refl _, ?_⟩ | fail)
  refine brn (fun e => ?_) (fun e => ?_)
  case refine_2 =>
    repeat' ((conv => whnf); first | refine ⟨?_, True.intro⟩ | refine brn_t rfl ?_ | refine brn_f rfl ?_ | refine ob rfl ?_ | refine ob (by decide) ?_ | refine grow_same (Mem.le_refl _) ?_ | refine ob (Mem.le_refl _) ?_ | refine ⟨_, Mem.le_refl _, ?_⟩ | fail)
    obtain ⟨hLb, hMb⟩ := hL.base
    obtain ⟨Z, hZ⟩ : ∃ Z, Z = Mc.minus (logB g p b ec) := ⟨_, rfl⟩
    rw [← hZ] at hLb hMb
    refine (crashFr hLb.disk (hk.le hMb) (by omega)).mono ?_
    rintro v M3 ⟨es3, rfl, h3⟩
    have hP := PowW.crash hL.disk.inv hnm keep
    have hlen := openR_len hP.inv hP.nm size
    obtain ⟨E, la, all, o1, o2, o3⟩ := open_again hP size
    obtain ⟨L4, hL4⟩ : ∃ L4 : LogR, L4 = { L0 1 size with last := la } := ⟨_, rfl⟩
    rw [← hL4] at o1 o3
    rw [o1] at hlen
    dsimp only at hlen
    repeat' ((conv => whnf); first | refine ⟨?_, True.intro⟩ | refine brn_t rfl ?_ | refine brn_f rfl ?_ | refine ob rfl ?_ | refine ob (by decide) ?_ | refine grow_same (Mem.le_refl _) ?_ | refine ob (Mem.le_refl _) ?_ | refine ⟨_, Mem.le_refl _, ?_⟩ | fail)
    refine (Open_ok h3 hP.nm 1 size).mono ?_
    unfold OpenOut
    rw [o1]
    rintro v M4 (⟨h, -⟩ | ⟨-, h, -⟩ | ⟨-, -, h, -⟩ | ⟨-, -, -, g4, es4, a4, n4, c4, rfl, h4, hA⟩)
    · omega
    · cases h
    · exact absurd rfl h
    dsimp only at h4 hA
    have hn4 : n4 = all.length := hA.len.symm
    repeat' ((conv => whnf); first | refine ⟨?_, True.intro⟩ | refine brn_t rfl ?_ | refine brn_f rfl ?_ | refine ob rfl ?_ | refine ob (by decide) ?_ | refine grow_same (Mem.le_refl _) ?_ | refine ob (Mem.le_refl _) ?_ | refine ⟨_, Mem.le_refl _, ?_⟩ | fail)
    refine (Fork_ok h4.disk.at' h4.disk.rel h4.disk.inv).mono ?_
    rintro v M5 ⟨p', b', es', rfl, hle5, hF5, hFr5, hFf5⟩
    have h5 := h4.to hle5
    obtain ⟨hd5, hZX⟩ := h5.disk.base
    have hAX : AllAt Z (M5.minus (diskB p b es4)) a4 n4 c4 all := hA.up (Mem.le_trans (h4.zle hle5) fun y o hy => by
      unfold Mem.minus at hy ⊢
      split at hy
      · cases hy
      · rename_i hno
        rw [if_neg fun hd => hno (.inr hd)]; exact hy)
    have hFX : DAt (M5.minus (diskB p b es4)) p' b' E es' := hF5.minus fun y hy hS => h4.disk.at'.full hS (hFf5 y hy)
    have hgX : (M5.minus (diskB p b es4)).has g4 T.wal_Log (logCs p L4) := by
      have := h5.self
      unfold Mem.has at this ⊢
      unfold Mem.minus
      rw [if_neg (h5.disk.at'.notB h5.self)]
      exact this
    obtain ⟨X, hX⟩ : ∃ X, X = M5.minus (diskB p b es4) := ⟨_, rfl⟩
    rw [← hX] at hd5 hZX hAX hFX hgX
    repeat' ((conv => whnf); first | refine ⟨?_, True.intro⟩ | refine brn_t rfl ?_ | refine brn_f rfl ?_ | refine ob rfl ?_ | refine ob (by decide) ?_ | refine grow_same (Mem.le_refl _) ?_ | refine ob (Mem.le_refl _) ?_ | refine ⟨_, Mem.le_refl _, ?_⟩ | fail)
    refine (Open_ok hd5 o2.nm 1 size).mono ?_
    unfold OpenOut
    rw [o3]
    rintro v M6 (⟨h, -⟩ | ⟨-, h, -⟩ | ⟨-, -, h, -⟩ | ⟨-, -, -, g6, es6, a6, n6, c6, rfl, h6, hA6⟩)
    · omega
    · rw [o2.down] at h; cases h
    · exact absurd rfl h
    dsimp only at h6 hA6
    have hX6 := h6.disk.le
    have hy6 : LogAt Z M6 g4 p b E es6 L4 := ⟨h6.disk.mono hZX, hgX.le hX6, h4.fresh⟩
    have hE1 := (hAX.up hX6).elems.imp (Mem.le_refl _) fun _ _ _ hx => BytesW.r hx
    have hE2 := (hA6.up (Mem.minus_le _ _)).elems.imp (Mem.le_refl _) fun _ _ _ hx => BytesW.r hx
    repeat' ((conv => whnf); first | refine ⟨?_, True.intro⟩ | refine brn_t rfl ?_ | refine brn_f rfl ?_ | refine ob rfl ?_ | refine ob (by decide) ?_ | refine grow_same (Mem.le_refl _) ?_ | refine ob (Mem.le_refl _) ?_ | refine ⟨_, Mem.le_refl _, ?_⟩ | fail)
    refine (same_ok hE1 hE2 (by omega)).mono ?_
    rintro v _ ⟨hv, rfl⟩
    rw [show decide (all = all) = true from decide_eq_true rfl] at hv
    subst hv
    repeat' ((conv => whnf); first | refine ⟨?_, True.intro⟩ | refine brn_t rfl ?_ | refine brn_f rfl ?_ | refine ob rfl ?_ | refine ob (by decide) ?_ | refine grow_same (Mem.le_refl _) ?_ | refine ob (Mem.le_refl _) ?_ | refine ⟨_, Mem.le_refl _, ?_⟩ | fail)
    refine (last_okL hy6.self).mono ?_
    rintro v _ ⟨rfl, rfl⟩
    repeat' ((conv => whnf); first | refine ⟨?_, True.intro⟩ | refine brn_t rfl ?_ | refine brn_f rfl ?_ | refine ob rfl ?_ | refine ob (by decide) ?_ | refine grow_same (Mem.le_refl _) ?_ | refine ob (Mem.le_refl _) ?_ | refine ⟨_, Mem.le_refl _, ?_⟩ | fail)
    refine (last_okL h6.self).mono ?_
    rintro v _ ⟨rfl, rfl⟩
    repeat' ((conv => whnf); first | refine ⟨?_, True.intro⟩ | refine brn_t rfl ?_ | refine brn_f rfl ?_ | refine ob rfl ?_ | refine ob (by decide) ?_ | refine grow_same (Mem.le_refl _) ?_ | refine ob (Mem.le_refl _) ?_ | refine ⟨_, Mem.le_refl _, ?_⟩ | fail)
    refine brn_f (by simp) ?_
    repeat' ((conv => whnf); first | refine ⟨?_, True.intro⟩ | refine brn_t rfl ?_ | refine brn_f rfl ?_ | refine ob rfl ?_ | refine ob (by decide) ?_ | refine grow_same (Mem.le_refl _) ?_ | refine ob (Mem.le_refl _) ?_ | refine ⟨_, Mem.le_refl _, ?_⟩ | fail)
    refine (size_ok hy6 o2.nm).mono ?_
    rintro v M7 ⟨rfl, hle7⟩
    repeat' ((conv => whnf); first | refine ⟨?_, True.intro⟩ | refine brn_t rfl ?_ | refine brn_f rfl ?_ | refine ob rfl ?_ | refine ob (by decide) ?_ | refine grow_same (Mem.le_refl _) ?_ | refine ob (Mem.le_refl _) ?_ | refine ⟨_, Mem.le_refl _, ?_⟩ | fail)
    refine (size_ok (h6.to hle7) o2.nm).mono ?_
    rintro v M8 ⟨rfl, hle8⟩
    repeat' ((conv => whnf); first | refine ⟨?_, True.intro⟩ | refine brn_t rfl ?_ | refine brn_f rfl ?_ | refine ob rfl ?_ | refine ob (by decide) ?_ | refine grow_same (Mem.le_refl _) ?_ | refine ob (Mem.le_refl _) ?_ | refine ⟨_, Mem.le_refl _, ?_⟩ | fail)
    refine brn_f (by simp) ?_
    have hF8 := ((hFX.le hX6).le hle7).le hle8
    have hd8 := (h6.disk.to hle7).to hle8
    repeat' ((conv => whnf); first | refine ⟨?_, True.intro⟩ | refine brn_t rfl ?_ | refine brn_f rfl ?_ | refine ob rfl ?_ | refine ob (by decide) ?_ | refine grow_same (Mem.le_refl _) ?_ | refine ob (Mem.le_refl _) ?_ | refine ⟨_, Mem.le_refl _, ?_⟩ | fail)
    refine (Names_ok hF8 hFr5 o2.inv).mono ?_
    rintro v M9 ⟨na, nc, rfl, hNa⟩
    repeat' ((conv => whnf); first | refine ⟨?_, True.intro⟩ | refine brn_t rfl ?_ | refine brn_f rfl ?_ | refine ob rfl ?_ | refine ob (by decide) ?_ | refine grow_same (Mem.le_refl _) ?_ | refine ob (Mem.le_refl _) ?_ | refine ⟨_, Mem.le_refl _, ?_⟩ | fail)
    refine (Names_ok (hd8.at'.le hNa.le) hd8.rel hd8.inv).mono ?_
    rintro v M10 ⟨nb, nd, rfl, hNb⟩
    have hn9 := hNa.src.le hNb.le
    have hn10 := hNb.src
    have hle10 : M8.le M10 := Mem.le_trans hNa.le hNb.le
    have hEl := o2.inv.len
    repeat' ((conv => whnf); first | refine ⟨?_, True.intro⟩ | refine brn_t rfl ?_ | refine brn_f rfl ?_ | refine ob rfl ?_ | refine ob (by decide) ?_ | refine grow_same (Mem.le_refl _) ?_ | refine ob (Mem.le_refl _) ?_ | refine ⟨_, Mem.le_refl _, ?_⟩ | fail)
    refine brn_f (by simp) ?_
    repeat' ((conv => whnf); first | refine ⟨?_, True.intro⟩ | refine brn_t rfl ?_ | refine brn_f rfl ?_ | refine ob rfl ?_ | refine ob (by decide) ?_ | refine grow_same (Mem.le_refl _) ?_ | refine ob (Mem.le_refl _) ?_ | refine ⟨_, Mem.le_refl _, ?_⟩ | fail)
    refine loopF (σ := Nat × Mem) [19] (fun y => [(19, .int .i64 y.1)]) (fun _ => []) (fun y => y.2) (fun | ⟨j, Me⟩ => j ≤ E.l.length ∧ M10.le Me) (fun y => E.l.length - y.1) ⟨0, M10⟩ ⟨by omega, Mem.le_refl _⟩ ⟨(by repeat' first | exact True.intro | refine ⟨rfl, ?_⟩), (by repeat' first | exact True.intro | refine ⟨rfl, ?_⟩), Mem.le_refl _, rfl⟩ ?_
    rintro ⟨j, Me⟩ ⟨hj1, hle⟩
    (conv => whnf); refine brn (fun e => ?_) (fun e => ?_)
    · have hlt : j < E.l.length := by have := of_decide_eq_true e; dsimp only at this; omega
      obtain ⟨hk1, b1, p1, e1, hr1⟩ := (hn9.le hle).at (i := j) hlt
      obtain ⟨hk2, b2, p2, e2, hr2⟩ := (hn10.le hle).at (i := j) hlt
      obtain ⟨nmk, hnk⟩ := o2.nm.num (List.getElem_mem hlt)
      have hnm1 : (E.l.map (·.name))[j] = E.l[j].name := by simp
      rw [hnm1] at hr1 hr2
      rw [hnk] at hr1 hr2
      generalize numR E.l[j].name = k at *
      have hle8e := Mem.le_trans hle10 hle
      (conv => whnf); refine ob (by first | omega | (dsimp only; omega)) ?_
      (conv => whnf); refine atp e1 ?_
      (conv => whnf); refine on hr1 ?_
      repeat' ((conv => whnf); first | refine ⟨?_, True.intro⟩ | refine brn_t rfl ?_ | refine brn_f rfl ?_ | refine ob rfl ?_ | refine ob (by decide) ?_ | refine grow_same (Mem.le_refl _) ?_ | refine ob (Mem.le_refl _) ?_ | refine ⟨_, Mem.le_refl _, ?_⟩ | fail)
      refine (Read_ok (hF8.le hle8e) hFr5 o2.inv _ (name_size k)).mono ?_
      rintro v M11 ⟨a11, n11, c11, rfl, hn11, hN11⟩
      repeat' ((conv => whnf); first | refine ⟨?_, True.intro⟩ | refine brn_t rfl ?_ | refine brn_f rfl ?_ | refine ob rfl ?_ | refine ob (by decide) ?_ | refine grow_same (Mem.le_refl _) ?_ | refine ob (Mem.le_refl _) ?_ | refine ⟨_, Mem.le_refl _, ?_⟩ | fail)
      refine ob (by first | omega | (dsimp only; omega)) ?_
      (conv => whnf); refine atp e2 ?_
      (conv => whnf); refine on (Mem.row_le hN11.le hr2) ?_
      repeat' ((conv => whnf); first | refine ⟨?_, True.intro⟩ | refine brn_t rfl ?_ | refine brn_f rfl ?_ | refine ob rfl ?_ | refine ob (by decide) ?_ | refine grow_same (Mem.le_refl _) ?_ | refine ob (Mem.le_refl _) ?_ | refine ⟨_, Mem.le_refl _, ?_⟩ | fail)
      refine (readF ((hd8.to hle8e).to hN11.le) (name_size k)).mono ?_
      rintro v M12 ⟨a12, n12, c12, rfl, hn12, hN12⟩
      have hle12 := Mem.le_trans hN11.le hN12.le
      repeat' ((conv => whnf); first | refine ⟨?_, True.intro⟩ | refine brn_t rfl ?_ | refine brn_f rfl ?_ | refine ob rfl ?_ | refine ob (by decide) ?_ | refine grow_same (Mem.le_refl _) ?_ | refine ob (Mem.le_refl _) ?_ | refine ⟨_, Mem.le_refl _, ?_⟩ | fail)
      refine ob (by first | omega | (dsimp only; omega)) ?_
      (conv => whnf); refine atp e1 ?_
      (conv => whnf); refine on (Mem.row_le hle12 hr1) ?_
      repeat' ((conv => whnf); first | refine ⟨?_, True.intro⟩ | refine brn_t rfl ?_ | refine brn_f rfl ?_ | refine ob rfl ?_ | refine ob (by decide) ?_ | refine grow_same (Mem.le_refl _) ?_ | refine ob (Mem.le_refl _) ?_ | refine ⟨_, Mem.le_refl _, ?_⟩ | fail)
      refine ob (by first | omega | (dsimp only; omega)) ?_
      (conv => whnf); refine atp e2 ?_
      (conv => whnf); refine on (Mem.row_le hle12 hr2) ?_
      repeat' ((conv => whnf); first | refine ⟨?_, True.intro⟩ | refine brn_t rfl ?_ | refine brn_f rfl ?_ | refine ob rfl ?_ | refine ob (by decide) ?_ | refine grow_same (Mem.le_refl _) ?_ | refine ob (Mem.le_refl _) ?_ | refine ⟨_, Mem.le_refl _, ?_⟩ | fail)
      refine brn_f (by simp) ?_
      repeat' ((conv => whnf); first | refine ⟨?_, True.intro⟩ | refine brn_t rfl ?_ | refine brn_f rfl ?_ | refine ob rfl ?_ | refine ob (by decide) ?_ | refine grow_same (Mem.le_refl _) ?_ | refine ob (Mem.le_refl _) ?_ | refine ⟨_, Mem.le_refl _, ?_⟩ | fail)
      refine strv (hN11.src.le hN12.le) ?_
      repeat' ((conv => whnf); first | refine ⟨?_, True.intro⟩ | refine brn_t rfl ?_ | refine brn_f rfl ?_ | refine ob rfl ?_ | refine ob (by decide) ?_ | refine grow_same (Mem.le_refl _) ?_ | refine ob (Mem.le_refl _) ?_ | refine ⟨_, Mem.le_refl _, ?_⟩ | fail)
      refine strv hN12.src ?_
      repeat' ((conv => whnf); first | refine ⟨?_, True.intro⟩ | refine brn_t rfl ?_ | refine brn_f rfl ?_ | refine ob rfl ?_ | refine ob (by decide) ?_ | refine grow_same (Mem.le_refl _) ?_ | refine ob (Mem.le_refl _) ?_ | refine ⟨_, Mem.le_refl _, ?_⟩ | fail)
      refine brn_f (by simp) ?_
      repeat' ((conv => whnf); first | refine ⟨?_, True.intro⟩ | refine brn_t rfl ?_ | refine brn_f rfl ?_ | refine ob rfl ?_ | refine ob (by decide) ?_ | refine grow_same (Mem.le_refl _) ?_ | refine ob (Mem.le_refl _) ?_ | refine ⟨_, Mem.le_refl _, ?_⟩ | fail)
      refine ob (inR_i64 (by first | omega | (dsimp only; omega))) ?_
      (conv => whnf)
      exact ⟨⟨j + 1, M12⟩, ⟨by omega, Mem.le_trans hle hle12⟩, by dsimp only; omega, ⟨(by repeat' first | exact True.intro | refine ⟨rfl, ?_⟩), (by repeat' first | exact True.intro | refine ⟨rfl, ?_⟩), Mem.le_refl _, rfl⟩⟩
    · repeat' ((conv => whnf); first | refine ⟨?_, True.intro⟩ | refine brn_t rfl ?_ | refine brn_f rfl ?_ | refine ob rfl ?_ | refine ob (by decide) ?_ | refine grow_same (Mem.le_refl _) ?_ | refine ob (Mem.le_refl _) ?_ | refine ⟨_, Mem.le_refl _, ?_⟩ | fail)
      refine awake_ok.mono ?_
      rintro v M11 ⟨rfl, hle11⟩
      repeat' ((conv => whnf); first | refine ⟨?_, True.intro⟩ | refine brn_t rfl ?_ | refine brn_f rfl ?_ | refine ob rfl ?_ | refine ob (by decide) ?_ | refine grow_same (Mem.le_refl _) ?_ | refine ob (Mem.le_refl _) ?_ | refine ⟨_, Mem.le_refl _, ?_⟩ | fail)
      exact ⟨rfl, Mem.le_trans (Mem.le_trans hMb (Mem.le_trans hZX hX6)) (Mem.le_trans hle7 (Mem.le_trans hle8 (Mem.le_trans hle10 (Mem.le_trans hle hle11))))⟩
  have hlt2 : i < 60 := by have := of_decide_eq_true e; dsimp only at this; omega
  obtain ⟨hl1, xb, xo, xcs, hxa, hxr, -, -, hx⟩ := hl.at (by decide) hlt
  generalize l[i] = x at hx
  obtain ⟨a1, n1, c1, a2, n2, c2, rfl, s1, hn1, hnc1, s2, hn2', hxn⟩ := hx
  have hMc := hL.disk.le
  obtain ⟨hLb, hMb⟩ := hL.base
  obtain ⟨Z, hZ⟩ : ∃ Z, Z = Mc.minus (logB g p b ec) := ⟨_, rfl⟩
  rw [← hZ] at hLb hMb
  repeat' ((conv => whnf); first | refine ⟨?_, True.intro⟩ | refine brn_t rfl ?_ | refine brn_f rfl ?_ | refine ob rfl ?_ | refine ob (by decide) ?_ | refine grow_same (Mem.le_refl _) ?_ | refine ob (Mem.le_refl _) ?_ | refine ⟨_, Mem.le_refl _, ?_⟩ | fail)
  refine ob (by first | omega | (dsimp only; omega)) ?_
  (conv => whnf); refine atp hxa ?_
  (conv => whnf); refine on (Mem.row_le hMc (hxr 0 1 (by decide))) ?_
  repeat' ((conv => whnf); first | refine ⟨?_, True.intro⟩ | refine brn_t rfl ?_ | refine brn_f rfl ?_ | refine ob rfl ?_ | refine ob (by decide) ?_ | refine grow_same (Mem.le_refl _) ?_ | refine ob (Mem.le_refl _) ?_ | refine ⟨_, Mem.le_refl _, ?_⟩ | fail)
  refine brn (fun e => ?_) (fun e => ?_)
  · -- Append
    repeat' ((conv => whnf); first | refine ⟨?_, True.intro⟩ | refine brn_t rfl ?_ | refine brn_f rfl ?_ | refine ob rfl ?_ | refine ob (by decide) ?_ | refine grow_same (Mem.le_refl _) ?_ | refine ob (Mem.le_refl _) ?_ | refine ⟨_, Mem.le_refl _, ?_⟩ | fail)
    refine ob (by first | omega | (dsimp only; omega)) ?_
    (conv => whnf); refine atp hxa ?_
    (conv => whnf); refine on (Mem.row_le hMc (hxr 2 1 (by decide))) ?_
    repeat' ((conv => whnf); first | refine ⟨?_, True.intro⟩ | refine brn_t rfl ?_ | refine brn_f rfl ?_ | refine ob rfl ?_ | refine ob (by decide) ?_ | refine grow_same (Mem.le_refl _) ?_ | refine ob (Mem.le_refl _) ?_ | refine ⟨_, Mem.le_refl _, ?_⟩ | fail)
    refine (append_okL hLb (by omega) (by omega) (by omega) (s1.le hMc) (by omega) hnc1 (wlL hL.disk.inv _)).mono ?_
    rintro v M2 ⟨es2, rfl, h2⟩
    obtain ⟨q1, q2⟩ := appendL_le D L x.p
    obtain ⟨w1, w2⟩ := appendL_log D L x.p
    have q3 := hnm.appendL L x.p
    repeat' ((conv => whnf); first | refine ⟨?_, True.intro⟩ | refine brn_t rfl ?_ | refine brn_f rfl ?_ | refine ob rfl ?_ | refine ob (by decide) ?_ | refine grow_same (Mem.le_refl _) ?_ | refine ob (Mem.le_refl _) ?_ | refine ⟨_, Mem.le_refl _, ?_⟩ | fail)
    refine ob (inR_i64 (by first | omega | (dsimp only; omega))) ?_
    (conv => whnf)
    exact ⟨⟨i + 1, M2, (appendL D L x.p).1, es2, (appendL D L x.p).2.1⟩, ⟨⟨by dsimp only; omega, by dsimp only; omega⟩, h2.mono hMb, q3, by dsimp only; rw [w2]; exact hsz, by dsimp only; omega, by dsimp only; omega⟩, by dsimp only; omega, ⟨(by repeat' first | exact True.intro | refine ⟨rfl, ?_⟩), (by repeat' first | exact True.intro | refine ⟨rfl, ?_⟩), Mem.le_refl _, rfl⟩⟩
  repeat' ((conv => whnf); first | refine ⟨?_, True.intro⟩ | refine brn_t rfl ?_ | refine brn_f rfl ?_ | refine ob rfl ?_ | refine ob (by decide) ?_ | refine grow_same (Mem.le_refl _) ?_ | refine ob (Mem.le_refl _) ?_ | refine ⟨_, Mem.le_refl _, ?_⟩ | fail)
  refine brn (fun e => ?_) (fun e => ?_)
  · -- Sync
    repeat' ((conv => whnf); first | refine ⟨?_, True.intro⟩ | refine brn_t rfl ?_ | refine brn_f rfl ?_ | refine ob rfl ?_ | refine ob (by decide) ?_ | refine grow_same (Mem.le_refl _) ?_ | refine ob (Mem.le_refl _) ?_ | refine ⟨_, Mem.le_refl _, ?_⟩ | fail)
    refine (sync_okL hLb).mono ?_
    rintro v M2 ⟨es2, rfl, h2⟩
    obtain ⟨w1, -, w2⟩ := syncL_last D L
    have q3 := hnm.syncL L
    repeat' ((conv => whnf); first | refine ⟨?_, True.intro⟩ | refine brn_t rfl ?_ | refine brn_f rfl ?_ | refine ob rfl ?_ | refine ob (by decide) ?_ | refine grow_same (Mem.le_refl _) ?_ | refine ob (Mem.le_refl _) ?_ | refine ⟨_, Mem.le_refl _, ?_⟩ | fail)
    refine ob (inR_i64 (by first | omega | (dsimp only; omega))) ?_
    (conv => whnf)
    exact ⟨⟨i + 1, M2, (syncL D L).1, es2, (syncL D L).2.1⟩, ⟨⟨by dsimp only; omega, by dsimp only; omega⟩, h2.mono hMb, q3, by dsimp only; rw [w2]; exact hsz, by dsimp only; omega, by dsimp only; omega⟩, by dsimp only; omega, ⟨(by repeat' first | exact True.intro | refine ⟨rfl, ?_⟩), (by repeat' first | exact True.intro | refine ⟨rfl, ?_⟩), Mem.le_refl _, rfl⟩⟩
  repeat' ((conv => whnf); first | refine ⟨?_, True.intro⟩ | refine brn_t rfl ?_ | refine brn_f rfl ?_ | refine ob rfl ?_ | refine ob (by decide) ?_ | refine grow_same (Mem.le_refl _) ?_ | refine ob (Mem.le_refl _) ?_ | refine ⟨_, Mem.le_refl _, ?_⟩ | fail)
  refine brn (fun e => ?_) (fun e => ?_)
  · -- Begin
    repeat' ((conv => whnf); first | refine ⟨?_, True.intro⟩ | refine brn_t rfl ?_ | refine brn_f rfl ?_ | refine ob rfl ?_ | refine ob (by decide) ?_ | refine grow_same (Mem.le_refl _) ?_ | refine ob (Mem.le_refl _) ?_ | refine ⟨_, Mem.le_refl _, ?_⟩ | fail)
    refine (begin_okL hLb (by omega) (by omega)).mono ?_
    rintro v M2 ⟨es2, rfl, h2⟩
    obtain ⟨q1, q2⟩ := beginL_le D L
    obtain ⟨-, w2⟩ := beginL_first D L
    have q3 := hnm.beginL L
    repeat' ((conv => whnf); first | refine ⟨?_, True.intro⟩ | refine brn_t rfl ?_ | refine brn_f rfl ?_ | refine ob rfl ?_ | refine ob (by decide) ?_ | refine grow_same (Mem.le_refl _) ?_ | refine ob (Mem.le_refl _) ?_ | refine ⟨_, Mem.le_refl _, ?_⟩ | fail)
    refine ob (inR_i64 (by first | omega | (dsimp only; omega))) ?_
    (conv => whnf)
    exact ⟨⟨i + 1, M2, (beginL D L).1, es2, (beginL D L).2.1⟩, ⟨⟨by dsimp only; omega, by dsimp only; omega⟩, h2.mono hMb, q3, by dsimp only; rw [w2]; exact hsz, by dsimp only; omega, by dsimp only; omega⟩, by dsimp only; omega, ⟨(by repeat' first | exact True.intro | refine ⟨rfl, ?_⟩), (by repeat' first | exact True.intro | refine ⟨rfl, ?_⟩), Mem.le_refl _, rfl⟩⟩
  repeat' ((conv => whnf); first | refine ⟨?_, True.intro⟩ | refine brn_t rfl ?_ | refine brn_f rfl ?_ | refine ob rfl ?_ | refine ob (by decide) ?_ | refine grow_same (Mem.le_refl _) ?_ | refine ob (Mem.le_refl _) ?_ | refine ⟨_, Mem.le_refl _, ?_⟩ | fail)
  refine brn (fun e => ?_) (fun e => ?_)
  · -- bytes behind a file
    repeat' ((conv => whnf); first | refine ⟨?_, True.intro⟩ | refine brn_t rfl ?_ | refine brn_f rfl ?_ | refine ob rfl ?_ | refine ob (by decide) ?_ | refine grow_same (Mem.le_refl _) ?_ | refine ob (Mem.le_refl _) ?_ | refine ⟨_, Mem.le_refl _, ?_⟩ | fail)
    refine ob (by first | omega | (dsimp only; omega)) ?_
    (conv => whnf); refine atp hxa ?_
    (conv => whnf); refine on (Mem.row_le hMc (hxr 1 1 (by decide))) ?_
    repeat' ((conv => whnf); first | refine ⟨?_, True.intro⟩ | refine brn_t rfl ?_ | refine brn_f rfl ?_ | refine ob rfl ?_ | refine ob (by decide) ?_ | refine grow_same (Mem.le_refl _) ?_ | refine ob (Mem.le_refl _) ?_ | refine ⟨_, Mem.le_refl _, ?_⟩ | fail)
    refine ob (by first | omega | (dsimp only; omega)) ?_
    (conv => whnf); refine atp hxa ?_
    (conv => whnf); refine on (Mem.row_le hMc (hxr 2 1 (by decide))) ?_
    repeat' ((conv => whnf); first | refine ⟨?_, True.intro⟩ | refine brn_t rfl ?_ | refine brn_f rfl ?_ | refine ob rfl ?_ | refine ob (by decide) ?_ | refine grow_same (Mem.le_refl _) ?_ | refine ob (Mem.le_refl _) ?_ | refine ⟨_, Mem.le_refl _, ?_⟩ | fail)
    refine (name_ok x.n).mono ?_
    rintro v M2 ⟨rfl, hle2⟩
    have hL2 := hLb.to hle2
    repeat' ((conv => whnf); first | refine ob rfl ?_ | refine grow_same hle2 ?_ | refine ob hle2 ?_ | refine ⟨?_, True.intro⟩ | fail)
    repeat' ((conv => whnf); first | refine ⟨?_, True.intro⟩ | refine brn_t rfl ?_ | refine brn_f rfl ?_ | refine ob rfl ?_ | refine ob (by decide) ?_ | refine grow_same (Mem.le_refl _) ?_ | refine ob (Mem.le_refl _) ?_ | refine ⟨_, Mem.le_refl _, ?_⟩ | fail)
    refine (appendF hL2.disk.base.1 (name_size x.n) ((s1.le hMc).le hle2)).mono ?_
    rintro v M3 ⟨es3, rfl, h3⟩
    have h3' := hL2.call h3
    have q3 := hnm.append x.n x.p
    repeat' ((conv => whnf); first | refine ⟨?_, True.intro⟩ | refine brn_t rfl ?_ | refine brn_f rfl ?_ | refine ob rfl ?_ | refine ob (by decide) ?_ | refine grow_same (Mem.le_refl _) ?_ | refine ob (Mem.le_refl _) ?_ | refine ⟨_, Mem.le_refl _, ?_⟩ | fail)
    refine ob (inR_i64 (by first | omega | (dsimp only; omega))) ?_
    (conv => whnf)
    exact ⟨⟨i + 1, M3, _, es3, L⟩, ⟨⟨by dsimp only; omega, by dsimp only; omega⟩, h3'.mono hMb, q3, hsz, hla1, by dsimp only; omega⟩, by dsimp only; omega, ⟨(by repeat' first | exact True.intro | refine ⟨rfl, ?_⟩), (by repeat' first | exact True.intro | refine ⟨rfl, ?_⟩), Mem.le_refl _, rfl⟩⟩
  repeat' ((conv => whnf); first | refine ⟨?_, True.intro⟩ | refine brn_t rfl ?_ | refine brn_f rfl ?_ | refine ob rfl ?_ | refine ob (by decide) ?_ | refine grow_same (Mem.le_refl _) ?_ | refine ob (Mem.le_refl _) ?_ | refine ⟨_, Mem.le_refl _, ?_⟩ | fail)
  refine brn (fun e => ?_) (fun e => ?_)
  · -- a file is removed
    repeat' ((conv => whnf); first | refine ⟨?_, True.intro⟩ | refine brn_t rfl ?_ | refine brn_f rfl ?_ | refine ob rfl ?_ | refine ob (by decide) ?_ | refine grow_same (Mem.le_refl _) ?_ | refine ob (Mem.le_refl _) ?_ | refine ⟨_, Mem.le_refl _, ?_⟩ | fail)
    refine ob (by first | omega | (dsimp only; omega)) ?_
    (conv => whnf); refine atp hxa ?_
    (conv => whnf); refine on (Mem.row_le hMc (hxr 1 1 (by decide))) ?_
    repeat' ((conv => whnf); first | refine ⟨?_, True.intro⟩ | refine brn_t rfl ?_ | refine brn_f rfl ?_ | refine ob rfl ?_ | refine ob (by decide) ?_ | refine grow_same (Mem.le_refl _) ?_ | refine ob (Mem.le_refl _) ?_ | refine ⟨_, Mem.le_refl _, ?_⟩ | fail)
    refine (name_ok x.n).mono ?_
    rintro v M2 ⟨rfl, hle2⟩
    have hL2 := hLb.to hle2
    repeat' ((conv => whnf); first | refine ob rfl ?_ | refine grow_same hle2 ?_ | refine ob hle2 ?_ | refine ⟨?_, True.intro⟩ | fail)
    repeat' ((conv => whnf); first | refine ⟨?_, True.intro⟩ | refine brn_t rfl ?_ | refine brn_f rfl ?_ | refine ob rfl ?_ | refine ob (by decide) ?_ | refine grow_same (Mem.le_refl _) ?_ | refine ob (Mem.le_refl _) ?_ | refine ⟨_, Mem.le_refl _, ?_⟩ | fail)
    refine (removeF hL2.disk.base.1 (name_size x.n)).mono ?_
    rintro v M3 ⟨es3, rfl, h3⟩
    have h3' := hL2.call h3
    have q3 := hnm.remove (nameB x.n)
    repeat' ((conv => whnf); first | refine ⟨?_, True.intro⟩ | refine brn_t rfl ?_ | refine brn_f rfl ?_ | refine ob rfl ?_ | refine ob (by decide) ?_ | refine grow_same (Mem.le_refl _) ?_ | refine ob (Mem.le_refl _) ?_ | refine ⟨_, Mem.le_refl _, ?_⟩ | fail)
    refine ob (inR_i64 (by first | omega | (dsimp only; omega))) ?_
    (conv => whnf)
    exact ⟨⟨i + 1, M3, _, es3, L⟩, ⟨⟨by dsimp only; omega, by dsimp only; omega⟩, h3'.mono hMb, q3, hsz, hla1, by dsimp only; omega⟩, by dsimp only; omega, ⟨(by repeat' first | exact True.intro | refine ⟨rfl, ?_⟩), (by repeat' first | exact True.intro | refine ⟨rfl, ?_⟩), Mem.le_refl _, rfl⟩⟩
  repeat' ((conv => whnf); first | refine ⟨?_, True.intro⟩ | refine brn_t rfl ?_ | refine brn_f rfl ?_ | refine ob rfl ?_ | refine ob (by decide) ?_ | refine grow_same (Mem.le_refl _) ?_ | refine ob (Mem.le_refl _) ?_ | refine ⟨_, Mem.le_refl _, ?_⟩ | fail)
  refine ob (inR_i64 (by first | omega | (dsimp only; omega))) ?_
  (conv => whnf)
  exact ⟨⟨i + 1, Mc, D, ec, L⟩, ⟨⟨by dsimp only; omega, by dsimp only; omega⟩, hL, hnm, hsz, hla1, by dsimp only; omega⟩, by dsimp only; omega, ⟨(by repeat' first | exact True.intro | refine ⟨rfl, ?_⟩), (by repeat' first | exact True.intro | refine ⟨rfl, ?_⟩), Mem.le_refl _, rfl⟩⟩
end Go.Proofs.Ytnlghoenbhbfhaa

