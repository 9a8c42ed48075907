/- WalLasts, as a contract. -/
import Derived.Test.YtnlghoenbhbfhaaJoin29
namespace Go.Proofs.Ytnlghoenbhbfhaa
open Go Go.Vm
attribute [local irreducible] Brn Ob Grow CallsM inR LoopVC Mem.row Mem.cells Mem.setCells Mem.upd Go.Vm.Own AppVC SrcVC StrVC NextVC New SrcOk subA NewSl Mem.textAt Mem.mapAt Mem.iterAt entryOf kfind Wr NewEls Elems
set_option maxRecDepth 10000
variable {M : Mem}
theorem PutI.names' {last : Int} {D : DiskR} {put : List (List UInt8)} {safe : Nat} (h : PutI last D.l put safe) : NamesW D := fun f hf => by
  obtain ⟨k, h1, h2, h3⟩ := h.names f hf
  have := h.last1
  exact ⟨k, by omega, h3⟩
structure LaS where
  i : Nat
  M : Mem
  D : DiskR
  es : FsT
  L : LogR
  a : Option Addr
  c : Nat
  put : List (List UInt8)
  safe : Nat
structure LaI (M : Mem) (g p b n : Nat) (size : Int) (y : LaS) : Prop where
  i : y.i ≤ n ∧ y.i ≤ 60
  log : LogAt M y.M g p b y.D y.es y.L
  row : NewEls M T.s_uint8 1 y.a y.put.length y.c (BytesR M) y.put (y.M.minus (logB g p b y.es))
  put : PutI y.L.last y.D.l y.put y.safe
  len : y.put.length ≤ y.i
  words : y.L.size = size ∧ y.L.last ≤ 1 + y.i
set_option maxRecDepth 10000 in
theorem lasts_law (size : Int) {a : Option Addr} {n c : Nat} {l : List ActW} (hl : Elems M 4 a n (ActL M) l) (hn : n ≤ 1048576) {ka : Option Addr} {kn kc : Nat} {keep : List Int} (hk : SrcOk M 1 ka kn (keep.map intV)) (hkn : kn ≤ 1048576) :
    CallsM Try.prog F.law12_WalLasts [.int .i64 size, .slice a n c, .slice ka kn kc] M fun v M' => v = .bool true ∧ M.le M' := by
  refine fo_law12_WalLasts (by simp) ?_
  repeat' ((conv => whnf); first | refine ⟨?_, True.intro⟩ | refine brn_t rfl ?_ | refine brn_f rfl ?_ | refine ob rfl ?_ | refine ob (by decide) ?_ | refine grow_same (Mem.le_refl _) ?_ | refine ob (Mem.le_refl _) ?_ | refine ⟨_, Mem.le_refl _, ?_⟩ | fail)
  refine (begin_okW size).mono ?_
  rintro v M1 (⟨hs, rfl, hle1⟩ | ⟨hs, p, b, g, es, rfl, h1⟩)
  · repeat' ((conv => whnf); first | refine ⟨?_, True.intro⟩ | refine brn_t rfl ?_ | refine brn_f rfl ?_ | refine ob rfl ?_ | refine ob (by decide) ?_ | refine grow_same (Mem.le_refl _) ?_ | refine ob (Mem.le_refl _) ?_ | refine ⟨_, Mem.le_refl _, ?_⟩ | fail)
    refine (may_okW size).mono ?_
    rintro v _ ⟨rfl, rfl⟩
    (conv => whnf); refine brn_t (by rw [decide_eq_false hs]; rfl) ?_
    repeat' ((conv => whnf); first | refine ⟨?_, True.intro⟩ | refine brn_t rfl ?_ | refine brn_f rfl ?_ | refine ob rfl ?_ | refine ob (by decide) ?_ | refine grow_same (Mem.le_refl _) ?_ | refine ob (Mem.le_refl _) ?_ | refine ⟨_, Mem.le_refl _, ?_⟩ | fail)
    refine awake_ok.mono ?_
    rintro v M2 ⟨rfl, hle2⟩
    repeat' ((conv => whnf); first | refine ⟨?_, True.intro⟩ | refine brn_t rfl ?_ | refine brn_f rfl ?_ | refine ob rfl ?_ | refine ob (by decide) ?_ | refine grow_same (Mem.le_refl _) ?_ | refine ob (Mem.le_refl _) ?_ | refine ⟨_, Mem.le_refl _, ?_⟩ | fail)
    exact ⟨rfl, Mem.le_trans hle1 hle2⟩
  repeat' ((conv => whnf); first | refine ⟨?_, True.intro⟩ | refine brn_t rfl ?_ | refine brn_f rfl ?_ | refine ob rfl ?_ | refine ob (by decide) ?_ | refine grow_same (Mem.le_refl _) ?_ | refine ob (Mem.le_refl _) ?_ | refine ⟨_, Mem.le_refl _, ?_⟩ | fail)
  refine new (fun b9 hb9 => ?_)
  replace hb9 : M1 b9 = none := hb9
  have hle2 : M1.le (M1.setCells b9 T.s_uint8 []) := Mem.le_setCells hb9
  have hN2 : NewEls M1 T.s_uint8 1 (some ⟨b9, 0, none⟩) 0 0 (BytesR M) [] (M1.setCells b9 T.s_uint8 []) := NewEls.new0 hb9 T.s_uint8 1 (BytesR M)
  obtain ⟨M2, hM2⟩ : ∃ M2, M2 = M1.setCells b9 T.s_uint8 [] := ⟨_, rfl⟩
  rw [← hM2] at hle2 hN2
  (conv => whnf)
  erw [← hM2]
  have h2 := h1.to hle2
  refine loopF (σ := LaS) [11, 9, 10] (fun y => [(11, .int .i64 y.i), (9, .slice y.a y.put.length y.c), (10, .int .i64 y.safe)]) (fun _ => [.gone b9]) (fun y => y.M) (LaI M g p b n size) (fun y => 60 - y.i)
    ⟨0, M2, D0, es, L0 1 size, some ⟨b9, 0, none⟩, 0, [], 0⟩ ⟨⟨by dsimp only; omega, by dsimp only; omega⟩, h2, ?_, PutI.start, Nat.le_refl _, rfl, by show (1 : Int) ≤ 1 + ((0 : Nat) : Int); decide⟩ ⟨(by repeat' first | exact True.intro | refine ⟨rfl, ?_⟩), (by repeat' first | exact True.intro | refine ⟨rfl, ?_⟩), Mem.le_refl _, rfl⟩ ?_
  · have hnb : ¬ logB g p b es b9 := fun hb => h1.full hb hb9
    have hM9 : M b9 = none := by
      cases e : M b9 with
      | none => rfl
      | some o => rw [h1.disk.le _ _ e] at hb9; cases hb9
    unfold NewEls
    refine ⟨[], newSl_iff.2 ⟨h2.base.2, rfl, Nat.le_refl _, .inr ⟨b9, [], rfl, hM9, ?_, rfl, rfl⟩⟩, rfl, rfl, by simp, by simp⟩
    have : M2.has b9 T.s_uint8 [] := hM2 ▸ Mem.has_setCells
    unfold Mem.has at this ⊢
    dsimp only
    unfold Mem.minus
    rw [if_neg hnb]; exact this
  rintro ⟨i, Mc, D, ec, L, pa, pc, put, safe⟩ ⟨⟨hi1, hi2⟩, hL, hrow, hput, hpl, hsz, hla⟩
  dsimp only at hi1 hi2 hL hrow hput hpl hsz hla
  have hin : (i : Int) ≤ 60 := by omega
  (conv => whnf); refine brn (fun e => ?_) (fun e => ?_)
  case refine_2 =>
    repeat' ((conv => whnf); first | refine ⟨?_, True.intro⟩ | refine brn_t rfl ?_ | refine brn_f rfl ?_ | refine ob rfl ?_ | refine ob (by decide) ?_ | refine grow_same (Mem.le_refl _) ?_ | refine ob (Mem.le_refl _) ?_ | refine ⟨_, Mem.le_refl _, ?_⟩ | fail)
    obtain ⟨hLb, hMb⟩ := hL.base
    obtain ⟨Z, hZ⟩ : ∃ Z, Z = Mc.minus (logB g p b ec) := ⟨_, rfl⟩
    rw [← hZ] at hLb hMb hrow
    refine (crashFr hLb.disk (hk.le hMb) (by omega)).mono ?_
    rintro v M3 ⟨es3, rfl, h3⟩
    repeat' ((conv => whnf); first | refine ⟨?_, True.intro⟩ | refine brn_t rfl ?_ | refine brn_f rfl ?_ | refine ob rfl ?_ | refine ob (by decide) ?_ | refine grow_same (Mem.le_refl _) ?_ | refine ob (Mem.le_refl _) ?_ | refine ⟨_, Mem.le_refl _, ?_⟩ | fail)
    refine (Open_ok h3 (hput.names'.crash keep) 1 size).mono ?_
    obtain ⟨ho1, m, ho2, ho3, ho4⟩ := hput.reopen hL.disk.inv (by omega) keep size
    unfold OpenOut
    rintro v M4 (⟨h, -⟩ | ⟨-, h, -⟩ | ⟨-, -, h, -⟩ | ⟨-, -, -, g4, es4, a4, n4, c4, rfl, h4, hA⟩)
    · omega
    · cases h
    · exact absurd ho1 h
    rw [ho4] at hA
    have hrow4 := hrow.up h4.disk.le
    have hAl := (hA.up (Mem.minus_le _ _)).elems.imp (Mem.le_refl _) fun _ _ _ hx => BytesW.r hx
    have hn4 : m = n4 := by have := hAl.len; rw [List.length_take] at this; omega
    subst hn4
    have hMM : M.le M4 := Mem.le_trans hMb h4.disk.le
    repeat' ((conv => whnf); first | refine ⟨?_, True.intro⟩ | refine brn_t rfl ?_ | refine brn_f rfl ?_ | refine ob rfl ?_ | refine ob (by decide) ?_ | refine grow_same (Mem.le_refl _) ?_ | refine ob (Mem.le_refl _) ?_ | refine ⟨_, Mem.le_refl _, ?_⟩ | fail)
    refine brn_t (decide_eq_true (by first | omega | (dsimp only; omega))) ?_
    repeat' ((conv => whnf); first | refine ⟨?_, True.intro⟩ | refine brn_t rfl ?_ | refine brn_f rfl ?_ | refine ob rfl ?_ | refine ob (by decide) ?_ | refine grow_same (Mem.le_refl _) ?_ | refine ob (Mem.le_refl _) ?_ | refine ⟨_, Mem.le_refl _, ?_⟩ | fail)
    refine brn_t (decide_eq_true (by first | omega | (dsimp only; omega))) ?_
    repeat' ((conv => whnf); first | refine ⟨?_, True.intro⟩ | refine brn_t rfl ?_ | refine brn_f rfl ?_ | refine ob rfl ?_ | refine ob (by decide) ?_ | refine grow_same (Mem.le_refl _) ?_ | refine ob (Mem.le_refl _) ?_ | refine ⟨_, Mem.le_refl _, ?_⟩ | fail)
    have hpc := (show put.length ≤ pc by unfold NewEls at hrow4; obtain ⟨css, w, _⟩ := hrow4; exact (newSl_iff.1 w).2.2.1)
    refine ob (by first | omega | (dsimp only; omega)) ?_
    (conv => whnf)
    have htk := ((hrow4.elems.take (k := m) ho3 hpc (by decide)).imp (Mem.le_refl _) fun _ _ _ hx => BytesR.le hx hMM)
    have t1 : ((m : Nat) : Int).toNat - Int.toNat 0 = m := by show m - 0 = m; omega
    have t2 : Int.toNat 0 = 0 := rfl
    rw [t1, t2]
    refine (same_ok hAl htk (by omega)).mono ?_
    rintro v _ ⟨rfl, rfl⟩
    (conv => whnf); refine brn_t (decide_eq_true rfl) ?_
    repeat' ((conv => whnf); first | refine ⟨?_, True.intro⟩ | refine brn_t rfl ?_ | refine brn_f rfl ?_ | refine ob rfl ?_ | refine ob (by decide) ?_ | refine grow_same (Mem.le_refl _) ?_ | refine ob (Mem.le_refl _) ?_ | refine ⟨_, Mem.le_refl _, ?_⟩ | fail)
    refine awake_ok.mono ?_
    rintro v M5 ⟨rfl, hle5⟩
    repeat' ((conv => whnf); first | refine ⟨?_, True.intro⟩ | refine brn_t rfl ?_ | refine brn_f rfl ?_ | refine ob rfl ?_ | refine ob (by decide) ?_ | refine grow_same (Mem.le_refl _) ?_ | refine ob (Mem.le_refl _) ?_ | refine ⟨_, Mem.le_refl _, ?_⟩ | fail)
    exact ⟨rfl, Mem.le_trans hMM hle5⟩
  have hlt : i < n := by have := of_decide_eq_true e; dsimp only at this; omega
  repeat' ((conv => whnf); first | refine ⟨?_, True.intro⟩ | refine brn_t rfl ?_ | refine brn_f rfl ?_ | refine ob rfl ?_ | refine ob (by decide) ?_ | refine grow_same (Mem.le_refl _) ?_ | refine ob (Mem.le_refl _) ?_ | refine ⟨_, Mem.le_refl _, ?_⟩ | fail)
  refine brn (fun e => ?_) (fun e => ?_)
  case refine_2 =>
    repeat' ((conv => whnf); first | refine ⟨?_, True.intro⟩ | refine brn_t rfl ?_ | refine brn_f rfl ?_ | refine ob rfl ?_ | refine ob (by decide) ?_ | refine grow_same (Mem.le_refl _) ?_ | refine ob (Mem.le_refl _) ?_ | refine ⟨_, Mem.le_refl _, ?_⟩ | fail)
    obtain ⟨hLb, hMb⟩ := hL.base
    obtain ⟨Z, hZ⟩ : ∃ Z, Z = Mc.minus (logB g p b ec) := ⟨_, rfl⟩
    rw [← hZ] at hLb hMb hrow
    refine (crashFr hLb.disk (hk.le hMb) (by omega)).mono ?_
    rintro v M3 ⟨es3, rfl, h3⟩
    repeat' ((conv => whnf); first | refine ⟨?_, True.intro⟩ | refine brn_t rfl ?_ | refine brn_f rfl ?_ | refine ob rfl ?_ | refine ob (by decide) ?_ | refine grow_same (Mem.le_refl _) ?_ | refine ob (Mem.le_refl _) ?_ | refine ⟨_, Mem.le_refl _, ?_⟩ | fail)
    refine (Open_ok h3 (hput.names'.crash keep) 1 size).mono ?_
    obtain ⟨ho1, m, ho2, ho3, ho4⟩ := hput.reopen hL.disk.inv (by omega) keep size
    unfold OpenOut
    rintro v M4 (⟨h, -⟩ | ⟨-, h, -⟩ | ⟨-, -, h, -⟩ | ⟨-, -, -, g4, es4, a4, n4, c4, rfl, h4, hA⟩)
    · omega
    · cases h
    · exact absurd ho1 h
    rw [ho4] at hA
    have hrow4 := hrow.up h4.disk.le
    have hAl := (hA.up (Mem.minus_le _ _)).elems.imp (Mem.le_refl _) fun _ _ _ hx => BytesW.r hx
    have hn4 : m = n4 := by have := hAl.len; rw [List.length_take] at this; omega
    subst hn4
    have hMM : M.le M4 := Mem.le_trans hMb h4.disk.le
    repeat' ((conv => whnf); first | refine ⟨?_, True.intro⟩ | refine brn_t rfl ?_ | refine brn_f rfl ?_ | refine ob rfl ?_ | refine ob (by decide) ?_ | refine grow_same (Mem.le_refl _) ?_ | refine ob (Mem.le_refl _) ?_ | refine ⟨_, Mem.le_refl _, ?_⟩ | fail)
    refine brn_t (decide_eq_true (by first | omega | (dsimp only; omega))) ?_
    repeat' ((conv => whnf); first | refine ⟨?_, True.intro⟩ | refine brn_t rfl ?_ | refine brn_f rfl ?_ | refine ob rfl ?_ | refine ob (by decide) ?_ | refine grow_same (Mem.le_refl _) ?_ | refine ob (Mem.le_refl _) ?_ | refine ⟨_, Mem.le_refl _, ?_⟩ | fail)
    refine brn_t (decide_eq_true (by first | omega | (dsimp only; omega))) ?_
    repeat' ((conv => whnf); first | refine ⟨?_, True.intro⟩ | refine brn_t rfl ?_ | refine brn_f rfl ?_ | refine ob rfl ?_ | refine ob (by decide) ?_ | refine grow_same (Mem.le_refl _) ?_ | refine ob (Mem.le_refl _) ?_ | refine ⟨_, Mem.le_refl _, ?_⟩ | fail)
    have hpc := (show put.length ≤ pc by unfold NewEls at hrow4; obtain ⟨css, w, _⟩ := hrow4; exact (newSl_iff.1 w).2.2.1)
    refine ob (by first | omega | (dsimp only; omega)) ?_
    (conv => whnf)
    have htk := ((hrow4.elems.take (k := m) ho3 hpc (by decide)).imp (Mem.le_refl _) fun _ _ _ hx => BytesR.le hx hMM)
    have t1 : ((m : Nat) : Int).toNat - Int.toNat 0 = m := by show m - 0 = m; omega
    have t2 : Int.toNat 0 = 0 := rfl
    rw [t1, t2]
    refine (same_ok hAl htk (by omega)).mono ?_
    rintro v _ ⟨rfl, rfl⟩
    (conv => whnf); refine brn_t (decide_eq_true rfl) ?_
    repeat' ((conv => whnf); first | refine ⟨?_, True.intro⟩ | refine brn_t rfl ?_ | refine brn_f rfl ?_ | refine ob rfl ?_ | refine ob (by decide) ?_ | refine grow_same (Mem.le_refl _) ?_ | refine ob (Mem.le_refl _) ?_ | refine ⟨_, Mem.le_refl _, ?_⟩ | fail)
    refine awake_ok.mono ?_
    rintro v M5 ⟨rfl, hle5⟩
    repeat' ((conv => whnf); first | refine ⟨?_, True.intro⟩ | refine brn_t rfl ?_ | refine brn_f rfl ?_ | refine ob rfl ?_ | refine ob (by decide) ?_ | refine grow_same (Mem.le_refl _) ?_ | refine ob (Mem.le_refl _) ?_ | refine ⟨_, Mem.le_refl _, ?_⟩ | fail)
    exact ⟨rfl, Mem.le_trans hMM hle5⟩
  have hlt2 : i < 60 := by have := of_decide_eq_true e; dsimp only at this; omega
  obtain ⟨hl1, xb, xo, xcs, hxa, hxr, -, -, hx⟩ := hl.at (by decide) hlt
  generalize l[i] = x at hx
  obtain ⟨a1, n1, c1, a2, n2, c2, rfl, s1, hn1, hnc1, s2, hn2', hxn⟩ := hx
  have hMc := hL.disk.le
  repeat' ((conv => whnf); first | refine ⟨?_, True.intro⟩ | refine brn_t rfl ?_ | refine brn_f rfl ?_ | refine ob rfl ?_ | refine ob (by decide) ?_ | refine grow_same (Mem.le_refl _) ?_ | refine ob (Mem.le_refl _) ?_ | refine ⟨_, Mem.le_refl _, ?_⟩ | fail)
  refine ob (by first | omega | (dsimp only; omega)) ?_
  (conv => whnf); refine atp hxa ?_
  (conv => whnf); refine on (Mem.row_le hMc (hxr 0 1 (by decide))) ?_
  repeat' ((conv => whnf); first | refine ⟨?_, True.intro⟩ | refine brn_t rfl ?_ | refine brn_f rfl ?_ | refine ob rfl ?_ | refine ob (by decide) ?_ | refine grow_same (Mem.le_refl _) ?_ | refine ob (Mem.le_refl _) ?_ | refine ⟨_, Mem.le_refl _, ?_⟩ | fail)
  refine brn (fun e => ?_) (fun e => ?_)
  · -- Append
    obtain ⟨hLb, hMb⟩ := hL.base
    obtain ⟨Z, hZ⟩ : ∃ Z, Z = Mc.minus (logB g p b ec) := ⟨_, rfl⟩
    rw [← hZ] at hLb hMb hrow
    repeat' ((conv => whnf); first | refine ⟨?_, True.intro⟩ | refine brn_t rfl ?_ | refine brn_f rfl ?_ | refine ob rfl ?_ | refine ob (by decide) ?_ | refine grow_same (Mem.le_refl _) ?_ | refine ob (Mem.le_refl _) ?_ | refine ⟨_, Mem.le_refl _, ?_⟩ | fail)
    refine ob (by first | omega | (dsimp only; omega)) ?_
    (conv => whnf); refine atp hxa ?_
    (conv => whnf); refine on (Mem.row_le hMc (hxr 2 1 (by decide))) ?_
    repeat' ((conv => whnf); first | refine ⟨?_, True.intro⟩ | refine brn_t rfl ?_ | refine brn_f rfl ?_ | refine ob rfl ?_ | refine ob (by decide) ?_ | refine grow_same (Mem.le_refl _) ?_ | refine ob (Mem.le_refl _) ?_ | refine ⟨_, Mem.le_refl _, ?_⟩ | fail)
    have hll := hput.last1
    refine (append_okL hLb (by omega) (by omega) (by omega) (s1.le hMc) (by omega) hnc1 (wlL hL.disk.inv _)).mono ?_
    rintro v M2 ⟨es2, rfl, h2⟩
    obtain ⟨q1, q2, q3⟩ := hput.append hL.disk.inv x.p
    obtain ⟨w1, w2⟩ := appendL_log D L x.p
    obtain ⟨R, hR⟩ : ∃ R, R = appendL D L x.p := ⟨_, rfl⟩
    rw [← hR] at h2 q1 q2 q3 w1 w2 ⊢
    have hrow2 := hrow.up h2.base.2
    have hMM : M.le M2 := Mem.le_trans hMb h2.disk.le
    repeat' ((conv => whnf); first | refine ⟨?_, True.intro⟩ | refine brn_t rfl ?_ | refine brn_f rfl ?_ | refine ob rfl ?_ | refine ob (by decide) ?_ | refine grow_same (Mem.le_refl _) ?_ | refine ob (Mem.le_refl _) ?_ | refine ⟨_, Mem.le_refl _, ?_⟩ | fail)
    refine brn (fun e => ?_) (fun e => ?_)
    · have e2 : R.2.2 = 0 := of_decide_eq_true e
      repeat' ((conv => whnf); first | refine ⟨?_, True.intro⟩ | refine brn_t rfl ?_ | refine brn_f rfl ?_ | refine ob rfl ?_ | refine ob (by decide) ?_ | refine grow_same (Mem.le_refl _) ?_ | refine ob (Mem.le_refl _) ?_ | refine ⟨_, Mem.le_refl _, ?_⟩ | fail)
      refine ob (by first | omega | (dsimp only; omega)) ?_
      (conv => whnf); refine atp hxa ?_
      (conv => whnf); refine on (Mem.row_le hMM (hxr 2 1 (by decide))) ?_
      repeat' ((conv => whnf); first | refine ⟨?_, True.intro⟩ | refine brn_t rfl ?_ | refine brn_f rfl ?_ | refine ob rfl ?_ | refine ob (by decide) ?_ | refine grow_same (Mem.le_refl _) ?_ | refine ob (Mem.le_refl _) ?_ | refine ⟨_, Mem.le_refl _, ?_⟩ | fail)
      refine appS hrow2 (Mem.minus_le _ _) (fun y hy => Mem.minus_in hy) (fun y hy => h2.full hy) (.slice a1 n1 c1) x.p ⟨a1, n1, c1, rfl, hnc1, s1⟩ rfl (by omega) (by simp [maxLen]; omega) fun a3 c3 M3 hN3 hk3 hab => ?_
      have h3 := (h2.mono hMb).keepS hk3 hab
      repeat' ((conv => whnf); first | refine ⟨?_, True.intro⟩ | refine brn_t rfl ?_ | refine brn_f rfl ?_ | refine ob rfl ?_ | refine ob (by decide) ?_ | refine grow_same (Mem.le_refl _) ?_ | refine ob (Mem.le_refl _) ?_ | refine ⟨_, Mem.le_refl _, ?_⟩ | fail)
      refine ob (inR_i64 (by first | omega | (dsimp only; omega))) ?_
      (conv => whnf)
      refine ⟨⟨i + 1, M3, R.1, es2, R.2.1, a3, c3, put ++ [x.p], safe⟩, ⟨⟨by dsimp only; omega, by dsimp only; omega⟩, h3, ?_, q1 e2, by dsimp only; rw [List.length_append]; show _ + 1 ≤ _; omega, by dsimp only; rw [w2]; exact hsz, by dsimp only; omega⟩, by dsimp only; omega, ?_⟩
      · dsimp only
        rw [List.length_append]; exact hN3
      · dsimp only
        rw [List.length_append]; exact ⟨(by repeat' first | exact True.intro | refine ⟨rfl, ?_⟩), (by repeat' first | exact True.intro | refine ⟨rfl, ?_⟩), Mem.le_refl _, rfl⟩
    · have e2 : R.2.2 ≠ 0 := of_decide_eq_false e
      repeat' ((conv => whnf); first | refine ⟨?_, True.intro⟩ | refine brn_t rfl ?_ | refine brn_f rfl ?_ | refine ob rfl ?_ | refine ob (by decide) ?_ | refine grow_same (Mem.le_refl _) ?_ | refine ob (Mem.le_refl _) ?_ | refine ⟨_, Mem.le_refl _, ?_⟩ | fail)
      refine ob (inR_i64 (by first | omega | (dsimp only; omega))) ?_
      (conv => whnf)
      exact ⟨⟨i + 1, M2, R.1, es2, R.2.1, pa, pc, put, safe⟩, ⟨⟨by dsimp only; omega, by dsimp only; omega⟩, h2.mono hMb, hrow2, q2 e2, by dsimp only; omega, by dsimp only; rw [w2]; exact hsz, by dsimp only; omega⟩, by dsimp only; omega, ⟨(by repeat' first | exact True.intro | refine ⟨rfl, ?_⟩), (by repeat' first | exact True.intro | refine ⟨rfl, ?_⟩), Mem.le_refl _, rfl⟩⟩
  repeat' ((conv => whnf); first | refine ⟨?_, True.intro⟩ | refine brn_t rfl ?_ | refine brn_f rfl ?_ | refine ob rfl ?_ | refine ob (by decide) ?_ | refine grow_same (Mem.le_refl _) ?_ | refine ob (Mem.le_refl _) ?_ | refine ⟨_, Mem.le_refl _, ?_⟩ | fail)
  refine brn (fun e => ?_) (fun e => ?_)
  · -- Sync
    obtain ⟨hLb, hMb⟩ := hL.base
    obtain ⟨Z, hZ⟩ : ∃ Z, Z = Mc.minus (logB g p b ec) := ⟨_, rfl⟩
    rw [← hZ] at hLb hMb hrow
    repeat' ((conv => whnf); first | refine ⟨?_, True.intro⟩ | refine brn_t rfl ?_ | refine brn_f rfl ?_ | refine ob rfl ?_ | refine ob (by decide) ?_ | refine grow_same (Mem.le_refl _) ?_ | refine ob (Mem.le_refl _) ?_ | refine ⟨_, Mem.le_refl _, ?_⟩ | fail)
    refine (sync_okL hLb).mono ?_
    rintro v M2 ⟨es2, rfl, h2⟩
    obtain ⟨q1, q2⟩ := hput.sync hL.disk.inv
    obtain ⟨w1, -, w2⟩ := syncL_last D L
    obtain ⟨R, hR⟩ : ∃ R, R = syncL D L := ⟨_, rfl⟩
    rw [← hR] at h2 q1 q2 w1 w2 ⊢
    have hrow2 := hrow.up h2.base.2
    repeat' ((conv => whnf); first | refine ⟨?_, True.intro⟩ | refine brn_t rfl ?_ | refine brn_f rfl ?_ | refine ob rfl ?_ | refine ob (by decide) ?_ | refine grow_same (Mem.le_refl _) ?_ | refine ob (Mem.le_refl _) ?_ | refine ⟨_, Mem.le_refl _, ?_⟩ | fail)
    refine brn (fun e => ?_) (fun e => ?_)
    · have e2 : R.2.2 = 0 := of_decide_eq_true e
      repeat' ((conv => whnf); first | refine ⟨?_, True.intro⟩ | refine brn_t rfl ?_ | refine brn_f rfl ?_ | refine ob rfl ?_ | refine ob (by decide) ?_ | refine grow_same (Mem.le_refl _) ?_ | refine ob (Mem.le_refl _) ?_ | refine ⟨_, Mem.le_refl _, ?_⟩ | fail)
      refine ob (inR_i64 (by first | omega | (dsimp only; omega))) ?_
      (conv => whnf)
      exact ⟨⟨i + 1, M2, R.1, es2, R.2.1, pa, pc, put, put.length⟩, ⟨⟨by dsimp only; omega, by dsimp only; omega⟩, h2.mono hMb, hrow2, by dsimp only; rw [w1]; exact q1.full (q2 e2), by dsimp only; omega, by dsimp only; rw [w2]; exact hsz, by dsimp only; omega⟩, by dsimp only; omega, ⟨(by repeat' first | exact True.intro | refine ⟨rfl, ?_⟩), (by repeat' first | exact True.intro | refine ⟨rfl, ?_⟩), Mem.le_refl _, rfl⟩⟩
    · clear e
      repeat' ((conv => whnf); first | refine ⟨?_, True.intro⟩ | refine brn_t rfl ?_ | refine brn_f rfl ?_ | refine ob rfl ?_ | refine ob (by decide) ?_ | refine grow_same (Mem.le_refl _) ?_ | refine ob (Mem.le_refl _) ?_ | refine ⟨_, Mem.le_refl _, ?_⟩ | fail)
      refine ob (inR_i64 (by first | omega | (dsimp only; omega))) ?_
      (conv => whnf)
      exact ⟨⟨i + 1, M2, R.1, es2, R.2.1, pa, pc, put, safe⟩, ⟨⟨by dsimp only; omega, by dsimp only; omega⟩, h2.mono hMb, hrow2, by dsimp only; rw [w1]; exact q1, by dsimp only; omega, by dsimp only; rw [w2]; exact hsz, by dsimp only; omega⟩, by dsimp only; omega, ⟨(by repeat' first | exact True.intro | refine ⟨rfl, ?_⟩), (by repeat' first | exact True.intro | refine ⟨rfl, ?_⟩), Mem.le_refl _, rfl⟩⟩
  repeat' ((conv => whnf); first | refine ⟨?_, True.intro⟩ | refine brn_t rfl ?_ | refine brn_f rfl ?_ | refine ob rfl ?_ | refine ob (by decide) ?_ | refine grow_same (Mem.le_refl _) ?_ | refine ob (Mem.le_refl _) ?_ | refine ⟨_, Mem.le_refl _, ?_⟩ | fail)
  refine brn (fun e => ?_) (fun e => ?_)
  · -- Begin
    obtain ⟨hLb, hMb⟩ := hL.base
    obtain ⟨Z, hZ⟩ : ∃ Z, Z = Mc.minus (logB g p b ec) := ⟨_, rfl⟩
    rw [← hZ] at hLb hMb hrow
    have hll := hput.last1
    repeat' ((conv => whnf); first | refine ⟨?_, True.intro⟩ | refine brn_t rfl ?_ | refine brn_f rfl ?_ | refine ob rfl ?_ | refine ob (by decide) ?_ | refine grow_same (Mem.le_refl _) ?_ | refine ob (Mem.le_refl _) ?_ | refine ⟨_, Mem.le_refl _, ?_⟩ | fail)
    refine (begin_okL hLb (by omega) (by omega)).mono ?_
    rintro v M2 ⟨es2, rfl, h2⟩
    obtain ⟨q1, q2, q3⟩ := hput.begin hL.disk.inv (syncL_inv hL.disk.inv L)
    obtain ⟨-, w2⟩ := beginL_first D L
    obtain ⟨R, hR⟩ : ∃ R, R = beginL D L := ⟨_, rfl⟩
    rw [← hR] at h2 q1 q2 q3 w2 ⊢
    have hrow2 := hrow.up h2.base.2
    repeat' ((conv => whnf); first | refine ⟨?_, True.intro⟩ | refine brn_t rfl ?_ | refine brn_f rfl ?_ | refine ob rfl ?_ | refine ob (by decide) ?_ | refine grow_same (Mem.le_refl _) ?_ | refine ob (Mem.le_refl _) ?_ | refine ⟨_, Mem.le_refl _, ?_⟩ | fail)
    refine brn (fun e => ?_) (fun e => ?_)
    · have e2 : R.2.2.2 = 0 := of_decide_eq_true e
      repeat' ((conv => whnf); first | refine ⟨?_, True.intro⟩ | refine brn_t rfl ?_ | refine brn_f rfl ?_ | refine ob rfl ?_ | refine ob (by decide) ?_ | refine grow_same (Mem.le_refl _) ?_ | refine ob (Mem.le_refl _) ?_ | refine ⟨_, Mem.le_refl _, ?_⟩ | fail)
      refine ob (inR_i64 (by first | omega | (dsimp only; omega))) ?_
      (conv => whnf)
      exact ⟨⟨i + 1, M2, R.1, es2, R.2.1, pa, pc, put, put.length⟩, ⟨⟨by dsimp only; omega, by dsimp only; omega⟩, h2.mono hMb, hrow2, q2 e2, by dsimp only; omega, by dsimp only; rw [w2]; exact hsz, by dsimp only; omega⟩, by dsimp only; omega, ⟨(by repeat' first | exact True.intro | refine ⟨rfl, ?_⟩), (by repeat' first | exact True.intro | refine ⟨rfl, ?_⟩), Mem.le_refl _, rfl⟩⟩
    · clear e
      repeat' ((conv => whnf); first | refine ⟨?_, True.intro⟩ | refine brn_t rfl ?_ | refine brn_f rfl ?_ | refine ob rfl ?_ | refine ob (by decide) ?_ | refine grow_same (Mem.le_refl _) ?_ | refine ob (Mem.le_refl _) ?_ | refine ⟨_, Mem.le_refl _, ?_⟩ | fail)
      refine ob (inR_i64 (by first | omega | (dsimp only; omega))) ?_
      (conv => whnf)
      exact ⟨⟨i + 1, M2, R.1, es2, R.2.1, pa, pc, put, safe⟩, ⟨⟨by dsimp only; omega, by dsimp only; omega⟩, h2.mono hMb, hrow2, q1, by dsimp only; omega, by dsimp only; rw [w2]; exact hsz, by dsimp only; omega⟩, by dsimp only; omega, ⟨(by repeat' first | exact True.intro | refine ⟨rfl, ?_⟩), (by repeat' first | exact True.intro | refine ⟨rfl, ?_⟩), Mem.le_refl _, rfl⟩⟩
  repeat' ((conv => whnf); first | refine ⟨?_, True.intro⟩ | refine brn_t rfl ?_ | refine brn_f rfl ?_ | refine ob rfl ?_ | refine ob (by decide) ?_ | refine grow_same (Mem.le_refl _) ?_ | refine ob (Mem.le_refl _) ?_ | refine ⟨_, Mem.le_refl _, ?_⟩ | fail)
  refine brn (fun e => ?_) (fun e => ?_)
  · -- the disk is armed
    obtain ⟨hLb, hMb⟩ := hL.base
    obtain ⟨Z, hZ⟩ : ∃ Z, Z = Mc.minus (logB g p b ec) := ⟨_, rfl⟩
    repeat' ((conv => whnf); first | refine ⟨?_, True.intro⟩ | refine brn_t rfl ?_ | refine brn_f rfl ?_ | refine ob rfl ?_ | refine ob (by decide) ?_ | refine grow_same (Mem.le_refl _) ?_ | refine ob (Mem.le_refl _) ?_ | refine ⟨_, Mem.le_refl _, ?_⟩ | fail)
    refine ob (by first | omega | (dsimp only; omega)) ?_
    (conv => whnf); refine atp hxa ?_
    (conv => whnf); refine on (Mem.row_le hMc (hxr 1 1 (by decide))) ?_
    repeat' ((conv => whnf); first | refine ⟨?_, True.intro⟩ | refine brn_t rfl ?_ | refine brn_f rfl ?_ | refine ob rfl ?_ | refine ob (by decide) ?_ | refine grow_same (Mem.le_refl _) ?_ | refine ob (Mem.le_refl _) ?_ | refine ⟨_, Mem.le_refl _, ?_⟩ | fail)
    refine (armF hLb.disk.base.1 (k := x.n) (by omega)).mono ?_
    rintro v M2 ⟨es2, rfl, h2⟩
    have h2' := hLb.call h2
    rw [← hZ] at hMb hrow h2'
    have hrow2 := hrow.up h2'.base.2
    have hD : (armR D x.n).1.l = D.l := by unfold armR; split <;> rfl
    repeat' ((conv => whnf); first | refine ⟨?_, True.intro⟩ | refine brn_t rfl ?_ | refine brn_f rfl ?_ | refine ob rfl ?_ | refine ob (by decide) ?_ | refine grow_same (Mem.le_refl _) ?_ | refine ob (Mem.le_refl _) ?_ | refine ⟨_, Mem.le_refl _, ?_⟩ | fail)
    refine ob (inR_i64 (by first | omega | (dsimp only; omega))) ?_
    (conv => whnf)
    exact ⟨⟨i + 1, M2, (armR D x.n).1, es2, L, pa, pc, put, safe⟩, ⟨⟨by dsimp only; omega, by dsimp only; omega⟩, h2'.mono hMb, hrow2, by dsimp only; rw [hD]; exact hput, by dsimp only; omega, hsz, by dsimp only; omega⟩, by dsimp only; omega, ⟨(by repeat' first | exact True.intro | refine ⟨rfl, ?_⟩), (by repeat' first | exact True.intro | refine ⟨rfl, ?_⟩), Mem.le_refl _, rfl⟩⟩
  repeat' ((conv => whnf); first | refine ⟨?_, True.intro⟩ | refine brn_t rfl ?_ | refine brn_f rfl ?_ | refine ob rfl ?_ | refine ob (by decide) ?_ | refine grow_same (Mem.le_refl _) ?_ | refine ob (Mem.le_refl _) ?_ | refine ⟨_, Mem.le_refl _, ?_⟩ | fail)
  refine ob (inR_i64 (by first | omega | (dsimp only; omega))) ?_
  (conv => whnf)
  exact ⟨⟨i + 1, Mc, D, ec, L, pa, pc, put, safe⟩, ⟨⟨by dsimp only; omega, by dsimp only; omega⟩, hL, hrow, hput, by dsimp only; omega, hsz, by dsimp only; omega⟩, by dsimp only; omega, ⟨(by repeat' first | exact True.intro | refine ⟨rfl, ?_⟩), (by repeat' first | exact True.intro | refine ⟨rfl, ?_⟩), Mem.le_refl _, rfl⟩⟩
end Go.Proofs.Ytnlghoenbhbfhaa

