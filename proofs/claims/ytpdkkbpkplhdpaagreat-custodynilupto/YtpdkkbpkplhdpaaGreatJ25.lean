/- Part of this proof; laid by program. -/
import Derived.Test.YtpdkkbpkplhdpaaGreatJ24
namespace Go.Proofs.YtpdkkbpkplhdpaaGreat
open Go Go.Vm
attribute [local irreducible] Brn Ob Grow CallsM inR LoopVC LoopVC0 Mem.row Mem.cells Mem.setCells Mem.upd Go.Vm.Own AppVC SrcVC StrVC NextVC New SrcOk subA NewSl Mem.textAt Mem.mapAt Mem.iterAt entryOf kfind Wr NewEls Elems
set_option maxRecDepth 10000
section
variable {A M M' : Mem} {c p db : Nat} {N : Int} {h : Hd} {des : FsT} {X : StW} {D : DiskR} {w : CuW}
structure PureW (X : StW) : Prop where
  inv : InvS X.S
  invE : InvE (toEs X.sn)
  room : (gapsE (toEs X.sn) : Int) ≤ X.S.qg ∧ X.S.qg ≤ 256
  go : GoS X.S (toEs X.sn)
  bd : ¬ badD X.S.self X.S.qh X.S.qb X.S.qg
  sort : X.sn.Pairwise ltMk
theorem PureW.check (hp : PureW X) : CheckS X.S.qh X.S.qb X.S.qg X.S.self X.S.epoch (usedD X.S.used) X.S.l X.sn 0 :=
  GoS.check hp.inv hp.invE hp.room.1 hp.bd hp.go hp.sort (by rw [toEs_mk])
theorem PureW.snap (hp : PureW X) (hm : X.sn.length ≤ 65535) : SnapOk (snapOf X) := by
  have hb2 := hp.bd
  have hbd := hp.bd
  unfold badD at hbd
  have hF : FormS X.S.self X.S.epoch (usedD X.S.used) X.S.l X.sn ∧ ¬ FullS X.S.qh X.S.qb X.S.qg X.S.l X.sn := by
    rcases hp.check with ⟨h2, _⟩ | ⟨_, _, h2⟩ | ⟨_, _, _, h2⟩ | ⟨_, h2, h3, _⟩
    · exact absurd h2 hb2
    · cases h2
    · cases h2
    · exact ⟨h2, h3⟩
  refine ⟨by unfold badD; dsimp only; omega, hF.1, fun hh => hF.2 ?_, hm⟩
  unfold FullS at hh ⊢
  dsimp only at hh
  omega
structure CuPre (A M : Mem) (c p db : Nat) (N : Int) (h : Hd) (des : FsT) (X : StW) (D : DiskR) (w : CuW) : Prop where
  st : FreshW A M h X
  disk : FreshD A M p db D des
  self : M.has c T.custody_Custody (cuCs h.p p (.pointer none) w)
  cf : A c = none
  dj : ∀ y, hB h y → ¬ diskB p db des y
  cs : ¬ hB h c
  cl : ¬ diskB p db des c
  nm : NamesC D
  cm : h.came ≤ N
theorem CuPre.to (h1 : CuPre A M c p db N h des X D w) (hle : M.le M') : CuPre A M' c p db N h des X D w := ⟨h1.st.to hle, h1.disk.to hle, h1.self.le hle, h1.cf, h1.dj, h1.cs, h1.cl, h1.nm, h1.cm⟩
theorem FreshD.keepS {D : DiskR} (h1 : FreshD A M p db D des) {S : Nat → Prop} (hk : Mem.keep S M M') (hS : ∀ y, S y → A y = none ∧ ¬ diskB p db des y) : FreshD A M' p db D des :=
  ⟨hk.le h1.le fun y hy => (hS y hy).1, h1.at'.mono fun y o hy ho => hk y o (fun e => (hS y e).2 hy) ho, h1.rel, h1.inv, h1.fresh⟩
theorem CuPre.some (h1 : CuPre A M c p db N h des X D w) : M c ≠ none := by
  have := h1.self; unfold Mem.has at this; rw [this]; simp
theorem CuPre.turnD (h1 : CuPre A M c p db N h des X D w) {D' : DiskR} {es' : FsT} (h' : FreshD (M.minus (diskB p db des)) M' p db D' es') (hn : NamesC D') : CuPre A M' c p db N h es' X D' w := by
  have hk : Mem.keep (diskB p db des) M M' := Mem.keep_minus.2 h'.le
  have hout : ∀ y, ¬ diskB p db des y → M y ≠ none → ¬ diskB p db es' y := fun y h2 h3 h4 => by
    have h5 := h'.fresh y h4
    unfold Mem.minus at h5
    rw [if_neg h2] at h5
    exact h3 h5
  exact ⟨h1.st.keepS hk fun y hy => ⟨h1.disk.fresh y hy, fun h2 => h1.dj y h2 hy⟩, h'.mono h1.disk.base.2, hk _ _ h1.cl h1.self, h1.cf, fun y hy => hout y (h1.dj y hy) (h1.st.some hy), h1.cs, hout c h1.cl h1.some, hn, h1.cm⟩
theorem CuPre.turnC (h1 : CuPre A M c p db N h des X D w) {h2 : Hd} {X2 : StW} {N2 : Int} (hs : FreshW A M h2 X2) (hn : ∀ y, hB h2 y → ¬ diskB p db des y ∧ y ≠ c) (hc : h2.came ≤ N2) (w2 : CuW) :
    CuPre A (M.setCells c T.custody_Custody (cuCs h2.p p (.pointer none) w2)) c p db N2 h2 des X2 D w2 := by
  have hk : Mem.keep (fun y => y = c) M (M.setCells c T.custody_Custody (cuCs h2.p p (.pointer none) w2)) := fun y o hy ho => by
    unfold Mem.setCells; rw [Mem.upd_ne _ _ hy]; exact ho
  exact ⟨hs.keepS hk fun y hy => hy ▸ ⟨h1.cf, fun hb => (hn c hb).2 rfl⟩, h1.disk.keepS hk fun y hy => hy ▸ ⟨h1.cf, h1.cl⟩, Mem.has_setCells, h1.cf, fun y hy => (hn y hy).1, fun hb => (hn c hb).2 rfl, h1.cl, h1.nm, hc⟩
def rmSn (D : DiskR) : List Int → DiskR × Int
  | [] => (D, 0)
  | k :: r => if (removeR D (snapB k)).2 ≠ 0 then removeR D (snapB k) else rmSn (removeR D (snapB k)).1 r
theorem NamesC.rmSn : ∀ {ks : List Int} {D : DiskR}, NamesC D → NamesC (rmSn D ks).1
  | [], _, h => h
  | k :: r, D, h => by
    rw [Go.Proofs.YtpdkkbpkplhdpaaGreat.rmSn]
    split
    · exact h.remove _
    · exact NamesC.rmSn (h.remove _)
structure SnapIs (D : DiskR) (me qh qb qg : Int) (k : Int) (X : StW) : Prop where
  file : ∃ f, findR D.l (snapB k) = some f ∧ bl f.all = snapBytes (snapOf X)
  pure : PureW X
  few : X.sn.length ≤ 65535
  set : X.S.self = me ∧ X.S.qh = qh ∧ X.S.qb = qb ∧ X.S.qg = qg
def loadD (D : DiskR) (k : Int) : DiskR × Int := if D.down = true then (D, 9) else rmSn D (snapsR D).dropLast
theorem load_none (h1 : CuPre A M c p db N h des X D w) (hs : snapsR D = []) (self : Int) (q : Value) (hq : ∃ a b d, q = .agg #[.int .i64 a, .int .i64 b, .int .i64 d]) : CallsM Tryz.prog F.custody_Custody_load [ptr c, .int .i64 self, q] M fun v M' => v = .int .i64 0 ∧ M.le M' := by
  obtain ⟨qa, qb, qc, rfl⟩ := hq
  refine fo_custody_Custody_load (by simp) ?_
  refine zR ?_
  refine (snaps_ok h1.self rfl h1.disk h1.nm).mono ?_
  rintro v M1 ⟨a, n, cc, rfl, hn, hN⟩
  rw [hs, List.length_nil] at hn
  subst hn
  refine zR ?_
  exact ⟨rfl, hN.le⟩
theorem remove_pre (h1 : CuPre A M c p db N h des X D w) {s : ByteArray} (hs : s.size ≤ 4611686018427387904) : CallsM Tryz.prog F.disk_Disk_Remove [ptr p, .string s] M fun v M' => ∃ es', v = .int .i64 (removeR D s).2 ∧ CuPre A M' c p db N h es' X (removeR D s).1 w ∧ (M.minus (diskB p db des)).le (M'.minus (diskB p db es')) :=
  (removeF h1.disk.base.1 hs).mono fun _ _ ⟨es', hv, h'⟩ => ⟨es', hv, h1.turnD h' (h1.nm.remove _), h'.base.2⟩
theorem read_down {D : DiskR} {s : ByteArray} {f : FileR} (hf : findR D.l s = some f) (hn : okName s = true) : (D.down = true → readR D s = (.empty, 9)) ∧ (D.down = false → readR D s = (f.all, 0)) := by
  refine ⟨fun hd => ?_, fun hd => (readR_there hd hn hf).1⟩
  have : thereE D s = 9 := by unfold thereE readyE; simp [hd]
  unfold readR
  rw [if_pos (by rw [this]; decide), this]
theorem snapB_ok {k : Int} (h : ¬ (k < 1 ∨ 99999 < k)) : okName (snapB k) = true := by
  have hn := nameB_size (k := k) (by omega)
  rw [nameC_eq h] at hn
  rw [snapB_eq h]
  have hnn : 0 ≤ k := by omega
  have d0 := dg_range hnn 0
  have d1 := dg_range hnn 1
  have d2 := dg_range hnn 2
  have d3 := dg_range hnn 3
  have d4 := dg_range hnn 4
  unfold okName
  rw [Bool.and_eq_true, List.all_eq_true]
  refine ⟨rfl, fun c hc => ?_⟩
  have hc' : c ∈ [115, dgB k 4, dgB k 3, dgB k 2, dgB k 1, dgB k 0] := hc
  simp only [List.mem_cons, List.not_mem_nil, or_false] at hc'
  apply decide_eq_true
  rcases hc' with rfl | rfl | rfl | rfl | rfl | rfl
  · right; right; decide
  all_goals right; left; omega
set_option maxHeartbeats 1000000 in
theorem load_some (h1 : CuPre A M c p db N h des X D w) {ks : List Int} {k : Int} (hs : snapsR D = ks ++ [k]) (hk : ¬ (k < 1 ∨ 99999 < k)) {self qh qb qg : Int} {X2 : StW} (hX : SnapIs D self qh qb qg k X2) :
    CallsM Tryz.prog F.custody_Custody_load [ptr c, .int .i64 self, .agg #[.int .i64 qh, .int .i64 qb, .int .i64 qg]] M fun v M' => v = .int .i64 (loadD D k).2 ∧ (∃ des', FreshD A M' p db (loadD D k).1 des') ∧
      ((loadD D k).2 = 0 → ∃ h2 des2, CuPre A M' c p db 256 h2 des2 X2 (loadD D k).1 { w with snap := k }) := by
  refine fo_custody_Custody_load (by simp) ?_
  refine zR ?_
  refine (snaps_ok h1.self rfl h1.disk h1.nm).mono ?_
  rintro v M1 ⟨a, n, cc, rfl, hn, hN⟩
  rw [hs] at hn hN
  rw [List.length_append] at hn
  have hn' : n = ks.length + 1 := hn
  have hlen : n ≤ 64 := by
    have h2 := h1.disk.inv.len
    have h3 : (snapsR D).length ≤ D.l.length := by unfold snapsR; exact Nat.le_trans (List.length_filter_le _ _) (by simp)
    rw [hs, List.length_append] at h3
    simp at h3; omega
  have p1 := h1.to hN.le
  have hcc : n ≤ cc := (newSl_iff.1 hN).2.2.1
  have hdrop : (snapsR D).dropLast = ks := by rw [hs]; simp
  (conv => whnf); refine brn_f (decide_eq_false (by omega)) ?_
  (conv => whnf); refine ob (inR_i64 (by omega)) ?_
  (conv => whnf); refine ob ⟨by omega, by omega⟩ ?_
  obtain ⟨hk1, b1, o1, e1, hr1⟩ := hN.src.at (i := ks.length) (by omega)
  have hkk : (ks ++ [k])[ks.length]'hk1 = k := by simp
  rw [hkk] at hr1
  (conv => whnf); refine atp e1 ?_
  have hnat : ((n : Int) - 1).toNat = ks.length := by omega
  (conv => whnf)
  rw [show (((n : Nat) : Int) - 1).toNat = ks.length from hnat]
  refine on hr1 ?_
  refine zL (p1.self) ?_
  refine on p1.self.cells ?_
  (conv => whnf); refine ob (by simp) ?_
  have p2 := p1.turnC p1.st (fun y hy => ⟨p1.dj y hy, fun e => p1.cs (e ▸ hy)⟩) p1.cm { w with snap := k }
  have hNs2 : SrcOk (M1.setCells c T.custody_Custody (cuCs h.p p (.pointer none) { w with snap := k })) 1 a n ((ks ++ [k]).map intV) := by
    unfold Mem.setCells
    refine SrcOk.upd hN.src fun q hq e => ?_
    have := (hN.block hq).1
    rw [e] at this
    exact h1.some this
  obtain ⟨M2, hM2⟩ : ∃ M2, M2 = M1.setCells c T.custody_Custody (cuCs h.p p (.pointer none) { w with snap := k }) := ⟨_, rfl⟩
  rw [← hM2] at p2 hNs2
  (conv => whnf)
  erw [← hM2]
  refine zL (p2.self) ?_
  refine (sname_ok k).mono ?_
  rintro v M3 ⟨rfl, hle3⟩
  have p3 := p2.to hle3
  refine zT (hle3) ?_
  refine zR ?_
  refine (readF p3.disk (snapB_size k)).mono ?_
  rintro v M4 ⟨a4, n4, c4, rfl, hn4, hN4⟩
  have p4 := p3.to hN4.le
  obtain ⟨f, hf, hfb⟩ := hX.file
  obtain ⟨hrd1, hrd2⟩ := read_down hf (snapB_ok hk)
  cases hd : D.down
  case true =>
    rw [hrd1 hd]
    repeat' ((conv => whnf); first | refine ⟨?_, True.intro⟩ | refine ⟨?_, ?_, True.intro⟩ | refine brn_t rfl ?_ | refine brn_f rfl ?_ | refine ob rfl ?_ | refine ob (by decide) ?_ | refine grow_same (Mem.le_refl _) ?_ | refine ob (Mem.le_refl _) ?_ | refine ⟨_, Mem.le_refl _, ?_⟩ | fail)
    have hL : loadD D k = (D, 9) := by unfold loadD; rw [if_pos hd]
    rw [hL]
    exact ⟨rfl, ⟨des, p4.disk⟩, fun h => by cases h⟩
  have hL : loadD D k = rmSn D ks := by unfold loadD; rw [if_neg (by simp [hd]), hdrop]
  rw [hrd2 hd] at hn4 hN4 ⊢
  dsimp only at hn4 hN4
  rw [hfb] at hn4 hN4
  have hfl : (snapBytes (snapOf X2)).length ≤ 1048576 := by
    have h2 := (without_some h1.disk.inv.sort hf).2
    have h3 := h1.disk.inv.used
    rw [← hfb, bl_len, all_size]; omega
  obtain ⟨Z, hZ⟩ : ∃ Z, Z = M4.minus (diskB p db des) := ⟨_, rfl⟩
  have hZk : SrcOk Z 1 (subA a 0 cc 1) ks.length (ks.map intV) := by
    have h2 := ((hNs2.le hle3).le hN4.le)
    have h3 : SrcOk Z 1 a n ((ks ++ [k]).map intV) := by
      rw [hZ]
      exact h2.minus fun q hq hb => h1.disk.at'.full hb (hN.block hq).1
    have h4 := h3.subm (lo := 0) (hi := ks.length) (by omega) (by omega) hcc
    simpa using h4
  have hZp : SrcOk Z 1 a4 n4 ((snapBytes (snapOf X2)).map byteV) := by
    rw [hZ]
    exact hN4.src.minus fun q hq hb => p3.disk.at'.full hb (hN4.block hq).1
  have hc4 : n4 ≤ c4 := (newSl_iff.1 hN4).2.2.1
  repeat' ((conv => whnf); first | refine ⟨?_, True.intro⟩ | refine ⟨?_, ?_, True.intro⟩ | refine brn_t rfl ?_ | refine brn_f rfl ?_ | refine ob rfl ?_ | refine ob (by decide) ?_ | refine grow_same (Mem.le_refl _) ?_ | refine ob (Mem.le_refl _) ?_ | refine ⟨_, Mem.le_refl _, ?_⟩ | fail)
  (conv => whnf); refine ob (inR_i64 (by omega)) ?_
  (conv => whnf); refine ob ⟨by decide, by omega, by omega⟩ ?_
  (conv => whnf)
  rw [show (((n : Nat) : Int) - 1).toNat - Int.toNat 0 = ks.length by have : Int.toNat 0 = 0 := rfl; omega]
  refine loopF (σ := Nat × Mem × DiskR × FsT) [51] (fun y => [(51, .int .i64 y.1)]) (fun y => [.live T.api_Quota [.v (.int .i64 qh), .v (.int .i64 qb), .v (.int .i64 qg)]]) (fun y => y.2.1)
    (fun | ⟨i, Mc, Dc, ec⟩ => i ≤ ks.length ∧ CuPre A Mc c p db N h ec X Dc { w with snap := k } ∧ Z.le (Mc.minus (diskB p db ec)) ∧ rmSn D ks = rmSn Dc (ks.drop i)) (fun y => ks.length - y.1) ⟨0, M4, D, des⟩ ⟨by omega, p4, by rw [hZ]; exact Mem.le_refl _, rfl⟩ zS ?_
  rintro ⟨i, Mc, Dc, ec⟩ ⟨hi, pc, hzc, hrm⟩
  (conv => whnf); refine brn (fun e => ?_) (fun e => ?_)
  · have hlt : i < ks.length := by have := of_decide_eq_true e; dsimp only at this; omega
    obtain ⟨hk1, b1, o1, e1, hr1⟩ := ((hZk.le hzc).le (Mem.minus_le _ _)).at hlt
    rw [List.drop_eq_getElem_cons hk1] at hrm
    generalize ks[i] = z at *
    (conv => whnf); refine ob (by first | omega | (dsimp only; omega)) ?_
    (conv => whnf); refine atp e1 ?_
    (conv => whnf); refine on hr1 ?_
    refine zL (pc.self) ?_
    refine (sname_ok z).mono ?_
    rintro v M5 ⟨rfl, hle5⟩
    have p5 := pc.to hle5
    refine zT (hle5) ?_
    refine zR ?_
    refine (remove_pre p5 (snapB_size z)).mono ?_
    rintro v M6 ⟨es6, rfl, p6, hz6⟩
    (conv => whnf); refine brn (fun e => ?_) (fun e => ?_)
    · have e2 : (removeR Dc (snapB z)).2 ≠ 0 := by simpa using e
      refine zR ?_
      rw [hL, hrm, rmSn, if_pos e2]
      exact ⟨rfl, ⟨es6, p6.disk⟩, fun h => absurd h e2⟩
    · have e2 : ¬ (removeR Dc (snapB z)).2 ≠ 0 := by simpa using e
      rw [rmSn, if_neg e2] at hrm
      refine zR ?_
      refine ob (inR_i64 (by first | omega | (dsimp only; omega))) ?_
      (conv => whnf)
      have hz5 : (Mc.minus (diskB p db ec)).le (M5.minus (diskB p db ec)) := (pc.disk.base.1.to hle5).base.2
      exact ⟨⟨i + 1, M6, _, es6⟩, ⟨by omega, p6, Mem.le_trans hzc (Mem.le_trans hz5 hz6), hrm⟩, by dsimp only; omega, zS⟩
  have hge : i = ks.length := by have := of_decide_eq_false e; dsimp only at this; omega
  subst hge
  rw [List.drop_of_length_le (by omega), rmSn] at hrm
  have hSn := hX.pure.snap hX.few
  have hZM := Mem.le_trans hzc (Mem.minus_le _ _)
  subst hn4
  repeat' ((conv => whnf); first | refine ⟨?_, True.intro⟩ | refine ⟨?_, ?_, True.intro⟩ | refine brn_t rfl ?_ | refine brn_f rfl ?_ | refine ob rfl ?_ | refine ob (by decide) ?_ | refine grow_same (Mem.le_refl _) ?_ | refine ob (Mem.le_refl _) ?_ | refine ⟨_, Mem.le_refl _, ?_⟩ | fail)
  refine (getSnap_ok hSn (hZp.le hZM) hc4 hfl).mono ?_
  rintro v M7 ⟨ua, uc, ha, hc, ma, mc, ms, mk, rfl, hat, hle7⟩
  obtain ⟨q1, q2, q3, q4⟩ := hX.set
  subst q1 q2 q3 q4
  have p7 := pc.to hle7
  repeat' ((conv => whnf); first | refine ⟨?_, True.intro⟩ | refine ⟨?_, ?_, True.intro⟩ | refine brn_t rfl ?_ | refine brn_f rfl ?_ | refine ob rfl ?_ | refine ob (by decide) ?_ | refine grow_same (Mem.le_refl _) ?_ | refine ob (Mem.le_refl _) ?_ | refine ⟨_, Mem.le_refl _, ?_⟩ | fail)
  refine brn_f (by simp) ?_
  repeat' ((conv => whnf); first | refine ⟨?_, True.intro⟩ | refine ⟨?_, ?_, True.intro⟩ | refine brn_t rfl ?_ | refine brn_f rfl ?_ | refine ob rfl ?_ | refine ob (by decide) ?_ | refine grow_same (Mem.le_refl _) ?_ | refine ob (Mem.le_refl _) ?_ | refine ⟨_, Mem.le_refl _, ?_⟩ | fail)
  refine (From15_ok X2.S.qh X2.S.qb X2.S.qg hat.stat hat.big).mono ?_
  rw [hat.held, hat.seen]
  rintro v M8 ⟨e, hC, ⟨he0, -⟩ | ⟨-, p8, b8, sp8, sb8, came8, xs8, es8, rfl, h8, hcm8, hes8⟩⟩
  · exact absurd (hC.uniq hX.pure.check) he0
  dsimp only [snapOf] at hes8 hcm8
  have hS : mkS X2.S.self X2.S.qh X2.S.qb X2.S.qg X2.S.epoch (arrU (usedD X2.S.used)) X2.S.l = X2.S := by rw [arrU_usedD hX.pure.inv hX.pure.go]
  rw [hS] at h8
  have p8' := p7.to h8.le
  have hW : FreshW A M8 ⟨p8, b8, sp8, sb8, came8, xs8, es8⟩ X2 := by
    refine (FreshW.mono (A' := M7) ⟨h8, ⟨by rw [hes8], hX.pure.sort⟩, ⟨hX.pure.go.none, hX.pure.go.own, hX.pure.go.held, fun q hq => ?_⟩, hX.pure.bd⟩ p7.st.st.le)
    have h9 : mkOf q ∈ X2.sn := hes8 ▸ List.mem_map.2 ⟨q, hq, rfl⟩
    exact hX.pure.go.seen (toE (mkOf q)) (List.mem_map.2 ⟨_, h9, rfl⟩)
  have hcm : came8 ≤ 256 := by
    have h9 := hSn.full
    unfold FullS at h9
    dsimp only at h9
    omega
  have hnew : ∀ y, hB ⟨p8, b8, sp8, sb8, came8, xs8, es8⟩ y → ¬ diskB p db ec y ∧ y ≠ c := fun y hy => by
    have h9 := h8.fresh y hy
    exact ⟨fun hb => p7.disk.at'.full hb h9, fun e => p7.some (e ▸ h9)⟩
  have p9 := p8'.turnC hW hnew hcm { w with snap := k }
  repeat' ((conv => whnf); first | refine ⟨?_, True.intro⟩ | refine ⟨?_, ?_, True.intro⟩ | refine brn_t rfl ?_ | refine brn_f rfl ?_ | refine ob rfl ?_ | refine ob (by decide) ?_ | refine grow_same (Mem.le_refl _) ?_ | refine ob (Mem.le_refl _) ?_ | refine ⟨_, Mem.le_refl _, ?_⟩ | fail)
  refine on p8'.self.cells ?_
  (conv => whnf); refine ob (by simp) ?_
  obtain ⟨M9, hM9⟩ : ∃ M9, M9 = M8.setCells c T.custody_Custody (cuCs p8 p (.pointer none) { w with snap := k }) := ⟨_, rfl⟩
  dsimp only at p9
  rw [← hM9] at p9
  (conv => whnf)
  erw [← hM9]
  repeat' ((conv => whnf); first | refine ⟨?_, True.intro⟩ | refine ⟨?_, ?_, True.intro⟩ | refine brn_t rfl ?_ | refine brn_f rfl ?_ | refine ob rfl ?_ | refine ob (by decide) ?_ | refine grow_same (Mem.le_refl _) ?_ | refine ob (Mem.le_refl _) ?_ | refine ⟨_, Mem.le_refl _, ?_⟩ | fail)
  rw [hL, hrm]
  exact ⟨rfl, ⟨ec, p9.disk⟩, fun _ => ⟨_, ec, p9⟩⟩
end
section
variable {A M M' : Mem} {c p db : Nat} {N : Int} {h : Hd} {des : FsT} {X : StW} {D : DiskR} {w : CuW} {H : CuH} {C : CuR}
theorem NamesC.cut {D : DiskR} (h : NamesC D) (k : Int) (n : Int) : NamesC (cutR D (nameB k) n).1 := by
  unfold cutR
  split
  · exact h
  · rename_i h0
    split
    · exact h
    · have hk := readyE_name (thereE_zero (by simpa using h0)).1
      refine h.l fun f hf => ?_
      rcases withR_mem.1 hf with rfl | ⟨hf, _⟩
      · exact .inr (.inl ⟨k, hk, rfl⟩)
      · exact .inl hf
theorem openLoop_nm : ∀ {f : Nat} {D : DiskR} {next last : Int} {all : List (List UInt8)}, NamesC D → (1 ≤ last ∧ last ≤ 99999) → 1 ≤ next → (∀ q ∈ all, okRec q) →
    NamesC (openLoop f D next last all).1 ∧ (1 ≤ (openLoop f D next last all).2.2.1 ∧ (openLoop f D next last all).2.2.1 ≤ 99999) ∧ ∀ q ∈ (openLoop f D next last all).2.2.2.1, okRec q
  | 0, _, _, _, _, h, hl, _, ho => ⟨h, hl, ho⟩
  | f + 1, D, next, last, all, h, hl, hn, ho => by
    rw [openLoop]
    split
    · exact ⟨h, hl, ho⟩
    rename_i h0
    split
    · exact ⟨h, hl, by simp⟩
    have hs := (scanR_inv _ (bl (readR D (nameB next)).1) (Nat.le_refl _)).2.1
    have ho2 : ∀ q ∈ all ++ scanR (bl (readR D (nameB next)).1), okRec q := fun q hq => by
      rcases List.mem_append.1 hq with hq | hq
      · exact ho q hq
      · exact hs q hq
    split
    · split
      · exact ⟨h.cut _ _, ⟨hn, by dsimp only; omega⟩, by simp⟩
      · exact ⟨h.cut _ _, ⟨hn, by dsimp only; omega⟩, ho2⟩
    · exact openLoop_nm h ⟨hn, by omega⟩ (by omega) ho2
theorem openR_nm {D : DiskR} {first size : Int} (h : NamesC D) (hf : 1 ≤ first ∧ first ≤ 99999) (hz : 0 ≤ size ∧ size ≤ 1048576) : NamesC (openR D (L0 first size)).1 ∧ LgOk (openR D (L0 first size)).2.1 ∧ ∀ q ∈ (openR D (L0 first size)).2.2.1, okRec q := by
  have h1 : NamesC (removeAll D (segsR D fun k => decide (k < (L0 first size).first))).1 := h.removeAll
  obtain ⟨a1, a2, a3⟩ := openLoop_nm (f := (100000 - (L0 first size).first).toNat) (next := (L0 first size).first) (last := (L0 first size).last) (all := []) h1 hf hf.1 (by simp)
  unfold openR
  dsimp only
  split
  · exact ⟨h1, ⟨hf, hz⟩, by simp⟩
  split
  · exact ⟨a1, ⟨a2, hz⟩, by simp⟩
  · exact ⟨a1.removeAll, ⟨a2, hz⟩, a3⟩
def replayW (X : StW) : List (List UInt8) → StW × Int
  | [] => (X, 0)
  | q :: r => if gotErr q ≠ 0 then (X, 2) else if (applyW X (gotEv q).kind (gotEv q).id (gotEv q).p).2 ≠ 0 then ((applyW X (gotEv q).kind (gotEv q).id (gotEv q).p).1, 2) else replayW (applyW X (gotEv q).kind (gotEv q).id (gotEv q).p).1 r
theorem CuAt.aside (h : CuAt A M c p N H C) {f : Nat} {args : List Value} {R : Value → Mem → Prop} (hc : CallsM Tryz.prog f args (M.minus (cuB c p H)) R) :
    CallsM Tryz.prog f args M fun v M' => ∃ A', R v A' ∧ CuAt A' M' c p N H C :=
  (hc.frame (Mem.minus_le _ _)).mono fun v M' ⟨A', hR, hle, hk⟩ => by
    have hkk : ∀ y o, cuB c p H y → M y = Option.some o → M' y = Option.some o ∧ A' y = none := fun y o hy ho => hk y o (Mem.minus_in hy) ho
    have hno : ∀ y, cuB c p H y → A' y = none := fun y hy => by
      cases e : M y with
      | none => exact absurd e (h.some hy)
      | some o => exact (hkk y o hy e).2
    refine ⟨A', hR, ⟨⟨hle, h.st.st.at'.mono fun y o hy ho => (hkk y o (.inr (.inl hy)) ho).1, h.st.st.inv, h.st.st.invE, h.st.st.room, fun y hy => hno y (.inr (.inl hy))⟩, h.st.seen, h.st.go, h.st.bd⟩,
      ⟨⟨hle, h.log.disk.at'.mono fun y o hy ho => (hkk y o (.inr (.inr (.inr hy))) ho).1, h.log.disk.rel, h.log.disk.inv, fun y hy => hno y (.inr (.inr (.inr hy)))⟩, (hkk _ _ (.inr (.inr (.inl rfl))) h.log.self).1, hno _ (.inr (.inr (.inl rfl)))⟩,
      (hkk _ _ (.inl rfl) h.self).1, hno c (.inl rfl), h.dj, h.cs, h.cl, h.lg, h.nm, h.cm⟩
def firstC (w : CuW) : Int := max w.snap 1
def reopenC (D : DiskR) (w : CuW) (seg : Int) : DiskR × LogR × List (List UInt8) × Int := if D.down = true then (D, L0 (firstC w) seg, [], 9) else openR D (L0 (firstC w) seg)
def replayE (X : StW) (D : DiskR) (w : CuW) (seg : Int) : Int := if (reopenC D w seg).2.2.2 ≠ 0 then (reopenC D w seg).2.2.2 else (replayW X (reopenC D w seg).2.2.1).2
theorem CuPre.logged (h1 : CuPre A M c p db N h des X D w) {A2 M2 : Mem} {g : Nat} {D2 : DiskR} {L2 : LogR} {es2 : FsT} (hl : LogAt ((M.minus fun y => y = c ∨ hB h y).minus (diskB p db des)) A2 g p db D2 es2 L2) (hle : A2.le M2)
    (hk : ∀ y o, (y = c ∨ hB h y) → M y = Option.some o → M2 y = Option.some o ∧ A2 y = none) (hlg : LgOk L2) (hnm : NamesC D2) :
    CuAt A (M2.setCells c T.custody_Custody (cuCs h.p p (ptr g) w)) c p N ⟨h, g, db, es2⟩ ⟨X, D2, L2, w⟩ := by
  have hA : A.le ((M.minus fun y => y = c ∨ hB h y).minus (diskB p db des)) := Mem.le_minus (Mem.le_minus h1.disk.le fun y hy => by
    rcases hy with rfl | hy
    · exact h1.cf
    · exact h1.st.st.fresh y hy) h1.disk.fresh
  have hl2 := (hl.mono hA).to hle
  have hno : ∀ y, (y = c ∨ hB h y) → A2 y = none := fun y hy => by
    cases e : M y with
    | none =>
      rcases hy with rfl | hy
      · exact absurd e h1.some
      · exact absurd e (h1.st.some hy)
    | some o => exact (hk y o hy e).2
  have hlb : ∀ y, logB g p db es2 y → ¬ (y = c ∨ hB h y) := fun y hy h3 => hl.full hy (hno y h3)
  have hs2 : FreshW A M2 h X := ⟨⟨hl2.disk.le, h1.st.st.at'.mono fun y o hy ho => (hk y o (.inr hy) ho).1, h1.st.st.inv, h1.st.st.invE, h1.st.st.room, h1.st.st.fresh⟩, h1.st.seen, h1.st.go, h1.st.bd⟩
  have hkc : Mem.keep (fun y => y = c) M2 (M2.setCells c T.custody_Custody (cuCs h.p p (ptr g) w)) := fun y o hy ho => by
    unfold Mem.setCells; rw [Mem.upd_ne _ _ hy]; exact ho
  exact ⟨hs2.keepS hkc fun y hy => hy ▸ ⟨h1.cf, h1.cs⟩, hl2.keepS hkc fun y hy => hy ▸ ⟨h1.cf, fun h3 => hlb c h3 (.inl rfl)⟩, Mem.has_setCells, h1.cf, fun y hy h3 => hlb y h3 (.inr hy), h1.cs, fun h3 => hlb c h3 (.inl rfl), hlg, hnm, h1.cm⟩
set_option maxHeartbeats 1000000 in
theorem replay_c (h1 : CuPre A M c p db N h des X D w) {seg : Int} (hseg : 16 ≤ seg ∧ seg ≤ 1048576) (hsn : w.snap ≤ 99999) (hN0 : 0 ≤ N) (hN : N + (reopenC D w seg).2.2.1.length ≤ 4611686018427387904) :
    CallsM Tryz.prog F.custody_Custody_replay [ptr c, .int .i64 seg] M fun v M' => v = .int .i64 (replayE X D w seg) ∧ (∃ des', FreshD A M' p db (reopenC D w seg).1 des') ∧
      (replayE X D w seg = 0 → ∃ H', CuAt A M' c p (N + (reopenC D w seg).2.2.1.length) H' ⟨(replayW X (reopenC D w seg).2.2.1).1, (reopenC D w seg).1, (reopenC D w seg).2.1, w⟩) := by
  refine fo_custody_Custody_replay (by simp) ?_
  refine zLX (h1.self) ?_
  (conv => whnf)
  obtain ⟨Ma, hMa⟩ : ∃ Ma, Ma = M.minus fun y => y = c ∨ hB h y := ⟨_, rfl⟩
  have hda : FreshD (Ma.minus (diskB p db des)) Ma p db D des := by
    refine ⟨Mem.minus_le _ _, h1.disk.at'.mono fun y o hy ho => ?_, h1.disk.rel, h1.disk.inv, fun y hy => Mem.minus_in hy⟩
    rw [hMa]
    unfold Mem.minus
    rw [if_neg]
    · exact ho
    · rintro (rfl | h3)
      · exact h1.cl hy
      · exact h1.dj y h3 hy
  have hA : A.le (Ma.minus (diskB p db des)) := by
    rw [hMa]
    exact Mem.le_minus (Mem.le_minus h1.disk.le fun y hy => by
      rcases hy with rfl | hy
      · exact h1.cf
      · exact h1.st.st.fresh y hy) h1.disk.fresh
  refine ((Open_ok hda h1.nm.w (max w.snap 1) seg).frame (hMa ▸ Mem.minus_le _ _)).mono ?_
  rintro v M2 ⟨A2, hO, hle2, hk2⟩
  unfold OpenOut at hO
  have hbad : ¬ (max w.snap 1 < 1 ∨ 99999 < max w.snap 1 ∨ seg < 16 ∨ 1048576 < seg) := by omega
  have hfi : firstC w = max w.snap 1 := rfl
  rcases hO with ⟨h3, -⟩ | ⟨-, hd, rfl, es2, h2⟩ | ⟨-, hd, h3, rfl, es2, h2⟩ | ⟨-, hd, h3, g, es2, a, n, cc, rfl, h2, hrec⟩
  · exact absurd h3 hbad
  · have hR : reopenC D w seg = (D, L0 (firstC w) seg, [], 9) := by unfold reopenC; rw [if_pos hd]
    have hE : replayE X D w seg = 9 := by unfold replayE; rw [hR]; rfl
    repeat' ((conv => whnf); first | refine ⟨?_, True.intro⟩ | refine ⟨?_, ?_, True.intro⟩ | refine brn_t rfl ?_ | refine brn_f rfl ?_ | refine ob rfl ?_ | refine ob (by decide) ?_ | refine grow_same (Mem.le_refl _) ?_ | refine ob (Mem.le_refl _) ?_ | refine ⟨_, Mem.le_refl _, ?_⟩ | fail)
    rw [hE, hR]
    exact ⟨rfl, ⟨es2, (h2.mono hA).to hle2⟩, fun h => by cases h⟩
  · have hR : reopenC D w seg = openR D (L0 (max w.snap 1) seg) := by unfold reopenC; rw [if_neg (by simp [hd]), hfi]
    have hE : replayE X D w seg = (openR D (L0 (max w.snap 1) seg)).2.2.2 := by unfold replayE; rw [hR, if_pos h3]
    repeat' ((conv => whnf); first | refine ⟨?_, True.intro⟩ | refine ⟨?_, ?_, True.intro⟩ | refine brn_t rfl ?_ | refine brn_f rfl ?_ | refine ob rfl ?_ | refine ob (by decide) ?_ | refine grow_same (Mem.le_refl _) ?_ | refine ob (Mem.le_refl _) ?_ | refine ⟨_, Mem.le_refl _, ?_⟩ | fail)
    (conv => whnf); refine brn_t (by rw [decide_eq_false h3]; rfl) ?_
    repeat' ((conv => whnf); first | refine ⟨?_, True.intro⟩ | refine ⟨?_, ?_, True.intro⟩ | refine brn_t rfl ?_ | refine brn_f rfl ?_ | refine ob rfl ?_ | refine ob (by decide) ?_ | refine grow_same (Mem.le_refl _) ?_ | refine ob (Mem.le_refl _) ?_ | refine ⟨_, Mem.le_refl _, ?_⟩ | fail)
    rw [hE, hR]
    exact ⟨rfl, ⟨es2, (h2.mono hA).to hle2⟩, fun h => absurd h h3⟩
  obtain ⟨nm1, nm2, nm3⟩ := openR_nm (first := max w.snap 1) (size := seg) h1.nm (by omega) (by omega)
  have hR : reopenC D w seg = openR D (L0 (max w.snap 1) seg) := by unfold reopenC; rw [if_neg (by simp [hd]), hfi]
  have hE : replayE X D w seg = (replayW X (openR D (L0 (max w.snap 1) seg)).2.2.1).2 := by unfold replayE; rw [hR, if_neg (by simp [h3])]
  rw [hR] at hN ⊢
  rw [hE]
  obtain ⟨o, ho⟩ : ∃ o, o = openR D (L0 (max w.snap 1) seg) := ⟨_, rfl⟩
  rw [← ho] at h2 hrec nm1 nm2 nm3 hN h3 ⊢
  have hkk : ∀ y o, (y = c ∨ hB h y) → M y = Option.some o → M2 y = Option.some o ∧ A2 y = none := fun y o hy hy2 => hk2 y o (by rw [hMa]; exact Mem.minus_in hy) hy2
  have h4 := h1.logged (hMa ▸ h2) hle2 hkk nm2 nm1
  repeat' ((conv => whnf); first | refine ⟨?_, True.intro⟩ | refine ⟨?_, ?_, True.intro⟩ | refine brn_t rfl ?_ | refine brn_f rfl ?_ | refine ob rfl ?_ | refine ob (by decide) ?_ | refine grow_same (Mem.le_refl _) ?_ | refine ob (Mem.le_refl _) ?_ | refine ⟨_, Mem.le_refl _, ?_⟩ | fail)
  have hc2 : M2.has c T.custody_Custody (cuCs h.p p (.pointer none) w) := (hkk c _ (.inl rfl) h1.self).1
  refine on hc2.cells ?_
  (conv => whnf); refine ob (by simp) ?_
  obtain ⟨M3, hM3⟩ : ∃ M3, M3 = M2.setCells c T.custody_Custody (cuCs h.p p (ptr g) w) := ⟨_, rfl⟩
  rw [← hM3] at h4
  (conv => whnf)
  erw [← hM3]
  obtain ⟨Z, hZ⟩ : ∃ Z, Z = M3.minus (cuB c p ⟨h, g, db, es2⟩) := ⟨_, rfl⟩
  have hAZ : A.le Z := by rw [hZ]; exact h4.base.2
  have hzz : (A2.minus (logB g p db es2)).le Z := fun y o2 hy => by
    have hy2 : A2 y = Option.some o2 := Mem.minus_le _ _ y o2 hy
    have hnl : ¬ logB g p db es2 y := fun hb => by rw [Mem.minus_in hb] at hy; cases hy
    have hnc : ¬ (y = c ∨ hB h y) := fun hb => by
      cases e : M y with
      | none =>
        rcases hb with rfl | hb
        · exact absurd e h1.some
        · exact absurd e (h1.st.some hb)
      | some o3 => rw [(hkk y o3 hb e).2] at hy2; cases hy2
    rw [hZ]
    unfold Mem.minus
    rw [if_neg, hM3, setCells_at, if_neg fun e => hnc (.inl e)]
    · exact hle2 y o2 hy2
    · rintro (h5 | h5 | h5)
      · exact hnc (.inl h5)
      · exact hnc (.inr h5)
      · exact hnl h5
  have hel : Elems Z 1 a n (BytesW Z) o.2.2.1 := by
    have h5 : Elems _ 1 a n (BytesW _) o.2.2.1 := NewEls.elems hrec
    exact h5.imp hzz fun cs x _ ⟨pa, pn, pc, e, hw⟩ => ⟨pa, pn, pc, e, hw.le hzz⟩
  have hnl := hel.len
  refine loopF (σ := Nat × Mem × CuH × StW) [36] (fun y => [(36, .int .i64 y.1)]) (fun _ => []) (fun y => y.2.1)
    (fun | ⟨i, Mc, H, Xc⟩ => i ≤ n ∧ H.db = db ∧ CuAt Z Mc c p (N + i) H ⟨Xc, o.1, o.2.1, w⟩ ∧ replayW X o.2.2.1 = replayW Xc (o.2.2.1.drop i)) (fun y => n - y.1) ⟨0, M3, ⟨h, g, db, es2⟩, X⟩ ⟨by omega, rfl, by rw [hZ]; exact h4.base.1.more (by omega), rfl⟩ zS ?_
  rintro ⟨i, Mc, ⟨Hh, Hg, Hdb, Hes⟩, Xc⟩ ⟨hi, rfl, pc, hrw⟩
  (conv => whnf); refine brn (fun e => ?_) (fun e => ?_)
  rotate_left
  · have hge : i = n := by have := of_decide_eq_false e; dsimp only at this; omega
    subst hge
    rw [List.drop_of_length_le (by omega), replayW] at hrw
    repeat' ((conv => whnf); first | refine ⟨?_, True.intro⟩ | refine ⟨?_, ?_, True.intro⟩ | refine brn_t rfl ?_ | refine brn_f rfl ?_ | refine ob rfl ?_ | refine ob (by decide) ?_ | refine grow_same (Mem.le_refl _) ?_ | refine ob (Mem.le_refl _) ?_ | refine ⟨_, Mem.le_refl _, ?_⟩ | fail)
    rw [hrw, hnl]
    exact ⟨rfl, ⟨Hes, pc.disk.mono hAZ⟩, fun _ => ⟨_, pc.mono hAZ⟩⟩
  have hlt : i < n := by have := of_decide_eq_true e; dsimp only at this; omega
  obtain ⟨hl9, bb, oo, cs, ha9, -, hrow, -, xa, xn, xc, rfl, hxw⟩ := (hel.imp (M' := Z) (Mem.le_refl _) fun _ _ _ h => h).at (by decide) hlt
  have hok := nm3 _ (List.getElem_mem hl9)
  rw [List.drop_eq_getElem_cons hl9] at hrw
  generalize o.2.2.1[i] = x at *
  have hxl : x.length = xn := hxw.src.maplen
  obtain ⟨hok1, hok2⟩ := hok
  have hxc : xn ≤ xc := by have h5 := hxw; unfold Wr at h5; exact h5.2.1
  (conv => whnf); refine ob (by first | omega | (dsimp only; omega)) ?_
  (conv => whnf); refine atp ha9 ?_
  (conv => whnf); refine on (Mem.row_le pc.le hrow) ?_
  repeat' ((conv => whnf); first | refine ⟨?_, True.intro⟩ | refine ⟨?_, ?_, True.intro⟩ | refine brn_t rfl ?_ | refine brn_f rfl ?_ | refine ob rfl ?_ | refine ob (by decide) ?_ | refine grow_same (Mem.le_refl _) ?_ | refine ob (Mem.le_refl _) ?_ | refine ⟨_, Mem.le_refl _, ?_⟩ | fail)
  refine (pc.aside (getEv_ok (hxw.src.le pc.base.2) (by omega) hxc)).mono ?_
  rintro v M5 ⟨A5, hG, p5⟩
  obtain ⟨a5, c5, rfl, hle5, hs5⟩ := hG.all
  have hZA : Z.le A5 := Mem.le_trans pc.base.2 hle5
  (conv => whnf); refine brn (fun e => ?_) (fun e => ?_)
  · have e1 : gotErr x ≠ 0 := by simpa using e
    rw [replayW, if_pos e1] at hrw
    repeat' ((conv => whnf); first | refine ⟨?_, True.intro⟩ | refine ⟨?_, ?_, True.intro⟩ | refine brn_t rfl ?_ | refine brn_f rfl ?_ | refine ob rfl ?_ | refine ob (by decide) ?_ | refine grow_same (Mem.le_refl _) ?_ | refine ob (Mem.le_refl _) ?_ | refine ⟨_, Mem.le_refl _, ?_⟩ | fail)
    rw [hrw]
    exact ⟨rfl, ⟨Hes, (p5.mono hZA).disk.mono hAZ⟩, fun h => by cases h⟩
  have e1 : ¬ gotErr x ≠ 0 := by simpa using e
  rw [replayW, if_neg e1] at hrw
  have hpl : (gotEv x).p.length ≤ 1048576 := by
    have h6 := (forth (by simpa using e1)).1
    have h7 : evErr (gotEv x) = formD (gotEv x).kind (gotEv x).id (gotEv x).p.length := rfl
    rcases evErr_kind h6 with hk | hk | hk | hk
    · have := (evErr_one h6 hk).2; rw [this]; decide
    · have := evErr_two h6 hk; omega
    · have := (evErr_rest h6 (.inl hk)).2; rw [this]; decide
    · have := (evErr_rest h6 (.inr hk)).2; rw [this]; decide
  refine zL (p5.self) ?_
  refine (apply_c p5 (by omega) (gotEv x).kind (gotEv x).id hs5 hpl).mono ?_
  rintro v M6 ⟨h6, rfl, -, p6⟩
  obtain ⟨ap, hap⟩ : ∃ ap, ap = applyW Xc (gotEv x).kind (gotEv x).id (gotEv x).p := ⟨_, rfl⟩
  rw [← hap] at p6 hrw ⊢
  repeat' ((conv => whnf); first | refine ⟨?_, True.intro⟩ | refine ⟨?_, ?_, True.intro⟩ | refine brn_t rfl ?_ | refine brn_f rfl ?_ | refine ob rfl ?_ | refine ob (by decide) ?_ | refine grow_same (Mem.le_refl _) ?_ | refine ob (Mem.le_refl _) ?_ | refine ⟨_, Mem.le_refl _, ?_⟩ | fail)
  refine brn (fun e => ?_) (fun e => ?_)
  · have e2 : ap.2 ≠ 0 := by simpa using e
    rw [if_pos e2] at hrw
    repeat' ((conv => whnf); first | refine ⟨?_, True.intro⟩ | refine ⟨?_, ?_, True.intro⟩ | refine brn_t rfl ?_ | refine brn_f rfl ?_ | refine ob rfl ?_ | refine ob (by decide) ?_ | refine grow_same (Mem.le_refl _) ?_ | refine ob (Mem.le_refl _) ?_ | refine ⟨_, Mem.le_refl _, ?_⟩ | fail)
    rw [hrw]
    exact ⟨rfl, ⟨_, (p6.mono hZA).disk.mono hAZ⟩, fun h => by cases h⟩
  have e2 : ¬ ap.2 ≠ 0 := by simpa using e
  rw [if_neg e2] at hrw
  repeat' ((conv => whnf); first | refine ⟨?_, True.intro⟩ | refine ⟨?_, ?_, True.intro⟩ | refine brn_t rfl ?_ | refine brn_f rfl ?_ | refine ob rfl ?_ | refine ob (by decide) ?_ | refine grow_same (Mem.le_refl _) ?_ | refine ob (Mem.le_refl _) ?_ | refine ⟨_, Mem.le_refl _, ?_⟩ | fail)
  refine ob (inR_i64 (by first | omega | (dsimp only; omega))) ?_
  (conv => whnf)
  exact ⟨⟨i + 1, M6, ⟨h6, Hg, Hdb, Hes⟩, ap.1⟩, ⟨by omega, rfl, (p6.mono hZA).more (N' := N + ((i + 1 : Nat) : Int)) (by omega), hrw⟩, by dsimp only; omega, zS⟩
def bootC (C : CuR) : CuR × Int := if (putC C 1 zeroI [] true).2 = 10 then ({ (putC C 1 zeroI [] true).1 with w := { (putC C 1 zeroI [] true).1.w with spent := true } }, 0) else putC C 1 zeroI [] true
theorem boot_c (h : CuAt A M c p N H C) (hN : N ≤ 4611686018427387904) : CallsM Tryz.prog F.custody_Custody_boot [ptr c] M fun v M' => ∃ H', v = .int .i64 (bootC C).2 ∧ CuAt A M' c p (N + 1) H' (bootC C).1 := by
  refine fo_custody_Custody_boot (by simp) ?_
  repeat' ((conv => whnf); first | refine ⟨?_, True.intro⟩ | refine ⟨?_, ?_, True.intro⟩ | refine brn_t rfl ?_ | refine brn_f rfl ?_ | refine ob rfl ?_ | refine ob (by decide) ?_ | refine grow_same (Mem.le_refl _) ?_ | refine ob (Mem.le_refl _) ?_ | refine ⟨_, Mem.le_refl _, ?_⟩ | fail)
  refine (put_c (l := []) (a := none) (cc := 0) h hN 1 zeroI (SrcOk.nil _ _) (by decide) true).mono ?_
  rintro v M1 ⟨H1, rfl, h1⟩
  obtain ⟨r, hr⟩ : ∃ r, r = putC C 1 zeroI [] true := ⟨_, rfl⟩
  have hB : bootC C = if r.2 = 10 then ({ r.1 with w := { r.1.w with spent := true } }, 0) else r := by rw [hr]; rfl
  rw [← hr] at h1 ⊢
  repeat' ((conv => whnf); first | refine ⟨?_, True.intro⟩ | refine ⟨?_, ?_, True.intro⟩ | refine brn_t rfl ?_ | refine brn_f rfl ?_ | refine ob rfl ?_ | refine ob (by decide) ?_ | refine grow_same (Mem.le_refl _) ?_ | refine ob (Mem.le_refl _) ?_ | refine ⟨_, Mem.le_refl _, ?_⟩ | fail)
  refine brn (fun e => ?_) (fun e => ?_)
  · have e1 : r.2 = 10 := of_decide_eq_true e
    repeat' ((conv => whnf); first | refine ⟨?_, True.intro⟩ | refine ⟨?_, ?_, True.intro⟩ | refine brn_t rfl ?_ | refine brn_f rfl ?_ | refine ob rfl ?_ | refine ob (by decide) ?_ | refine grow_same (Mem.le_refl _) ?_ | refine ob (Mem.le_refl _) ?_ | refine ⟨_, Mem.le_refl _, ?_⟩ | fail)
    refine on h1.self.cells ?_
    (conv => whnf); refine ob (by simp) ?_
    repeat' ((conv => whnf); first | refine ⟨?_, True.intro⟩ | refine ⟨?_, ?_, True.intro⟩ | refine brn_t rfl ?_ | refine brn_f rfl ?_ | refine ob rfl ?_ | refine ob (by decide) ?_ | refine grow_same (Mem.le_refl _) ?_ | refine ob (Mem.le_refl _) ?_ | refine ⟨_, Mem.le_refl _, ?_⟩ | fail)
    rw [hB, if_pos e1]
    exact ⟨H1, rfl, h1.turnC { r.1.w with spent := true }⟩
  · have e1 : ¬ r.2 = 10 := of_decide_eq_false e
    repeat' ((conv => whnf); first | refine ⟨?_, True.intro⟩ | refine ⟨?_, ?_, True.intro⟩ | refine brn_t rfl ?_ | refine brn_f rfl ?_ | refine ob rfl ?_ | refine ob (by decide) ?_ | refine grow_same (Mem.le_refl _) ?_ | refine ob (Mem.le_refl _) ?_ | refine ⟨_, Mem.le_refl _, ?_⟩ | fail)
    rw [hB, if_neg e1]
    exact ⟨H1, rfl, h1⟩
end
section
variable {A M M' : Mem} {c p db : Nat} {N : Int} {h : Hd} {des : FsT} {X : StW} {D : DiskR} {w : CuW} {H : CuH} {C : CuR}
theorem scan_few (l : List UInt8) : (scanR l).length ≤ l.length := by
  obtain ⟨-, h2, h3⟩ := scanR_inv l.length l (Nat.le_refl _)
  have key : ∀ ps : List (List UInt8), ps.length ≤ lenR ps := fun ps => by
    induction ps with
    | nil => simp [lenR]
    | cons q r ih => simp only [lenR, List.map_cons, List.sum_cons, List.length_cons] at ih ⊢; omega
  exact Nat.le_trans (key _) h3
theorem read_size (h : InvD D) (s : ByteArray) : (bl (readR D s).1).length ≤ 1048576 := by
  unfold readR
  split
  · show (0 : Nat) ≤ _; decide
  · rename_i g
    have h1 := (thereE_zero (by simpa using g)).2
    have := (without_some h.sort h1).2
    have hu := h.used
    rw [bl_len, all_size]; omega
theorem openLoop_few : ∀ {f : Nat} {D : DiskR} {next last : Int} {all : List (List UInt8)}, InvD D → (openLoop f D next last all).2.2.2.1.length ≤ all.length + f * 1048576
  | 0, _, _, _, _, _ => by rw [openLoop]; dsimp only; omega
  | f + 1, D, next, last, all, h => by
    rw [openLoop]
    have h1 := scan_few (bl (readR D (nameB next)).1)
    have h2 := read_size h (nameB next)
    have h4 : (f + 1) * 1048576 = f * 1048576 + 1048576 := by omega
    split
    · dsimp only; omega
    split
    · simp
    split
    · split
      · simp
      · dsimp only; rw [List.length_append]; omega
    · have h3 := openLoop_few (f := f) (next := next + 1) (last := next) (all := all ++ scanR (bl (readR D (nameB next)).1)) h
      rw [List.length_append] at h3
      omega
theorem removeAll_inv : ∀ {ks : List Int} {D : DiskR}, InvD D → InvD (removeAll D ks).1
  | [], _, h => h
  | k :: r, D, h => by
    rw [removeAll]
    split
    · exact removeR_inv h _
    · exact removeAll_inv (removeR_inv h _)
theorem reopen_few (h : InvD D) (w : CuW) (seg : Int) : (reopenC D w seg).2.2.1.length ≤ 104857600000 := by
  unfold reopenC
  split
  · simp
  unfold openR
  dsimp only
  have h1 := openLoop_few (f := (100000 - (L0 (firstC w) seg).first).toNat) (next := (L0 (firstC w) seg).first) (last := (L0 (firstC w) seg).last) (all := []) (removeAll_inv (ks := segsR D fun k => decide (k < (L0 (firstC w) seg).first)) h)
  have h2 : (L0 (firstC w) seg).first = firstC w := rfl
  have h3 : 1 ≤ firstC w := by unfold firstC; omega
  have h4 : (100000 - (L0 (firstC w) seg).first).toNat ≤ 99999 := by rw [h2]; omega
  have h5 := Nat.mul_le_mul_right 1048576 h4
  simp only [List.length_nil, Nat.zero_add] at h1
  split
  · simp
  split
  · simp
  · dsimp only; omega
def Ld (D : DiskR) (me qh qb qg : Int) : Option (Int × StW) → Prop
  | none => snapsR D = []
  | some (k, X) => ¬ (k < 1 ∨ 99999 < k) ∧ (∃ ks, snapsR D = ks ++ [k]) ∧ SnapIs D me qh qb qg k X
def ldD (D : DiskR) : Option (Int × StW) → DiskR × Int
  | none => (D, 0)
  | some (k, _) => loadD D k
def ldW : Option (Int × StW) → CuW
  | none => ⟨0, false, false⟩
  | some (k, _) => ⟨k, false, false⟩
def ldX (me qh qb qg : Int) : Option (Int × StW) → StW
  | none => ⟨newD me qh qb qg, []⟩
  | some (_, X) => X
def emptyC (D : DiskR) : CuR := ⟨⟨newD 0 0 0 0, []⟩, D, L0 0 0, ⟨0, false, false⟩⟩
def openL (D : DiskR) (me qh qb qg seg : Int) (ld : Option (Int × StW)) : CuR × Int :=
  if (ldD D ld).2 ≠ 0 then (emptyC (ldD D ld).1, (ldD D ld).2)
  else if replayE (ldX me qh qb qg ld) (ldD D ld).1 (ldW ld) seg ≠ 0 then (emptyC (reopenC (ldD D ld).1 (ldW ld) seg).1, replayE (ldX me qh qb qg ld) (ldD D ld).1 (ldW ld) seg)
  else bootC ⟨(replayW (ldX me qh qb qg ld) (reopenC (ldD D ld).1 (ldW ld) seg).2.2.1).1, (reopenC (ldD D ld).1 (ldW ld) seg).1, (reopenC (ldD D ld).1 (ldW ld) seg).2.1, ldW ld⟩
instance (me qh qb qg : Int) : Decidable (badD me qh qb qg) := by unfold badD; infer_instance
def openC (D : DiskR) (me qh qb qg seg : Int) (ld : Option (Int × StW)) : CuR × Int :=
  if badD me qh qb qg then (emptyC D, 1) else if seg < 16 ∨ 1048576 < seg then (emptyC D, 1) else if D.down = true then (emptyC D, 9)
  else if (sweepR D).2 ≠ 0 then (emptyC (sweepR D).1, (sweepR D).2)
  else openL (sweepR D).1 me qh qb qg seg ld
def OpenAt (A M' : Mem) (p : Nat) (r : CuR × Int) (v : Value) : Prop :=
  (r.2 ≠ 0 ∧ v = .tuple #[.pointer none, .int .i64 r.2] ∧ NamesC r.1.D ∧ ∃ db' des', FreshD A M' p db' r.1.D des') ∨
  (r.2 = 0 ∧ ∃ c H, v = .tuple #[ptr c, .int .i64 0] ∧ CuAt A M' c p 104857600300 H r.1)
theorem sweep_pre (h1 : CuPre A M c p db N h des X D w) : CallsM Tryz.prog F.custody_Custody_sweep [ptr c] M fun v M' => ∃ es', v = .int .i64 (sweepR D).2 ∧ CuPre A M' c p db N h es' X (sweepR D).1 w := by
  refine fo_custody_Custody_sweep (by simp) ?_
  refine zR ?_
  refine (has_ok h1.self rfl h1.disk ⟨#[116]⟩).mono ?_
  rintro v M1 ⟨rfl, hle1⟩
  have p1 := h1.to hle1
  unfold sweepR
  cases ha : D.l.any fun f => decide (f.name = ⟨#[116]⟩)
  · refine zR ?_
    rw [if_neg (by decide)]
    exact ⟨des, rfl, p1⟩
  · refine zL (p1.self) ?_
    refine (remove_pre p1 (by show (1 : Nat) ≤ _; decide)).mono ?_
    rintro v M2 ⟨es2, rfl, p2, -⟩
    refine zR ?_
    rw [if_pos rfl]
    exact ⟨es2, rfl, p2⟩
theorem CuPre.new (hs : FreshW A M h X) (hd : FreshD A M p db D des) (hnm : NamesC D) (hj : ∀ y, hB h y → ¬ diskB p db des y) (hc : M c = none) (hcm : h.came ≤ N) (w : CuW) : CuPre A (M.setCells c T.custody_Custody (cuCs h.p p (.pointer none) w)) c p db N h des X D w := by
  have hle : M.le (M.setCells c T.custody_Custody (cuCs h.p p (.pointer none) w)) := Mem.le_setCells hc
  refine ⟨hs.to hle, hd.to hle, Mem.has_setCells, ?_, hj, fun hb => hs.some hb hc, fun hb => hd.at'.full hb hc, hnm, hcm⟩
  cases e : A c with
  | none => rfl
  | some o => rw [hd.le _ _ e] at hc; cases hc
set_option maxHeartbeats 1000000 in
theorem open_c (hd : FreshD A M p db D des) (hnm : NamesC D) {me qh qb qg seg : Int} {ld : Option (Int × StW)} (hld : D.down = false → (sweepR D).2 = 0 → Ld (sweepR D).1 me qh qb qg ld) :
    CallsM Tryz.prog F.custody_Open [ptr p, .int .i64 me, .agg #[.int .i64 qh, .int .i64 qb, .int .i64 qg], .int .i64 seg] M fun v M' => OpenAt A M' p (openC D me qh qb qg seg ld) v := by
  refine fo_custody_Open (by simp) ?_
  refine zR ?_
  refine (new_w me qh qb qg).mono ?_
  rintro v M1 (⟨hb, rfl, rfl⟩ | ⟨hb, h, rfl, h1, hc0⟩)
  · refine zR ?_
    have e : openC D me qh qb qg seg ld = (emptyC D, 1) := by unfold openC; rw [if_pos hb]
    rw [e]
    exact .inl ⟨(by dsimp only; decide), rfl, hnm, db, des, hd⟩
  have d1 := hd.to h1.st.le
  refine zR ?_
  refine brn (fun e => ?_) (fun e => ?_)
  · have e1 := of_decide_eq_true e
    have e : openC D me qh qb qg seg ld = (emptyC D, 1) := by unfold openC; rw [if_neg hb, if_pos (by omega)]
    refine zR ?_
    rw [e]
    exact .inl ⟨(by dsimp only; decide), rfl, hnm, db, des, d1⟩
  have e1 := of_decide_eq_false e
  refine zR ?_
  refine brn (fun e => ?_) (fun e => ?_)
  · have e1 := of_decide_eq_true e
    have e : openC D me qh qb qg seg ld = (emptyC D, 1) := by unfold openC; rw [if_neg hb, if_pos (by omega)]
    refine zR ?_
    rw [e]
    exact .inl ⟨(by dsimp only; decide), rfl, hnm, db, des, d1⟩
  have e2 := of_decide_eq_false e
  refine zR ?_
  refine (down_okL d1).mono ?_
  rintro v _ ⟨rfl, rfl⟩
  cases hdn : D.down
  case true =>
    have e : openC D me qh qb qg seg ld = (emptyC D, 9) := by unfold openC; rw [if_neg hb, if_neg (by omega), if_pos hdn]
    refine zR ?_
    rw [e]
    exact .inl ⟨(by dsimp only; decide), rfl, hnm, db, des, d1⟩
  refine zR ?_
  refine new (fun c hc => ?_)
  replace hc : M1 c = none := hc
  have hdj : ∀ y, hB h y → ¬ diskB p db des y := fun y hy hb => hd.at'.full hb (h1.st.fresh y hy)
  have p2 := CuPre.new (c := c) (h1.mono hd.le) d1 hnm hdj hc (by rw [hc0]; exact Int.le_refl 0) ⟨0, false, false⟩
  obtain ⟨M2, hM2⟩ : ∃ M2, M2 = M1.setCells c T.custody_Custody (cuCs h.p p (.pointer none) ⟨0, false, false⟩) := ⟨_, rfl⟩
  rw [← hM2] at p2
  (conv => whnf)
  erw [← hM2]
  have hO : openC D me qh qb qg seg ld = if (sweepR D).2 ≠ 0 then (emptyC (sweepR D).1, (sweepR D).2) else openL (sweepR D).1 me qh qb qg seg ld := by
    unfold openC; rw [if_neg hb, if_neg (by omega), if_neg (by simp [hdn])]
  refine (sweep_pre p2).mono ?_
  rintro v M3 ⟨es3, rfl, p3⟩
  obtain ⟨s, hs⟩ : ∃ s, s = sweepR D := ⟨_, rfl⟩
  rw [← hs] at p3 hO hld ⊢
  (conv => whnf); refine brn (fun e => ?_) (fun e => ?_)
  · have e3 : s.2 ≠ 0 := by simpa using e
    rw [if_pos e3] at hO
    refine zR ?_
    rw [hO]
    exact .inl ⟨e3, rfl, p3.nm, db, es3, p3.disk⟩
  have e3 : ¬ s.2 ≠ 0 := by simpa using e
  rw [if_neg e3] at hO
  have hL := hld hdn (by simpa using e3)
  rw [hO]
  cases ld with
  | none =>
    refine zR ?_
    refine (load_none p3 hL me _ ⟨qh, qb, qg, rfl⟩).mono ?_
    rintro v M4 ⟨rfl, hle4⟩
    have p4 := (p3.to hle4)
    obtain ⟨ld1, hld1⟩ : ∃ ld1 : Option (Int × StW), ld1 = none := ⟨_, rfl⟩
    have e4 : ¬ (ldD s.1 ld1).2 ≠ 0 := by rw [hld1]; simp [ldD]
    have hsn : (ldW ld1).snap ≤ 99999 := by rw [hld1]; simp [ldW]
    rw [← hld1]
    replace p4 : CuPre A M4 c p db 256 h es3 (ldX me qh qb qg ld1) (ldD s.1 ld1).1 (ldW ld1) := by
      rw [hld1]; exact ⟨p4.st, p4.disk, p4.self, p4.cf, p4.dj, p4.cs, p4.cl, p4.nm, by have := p4.cm; omega⟩
    unfold openL
    rw [if_neg e4]
    refine zR ?_
    refine (replay_c p4 (by omega) hsn (by decide) (by have := reopen_few p4.disk.inv (ldW ld1) seg; omega)).mono ?_
    rintro v M5 ⟨rfl, ⟨es5, d5⟩, hK⟩
    have hn5 : NamesC (reopenC (ldD s.1 ld1).1 (ldW ld1) seg).1 := by
      unfold reopenC
      split
      · exact p4.nm
      · exact (openR_nm p4.nm (by unfold firstC; omega) (by omega)).1
    obtain ⟨rp, hrp⟩ : ∃ rp, rp = replayE (ldX me qh qb qg ld1) (ldD s.1 ld1).1 (ldW ld1) seg := ⟨_, rfl⟩
    rw [← hrp] at hK ⊢
    refine ?_
    (conv => whnf); refine brn (fun e => ?_) (fun e => ?_)
    · have e5 : rp ≠ 0 := by simpa using e
      refine zR ?_
      rw [if_pos e5]
      exact .inl ⟨e5, rfl, hn5, db, es5, d5⟩
    have e5 : ¬ rp ≠ 0 := by simpa using e
    rw [if_neg e5]
    obtain ⟨H5, p5⟩ := hK (by simpa using e5)
    have hfew := reopen_few p4.disk.inv (ldW ld1) seg
    have p5' := p5.more (N' := 104857600256) (by omega)
    refine zR ?_
    refine (boot_c p5' (by decide)).mono ?_
    rintro v M6 ⟨H6, rfl, p6⟩
    obtain ⟨b, hb6⟩ : ∃ b, b = bootC ⟨(replayW (ldX me qh qb qg ld1) (reopenC (ldD s.1 ld1).1 (ldW ld1) seg).2.2.1).1, (reopenC (ldD s.1 ld1).1 (ldW ld1) seg).1, (reopenC (ldD s.1 ld1).1 (ldW ld1) seg).2.1, ldW ld1⟩ := ⟨_, rfl⟩
    rw [← hb6] at p6 ⊢
    (conv => whnf); refine brn (fun e => ?_) (fun e => ?_)
    · have e6 : b.2 ≠ 0 := by simpa using e
      refine zR ?_
      exact .inl ⟨e6, rfl, p6.nm, _, _, p6.disk⟩
    · have e6 : ¬ b.2 ≠ 0 := by simpa using e
      refine zR ?_
      exact .inr ⟨by simpa using e6, c, H6, rfl, p6.more (by omega)⟩
  | some kX =>
    obtain ⟨k, X2⟩ := kX
    obtain ⟨hk, ⟨ks, hks⟩, hX⟩ := hL
    refine zR ?_
    refine (load_some p3 hks hk hX).mono ?_
    rintro v M4 ⟨rfl, ⟨es4, d4⟩, hK4⟩
    obtain ⟨ld1, hld1⟩ : ∃ ld1 : Option (Int × StW), ld1 = some (k, X2) := ⟨_, rfl⟩
    have hlD : loadD s.1 k = ldD s.1 ld1 := by rw [hld1]; rfl
    rw [← hld1]
    have hn4 : NamesC (ldD s.1 ld1).1 := by
      rw [← hlD]; unfold loadD
      split
      · exact p3.nm
      · exact p3.nm.rmSn
    rw [hlD] at hK4 d4 ⊢
    refine ?_
    (conv => whnf); refine brn (fun e => ?_) (fun e => ?_)
    · have e4 : (ldD s.1 ld1).2 ≠ 0 := by simpa using e
      refine zR ?_
      unfold openL
      rw [if_pos e4]
      exact .inl ⟨e4, rfl, hn4, db, es4, d4⟩
    have e4 : ¬ (ldD s.1 ld1).2 ≠ 0 := by simpa using e
    obtain ⟨h4, es4', p4⟩ := hK4 (by simpa using e4)
    have hsn : (ldW ld1).snap ≤ 99999 := by rw [hld1]; show k ≤ 99999; omega
    replace p4 : CuPre A M4 c p db 256 h4 es4' (ldX me qh qb qg ld1) (ldD s.1 ld1).1 (ldW ld1) := by
      rw [hld1] at p4 ⊢; exact p4
    unfold openL
    rw [if_neg e4]
    refine zR ?_
    refine (replay_c p4 (by omega) hsn (by decide) (by have := reopen_few p4.disk.inv (ldW ld1) seg; omega)).mono ?_
    rintro v M5 ⟨rfl, ⟨es5, d5⟩, hK⟩
    have hn5 : NamesC (reopenC (ldD s.1 ld1).1 (ldW ld1) seg).1 := by
      unfold reopenC
      split
      · exact p4.nm
      · exact (openR_nm p4.nm (by unfold firstC; omega) (by omega)).1
    obtain ⟨rp, hrp⟩ : ∃ rp, rp = replayE (ldX me qh qb qg ld1) (ldD s.1 ld1).1 (ldW ld1) seg := ⟨_, rfl⟩
    rw [← hrp] at hK ⊢
    refine ?_
    (conv => whnf); refine brn (fun e => ?_) (fun e => ?_)
    · have e5 : rp ≠ 0 := by simpa using e
      refine zR ?_
      rw [if_pos e5]
      exact .inl ⟨e5, rfl, hn5, db, es5, d5⟩
    have e5 : ¬ rp ≠ 0 := by simpa using e
    rw [if_neg e5]
    obtain ⟨H5, p5⟩ := hK (by simpa using e5)
    have hfew := reopen_few p4.disk.inv (ldW ld1) seg
    have p5' := p5.more (N' := 104857600256) (by omega)
    refine zR ?_
    refine (boot_c p5' (by decide)).mono ?_
    rintro v M6 ⟨H6, rfl, p6⟩
    obtain ⟨b, hb6⟩ : ∃ b, b = bootC ⟨(replayW (ldX me qh qb qg ld1) (reopenC (ldD s.1 ld1).1 (ldW ld1) seg).2.2.1).1, (reopenC (ldD s.1 ld1).1 (ldW ld1) seg).1, (reopenC (ldD s.1 ld1).1 (ldW ld1) seg).2.1, ldW ld1⟩ := ⟨_, rfl⟩
    rw [← hb6] at p6 ⊢
    (conv => whnf); refine brn (fun e => ?_) (fun e => ?_)
    · have e6 : b.2 ≠ 0 := by simpa using e
      refine zR ?_
      exact .inl ⟨e6, rfl, p6.nm, _, _, p6.disk⟩
    · have e6 : ¬ b.2 ≠ 0 := by simpa using e
      refine zR ?_
      exact .inr ⟨by simpa using e6, c, H6, rfl, p6.more (by omega)⟩
end
section
variable {A M M' : Mem}
def aw1 : CuR := (openC ⟨1000, [], -1, false⟩ 1 50 1000 50 40 none).1
def aw2 : CuR × IdT × Int := submitC aw1 2 [97]
def aw3 : DiskR := crashR aw2.1.D []
def aw4 : CuR := (openC aw3 1 50 1000 50 40 none).1
theorem awk1 : (openC ⟨1000, [], -1, false⟩ 1 50 1000 50 40 none).2 = 0 := by kernel_rfl
theorem awk2 : aw2.2 = (⟨1, 2, 1, 1⟩, 0) := by kernel_rfl
theorem awk3 : (openC aw3 1 50 1000 50 40 none).2 = 0 := by kernel_rfl
theorem awk4 : aw4.X.S.l = [⟨⟨1, 2, 1, 1⟩, [97]⟩] := by kernel_rfl
theorem awk5 : aw4.X.S.epoch = 2 := by kernel_rfl
theorem awk6 : snapsR (sweepR ⟨1000, [], -1, false⟩).1 = [] := by kernel_rfl
theorem awk7 : snapsR (sweepR aw3).1 = [] := by kernel_rfl
theorem awk8 : aw4.X.sn.length = 0 := by kernel_rfl
theorem room_ok : CallsM Tryz.prog F.law17_room [] M fun v M' => v = .agg #[.int .i64 1, .int .i64 50, .int .i64 1000, .int .i64 50, .int .i64 40, .int .i64 10000] ∧ M = M' := by
  refine fo_law17_room (by simp) ?_
  repeat' ((conv => whnf); first | refine ⟨?_, True.intro⟩ | refine ⟨?_, ?_, True.intro⟩ | refine brn_t rfl ?_ | refine brn_f rfl ?_ | refine ob rfl ?_ | refine ob (by decide) ?_ | refine grow_same (Mem.le_refl _) ?_ | refine ob (Mem.le_refl _) ?_ | refine ⟨_, Mem.le_refl _, ?_⟩ | fail)
  exact ⟨rfl, rfl⟩
theorem awake_ok : CallsM Tryz.prog F.law17_awake [] M fun v M' => v = .bool true ∧ M.le M' := by
  refine fo_law17_awake (by simp) ?_
  (conv => whnf); refine (newF 1000).mono ?_
  rintro v M1 (⟨h, -⟩ | ⟨-, p, b, rfl, h1⟩)
  · omega
  repeat' ((conv => whnf); first | refine ⟨?_, True.intro⟩ | refine ⟨?_, ?_, True.intro⟩ | refine brn_t rfl ?_ | refine brn_f rfl ?_ | refine ob rfl ?_ | refine ob (by decide) ?_ | refine grow_same (Mem.le_refl _) ?_ | refine ob (Mem.le_refl _) ?_ | refine ⟨_, Mem.le_refl _, ?_⟩ | fail)
  refine room_ok.mono ?_
  rintro v _ ⟨rfl, rfl⟩
  repeat' ((conv => whnf); first | refine ⟨?_, True.intro⟩ | refine ⟨?_, ?_, True.intro⟩ | refine brn_t rfl ?_ | refine brn_f rfl ?_ | refine ob rfl ?_ | refine ob (by decide) ?_ | refine grow_same (Mem.le_refl _) ?_ | refine ob (Mem.le_refl _) ?_ | refine ⟨_, Mem.le_refl _, ?_⟩ | fail)
  refine (open_c (ld := none) h1 (fun f hf => by cases hf) (me := 1) (qh := 50) (qb := 1000) (qg := 50) (seg := 40) (fun _ _ => awk6)).mono ?_
  rintro v M2 (⟨h, -⟩ | ⟨-, c, H, rfl, h2⟩)
  · exact absurd awk1 h
  replace h2 : CuAt M M2 c p 104857600300 H aw1 := h2
  repeat' ((conv => whnf); first | refine ⟨?_, True.intro⟩ | refine ⟨?_, ?_, True.intro⟩ | refine brn_t rfl ?_ | refine brn_f rfl ?_ | refine ob rfl ?_ | refine ob (by decide) ?_ | refine grow_same (Mem.le_refl _) ?_ | refine ob (Mem.le_refl _) ?_ | refine ⟨_, Mem.le_refl _, ?_⟩ | fail)
  refine new (fun b1 hb1 => ?_)
  replace hb1 : M2 b1 = none := hb1
  (conv => whnf); refine on Mem.textAt_setCells ?_
  (conv => whnf)
  obtain ⟨hle3, hs3⟩ := lit1 hb1 97
  obtain ⟨M3, hM3⟩ : ∃ M3, M3 = (M2.setCells b1 T.uint8 [byteV 97]).upd b1 (.cells [byteV 97].toArray T.uint8 (1, 2)) := ⟨_, rfl⟩
  rw [← hM3] at hle3 hs3
  erw [← hM3]
  have h3 := (h2.to hle3).base
  have hs3' : SrcOk (M3.minus (cuB c p H)) 1 (some ⟨b1, 0, none⟩) ([97] : List UInt8).length (([97] : List UInt8).map byteV) := hs3.minus fun q hq hb => by
    cases hq
    exact h2.some hb hb1
  refine (submit_c h3.1 (by decide) 2 hs3' (by decide)).mono ?_
  have e2 : submitC aw1 2 [97] = (aw2.1, ⟨1, 2, 1, 1⟩, 0) := by
    have : submitC aw1 2 [97] = aw2 := rfl
    rw [this, ← awk2]
  rw [e2]
  rintro v M4 ⟨H4, rfl, h4⟩
  replace h4 := h4.mono h3.2
  repeat' ((conv => whnf); first | refine ⟨?_, True.intro⟩ | refine ⟨?_, ?_, True.intro⟩ | refine brn_t rfl ?_ | refine brn_f rfl ?_ | refine ob rfl ?_ | refine ob (by decide) ?_ | refine grow_same (Mem.le_refl _) ?_ | refine ob (Mem.le_refl _) ?_ | refine ⟨_, Mem.le_refl _, ?_⟩ | fail)
  refine (crashFr h4.disk (keep := []) (SrcOk.nil _ _) (by decide)).mono ?_
  rintro v M5 ⟨es5, rfl, h5⟩
  replace h5 : FreshD M M5 p H4.db aw3 es5 := h5
  have hn5 : NamesC aw3 := fun f hf => by
    have hn := crashR_names (D := aw2.1.D) []
    have h6 : f.name ∈ aw2.1.D.l.map (·.name) := by rw [← hn]; exact List.mem_map.2 ⟨f, hf, rfl⟩
    obtain ⟨f', hf', e⟩ := List.mem_map.1 h6
    rw [← e]; exact h4.nm f' hf'
  repeat' ((conv => whnf); first | refine ⟨?_, True.intro⟩ | refine ⟨?_, ?_, True.intro⟩ | refine brn_t rfl ?_ | refine brn_f rfl ?_ | refine ob rfl ?_ | refine ob (by decide) ?_ | refine grow_same (Mem.le_refl _) ?_ | refine ob (Mem.le_refl _) ?_ | refine ⟨_, Mem.le_refl _, ?_⟩ | fail)
  refine (open_c (ld := none) h5 hn5 (me := 1) (qh := 50) (qb := 1000) (qg := 50) (seg := 40) (fun _ _ => awk7)).mono ?_
  rintro v M6 (⟨h, -⟩ | ⟨-, c6, H6, rfl, h6⟩)
  · exact absurd awk3 h
  replace h6 : CuAt M M6 c6 p 104857600300 H6 aw4 := h6
  repeat' ((conv => whnf); first | refine ⟨?_, True.intro⟩ | refine ⟨?_, ?_, True.intro⟩ | refine brn_t rfl ?_ | refine brn_f rfl ?_ | refine ob rfl ?_ | refine ob (by decide) ?_ | refine grow_same (Mem.le_refl _) ?_ | refine ob (Mem.le_refl _) ?_ | refine ⟨_, Mem.le_refl _, ?_⟩ | fail)
  refine (find_c h6 ⟨1, 2, 1, 1⟩).mono ?_
  rw [awk4]
  rintro v M7 (⟨-, h, -⟩ | ⟨a7, n7, c7, l7, rfl, -, hl, hN7⟩)
  · cases h
  obtain rfl : l7 = [97] := by simpa using hl
  have h7 := h6.to hN7.le
  repeat' ((conv => whnf); first | refine ⟨?_, True.intro⟩ | refine ⟨?_, ?_, True.intro⟩ | refine brn_t rfl ?_ | refine brn_f rfl ?_ | refine ob rfl ?_ | refine ob (by decide) ?_ | refine grow_same (Mem.le_refl _) ?_ | refine ob (Mem.le_refl _) ?_ | refine ⟨_, Mem.le_refl _, ?_⟩ | fail)
  refine strv hN7.src ?_
  repeat' ((conv => whnf); first | refine ⟨?_, True.intro⟩ | refine ⟨?_, ?_, True.intro⟩ | refine brn_t rfl ?_ | refine brn_f rfl ?_ | refine ob rfl ?_ | refine ob (by decide) ?_ | refine grow_same (Mem.le_refl _) ?_ | refine ob (Mem.le_refl _) ?_ | refine ⟨_, Mem.le_refl _, ?_⟩ | fail)
  refine (state_c h7 (by decide) (by rw [awk8]; decide)).mono ?_
  rintro v M8 ⟨hle8, hS⟩
  obtain ⟨ua, uc, ha, hc, ms, ma, mc, mk, rfl, -⟩ := hS.ex
  repeat' ((conv => whnf); first | refine ⟨?_, True.intro⟩ | refine ⟨?_, ?_, True.intro⟩ | refine brn_t rfl ?_ | refine brn_f rfl ?_ | refine ob rfl ?_ | refine ob (by decide) ?_ | refine grow_same (Mem.le_refl _) ?_ | refine ob (Mem.le_refl _) ?_ | refine ⟨_, Mem.le_refl _, ?_⟩ | fail)
  refine ⟨?_, Mem.le_trans h7.le hle8⟩
  rw [awk5]; rfl
end
end Go.Proofs.YtpdkkbpkplhdpaaGreat
