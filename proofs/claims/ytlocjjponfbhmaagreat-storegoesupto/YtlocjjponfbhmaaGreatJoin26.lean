/- The store: calls beside it; awake; quota; events, cut. -/
import Derived.Test.YtlocjjponfbhmaaGreatJoin23
import Derived.Test.YtlocjjponfbhmaaGreatJoin25
import Derived.Test.YtlocjjponfbhmaaGreatBridge
namespace Go.Proofs.YtlocjjponfbhmaaGreat
open Go Go.Vm
attribute [local irreducible] Brn Ob Grow CallsM inR LoopVC Mem.row Mem.cells Mem.setCells Mem.upd Own AppVC SrcVC StrVC NextVC New SrcOk subA NewSl Mem.textAt Mem.mapAt Mem.iterAt entryOf kfind Wr NewEls Elems
set_option maxRecDepth 10000
variable {M M0 : Mem} {p b sp sb : Nat} {S : StR} {came : Int} {xs : HsT} {es : EsT}
theorem StAt.some (h : StAt M p b sp sb S came xs es) (hE : InvE es) (hg : (gapsE es : Int) ≤ S.qg ∧ S.qg ≤ 256) {y : Nat} (hy : stB p b sp sb xs es y) : M y ≠ none := by
  rcases hy with rfl | rfl | ⟨q, hq, hy⟩ | hy
  · have := h.self; unfold Mem.has at this; rw [this]; simp
  · obtain ⟨l, c, hh, _⟩ := h.map; rw [hh]; simp
  · obtain ⟨cs, hc⟩ := h.dhas hq hy
    unfold Mem.has at hc; rw [hc]; simp
  · have hF : FreshS (M.minus (setB sp sb es)) M sp sb S.qg es := ⟨Mem.minus_le _ _, h.set, hE, hg, fun _ hy => Mem.minus_in hy⟩
    exact hF.some hy
theorem FreshSt.some (h : FreshSt M0 M p b sp sb S came xs es) {y : Nat} (hy : stB p b sp sb xs es y) : M y ≠ none := h.at'.some h.invE h.room hy
theorem FreshSt.base (h : FreshSt M0 M p b sp sb S came xs es) : FreshSt (M.minus (stB p b sp sb xs es)) M p b sp sb S came xs es ∧ M0.le (M.minus (stB p b sp sb xs es)) :=
  ⟨⟨Mem.minus_le _ _, h.at', h.inv, h.invE, h.room, fun _ hy => Mem.minus_in hy⟩, Mem.le_minus h.le h.fresh⟩
/-- a call that does not touch the store -/
theorem FreshSt.aside (h : FreshSt M0 M p b sp sb S came xs es) {f : Nat} {args : List Value} {R : Value → Mem → Prop} (hc : CallsM Tryz.prog f args (M.minus (stB p b sp sb xs es)) R) :
    CallsM Tryz.prog f args M fun v M' => ∃ A, R v A ∧ FreshSt A M' p b sp sb S came xs es :=
  (hc.frame (Mem.minus_le _ _)).mono fun v M' ⟨A, hR, hle, hk⟩ => by
    have hkk : ∀ y o, stB p b sp sb xs es y → M y = Option.some o → M' y = Option.some o ∧ A y = none := fun y o hy ho => hk y o (Mem.minus_in hy) ho
    refine ⟨A, hR, hle, h.at'.mono fun y o hy ho => (hkk y o hy ho).1, h.inv, h.invE, h.room, fun y hy => ?_⟩
    cases e : M y with
    | none => exact absurd e (h.some hy)
    | some o => exact (hkk y o hy e).2
theorem quota_ok : CallsM Tryz.prog F.law15_quota [] M fun v M' => v = .agg #[.int .i64 256, .int .i64 1048576, .int .i64 256] ∧ M = M' := by
  refine fo_law15_quota (by simp) ?_
  repeat' ((conv => whnf); first | refine ⟨?_, True.intro⟩ | refine brn_t rfl ?_ | refine brn_f rfl ?_ | refine ob rfl ?_ | refine ob (by decide) ?_ | refine grow_same (Mem.le_refl _) ?_ | refine ob (Mem.le_refl _) ?_ | refine ⟨_, Mem.le_refl _, ?_⟩ | fail)
  exact ⟨rfl, rfl⟩
def awS1 : StR := ⟨1, 256, 1048576, 256, 1, List.replicate 64 0, []⟩
def awI : IdT := ⟨1, 2, 1, 1⟩
theorem aw1 (set : IdT → Int) : mayD (newD 1 256 1048576 256) set 1 ⟨0, 0, 0, 0⟩ 0 = 0 := by kernel_rfl
theorem aw2 : applyD (newD 1 256 1048576 256) 1 ⟨0, 0, 0, 0⟩ [] = awS1 := by kernel_rfl
theorem aw3 : freshD awS1 2 = (awI, 0) := by kernel_rfl
theorem aw4 (set : IdT → Int) : mayD awS1 set 2 awI 1 = 0 := by kernel_rfl
theorem aw5 : (applyD awS1 2 awI [97]).l = [⟨awI, [97]⟩] := by kernel_rfl
theorem awake_ok : CallsM Tryz.prog F.law15_awake [] M fun v M' => v = .bool true ∧ M.le M' := by
  refine fo_law15_awake (by simp) ?_
  (conv => whnf); refine quota_ok.mono ?_
  rintro v _ ⟨rfl, rfl⟩
  repeat' ((conv => whnf); first | refine ⟨?_, True.intro⟩ | refine brn_t rfl ?_ | refine brn_f rfl ?_ | refine ob rfl ?_ | refine ob (by decide) ?_ | refine grow_same (Mem.le_refl _) ?_ | refine ob (Mem.le_refl _) ?_ | refine ⟨_, Mem.le_refl _, ?_⟩ | fail)
  refine (New15_ok 1 256 1048576 256).mono ?_
  rintro v M1 (⟨h, -⟩ | ⟨-, p, b, sp, sb, rfl, h1⟩)
  · unfold badD at h; omega
  repeat' ((conv => whnf); first | refine ⟨?_, True.intro⟩ | refine brn_t rfl ?_ | refine brn_f rfl ?_ | refine ob rfl ?_ | refine ob (by decide) ?_ | refine grow_same (Mem.le_refl _) ?_ | refine ob (Mem.le_refl _) ?_ | refine ⟨_, Mem.le_refl _, ?_⟩ | fail)
  refine (Apply15_ok (c := 0) (l := []) h1 1 ⟨0, 0, 0, 0⟩ (SrcOk.nil _ _) (by simp) (by omega)).mono ?_
  unfold ApplyOut
  simp only [List.length_nil, aw1, aw2, if_true]
  rintro v M2 ⟨c2, xs2, es2, rfl, hc2, h2, -⟩
  repeat' ((conv => whnf); first | refine ⟨?_, True.intro⟩ | refine brn_t rfl ?_ | refine brn_f rfl ?_ | refine ob rfl ?_ | refine ob (by decide) ?_ | refine grow_same (Mem.le_refl _) ?_ | refine ob (Mem.le_refl _) ?_ | refine ⟨_, Mem.le_refl _, ?_⟩ | fail)
  refine (Fresh_ok h2.at' h2.inv 2).mono ?_
  rw [aw3]
  rintro v _ ⟨rfl, rfl⟩
  repeat' ((conv => whnf); first | refine ⟨?_, True.intro⟩ | refine brn_t rfl ?_ | refine brn_f rfl ?_ | refine ob rfl ?_ | refine ob (by decide) ?_ | refine grow_same (Mem.le_refl _) ?_ | refine ob (Mem.le_refl _) ?_ | refine ⟨_, Mem.le_refl _, ?_⟩ | fail)
  refine new (fun b1 hb1 => ?_)
  replace hb1 : M2 b1 = none := hb1
  (conv => whnf); refine on Mem.textAt_setCells ?_
  (conv => whnf)
  have hle1 : M2.le ((M2.setCells b1 T.uint8 [S.u 97]).upd b1 (.cells [S.u 97].toArray T.uint8 (1, 2))) := by
    intro c o hc
    have hne : c ≠ b1 := fun e => by subst e; rw [hb1] at hc; cases hc
    unfold Mem.setCells
    rw [Mem.upd_ne _ _ hne, Mem.upd_ne _ _ hne]; exact hc
  have hs1 : SrcOk ((M2.setCells b1 T.uint8 [S.u 97]).upd b1 (.cells [S.u 97].toArray T.uint8 (1, 2))) 1 (some ⟨b1, 0, none⟩) 1 ([97].map byteV) :=
    by unfold SrcOk; exact ⟨rfl, .inr ⟨b1, 0, rfl, Mem.row_obj (Mem.upd_same _ _ _) (by decide)⟩⟩
  obtain ⟨M3, hM3⟩ : ∃ M3, M3 = (M2.setCells b1 T.uint8 [S.u 97]).upd b1 (.cells [S.u 97].toArray T.uint8 (1, 2)) := ⟨_, rfl⟩
  rw [← hM3] at hle1 hs1
  erw [← hM3]
  refine (Apply15_ok (l := [97]) (h2.to hle1) 2 awI hs1 (by simp) (by omega)).mono ?_
  unfold ApplyOut
  simp only [List.length_cons, List.length_nil, Nat.zero_add, aw4, if_true]
  rintro v M4 ⟨c4, xs4, es4, rfl, hc4, h4, -⟩
  repeat' ((conv => whnf); first | refine ⟨?_, True.intro⟩ | refine brn_t rfl ?_ | refine brn_f rfl ?_ | refine ob rfl ?_ | refine ob (by decide) ?_ | refine grow_same (Mem.le_refl _) ?_ | refine ob (Mem.le_refl _) ?_ | refine ⟨_, Mem.le_refl _, ?_⟩ | fail)
  refine (Find_ok h4.at' h4.inv awI).mono ?_
  rw [aw5]
  rintro v M5 (⟨-, h, -⟩ | ⟨a, n, c, l, rfl, -, hl, hN⟩)
  · cases h
  obtain rfl : l = [97] := by simpa using hl
  repeat' ((conv => whnf); first | refine ⟨?_, True.intro⟩ | refine brn_t rfl ?_ | refine brn_f rfl ?_ | refine ob rfl ?_ | refine ob (by decide) ?_ | refine grow_same (Mem.le_refl _) ?_ | refine ob (Mem.le_refl _) ?_ | refine ⟨_, Mem.le_refl _, ?_⟩ | fail)
  refine strv hN.src ?_
  repeat' ((conv => whnf); first | refine ⟨?_, True.intro⟩ | refine brn_t rfl ?_ | refine brn_f rfl ?_ | refine ob rfl ?_ | refine ob (by decide) ?_ | refine grow_same (Mem.le_refl _) ?_ | refine ob (Mem.le_refl _) ?_ | refine ⟨_, Mem.le_refl _, ?_⟩ | fail)
  exact ⟨rfl, Mem.le_trans h4.le hN.le⟩
structure EvX where
  kind : Int
  id : IdT
  p : List UInt8
@[reducible] def evCs (x : EvX) (a : Option Addr) (n c : Nat) : List Value := [.int .i64 x.kind, .int .i64 x.id.o, .int .i64 x.id.d, .int .i64 x.id.e, .int .i64 x.id.c, .slice a n c]
def EvR (M : Mem) (cs : List Value) (x : EvX) : Prop := ∃ a c, cs = evCs x a x.p.length c ∧ SrcOk M 1 a x.p.length (x.p.map byteV) ∧ x.p.length ≤ 1048576 ∧ x.p.length ≤ c
theorem EvR.le {M M' : Mem} {cs : List Value} {x : EvX} (h : EvR M cs x) (hle : M.le M') : EvR M' cs x := by
  obtain ⟨a, c, h1, h2, h3, h4⟩ := h
  exact ⟨a, c, h1, h2.le hle, h3, h4⟩
theorem ev_at {a : Option Addr} {n : Nat} {l : List EvX} (h : Elems M 6 a n (EvR M) l) {i : Nat} (hi : i < n) :
    ∃ (hl : i < l.length) (bb o : Nat) (a1 : Option Addr) (c1 : Nat), a = some ⟨bb, o, none⟩ ∧ M.row bb (o + i * 6) 6 = some (evCs l[i] a1 l[i].p.length c1) ∧ SrcOk M 1 a1 l[i].p.length (l[i].p.map byteV) ∧ l[i].p.length ≤ 1048576 ∧ l[i].p.length ≤ c1 := by
  obtain ⟨hl, bb, o, cs, ha, _, hrow, _, a1, c1, rfl, h2, h3, h4⟩ := h.at (by decide) hi
  exact ⟨hl, bb, o, a1, c1, ha, hrow, h2, h3, h4⟩
theorem cutEv_ok {a : Option Addr} {n c : Nat} {l : List EvX} (h : Elems M 6 a n (EvR M) l) (hn : n ≤ 1048576) (hc : n ≤ c) (N : Mem) :
    CallsM Tryz.prog F.law15_cut [.slice a n c] N fun v M' => (∃ a' n' c', v = .slice a' n' c' ∧ n' ≤ 50 ∧ n' ≤ c' ∧ n' = (l.take 50).length ∧ Elems M 6 a' n' (EvR M) (l.take 50)) ∧ N = M' := by
  refine fo_law15_cut (by simp) ?_
  have hl := h.len
  (conv => whnf); refine brn (fun g => ?_) (fun g => ?_)
  · have h1 : 50 < n := by have := of_decide_eq_true g; omega
    (conv => whnf); refine ob ⟨by decide, by omega, by omega⟩ ?_
    (conv => whnf)
    exact ⟨⟨_, 50, c, rfl, Nat.le_refl _, by omega, by simp; omega, h.take (by omega) hc (by decide)⟩, rfl⟩
  · have h1 : n ≤ 50 := by have := of_decide_eq_false g; omega
    (conv => whnf)
    refine ⟨⟨a, n, c, rfl, h1, hc, by simp; omega, ?_⟩, rfl⟩
    rw [List.take_of_length_le (by omega)]; exact h
end Go.Proofs.YtlocjjponfbhmaaGreat

/- How the arguments of this layer's laws lie in memory. -/
namespace Go.Proofs.YtlocjjponfbhmaaGreat
open Go Go.Vm
attribute [local irreducible] Brn Ob Grow CallsM inR LoopVC Mem.row Mem.cells Mem.setCells Mem.upd Own AppVC SrcVC StrVC NextVC New SrcOk subA NewSl Mem.textAt Mem.mapAt Mem.iterAt entryOf kfind Wr NewEls Elems
set_option maxRecDepth 10000
open Br
theorem rd_int : Reads T.int 1 fun (_ : Mem) cs (n : Int) => cs = [.int .i64 n] ∧ inKind .i64 n := Reads.int (by kernel_rfl)
theorem rd_byte : Reads T.uint8 1 fun (_ : Mem) cs (n : Int) => cs = [.int .u8 n] ∧ inKind .u8 n := Reads.int (by kernel_rfl)
theorem elems_map {α : Type} {M : Mem} {a : Option Addr} {n : Nat} {R : List Value → α → Prop} {l : List α} {β : Type} (f : β → Value) (h : Elems M 1 a n R l) (hR : ∀ cs x, R cs x → ∃ y, cs = [f y]) : ∃ l' : List β, SrcOk M 1 a n (l'.map f) := by
  unfold Elems at h
  obtain ⟨css, h1, h2, h3, h4, h5⟩ := h
  have : ∃ l' : List β, css.flatten = l'.map f := by
    clear h1 h4
    induction css generalizing l n with
    | nil => exact ⟨[], rfl⟩
    | cons cs r ih =>
      match l, h3 with
      | [], h3 => simp at h2 h3; omega
      | x :: l, h3 =>
        obtain ⟨y, hy⟩ := hR cs x (h5 0 cs x rfl rfl)
        obtain ⟨l', hl'⟩ := ih (n := n - 1) (l := l) (by simp at h2; omega) (by simp at h3; omega) (fun i c z hi hz => h5 (i + 1) c z (by simpa using hi) (by simpa using hz))
        exact ⟨y :: l', by simp [hy, hl']⟩
  obtain ⟨l', e⟩ := this
  exact ⟨l', e ▸ h1⟩
theorem byte_of {n : Int} (h : inKind .u8 n) : Value.int .u8 n = byteV (UInt8.ofNat n.toNat) := by
  have := bounds_u8 h
  simp only [byteV]
  congr 1
  simp
  omega
theorem rd_bytes : Reads T.s_uint8 1 fun M cs (l : List UInt8) => ∃ a n c, cs = [.slice a n c] ∧ SrcOk M 1 a n (l.map byteV) ∧ n ≤ 1048576 ∧ n ≤ c := fun H enc W fuel cs d ps h hb => by
  obtain ⟨h1, l, a, n, c, h2, h3, h4⟩ := Reads.slice (t := T.s_uint8) (e := T.uint8) (by kernel_rfl) (by kernel_rfl) (by decide) rd_byte H enc W fuel cs d ps h hb
  obtain ⟨l', h5⟩ := elems_map byteV h3 (fun cs x hx => ⟨_, hx.1.trans (by rw [byte_of hx.2])⟩)
  exact ⟨h1, l', a, n, c, h2, h5, h4⟩
theorem rd_ints : Reads T.s_int 1 fun M cs (l : List Int) => ∃ a n c, cs = [.slice a n c] ∧ SrcOk M 1 a n (l.map intV) ∧ n ≤ 1048576 ∧ n ≤ c := fun H enc W fuel cs d ps h hb => by
  obtain ⟨h1, l, a, n, c, h2, h3, h4⟩ := Reads.slice (t := T.s_int) (e := T.int) (by kernel_rfl) (by kernel_rfl) (by decide) rd_int H enc W fuel cs d ps h hb
  obtain ⟨l', h5⟩ := elems_map intV h3 (fun cs x hx => ⟨x, hx.1⟩)
  exact ⟨h1, l', a, n, c, h2, h5, h4⟩
theorem rd_id : Reads T.api_Id 4 fun (_ : Mem) cs (i : IdT) => cs = idCs i := fun H enc W fuel cs d ps h hb => by
  obtain ⟨hl, hf⟩ := field Tryz.underlying43 h hb
  replace hl : cs.length = 4 := hl.trans (by kernel_rfl)
  obtain ⟨-, n0, h0, -⟩ := hf 0 _ rfl 1 rd_int (by kernel_rfl)
  obtain ⟨-, n1, h1, -⟩ := hf 1 _ rfl 1 rd_int (by kernel_rfl)
  obtain ⟨-, n2, h2, -⟩ := hf 2 _ rfl 1 rd_int (by kernel_rfl)
  obtain ⟨-, n3, h3, -⟩ := hf 3 _ rfl 1 rd_int (by kernel_rfl)
  exact ⟨hl, ⟨n0, n1, n2, n3⟩, (show Chunks cs 0 [[_], [_], [_], [_]] from ⟨h0, h1, h2, h3, hl⟩).eq⟩
theorem rd_msg : Reads T.api_Msg 5 fun M cs (m : MsgD) => ∃ a c, cs = [.int .i64 m.id.o, .int .i64 m.id.d, .int .i64 m.id.e, .int .i64 m.id.c, .slice a m.p.length c] ∧ SrcOk M 1 a m.p.length (m.p.map byteV) ∧ m.p.length ≤ 1048576 ∧ m.p.length ≤ c := fun H enc W fuel cs d ps h hb => by
  obtain ⟨hl, hf⟩ := field Tryz.underlying46 h hb
  replace hl : cs.length = 5 := hl.trans (by kernel_rfl)
  obtain ⟨-, n0, h0⟩ := hf 0 _ rfl 4 rd_id (by kernel_rfl)
  obtain ⟨-, l, a, n, c, h1, h2, h3, h4⟩ := hf 1 _ rfl 1 rd_bytes (by kernel_rfl)
  obtain rfl := h2.maplen
  exact ⟨hl, ⟨n0, l⟩, a, c, (show Chunks cs 0 [[_, _, _, _], [_]] from ⟨h0, h1, hl⟩).eq, h2, h3, h4⟩
theorem rd_ev : Reads T.api_Ev 6 fun M cs (x : EvX) => EvR M cs x := fun H enc W fuel cs d ps h hb => by
  obtain ⟨hl, hf⟩ := field Tryz.underlying48 h hb
  replace hl : cs.length = 6 := hl.trans (by kernel_rfl)
  obtain ⟨-, n0, h0, -⟩ := hf 0 _ rfl 1 rd_int (by kernel_rfl)
  obtain ⟨-, m, a, c, h1, h2, h3, h4⟩ := hf 1 _ rfl 5 rd_msg (by kernel_rfl)
  exact ⟨hl, ⟨n0, m.id, m.p⟩, a, c, (show Chunks cs 0 [[_], [_, _, _, _, _]] from ⟨h0, h1, hl⟩).eq, h2, h3, h4⟩
theorem rd_evs : Reads T.s_api_Ev 1 fun M cs (l : List EvX) => ∃ a n c, cs = [.slice a n c] ∧ Elems M 6 a n (EvR M) l ∧ n ≤ 1048576 ∧ n ≤ c := fun H enc W fuel cs d ps h hb =>
  Reads.slice Tryz.underlying26 (by kernel_rfl) (by decide) rd_ev H enc W fuel cs d ps h hb
structure SetX where
  self : Int
  qh : Int
  qb : Int
  qg : Int
@[reducible] def setCs (x : SetX) : List Value := [.int .i64 x.self, .int .i64 x.qh, .int .i64 x.qb, .int .i64 x.qg]
theorem rd_quota : Reads T.api_Quota 3 fun (_ : Mem) cs (x : Int × Int × Int) => cs = [.int .i64 x.1, .int .i64 x.2.1, .int .i64 x.2.2] := fun H enc W fuel cs d ps h hb => by
  obtain ⟨hl, hf⟩ := field Tryz.underlying23 h hb
  replace hl : cs.length = 3 := hl.trans (by kernel_rfl)
  obtain ⟨-, n0, h0, -⟩ := hf 0 _ rfl 1 rd_int (by kernel_rfl)
  obtain ⟨-, n1, h1, -⟩ := hf 1 _ rfl 1 rd_int (by kernel_rfl)
  obtain ⟨-, n2, h2, -⟩ := hf 2 _ rfl 1 rd_int (by kernel_rfl)
  exact ⟨hl, (n0, n1, n2), (show Chunks cs 0 [[_], [_], [_]] from ⟨h0, h1, h2, hl⟩).eq⟩
theorem rd_set : Reads T.portagelaw15_Set 4 fun (_ : Mem) cs (x : SetX) => cs = setCs x := fun H enc W fuel cs d ps h hb => by
  obtain ⟨hl, hf⟩ := field Tryz.underlying25 h hb
  replace hl : cs.length = 4 := hl.trans (by kernel_rfl)
  obtain ⟨-, n0, h0, -⟩ := hf 0 _ rfl 1 rd_int (by kernel_rfl)
  obtain ⟨-, q, h1⟩ := hf 1 _ rfl 3 rd_quota (by kernel_rfl)
  exact ⟨hl, ⟨n0, q.1, q.2.1, q.2.2⟩, (show Chunks cs 0 [[_], [_, _, _]] from ⟨h0, h1, hl⟩).eq⟩
end Go.Proofs.YtlocjjponfbhmaaGreat

/- Both stores, behind some events. -/
namespace Go.Proofs.YtlocjjponfbhmaaGreat
open Go Go.Vm
attribute [local irreducible] Brn Ob Grow CallsM inR LoopVC Mem.row Mem.cells Mem.setCells Mem.upd Own AppVC SrcVC StrVC NextVC New SrcOk subA NewSl Mem.textAt Mem.mapAt Mem.iterAt entryOf kfind Wr NewEls Elems
set_option maxRecDepth 10000
variable {M B : Mem} {p b sp sb : Nat} {S : StR} {came : Int} {xs : HsT} {es : EsT} {L : List K} {D : DocV} {ms : List MX}
/-- a store, and the document's beside it -/
structure Both (B M : Mem) (p b sp sb : Nat) (S : StR) (came : Int) (xs : HsT) (es : EsT) (L : List K) (D : DocV) (ms : List MX) : Prop where
  own : FreshSt B M p b sp sb S came xs es
  doc : DocAt B S L D ms
  rel : RelS es L
theorem Both.may (h : Both B M p b sp sb S came xs es L D ms) (k : Int) (i : IdT) (n : Nat) : mayD S (setMay S es) k i n = mayD S (setMayK S L) k i n := by
  have : setMay S es = setMayK S L := by
    funext i
    exact h.rel.may S.qg i.o i.d i.e i.c
  rw [this]
/-- what the set's entries and the document's keys become -/
theorem rel_step (hR : RelS es L) {es' : EsT} {k : Int} {i : IdT} {n : Nat} (hm : mayD S (setMay S es) k i n = mayD S (setMayK S L) k i n)
    (hs : if mayD S (setMay S es) k i n = 0 ∧ k = 4 then StepE S.qg es es' i.o i.d i.e i.c else es' = es) :
    RelS es' (if mayD S (setMayK S L) k i n = 0 ∧ k = 4 then putK ⟨i.o, i.e, i.c⟩ L else L) := by
  rw [hm] at hs
  split at hs
  · rename_i h
    rw [if_pos h]
    rcases hR.step hs with ⟨hne, hR'⟩ | ⟨_, hR'⟩
    · exfalso
      obtain ⟨h1, rfl⟩ := h
      unfold mayD at h1
      split at h1
      · rename_i g4; exact absurd h1 g4
      rw [if_neg (by decide), if_neg (by decide), if_neg (by decide)] at h1
      split at h1
      · cases h1
      · exact hne h1
    · exact hR'
  · rename_i h
    rw [if_neg h, hs]; exact hR
theorem step_len {es' : EsT} {k : Int} {i : IdT} {m : Int} (h : if m = 0 ∧ k = 4 then StepE S.qg es es' i.o i.d i.e i.c else es' = es) : es'.length ≤ es.length + 1 := by
  split at h
  · exact h.len
  · rw [h]; omega
/-- the document's store behind the program's -/
theorem Both.step (h : Both B M p b sp sb S came xs es L D ms) {k : Int} {i : IdT} {l : List UInt8} {v : Value} {M3 : Mem} (ho : ApplyOut B p b sp sb S came es k i l v M3) (hf : D.kn < 4000000) {a : Option Addr} {c : Nat} (hl : SrcOk B 1 a l.length (l.map byteV)) (hn : l.length ≤ 1048576) :
    ∃ e, v = .int .i64 e ∧ e = mayD S (setMay S es) k i l.length ∧ B.le M3 ∧ CallsM Tryz.prog F.ref15_Apply [docV S D, evV k i a l.length c] M3 fun v' M4 => ∃ B' came' xs' es' L' D' ms', v' = .tuple #[docV (if e = 0 then applyD S k i l else S) D', .int .i64 e] ∧ came' ≤ came + 1 ∧ B.le B' ∧ D'.kn ≤ D.kn + 1 ∧ es'.length ≤ es.length + 1 ∧
      Both B' M4 p b sp sb (if e = 0 then applyD S k i l else S) came' xs' es' L' D' ms' ∧ (if e = 0 ∧ k = 4 then StepE S.qg es es' i.o i.d i.e i.c else es' = es) := by
  obtain ⟨came', xs', es', rfl, hc, h3, hst⟩ := ho
  refine ⟨_, rfl, rfl, h3.le, ?_⟩
  obtain ⟨h3b, hB3⟩ := h3.base
  refine (h3.aside (apply15R_ok (h.doc.le hB3) h.own.inv hf k i (hl.le hB3) hn)).mono ?_
  rintro v' M4 ⟨A, ⟨D', ms', rfl, hle, hd, hkn⟩, h4⟩
  rw [h.may k i l.length]
  refine ⟨A, came', xs', es', _, D', ms', rfl, hc, Mem.le_trans hB3 hle, hkn, step_len hst, ⟨?_, hd, rel_step h.rel (h.may k i l.length) hst⟩, ?_⟩
  · rw [← h.may k i l.length]
    exact h4
  · rw [← h.may k i l.length]
    exact hst
theorem applyD_self {k : Int} {i : IdT} {l : List UInt8} : (applyD S k i l).self = S.self := by unfold applyD; (repeat' split) <;> rfl
theorem applyD_qh {k : Int} {i : IdT} {l : List UInt8} : (applyD S k i l).qh = S.qh := by unfold applyD; (repeat' split) <;> rfl
theorem applyD_qb {k : Int} {i : IdT} {l : List UInt8} : (applyD S k i l).qb = S.qb := by unfold applyD; (repeat' split) <;> rfl
theorem applyD_qg {k : Int} {i : IdT} {l : List UInt8} : (applyD S k i l).qg = S.qg := by unfold applyD; (repeat' split) <;> rfl
@[reducible] def docCs (S : StR) (D : DocV) : List SC := [.v (.int .i64 S.self), .v (.int .i64 S.qh), .v (.int .i64 S.qb), .v (.int .i64 S.qg), .v (.int .i64 S.epoch), .v (.slice D.ua D.un D.uc), .v (.slice D.la D.ln D.lc), .v (.int .i64 S.qg), .v (.slice D.ka D.kn D.kc)]
structure StB where
  i : Nat
  mem : Mem
  B : Mem
  S : StR
  came : Int
  xs : HsT
  es : EsT
  L : List K
  D : DocV
  ms : List MX
/-- what an event keeps -/
def KeepQ (Q : StR → EsT → Prop) : Prop := ∀ (S : StR) (es es' : EsT) (k : Int) (i : IdT) (p : List UInt8), InvS S → InvE es → Q S es →
  (if mayD S (setMay S es) k i p.length = 0 ∧ k = 4 then StepE S.qg es es' i.o i.d i.e i.c else es' = es) → Q (if mayD S (setMay S es) k i p.length = 0 then applyD S k i p else S) es'
theorem doneQ_ok {Q : StR → EsT → Prop} (self qh qb qg : Int) (hQ0 : Q (newD self qh qb qg) []) (hQ : KeepQ Q) {a : Option Addr} {n c : Nat} {l : List EvX} (hl : Elems M 6 a n (EvR M) l) (hn : n ≤ 1048576) (hc : n ≤ c) :
    CallsM Tryz.prog F.law15_done [.agg #[.int .i64 self, .int .i64 qh, .int .i64 qb, .int .i64 qg], .slice a n c] M fun v M' =>
    (badD self qh qb qg ∧ v = .tuple #[.pointer none, docV ⟨0, 0, 0, 0, 0, [], []⟩ ⟨none, 0, 0, none, 0, 0, none, 0, 0⟩, .bool false] ∧ M = M') ∨
    (¬ badD self qh qb qg ∧ ∃ B p b sp sb S came xs es L D ms, v = .tuple #[ptr p, docV S D, .bool true] ∧ M.le B ∧ Both B M' p b sp sb S came xs es L D ms ∧ came ≤ 50 ∧ D.kn ≤ 50 ∧ es.length ≤ 50 ∧
      S.self = self ∧ S.qh = qh ∧ S.qb = qb ∧ S.qg = qg ∧ (l = [] → S = newD self qh qb qg) ∧ Q S es) := by
  refine fo_law15_done (by simp) ?_
  repeat' ((conv => whnf); first | refine ⟨?_, True.intro⟩ | refine brn_t rfl ?_ | refine brn_f rfl ?_ | refine ob rfl ?_ | refine ob (by decide) ?_ | refine grow_same (Mem.le_refl _) ?_ | refine ob (Mem.le_refl _) ?_ | refine ⟨_, Mem.le_refl _, ?_⟩ | fail)
  refine (New15_ok self qh qb qg).mono ?_
  rintro v M1 (⟨hg, rfl, rfl⟩ | ⟨hg, p, b, sp, sb, rfl, h1⟩)
  · repeat' ((conv => whnf); first | refine ⟨?_, True.intro⟩ | refine brn_t rfl ?_ | refine brn_f rfl ?_ | refine ob rfl ?_ | refine ob (by decide) ?_ | refine grow_same (Mem.le_refl _) ?_ | refine ob (Mem.le_refl _) ?_ | refine ⟨_, Mem.le_refl _, ?_⟩ | fail)
    refine (new15R_ok self qh qb qg).mono ?_
    rintro v _ (⟨-, rfl, rfl⟩ | ⟨hg2, -⟩)
    rotate_left
    · exact absurd hg hg2
    repeat' ((conv => whnf); first | refine ⟨?_, True.intro⟩ | refine brn_t rfl ?_ | refine brn_f rfl ?_ | refine ob rfl ?_ | refine ob (by decide) ?_ | refine grow_same (Mem.le_refl _) ?_ | refine ob (Mem.le_refl _) ?_ | refine ⟨_, Mem.le_refl _, ?_⟩ | fail)
    exact .inl ⟨hg, rfl, rfl⟩
  repeat' ((conv => whnf); first | refine ⟨?_, True.intro⟩ | refine brn_t rfl ?_ | refine brn_f rfl ?_ | refine ob rfl ?_ | refine ob (by decide) ?_ | refine grow_same (Mem.le_refl _) ?_ | refine ob (Mem.le_refl _) ?_ | refine ⟨_, Mem.le_refl _, ?_⟩ | fail)
  refine (new15R_ok self qh qb qg).mono ?_
  rintro v _ (⟨hg2, -⟩ | ⟨-, rfl, rfl⟩)
  · exact absurd hg2 hg
  repeat' ((conv => whnf); first | refine ⟨?_, True.intro⟩ | refine brn_t rfl ?_ | refine brn_f rfl ?_ | refine ob rfl ?_ | refine ob (by decide) ?_ | refine grow_same (Mem.le_refl _) ?_ | refine ob (Mem.le_refl _) ?_ | refine ⟨_, Mem.le_refl _, ?_⟩ | fail)
  (conv => whnf)
  refine (cutEv_ok hl hn hc M1).mono ?_
  rintro v _ ⟨⟨a1, n1, c1, rfl, hn1, hc1, hnl, hcutM⟩, rfl⟩
  (conv => whnf)
  refine loopF (σ := StB) [11, 1] (fun y => [(11, .int .i64 y.i), (1, .slice a1 n1 c1)]) (fun y => [.live T.portagelaw15_Set [.v (.int .i64 self), .v (.int .i64 qh), .v (.int .i64 qb), .v (.int .i64 qg)], .live T.portageref15_Store [.v (.int .i64 0), .v (.int .i64 0), .v (.int .i64 0), .v (.int .i64 0), .v (.int .i64 0), .v (.slice none 0 0), .v (.slice none 0 0), .v (.int .i64 0), .v (.slice none 0 0)], .live T.portageref15_Store (docCs y.S y.D)]) (fun y => y.mem)
    (fun y => y.i ≤ n1 ∧ M.le y.B ∧ Both y.B y.mem p b sp sb y.S y.came y.xs y.es y.L y.D y.ms ∧ y.came ≤ y.i ∧ y.D.kn ≤ y.i ∧ y.es.length ≤ y.i ∧ y.S.self = self ∧ y.S.qh = qh ∧ y.S.qb = qb ∧ y.S.qg = qg ∧ (l = [] → y.S = newD self qh qb qg) ∧ Q y.S y.es) (fun y => n1 - y.i)
    ⟨0, M1, M, newD self qh qb qg, 0, [], [], [], ⟨none, 0, 0, none, 0, 0, none, 0, 0⟩, []⟩ ⟨by simp, Mem.le_refl _, ⟨h1, DocAt.new _ _ _ _ _, RelS.nil⟩, by simp, by simp, by simp, rfl, rfl, rfl, rfl, fun _ => rfl, hQ0⟩ ⟨(by repeat' first | exact True.intro | refine ⟨rfl, ?_⟩), (by repeat' first | exact True.intro | refine ⟨rfl, ?_⟩), Mem.le_refl _, rfl⟩ ?_
  rintro ⟨i, Mc, B, S, came, xs, es, L, D, ms⟩ ⟨hi, hMB, hBo, hca, hkn, hel, hs1, hs2, hs3, hs4, hnew, hQs⟩
  dsimp only at hi hMB hBo hca hkn hel hs1 hs2 hs3 hs4 hnew hQs
  (conv => whnf); refine brn (fun g => ?_) (fun g => ?_)
  rotate_left
  · repeat' ((conv => whnf); first | refine ⟨?_, True.intro⟩ | refine brn_t rfl ?_ | refine brn_f rfl ?_ | refine ob rfl ?_ | refine ob (by decide) ?_ | refine grow_same (Mem.le_refl _) ?_ | refine ob (Mem.le_refl _) ?_ | refine ⟨_, Mem.le_refl _, ?_⟩ | fail)
    exact .inr ⟨hg, B, p, b, sp, sb, S, came, xs, es, L, D, ms, rfl, hMB, hBo, by omega, by omega, by omega, hs1, hs2, hs3, hs4, hnew, hQs⟩
  have hlt : i < n1 := by have := of_decide_eq_true g; dsimp only at this; omega
  obtain ⟨hil, bb, o, a2, c2, ha, hrow, hd, hd1, hd2⟩ := ev_at hcutM hlt
  generalize (l.take 50)[i] = x at *
  have hM := Mem.le_trans hMB hBo.own.le
  (conv => whnf); refine ob (by first | omega | (dsimp only; omega)) ?_
  (conv => whnf); refine atp ha ?_
  (conv => whnf); refine on (Mem.row_le hM hrow) ?_
  (conv => whnf); refine (Apply15_ok hBo.own x.kind x.id (hd.le hM) hd1 (by omega)).mono ?_
  intro v M3 ho
  obtain ⟨e, rfl, he, hle3, hstep⟩ := hBo.step ho (by omega) (hd.le hMB) hd1
  repeat' ((conv => whnf); first | refine ⟨?_, True.intro⟩ | refine brn_t rfl ?_ | refine brn_f rfl ?_ | refine ob rfl ?_ | refine ob (by decide) ?_ | refine grow_same (Mem.le_refl _) ?_ | refine ob (Mem.le_refl _) ?_ | refine ⟨_, Mem.le_refl _, ?_⟩ | fail)
  refine ob (by first | omega | (dsimp only; omega)) ?_
  (conv => whnf); refine atp ha ?_
  (conv => whnf); refine on (Mem.row_le (Mem.le_trans hMB hle3) hrow) ?_
  repeat' ((conv => whnf); first | refine ⟨?_, True.intro⟩ | refine brn_t rfl ?_ | refine brn_f rfl ?_ | refine ob rfl ?_ | refine ob (by decide) ?_ | refine grow_same (Mem.le_refl _) ?_ | refine ob (Mem.le_refl _) ?_ | refine ⟨_, Mem.le_refl _, ?_⟩ | fail)
  refine hstep.mono ?_
  rintro v M4 ⟨B', came', xs', es', L', D', ms', rfl, hcm, hBB, hkn', hel', hBo', hst⟩
  repeat' ((conv => whnf); first | refine ⟨?_, True.intro⟩ | refine brn_t rfl ?_ | refine brn_f rfl ?_ | refine ob rfl ?_ | refine ob (by decide) ?_ | refine grow_same (Mem.le_refl _) ?_ | refine ob (Mem.le_refl _) ?_ | refine ⟨_, Mem.le_refl _, ?_⟩ | fail)
  refine ob (inR_i64 (by first | omega | (dsimp only; omega))) ?_
  (conv => whnf)
  refine ⟨⟨i + 1, M4, B', if e = 0 then applyD S x.kind x.id x.p else S, came', xs', es', L', D', ms'⟩, ⟨by dsimp only; omega, Mem.le_trans hMB hBB, hBo', by dsimp only; omega, by dsimp only; omega, by dsimp only; omega, ?_, ?_, ?_, ?_, ?_, ?_⟩, by dsimp only; omega, ⟨(by repeat' first | exact True.intro | refine ⟨rfl, ?_⟩), (by repeat' first | exact True.intro | refine ⟨rfl, ?_⟩), Mem.le_refl _, rfl⟩⟩
  · dsimp only; split
    · rw [← hs1]; exact applyD_self
    · exact hs1
  · dsimp only; split
    · rw [← hs2]; exact applyD_qh
    · exact hs2
  · dsimp only; split
    · rw [← hs3]; exact applyD_qb
    · exact hs3
  · dsimp only; split
    · rw [← hs4]; exact applyD_qg
    · exact hs4
  · intro e0; subst e0; simp at hil
  · dsimp only; rw [he] at hst ⊢; exact hQ S es es' x.kind x.id x.p hBo.own.inv hBo.own.invE hQs hst
theorem done_ok (self qh qb qg : Int) {a : Option Addr} {n c : Nat} {l : List EvX} (hl : Elems M 6 a n (EvR M) l) (hn : n ≤ 1048576) (hc : n ≤ c) :
    CallsM Tryz.prog F.law15_done [.agg #[.int .i64 self, .int .i64 qh, .int .i64 qb, .int .i64 qg], .slice a n c] M fun v M' =>
    (badD self qh qb qg ∧ v = .tuple #[.pointer none, docV ⟨0, 0, 0, 0, 0, [], []⟩ ⟨none, 0, 0, none, 0, 0, none, 0, 0⟩, .bool false] ∧ M = M') ∨
    (¬ badD self qh qb qg ∧ ∃ B p b sp sb S came xs es L D ms, v = .tuple #[ptr p, docV S D, .bool true] ∧ M.le B ∧ Both B M' p b sp sb S came xs es L D ms ∧ came ≤ 50 ∧ D.kn ≤ 50 ∧ es.length ≤ 50 ∧
      S.self = self ∧ S.qh = qh ∧ S.qb = qb ∧ S.qg = qg ∧ (l = [] → S = newD self qh qb qg)) :=
  (doneQ_ok (Q := fun _ _ => True) self qh qb qg trivial (fun _ _ _ _ _ _ _ _ _ _ => trivial) hl hn hc).mono fun v M' h => by
    rcases h with h | ⟨hg, B, p, b, sp, sb, S, came, xs, es, L, D, ms, h1, h2, h3, h4, h5, h6, h7, h8, h9, h10, h11, -⟩
    · exact .inl h
    · exact .inr ⟨hg, B, p, b, sp, sb, S, came, xs, es, L, D, ms, h1, h2, h3, h4, h5, h6, h7, h8, h9, h10, h11⟩
end Go.Proofs.YtlocjjponfbhmaaGreat

/- Two stores beside each other. -/
namespace Go.Proofs.YtlocjjponfbhmaaGreat
open Go Go.Vm
attribute [local irreducible] Brn Ob Grow CallsM inR LoopVC Mem.row Mem.cells Mem.setCells Mem.upd Own AppVC SrcVC StrVC NextVC New SrcOk subA NewSl Mem.textAt Mem.mapAt Mem.iterAt entryOf kfind Wr NewEls Elems
set_option maxRecDepth 10000
structure Hd where
  p : Nat
  b : Nat
  sp : Nat
  sb : Nat
  came : Int
  xs : HsT
  es : EsT
@[reducible] def FreshH (B M : Mem) (S : StR) (x : Hd) : Prop := FreshSt B M x.p x.b x.sp x.sb S x.came x.xs x.es
@[reducible] def hB (x : Hd) : Nat → Prop := stB x.p x.b x.sp x.sb x.xs x.es
structure Two (B M : Mem) (S U : StR) (x y : Hd) : Prop where
  one : FreshH B M S x
  two : FreshH B M U y
  apart : ∀ z, hB x z → ¬ hB y z
variable {B M : Mem} {S U : StR} {x y : Hd}
theorem Two.symm (h : Two B M S U x y) : Two B M U S y x := ⟨h.two, h.one, fun z hz hx => h.apart z hx hz⟩
theorem Two.to (h : Two B M S U x y) {M' : Mem} (hle : M.le M') : Two B M' S U x y := ⟨h.one.to hle, h.two.to hle, h.apart⟩
theorem Two.aside (h : Two B M S U x y) {f : Nat} {args : List Value} {R : Value → Mem → Prop} (hc : CallsM Tryz.prog f args (M.minus (fun z => hB x z ∨ hB y z)) R) :
    CallsM Tryz.prog f args M fun v M' => ∃ A, R v A ∧ Two A M' S U x y :=
  (hc.frame (Mem.minus_le _ _)).mono fun v M' ⟨A, hR, hle, hk⟩ => by
    have hkk : ∀ z o, (hB x z ∨ hB y z) → M z = Option.some o → M' z = Option.some o ∧ A z = none := fun z o hz ho => hk z o (Mem.minus_in hz) ho
    refine ⟨A, hR, ⟨hle, h.one.at'.mono fun z o hz ho => (hkk z o (.inl hz) ho).1, h.one.inv, h.one.invE, h.one.room, fun z hz => ?_⟩, ⟨hle, h.two.at'.mono fun z o hz ho => (hkk z o (.inr hz) ho).1, h.two.inv, h.two.invE, h.two.room, fun z hz => ?_⟩, h.apart⟩
    · cases e : M z with
      | none => exact absurd e (h.one.some hz)
      | some o => exact (hkk z o (.inl hz) e).2
    · cases e : M z with
      | none => exact absurd e (h.two.some hz)
      | some o => exact (hkk z o (.inr hz) e).2
theorem Two.base (h : Two B M S U x y) : B.le (M.minus (fun z => hB x z ∨ hB y z)) :=
  Mem.le_minus h.one.le fun z hz => by
    rcases hz with hz | hz
    · exact h.one.fresh z hz
    · exact h.two.fresh z hz
/-- the one turns, the other stays -/
theorem Two.turn (h : Two B M S U x y) {M' : Mem} {S' : StR} {x' : Hd} (h' : FreshH (M.minus (hB x)) M' S' x') : Two B M' S' U x' y := by
  have hb := h.one.base.2
  have hk : ∀ z o, hB y z → M z = Option.some o → (M.minus (hB x)) z = Option.some o := fun z o hz ho => by
    unfold Mem.minus; rw [if_neg fun hx => h.apart z hx hz]; exact ho
  refine ⟨⟨Mem.le_trans hb h'.le, h'.at', h'.inv, h'.invE, h'.room, fun z hz => ?_⟩, ⟨Mem.le_trans hb h'.le, h.two.at'.mono fun z o hz ho => h'.le z o (hk z o hz ho), h.two.inv, h.two.invE, h.two.room, h.two.fresh⟩, fun z hz hy => ?_⟩
  · cases e : B z with
    | none => rfl
    | some o => have := hb z o e; rw [h'.fresh z hz] at this; cases this
  · cases e : M z with
    | none => exact h.two.some hy e
    | some o => have := hk z o hy e; rw [h'.fresh z hz] at this; cases this
end Go.Proofs.YtlocjjponfbhmaaGreat

