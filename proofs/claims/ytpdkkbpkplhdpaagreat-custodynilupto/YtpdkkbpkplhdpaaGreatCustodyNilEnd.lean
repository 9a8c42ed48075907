/- CustodyNil: a nil custody has nothing: for every call of bulk at most 1048576 the law returns true, and the call reads as before. -/
import Derived.Test.YtpdkkbpkplhdpaaGreatJ25
import Derived.Test.YtpdkkbpkplhdpaaGreatJ7
namespace Go.Proofs.YtpdkkbpkplhdpaaGreat
open Go Go.Vm
attribute [local irreducible] Brn Ob Grow CallsM inR LoopVC LoopVC0 Mem.row Mem.cells Mem.setCells Mem.upd Go.Vm.Own AppVC SrcVC StrVC NextVC New SrcOk subA NewSl Mem.textAt Mem.mapAt Mem.iterAt entryOf kfind Wr NewEls Elems
set_option maxRecDepth 10000
variable {A M M' : Mem}
@[reducible] def nl : Value := .pointer none
theorem cnil_ready : CallsM Tryz.prog F.custody_Custody_ready [nl] M fun v M' => v = .int .i64 7 ∧ M = M' := by
  refine fo_custody_Custody_ready (by simp) ?_
  refine zR ?_
  exact ⟨rfl, rfl⟩
theorem cnil_put (k : Int) (i : IdT) (a : Option Addr) (n c : Nat) (s : Bool) : CallsM Tryz.prog F.custody_Custody_put [nl, evV k i a n c, .bool s] M fun v M' => v = .int .i64 7 ∧ M = M' := by
  refine fo_custody_Custody_put (by simp) ?_
  refine zR ?_
  refine cnil_ready.mono ?_
  rintro v _ ⟨rfl, rfl⟩
  refine zR ?_
  exact ⟨rfl, rfl⟩
theorem cnil_submit (d : Int) (a : Option Addr) (n c : Nat) : CallsM Tryz.prog F.custody_Custody_Submit [nl, .int .i64 d, .slice a n c] M fun v M' => v = .tuple #[idA zeroI, .int .i64 7] ∧ M = M' := by
  refine fo_custody_Custody_Submit (by simp) ?_
  refine zR ?_
  refine cnil_ready.mono ?_
  rintro v _ ⟨rfl, rfl⟩
  refine zR ?_
  exact ⟨rfl, rfl⟩
theorem cnil_hold (i : IdT) (a : Option Addr) (n c : Nat) : CallsM Tryz.prog F.custody_Custody_Hold [nl, .agg #[.int .i64 i.o, .int .i64 i.d, .int .i64 i.e, .int .i64 i.c, .slice a n c]] M fun v M' => v = .int .i64 7 ∧ M = M' := by
  refine fo_custody_Custody_Hold (by simp) ?_
  refine zR ?_
  refine (cnil_put 2 i a n c true).mono ?_
  rintro v _ ⟨rfl, rfl⟩
  refine zR ?_
  exact ⟨rfl, rfl⟩
theorem cnil_release (i : IdT) : CallsM Tryz.prog F.custody_Custody_Release [nl, idA i] M fun v M' => v = .int .i64 7 ∧ M = M' := by
  refine fo_custody_Custody_Release (by simp) ?_
  refine zR ?_
  refine (cnil_put 3 i none 0 0 false).mono ?_
  rintro v _ ⟨rfl, rfl⟩
  refine zR ?_
  exact ⟨rfl, rfl⟩
theorem cnil_deliver (i : IdT) : CallsM Tryz.prog F.custody_Custody_Deliver [nl, idA i] M fun v M' => v = .int .i64 7 ∧ M = M' := by
  refine fo_custody_Custody_Deliver (by simp) ?_
  refine zR ?_
  refine (cnil_put 4 i none 0 0 true).mono ?_
  rintro v _ ⟨rfl, rfl⟩
  refine zR ?_
  exact ⟨rfl, rfl⟩
theorem cnil_compact : CallsM Tryz.prog F.custody_Custody_Compact [nl] M fun v M' => v = .int .i64 7 ∧ M = M' := by
  refine fo_custody_Custody_Compact (by simp) ?_
  refine zR ?_
  refine cnil_ready.mono ?_
  rintro v _ ⟨rfl, rfl⟩
  refine zR ?_
  exact ⟨rfl, rfl⟩
theorem cnil_state : CallsM Tryz.prog F.custody_Custody_State [nl] M fun v M' => v = statV 0 0 none 0 0 none 0 0 none 0 0 ∧ M = M' := by
  refine fo_custody_Custody_State (by simp) ?_
  refine zR ?_
  exact ⟨rfl, rfl⟩
theorem cnil_held : CallsM Tryz.prog F.custody_Custody_Held [nl] M fun v M' => v = .slice none 0 0 ∧ M = M' := by
  refine fo_custody_Custody_Held (by simp) ?_
  refine zR ?_
  exact ⟨rfl, rfl⟩
theorem cnil_find (i : IdT) : CallsM Tryz.prog F.custody_Custody_Find [nl, idA i] M fun v M' => v = .tuple #[.agg #[.int .i64 0, .int .i64 0, .int .i64 0, .int .i64 0, .slice none 0 0], .bool false] ∧ M = M' := by
  refine fo_custody_Custody_Find (by simp) ?_
  refine zR ?_
  exact ⟨rfl, rfl⟩
theorem cnil_seen (i : IdT) : CallsM Tryz.prog F.custody_Custody_Seen [nl, idA i] M fun v M' => v = .bool false ∧ M = M' := by
  refine fo_custody_Custody_Seen (by simp) ?_
  repeat' ((conv => whnf); first | refine ⟨?_, True.intro⟩ | refine ⟨?_, ?_, True.intro⟩ | refine brn_t rfl ?_ | refine brn_f rfl ?_ | refine ob rfl ?_ | refine ob (by decide) ?_ | refine grow_same (Mem.le_refl _) ?_ | refine ob (Mem.le_refl _) ?_ | refine ⟨_, Mem.le_refl _, ?_⟩ | fail)
  all_goals exact ⟨rfl, rfl⟩
theorem cnil_size : CallsM Tryz.prog F.custody_Custody_Size [nl] M fun v M' => v = .int .i64 0 ∧ M = M' := by
  refine fo_custody_Custody_Size (by simp) ?_
  refine zR ?_
  exact ⟨rfl, rfl⟩
theorem cnil_failed : CallsM Tryz.prog F.custody_Custody_Failed [nl] M fun v M' => v = .bool true ∧ M = M' := by
  refine fo_custody_Custody_Failed (by simp) ?_
  refine zR ?_
  exact ⟨rfl, rfl⟩
theorem cnil_open (me a b d s : Int) : CallsM Tryz.prog F.custody_Open [nl, .int .i64 me, .agg #[.int .i64 a, .int .i64 b, .int .i64 d], .int .i64 s] M fun v M' => v = .tuple #[nl, .int .i64 7] ∧ M = M' := by
  refine fo_custody_Open (by simp) ?_
  refine zR ?_
  exact ⟨rfl, rfl⟩
structure ActX where
  kind : Int
  n : Int
  id : IdT
  p : List UInt8
  keep : List Int
@[reducible] def actX (x : ActX) (a1 : Option Addr) (c1 : Nat) (a2 : Option Addr) (n2 c2 : Nat) : List Value := [.int .i64 x.kind, .int .i64 x.n, .int .i64 x.id.o, .int .i64 x.id.d, .int .i64 x.id.e, .int .i64 x.id.c, .slice a1 x.p.length c1, .slice a2 n2 c2]
def ActR (M : Mem) (cs : List Value) (x : ActX) : Prop := ∃ a1 c1 a2 n2 c2, cs = actX x a1 c1 a2 n2 c2 ∧ SrcOk M 1 a1 x.p.length (x.p.map byteV) ∧ x.p.length ≤ 1048576 ∧ x.p.length ≤ c1 ∧ SrcOk M 1 a2 n2 (x.keep.map intV) ∧ n2 ≤ 1048576 ∧ (-9223372036854775808 ≤ x.n ∧ x.n ≤ 9223372036854775807)
structure SetX where
  me : Int
  qh : Int
  qb : Int
  qg : Int
  seg : Int
  limit : Int
@[reducible] def setX (x : SetX) : List Value := [.int .i64 x.me, .int .i64 x.qh, .int .i64 x.qb, .int .i64 x.qg, .int .i64 x.seg, .int .i64 x.limit]
set_option maxRecDepth 100000 in
theorem nil_law (x : ActX) (s : SetX) (a1 : Option Addr) (c1 : Nat) (a2 : Option Addr) (n2 c2 : Nat) : CallsM Tryz.prog F.law17_CustodyNil [.agg (actX x a1 c1 a2 n2 c2).toArray, .agg (setX s).toArray] M fun v M' => v = .bool true ∧ M.le M' := by
  refine fo_law17_CustodyNil (by simp) ?_
  have hst : StatR M none 0 none 0 none 0 [] [] [] := ⟨SrcOk.nil _ _, ⟨SrcOk.nil _ _, by simp⟩, ⟨SrcOk.nil _ _, by simp⟩, (fun m hm => by cases hm), by omega⟩
  refine zR ?_
  refine (cnil_submit x.n _ _ _).mono ?_
  rintro v _ ⟨rfl, rfl⟩
  refine zR ?_
  refine (cnil_find x.id).mono ?_
  rintro v _ ⟨rfl, rfl⟩
  refine zR ?_
  refine (cnil_open s.me _ _ _ _).mono ?_
  rintro v _ ⟨rfl, rfl⟩
  refine zR ?_
  refine (cnil_hold x.id _ _ _).mono ?_
  rintro v _ ⟨rfl, rfl⟩
  refine zR ?_
  refine (cnil_release x.id).mono ?_
  rintro v _ ⟨rfl, rfl⟩
  refine zR ?_
  refine (cnil_deliver x.id).mono ?_
  rintro v _ ⟨rfl, rfl⟩
  refine zR ?_
  refine cnil_compact.mono ?_
  rintro v _ ⟨rfl, rfl⟩
  refine zR ?_
  refine cnil_state.mono ?_
  rintro v _ ⟨rfl, rfl⟩
  refine zR ?_
  refine (sameState_ok 0 0 hst hst rfl rfl _ _ _ _ _ _).mono ?_
  rintro v _ ⟨rfl, rfl⟩
  refine zR ?_
  refine cnil_held.mono ?_
  rintro v _ ⟨rfl, rfl⟩
  (conv => whnf); refine brn_t (by decide) ?_
  refine zR ?_
  refine (sameMsgR_ok 0 0 0 0 0 0 0 0 none none 0 0 0 0 M [] [] (SrcOk.nil _ _) (SrcOk.nil _ _)).mono ?_
  rintro v _ ⟨rfl, rfl⟩
  refine zR ?_
  refine (cnil_seen x.id).mono ?_
  rintro v _ ⟨rfl, rfl⟩
  refine zR ?_
  refine cnil_size.mono ?_
  rintro v _ ⟨rfl, rfl⟩
  refine zR ?_
  refine cnil_failed.mono ?_
  rintro v _ ⟨rfl, rfl⟩
  refine zR ?_
  refine awake_ok.mono ?_
  rintro v M2 ⟨rfl, hle⟩
  refine zR ?_
  exact ⟨rfl, hle⟩
end Go.Proofs.YtpdkkbpkplhdpaaGreat
namespace Go.Proofs.YtpdkkbpkplhdpaaGreat
open Go Go.Vm
attribute [local irreducible] Brn Ob Grow CallsM inR LoopVC LoopVC0 Mem.row Mem.cells Mem.setCells Mem.upd Go.Vm.Own AppVC SrcVC StrVC NextVC New SrcOk subA NewSl Mem.textAt Mem.mapAt Mem.iterAt entryOf kfind Wr NewEls Elems
set_option maxRecDepth 10000
open Br
theorem rd_int : Reads T.int 1 fun (_ : Mem) cs (n : Int) => cs = [.int .i64 n] ∧ inKind .i64 n := Reads.int (by kernel_rfl)
theorem rd_byte : Reads T.uint8 1 fun (_ : Mem) cs (n : Int) => cs = [.int .u8 n] ∧ inKind .u8 n := Reads.int (by kernel_rfl)
theorem elems_map {α : Type} {M : Mem} {a : Option Addr} {n : Nat} {R : List Value → α → Prop} {l : List α} {β : Type} (f : β → Value) (h : Elems M 1 a n R l) (hR : ∀ cs x, R cs x → ∃ y, cs = [f y]) : ∃ l' : List β, SrcOk M 1 a n (l'.map f) := by
  unfold Elems at h
  obtain ⟨css, h1, h2, h3, h4, h5⟩ := h
  have : ∃ l' : List β, css.flatten = l'.map f := by
    clear h1 h4
    induction css generalizing l n with
    | nil => exact ⟨[], rfl⟩
    | cons cs r ih =>
      match l, h3 with
      | [], h3 => simp at h2 h3; omega
      | x :: l, h3 =>
        obtain ⟨y, hy⟩ := hR cs x (h5 0 cs x rfl rfl)
        obtain ⟨l', hl'⟩ := ih (n := n - 1) (l := l) (by simp at h2; omega) (by simp at h3; omega) (fun i c z hi hz => h5 (i + 1) c z (by simpa using hi) (by simpa using hz))
        exact ⟨y :: l', by simp [hy, hl']⟩
  obtain ⟨l', e⟩ := this
  exact ⟨l', e ▸ h1⟩
theorem byte_of {n : Int} (h : inKind .u8 n) : Value.int .u8 n = byteV (UInt8.ofNat n.toNat) := by
  have := bounds_u8 h
  simp only [byteV]
  congr 1
  simp
  omega
theorem rd_bytes : Reads T.s_uint8 1 fun M cs (l : List UInt8) => ∃ a n c, cs = [.slice a n c] ∧ SrcOk M 1 a n (l.map byteV) ∧ n ≤ 1048576 ∧ n ≤ c := fun H enc W fuel cs d ps h hb => by
  obtain ⟨h1, l, a, n, c, h2, h3, h4⟩ := Reads.slice (t := T.s_uint8) (e := T.uint8) (by kernel_rfl) (by kernel_rfl) (by decide) rd_byte H enc W fuel cs d ps h hb
  obtain ⟨l', h5⟩ := elems_map byteV h3 (fun cs x hx => ⟨_, hx.1.trans (by rw [byte_of hx.2])⟩)
  exact ⟨h1, l', a, n, c, h2, h5, h4⟩
theorem rd_ints : Reads T.s_int 1 fun M cs (l : List Int) => ∃ a n c, cs = [.slice a n c] ∧ SrcOk M 1 a n (l.map intV) ∧ n ≤ 1048576 ∧ n ≤ c := fun H enc W fuel cs d ps h hb => by
  obtain ⟨h1, l, a, n, c, h2, h3, h4⟩ := Reads.slice (t := T.s_int) (e := T.int) (by kernel_rfl) (by kernel_rfl) (by decide) rd_int H enc W fuel cs d ps h hb
  obtain ⟨l', h5⟩ := elems_map intV h3 (fun cs x hx => ⟨x, hx.1⟩)
  exact ⟨h1, l', a, n, c, h2, h5, h4⟩
theorem rd_id : Reads T.api_Id 4 fun (_ : Mem) cs (i : IdT) => cs = idCs i := fun H enc W fuel cs d ps h hb => by
  obtain ⟨hl, hf⟩ := field Tryz.underlying35 h hb
  replace hl : cs.length = 4 := hl.trans (by kernel_rfl)
  obtain ⟨-, n0, h0, -⟩ := hf 0 _ rfl 1 rd_int (by kernel_rfl)
  obtain ⟨-, n1, h1, -⟩ := hf 1 _ rfl 1 rd_int (by kernel_rfl)
  obtain ⟨-, n2, h2, -⟩ := hf 2 _ rfl 1 rd_int (by kernel_rfl)
  obtain ⟨-, n3, h3, -⟩ := hf 3 _ rfl 1 rd_int (by kernel_rfl)
  exact ⟨hl, ⟨n0, n1, n2, n3⟩, (show Chunks cs 0 [[_], [_], [_], [_]] from ⟨h0, h1, h2, h3, hl⟩).eq⟩
theorem rd_msg : Reads T.api_Msg 5 fun M cs (m : MsgD) => ∃ a c, cs = [.int .i64 m.id.o, .int .i64 m.id.d, .int .i64 m.id.e, .int .i64 m.id.c, .slice a m.p.length c] ∧ SrcOk M 1 a m.p.length (m.p.map byteV) ∧ m.p.length ≤ 1048576 ∧ m.p.length ≤ c := fun H enc W fuel cs d ps h hb => by
  obtain ⟨hl, hf⟩ := field Tryz.underlying38 h hb
  replace hl : cs.length = 5 := hl.trans (by kernel_rfl)
  obtain ⟨-, n0, h0⟩ := hf 0 _ rfl 4 rd_id (by kernel_rfl)
  obtain ⟨-, l, a, n, c, h1, h2, h3, h4⟩ := hf 1 _ rfl 1 rd_bytes (by kernel_rfl)
  obtain rfl := h2.maplen
  exact ⟨hl, ⟨n0, l⟩, a, c, (show Chunks cs 0 [[_, _, _, _], [_]] from ⟨h0, h1, hl⟩).eq, h2, h3, h4⟩
theorem rd_actX : Reads T.portagelaw17_Act 8 fun M cs (x : ActX) => ActR M cs x := fun H enc W fuel cs d ps h hb => by
  obtain ⟨hl, hf⟩ := field Tryz.underlying40 h hb
  replace hl : cs.length = 8 := hl.trans (by kernel_rfl)
  obtain ⟨-, n0, h0, -⟩ := hf 0 _ rfl 1 rd_int (by kernel_rfl)
  obtain ⟨-, n1, h1, g1⟩ := hf 1 _ rfl 1 rd_int (by kernel_rfl)
  obtain ⟨-, m, a3, c3, h3, g3, g4, g5⟩ := hf 2 _ rfl 5 rd_msg (by kernel_rfl)
  obtain ⟨-, l5, a5, m5, c5, h5, g6, g7, -⟩ := hf 3 _ rfl 1 rd_ints (by kernel_rfl)
  exact ⟨hl, ⟨n0, n1, m.id, m.p, l5⟩, a3, c3, a5, m5, c5, (show Chunks cs 0 [[_], [_], [_, _, _, _, _], [_]] from ⟨h0, h1, h3, h5, hl⟩).eq, g3, g4, g5, g6, g7, bounds_i64 g1⟩
theorem rd_quota : Reads T.api_Quota 3 fun (_ : Mem) cs (q : Int × Int × Int) => cs = [.int .i64 q.1, .int .i64 q.2.1, .int .i64 q.2.2] := fun H enc W fuel cs d ps h hb => by
  obtain ⟨hl, hf⟩ := field Tryz.underlying23 h hb
  replace hl : cs.length = 3 := hl.trans (by kernel_rfl)
  obtain ⟨-, n0, h0, -⟩ := hf 0 _ rfl 1 rd_int (by kernel_rfl)
  obtain ⟨-, n1, h1, -⟩ := hf 1 _ rfl 1 rd_int (by kernel_rfl)
  obtain ⟨-, n2, h2, -⟩ := hf 2 _ rfl 1 rd_int (by kernel_rfl)
  exact ⟨hl, ⟨n0, n1, n2⟩, (show Chunks cs 0 [[_], [_], [_]] from ⟨h0, h1, h2, hl⟩).eq⟩
theorem rd_setX : Reads T.portagelaw17_Set 6 fun (_ : Mem) cs (x : SetX) => cs = setX x := fun H enc W fuel cs d ps h hb => by
  obtain ⟨hl, hf⟩ := field Tryz.underlying25 h hb
  replace hl : cs.length = 6 := hl.trans (by kernel_rfl)
  obtain ⟨-, n0, h0, -⟩ := hf 0 _ rfl 1 rd_int (by kernel_rfl)
  obtain ⟨-, q, h1⟩ := hf 1 _ rfl 3 rd_quota (by kernel_rfl)
  obtain ⟨-, n2, h2, -⟩ := hf 2 _ rfl 1 rd_int (by kernel_rfl)
  obtain ⟨-, n3, h3, -⟩ := hf 3 _ rfl 1 rd_int (by kernel_rfl)
  exact ⟨hl, ⟨n0, q.1, q.2.1, q.2.2, n2, n3⟩, (show Chunks cs 0 [[_], [_, _, _], [_], [_]] from ⟨h0, h1, h2, h3, hl⟩).eq⟩
end Go.Proofs.YtpdkkbpkplhdpaaGreat
namespace Go.Proofs.YtpdkkbpkplhdpaaGreat.custodyNil
open Go.ChangeShapes Go.WideShapes Go.ChangeAt Go.RowKit Go.Vm Go.Proofs.YtpdkkbpkplhdpaaGreat.Br
set_option linter.unusedVariables false
set_option maxRecDepth 100000
theorem contract (H : Type) (enc : TypeId × Value → H) (W : World) (base : Nat) (args : Array Value) (ds gs : List (DataW H)) (before : List MemPlace)
    (hval : ∀ (j : Nat) t v, Tryz.f7.params[j]? = some t → args[j]? = some v → Value.okWide Tryz.prog W .any base t v)
    (hW : DataW.Whole enc Tryz.prog Tryz.f7.params.toList Rows.custodyNilSpec.vars false W args.toList ds gs before) (hk : Rows.uptoSmall H (ds ++ gs) = true) :
    Calls Tryz.prog F.law17_CustodyNil args W fun e W' => ∃ v, e = .returned v ∧ Rows.custodyNilSpec.post enc Tryz.prog Tryz.f7 false true false false W args v W' := by
  refine close (s := Rows.custodyNilSpec) (fn := Tryz.f7) (fun H ds h => by match ds, h with | [d0, d1], _ => exact ⟨rfl, rfl, rfl⟩) rfl rfl (by kernel_rfl) H enc W args ds gs before hW ?_
  obtain ⟨p, q, hA, hV, -, -, -⟩ := hW
  obtain ⟨rfl, rfl⟩ := trodVars_none hV
  have hb := small hk
  rw [Tryz.params7] at hA hval
  obtain ⟨v0, vs0, d0, ds0, p0, q0, hargs0, rfl, rfl, ⟨n0, h0⟩, r0⟩ := trodAll_cons hA
  obtain ⟨v1, vs1, d1, ds1, p1, q1, hargs1, rfl, rfl, ⟨n1, h1⟩, r1⟩ := trodAll_cons r0
  obtain ⟨rfl, rfl, rfl⟩ := trodAll_nil r1
  subst hargs1
  obtain rfl : args = #[v0, v1] := by cases args; simp_all
  obtain ⟨-, x, a1, c1, a2, n2, c2, hx, hx1, hx2, hx3, hx4, hx5, hx6⟩ := rd_actX H enc W _ _ _ _ h0 (hb _ (by simp))
  have hv0 := hval 0 _ v0 rfl rfl
  have hv := arg_struct Tryz.underlying40 hv0
  rw [hx] at hv
  subst hv
  obtain ⟨-, s, hs⟩ := rd_setX H enc W _ _ _ _ h1 (hb _ (by simp))
  have hv1 := hval 1 _ v1 rfl rfl
  have hw := arg_struct Tryz.underlying25 hv1
  rw [hs] at hw
  subst hw
  exact nil_law x s _ _ _ _ _
set_option maxRecDepth 100000 in
theorem lifted (os : Os) (started : os.Started) (H : Type) (enc : TypeId × Value → H) (F : Stop.Interp) :
    ReturnsInHanded {} Tryz.checked os 7 .any ((Rows.OpenSpec.upto Rows.custodyNilSpec).pre6 enc Tryz.prog Tryz.f7 Rows.custodyNilUptoRow.domain false) (((Rows.OpenSpec.upto Rows.custodyNilSpec).at F).post enc Tryz.prog Tryz.f7 false true false false) := by
  refine returnsInHanded_of_cond (C := Tryz.checked) (s := Rows.OpenSpec.upto Rows.custodyNilSpec) (k := Rows.uptoSmall) rfl own started (by kernel_rfl) Tryz.func7
    (OpenSpec.witness (enc := enc) (C := Tryz.checked) (s := Rows.OpenSpec.upto Rows.custodyNilSpec) (k := Rows.uptoSmall) rfl false ⟨#[], #[.agg #[.int .i64 0, .int .i64 0, .int .i64 0, .int .i64 0, .int .i64 0, .int .i64 0, .slice none 0 0, .slice none 0 0], .agg #[.int .i64 0, .int .i64 0, .int .i64 0, .int .i64 0, .int .i64 0, .int .i64 0]], []⟩ 12 (by kernel_rfl) (by kernel_rfl) (by kernel_rfl)
      (x := ([.agg [.lit (.int .i64 0), .lit (.int .i64 0), .agg [.agg [.lit (.int .i64 0), .lit (.int .i64 0), .lit (.int .i64 0), .lit (.int .i64 0)], .nil], .nil], .agg [.lit (.int .i64 0), .agg [.lit (.int .i64 0), .lit (.int .i64 0), .lit (.int .i64 0)], .lit (.int .i64 0), .lit (.int .i64 0)]], [], [])) (by kernel_rfl) rfl (by kernel_rfl)) ?_
  intro W base args ds gs before hval hW _ hk _
  exact contract H enc W base args ds gs before hval hW hk
theorem over : Rows.custodyNilUptoRow.holds Tryz.pinned (Rows.OpenSpec.upto Rows.custodyNilSpec) :=
  OpenClaim.holds_of_cond 7 Tryz.f7 rfl rfl rfl rfl rfl rfl rfl ⟨rfl, rfl, rfl, rfl, rfl⟩ rfl rfl rfl rfl rfl (by kernel_rfl) Tryz.func7 (by kernel_rfl)
    (of_decide_eq_true (by kernel_rfl)) (by unfold Func.isWrapper; first | (rw [if_pos (by decide +kernel)]; kernel_rfl) | (rw [if_neg (by decide +kernel)]; exact ⟨rfl, rfl⟩))
    (fun os started H enc _ F => lifted os started H enc F)
theorem proved : Rows.CustodyNilUptoSaid :=
  over
end Go.Proofs.YtpdkkbpkplhdpaaGreat.custodyNil
