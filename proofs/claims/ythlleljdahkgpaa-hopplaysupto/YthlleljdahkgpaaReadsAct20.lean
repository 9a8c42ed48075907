/- How a call of a desk, as the laws have it, lies in memory. -/
import Derived.Test.YthlleljdahkgpaaReadsHop
namespace Go.Proofs.Ythlleljdahkgpaa
open Go Go.Vm
attribute [local irreducible] Brn Ob Grow CallsM inR LoopVC Mem.row Mem.cells Mem.setCells Mem.upd Own AppVC SrcVC StrVC NextVC New SrcOk subA NewSl Mem.textAt Mem.mapAt Mem.iterAt entryOf kfind Wr NewEls Elems
set_option maxRecDepth 10000
open Br
theorem rd_msgs : Reads T.s_api_Msg 1 fun M cs (l : List Msg) => ∃ a n c, cs = [.slice a n c] ∧ Elems M 5 a n (MsgR M) l ∧ n ≤ 1048576 ∧ n ≤ c := fun H enc W fuel cs d ps h hb =>
  Reads.slice Try.underlying41 (by kernel_rfl) (by decide) rd_msg H enc W fuel cs d ps h hb
structure Act where
  kind : Int
  held : List Msg
  via : List Int
  up : List Int
  frm : Int
  n : Int
  id : Id
def ActR (M : Mem) (cs : List Value) (x : Act) : Prop := ∃ a1 a2 a3 n1 n2 n3 c1 c2 c3, cs = [.int .i64 x.kind, .slice a1 n1 c1, .slice a2 n2 c2, .slice a3 n3 c3, .int .i64 x.frm, .int .i64 x.n, .int .i64 x.id.o, .int .i64 x.id.d, .int .i64 x.id.e, .int .i64 x.id.c] ∧
  Elems M 5 a1 n1 (MsgR M) x.held ∧ n1 ≤ 1048576 ∧ SrcOk M 1 a2 n2 (x.via.map intV) ∧ n2 ≤ 1048576 ∧ SrcOk M 1 a3 n3 (x.up.map intV) ∧ n3 ≤ 1048576
theorem rd_act : Reads T.portagelaw20_Act 10 ActR := fun H enc W fuel cs d ps h hb => by
  obtain ⟨hl, hf⟩ := field Try.underlying60 h hb
  replace hl : cs.length = 10 := hl.trans (by kernel_rfl)
  obtain ⟨-, n0, h0, -⟩ := hf 0 _ rfl 1 rd_int (by kernel_rfl)
  obtain ⟨-, l1, a1, m1, c1, h1, h2, h3, -⟩ := hf 1 _ rfl 1 rd_msgs (by kernel_rfl)
  obtain ⟨-, l2, a2, m2, c2, h4, h5, h6, -⟩ := hf 2 _ rfl 1 rd_ints (by kernel_rfl)
  obtain ⟨-, l3, a3, m3, c3, h7, h8, h9, -⟩ := hf 3 _ rfl 1 rd_ints (by kernel_rfl)
  obtain ⟨-, n4, h10, -⟩ := hf 4 _ rfl 1 rd_int (by kernel_rfl)
  obtain ⟨-, n5, h11, -⟩ := hf 5 _ rfl 1 rd_int (by kernel_rfl)
  obtain ⟨-, i, h12⟩ := hf 6 _ rfl 4 rd_id (by kernel_rfl)
  exact ⟨hl, ⟨n0, l1, l2, l3, n4, n5, i⟩, a1, a2, a3, m1, m2, m3, c1, c2, c3, (show Chunks cs 0 [[_], [_], [_], [_], [_], [_], [_, _, _, _]] from ⟨h0, h1, h4, h7, h10, h11, h12, hl⟩).eq, h2, h3, h5, h6, h8, h9⟩
theorem rd_acts : Reads T.s_portagelaw20_Act 1 fun M cs (l : List Act) => ∃ a n c, cs = [.slice a n c] ∧ Elems M 10 a n (ActR M) l ∧ n ≤ 1048576 ∧ n ≤ c := fun H enc W fuel cs d ps h hb =>
  Reads.slice Try.underlying57 (by kernel_rfl) (by decide) rd_act H enc W fuel cs d ps h hb
end Go.Proofs.Ythlleljdahkgpaa
