/- How what a table is made of lies in memory. -/
import Derived.Test.YtankgacaeejlhaaReadsAct18
namespace Go.Proofs.Ytankgacaeejlhaa
open Go Go.Vm
attribute [local irreducible] Brn Ob CallsM inR LoopVC Mem.row Mem.cells Mem.setCells Mem.upd Own AppVC SrcVC StrVC NextVC New SrcOk subA NewSl Mem.textAt Mem.mapAt Mem.iterAt entryOf kfind Wr NewEls Elems
set_option maxRecDepth 10000
open Br
structure SetA where
  me : Int
  nb : List Int
  age : Int
def SetAR (M : Mem) (cs : List Value) (x : SetA) : Prop := ∃ a n c, cs = [.int .i64 x.me, .slice a n c, .int .i64 x.age] ∧ SrcOk M 1 a n (x.nb.map intV) ∧ n ≤ 1048576
theorem rd_set : Reads T.portagelaw18_Set 3 SetAR := fun H enc W fuel cs d ps h hb => by
  obtain ⟨hl, hf⟩ := field Try.underlying44 h hb
  replace hl : cs.length = 3 := hl.trans (by kernel_rfl)
  obtain ⟨-, n0, h0, -⟩ := hf 0 _ rfl 1 rd_int (by kernel_rfl)
  obtain ⟨-, l1, a1, m1, c1, h1, h4, h5, -⟩ := hf 1 _ rfl 1 rd_ints (by kernel_rfl)
  obtain ⟨-, n2, h2, -⟩ := hf 2 _ rfl 1 rd_int (by kernel_rfl)
  exact ⟨hl, ⟨n0, l1, n2⟩, a1, m1, c1, (show Chunks cs 0 [[_], [_], [_]] from ⟨h0, h1, h2, hl⟩).eq, h4, h5⟩
end Go.Proofs.Ytankgacaeejlhaa
