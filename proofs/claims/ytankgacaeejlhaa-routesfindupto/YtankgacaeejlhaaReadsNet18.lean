/- How a net lies in memory: how many nodes, and links. -/
import Derived.Test.YtankgacaeejlhaaReadsAct18
namespace Go.Proofs.Ytankgacaeejlhaa
open Go Go.Vm
attribute [local irreducible] Brn Ob CallsM inR LoopVC Mem.row Mem.cells Mem.setCells Mem.upd Own AppVC SrcVC StrVC NextVC New SrcOk subA NewSl Mem.textAt Mem.mapAt Mem.iterAt entryOf kfind Wr NewEls Elems
set_option maxRecDepth 10000
open Br
theorem rd_net : Reads T.portagelaw18_Net 2 fun (_ : Mem) cs (x : Int × Int) => cs = [.int .i64 x.1, .int .u64 x.2] := fun H enc W fuel cs d ps h hb => by
  obtain ⟨hl, hf⟩ := field Try.underlying24 h hb
  replace hl : cs.length = 2 := hl.trans (by kernel_rfl)
  obtain ⟨-, n0, h0, -⟩ := hf 0 _ rfl 1 rd_int (by kernel_rfl)
  obtain ⟨-, n1, h1, -⟩ := hf 1 _ rfl 1 (Reads.int (k := .u64) (by kernel_rfl)) (by kernel_rfl)
  exact ⟨hl, (n0, n1), (show Chunks cs 0 [[_], [_]] from ⟨h0, h1, hl⟩).eq⟩
end Go.Proofs.Ytankgacaeejlhaa
