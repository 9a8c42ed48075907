/- Numbers are sorted. -/
import Derived.Test.YtankgacaeejlhaaCodeA
import Derived.Test.YtankgacaeejlhaaVmQ
import Derived.Test.YtankgacaeejlhaaLayI
namespace Go.Proofs.Ytankgacaeejlhaa
open Go Go.Vm Go.Proofs Go.Shelf
theorem sort_ok {M : Mem} {E : TypeId} {a : Option Addr} {n c : Nat} {l : List Int} (h : Wr M E 1 a n c (l.map (Value.int .i64))) (hn : n < 4611686018427387904) :
    CallsM Try.prog F.slices_Sort_int_int [.slice a n c] M fun v M' => v = .tuple #[] ∧ Wr M' E 1 a n c ((sortedI l).map (Value.int .i64)) ∧ Mem.keep (blk a) M M' :=
  sortI_ok Try.lays189 (by kernel_rfl) h hn
end Go.Proofs.Ytankgacaeejlhaa
