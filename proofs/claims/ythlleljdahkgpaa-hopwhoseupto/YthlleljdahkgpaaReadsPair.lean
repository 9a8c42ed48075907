/- How two numbers, one behind the other, lie in memory. -/
import Derived.Test.YthlleljdahkgpaaReadsHop
namespace Go.Proofs.Ythlleljdahkgpaa
open Go Go.Vm
attribute [local irreducible] Brn Ob CallsM inR LoopVC Mem.row Mem.cells Mem.setCells Mem.upd Own AppVC SrcVC StrVC NextVC New SrcOk subA NewSl Mem.textAt Mem.mapAt Mem.iterAt entryOf kfind Wr NewEls Elems
set_option maxRecDepth 10000
open Br
theorem rd_pair : Reads T.a2_int 2 fun (_ : Mem) cs (x : Int × Int) => cs = [.int .i64 x.1, .int .i64 x.2] := fun H enc W fuel cs d ps h hb => by
  obtain ⟨xs, m, -, hd, hl, hlen, hf⟩ := DataW.trod_array Try.underlying37 h
  have hc : Try.prog.cellsOf T.int = 1 := by kernel_rfl
  replace hl : cs.length = 2 := hl.trans (by kernel_rfl)
  cases hd
  have hbi : ∀ (i : Nat) (hi : i < xs.length), Rows.uptoBulk xs[i].1 ≤ 1048576 := fun i hi => by
    have := part_le (List.mem_map.2 ⟨xs[i], List.getElem_mem _, rfl⟩ : xs[i].1 ∈ xs.map (·.1))
    simp only [Rows.uptoBulk] at hb
    exact Nat.le_trans this (by omega)
  have h0 := hf 0 (by decide)
  have h1 := hf 1 (by decide)
  rw [List.getElem?_eq_getElem (by omega), hc] at h0 h1
  obtain ⟨-, n0, e0, -⟩ := rd_int H enc W _ _ _ _ h0 (hbi 0 (by omega))
  obtain ⟨-, n1, e1, -⟩ := rd_int H enc W _ _ _ _ h1 (hbi 1 (by omega))
  exact ⟨hl, (n0, n1), (show Chunks cs 0 [[_], [_]] from ⟨e0, e1, hl⟩).eq⟩
end Go.Proofs.Ythlleljdahkgpaa
