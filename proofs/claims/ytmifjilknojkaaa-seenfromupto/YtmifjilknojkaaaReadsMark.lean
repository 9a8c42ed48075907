/- How lists of marks lie in memory. -/
import Derived.Test.YtmifjilknojkaaaReadsSeen
import Derived.Test.YtmifjilknojkaaaSeenJ
namespace Go.Proofs.Ytmifjilknojkaaa
open Go Go.Vm
attribute [local irreducible] Brn Ob Grow CallsM inR LoopVC Mem.row Mem.cells Mem.setCells Mem.upd Own AppVC SrcVC StrVC NextVC New SrcOk subA NewSl Mem.textAt Mem.mapAt Mem.iterAt entryOf kfind Wr NewEls Elems
set_option maxRecDepth 10000
open Br
def MarkR (M : Mem) (cs : List Value) (x : MkC) : Prop := cs = encM x ∧ SrcOk M 1 x.a x.more.length (x.more.map intV) ∧ x.more.length ≤ 1048576
theorem rd_mark : Reads T.api_Mark 4 MarkR := fun H enc W fuel cs d ps h hb => by
  obtain ⟨hl, hf⟩ := field Try.underlying49 h hb
  replace hl : cs.length = 4 := hl.trans (by kernel_rfl)
  obtain ⟨-, n0, h0, -⟩ := hf 0 _ rfl 1 rd_int (by kernel_rfl)
  obtain ⟨-, n1, h1, -⟩ := hf 1 _ rfl 1 rd_int (by kernel_rfl)
  obtain ⟨-, n2, h2, -⟩ := hf 2 _ rfl 1 rd_int (by kernel_rfl)
  obtain ⟨-, l3, a3, m3, c3, h3, h4, h5, -⟩ := hf 3 _ rfl 1 rd_ints (by kernel_rfl)
  obtain rfl : l3.length = m3 := h4.maplen
  exact ⟨hl, ⟨n0, n1, n2, a3, c3, l3⟩, (show Chunks cs 0 [[_], [_], [_], [_]] from ⟨h0, h1, h2, h3, hl⟩).eq, h4, h5⟩
theorem rd_marks : Reads T.s_api_Mark 1 fun M cs (l : List MkC) => ∃ a n c, cs = [.slice a n c] ∧ MarksR M a n l ∧ n ≤ 1048576 ∧ n ≤ c ∧ ∀ m ∈ l, m.more.length ≤ 1048576 := fun H enc W fuel cs d ps h hb => by
  obtain ⟨h1, l, a, n, c, h2, h3, h4, h5⟩ := Reads.slice Try.underlying44 (by kernel_rfl) (by decide) rd_mark H enc W fuel cs d ps h hb
  have h6 := h3
  unfold Elems at h6
  obtain ⟨css, g1, g2, g3, g4, g5⟩ := h6
  have hall : ∀ m ∈ l, SrcOk (memOf W) 1 m.a m.more.length (m.more.map intV) ∧ m.more.length ≤ 1048576 := fun m hm => by
    obtain ⟨i, hi, rfl⟩ := List.getElem_of_mem hm
    exact (g5 i _ _ (List.getElem?_eq_getElem (by omega)) (List.getElem?_eq_getElem hi)).2
  have hfl : SrcOk (memOf W) 4 a n (l.flatMap encM) := by
    have : css = l.map encM := by
      apply List.ext_getElem (by simp [g2, g3])
      intro i h6 h7
      rw [List.getElem_map]
      exact (g5 i _ _ (List.getElem?_eq_getElem h6) (List.getElem?_eq_getElem (by simpa using h7))).1
    rw [List.flatMap_def, ← this]; exact g1
  exact ⟨h1, l, a, n, c, h2, ⟨hfl, fun m hm => (hall m hm).1⟩, h4, h5, fun m hm => (hall m hm).2⟩
end Go.Proofs.Ytmifjilknojkaaa
