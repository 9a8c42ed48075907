/- How states lie in memory. -/
import Derived.Test.YtlocjjponfbhmaaJoin27
import Derived.Test.YtlocjjponfbhmaaJoin33
namespace Go.Proofs.Ytlocjjponfbhmaa
open Go Go.Vm
attribute [local irreducible] Brn Ob Grow CallsM inR LoopVC Mem.row Mem.cells Mem.setCells Mem.upd Own AppVC SrcVC StrVC NextVC New SrcOk subA NewSl Mem.textAt Mem.mapAt Mem.iterAt entryOf kfind Wr NewEls Elems
set_option maxRecDepth 10000
open Br
theorem elems_flat {α : Type} {M : Mem} {a : Option Addr} {n k : Nat} {f : α → List Value} {l : List α} (h : Elems M k a n (fun cs x => cs = f x) l) : SrcOk M k a n (l.flatMap f) := by
  unfold Elems at h
  obtain ⟨css, h1, h2, h3, _, h5⟩ := h
  have : css = l.map f := by
    apply List.ext_getElem (by simp [h2, h3])
    intro i h6 h7
    rw [List.getElem_map]
    exact h5 i _ _ (List.getElem?_eq_getElem h6) (List.getElem?_eq_getElem (by simpa using h7))
  rw [List.flatMap_def, ← this]; exact h1
def MarkR (M : Mem) (cs : List Value) (x : MkC) : Prop := cs = encM x ∧ SrcOk M 1 x.a x.more.length (x.more.map intV) ∧ x.more.length ≤ 1048576
theorem rd_mark : Reads T.api_Mark 4 MarkR := fun H enc W fuel cs d ps h hb => by
  obtain ⟨hl, hf⟩ := field Try.underlying77 h hb
  replace hl : cs.length = 4 := hl.trans (by kernel_rfl)
  obtain ⟨-, n0, h0, -⟩ := hf 0 _ rfl 1 rd_int (by kernel_rfl)
  obtain ⟨-, n1, h1, -⟩ := hf 1 _ rfl 1 rd_int (by kernel_rfl)
  obtain ⟨-, n2, h2, -⟩ := hf 2 _ rfl 1 rd_int (by kernel_rfl)
  obtain ⟨-, l3, a3, m3, c3, h3, h4, h5, -⟩ := hf 3 _ rfl 1 rd_ints (by kernel_rfl)
  obtain rfl : l3.length = m3 := h4.maplen
  exact ⟨hl, ⟨n0, n1, n2, a3, c3, l3⟩, (show Chunks cs 0 [[_], [_], [_], [_]] from ⟨h0, h1, h2, h3, hl⟩).eq, h4, h5⟩
theorem rd_marks : Reads T.s_api_Mark 1 fun M cs (l : List MkC) => ∃ a n c, cs = [.slice a n c] ∧ MarksR M a n l ∧ n ≤ 1048576 ∧ n ≤ c ∧ ∀ m ∈ l, m.more.length ≤ 1048576 := fun H enc W fuel cs d ps h hb => by
  obtain ⟨h1, l, a, n, c, h2, h3, h4, h5⟩ := Reads.slice Try.underlying72 (by kernel_rfl) (by decide) rd_mark H enc W fuel cs d ps h hb
  have h6 := h3
  unfold Elems at h6
  obtain ⟨css, g1, g2, g3, g4, g5⟩ := h6
  have hall : ∀ m ∈ l, SrcOk (memOf W) 1 m.a m.more.length (m.more.map intV) ∧ m.more.length ≤ 1048576 := fun m hm => by
    obtain ⟨i, hi, rfl⟩ := List.getElem_of_mem hm
    exact (g5 i _ _ (List.getElem?_eq_getElem (by omega)) (List.getElem?_eq_getElem hi)).2
  have hfl : SrcOk (memOf W) 4 a n (l.flatMap encM) := by
    have : css = l.map encM := by
      apply List.ext_getElem (by simp [g2, g3])
      intro i h6 h7
      rw [List.getElem_map]
      exact (g5 i _ _ (List.getElem?_eq_getElem h6) (List.getElem?_eq_getElem (by simpa using h7))).1
    rw [List.flatMap_def, ← this]; exact g1
  exact ⟨h1, l, a, n, c, h2, ⟨hfl, fun m hm => (hall m hm).1⟩, h4, h5, fun m hm => (hall m hm).2⟩

theorem rd_next : Reads T.api_Next 2 fun (_ : Mem) cs (x : Int × Int) => cs = encN x := fun H enc W fuel cs d ps h hb => by
  obtain ⟨hl, hf⟩ := field Try.underlying109 h hb
  replace hl : cs.length = 2 := hl.trans (by kernel_rfl)
  obtain ⟨-, n0, h0, -⟩ := hf 0 _ rfl 1 rd_int (by kernel_rfl)
  obtain ⟨-, n1, h1, -⟩ := hf 1 _ rfl 1 rd_int (by kernel_rfl)
  exact ⟨hl, (n0, n1), (show Chunks cs 0 [[_], [_]] from ⟨h0, h1, hl⟩).eq⟩
theorem rd_nexts : Reads T.s_api_Next 1 fun M cs (l : NxT) => ∃ a n c, cs = [.slice a n c] ∧ SrcOk M 2 a n (l.flatMap encN) ∧ n ≤ 1048576 ∧ n ≤ c := fun H enc W fuel cs d ps h hb => by
  obtain ⟨h1, l, a, n, c, h2, h3, h4⟩ := Reads.slice Try.underlying30 (by kernel_rfl) (by decide) rd_next H enc W fuel cs d ps h hb
  exact ⟨h1, l, a, n, c, h2, elems_flat h3, h4⟩
def MsgR (M : Mem) (cs : List Value) (x : MX) : Prop := cs = encX x ∧ SrcOk M 1 x.a x.p.length (x.p.map byteV) ∧ x.p.length ≤ 1048576
theorem rd_mx : Reads T.api_Msg 5 MsgR := fun H enc W fuel cs d ps h hb => by
  obtain ⟨h1, m, a, c, h2, h3, h4, h5⟩ := rd_msg H enc W fuel cs d ps h hb
  exact ⟨h1, ⟨m.id, a, c, m.p⟩, h2, h3, h4⟩
theorem rd_msgs : Reads T.s_api_Msg 1 fun M cs (l : List MX) => ∃ a n c, cs = [.slice a n c] ∧ MsgsR M a n l ∧ n ≤ 1048576 ∧ n ≤ c ∧ ∀ m ∈ l, m.p.length ≤ 1048576 := fun H enc W fuel cs d ps h hb => by
  obtain ⟨h1, l, a, n, c, h2, h3, h4, h5⟩ := Reads.slice Try.underlying31 (by kernel_rfl) (by decide) rd_mx H enc W fuel cs d ps h hb
  have h6 := h3
  unfold Elems at h6
  obtain ⟨css, g1, g2, g3, g4, g5⟩ := h6
  have hall : ∀ m ∈ l, SrcOk (memOf W) 1 m.a m.p.length (m.p.map byteV) ∧ m.p.length ≤ 1048576 := fun m hm => by
    obtain ⟨i, hi, rfl⟩ := List.getElem_of_mem hm
    exact (g5 i _ _ (List.getElem?_eq_getElem (by omega)) (List.getElem?_eq_getElem hi)).2
  have hfl : SrcOk (memOf W) 5 a n (l.flatMap encX) := by
    have : css = l.map encX := by
      apply List.ext_getElem (by simp [g2, g3])
      intro i h6 h7
      rw [List.getElem_map]
      exact (g5 i _ _ (List.getElem?_eq_getElem h6) (List.getElem?_eq_getElem (by simpa using h7))).1
    rw [List.flatMap_def, ← this]; exact g1
  exact ⟨h1, l, a, n, c, h2, ⟨hfl, fun m hm => (hall m hm).1⟩, h4, h5, fun m hm => (hall m hm).2⟩
structure StatX where
  self : Int
  epoch : Int
  ul : NxT
  ms : List MX
  marks : List MkC
  ua : Option Addr
  un : Nat
  uc : Nat
  ha : Option Addr
  hn : Nat
  hc : Nat
  ma : Option Addr
  mn : Nat
  mc : Nat
theorem rd_state : Reads T.api_State 5 fun M cs (x : StatX) => cs = [.int .i64 x.self, .int .i64 x.epoch, .slice x.ua x.un x.uc, .slice x.ha x.hn x.hc, .slice x.ma x.mn x.mc] ∧ StatR M x.ua x.un x.ha x.hn x.ma x.mn x.ul x.ms x.marks ∧ BigS x.ms x.marks x.un x.hn x.hc x.mn := fun H enc W fuel cs d ps h hb => by
  obtain ⟨hl, hf⟩ := field Try.underlying74 h hb
  replace hl : cs.length = 5 := hl.trans (by kernel_rfl)
  obtain ⟨-, n0, h0, -⟩ := hf 0 _ rfl 1 rd_int (by kernel_rfl)
  obtain ⟨-, n1, h1, -⟩ := hf 1 _ rfl 1 rd_int (by kernel_rfl)
  obtain ⟨-, l2, a2, m2, c2, h2, g2, k2, j2⟩ := hf 2 _ rfl 1 rd_nexts (by kernel_rfl)
  obtain ⟨-, l3, a3, m3, c3, h3, g3, k3, j3, i3⟩ := hf 3 _ rfl 1 rd_msgs (by kernel_rfl)
  obtain ⟨-, l4, a4, m4, c4, h4, g4, k4, j4, i4⟩ := hf 4 _ rfl 1 rd_marks (by kernel_rfl)
  exact ⟨hl, ⟨n0, n1, l2, l3, l4, a2, m2, c2, a3, m3, c3, a4, m4, c4⟩, (show Chunks cs 0 [[_], [_], [_], [_], [_]] from ⟨h0, h1, h2, h3, h4, hl⟩).eq, ⟨g2, g3, g4, fun m hm => Nat.le_trans (i4 m hm) (by decide), by dsimp only; omega⟩, ⟨k2, k3, j3, k4, i3, i4⟩⟩
end Go.Proofs.Ytlocjjponfbhmaa

