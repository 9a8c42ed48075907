/- How the arguments of this layer's laws lie in memory: numbers, ids, marks. -/
import Derived.Test.YtmifjilknojkaaaBridge
import Derived.Test.YtmifjilknojkaaaSeenF
namespace Go.Proofs.Ytmifjilknojkaaa
open Go Go.Vm
attribute [local irreducible] Brn Ob Grow CallsM inR LoopVC Mem.row Mem.cells Mem.setCells Mem.upd Own AppVC SrcVC StrVC NextVC New SrcOk subA NewSl Mem.textAt Mem.mapAt Mem.iterAt entryOf kfind Wr NewEls Elems
set_option maxRecDepth 10000
open Br
theorem rd_int : Reads T.int 1 fun (_ : Mem) cs (n : Int) => cs = [.int .i64 n] ∧ inKind .i64 n := Reads.int (by kernel_rfl)
theorem elems_map {α : Type} {M : Mem} {a : Option Addr} {n : Nat} {R : List Value → α → Prop} {l : List α} {β : Type} (f : β → Value) (h : Elems M 1 a n R l) (hR : ∀ cs x, R cs x → ∃ y, cs = [f y]) : ∃ l' : List β, SrcOk M 1 a n (l'.map f) := by
  unfold Elems at h
  obtain ⟨css, h1, h2, h3, h4, h5⟩ := h
  have : ∃ l' : List β, css.flatten = l'.map f := by
    clear h1 h4
    induction css generalizing l n with
    | nil => exact ⟨[], rfl⟩
    | cons cs r ih =>
      match l, h3 with
      | [], h3 => simp at h2 h3; omega
      | x :: l, h3 =>
        obtain ⟨y, hy⟩ := hR cs x (h5 0 cs x rfl rfl)
        obtain ⟨l', hl'⟩ := ih (n := n - 1) (l := l) (by simp at h2; omega) (by simp at h3; omega) (fun i c z hi hz => h5 (i + 1) c z (by simpa using hi) (by simpa using hz))
        exact ⟨y :: l', by simp [hy, hl']⟩
  obtain ⟨l', e⟩ := this
  exact ⟨l', e ▸ h1⟩
/-- numbers -/
theorem rd_ints : Reads T.s_int 1 fun M cs (l : List Int) => ∃ a n c, cs = [.slice a n c] ∧ SrcOk M 1 a n (l.map intV) ∧ n ≤ 1048576 ∧ n ≤ c := fun H enc W fuel cs d ps h hb => by
  obtain ⟨h1, l, a, n, c, h2, h3, h4⟩ := Reads.slice (t := T.s_int) (e := T.int) (by kernel_rfl) (by kernel_rfl) (by decide) rd_int H enc W fuel cs d ps h hb
  obtain ⟨l', h5⟩ := elems_map intV h3 (fun cs x hx => ⟨x, hx.1⟩)
  exact ⟨h1, l', a, n, c, h2, h5, h4⟩
theorem rd_id : Reads T.api_Id 4 fun (_ : Mem) cs (i : IdT) => cs = idCs i := fun H enc W fuel cs d ps h hb => by
  obtain ⟨hl, hf⟩ := field Try.underlying24 h hb
  replace hl : cs.length = 4 := hl.trans (by kernel_rfl)
  obtain ⟨-, n0, h0, -⟩ := hf 0 _ rfl 1 rd_int (by kernel_rfl)
  obtain ⟨-, n1, h1, -⟩ := hf 1 _ rfl 1 rd_int (by kernel_rfl)
  obtain ⟨-, n2, h2, -⟩ := hf 2 _ rfl 1 rd_int (by kernel_rfl)
  obtain ⟨-, n3, h3, -⟩ := hf 3 _ rfl 1 rd_int (by kernel_rfl)
  exact ⟨hl, ⟨n0, n1, n2, n3⟩, (show Chunks cs 0 [[_], [_], [_], [_]] from ⟨h0, h1, h2, h3, hl⟩).eq⟩
theorem elems_flat {α : Type} {M : Mem} {a : Option Addr} {n k : Nat} {f : α → List Value} {l : List α} (h : Elems M k a n (fun cs x => cs = f x) l) : SrcOk M k a n (l.flatMap f) := by
  unfold Elems at h
  obtain ⟨css, h1, h2, h3, _, h5⟩ := h
  have : css = l.map f := by
    apply List.ext_getElem (by simp [h2, h3])
    intro i h6 h7
    rw [List.getElem_map]
    exact h5 i _ _ (List.getElem?_eq_getElem h6) (List.getElem?_eq_getElem (by simpa using h7))
  rw [List.flatMap_def, ← this]; exact h1
theorem rd_ids : Reads T.s_api_Id 1 fun M cs (l : List IdT) => ∃ a n c, cs = [.slice a n c] ∧ SrcOk M 4 a n (l.flatMap idCs) ∧ n ≤ 1048576 ∧ n ≤ c := fun H enc W fuel cs d ps h hb => by
  obtain ⟨h1, l, a, n, c, h2, h3, h4⟩ := Reads.slice Try.underlying22 (by kernel_rfl) (by decide) rd_id H enc W fuel cs d ps h hb
  exact ⟨h1, l, a, n, c, h2, elems_flat h3, h4⟩
end Go.Proofs.Ytmifjilknojkaaa
