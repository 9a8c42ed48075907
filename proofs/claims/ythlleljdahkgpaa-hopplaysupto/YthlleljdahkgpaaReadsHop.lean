/- How the arguments of this layer's laws lie in memory. -/
import Derived.Test.YthlleljdahkgpaaBridge
import Derived.Test.YthlleljdahkgpaaDeskD
namespace Go.Proofs.Ythlleljdahkgpaa
open Go Go.Vm
attribute [local irreducible] Brn Ob Grow CallsM inR LoopVC Mem.row Mem.cells Mem.setCells Mem.upd Own AppVC SrcVC StrVC NextVC New SrcOk subA NewSl Mem.textAt Mem.mapAt Mem.iterAt entryOf kfind Wr NewEls Elems
set_option maxRecDepth 10000
open Br
theorem rd_int : Reads T.int 1 fun (_ : Mem) cs (n : Int) => cs = [.int .i64 n] ∧ inKind .i64 n := Reads.int (by kernel_rfl)
theorem rd_byte : Reads T.uint8 1 fun (_ : Mem) cs (n : Int) => cs = [.int .u8 n] ∧ inKind .u8 n := Reads.int (by kernel_rfl)
theorem elems_map {α : Type} {M : Mem} {a : Option Addr} {n : Nat} {R : List Value → α → Prop} {l : List α} {β : Type} (f : β → Value) (h : Elems M 1 a n R l) (hR : ∀ cs x, R cs x → ∃ y, cs = [f y]) : ∃ l' : List β, SrcOk M 1 a n (l'.map f) := by
  unfold Elems at h
  obtain ⟨css, h1, h2, h3, h4, h5⟩ := h
  have : ∃ l' : List β, css.flatten = l'.map f := by
    clear h1 h4
    induction css generalizing l n with
    | nil => exact ⟨[], rfl⟩
    | cons cs r ih =>
      match l, h3 with
      | [], h3 => simp at h2 h3; omega
      | x :: l, h3 =>
        obtain ⟨y, hy⟩ := hR cs x (h5 0 cs x rfl rfl)
        obtain ⟨l', hl'⟩ := ih (n := n - 1) (l := l) (by simp at h2; omega) (by simp at h3; omega) (fun i c z hi hz => h5 (i + 1) c z (by simpa using hi) (by simpa using hz))
        exact ⟨y :: l', by simp [hy, hl']⟩
  obtain ⟨l', e⟩ := this
  exact ⟨l', e ▸ h1⟩
theorem byte_of {n : Int} (h : inKind .u8 n) : Value.int .u8 n = byteV (UInt8.ofNat n.toNat) := by
  have := bounds_u8 h
  simp only [byteV]
  congr 1
  simp
  omega
/-- bytes -/
theorem rd_bytes : Reads T.s_uint8 1 fun M cs (l : List UInt8) => ∃ a n c, cs = [.slice a n c] ∧ SrcOk M 1 a n (l.map byteV) ∧ n ≤ 1048576 ∧ n ≤ c := fun H enc W fuel cs d ps h hb => by
  obtain ⟨h1, l, a, n, c, h2, h3, h4⟩ := Reads.slice (t := T.s_uint8) (e := T.uint8) (by kernel_rfl) (by kernel_rfl) (by decide) rd_byte H enc W fuel cs d ps h hb
  obtain ⟨l', h5⟩ := elems_map byteV h3 (fun cs x hx => ⟨_, hx.1.trans (by rw [byte_of hx.2])⟩)
  exact ⟨h1, l', a, n, c, h2, h5, h4⟩
/-- numbers -/
theorem rd_ints : Reads T.s_int 1 fun M cs (l : List Int) => ∃ a n c, cs = [.slice a n c] ∧ SrcOk M 1 a n (l.map intV) ∧ n ≤ 1048576 ∧ n ≤ c := fun H enc W fuel cs d ps h hb => by
  obtain ⟨h1, l, a, n, c, h2, h3, h4⟩ := Reads.slice (t := T.s_int) (e := T.int) (by kernel_rfl) (by kernel_rfl) (by decide) rd_int H enc W fuel cs d ps h hb
  obtain ⟨l', h5⟩ := elems_map intV h3 (fun cs x hx => ⟨x, hx.1⟩)
  exact ⟨h1, l', a, n, c, h2, h5, h4⟩
theorem rd_id : Reads T.api_Id 4 fun (_ : Mem) cs (i : Id) => cs = [.int .i64 i.o, .int .i64 i.d, .int .i64 i.e, .int .i64 i.c] := fun H enc W fuel cs d ps h hb => by
  obtain ⟨hl, hf⟩ := field Try.underlying23 h hb
  replace hl : cs.length = 4 := hl.trans (by kernel_rfl)
  obtain ⟨-, n0, h0, -⟩ := hf 0 _ rfl 1 rd_int (by kernel_rfl)
  obtain ⟨-, n1, h1, -⟩ := hf 1 _ rfl 1 rd_int (by kernel_rfl)
  obtain ⟨-, n2, h2, -⟩ := hf 2 _ rfl 1 rd_int (by kernel_rfl)
  obtain ⟨-, n3, h3, -⟩ := hf 3 _ rfl 1 rd_int (by kernel_rfl)
  exact ⟨hl, ⟨n0, n1, n2, n3⟩, (show Chunks cs 0 [[_], [_], [_], [_]] from ⟨h0, h1, h2, h3, hl⟩).eq⟩
theorem rd_msg : Reads T.api_Msg 5 fun M cs (m : Msg) => MsgR M cs m := fun H enc W fuel cs d ps h hb => by
  obtain ⟨hl, hf⟩ := field Try.underlying26 h hb
  replace hl : cs.length = 5 := hl.trans (by kernel_rfl)
  obtain ⟨-, n0, h0⟩ := hf 0 _ rfl 4 rd_id (by kernel_rfl)
  obtain ⟨-, l, a, n, c, h1, h2, h3, -⟩ := hf 1 _ rfl 1 rd_bytes (by kernel_rfl)
  exact ⟨hl, ⟨n0, l⟩, a, n, c, (show Chunks cs 0 [[_, _, _, _], [_]] from ⟨h0, h1, hl⟩).eq, h2, by omega⟩
theorem rd_hop : Reads T.api_Hop 8 fun M cs (w : W) => w.Ok M ∧ Value.agg cs.toArray = w.v := fun H enc Wd fuel cs d ps h hb => by
  obtain ⟨hl, hf⟩ := field Try.underlying29 h hb
  replace hl : cs.length = 8 := hl.trans (by kernel_rfl)
  obtain ⟨-, n0, h0, -⟩ := hf 0 _ rfl 1 rd_int (by kernel_rfl)
  obtain ⟨-, n1, h1, -⟩ := hf 1 _ rfl 1 rd_int (by kernel_rfl)
  obtain ⟨-, m, p, nD, kD, h2, h3, h4⟩ := hf 2 _ rfl 5 rd_msg (by kernel_rfl)
  obtain ⟨-, l, pC, nC, kC, h5, h6, h7, -⟩ := hf 3 _ rfl 1 rd_ints (by kernel_rfl)
  refine ⟨hl, ⟨n0, n1, m.id.o, m.id.d, m.id.e, m.id.c, p, nD, kD, pC, nC, kC, m.data, l⟩, ⟨h3, h6, by show nD ≤ _; omega, by show nC ≤ _; omega⟩, ?_⟩
  rw [(show Chunks cs 0 [[_], [_], [_, _, _, _, _], [_]] from ⟨h0, h1, h2, h5, hl⟩).eq]
  rfl
end Go.Proofs.Ythlleljdahkgpaa
