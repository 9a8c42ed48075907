/- How the arguments of this layer's laws lie in memory. -/
import Derived.Test.YtdjgmhifocdelaaBridge
import Derived.Test.YtdjgmhifocdelaaDiskNil
namespace Go.Proofs.Ytdjgmhifocdelaa
open Go Go.Vm
attribute [local irreducible] Brn Ob Grow CallsM inR LoopVC Mem.row Mem.cells Mem.setCells Mem.upd Own AppVC SrcVC StrVC NextVC New SrcOk subA NewSl Mem.textAt Mem.mapAt Mem.iterAt entryOf kfind Wr NewEls Elems
set_option maxRecDepth 10000
open Br
theorem rd_int : Reads T.int 1 fun (_ : Mem) cs (n : Int) => cs = [.int .i64 n] ∧ inKind .i64 n := Reads.int (by kernel_rfl)
theorem rd_byte : Reads T.uint8 1 fun (_ : Mem) cs (n : Int) => cs = [.int .u8 n] ∧ inKind .u8 n := Reads.int (by kernel_rfl)
theorem rd_str : Reads T.string 1 fun (_ : Mem) cs (s : ByteArray) => cs = [.string s] ∧ s.size ≤ 1048576 := Reads.str (by kernel_rfl)
theorem elems_map {α : Type} {M : Mem} {a : Option Addr} {n : Nat} {R : List Value → α → Prop} {l : List α} {β : Type} (f : β → Value) (h : Elems M 1 a n R l) (hR : ∀ cs x, R cs x → ∃ y, cs = [f y]) : ∃ l' : List β, SrcOk M 1 a n (l'.map f) := by
  unfold Elems at h
  obtain ⟨css, h1, h2, h3, h4, h5⟩ := h
  have : ∃ l' : List β, css.flatten = l'.map f := by
    clear h1 h4
    induction css generalizing l n with
    | nil => exact ⟨[], rfl⟩
    | cons cs r ih =>
      match l, h3 with
      | [], h3 => simp at h2 h3; omega
      | x :: l, h3 =>
        obtain ⟨y, hy⟩ := hR cs x (h5 0 cs x rfl rfl)
        obtain ⟨l', hl'⟩ := ih (n := n - 1) (l := l) (by simp at h2; omega) (by simp at h3; omega) (fun i c z hi hz => h5 (i + 1) c z (by simpa using hi) (by simpa using hz))
        exact ⟨y :: l', by simp [hy, hl']⟩
  obtain ⟨l', e⟩ := this
  exact ⟨l', e ▸ h1⟩
theorem byte_of {n : Int} (h : inKind .u8 n) : Value.int .u8 n = byteV (UInt8.ofNat n.toNat) := by
  have := bounds_u8 h
  simp only [byteV]
  congr 1
  simp
  omega
theorem rd_bytes : Reads T.s_uint8 1 fun M cs (l : List UInt8) => ∃ a n c, cs = [.slice a n c] ∧ SrcOk M 1 a n (l.map byteV) ∧ n ≤ 1048576 ∧ n ≤ c := fun H enc W fuel cs d ps h hb => by
  obtain ⟨h1, l, a, n, c, h2, h3, h4⟩ := Reads.slice (t := T.s_uint8) (e := T.uint8) (by kernel_rfl) (by kernel_rfl) (by decide) rd_byte H enc W fuel cs d ps h hb
  obtain ⟨l', h5⟩ := elems_map byteV h3 (fun cs x hx => ⟨_, hx.1.trans (by rw [byte_of hx.2])⟩)
  exact ⟨h1, l', a, n, c, h2, h5, h4⟩
theorem rd_ints : Reads T.s_int 1 fun M cs (l : List Int) => ∃ a n c, cs = [.slice a n c] ∧ SrcOk M 1 a n (l.map intV) ∧ n ≤ 1048576 ∧ n ≤ c := fun H enc W fuel cs d ps h hb => by
  obtain ⟨h1, l, a, n, c, h2, h3, h4⟩ := Reads.slice (t := T.s_int) (e := T.int) (by kernel_rfl) (by kernel_rfl) (by decide) rd_int H enc W fuel cs d ps h hb
  obtain ⟨l', h5⟩ := elems_map intV h3 (fun cs x hx => ⟨x, hx.1⟩)
  exact ⟨h1, l', a, n, c, h2, h5, h4⟩
theorem rd_act : Reads T.portagelaw10_Act 6 fun M cs (x : ActD) => ActR M cs x := fun H enc W fuel cs d ps h hb => by
  obtain ⟨hl, hf⟩ := field Try.underlying34 h hb
  replace hl : cs.length = 6 := hl.trans (by kernel_rfl)
  obtain ⟨-, n0, h0, -⟩ := hf 0 _ rfl 1 rd_int (by kernel_rfl)
  obtain ⟨-, s1, h1, g1⟩ := hf 1 _ rfl 1 rd_str (by kernel_rfl)
  obtain ⟨-, s2, h2, g2⟩ := hf 2 _ rfl 1 rd_str (by kernel_rfl)
  obtain ⟨-, l3, a3, m3, c3, h3, g3, g4, -⟩ := hf 3 _ rfl 1 rd_bytes (by kernel_rfl)
  obtain ⟨-, n4, h4, g5⟩ := hf 4 _ rfl 1 rd_int (by kernel_rfl)
  obtain ⟨-, l5, a5, m5, c5, h5, g6, g7, -⟩ := hf 5 _ rfl 1 rd_ints (by kernel_rfl)
  exact ⟨hl, ⟨n0, s1, s2, l3, n4, l5⟩, a3, m3, c3, a5, m5, c5, (show Chunks cs 0 [[_], [_], [_], [_], [_], [_]] from ⟨h0, h1, h2, h3, h4, h5, hl⟩).eq, g3, g4, g6, g7, g1, g2, bounds_i64 g5⟩
theorem rd_acts : Reads T.s_portagelaw10_Act 1 fun M cs (l : List ActD) => ∃ a n c, cs = [.slice a n c] ∧ Elems M 6 a n (ActR M) l ∧ n ≤ 1048576 ∧ n ≤ c := fun H enc W fuel cs d ps h hb =>
  Reads.slice Try.underlying22 (by kernel_rfl) (by decide) rd_act H enc W fuel cs d ps h hb
end Go.Proofs.Ytdjgmhifocdelaa
