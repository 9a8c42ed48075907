/- How the arguments of this layer's laws lie in memory. -/
import Derived.Test.YtjkejbenppeagaaGreatDoorBridge
import Derived.Test.YtjkejbenppeagaaGreatDoorWatS
namespace Go.Proofs.YtjkejbenppeagaaGreatDoor
open Go Go.Vm
attribute [local irreducible] Brn Ob Grow CallsM inR LoopVC LoopVC0 Mem.row Mem.cells Mem.setCells Mem.upd Go.Vm.Own AppVC SrcVC StrVC NextVC New SrcOk subA NewSl Mem.textAt Mem.mapAt Mem.iterAt entryOf kfind Wr NewEls Elems
set_option maxRecDepth 10000
open Br
theorem rd_int : Reads T.int 1 fun (_ : Mem) cs (n : Int) => cs = [.int .i64 n] ∧ inKind .i64 n := Reads.int (by kernel_rfl)
theorem rd_byte : Reads T.uint8 1 fun (_ : Mem) cs (n : Int) => cs = [.int .u8 n] ∧ inKind .u8 n := Reads.int (by kernel_rfl)
theorem elems_map {α : Type} {M : Mem} {a : Option Addr} {n : Nat} {R : List Value → α → Prop} {l : List α} {β : Type} (f : β → Value) (h : Elems M 1 a n R l) (hR : ∀ cs x, R cs x → ∃ y, cs = [f y]) : ∃ l' : List β, SrcOk M 1 a n (l'.map f) := by
  unfold Elems at h
  obtain ⟨css, h1, h2, h3, h4, h5⟩ := h
  have : ∃ l' : List β, css.flatten = l'.map f := by
    clear h1 h4
    induction css generalizing l n with
    | nil => exact ⟨[], rfl⟩
    | cons cs r ih =>
      match l, h3 with
      | [], h3 => simp at h2 h3; omega
      | x :: l, h3 =>
        obtain ⟨y, hy⟩ := hR cs x (h5 0 cs x rfl rfl)
        obtain ⟨l', hl'⟩ := ih (n := n - 1) (l := l) (by simp at h2; omega) (by simp at h3; omega) (fun i c z hi hz => h5 (i + 1) c z (by simpa using hi) (by simpa using hz))
        exact ⟨y :: l', by simp [hy, hl']⟩
  obtain ⟨l', e⟩ := this
  exact ⟨l', e ▸ h1⟩
theorem byte_of {n : Int} (h : inKind .u8 n) : Value.int .u8 n = byteV (UInt8.ofNat n.toNat) := by
  have := bounds_u8 h
  simp only [byteV]
  congr 1
  simp
  omega
theorem rd_bytes : Reads T.s_uint8 1 fun M cs (l : List UInt8) => ∃ a n c, cs = [.slice a n c] ∧ SrcOk M 1 a n (l.map byteV) ∧ n ≤ 1048576 ∧ n ≤ c := fun H enc W fuel cs d ps h hb => by
  obtain ⟨h1, l, a, n, c, h2, h3, h4⟩ := Reads.slice (t := T.s_uint8) (e := T.uint8) (by kernel_rfl) (by kernel_rfl) (by decide) rd_byte H enc W fuel cs d ps h hb
  obtain ⟨l', h5⟩ := elems_map byteV h3 (fun cs x hx => ⟨_, hx.1.trans (by rw [byte_of hx.2])⟩)
  exact ⟨h1, l', a, n, c, h2, h5, h4⟩
theorem rd_errno : Reads T.api_Errno 1 fun (_ : Mem) cs (n : Int) => cs = [.int .i64 n] ∧ inKind .i64 n := Reads.int (by kernel_rfl)
theorem rd_bool : Reads T.bool 1 fun (_ : Mem) cs (b : Bool) => cs = [.bool b] := Reads.bool (by kernel_rfl)
theorem rd_id : Reads T.api_Id 4 fun (_ : Mem) cs (i : Id4) => cs = id4 i := fun H enc W fuel cs d ps h hb => by
  obtain ⟨hl, hf⟩ := field Tryz.underlying42 h hb
  replace hl : cs.length = 4 := hl.trans (by kernel_rfl)
  obtain ⟨-, n0, h0, -⟩ := hf 0 _ rfl 1 rd_int (by kernel_rfl)
  obtain ⟨-, n1, h1, -⟩ := hf 1 _ rfl 1 rd_int (by kernel_rfl)
  obtain ⟨-, n2, h2, -⟩ := hf 2 _ rfl 1 rd_int (by kernel_rfl)
  obtain ⟨-, n3, h3, -⟩ := hf 3 _ rfl 1 rd_int (by kernel_rfl)
  exact ⟨hl, ⟨n0, n1, n2, n3⟩, (show Chunks cs 0 [[_], [_], [_], [_]] from ⟨h0, h1, h2, h3, hl⟩).eq⟩
theorem rd_told : Reads T.api_Told 9 fun M cs (x : TdR) => TdL M cs x := fun H enc W fuel cs d ps h hb => by
  obtain ⟨hl, hf⟩ := field Tryz.underlying46 h hb
  replace hl : cs.length = 9 := hl.trans (by kernel_rfl)
  obtain ⟨-, n0, h0, g0⟩ := hf 0 _ rfl 1 rd_int (by kernel_rfl)
  obtain ⟨-, n1, h1, -⟩ := hf 1 _ rfl 1 rd_int (by kernel_rfl)
  obtain ⟨-, i2, h2⟩ := hf 2 _ rfl 4 rd_id (by kernel_rfl)
  obtain ⟨-, n3, h3, -⟩ := hf 3 _ rfl 1 rd_errno (by kernel_rfl)
  obtain ⟨-, l4, a4, m4, c4, h4, g4, -, -⟩ := hf 4 _ rfl 1 rd_bytes (by kernel_rfl)
  obtain ⟨-, b5, h5⟩ := hf 5 _ rfl 1 rd_bool (by kernel_rfl)
  exact ⟨hl, ⟨n0, n1, i2.o, i2.d, i2.e, i2.c, n3, l4, b5⟩, a4, m4, c4, (show Chunks cs 0 [[_], [_], [_, _, _, _], [_], [_], [_]] from ⟨h0, h1, h2, h3, h4, h5, hl⟩).eq, g4, bounds_i64 g0⟩
theorem rd_tolds : Reads T.s_api_Told 1 fun M cs (l : List TdR) => ∃ a n c, cs = [.slice a n c] ∧ Elems M 9 a n (TdL M) l ∧ n ≤ 1048576 ∧ n ≤ c := fun H enc W fuel cs d ps h hb =>
  Reads.slice Tryz.underlying39 (by kernel_rfl) (by decide) rd_told H enc W fuel cs d ps h hb
theorem rd_step : Reads T.api_Step 5 fun M cs (x : StR) => StL M cs x := fun H enc W fuel cs d ps h hb => by
  obtain ⟨hl, hf⟩ := field Tryz.underlying58 h hb
  replace hl : cs.length = 5 := hl.trans (by kernel_rfl)
  obtain ⟨-, n0, h0, -⟩ := hf 0 _ rfl 1 rd_int (by kernel_rfl)
  obtain ⟨-, n1, h1, -⟩ := hf 1 _ rfl 1 rd_int (by kernel_rfl)
  obtain ⟨-, n2, h2, -⟩ := hf 2 _ rfl 1 rd_int (by kernel_rfl)
  obtain ⟨-, n3, h3, -⟩ := hf 3 _ rfl 1 rd_int (by kernel_rfl)
  obtain ⟨-, l4, a4, m4, c4, h4, g4, -, -⟩ := hf 4 _ rfl 1 rd_bytes (by kernel_rfl)
  exact ⟨hl, ⟨n0, n1, n2, n3, l4⟩, a4, m4, c4, (show Chunks cs 0 [[_], [_], [_], [_], [_]] from ⟨h0, h1, h2, h3, h4, hl⟩).eq, g4⟩
theorem rd_steps : Reads T.s_api_Step 1 fun M cs (l : List StR) => ∃ a n c, cs = [.slice a n c] ∧ Elems M 5 a n (StL M) l ∧ n ≤ 1048576 ∧ n ≤ c := fun H enc W fuel cs d ps h hb =>
  Reads.slice Tryz.underlying22 (by kernel_rfl) (by decide) rd_step H enc W fuel cs d ps h hb
structure FnR where
  k : Int
  at' : Int
  i : Id4
def FnL (cs : List Value) (x : FnR) : Prop := cs = [.int .i64 x.k, .int .i64 x.at', .int .i64 x.i.o, .int .i64 x.i.d, .int .i64 x.i.e, .int .i64 x.i.c] ∧ (-9223372036854775808 ≤ x.at' ∧ x.at' ≤ 9223372036854775807)
theorem rd_find : Reads T.api_Finding 6 fun (_ : Mem) cs (x : FnR) => FnL cs x := fun H enc W fuel cs d ps h hb => by
  obtain ⟨hl, hf⟩ := field Tryz.underlying56 h hb
  replace hl : cs.length = 6 := hl.trans (by kernel_rfl)
  obtain ⟨-, n0, h0, -⟩ := hf 0 _ rfl 1 rd_int (by kernel_rfl)
  obtain ⟨-, n1, h1, g1⟩ := hf 1 _ rfl 1 rd_int (by kernel_rfl)
  obtain ⟨-, i2, h2⟩ := hf 2 _ rfl 4 rd_id (by kernel_rfl)
  exact ⟨hl, ⟨n0, n1, i2⟩, (show Chunks cs 0 [[_], [_], [_, _, _, _]] from ⟨h0, h1, h2, hl⟩).eq, bounds_i64 g1⟩
end Go.Proofs.YtjkejbenppeagaaGreatDoor
