/- Words between neighbours: their bytes. -/
import Derived.Test.YthlleljdahkgpaaHopCheckB
namespace Go.Proofs.Ythlleljdahkgpaa
open Go Go.Vm
attribute [local irreducible] Brn Ob Grow CallsM inR LoopVC Mem.row Mem.cells Mem.setCells Mem.upd Own AppVC SrcVC StrVC NextVC New SrcOk subA NewSl
def byteOf (x : Int) : UInt8 := UInt8.ofNat (x % 256).toNat
theorem conv_byte (x : Int) : Value.int .u8 (IntKind.u8.wrap x) = byteV (byteOf x) := by
  have h : IntKind.u8.wrap x = x % 256 := by simp [IntKind.wrap, IntKind.signed, IntKind.bits]
  rw [h]
  simp only [byteV, byteOf]
  congr 1
  have : 0 ≤ x % 256 ∧ x % 256 < 256 := by omega
  simp
  omega
/-- two bytes of a number -/
def two (x : Int) : List UInt8 := [byteOf (x / 256), byteOf x]
theorem be_two (x : Int) : be 2 x = two x := by
  simp [be, two, byteAt, byteOf, Int.fdiv_eq_ediv]
def idBytes (o d e c : Int) : List UInt8 := [byteOf o, byteOf d] ++ two e ++ two c
set_option maxRecDepth 10000 in
theorem putId_ok (o d e c : Int) (M : Mem) : CallsM Try.prog F.msg_PutId [.agg #[.int .i64 o, .int .i64 d, .int .i64 e, .int .i64 c]] M fun v M' => (idErr o d e c ≠ 0 ∧ v = .tuple #[.slice none 0 0, .int .i64 (idErr o d e c)] ∧ M = M') ∨
      (idErr o d e c = 0 ∧ ∃ a' c', v = .tuple #[.slice a' 6 c', .int .i64 0] ∧ NewSl M T.uint8 1 a' 6 c' ((idBytes o d e c).map byteV) M') := by
  refine fo_msg_PutId (by simp) ?_
  (conv => whnf)
  refine (check_ok _ _ _ _ _).mono ?_
  rintro v M' ⟨rfl, rfl⟩
  (conv => whnf)
  refine brn (fun h => ?_) (fun h => ?_)
  · (conv => whnf)
    exact .inl ⟨by simpa using h, rfl, rfl⟩
  · have hid : idErr o d e c = 0 := by simpa using h
    obtain ⟨ho, hd, he, hc, hne⟩ : (0 ≤ o ∧ o ≤ 63) ∧ (0 ≤ d ∧ d ≤ 63) ∧ (1 ≤ e ∧ e ≤ 65535) ∧ (1 ≤ c ∧ c ≤ 65535) ∧ o ≠ d := by
      unfold idErr at hid; split at hid
      · split at hid <;> omega
      · omega
    have hwe : IntKind.u64.wrap e = e := by simp [IntKind.wrap, IntKind.signed, IntKind.bits]; omega
    have hwc : IntKind.u64.wrap c = c := by simp [IntKind.wrap, IntKind.signed, IntKind.bits]; omega
    have hpe : putErr e 2 = 0 := by simp [putErr, Int.fdiv_eq_ediv]; omega
    have hpc : putErr c 2 = 0 := by simp [putErr, Int.fdiv_eq_ediv]; omega
    (conv => whnf)
    refine new (fun b hb => ?_)
    replace hb : M b = none := hb
    (conv => whnf)
    rw [hwe, conv_byte, conv_byte]
    refine (bitsPut_ok _ _ _ _ _ _ [byteOf o, byteOf d] (NewSl.lit hb T.uint8 1 2 _ rfl).src (by omega)).mono ?_
    rintro v M1 (⟨h1, -⟩ | ⟨-, a1, c1, rfl, h1⟩)
    · exact absurd hpe h1
    (conv => whnf)
    rw [hwc]
    refine (bitsPut_ok _ _ _ _ _ _ _ h1.new.src (by decide)).mono ?_
    rintro v M2 (⟨h2, -⟩ | ⟨-, a2, c2, rfl, h2⟩)
    · exact absurd hpc h2
    (conv => whnf)
    refine .inr ⟨hid, a2, c2, rfl, ?_⟩
    have h3 := (h2.new.mono h1.base).mono (Mem.le_setCells hb)
    simpa [idBytes, be_two] using h3
end Go.Proofs.Ythlleljdahkgpaa
