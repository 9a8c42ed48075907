import Derived.Test.YthlleljdahkgpaaCodeA
import Derived.Test.YthlleljdahkgpaaVmL
import Derived.Test.YthlleljdahkgpaaVmH
namespace Go.Proofs.Ythlleljdahkgpaa
open Go Go.Vm
attribute [local irreducible] Brn Ob Grow CallsM inR LoopVC Mem.row Mem.cells Mem.setCells Mem.upd Own AppVC SrcVC StrVC NextVC New SrcOk subA
/-- a byte of a number -/
def byteAt (x : Int) (s : Int) : UInt8 := UInt8.ofNat ((x.fdiv (2 ^ s.toNat)) % 256).toNat
/-- so many bytes of a number, the great end first -/
def be : Nat → Int → List UInt8
  | 0, _ => []
  | k + 1, x => byteAt x (8 * k) :: be k x
def putErr (x size : Int) : Int := if size < 1 ∨ 8 < size then 1 else if size < 8 ∧ x.fdiv (2 ^ (8 * size).toNat) ≠ 0 then 3 else 0
theorem be_length : ∀ (k : Nat) (x : Int), (be k x).length = k
  | 0, _ => rfl
  | k + 1, x => by simp [be, be_length k x]
theorem be_get (x : Int) : ∀ (m k : Nat), k < m → (be m x)[k]? = some (byteAt x (8 * ((m : Int) - 1 - k)))
  | m + 1, 0, _ => by simp [be]
  | m + 1, k + 1, h => by
    simp only [be, List.getElem?_cons_succ]
    rw [be_get x m k (by omega)]
    congr 2
    omega
theorem wrap_byte (x s : Int) (hs : 0 ≤ s ∧ s ≤ 64) : Value.int .u8 (IntKind.u8.wrap (x.fdiv (2 ^ (min s.toNat (IntKind.bits .u64))))) = byteV (byteAt x s) := by
  have h1 : min s.toNat (IntKind.bits .u64) = s.toNat := by simp [IntKind.bits]; omega
  rw [h1]
  simp only [byteV, byteAt]
  congr 1
  generalize x.fdiv (2 ^ s.toNat) = y
  have h : IntKind.u8.wrap y = y % 256 := by
    simp [IntKind.wrap, IntKind.signed, IntKind.bits]
  rw [h]
  have : 0 ≤ y % 256 ∧ y % 256 < 256 := by omega
  simp
  omega
set_option maxRecDepth 10000 in
theorem bitsPut_ok (a : Option Addr) (n c : Nat) (x size : Int) (M : Mem) (bs : List UInt8) (hs : SrcOk M 1 a n (bs.map byteV)) (hn : n ≤ 4194304) :
    CallsM Try.prog F.bits_Put [.slice a n c, .int .u64 x, .int .i64 size] M fun v M' => (putErr x size ≠ 0 ∧ v = .tuple #[.slice none 0 0, .int .i64 (putErr x size)] ∧ M = M') ∨
      (putErr x size = 0 ∧ ∃ a' c', v = .tuple #[.slice a' (n + size.toNat) c', .int .i64 0] ∧ Own M T.uint8 1 a' (n + size.toNat) c' ((bs ++ be size.toNat x).map byteV) M') := by
  refine fo_bits_Put (by simp) ?_
  (conv => whnf)
  refine brn (fun h1 => ?_) (fun h1 => ?_)
  · (conv => whnf)
    refine .inl ⟨?_, ?_, rfl⟩ <;> simp_all [putErr]
  (conv => whnf)
  refine brn (fun h2 => ?_) (fun h2 => ?_)
  · (conv => whnf)
    refine .inl ⟨?_, ?_, rfl⟩ <;> simp_all [putErr]
  (conv => whnf)
  simp only [decide_eq_false_iff_not, Int.not_lt] at h1 h2
  have h64 : min (8 * size).toNat (IntKind.bits .u64) = (8 * size).toNat := by simp [IntKind.bits]; omega
  refine brn (fun h3 => ?_) (fun h3 => ?_)
  (conv => whnf)
  refine ob (inR_i64 (by omega)) ?_
  (conv => whnf)
  refine ob (by omega) ?_
  (conv => whnf)
  refine brn (fun h4 => ?_) (fun h4 => ?_)
  · (conv => whnf)
    rw [h64] at h4
    have hp : putErr x size = 3 := by simp_all [putErr]
    exact .inl ⟨by rw [hp]; decide, by rw [hp], rfl⟩
  rw [h64] at h4
  have hp : putErr x size = 0 := by simp_all [putErr]
  rotate_left
  have hp : putErr x size = 0 := by simp_all [putErr]; omega
  all_goals
    (conv => whnf)
    refine new (fun b hb => ?_)
    replace hb : M b = none := hb
    (conv => whnf)
    refine srcv (SrcOk.le (Mem.le_setCells hb) hs) ?_
    (conv => whnf)
    refine app M [] (Own.lit hb T.uint8 1 0 [] rfl) (by omega) (by simp [maxLen]; omega) (by simp [byteV, Value.oneCell']) fun a' c' M' hown => ?_
    (conv => whnf)
    refine ob (inR_i64 (by omega)) ?_
    (conv => whnf)
    refine loop (σ := Option Addr × Nat × Mem × Int × Nat × Nat) (fun | ⟨a1, c1, M1, sh, N, _⟩ => ⟨[(9, .int .i64 sh), (8, .slice a1 N c1), (1, .int .u64 x)], [], M1⟩)
      (fun | ⟨a1, c1, M1, sh, N, k⟩ => sh = 8 * (size - k) ∧ N = n + k ∧ (k : Int) < size ∧ Own M T.uint8 1 a1 N c1 ((bs ++ (be size.toNat x).take k).map byteV) M1)
      (fun | ⟨_, _, _, sh, _, _⟩ => sh.toNat) ⟨a', c', M', 8 * size, 0 + n, 0⟩ ⟨by simp, by simp, by simp; omega, by simpa using hown⟩ ⟨⟨rfl, rfl, rfl, trivial⟩, trivial, Mem.le_refl _, rfl⟩ ?_
    rintro ⟨a1, c1, M1, sh, N, k⟩ ⟨hsh, hN, hk, hown1⟩
    (conv => whnf)
    refine ob (inR_i64 (by omega)) ?_
    (conv => whnf)
    refine ob (by omega) ?_
    (conv => whnf)
    refine app M _ hown1 (by omega) (by simp [maxLen]; omega) (by simp [Value.oneCell']) fun a2 c2 M2 hown2 => ?_
    rw [wrap_byte x (sh - 8) (by omega)] at hown2
    have hb1 : (be size.toNat x)[k]? = some (byteAt x (sh - 8)) := by
      rw [be_get x size.toNat k (by omega)]
      congr 2
      omega
    have hl : (bs ++ (be size.toNat x).take k).map byteV ++ [byteV (byteAt x (sh - 8))] = (bs ++ (be size.toNat x).take (k + 1)).map byteV := by
      rw [List.take_add_one, hb1]
      simp
    rw [hl] at hown2
    (conv => whnf)
    refine brn (fun h5 => ?_) (fun h5 => ?_)
    · (conv => whnf)
      have hk1 : k + 1 = size.toNat := by simp at h5; omega
      have hN1 : N + 1 = n + size.toNat := by omega
      rw [hk1, List.take_of_length_le (by rw [be_length]; omega), hN1] at hown2
      rw [hN1]
      exact .inr ⟨hp, a2, c2, rfl, hown2⟩
    · (conv => whnf)
      simp at h5
      exact ⟨⟨a2, c2, M2, sh - 8, N + 1, k + 1⟩, ⟨by omega, by omega, by omega, hown2⟩, by show (sh - 8).toNat < sh.toNat; omega, ⟨rfl, rfl, rfl, trivial⟩, trivial, Mem.le_refl _, rfl⟩
end Go.Proofs.Ythlleljdahkgpaa
