/- Numbers of bytes. -/
import Derived.Test.YthlleljdahkgpaaHopPutC
namespace Go.Proofs.Ythlleljdahkgpaa
open Go Go.Vm
attribute [local irreducible] Brn Ob CallsM inR LoopVC Mem.row Mem.cells Mem.setCells Mem.upd Own AppVC SrcVC StrVC NextVC New SrcOk subA NewSl Mem.textAt Mem.mapAt Mem.iterAt entryOf kfind Wr NewEls Elems
set_option maxRecDepth 10000
/-- the number of bytes, the great end first -/
def num : List UInt8 → Nat → Nat
  | [], acc => acc
  | b :: r, acc => num r (256 * acc + b.toNat)
theorem num_append (l r : List UInt8) (acc : Nat) : num (l ++ r) acc = num r (num l acc) := by
  induction l generalizing acc with
  | nil => rfl
  | cons b l ih => simp [num, ih]
theorem num_lt (l : List UInt8) (acc : Nat) : num l acc < 256 ^ l.length * (acc + 1) := by
  induction l generalizing acc with
  | nil => simp [num]
  | cons b l ih =>
    have := ih (256 * acc + b.toNat)
    have hb := b.toNat_lt
    simp only [num, List.length_cons, Nat.pow_succ]
    refine Nat.lt_of_lt_of_le this ?_
    rw [Nat.mul_assoc]
    exact Nat.mul_le_mul_left _ (by omega)
theorem shl_or (n b : Nat) (hb : b < 256) (hn : n < 2 ^ 56) : bitsOp .or .u64 (IntKind.u64.wrap ((n : Int) * 2 ^ (min (Int.toNat 8) (IntKind.bits .u64)))) (IntKind.u64.wrap (b : Int)) = ((256 * n + b : Nat) : Int) := by
  have h1 : IntKind.u64.wrap ((n : Int) * 2 ^ (min (Int.toNat 8) (IntKind.bits .u64))) = ((256 * n : Nat) : Int) := by
    simp [IntKind.wrap, IntKind.signed, IntKind.bits]; omega
  have h2 : IntKind.u64.wrap (b : Int) = ((b : Nat) : Int) := by simp [IntKind.wrap, IntKind.signed, IntKind.bits]; omega
  rw [h1, h2]
  have h3 : (256 * n) ||| b = 256 * n + b := by
    have := Nat.shiftLeft_add_eq_or_of_lt (i := 8) (b := b) (by omega) n
    rw [Nat.shiftLeft_eq, show (2 : Nat) ^ 8 = 256 from rfl] at this
    rw [Nat.mul_comm 256 n]
    omega
  simp only [bitsOp, IntKind.bits]
  have e1 : (BitVec.ofInt 64 ((256 * n : Nat) : Int) ||| BitVec.ofInt 64 ((b : Nat) : Int)).toNat = 256 * n + b := by
    rw [BitVec.toNat_or, BitVec.ofInt_natCast, BitVec.ofInt_natCast, BitVec.toNat_ofNat, BitVec.toNat_ofNat, Nat.mod_eq_of_lt (by omega), Nat.mod_eq_of_lt (by omega), h3]
  erw [e1]
  simp [IntKind.wrap, IntKind.signed, IntKind.bits]; omega
/-- what Get says of bytes -/
def getErr (n : Nat) (at' size : Int) : Int := if size < 1 ∨ 8 < size ∨ at' < 0 then 1 else if (n : Int) < at' ∨ (n : Int) - at' < size then 2 else 0
def getNum (l : List UInt8) (at' size : Int) : Nat := num ((l.drop at'.toNat).take size.toNat) 0
theorem bitsGet_ok (a : Option Addr) (n c : Nat) (M : Mem) (l : List UInt8) (hs : SrcOk M 1 a n (l.map byteV)) (hn : n ≤ 4194304) (hc : n ≤ c) (at' size : Int) (he : getErr n at' size = 0) :
    CallsM Try.prog F.bits_Get [.slice a n c, .int .i64 at', .int .i64 size] M fun v M' => v = .tuple #[.int .u64 (getNum l at' size), .int .i64 0] ∧ M = M' := by
  have hl := hs.maplen
  have hb : (1 ≤ size ∧ size ≤ 8 ∧ 0 ≤ at') ∧ at' ≤ n ∧ size ≤ n - at' := by
    unfold getErr at he; split at he
    · cases he
    · split at he
      · cases he
      · omega
  refine fo_bits_Get (by simp) ?_
  (conv => whnf); refine brn_f (by simp; omega) ?_
  (conv => whnf); refine brn_f (by simp; omega) ?_
  (conv => whnf); refine brn_f (by simp; omega) ?_
  (conv => whnf); refine brn_f (by simp; omega) ?_
  (conv => whnf); refine ob (inR_i64 (by omega)) ?_
  (conv => whnf); refine brn_f (by simp; omega) ?_
  (conv => whnf); refine ob (inR_i64 (by omega)) ?_
  (conv => whnf); refine ob (by omega) ?_
  have hsub := hs.subm (lo := at'.toNat) (hi := (at' + size).toNat) (by omega) (by omega) hc
  have hK : (at' + size).toNat - at'.toNat = size.toNat := by omega
  rw [hK] at hsub
  have hcl := hsub.maplen
  (conv => whnf)
  rw [hK]
  refine loopQ (σ := Nat) [40, 8] (fun i => [(40, .int .i64 i), (8, .int .u64 (num (((l.drop at'.toNat).take size.toNat).take i) 0 : Nat))]) (fun i => i ≤ size.toNat) (fun i => size.toNat - i) 0 (by omega) ⟨(by repeat' first | exact True.intro | refine ⟨rfl, ?_⟩), (by repeat' first | exact True.intro | refine ⟨rfl, ?_⟩), Mem.le_refl _, rfl⟩ ?_
  intro i hi
  (conv => whnf); refine brn (fun h => ?_) (fun h => ?_)
  · have h' : i < size.toNat := by have := of_decide_eq_true h; omega
    obtain ⟨hlt, b, o, hp, hrow⟩ := hsub.at (i := i) h'
    (conv => whnf); refine ob (by omega) ?_
    (conv => whnf); refine atp hp ?_
    (conv => whnf); refine on hrow ?_
    (conv => whnf); refine ob (by decide) ?_
    (conv => whnf); refine ob (inR_i64 (by omega)) ?_
    (conv => whnf)
    refine ⟨i + 1, by omega, by omega, ?_, trivial, Mem.le_refl _, rfl⟩
    have hnl := num_lt (((l.drop at'.toNat).take size.toNat).take i) 0
    have hpow : (256 : Nat) ^ (((l.drop at'.toNat).take size.toNat).take i).length ≤ 256 ^ 7 := Nat.pow_le_pow_right (by decide) (by simp; omega)
    have e := shl_or (num (((l.drop at'.toNat).take size.toNat).take i) 0) (((l.drop at'.toNat).take size.toNat)[i]).toNat (UInt8.toNat_lt _) (by
      have : (256 : Nat) ^ 7 = 2 ^ 56 := by decide
      omega)
    have e2 : num (((l.drop at'.toNat).take size.toNat).take (i + 1)) 0 = 256 * num (((l.drop at'.toNat).take size.toNat).take i) 0 + (((l.drop at'.toNat).take size.toNat)[i]).toNat := by
      rw [List.take_add_one, List.getElem?_eq_getElem hlt, num_append]; rfl
    refine ⟨rfl, ?_⟩
    refine ⟨?_, (by repeat' first | exact True.intro | refine ⟨rfl, ?_⟩)⟩
    show some (SV.int .u64 _) = some (SV.int .u64 _)
    rw [e2]
    exact congrArg (fun z => some (SV.int .u64 z)) e
  · have h' : i = size.toNat := by have := of_decide_eq_false h; omega
    subst h'
    (conv => whnf)
    refine ⟨?_, rfl⟩
    rw [getNum, List.take_of_length_le (l := (l.drop at'.toNat).take size.toNat) (by omega)]
theorem bitsGet_no (a : Option Addr) (n c : Nat) (M : Mem) (at' size : Int) (he : getErr n at' size ≠ 0) (hn : n ≤ 4194304) : CallsM Try.prog F.bits_Get [.slice a n c, .int .i64 at', .int .i64 size] M fun v M' => v = .tuple #[.int .u64 0, .int .i64 (getErr n at' size)] ∧ M = M' := by
  refine fo_bits_Get (by simp) ?_
  by_cases h1 : size < 1 ∨ 8 < size ∨ at' < 0
  · have e : getErr n at' size = 1 := by rw [getErr, if_pos h1]
    rw [e]
    repeat' ((conv => whnf); first | refine brn (fun h => ?_) (fun h => ?_) | refine ob (inR_i64 (by simp at *; omega)) ?_ | fail)
    all_goals (try (conv => whnf))
    all_goals simp only [decide_eq_true_eq, decide_eq_false_iff_not] at *
    all_goals first
      | exact ⟨rfl, rfl⟩
      | exact ⟨trivial, trivial⟩
      | (exfalso; omega)
  · have h2 : (n : Int) < at' ∨ (n : Int) - at' < size := by
      rw [getErr, if_neg h1] at he; split at he
      · assumption
      · exact absurd rfl he
    have e : getErr n at' size = 2 := by rw [getErr, if_neg h1, if_pos h2]
    rw [e]
    repeat' ((conv => whnf); first | refine brn (fun h => ?_) (fun h => ?_) | refine ob (inR_i64 (by simp at *; omega)) ?_ | refine ob (by simp at *; omega) ?_ | fail)
    all_goals (try (conv => whnf))
    all_goals simp only [decide_eq_true_eq, decide_eq_false_iff_not] at *
    all_goals first
      | exact ⟨rfl, rfl⟩
      | exact ⟨trivial, trivial⟩
      | (exfalso; omega)
theorem refGet_ok (a : Option Addr) (n c : Nat) (M : Mem) (l : List UInt8) (hs : SrcOk M 1 a n (l.map byteV)) (hn : n ≤ 4194304) (at' size : Int) (he : getErr n at' size = 0) :
    CallsM Try.prog F.ref01_Get [.slice a n c, .int .i64 at', .int .i64 size] M fun v M' => v = .tuple #[.int .u64 (getNum l at' size), .int .i64 0] ∧ M = M' := by
  have hl := hs.maplen
  have hb : (1 ≤ size ∧ size ≤ 8 ∧ 0 ≤ at') ∧ at' ≤ n ∧ size ≤ n - at' := by
    unfold getErr at he; split at he
    · cases he
    · split at he
      · cases he
      · omega
  refine fo_ref01_Get (by simp) ?_
  (conv => whnf); refine brn_f (by simp; omega) ?_
  (conv => whnf); refine brn_f (by simp; omega) ?_
  (conv => whnf); refine brn_f (by simp; omega) ?_
  (conv => whnf); refine brn_f (by simp; omega) ?_
  (conv => whnf); refine ob (inR_i64 (by omega)) ?_
  (conv => whnf); refine brn_f (by simp; omega) ?_
  (conv => whnf)
  refine loopQ (σ := Nat) [9, 8] (fun i => [(9, .int .i64 i), (8, .int .u64 (num (((l.drop at'.toNat).take size.toNat).take i) 0 : Nat))]) (fun i => i ≤ size.toNat) (fun i => size.toNat - i) 0 (by omega) ⟨(by repeat' first | exact True.intro | refine ⟨rfl, ?_⟩), (by repeat' first | exact True.intro | refine ⟨rfl, ?_⟩), Mem.le_refl _, rfl⟩ ?_
  intro i hi
  have hcl : ((l.drop at'.toNat).take size.toNat).length = size.toNat := by simp; omega
  (conv => whnf); refine brn (fun h => ?_) (fun h => ?_)
  · have h' : i < size.toNat := by have := of_decide_eq_true h; omega
    obtain ⟨hlt, b, o, hp, hrow⟩ := hs.at (i := at'.toNat + i) (by omega)
    (conv => whnf); refine ob (inR_i64 (by omega)) ?_
    (conv => whnf); refine ob (by omega) ?_
    (conv => whnf); refine atp hp ?_
    have hrow' : M.row b (o + (at' + (i : Int)).toNat * 1) 1 = some [byteV l[at'.toNat + i]] := by rw [show (at' + (i : Int)).toNat = at'.toNat + i by omega]; exact hrow
    (conv => whnf); refine on hrow' ?_
    (conv => whnf); refine ob (inR_i64 (by omega)) ?_
    (conv => whnf)
    have hnl := num_lt (((l.drop at'.toNat).take size.toNat).take i) 0
    have hpow : (256 : Nat) ^ (((l.drop at'.toNat).take size.toNat).take i).length ≤ 256 ^ 7 := Nat.pow_le_pow_right (by decide) (by simp; omega)
    have hbyte := UInt8.toNat_lt l[at'.toNat + i]
    have e2 : num (((l.drop at'.toNat).take size.toNat).take (i + 1)) 0 = 256 * num (((l.drop at'.toNat).take size.toNat).take i) 0 + (l[at'.toNat + i]).toNat := by
      rw [List.take_add_one, List.getElem?_eq_getElem (show i < ((l.drop at'.toNat).take size.toNat).length by omega), num_append]
      simp [num]
    generalize num (((l.drop at'.toNat).take size.toNat).take i) 0 = N at *
    have h7 : (256 : Nat) ^ 7 = 72057594037927936 := by decide
    refine ⟨i + 1, by omega, by omega, ⟨rfl, ?_, (by repeat' first | exact True.intro | refine ⟨rfl, ?_⟩)⟩, trivial, Mem.le_refl _, rfl⟩
    show some (SV.int .u64 _) = some (SV.int .u64 _)
    rw [e2]
    congr 2
    simp only [IntKind.wrap, IntKind.signed, IntKind.bits]
    simp
    omega
  · have h' : i = size.toNat := by have := of_decide_eq_false h; omega
    subst h'
    (conv => whnf)
    refine ⟨?_, rfl⟩
    rw [getNum, List.take_of_length_le (l := (l.drop at'.toNat).take size.toNat) (by omega)]
end Go.Proofs.Ythlleljdahkgpaa
