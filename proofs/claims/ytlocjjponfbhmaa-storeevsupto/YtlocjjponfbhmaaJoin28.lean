/- Numbers of bytes. -/
import Derived.Test.YtlocjjponfbhmaaJoin27
namespace Go.Proofs.Ytlocjjponfbhmaa
open Go Go.Vm
attribute [local irreducible] Brn Ob Grow CallsM inR LoopVC Mem.row Mem.cells Mem.setCells Mem.upd Own AppVC SrcVC StrVC NextVC New SrcOk subA NewSl Mem.textAt Mem.mapAt Mem.iterAt entryOf kfind Wr NewEls Elems
set_option maxRecDepth 10000
/-- the number of bytes, the great end first -/
def num : List UInt8 → Nat → Nat
  | [], acc => acc
  | b :: r, acc => num r (256 * acc + b.toNat)
theorem num_append (l r : List UInt8) (acc : Nat) : num (l ++ r) acc = num r (num l acc) := by
  induction l generalizing acc with
  | nil => rfl
  | cons b l ih => simp [num, ih]
theorem num_lt (l : List UInt8) (acc : Nat) : num l acc < 256 ^ l.length * (acc + 1) := by
  induction l generalizing acc with
  | nil => simp [num]
  | cons b l ih =>
    have := ih (256 * acc + b.toNat)
    have hb := b.toNat_lt
    simp only [num, List.length_cons, Nat.pow_succ]
    refine Nat.lt_of_lt_of_le this ?_
    rw [Nat.mul_assoc]
    exact Nat.mul_le_mul_left _ (by omega)
theorem shl_or (n b : Nat) (hb : b < 256) (hn : n < 2 ^ 56) : bitsOp .or .u64 (IntKind.u64.wrap ((n : Int) * 2 ^ (min (Int.toNat 8) (IntKind.bits .u64)))) (IntKind.u64.wrap (b : Int)) = ((256 * n + b : Nat) : Int) := by
  have h1 : IntKind.u64.wrap ((n : Int) * 2 ^ (min (Int.toNat 8) (IntKind.bits .u64))) = ((256 * n : Nat) : Int) := by
    simp [IntKind.wrap, IntKind.signed, IntKind.bits]; omega
  have h2 : IntKind.u64.wrap (b : Int) = ((b : Nat) : Int) := by simp [IntKind.wrap, IntKind.signed, IntKind.bits]; omega
  rw [h1, h2]
  have h3 : (256 * n) ||| b = 256 * n + b := by
    have := Nat.shiftLeft_add_eq_or_of_lt (i := 8) (b := b) (by omega) n
    rw [Nat.shiftLeft_eq, show (2 : Nat) ^ 8 = 256 from rfl] at this
    rw [Nat.mul_comm 256 n]
    omega
  simp only [bitsOp, IntKind.bits]
  have e1 : (BitVec.ofInt 64 ((256 * n : Nat) : Int) ||| BitVec.ofInt 64 ((b : Nat) : Int)).toNat = 256 * n + b := by
    rw [BitVec.toNat_or, BitVec.ofInt_natCast, BitVec.ofInt_natCast, BitVec.toNat_ofNat, BitVec.toNat_ofNat, Nat.mod_eq_of_lt (by omega), Nat.mod_eq_of_lt (by omega), h3]
  erw [e1]
  simp [IntKind.wrap, IntKind.signed, IntKind.bits]; omega
/-- what Get says of bytes -/
def getErr (n : Nat) (at' size : Int) : Int := if size < 1 ∨ 8 < size ∨ at' < 0 then 1 else if (n : Int) < at' ∨ (n : Int) - at' < size then 2 else 0
def getNum (l : List UInt8) (at' size : Int) : Nat := num ((l.drop at'.toNat).take size.toNat) 0
theorem bitsGet_ok (a : Option Addr) (n c : Nat) (M : Mem) (l : List UInt8) (hs : SrcOk M 1 a n (l.map byteV)) (hn : n ≤ 4194304) (hc : n ≤ c) (at' size : Int) (he : getErr n at' size = 0) :
    CallsM Try.prog F.bits_Get [.slice a n c, .int .i64 at', .int .i64 size] M fun v M' => v = .tuple #[.int .u64 (getNum l at' size), .int .i64 0] ∧ M = M' := by
  have hl := hs.maplen
  have hb : (1 ≤ size ∧ size ≤ 8 ∧ 0 ≤ at') ∧ at' ≤ n ∧ size ≤ n - at' := by
    unfold getErr at he; split at he
    · cases he
    · split at he
      · cases he
      · omega
  refine fo_bits_Get (by simp) ?_
  (conv => whnf); refine brn_f (by simp; omega) ?_
  (conv => whnf); refine brn_f (by simp; omega) ?_
  (conv => whnf); refine brn_f (by simp; omega) ?_
  (conv => whnf); refine brn_f (by simp; omega) ?_
  (conv => whnf); refine ob (inR_i64 (by omega)) ?_
  (conv => whnf); refine brn_f (by simp; omega) ?_
  (conv => whnf); refine ob (inR_i64 (by omega)) ?_
  (conv => whnf); refine ob (by omega) ?_
  have hsub := hs.subm (lo := at'.toNat) (hi := (at' + size).toNat) (by omega) (by omega) hc
  have hK : (at' + size).toNat - at'.toNat = size.toNat := by omega
  rw [hK] at hsub
  have hcl := hsub.maplen
  (conv => whnf)
  rw [hK]
  refine loopQ (σ := Nat) [40, 8] (fun i => [(40, .int .i64 i), (8, .int .u64 (num (((l.drop at'.toNat).take size.toNat).take i) 0 : Nat))]) (fun i => i ≤ size.toNat) (fun i => size.toNat - i) 0 (by omega) ⟨(by repeat' first | exact True.intro | refine ⟨rfl, ?_⟩), (by repeat' first | exact True.intro | refine ⟨rfl, ?_⟩), Mem.le_refl _, rfl⟩ ?_
  intro i hi
  (conv => whnf); refine brn (fun h => ?_) (fun h => ?_)
  · have h' : i < size.toNat := by have := of_decide_eq_true h; omega
    obtain ⟨hlt, b, o, hp, hrow⟩ := hsub.at (i := i) h'
    (conv => whnf); refine ob (by omega) ?_
    (conv => whnf); refine atp hp ?_
    (conv => whnf); refine on hrow ?_
    (conv => whnf); refine ob (by decide) ?_
    (conv => whnf); refine ob (inR_i64 (by omega)) ?_
    (conv => whnf)
    refine ⟨i + 1, by omega, by omega, ?_, trivial, Mem.le_refl _, rfl⟩
    have hnl := num_lt (((l.drop at'.toNat).take size.toNat).take i) 0
    have hpow : (256 : Nat) ^ (((l.drop at'.toNat).take size.toNat).take i).length ≤ 256 ^ 7 := Nat.pow_le_pow_right (by decide) (by simp; omega)
    have e := shl_or (num (((l.drop at'.toNat).take size.toNat).take i) 0) (((l.drop at'.toNat).take size.toNat)[i]).toNat (UInt8.toNat_lt _) (by
      have : (256 : Nat) ^ 7 = 2 ^ 56 := by decide
      omega)
    have e2 : num (((l.drop at'.toNat).take size.toNat).take (i + 1)) 0 = 256 * num (((l.drop at'.toNat).take size.toNat).take i) 0 + (((l.drop at'.toNat).take size.toNat)[i]).toNat := by
      rw [List.take_add_one, List.getElem?_eq_getElem hlt, num_append]; rfl
    refine ⟨rfl, ?_⟩
    refine ⟨?_, (by repeat' first | exact True.intro | refine ⟨rfl, ?_⟩)⟩
    show some (SV.int .u64 _) = some (SV.int .u64 _)
    rw [e2]
    exact congrArg (fun z => some (SV.int .u64 z)) e
  · have h' : i = size.toNat := by have := of_decide_eq_false h; omega
    subst h'
    (conv => whnf)
    refine ⟨?_, rfl⟩
    rw [getNum, List.take_of_length_le (l := (l.drop at'.toNat).take size.toNat) (by omega)]
theorem bitsGet_no (a : Option Addr) (n c : Nat) (M : Mem) (at' size : Int) (he : getErr n at' size ≠ 0) (hn : n ≤ 4194304) : CallsM Try.prog F.bits_Get [.slice a n c, .int .i64 at', .int .i64 size] M fun v M' => v = .tuple #[.int .u64 0, .int .i64 (getErr n at' size)] ∧ M = M' := by
  refine fo_bits_Get (by simp) ?_
  by_cases h1 : size < 1 ∨ 8 < size ∨ at' < 0
  · have e : getErr n at' size = 1 := by rw [getErr, if_pos h1]
    rw [e]
    repeat' ((conv => whnf); first | refine brn (fun h => ?_) (fun h => ?_) | refine ob (inR_i64 (by simp at *; omega)) ?_ | fail)
    all_goals (try (conv => whnf))
    all_goals simp only [decide_eq_true_eq, decide_eq_false_iff_not] at *
    all_goals first
      | exact ⟨rfl, rfl⟩
      | exact ⟨trivial, trivial⟩
      | (exfalso; omega)
  · have h2 : (n : Int) < at' ∨ (n : Int) - at' < size := by
      rw [getErr, if_neg h1] at he; split at he
      · assumption
      · exact absurd rfl he
    have e : getErr n at' size = 2 := by rw [getErr, if_neg h1, if_pos h2]
    rw [e]
    repeat' ((conv => whnf); first | refine brn (fun h => ?_) (fun h => ?_) | refine ob (inR_i64 (by simp at *; omega)) ?_ | refine ob (by simp at *; omega) ?_ | fail)
    all_goals (try (conv => whnf))
    all_goals simp only [decide_eq_true_eq, decide_eq_false_iff_not] at *
    all_goals first
      | exact ⟨rfl, rfl⟩
      | exact ⟨trivial, trivial⟩
      | (exfalso; omega)
theorem refGet_ok (a : Option Addr) (n c : Nat) (M : Mem) (l : List UInt8) (hs : SrcOk M 1 a n (l.map byteV)) (hn : n ≤ 4194304) (at' size : Int) (he : getErr n at' size = 0) :
    CallsM Try.prog F.ref01_Get [.slice a n c, .int .i64 at', .int .i64 size] M fun v M' => v = .tuple #[.int .u64 (getNum l at' size), .int .i64 0] ∧ M = M' := by
  have hl := hs.maplen
  have hb : (1 ≤ size ∧ size ≤ 8 ∧ 0 ≤ at') ∧ at' ≤ n ∧ size ≤ n - at' := by
    unfold getErr at he; split at he
    · cases he
    · split at he
      · cases he
      · omega
  refine fo_ref01_Get (by simp) ?_
  (conv => whnf); refine brn_f (by simp; omega) ?_
  (conv => whnf); refine brn_f (by simp; omega) ?_
  (conv => whnf); refine brn_f (by simp; omega) ?_
  (conv => whnf); refine brn_f (by simp; omega) ?_
  (conv => whnf); refine ob (inR_i64 (by omega)) ?_
  (conv => whnf); refine brn_f (by simp; omega) ?_
  (conv => whnf)
  refine loopQ (σ := Nat) [9, 8] (fun i => [(9, .int .i64 i), (8, .int .u64 (num (((l.drop at'.toNat).take size.toNat).take i) 0 : Nat))]) (fun i => i ≤ size.toNat) (fun i => size.toNat - i) 0 (by omega) ⟨(by repeat' first | exact True.intro | refine ⟨rfl, ?_⟩), (by repeat' first | exact True.intro | refine ⟨rfl, ?_⟩), Mem.le_refl _, rfl⟩ ?_
  intro i hi
  have hcl : ((l.drop at'.toNat).take size.toNat).length = size.toNat := by simp; omega
  (conv => whnf); refine brn (fun h => ?_) (fun h => ?_)
  · have h' : i < size.toNat := by have := of_decide_eq_true h; omega
    obtain ⟨hlt, b, o, hp, hrow⟩ := hs.at (i := at'.toNat + i) (by omega)
    (conv => whnf); refine ob (inR_i64 (by omega)) ?_
    (conv => whnf); refine ob (by omega) ?_
    (conv => whnf); refine atp hp ?_
    have hrow' : M.row b (o + (at' + (i : Int)).toNat * 1) 1 = some [byteV l[at'.toNat + i]] := by rw [show (at' + (i : Int)).toNat = at'.toNat + i by omega]; exact hrow
    (conv => whnf); refine on hrow' ?_
    (conv => whnf); refine ob (inR_i64 (by omega)) ?_
    (conv => whnf)
    have hnl := num_lt (((l.drop at'.toNat).take size.toNat).take i) 0
    have hpow : (256 : Nat) ^ (((l.drop at'.toNat).take size.toNat).take i).length ≤ 256 ^ 7 := Nat.pow_le_pow_right (by decide) (by simp; omega)
    have hbyte := UInt8.toNat_lt l[at'.toNat + i]
    have e2 : num (((l.drop at'.toNat).take size.toNat).take (i + 1)) 0 = 256 * num (((l.drop at'.toNat).take size.toNat).take i) 0 + (l[at'.toNat + i]).toNat := by
      rw [List.take_add_one, List.getElem?_eq_getElem (show i < ((l.drop at'.toNat).take size.toNat).length by omega), num_append]
      simp [num]
    generalize num (((l.drop at'.toNat).take size.toNat).take i) 0 = N at *
    have h7 : (256 : Nat) ^ 7 = 72057594037927936 := by decide
    refine ⟨i + 1, by omega, by omega, ⟨rfl, ?_, (by repeat' first | exact True.intro | refine ⟨rfl, ?_⟩)⟩, trivial, Mem.le_refl _, rfl⟩
    show some (SV.int .u64 _) = some (SV.int .u64 _)
    rw [e2]
    congr 2
    simp only [IntKind.wrap, IntKind.signed, IntKind.bits]
    simp
    omega
  · have h' : i = size.toNat := by have := of_decide_eq_false h; omega
    subst h'
    (conv => whnf)
    refine ⟨?_, rfl⟩
    rw [getNum, List.take_of_length_le (l := (l.drop at'.toNat).take size.toNat) (by omega)]
end Go.Proofs.Ytlocjjponfbhmaa

/- Ids and messages of bytes. -/
namespace Go.Proofs.Ytlocjjponfbhmaa
open Go Go.Vm
attribute [local irreducible] Brn Ob Grow CallsM inR LoopVC Mem.row Mem.cells Mem.setCells Mem.upd Own AppVC SrcVC StrVC NextVC New SrcOk subA NewSl Mem.textAt Mem.mapAt Mem.iterAt entryOf kfind Wr NewEls Elems
set_option maxRecDepth 10000
/-- the id that six bytes say -/
def idOf (l : List UInt8) : IdT := ⟨(l.getD 0 0).toNat, (l.getD 1 0).toNat, getNum l 2 2, getNum l 4 2⟩
def IdT.err (i : IdT) : Int := idErr i.o i.d i.e i.c
@[reducible] def zeroI : IdT := ⟨0, 0, 0, 0⟩
def getIdErr (l : List UInt8) : Int := if l.length ≠ 6 then 2 else if (idOf l).err ≠ 0 then 2 else 0
def getId (l : List UInt8) : IdT := if getIdErr l = 0 then idOf l else zeroI
theorem getIdErr_two {l : List UInt8} (h : getIdErr l ≠ 0) : getIdErr l = 2 := by
  unfold getIdErr at h ⊢
  split
  · rfl
  · rename_i h6
    rw [if_neg h6] at h
    split
    · rfl
    · rename_i h7; rw [if_neg h7] at h; exact absurd rfl h
theorem getNum_two (l : List UInt8) (k : Nat) (h : k + 2 ≤ l.length) : getNum l k 2 = 256 * (l.getD k 0).toNat + (l.getD (k + 1) 0).toNat := by
  unfold getNum
  have e : (l.drop (k : Int).toNat).take (Int.toNat 2) = [l[k], l[k + 1]] := by
    rw [show (k : Int).toNat = k by simp, show Int.toNat 2 = 2 by rfl, List.drop_eq_getElem_cons (by omega), List.take_succ_cons, List.drop_eq_getElem_cons (by omega), List.take_succ_cons, List.take_zero]
  rw [e]
  simp [num, List.getD_eq_getElem?_getD, List.getElem?_eq_getElem (show k < l.length by omega), List.getElem?_eq_getElem (show k + 1 < l.length by omega)]
theorem getNum_two_lt (l : List UInt8) (k : Nat) (h : k + 2 ≤ l.length) : getNum l k 2 < 65536 := by
  rw [getNum_two l k h]
  have := UInt8.toNat_lt (l.getD k 0)
  have := UInt8.toNat_lt (l.getD (k + 1) 0)
  omega
theorem wrap_i64 {n : Int} (h : 0 ≤ n ∧ n < 9223372036854775808) : IntKind.i64.wrap n = n := by
  rw [IntKind.wrap_i64]; omega
theorem getId_ok (a : Option Addr) (n c : Nat) (M : Mem) (l : List UInt8) (hs : SrcOk M 1 a n (l.map byteV)) (hn : n ≤ 4194304) (hc : n ≤ c) :
    CallsM Try.prog F.msg_GetId [.slice a n c] M fun v M' => v = .tuple #[idA (getId l), .int .i64 (getIdErr l)] ∧ M = M' := by
  have hl := hs.maplen
  refine fo_msg_GetId (by simp) ?_
  (conv => whnf); refine brn (fun h => ?_) (fun h => ?_)
  · have h6 : l.length ≠ 6 := by simp at h; omega
    have e : getIdErr l = 2 := by rw [getIdErr, if_pos h6]
    (conv => whnf)
    rw [getId, e]
    exact ⟨rfl, rfl⟩
  have h6 : n = 6 := by simp at h; omega
  subst h6
  (conv => whnf); refine (bitsGet_ok _ _ _ _ l hs hn hc 2 2 (by decide)).mono ?_
  rintro v M' ⟨rfl, rfl⟩
  (conv => whnf); refine (bitsGet_ok _ _ _ _ l hs hn hc 4 2 (by decide)).mono ?_
  rintro v M' ⟨rfl, rfl⟩
  obtain ⟨h0, b, o, rfl, hr0⟩ := hs.at (i := 0) (by decide)
  obtain ⟨h1, b', o', hbo, hr1⟩ := hs.at (i := 1) (by decide)
  cases hbo
  have n2 : getNum l 2 2 < 65536 := getNum_two_lt l 2 (by omega)
  have n4 : getNum l 4 2 < 65536 := getNum_two_lt l 4 (by omega)
  have b0 := UInt8.toNat_lt l[0]
  have b1 := UInt8.toNat_lt l[1]
  repeat' ((conv => whnf); first | refine ⟨?_, True.intro⟩ | refine brn_t rfl ?_ | refine brn_f rfl ?_ | refine ob rfl ?_ | refine ob (by decide) ?_ | refine grow_same (Mem.le_refl _) ?_ | refine ob (Mem.le_refl _) ?_ | refine ⟨_, Mem.le_refl _, ?_⟩ | fail)
  refine on hr0 ?_
  repeat' ((conv => whnf); first | refine ⟨?_, True.intro⟩ | refine brn_t rfl ?_ | refine brn_f rfl ?_ | refine ob rfl ?_ | refine ob (by decide) ?_ | refine grow_same (Mem.le_refl _) ?_ | refine ob (Mem.le_refl _) ?_ | refine ⟨_, Mem.le_refl _, ?_⟩ | fail)
  refine on hr1 ?_
  repeat' ((conv => whnf); first | refine ⟨?_, True.intro⟩ | refine brn_t rfl ?_ | refine brn_f rfl ?_ | refine ob rfl ?_ | refine ob (by decide) ?_ | refine grow_same (Mem.le_refl _) ?_ | refine ob (Mem.le_refl _) ?_ | refine ⟨_, Mem.le_refl _, ?_⟩ | fail)
  rw [wrap_i64 (by omega), wrap_i64 (by omega), wrap_i64 (by omega), wrap_i64 (by omega)]
  have hid : idOf l = ⟨(l[0].toNat : Int), (l[1].toNat : Int), getNum l 2 2, getNum l 4 2⟩ := by simp [idOf, List.getD_eq_getElem?_getD, List.getElem?_eq_getElem h0, List.getElem?_eq_getElem h1]
  repeat' ((conv => whnf); first | refine ⟨?_, True.intro⟩ | refine brn_t rfl ?_ | refine brn_f rfl ?_ | refine ob rfl ?_ | refine ob (by decide) ?_ | refine grow_same (Mem.le_refl _) ?_ | refine ob (Mem.le_refl _) ?_ | refine ⟨_, Mem.le_refl _, ?_⟩ | fail)
  refine (check_ok _ _ _ _ _).mono ?_
  rintro v M' ⟨rfl, rfl⟩
  have he : (idOf l).err = idErr l[0].toNat l[1].toNat (getNum l 2 2) (getNum l 4 2) := by rw [hid]; rfl
  rw [← he]
  have hne : ¬ l.length ≠ 6 := by omega
  (conv => whnf); refine brn (fun g => ?_) (fun g => ?_)
  · have g' : (idOf l).err ≠ 0 := by simpa using g
    have e : getIdErr l = 2 := by rw [getIdErr, if_neg hne, if_pos g']
    (conv => whnf)
    rw [getId, e]
    exact ⟨rfl, rfl⟩
  · have g' : (idOf l).err = 0 := by simpa using g
    have e : getIdErr l = 0 := by rw [getIdErr, if_neg hne, if_neg (by simp [g'])]
    (conv => whnf)
    rw [getId, e, if_pos rfl, hid]
    exact ⟨rfl, rfl⟩
theorem getIdR_ok (a : Option Addr) (n c : Nat) (M : Mem) (l : List UInt8) (hs : SrcOk M 1 a n (l.map byteV)) (hn : n ≤ 4194304) (hc : n ≤ c) :
    CallsM Try.prog F.ref13_GetId [.slice a n c] M fun v M' => v = .tuple #[idA (getId l), .int .i64 (getIdErr l)] ∧ M = M' := by
  have hl := hs.maplen
  refine fo_ref13_GetId (by simp) ?_
  (conv => whnf); refine brn (fun h => ?_) (fun h => ?_)
  · have h6 : l.length ≠ 6 := by simp at h; omega
    have e : getIdErr l = 2 := by rw [getIdErr, if_pos h6]
    (conv => whnf)
    rw [getId, e]
    exact ⟨rfl, rfl⟩
  have h6 : n = 6 := by simp at h; omega
  subst h6
  (conv => whnf); refine (refGet_ok _ _ _ _ l hs hn 2 2 (by decide)).mono ?_
  rintro v M' ⟨rfl, rfl⟩
  (conv => whnf); refine (refGet_ok _ _ _ _ l hs hn 4 2 (by decide)).mono ?_
  rintro v M' ⟨rfl, rfl⟩
  obtain ⟨h0, b, o, rfl, hr0⟩ := hs.at (i := 0) (by decide)
  obtain ⟨h1, b', o', hbo, hr1⟩ := hs.at (i := 1) (by decide)
  cases hbo
  have n2 : getNum l 2 2 < 65536 := getNum_two_lt l 2 (by omega)
  have n4 : getNum l 4 2 < 65536 := getNum_two_lt l 4 (by omega)
  have b0 := UInt8.toNat_lt l[0]
  have b1 := UInt8.toNat_lt l[1]
  repeat' ((conv => whnf); first | refine ⟨?_, True.intro⟩ | refine brn_t rfl ?_ | refine brn_f rfl ?_ | refine ob rfl ?_ | refine ob (by decide) ?_ | refine grow_same (Mem.le_refl _) ?_ | refine ob (Mem.le_refl _) ?_ | refine ⟨_, Mem.le_refl _, ?_⟩ | fail)
  refine on hr0 ?_
  repeat' ((conv => whnf); first | refine ⟨?_, True.intro⟩ | refine brn_t rfl ?_ | refine brn_f rfl ?_ | refine ob rfl ?_ | refine ob (by decide) ?_ | refine grow_same (Mem.le_refl _) ?_ | refine ob (Mem.le_refl _) ?_ | refine ⟨_, Mem.le_refl _, ?_⟩ | fail)
  refine on hr1 ?_
  repeat' ((conv => whnf); first | refine ⟨?_, True.intro⟩ | refine brn_t rfl ?_ | refine brn_f rfl ?_ | refine ob rfl ?_ | refine ob (by decide) ?_ | refine grow_same (Mem.le_refl _) ?_ | refine ob (Mem.le_refl _) ?_ | refine ⟨_, Mem.le_refl _, ?_⟩ | fail)
  rw [wrap_i64 (by omega), wrap_i64 (by omega), wrap_i64 (by omega), wrap_i64 (by omega)]
  have hid : idOf l = ⟨(l[0].toNat : Int), (l[1].toNat : Int), getNum l 2 2, getNum l 4 2⟩ := by simp [idOf, List.getD_eq_getElem?_getD, List.getElem?_eq_getElem h0, List.getElem?_eq_getElem h1]
  repeat' ((conv => whnf); first | refine ⟨?_, True.intro⟩ | refine brn_t rfl ?_ | refine brn_f rfl ?_ | refine ob rfl ?_ | refine ob (by decide) ?_ | refine grow_same (Mem.le_refl _) ?_ | refine ob (Mem.le_refl _) ?_ | refine ⟨_, Mem.le_refl _, ?_⟩ | fail)
  refine (checkR_ok _ _ _ _ _).mono ?_
  rintro v M' ⟨rfl, rfl⟩
  have he : (idOf l).err = idErr l[0].toNat l[1].toNat (getNum l 2 2) (getNum l 4 2) := by rw [hid]; rfl
  rw [← he]
  have hne : ¬ l.length ≠ 6 := by omega
  (conv => whnf); refine brn (fun g => ?_) (fun g => ?_)
  · have g' : (idOf l).err ≠ 0 := by simpa using g
    have e : getIdErr l = 2 := by rw [getIdErr, if_neg hne, if_pos g']
    (conv => whnf)
    rw [getId, e]
    exact ⟨rfl, rfl⟩
  · have g' : (idOf l).err = 0 := by simpa using g
    have e : getIdErr l = 0 := by rw [getIdErr, if_neg hne, if_neg (by simp [g'])]
    (conv => whnf)
    rw [getId, e, if_pos rfl, hid]
    exact ⟨rfl, rfl⟩
/-- the message that bytes say -/
def getMsgErr (l : List UInt8) : Int := if l.length < 6 then 2 else if getIdErr (l.take 6) ≠ 0 then 2 else if l.length = 6 ∨ 54 < l.length then 2 else 0
def getMsg (l : List UInt8) : MsgD := if getMsgErr l = 0 then ⟨idOf (l.take 6), l.drop 6⟩ else ⟨zeroI, []⟩
theorem getMsg_ok (a : Option Addr) (n c : Nat) (M : Mem) (l : List UInt8) (hs : SrcOk M 1 a n (l.map byteV)) (hn : n ≤ 4194304) (hc : n ≤ c) :
    CallsM Try.prog F.msg_Get [.slice a n c] M fun v M' => ∃ p m k, v = .tuple #[.agg #[.int .i64 (getMsg l).id.o, .int .i64 (getMsg l).id.d, .int .i64 (getMsg l).id.e, .int .i64 (getMsg l).id.c, .slice p m k], .int .i64 (getMsgErr l)] ∧
      M.le M' ∧ SrcOk M' 1 p m ((getMsg l).p.map byteV) ∧ m ≤ 4194304 ∧ ∀ q, p = some q → M q.block = none := by
  have hl := hs.maplen
  refine fo_msg_Get (by simp) ?_
  (conv => whnf); refine brn (fun h => ?_) (fun h => ?_)
  · have e : getMsgErr l = 2 := by rw [getMsgErr, if_pos (by have := of_decide_eq_true h; omega)]
    (conv => whnf)
    refine ⟨none, 0, 0, ?_, Mem.le_refl _, ?_, by decide, fun q hq => by cases hq⟩
    · rw [getMsg, e]; rfl
    · rw [getMsg, e]; exact SrcOk.nil _ _
  have h6 : 6 ≤ l.length := by have := of_decide_eq_false h; omega
  have hsub := hs.subm (lo := 0) (hi := 6) (by omega) (by omega) hc
  have hsub2 := hs.subm (lo := 6) (hi := n) (by omega) (by omega) hc
  (conv => whnf); refine ob (by omega) ?_
  (conv => whnf); refine (getId_ok _ _ _ _ (l.take 6) (by simpa using hsub) (by decide) (by omega)).mono ?_
  rintro v M' ⟨rfl, rfl⟩
  (conv => whnf); refine brn (fun g => ?_) (fun g => ?_)
  · have g' : getIdErr (l.take 6) ≠ 0 := by simpa using g
    have e : getMsgErr l = 2 := by rw [getMsgErr, if_neg (by omega), if_pos g']
    have e2 := getIdErr_two g'
    (conv => whnf)
    rw [e2]
    refine ⟨none, 0, 0, ?_, Mem.le_refl _, ?_, by decide, fun q hq => by cases hq⟩
    · rw [getMsg, e]; rfl
    · rw [getMsg, e]; exact SrcOk.nil _ _
  have g' : getIdErr (l.take 6) = 0 := by simpa using g
  have hgi : getId (l.take 6) = idOf (l.take 6) := by rw [getId, if_pos g']
  rw [hgi]
  have hd6 : (l.drop 6).length = n - 6 := by simp; omega
  have hsub3 : SrcOk M 1 (subA a 6 c 1) (n - 6) ((l.drop 6).map byteV) := by rw [List.take_of_length_le (by omega)] at hsub2; exact hsub2
  have hok : msgErr (idOf (l.take 6)).o (idOf (l.take 6)).d (idOf (l.take 6)).e (idOf (l.take 6)).c (n - 6) = if n = 6 then 2 else if 54 < n then 3 else 0 := by
    have : (idOf (l.take 6)).err = 0 := by
      unfold getIdErr at g'; split at g'
      · cases g'
      · split at g'
        · cases g'
        · rename_i h7; simpa using h7
    unfold msgErr
    rw [show idErr _ _ _ _ = 0 from this]
    simp only [ne_eq, not_true_eq_false, if_false]
    (repeat' split) <;> first | rfl | omega
  (conv => whnf)
  refine ⟨M, Mem.le_refl _, ?_⟩
  repeat' ((conv => whnf); first | refine ⟨?_, True.intro⟩ | refine ⟨?_, ?_, True.intro⟩ | refine new (fun b hb => ?_) | refine ob (by omega) ?_ | fail)
  all_goals
    replace hb : M b = none := hb
    have hN := NewSl.lit hb T.uint8 1 0 [] rfl
    (conv => whnf)
    refine srcv (hsub3.le (Mem.le_setCells hb)) ?_
    (conv => whnf)
    refine appN M _ hN (by omega) (by simp [maxLen]; omega) (bytes_one _) fun a1 c1 M1 hN1 => ?_
    repeat' ((conv => whnf); first | refine ⟨?_, True.intro⟩ | refine brn_t rfl ?_ | refine brn_f rfl ?_ | refine ob rfl ?_ | refine ob (by decide) ?_ | refine grow_same (Mem.le_refl _) ?_ | refine ob (Mem.le_refl _) ?_ | refine ⟨_, Mem.le_refl _, ?_⟩ | fail)
    refine grow_same hN1.le ?_
    repeat' ((conv => whnf); first | refine ⟨?_, True.intro⟩ | refine brn_t rfl ?_ | refine brn_f rfl ?_ | refine ob rfl ?_ | refine ob (by decide) ?_ | refine grow_same (Mem.le_refl _) ?_ | refine ob (Mem.le_refl _) ?_ | refine ⟨_, Mem.le_refl _, ?_⟩ | fail)
    refine (checkMsg_ok _ _ _ _ _ _ _ _).mono ?_
    rintro v M' ⟨rfl, rfl⟩
    have hz : 0 + ((n : Int).toNat - Int.toNat 6) = n - 6 := by
      have : Int.toNat 6 = 6 := rfl
      omega
    rw [hz] at hN1 ⊢
    rw [hok]
    have h6' : ¬ l.length < 6 := by omega
    (conv => whnf); refine brn (fun g2 => ?_) (fun g2 => ?_)
    · have e : getMsgErr l = 2 := by
        rw [getMsgErr, if_neg h6', if_neg (by simp [g']), if_pos]
        by_cases h8 : n = 6
        · omega
        · rw [if_neg h8] at g2
          by_cases h9 : 54 < n
          · omega
          · rw [if_neg h9] at g2; simp at g2
      (conv => whnf)
      refine ⟨none, 0, 0, ?_, hN1.le, ?_, by decide, fun q hq => by cases hq⟩
      · rw [getMsg, e]; rfl
      · rw [getMsg, e]; exact SrcOk.nil _ _
    · have e : getMsgErr l = 0 := by
        rw [getMsgErr, if_neg h6', if_neg (by simp [g']), if_neg]
        by_cases h8 : n = 6
        · rw [if_pos h8] at g2; simp at g2
        · rw [if_neg h8] at g2
          by_cases h9 : 54 < n
          · rw [if_pos h9] at g2; simp at g2
          · omega
      (conv => whnf)
      refine ⟨a1, n - 6, c1, ?_, hN1.le, ?_, by omega, fun q hq => (hN1.block hq).1⟩
      · rw [getMsg, e, if_pos rfl]
      · rw [getMsg, e, if_pos rfl]; simpa using hN1.src
theorem byteOf_toNat {x : Int} (h : 0 ≤ x ∧ x < 256) : ((byteOf x).toNat : Int) = x := by
  unfold byteOf
  simp
  omega
theorem toNat_byteOf (b : UInt8) : byteOf (b.toNat : Int) = b := by
  have := b.toNat_lt
  unfold byteOf
  apply UInt8.toNat_inj.1
  simp
  omega
/-- the number of two bytes -/
theorem num_twoOf {x : Int} (h : 0 ≤ x ∧ x ≤ 65535) : (num (two x) 0 : Int) = x := by
  have h1 := byteOf_toNat (x := x / 256) (by omega)
  have h2 : ((byteOf x).toNat : Int) = x % 256 := by
    have : byteOf x = byteOf (x % 256) := by simp [byteOf]
    rw [this]; exact byteOf_toNat (by omega)
  simp only [two, num]
  push_cast
  omega
theorem two_num {a b : UInt8} : two (num [a, b] 0 : Nat) = [a, b] := by
  have ha := a.toNat_lt
  have hb := b.toNat_lt
  simp only [num, two]
  have h1 : ((256 * (256 * 0 + a.toNat) + b.toNat : Nat) : Int) / 256 = (a.toNat : Int) := by omega
  rw [h1, toNat_byteOf]
  have h2 : byteOf ((256 * (256 * 0 + a.toNat) + b.toNat : Nat) : Int) = byteOf (b.toNat : Int) := by
    unfold byteOf; congr 2; omega
  rw [h2, toNat_byteOf]
/-- an id's bytes say it -/
theorem idOf_bytes {i : IdT} (h : i.err = 0) : idOf (idBytes i.o i.d i.e i.c) = i ∧ (idBytes i.o i.d i.e i.c).length = 6 := by
  obtain ⟨h1, h2, h3, h4, h5⟩ := idErr_all h
  refine ⟨?_, by simp [idBytes, two]⟩
  have e1 := byteOf_toNat (x := i.o) (by omega)
  have e2 := byteOf_toNat (x := i.d) (by omega)
  have e3 := num_twoOf (x := i.e) (by omega)
  have e4 := num_twoOf (x := i.c) (by omega)
  have g3 : getNum (idBytes i.o i.d i.e i.c) 2 2 = num (two i.e) 0 := rfl
  have g4 : getNum (idBytes i.o i.d i.e i.c) 4 2 = num (two i.c) 0 := rfl
  unfold idOf
  rw [g3, g4, e3, e4]
  have q1 : (idBytes i.o i.d i.e i.c).getD 0 0 = byteOf i.o := rfl
  have q2 : (idBytes i.o i.d i.e i.c).getD 1 0 = byteOf i.d := rfl
  rw [q1, q2, e1, e2]
theorem idBytes_of {l : List UInt8} (h : l.length = 6) : idBytes (idOf l).o (idOf l).d (idOf l).e (idOf l).c = l := by
  match l, h with
  | [a, b, c, d, e, f], _ =>
    have g3 : getNum [a, b, c, d, e, f] 2 2 = num [c, d] 0 := rfl
    have g4 : getNum [a, b, c, d, e, f] 4 2 = num [e, f] 0 := rfl
    unfold idOf
    rw [g3, g4]
    simp only [idBytes]
    rw [two_num, two_num]
    have q1 : ([a, b, c, d, e, f] : List UInt8).getD 0 0 = a := rfl
    have q2 : ([a, b, c, d, e, f] : List UInt8).getD 1 0 = b := rfl
    rw [q1, q2, toNat_byteOf, toNat_byteOf]
    rfl
end Go.Proofs.Ytlocjjponfbhmaa

/- Events and their bytes, plainly. -/
namespace Go.Proofs.Ytlocjjponfbhmaa
open Go Go.Vm
def evErr (x : EvX) : Int := formD x.kind x.id x.p.length
def evBytes (x : EvX) : List UInt8 := byteOf x.kind :: (if x.kind = 1 then [] else if x.kind = 2 then idBytes x.id.o x.id.d x.id.e x.id.c ++ x.p else idBytes x.id.o x.id.d x.id.e x.id.c)
def putEvD (x : EvX) : List UInt8 := if evErr x = 0 then evBytes x else []
def parseEv : List UInt8 → Option EvX
  | [] => none
  | b :: r =>
    if b.toNat = 1 then (if r = [] then some ⟨1, zeroI, []⟩ else none)
    else if b.toNat = 2 then (if getMsgErr r = 0 then some ⟨2, (getMsg r).id, (getMsg r).p⟩ else none)
    else if b.toNat = 3 ∨ b.toNat = 4 then (if getIdErr r = 0 then some ⟨b.toNat, getId r, []⟩ else none)
    else none
theorem parseEv_cons (b : UInt8) (r : List UInt8) : parseEv (b :: r) = if b.toNat = 1 then (if r = [] then some ⟨1, zeroI, []⟩ else none)
    else if b.toNat = 2 then (if getMsgErr r = 0 then some ⟨2, (getMsg r).id, (getMsg r).p⟩ else none)
    else if b.toNat = 3 ∨ b.toNat = 4 then (if getIdErr r = 0 then some ⟨b.toNat, getId r, []⟩ else none)
    else none := rfl
theorem evErr_kind {x : EvX} (h : evErr x = 0) : x.kind = 1 ∨ x.kind = 2 ∨ x.kind = 3 ∨ x.kind = 4 := by
  unfold evErr formD at h
  repeat' split at h
  all_goals omega
theorem evErr_one {x : EvX} (h : evErr x = 0) (hk : x.kind = 1) : zeroId x.id ∧ x.p = [] := by
  unfold evErr formD at h
  rw [if_pos hk] at h
  split at h
  · cases h
  · rename_i g
    refine ⟨?_, ?_⟩
    · by_cases h1 : zeroId x.id
      · exact h1
      · exact absurd (.inl h1) g
    · exact List.eq_nil_of_length_eq_zero (by omega)
theorem evErr_two {x : EvX} (h : evErr x = 0) (hk : x.kind = 2) : idErrD x.id = 0 ∧ 0 < x.p.length ∧ x.p.length ≤ 48 := by
  unfold evErr formD at h
  rw [if_neg (by omega), if_pos hk] at h
  exact msgErr_zero h
theorem evErr_rest {x : EvX} (h : evErr x = 0) (hk : x.kind = 3 ∨ x.kind = 4) : idErrD x.id = 0 ∧ x.p = [] := by
  unfold evErr formD at h
  rw [if_neg (by omega), if_neg (by omega), if_pos hk] at h
  split at h
  · rename_i g; exact absurd h g
  · rename_i g
    split at h
    · cases h
    · exact ⟨by simpa using g, List.eq_nil_of_length_eq_zero (by omega)⟩
theorem idBytes_len (o d e c : Int) : (idBytes o d e c).length = 6 := by simp [idBytes, two]
theorem getIdErr_bytes {i : IdT} (h : idErrD i = 0) : getIdErr (idBytes i.o i.d i.e i.c) = 0 ∧ getId (idBytes i.o i.d i.e i.c) = i := by
  obtain ⟨h1, h2⟩ := idOf_bytes (i := i) h
  have : getIdErr (idBytes i.o i.d i.e i.c) = 0 := by
    unfold getIdErr
    rw [if_neg (by omega), h1, if_neg (by simp only [ne_eq, Decidable.not_not]; exact h)]
  exact ⟨this, by unfold getId; rw [if_pos this, h1]⟩
theorem byteOf_small {k : Int} (h : 0 ≤ k ∧ k < 256) : ((byteOf k).toNat : Int) = k := byteOf_toNat h
theorem parse_bytes {x : EvX} (h : evErr x = 0) : parseEv (evBytes x) = some x := by
  obtain ⟨k, i, p⟩ := x
  have hk := evErr_kind h
  dsimp only at hk
  have hb : ((byteOf k).toNat : Int) = k := byteOf_small (by omega)
  rcases hk with rfl | rfl | rfl | rfl
  · obtain ⟨h1, h2⟩ := evErr_one h rfl
    dsimp only at h1 h2
    subst h2
    have eb : evBytes ⟨1, i, []⟩ = [byteOf 1] := rfl
    rw [eb, parseEv_cons, if_pos (by omega), if_pos rfl]
    obtain ⟨o, d, e, c⟩ := i
    unfold zeroId at h1
    dsimp only at h1
    obtain ⟨rfl, rfl, rfl, rfl⟩ := h1
    rfl
  · obtain ⟨h1, h2, h3⟩ := evErr_two h rfl
    dsimp only at h1 h2 h3
    obtain ⟨g1, g2⟩ := getIdErr_bytes h1
    have e6 : (idBytes i.o i.d i.e i.c ++ p).take 6 = idBytes i.o i.d i.e i.c := by rw [List.take_append_of_le_length (by rw [idBytes_len]; omega), List.take_of_length_le (by rw [idBytes_len]; omega)]
    have d6 : (idBytes i.o i.d i.e i.c ++ p).drop 6 = p := by rw [List.drop_append, List.drop_of_length_le (by rw [idBytes_len]; omega), idBytes_len]; simp
    have hm : getMsgErr (idBytes i.o i.d i.e i.c ++ p) = 0 := by
      unfold getMsgErr
      rw [if_neg (by rw [List.length_append, idBytes_len]; omega), e6, if_neg (by simp [g1]), if_neg (by rw [List.length_append, idBytes_len]; omega)]
    have eb : evBytes ⟨2, i, p⟩ = byteOf 2 :: (idBytes i.o i.d i.e i.c ++ p) := rfl
    rw [eb, parseEv_cons, if_neg (by omega), if_pos (by omega), if_pos hm]
    unfold getMsg
    rw [if_pos hm, e6, d6]
    rw [getId, if_pos g1] at g2
    dsimp only
    rw [g2]
  · obtain ⟨h1, h2⟩ := evErr_rest h (.inl rfl)
    dsimp only at h1 h2
    subst h2
    obtain ⟨g1, g2⟩ := getIdErr_bytes h1
    have eb : evBytes ⟨3, i, []⟩ = byteOf 3 :: idBytes i.o i.d i.e i.c := rfl
    rw [eb, parseEv_cons, if_neg (by omega), if_neg (by omega), if_pos (by omega), if_pos g1, g2, hb]
  · obtain ⟨h1, h2⟩ := evErr_rest h (.inr rfl)
    dsimp only at h1 h2
    subst h2
    obtain ⟨g1, g2⟩ := getIdErr_bytes h1
    have eb : evBytes ⟨4, i, []⟩ = byteOf 4 :: idBytes i.o i.d i.e i.c := rfl
    rw [eb, parseEv_cons, if_neg (by omega), if_neg (by omega), if_pos (by omega), if_pos g1, g2, hb]
theorem getIdErr_zero {l : List UInt8} (h : getIdErr l = 0) : l.length = 6 ∧ idErrD (idOf l) = 0 := by
  unfold getIdErr at h
  split at h
  · cases h
  · rename_i h6
    split at h
    · cases h
    · rename_i h7
      have h8 : (idOf l).err = 0 := by simpa using h7
      exact ⟨by omega, h8⟩
theorem getMsgErr_zero {l : List UInt8} (h : getMsgErr l = 0) : (7 ≤ l.length ∧ l.length ≤ 54) ∧ getIdErr (l.take 6) = 0 := by
  unfold getMsgErr at h
  split at h
  · cases h
  · split at h
    · cases h
    · rename_i g
      split at h
      · cases h
      · exact ⟨by omega, by simpa using g⟩
theorem byte_back {b : UInt8} {k : Nat} (h : b.toNat = k) : byteOf (k : Int) = b := by rw [← h]; exact toNat_byteOf b
theorem bytes_parse {l : List UInt8} {x : EvX} (h : parseEv l = some x) : evErr x = 0 ∧ evBytes x = l := by
  cases l with
  | nil => cases h
  | cons b r =>
    rw [parseEv_cons] at h
    split at h
    · rename_i hb
      split at h
      · rename_i hr
        cases h
        subst hr
        exact ⟨by decide, by have := byte_back hb; unfold evBytes; rw [if_pos rfl]; exact congrArg (· :: []) this⟩
      · cases h
    rename_i hb1
    split at h
    · rename_i hb
      split at h
      · rename_i hm
        cases h
        obtain ⟨h1, h2⟩ := getMsgErr_zero hm
        obtain ⟨h3, h4⟩ := getIdErr_zero h2
        have em : getMsg r = ⟨idOf (r.take 6), r.drop 6⟩ := by unfold getMsg; rw [if_pos hm]
        rw [em]
        dsimp only
        refine ⟨?_, ?_⟩
        · unfold evErr formD
          dsimp only
          rw [if_neg (by decide), if_pos rfl]
          unfold msgErrD msgErr
          rw [show idErr (idOf (r.take 6)).o (idOf (r.take 6)).d (idOf (r.take 6)).e (idOf (r.take 6)).c = 0 from h4]
          rw [if_neg (by decide), if_neg (by simp; omega), if_neg (by simp; omega)]
        · unfold evBytes
          dsimp only
          rw [if_neg (by decide), if_pos rfl, idBytes_of h3, List.take_append_drop]
          exact congrArg (· :: r) (byte_back hb)
      · cases h
    rename_i hb2
    split at h
    · rename_i hb
      split at h
      · rename_i hi
        cases h
        obtain ⟨h3, h4⟩ := getIdErr_zero hi
        have ei : getId r = idOf r := by unfold getId; rw [if_pos hi]
        rw [ei]
        refine ⟨?_, ?_⟩
        · unfold evErr formD
          dsimp only
          rw [if_neg (by omega), if_neg (by omega), if_pos (by omega), if_neg (by simpa using h4), if_neg (by simp)]
        · unfold evBytes
          dsimp only
          rw [if_neg (by omega), if_neg (by omega), idBytes_of h3, byte_back rfl]
      · cases h
    · cases h
/-- what the document guesses of bytes -/
def guessEv : List UInt8 → EvX
  | [] => ⟨0, zeroI, []⟩
  | b :: r => if b.toNat = 2 then ⟨2, (getMsg r).id, (getMsg r).p⟩ else ⟨b.toNat, getId r, []⟩
theorem guessEv_cons (b : UInt8) (r : List UInt8) : guessEv (b :: r) = if b.toNat = 2 then ⟨2, (getMsg r).id, (getMsg r).p⟩ else ⟨b.toNat, getId r, []⟩ := rfl
theorem guess_parse (b : UInt8) (r : List UInt8) : parseEv (b :: r) = if evErr (guessEv (b :: r)) ≠ 0 ∨ putEvD (guessEv (b :: r)) ≠ b :: r then none else some (guessEv (b :: r)) := by
  split
  · rename_i h
    cases hp : parseEv (b :: r) with
    | none => rfl
    | some x =>
      exfalso
      obtain ⟨h1, h2⟩ := bytes_parse hp
      have : guessEv (b :: r) = x := by
        rw [parseEv_cons] at hp
        rw [guessEv_cons]
        split at hp
        · rename_i hb
          split at hp
          · rename_i hr
            cases hp
            subst hr
            rw [if_neg (by omega), hb]
            rfl
          · cases hp
        rename_i hb1
        split at hp
        · rename_i hb
          rw [if_pos hb]
          split at hp
          · cases hp; rfl
          · cases hp
        rename_i hb2
        rw [if_neg hb2]
        split at hp
        · split at hp
          · cases hp; rfl
          · cases hp
        · cases hp
      rw [this] at h
      unfold putEvD at h
      rw [if_pos h1, h2] at h
      rcases h with h | h
      · exact h h1
      · exact h rfl
  · rename_i h
    have h1 : evErr (guessEv (b :: r)) = 0 := by
      by_cases e : evErr (guessEv (b :: r)) = 0
      · exact e
      · exact absurd (.inl e) h
    have h2 : putEvD (guessEv (b :: r)) = b :: r := by
      by_cases e : putEvD (guessEv (b :: r)) = b :: r
      · exact e
      · exact absurd (.inr e) h
    have := parse_bytes h1
    unfold putEvD at h2
    rw [if_pos h1] at h2
    rwa [h2] at this
end Go.Proofs.Ytlocjjponfbhmaa

