/- Ids and messages of bytes. -/
import Derived.Test.YthlleljdahkgpaaGetA
import Derived.Test.YthlleljdahkgpaaDeskD
namespace Go.Proofs.Ythlleljdahkgpaa
open Go Go.Vm
attribute [local irreducible] Brn Ob CallsM inR LoopVC Mem.row Mem.cells Mem.setCells Mem.upd Own AppVC SrcVC StrVC NextVC New SrcOk subA NewSl Mem.textAt Mem.mapAt Mem.iterAt entryOf kfind Wr NewEls Elems
set_option maxRecDepth 10000
/-- the id that six bytes say -/
def idOf (l : List UInt8) : Id := ⟨(l.getD 0 0).toNat, (l.getD 1 0).toNat, getNum l 2 2, getNum l 4 2⟩
def Id.err (i : Id) : Int := idErr i.o i.d i.e i.c
@[reducible] def zeroId : Id := ⟨0, 0, 0, 0⟩
def getIdErr (l : List UInt8) : Int := if l.length ≠ 6 then 2 else if (idOf l).err ≠ 0 then 2 else 0
def getId (l : List UInt8) : Id := if getIdErr l = 0 then idOf l else zeroId
theorem getIdErr_two {l : List UInt8} (h : getIdErr l ≠ 0) : getIdErr l = 2 := by
  unfold getIdErr at h ⊢
  split
  · rfl
  · rename_i h6
    rw [if_neg h6] at h
    split
    · rfl
    · rename_i h7; rw [if_neg h7] at h; exact absurd rfl h
theorem getNum_two (l : List UInt8) (k : Nat) (h : k + 2 ≤ l.length) : getNum l k 2 = 256 * (l.getD k 0).toNat + (l.getD (k + 1) 0).toNat := by
  unfold getNum
  have e : (l.drop (k : Int).toNat).take (Int.toNat 2) = [l[k], l[k + 1]] := by
    rw [show (k : Int).toNat = k by simp, show Int.toNat 2 = 2 by rfl, List.drop_eq_getElem_cons (by omega), List.take_succ_cons, List.drop_eq_getElem_cons (by omega), List.take_succ_cons, List.take_zero]
  rw [e]
  simp [num, List.getD_eq_getElem?_getD, List.getElem?_eq_getElem (show k < l.length by omega), List.getElem?_eq_getElem (show k + 1 < l.length by omega)]
theorem getNum_two_lt (l : List UInt8) (k : Nat) (h : k + 2 ≤ l.length) : getNum l k 2 < 65536 := by
  rw [getNum_two l k h]
  have := UInt8.toNat_lt (l.getD k 0)
  have := UInt8.toNat_lt (l.getD (k + 1) 0)
  omega
theorem wrap_i64 {n : Int} (h : 0 ≤ n ∧ n < 9223372036854775808) : IntKind.i64.wrap n = n := by
  rw [IntKind.wrap_i64]; omega
theorem getId_ok (a : Option Addr) (n c : Nat) (M : Mem) (l : List UInt8) (hs : SrcOk M 1 a n (l.map byteV)) (hn : n ≤ 4194304) (hc : n ≤ c) :
    CallsM Try.prog F.msg_GetId [.slice a n c] M fun v M' => v = .tuple #[(getId l).v, .int .i64 (getIdErr l)] ∧ M = M' := by
  have hl := hs.maplen
  refine fo_msg_GetId (by simp) ?_
  (conv => whnf); refine brn (fun h => ?_) (fun h => ?_)
  · have h6 : l.length ≠ 6 := by simp at h; omega
    have e : getIdErr l = 2 := by rw [getIdErr, if_pos h6]
    (conv => whnf)
    rw [getId, e]
    exact ⟨rfl, rfl⟩
  have h6 : n = 6 := by simp at h; omega
  subst h6
  (conv => whnf); refine (bitsGet_ok _ _ _ _ l hs hn hc 2 2 (by decide)).mono ?_
  rintro v M' ⟨rfl, rfl⟩
  (conv => whnf); refine (bitsGet_ok _ _ _ _ l hs hn hc 4 2 (by decide)).mono ?_
  rintro v M' ⟨rfl, rfl⟩
  obtain ⟨h0, b, o, rfl, hr0⟩ := hs.at (i := 0) (by decide)
  obtain ⟨h1, b', o', hbo, hr1⟩ := hs.at (i := 1) (by decide)
  cases hbo
  have n2 : getNum l 2 2 < 65536 := getNum_two_lt l 2 (by omega)
  have n4 : getNum l 4 2 < 65536 := getNum_two_lt l 4 (by omega)
  have b0 := UInt8.toNat_lt l[0]
  have b1 := UInt8.toNat_lt l[1]
  repeat' ((conv => whnf); first | refine ⟨?_, True.intro⟩ | refine brn_t rfl ?_ | refine brn_f rfl ?_ | refine ob rfl ?_ | refine ob (by decide) ?_ | refine ob (Mem.le_refl _) ?_ | refine ⟨_, Mem.le_refl _, ?_⟩ | fail)
  refine on hr0 ?_
  repeat' ((conv => whnf); first | refine ⟨?_, True.intro⟩ | refine brn_t rfl ?_ | refine brn_f rfl ?_ | refine ob rfl ?_ | refine ob (by decide) ?_ | refine ob (Mem.le_refl _) ?_ | refine ⟨_, Mem.le_refl _, ?_⟩ | fail)
  refine on hr1 ?_
  repeat' ((conv => whnf); first | refine ⟨?_, True.intro⟩ | refine brn_t rfl ?_ | refine brn_f rfl ?_ | refine ob rfl ?_ | refine ob (by decide) ?_ | refine ob (Mem.le_refl _) ?_ | refine ⟨_, Mem.le_refl _, ?_⟩ | fail)
  rw [wrap_i64 (by omega), wrap_i64 (by omega), wrap_i64 (by omega), wrap_i64 (by omega)]
  have hid : idOf l = ⟨(l[0].toNat : Int), (l[1].toNat : Int), getNum l 2 2, getNum l 4 2⟩ := by simp [idOf, List.getD_eq_getElem?_getD, List.getElem?_eq_getElem h0, List.getElem?_eq_getElem h1]
  repeat' ((conv => whnf); first | refine ⟨?_, True.intro⟩ | refine brn_t rfl ?_ | refine brn_f rfl ?_ | refine ob rfl ?_ | refine ob (by decide) ?_ | refine ob (Mem.le_refl _) ?_ | refine ⟨_, Mem.le_refl _, ?_⟩ | fail)
  refine (check_ok _ _ _ _ _).mono ?_
  rintro v M' ⟨rfl, rfl⟩
  have he : (idOf l).err = idErr l[0].toNat l[1].toNat (getNum l 2 2) (getNum l 4 2) := by rw [hid]; rfl
  rw [← he]
  have hne : ¬ l.length ≠ 6 := by omega
  (conv => whnf); refine brn (fun g => ?_) (fun g => ?_)
  · have g' : (idOf l).err ≠ 0 := by simpa using g
    have e : getIdErr l = 2 := by rw [getIdErr, if_neg hne, if_pos g']
    (conv => whnf)
    rw [getId, e]
    exact ⟨rfl, rfl⟩
  · have g' : (idOf l).err = 0 := by simpa using g
    have e : getIdErr l = 0 := by rw [getIdErr, if_neg hne, if_neg (by simp [g'])]
    (conv => whnf)
    rw [getId, e, if_pos rfl, hid]
    exact ⟨rfl, rfl⟩
theorem getIdR_ok (a : Option Addr) (n c : Nat) (M : Mem) (l : List UInt8) (hs : SrcOk M 1 a n (l.map byteV)) (hn : n ≤ 4194304) (hc : n ≤ c) :
    CallsM Try.prog F.ref13_GetId [.slice a n c] M fun v M' => v = .tuple #[(getId l).v, .int .i64 (getIdErr l)] ∧ M = M' := by
  have hl := hs.maplen
  refine fo_ref13_GetId (by simp) ?_
  (conv => whnf); refine brn (fun h => ?_) (fun h => ?_)
  · have h6 : l.length ≠ 6 := by simp at h; omega
    have e : getIdErr l = 2 := by rw [getIdErr, if_pos h6]
    (conv => whnf)
    rw [getId, e]
    exact ⟨rfl, rfl⟩
  have h6 : n = 6 := by simp at h; omega
  subst h6
  (conv => whnf); refine (refGet_ok _ _ _ _ l hs hn 2 2 (by decide)).mono ?_
  rintro v M' ⟨rfl, rfl⟩
  (conv => whnf); refine (refGet_ok _ _ _ _ l hs hn 4 2 (by decide)).mono ?_
  rintro v M' ⟨rfl, rfl⟩
  obtain ⟨h0, b, o, rfl, hr0⟩ := hs.at (i := 0) (by decide)
  obtain ⟨h1, b', o', hbo, hr1⟩ := hs.at (i := 1) (by decide)
  cases hbo
  have n2 : getNum l 2 2 < 65536 := getNum_two_lt l 2 (by omega)
  have n4 : getNum l 4 2 < 65536 := getNum_two_lt l 4 (by omega)
  have b0 := UInt8.toNat_lt l[0]
  have b1 := UInt8.toNat_lt l[1]
  repeat' ((conv => whnf); first | refine ⟨?_, True.intro⟩ | refine brn_t rfl ?_ | refine brn_f rfl ?_ | refine ob rfl ?_ | refine ob (by decide) ?_ | refine ob (Mem.le_refl _) ?_ | refine ⟨_, Mem.le_refl _, ?_⟩ | fail)
  refine on hr0 ?_
  repeat' ((conv => whnf); first | refine ⟨?_, True.intro⟩ | refine brn_t rfl ?_ | refine brn_f rfl ?_ | refine ob rfl ?_ | refine ob (by decide) ?_ | refine ob (Mem.le_refl _) ?_ | refine ⟨_, Mem.le_refl _, ?_⟩ | fail)
  refine on hr1 ?_
  repeat' ((conv => whnf); first | refine ⟨?_, True.intro⟩ | refine brn_t rfl ?_ | refine brn_f rfl ?_ | refine ob rfl ?_ | refine ob (by decide) ?_ | refine ob (Mem.le_refl _) ?_ | refine ⟨_, Mem.le_refl _, ?_⟩ | fail)
  rw [wrap_i64 (by omega), wrap_i64 (by omega), wrap_i64 (by omega), wrap_i64 (by omega)]
  have hid : idOf l = ⟨(l[0].toNat : Int), (l[1].toNat : Int), getNum l 2 2, getNum l 4 2⟩ := by simp [idOf, List.getD_eq_getElem?_getD, List.getElem?_eq_getElem h0, List.getElem?_eq_getElem h1]
  repeat' ((conv => whnf); first | refine ⟨?_, True.intro⟩ | refine brn_t rfl ?_ | refine brn_f rfl ?_ | refine ob rfl ?_ | refine ob (by decide) ?_ | refine ob (Mem.le_refl _) ?_ | refine ⟨_, Mem.le_refl _, ?_⟩ | fail)
  refine (checkR_ok _ _ _ _ _).mono ?_
  rintro v M' ⟨rfl, rfl⟩
  have he : (idOf l).err = idErr l[0].toNat l[1].toNat (getNum l 2 2) (getNum l 4 2) := by rw [hid]; rfl
  rw [← he]
  have hne : ¬ l.length ≠ 6 := by omega
  (conv => whnf); refine brn (fun g => ?_) (fun g => ?_)
  · have g' : (idOf l).err ≠ 0 := by simpa using g
    have e : getIdErr l = 2 := by rw [getIdErr, if_neg hne, if_pos g']
    (conv => whnf)
    rw [getId, e]
    exact ⟨rfl, rfl⟩
  · have g' : (idOf l).err = 0 := by simpa using g
    have e : getIdErr l = 0 := by rw [getIdErr, if_neg hne, if_neg (by simp [g'])]
    (conv => whnf)
    rw [getId, e, if_pos rfl, hid]
    exact ⟨rfl, rfl⟩
/-- the message that bytes say -/
def getMsgErr (l : List UInt8) : Int := if l.length < 6 then 2 else if getIdErr (l.take 6) ≠ 0 then 2 else if l.length = 6 ∨ 54 < l.length then 2 else 0
def getMsg (l : List UInt8) : Msg := if getMsgErr l = 0 then ⟨idOf (l.take 6), l.drop 6⟩ else ⟨zeroId, []⟩
theorem getMsg_ok (a : Option Addr) (n c : Nat) (M : Mem) (l : List UInt8) (hs : SrcOk M 1 a n (l.map byteV)) (hn : n ≤ 4194304) (hc : n ≤ c) :
    CallsM Try.prog F.msg_Get [.slice a n c] M fun v M' => ∃ p m k, v = .tuple #[.agg #[.int .i64 (getMsg l).id.o, .int .i64 (getMsg l).id.d, .int .i64 (getMsg l).id.e, .int .i64 (getMsg l).id.c, .slice p m k], .int .i64 (getMsgErr l)] ∧
      M.le M' ∧ SrcOk M' 1 p m ((getMsg l).data.map byteV) ∧ m ≤ 4194304 ∧ ∀ q, p = some q → M q.block = none := by
  have hl := hs.maplen
  refine fo_msg_Get (by simp) ?_
  (conv => whnf); refine brn (fun h => ?_) (fun h => ?_)
  · have e : getMsgErr l = 2 := by rw [getMsgErr, if_pos (by have := of_decide_eq_true h; omega)]
    (conv => whnf)
    refine ⟨none, 0, 0, ?_, Mem.le_refl _, ?_, by decide, fun q hq => by cases hq⟩
    · rw [getMsg, e]; rfl
    · rw [getMsg, e]; exact SrcOk.nil _ _
  have h6 : 6 ≤ l.length := by have := of_decide_eq_false h; omega
  have hsub := hs.subm (lo := 0) (hi := 6) (by omega) (by omega) hc
  have hsub2 := hs.subm (lo := 6) (hi := n) (by omega) (by omega) hc
  (conv => whnf); refine ob (by omega) ?_
  (conv => whnf); refine (getId_ok _ _ _ _ (l.take 6) (by simpa using hsub) (by decide) (by omega)).mono ?_
  rintro v M' ⟨rfl, rfl⟩
  (conv => whnf); refine brn (fun g => ?_) (fun g => ?_)
  · have g' : getIdErr (l.take 6) ≠ 0 := by simpa using g
    have e : getMsgErr l = 2 := by rw [getMsgErr, if_neg (by omega), if_pos g']
    have e2 := getIdErr_two g'
    (conv => whnf)
    rw [e2]
    refine ⟨none, 0, 0, ?_, Mem.le_refl _, ?_, by decide, fun q hq => by cases hq⟩
    · rw [getMsg, e]; rfl
    · rw [getMsg, e]; exact SrcOk.nil _ _
  have g' : getIdErr (l.take 6) = 0 := by simpa using g
  have hgi : getId (l.take 6) = idOf (l.take 6) := by rw [getId, if_pos g']
  rw [hgi]
  have hd6 : (l.drop 6).length = n - 6 := by simp; omega
  have hsub3 : SrcOk M 1 (subA a 6 c 1) (n - 6) ((l.drop 6).map byteV) := by rw [List.take_of_length_le (by omega)] at hsub2; exact hsub2
  have hok : msgErr (idOf (l.take 6)).o (idOf (l.take 6)).d (idOf (l.take 6)).e (idOf (l.take 6)).c (n - 6) = if n = 6 then 2 else if 54 < n then 3 else 0 := by
    have : (idOf (l.take 6)).err = 0 := by
      unfold getIdErr at g'; split at g'
      · cases g'
      · split at g'
        · cases g'
        · rename_i h7; simpa using h7
    unfold msgErr
    rw [show idErr _ _ _ _ = 0 from this]
    simp only [ne_eq, not_true_eq_false, if_false]
    (repeat' split) <;> first | rfl | omega
  (conv => whnf)
  refine ⟨M, Mem.le_refl _, ?_⟩
  repeat' ((conv => whnf); first | refine ⟨?_, True.intro⟩ | refine ⟨?_, ?_, True.intro⟩ | refine new (fun b hb => ?_) | refine ob (by omega) ?_ | fail)
  all_goals
    replace hb : M b = none := hb
    have hN := NewSl.lit hb T.uint8 1 0 [] rfl
    (conv => whnf)
    refine srcv (hsub3.le (Mem.le_setCells hb)) ?_
    (conv => whnf)
    refine appN M _ hN (by omega) (by simp [maxLen]; omega) (bytes_one _) fun a1 c1 M1 hN1 => ?_
    repeat' ((conv => whnf); first | refine ⟨?_, True.intro⟩ | refine brn_t rfl ?_ | refine brn_f rfl ?_ | refine ob rfl ?_ | refine ob (by decide) ?_ | refine ob (Mem.le_refl _) ?_ | refine ⟨_, Mem.le_refl _, ?_⟩ | fail)
    refine ob hN1.le ?_
    repeat' ((conv => whnf); first | refine ⟨?_, True.intro⟩ | refine brn_t rfl ?_ | refine brn_f rfl ?_ | refine ob rfl ?_ | refine ob (by decide) ?_ | refine ob (Mem.le_refl _) ?_ | refine ⟨_, Mem.le_refl _, ?_⟩ | fail)
    refine (checkMsg_ok _ _ _ _ _ _ _ _).mono ?_
    rintro v M' ⟨rfl, rfl⟩
    have hz : 0 + ((n : Int).toNat - Int.toNat 6) = n - 6 := by
      have : Int.toNat 6 = 6 := rfl
      omega
    rw [hz] at hN1 ⊢
    rw [hok]
    have h6' : ¬ l.length < 6 := by omega
    (conv => whnf); refine brn (fun g2 => ?_) (fun g2 => ?_)
    · have e : getMsgErr l = 2 := by
        rw [getMsgErr, if_neg h6', if_neg (by simp [g']), if_pos]
        by_cases h8 : n = 6
        · omega
        · rw [if_neg h8] at g2
          by_cases h9 : 54 < n
          · omega
          · rw [if_neg h9] at g2; simp at g2
      (conv => whnf)
      refine ⟨none, 0, 0, ?_, hN1.le, ?_, by decide, fun q hq => by cases hq⟩
      · rw [getMsg, e]; rfl
      · rw [getMsg, e]; exact SrcOk.nil _ _
    · have e : getMsgErr l = 0 := by
        rw [getMsgErr, if_neg h6', if_neg (by simp [g']), if_neg]
        by_cases h8 : n = 6
        · rw [if_pos h8] at g2; simp at g2
        · rw [if_neg h8] at g2
          by_cases h9 : 54 < n
          · rw [if_pos h9] at g2; simp at g2
          · omega
      (conv => whnf)
      refine ⟨a1, n - 6, c1, ?_, hN1.le, ?_, by omega, fun q hq => (hN1.block hq).1⟩
      · rw [getMsg, e, if_pos rfl]
      · rw [getMsg, e, if_pos rfl]; simpa using hN1.src
end Go.Proofs.Ythlleljdahkgpaa
