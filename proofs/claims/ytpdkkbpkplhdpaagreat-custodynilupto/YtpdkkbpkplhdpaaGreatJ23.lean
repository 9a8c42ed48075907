/- Part of this proof; laid by program. -/
import Derived.Test.YtpdkkbpkplhdpaaGreatJ22
import Derived.Test.YtpdkkbpkplhdpaaGreatJ10
namespace Go.Proofs.YtpdkkbpkplhdpaaGreat
open Go Go.Vm
attribute [local irreducible] Brn Ob Grow CallsM inR LoopVC LoopVC0 Mem.row Mem.cells Mem.setCells Mem.upd Go.Vm.Own AppVC SrcVC StrVC NextVC New SrcOk subA NewSl Mem.textAt Mem.mapAt Mem.iterAt entryOf kfind Wr NewEls Elems
set_option maxRecDepth 10000
def idOf (l : List UInt8) : IdT := ⟨(l.getD 0 0).toNat, (l.getD 1 0).toNat, getNum l 2 2, getNum l 4 2⟩
def IdT.err (i : IdT) : Int := idErr i.o i.d i.e i.c
@[reducible] def zeroI : IdT := ⟨0, 0, 0, 0⟩
def getIdErr (l : List UInt8) : Int := if l.length ≠ 6 then 2 else if (idOf l).err ≠ 0 then 2 else 0
def getId (l : List UInt8) : IdT := if getIdErr l = 0 then idOf l else zeroI
theorem getIdErr_two {l : List UInt8} (h : getIdErr l ≠ 0) : getIdErr l = 2 := by
  unfold getIdErr at h ⊢
  split
  · rfl
  · rename_i h6
    rw [if_neg h6] at h
    split
    · rfl
    · rename_i h7; rw [if_neg h7] at h; exact absurd rfl h
theorem getNum_two (l : List UInt8) (k : Nat) (h : k + 2 ≤ l.length) : getNum l k 2 = 256 * (l.getD k 0).toNat + (l.getD (k + 1) 0).toNat := by
  unfold getNum
  have e : (l.drop (k : Int).toNat).take (Int.toNat 2) = [l[k], l[k + 1]] := by
    rw [show (k : Int).toNat = k by simp, show Int.toNat 2 = 2 by rfl, List.drop_eq_getElem_cons (by omega), List.take_succ_cons, List.drop_eq_getElem_cons (by omega), List.take_succ_cons, List.take_zero]
  rw [e]
  simp [num, List.getD_eq_getElem?_getD, List.getElem?_eq_getElem (show k < l.length by omega), List.getElem?_eq_getElem (show k + 1 < l.length by omega)]
theorem getNum_two_lt (l : List UInt8) (k : Nat) (h : k + 2 ≤ l.length) : getNum l k 2 < 65536 := by
  rw [getNum_two l k h]
  have := UInt8.toNat_lt (l.getD k 0)
  have := UInt8.toNat_lt (l.getD (k + 1) 0)
  omega
theorem wrap_i64 {n : Int} (h : 0 ≤ n ∧ n < 9223372036854775808) : IntKind.i64.wrap n = n := by
  rw [IntKind.wrap_i64]; omega
theorem getId_ok (a : Option Addr) (n c : Nat) (M : Mem) (l : List UInt8) (hs : SrcOk M 1 a n (l.map byteV)) (hn : n ≤ 4194304) (hc : n ≤ c) :
    CallsM Tryz.prog F.msg_GetId [.slice a n c] M fun v M' => v = .tuple #[idA (getId l), .int .i64 (getIdErr l)] ∧ M = M' := by
  have hl := hs.maplen
  refine fo_msg_GetId (by simp) ?_
  (conv => whnf); refine brn (fun h => ?_) (fun h => ?_)
  · have h6 : l.length ≠ 6 := by simp at h; omega
    have e : getIdErr l = 2 := by rw [getIdErr, if_pos h6]
    (conv => whnf)
    rw [getId, e]
    exact ⟨rfl, rfl⟩
  have h6 : n = 6 := by simp at h; omega
  subst h6
  (conv => whnf); refine (bitsGet_ok _ _ _ _ l hs hn hc 2 2 (by decide)).mono ?_
  rintro v M' ⟨rfl, rfl⟩
  (conv => whnf); refine (bitsGet_ok _ _ _ _ l hs hn hc 4 2 (by decide)).mono ?_
  rintro v M' ⟨rfl, rfl⟩
  obtain ⟨h0, b, o, rfl, hr0⟩ := hs.at (i := 0) (by decide)
  obtain ⟨h1, b', o', hbo, hr1⟩ := hs.at (i := 1) (by decide)
  cases hbo
  have n2 : getNum l 2 2 < 65536 := getNum_two_lt l 2 (by omega)
  have n4 : getNum l 4 2 < 65536 := getNum_two_lt l 4 (by omega)
  have b0 := UInt8.toNat_lt l[0]
  have b1 := UInt8.toNat_lt l[1]
  refine zR ?_
  refine on hr0 ?_
  refine zR ?_
  refine on hr1 ?_
  refine zR ?_
  rw [wrap_i64 (by omega), wrap_i64 (by omega), wrap_i64 (by omega), wrap_i64 (by omega)]
  have hid : idOf l = ⟨(l[0].toNat : Int), (l[1].toNat : Int), getNum l 2 2, getNum l 4 2⟩ := by simp [idOf, List.getD_eq_getElem?_getD, List.getElem?_eq_getElem h0, List.getElem?_eq_getElem h1]
  refine zR ?_
  refine (check_ok _ _ _ _ _).mono ?_
  rintro v M' ⟨rfl, rfl⟩
  have he : (idOf l).err = idErr l[0].toNat l[1].toNat (getNum l 2 2) (getNum l 4 2) := by rw [hid]; rfl
  rw [← he]
  have hne : ¬ l.length ≠ 6 := by omega
  (conv => whnf); refine brn (fun g => ?_) (fun g => ?_)
  · have g' : (idOf l).err ≠ 0 := by simpa using g
    have e : getIdErr l = 2 := by rw [getIdErr, if_neg hne, if_pos g']
    (conv => whnf)
    rw [getId, e]
    exact ⟨rfl, rfl⟩
  · have g' : (idOf l).err = 0 := by simpa using g
    have e : getIdErr l = 0 := by rw [getIdErr, if_neg hne, if_neg (by simp [g'])]
    (conv => whnf)
    rw [getId, e, if_pos rfl, hid]
    exact ⟨rfl, rfl⟩
def getMsgErr (l : List UInt8) : Int := if l.length < 6 then 2 else if getIdErr (l.take 6) ≠ 0 then 2 else if l.length = 6 ∨ 54 < l.length then 2 else 0
def getMsg (l : List UInt8) : MsgD := if getMsgErr l = 0 then ⟨idOf (l.take 6), l.drop 6⟩ else ⟨zeroI, []⟩
theorem getMsgN_ok (a : Option Addr) (n c : Nat) (M : Mem) (l : List UInt8) (hs : SrcOk M 1 a n (l.map byteV)) (hn : n ≤ 4194304) (hc : n ≤ c) :
    CallsM Tryz.prog F.msg_Get [.slice a n c] M fun v M' => ∃ p m k, v = .tuple #[.agg #[.int .i64 (getMsg l).id.o, .int .i64 (getMsg l).id.d, .int .i64 (getMsg l).id.e, .int .i64 (getMsg l).id.c, .slice p m k], .int .i64 (getMsgErr l)] ∧
      NewSl M T.uint8 1 p m k ((getMsg l).p.map byteV) M' ∧ m ≤ 4194304 := by
  have hl := hs.maplen
  refine fo_msg_Get (by simp) ?_
  (conv => whnf); refine brn (fun h => ?_) (fun h => ?_)
  · have e : getMsgErr l = 2 := by rw [getMsgErr, if_pos (by have := of_decide_eq_true h; omega)]
    (conv => whnf)
    refine ⟨none, 0, 0, ?_, ?_, by decide⟩
    · rw [getMsg, e]; rfl
    · rw [getMsg, e]; exact NewSl.none _ _ _
  have h6 : 6 ≤ l.length := by have := of_decide_eq_false h; omega
  have hsub := hs.subm (lo := 0) (hi := 6) (by omega) (by omega) hc
  have hsub2 := hs.subm (lo := 6) (hi := n) (by omega) (by omega) hc
  (conv => whnf); refine ob (by omega) ?_
  (conv => whnf); refine (getId_ok _ _ _ _ (l.take 6) (by simpa using hsub) (by decide) (by omega)).mono ?_
  rintro v M' ⟨rfl, rfl⟩
  (conv => whnf); refine brn (fun g => ?_) (fun g => ?_)
  · have g' : getIdErr (l.take 6) ≠ 0 := by simpa using g
    have e : getMsgErr l = 2 := by rw [getMsgErr, if_neg (by omega), if_pos g']
    have e2 := getIdErr_two g'
    (conv => whnf)
    rw [e2]
    refine ⟨none, 0, 0, ?_, ?_, by decide⟩
    · rw [getMsg, e]; rfl
    · rw [getMsg, e]; exact NewSl.none _ _ _
  have g' : getIdErr (l.take 6) = 0 := by simpa using g
  have hgi : getId (l.take 6) = idOf (l.take 6) := by rw [getId, if_pos g']
  rw [hgi]
  have hd6 : (l.drop 6).length = n - 6 := by simp; omega
  have hsub3 : SrcOk M 1 (subA a 6 c 1) (n - 6) ((l.drop 6).map byteV) := by rw [List.take_of_length_le (by omega)] at hsub2; exact hsub2
  have hok : msgErr (idOf (l.take 6)).o (idOf (l.take 6)).d (idOf (l.take 6)).e (idOf (l.take 6)).c (n - 6) = if n = 6 then 2 else if 54 < n then 3 else 0 := by
    have : (idOf (l.take 6)).err = 0 := by
      unfold getIdErr at g'; split at g'
      · cases g'
      · split at g'
        · cases g'
        · rename_i h7; simpa using h7
    unfold msgErr
    rw [show idErr _ _ _ _ = 0 from this]
    simp only [ne_eq, not_true_eq_false, if_false]
    (repeat' split) <;> first | rfl | omega
  (conv => whnf)
  refine ⟨M, Mem.le_refl _, ?_⟩
  repeat' ((conv => whnf); first | refine ⟨?_, True.intro⟩ | refine ⟨?_, ?_, True.intro⟩ | refine new (fun b hb => ?_) | refine ob (by omega) ?_ | fail)
  all_goals
    replace hb : M b = none := hb
    have hN := NewSl.lit hb T.uint8 1 0 [] rfl
    (conv => whnf)
    refine srcv (hsub3.le (Mem.le_setCells hb)) ?_
    (conv => whnf)
    refine appN M _ hN (by omega) (by simp [maxLen]; omega) (bytes_one _) fun a1 c1 M1 hN1 => ?_
    refine zR ?_
    refine grow_same hN1.le ?_
    refine zR ?_
    refine (checkMsg_ok _ _ _ _ _ _ _ _).mono ?_
    rintro v M' ⟨rfl, rfl⟩
    have hz : 0 + ((n : Int).toNat - Int.toNat 6) = n - 6 := by
      have : Int.toNat 6 = 6 := rfl
      omega
    rw [hz] at hN1 ⊢
    rw [hok]
    have h6' : ¬ l.length < 6 := by omega
    (conv => whnf); refine brn (fun g2 => ?_) (fun g2 => ?_)
    · have e : getMsgErr l = 2 := by
        rw [getMsgErr, if_neg h6', if_neg (by simp [g']), if_pos]
        by_cases h8 : n = 6
        · omega
        · rw [if_neg h8] at g2
          by_cases h9 : 54 < n
          · omega
          · rw [if_neg h9] at g2; simp at g2
      (conv => whnf)
      refine ⟨none, 0, 0, ?_, ?_, by decide⟩
      · rw [getMsg, e]; rfl
      · rw [getMsg, e]; exact (NewSl.none _ _ _).up hN1.le
    · have e : getMsgErr l = 0 := by
        rw [getMsgErr, if_neg h6', if_neg (by simp [g']), if_neg]
        by_cases h8 : n = 6
        · rw [if_pos h8] at g2; simp at g2
        · rw [if_neg h8] at g2
          by_cases h9 : 54 < n
          · rw [if_pos h9] at g2; simp at g2
          · omega
      (conv => whnf)
      refine ⟨a1, n - 6, c1, ?_, ?_, by omega⟩
      · rw [getMsg, e, if_pos rfl]
      · rw [getMsg, e, if_pos rfl]; simpa using hN1
theorem getMsg_ok (a : Option Addr) (n c : Nat) (M : Mem) (l : List UInt8) (hs : SrcOk M 1 a n (l.map byteV)) (hn : n ≤ 4194304) (hc : n ≤ c) :
    CallsM Tryz.prog F.msg_Get [.slice a n c] M fun v M' => ∃ p m k, v = .tuple #[.agg #[.int .i64 (getMsg l).id.o, .int .i64 (getMsg l).id.d, .int .i64 (getMsg l).id.e, .int .i64 (getMsg l).id.c, .slice p m k], .int .i64 (getMsgErr l)] ∧
      M.le M' ∧ SrcOk M' 1 p m ((getMsg l).p.map byteV) ∧ m ≤ 4194304 ∧ ∀ q, p = some q → M q.block = none :=
  (getMsgN_ok a n c M l hs hn hc).mono fun v M' ⟨p, m, k, hv, hN, hm⟩ => ⟨p, m, k, hv, hN.le, hN.src, hm, fun q hq => (hN.block hq).1⟩
theorem byteOf_toNat {x : Int} (h : 0 ≤ x ∧ x < 256) : ((byteOf x).toNat : Int) = x := by
  unfold byteOf
  simp
  omega
theorem toNat_byteOf (b : UInt8) : byteOf (b.toNat : Int) = b := by
  have := b.toNat_lt
  unfold byteOf
  apply UInt8.toNat_inj.1
  simp
  omega
theorem num_twoOf {x : Int} (h : 0 ≤ x ∧ x ≤ 65535) : (num (two x) 0 : Int) = x := by
  have h1 := byteOf_toNat (x := x / 256) (by omega)
  have h2 : ((byteOf x).toNat : Int) = x % 256 := by
    have : byteOf x = byteOf (x % 256) := by simp [byteOf]
    rw [this]; exact byteOf_toNat (by omega)
  simp only [two, num]
  push_cast
  omega
theorem two_num {a b : UInt8} : two (num [a, b] 0 : Nat) = [a, b] := by
  have ha := a.toNat_lt
  have hb := b.toNat_lt
  simp only [num, two]
  have h1 : ((256 * (256 * 0 + a.toNat) + b.toNat : Nat) : Int) / 256 = (a.toNat : Int) := by omega
  rw [h1, toNat_byteOf]
  have h2 : byteOf ((256 * (256 * 0 + a.toNat) + b.toNat : Nat) : Int) = byteOf (b.toNat : Int) := by
    unfold byteOf; congr 2; omega
  rw [h2, toNat_byteOf]
theorem idOf_bytes {i : IdT} (h : i.err = 0) : idOf (idBytes i.o i.d i.e i.c) = i ∧ (idBytes i.o i.d i.e i.c).length = 6 := by
  obtain ⟨h1, h2, h3, h4, h5⟩ := idErr_all h
  refine ⟨?_, by simp [idBytes, two]⟩
  have e1 := byteOf_toNat (x := i.o) (by omega)
  have e2 := byteOf_toNat (x := i.d) (by omega)
  have e3 := num_twoOf (x := i.e) (by omega)
  have e4 := num_twoOf (x := i.c) (by omega)
  have g3 : getNum (idBytes i.o i.d i.e i.c) 2 2 = num (two i.e) 0 := rfl
  have g4 : getNum (idBytes i.o i.d i.e i.c) 4 2 = num (two i.c) 0 := rfl
  unfold idOf
  rw [g3, g4, e3, e4]
  have q1 : (idBytes i.o i.d i.e i.c).getD 0 0 = byteOf i.o := rfl
  have q2 : (idBytes i.o i.d i.e i.c).getD 1 0 = byteOf i.d := rfl
  rw [q1, q2, e1, e2]
theorem idBytes_of {l : List UInt8} (h : l.length = 6) : idBytes (idOf l).o (idOf l).d (idOf l).e (idOf l).c = l := by
  match l, h with
  | [a, b, c, d, e, f], _ =>
    have g3 : getNum [a, b, c, d, e, f] 2 2 = num [c, d] 0 := rfl
    have g4 : getNum [a, b, c, d, e, f] 4 2 = num [e, f] 0 := rfl
    unfold idOf
    rw [g3, g4]
    simp only [idBytes]
    rw [two_num, two_num]
    have q1 : ([a, b, c, d, e, f] : List UInt8).getD 0 0 = a := rfl
    have q2 : ([a, b, c, d, e, f] : List UInt8).getD 1 0 = b := rfl
    rw [q1, q2, toNat_byteOf, toNat_byteOf]
    rfl
end Go.Proofs.YtpdkkbpkplhdpaaGreat
namespace Go.Proofs.YtpdkkbpkplhdpaaGreat
open Go Go.Vm
def evErr (x : EvX) : Int := formD x.kind x.id x.p.length
def evBytes (x : EvX) : List UInt8 := byteOf x.kind :: (if x.kind = 1 then [] else if x.kind = 2 then idBytes x.id.o x.id.d x.id.e x.id.c ++ x.p else idBytes x.id.o x.id.d x.id.e x.id.c)
def putEvD (x : EvX) : List UInt8 := if evErr x = 0 then evBytes x else []
def parseEv : List UInt8 → Option EvX
  | [] => none
  | b :: r =>
    if b.toNat = 1 then (if r = [] then some ⟨1, zeroI, []⟩ else none)
    else if b.toNat = 2 then (if getMsgErr r = 0 then some ⟨2, (getMsg r).id, (getMsg r).p⟩ else none)
    else if b.toNat = 3 ∨ b.toNat = 4 then (if getIdErr r = 0 then some ⟨b.toNat, getId r, []⟩ else none)
    else none
theorem parseEv_cons (b : UInt8) (r : List UInt8) : parseEv (b :: r) = if b.toNat = 1 then (if r = [] then some ⟨1, zeroI, []⟩ else none)
    else if b.toNat = 2 then (if getMsgErr r = 0 then some ⟨2, (getMsg r).id, (getMsg r).p⟩ else none)
    else if b.toNat = 3 ∨ b.toNat = 4 then (if getIdErr r = 0 then some ⟨b.toNat, getId r, []⟩ else none)
    else none := rfl
theorem evErr_kind {x : EvX} (h : evErr x = 0) : x.kind = 1 ∨ x.kind = 2 ∨ x.kind = 3 ∨ x.kind = 4 := by
  unfold evErr formD at h
  repeat' split at h
  all_goals omega
theorem evErr_one {x : EvX} (h : evErr x = 0) (hk : x.kind = 1) : zeroId x.id ∧ x.p = [] := by
  unfold evErr formD at h
  rw [if_pos hk] at h
  split at h
  · cases h
  · rename_i g
    refine ⟨?_, ?_⟩
    · by_cases h1 : zeroId x.id
      · exact h1
      · exact absurd (.inl h1) g
    · exact List.eq_nil_of_length_eq_zero (by omega)
theorem evErr_two {x : EvX} (h : evErr x = 0) (hk : x.kind = 2) : idErrD x.id = 0 ∧ 0 < x.p.length ∧ x.p.length ≤ 48 := by
  unfold evErr formD at h
  rw [if_neg (by omega), if_pos hk] at h
  exact msgErr_zero h
theorem evErr_rest {x : EvX} (h : evErr x = 0) (hk : x.kind = 3 ∨ x.kind = 4) : idErrD x.id = 0 ∧ x.p = [] := by
  unfold evErr formD at h
  rw [if_neg (by omega), if_neg (by omega), if_pos hk] at h
  split at h
  · rename_i g; exact absurd h g
  · rename_i g
    split at h
    · cases h
    · exact ⟨by simpa using g, List.eq_nil_of_length_eq_zero (by omega)⟩
theorem idBytes_len (o d e c : Int) : (idBytes o d e c).length = 6 := by simp [idBytes, two]
theorem getIdErr_bytes {i : IdT} (h : idErrD i = 0) : getIdErr (idBytes i.o i.d i.e i.c) = 0 ∧ getId (idBytes i.o i.d i.e i.c) = i := by
  obtain ⟨h1, h2⟩ := idOf_bytes (i := i) h
  have : getIdErr (idBytes i.o i.d i.e i.c) = 0 := by
    unfold getIdErr
    rw [if_neg (by omega), h1, if_neg (by simp only [ne_eq, Decidable.not_not]; exact h)]
  exact ⟨this, by unfold getId; rw [if_pos this, h1]⟩
theorem getIdErr_zero {l : List UInt8} (h : getIdErr l = 0) : l.length = 6 ∧ idErrD (idOf l) = 0 := by
  unfold getIdErr at h
  split at h
  · cases h
  · rename_i h6
    split at h
    · cases h
    · rename_i h7
      have h8 : (idOf l).err = 0 := by simpa using h7
      exact ⟨by omega, h8⟩
theorem getMsgErr_zero {l : List UInt8} (h : getMsgErr l = 0) : (7 ≤ l.length ∧ l.length ≤ 54) ∧ getIdErr (l.take 6) = 0 := by
  unfold getMsgErr at h
  split at h
  · cases h
  · split at h
    · cases h
    · rename_i g
      split at h
      · cases h
      · exact ⟨by omega, by simpa using g⟩
theorem byte_back {b : UInt8} {k : Nat} (h : b.toNat = k) : byteOf (k : Int) = b := by rw [← h]; exact toNat_byteOf b
theorem bytes_parse {l : List UInt8} {x : EvX} (h : parseEv l = some x) : evErr x = 0 ∧ evBytes x = l := by
  cases l with
  | nil => cases h
  | cons b r =>
    rw [parseEv_cons] at h
    split at h
    · rename_i hb
      split at h
      · rename_i hr
        cases h
        subst hr
        exact ⟨by decide, by have := byte_back hb; unfold evBytes; rw [if_pos rfl]; exact congrArg (· :: []) this⟩
      · cases h
    rename_i hb1
    split at h
    · rename_i hb
      split at h
      · rename_i hm
        cases h
        obtain ⟨h1, h2⟩ := getMsgErr_zero hm
        obtain ⟨h3, h4⟩ := getIdErr_zero h2
        have em : getMsg r = ⟨idOf (r.take 6), r.drop 6⟩ := by unfold getMsg; rw [if_pos hm]
        rw [em]
        dsimp only
        refine ⟨?_, ?_⟩
        · unfold evErr formD
          dsimp only
          rw [if_neg (by decide), if_pos rfl]
          unfold msgErrD msgErr
          rw [show idErr (idOf (r.take 6)).o (idOf (r.take 6)).d (idOf (r.take 6)).e (idOf (r.take 6)).c = 0 from h4]
          rw [if_neg (by decide), if_neg (by simp; omega), if_neg (by simp; omega)]
        · unfold evBytes
          dsimp only
          rw [if_neg (by decide), if_pos rfl, idBytes_of h3, List.take_append_drop]
          exact congrArg (· :: r) (byte_back hb)
      · cases h
    rename_i hb2
    split at h
    · rename_i hb
      split at h
      · rename_i hi
        cases h
        obtain ⟨h3, h4⟩ := getIdErr_zero hi
        have ei : getId r = idOf r := by unfold getId; rw [if_pos hi]
        rw [ei]
        refine ⟨?_, ?_⟩
        · unfold evErr formD
          dsimp only
          rw [if_neg (by omega), if_neg (by omega), if_pos (by omega), if_neg (by simpa using h4), if_neg (by simp)]
        · unfold evBytes
          dsimp only
          rw [if_neg (by omega), if_neg (by omega), idBytes_of h3, byte_back rfl]
      · cases h
    · cases h
end Go.Proofs.YtpdkkbpkplhdpaaGreat
namespace Go.Proofs.YtpdkkbpkplhdpaaGreat
open Go Go.Vm
attribute [local irreducible] Brn Ob Grow CallsM inR LoopVC LoopVC0 Mem.row Mem.cells Mem.setCells Mem.upd Go.Vm.Own AppVC SrcVC StrVC NextVC New SrcOk subA NewSl Mem.textAt Mem.mapAt Mem.iterAt entryOf kfind Wr NewEls Elems
set_option maxRecDepth 10000
section
variable {M : Mem}
theorem putMsg_ok (i : IdT) {a : Option Addr} {c : Nat} {l : List UInt8} (hl : SrcOk M 1 a l.length (l.map byteV)) (h0 : msgErrD i l.length = 0) : CallsM Tryz.prog F.msg_Put [.agg #[.int .i64 i.o, .int .i64 i.d, .int .i64 i.e, .int .i64 i.c, .slice a l.length c]] M fun v M' =>
    ∃ a' c', v = .tuple #[.slice a' (6 + l.length) c', .int .i64 0] ∧ NewSl M T.uint8 1 a' (6 + l.length) c' ((idBytes i.o i.d i.e i.c ++ l).map byteV) M' := by
  refine fo_msg_Put (by simp) ?_
  obtain ⟨h1, h2, h3⟩ := msgErr_zero h0
  refine zR ?_
  refine (checkMsg_ok _ _ _ _ _ _ _ _).mono ?_
  rintro v _ ⟨rfl, rfl⟩
  (conv => whnf); refine brn_f (by rw [show msgErr i.o i.d i.e i.c l.length = 0 from h0]; rfl) ?_
  refine zR ?_
  refine (putId_ok _ _ _ _ _).mono ?_
  rintro v M1 (⟨hne, -⟩ | ⟨-, a1, c1, rfl, hN⟩)
  · exact absurd h1 hne
  refine zR ?_
  refine srcv (hl.le hN.le) ?_
  (conv => whnf); refine appN M _ hN (by first | omega | (dsimp only; omega)) (by simp [maxLen] <;> omega) (bytes_one _) fun a2 c2 M2 hN2 => ?_
  refine zR ?_
  exact ⟨a2, c2, rfl, by simpa using hN2⟩
def PutOut (x : EvX) (M : Mem) (v : Value) (M' : Mem) : Prop := ∃ a c, v = .tuple #[.slice a (putEvD x).length c, .int .i64 (evErr x)] ∧ NewSl M T.uint8 1 a (putEvD x).length c ((putEvD x).map byteV) M'
theorem putEv_ok (x : EvX) {a : Option Addr} {c : Nat} (hl : SrcOk M 1 a x.p.length (x.p.map byteV)) : CallsM Tryz.prog F.store_PutEv [evV x.kind x.id a x.p.length c] M (PutOut x M) := by
  obtain ⟨k, i, p⟩ := x
  dsimp only at hl ⊢
  refine fo_store_PutEv (by simp) ?_
  refine zR ?_
  refine (form_ok k i a p.length c).mono ?_
  rintro v _ ⟨rfl, rfl⟩
  (conv => whnf); refine brn (fun g => ?_) (fun g => ?_)
  · have g1 : ¬ formD k i p.length = 0 := by simpa using g
    have e : putEvD ⟨k, i, p⟩ = [] := by unfold putEvD evErr; rw [if_neg g1]
    refine zR ?_
    refine ⟨none, 0, ?_, ?_⟩
    · rw [e]; rfl
    · rw [e]; exact NewSl.none _ _ _
  have g0 : formD k i p.length = 0 := by simpa using g
  have g1 : evErr ⟨k, i, p⟩ = 0 := g0
  have e : putEvD ⟨k, i, p⟩ = evBytes ⟨k, i, p⟩ := by unfold putEvD; rw [if_pos g1]
  have hk := evErr_kind g1
  dsimp only at hk
  rcases hk with rfl | rfl | rfl | rfl
  · have eb : evBytes ⟨1, i, p⟩ = [byteOf 1] := rfl
    have hlen : 1 + 0 = (putEvD ⟨1, i, p⟩).length := by rw [e, eb]; rfl
    have hle := Mem.le_refl M
    refine zR ?_
    refine new (fun b9 hb9 => ?_)
    replace hb9 : M b9 = none := hb9
    rw [conv_byte]
    have hN9 : NewSl M T.uint8 1 (some ⟨b9, 0, none⟩) 1 1 ([byteOf 1].map byteV) _ := NewSl.lit hb9 T.uint8 1 1 [byteV (byteOf 1)] rfl
    (conv => whnf)
    refine srcv (vs := ([] : List UInt8).map byteV) (SrcOk.nil _ _) ?_
    (conv => whnf); refine appN _ _ hN9 (by first | omega | (dsimp only; omega)) (by simp [maxLen] <;> omega) (bytes_one _) fun a2 c2 M2 hN2 => ?_
    refine zR ?_
    refine ⟨a2, c2, by rw [← hlen, g1], ?_⟩
    rw [← hlen, e, eb]
    exact NewSl.mono (by simpa using hN2) hle
  · obtain ⟨h1, h2, h3⟩ := evErr_two g1 rfl
    dsimp only at h1 h2 h3
    have eb : evBytes ⟨2, i, p⟩ = byteOf 2 :: (idBytes i.o i.d i.e i.c ++ p) := rfl
    have hlen : 1 + (6 + p.length) = (putEvD ⟨2, i, p⟩).length := by rw [e, eb, List.length_cons, List.length_append, idBytes_len]; omega
    refine zR ?_
    refine (putMsg_ok i hl (by unfold formD at g0; rwa [if_neg (by decide), if_pos rfl] at g0)).mono ?_
    rintro v M1 ⟨a1, c1, rfl, hN⟩
    refine zR ?_
    refine new (fun b9 hb9 => ?_)
    replace hb9 : M1 b9 = none := hb9
    have hle := hN.le
    rw [conv_byte]
    have hN9 : NewSl M1 T.uint8 1 (some ⟨b9, 0, none⟩) 1 1 ([byteOf 2].map byteV) _ := NewSl.lit hb9 T.uint8 1 1 [byteV (byteOf 2)] rfl
    (conv => whnf)
    refine srcv (hN.src.le hN9.le) ?_
    (conv => whnf); refine appN _ _ hN9 (by first | omega | (dsimp only; omega)) (by simp [maxLen] <;> omega) (bytes_one _) fun a2 c2 M2 hN2 => ?_
    refine zR ?_
    refine ⟨a2, c2, by rw [← hlen, g1], ?_⟩
    rw [← hlen, e, eb]
    exact NewSl.mono (by simpa using hN2) hle
  · have eb : evBytes ⟨3, i, p⟩ = byteOf 3 :: idBytes i.o i.d i.e i.c := rfl
    have hlen : 1 + 6 = (putEvD ⟨3, i, p⟩).length := by rw [e, eb, List.length_cons, idBytes_len]
    obtain ⟨h1, h2⟩ := evErr_rest g1 (by dsimp only; omega)
    refine zR ?_
    refine (putId_ok _ _ _ _ _).mono ?_
    rintro v M1 (⟨hne, -⟩ | ⟨-, a1, c1, rfl, hN⟩)
    · exact absurd h1 hne
    refine zR ?_
    refine new (fun b9 hb9 => ?_)
    replace hb9 : M1 b9 = none := hb9
    have hle := hN.le
    rw [conv_byte]
    have hN9 : NewSl M1 T.uint8 1 (some ⟨b9, 0, none⟩) 1 1 ([byteOf 3].map byteV) _ := NewSl.lit hb9 T.uint8 1 1 [byteV (byteOf 3)] rfl
    (conv => whnf)
    refine srcv (hN.src.le hN9.le) ?_
    (conv => whnf); refine appN _ _ hN9 (by first | omega | (dsimp only; omega)) (by simp [maxLen] <;> omega) (bytes_one _) fun a2 c2 M2 hN2 => ?_
    refine zR ?_
    refine ⟨a2, c2, by rw [← hlen, g1], ?_⟩
    rw [← hlen, e, eb]
    exact NewSl.mono (by simpa using hN2) hle
  · have eb : evBytes ⟨4, i, p⟩ = byteOf 4 :: idBytes i.o i.d i.e i.c := rfl
    have hlen : 1 + 6 = (putEvD ⟨4, i, p⟩).length := by rw [e, eb, List.length_cons, idBytes_len]
    obtain ⟨h1, h2⟩ := evErr_rest g1 (by dsimp only; omega)
    refine zR ?_
    refine (putId_ok _ _ _ _ _).mono ?_
    rintro v M1 (⟨hne, -⟩ | ⟨-, a1, c1, rfl, hN⟩)
    · exact absurd h1 hne
    refine zR ?_
    refine new (fun b9 hb9 => ?_)
    replace hb9 : M1 b9 = none := hb9
    have hle := hN.le
    rw [conv_byte]
    have hN9 : NewSl M1 T.uint8 1 (some ⟨b9, 0, none⟩) 1 1 ([byteOf 4].map byteV) _ := NewSl.lit hb9 T.uint8 1 1 [byteV (byteOf 4)] rfl
    (conv => whnf)
    refine srcv (hN.src.le hN9.le) ?_
    (conv => whnf); refine appN _ _ hN9 (by first | omega | (dsimp only; omega)) (by simp [maxLen] <;> omega) (bytes_one _) fun a2 c2 M2 hN2 => ?_
    refine zR ?_
    refine ⟨a2, c2, by rw [← hlen, g1], ?_⟩
    rw [← hlen, e, eb]
    exact NewSl.mono (by simpa using hN2) hle
end
section
variable {M : Mem}
def GetOut (l : List UInt8) (M : Mem) (v : Value) (M' : Mem) : Prop :=
  (parseEv l = none ∧ v = .tuple #[evV 0 zeroI none 0 0, .int .i64 2] ∧ M.le M') ∨
  (∃ x a c, parseEv l = some x ∧ v = .tuple #[evV x.kind x.id a x.p.length c, .int .i64 0] ∧ M.le M' ∧ SrcOk M' 1 a x.p.length (x.p.map byteV) ∧ x.p.length ≤ 4194304)
theorem getEv_ok {a : Option Addr} {n c : Nat} {l : List UInt8} (hs : SrcOk M 1 a n (l.map byteV)) (hn : n ≤ 4194304) (hc : n ≤ c) : CallsM Tryz.prog F.store_GetEv [.slice a n c] M (GetOut l M) := by
  refine fo_store_GetEv (by simp) ?_
  have hl := hs.maplen
  refine zR ?_
  refine brn (fun g => ?_) (fun g => ?_)
  · have hn0 : l = [] := List.eq_nil_of_length_eq_zero (by have := of_decide_eq_true g; omega)
    subst hn0
    refine zR ?_
    exact .inl ⟨rfl, rfl, Mem.le_refl _⟩
  have hn1 : 0 < n := by have := of_decide_eq_false g; omega
  obtain ⟨b, r, rfl⟩ : ∃ b r, l = b :: r := by
    cases l with
    | nil => simp at hl; omega
    | cons b r => exact ⟨b, r, rfl⟩
  obtain ⟨h0, bb, o, ha, hrow⟩ := hs.at (i := 0) hn1
  replace hrow : M.row bb (o + 0 * 1) 1 = some [byteV b] := hrow
  have hrl : r.length = n - 1 := by simp at hl; omega
  have hsub : SrcOk M 1 (subA a 1 c 1) (n - 1) (r.map byteV) := by
    have := hs.subm (lo := 1) (hi := n) (by omega) (by omega) hc
    rw [List.drop_succ_cons, List.drop_zero, List.take_of_length_le (by omega)] at this
    exact this
  have hb := UInt8.toNat_lt b
  have hw : IntKind.i64.wrap (b.toNat : Int) = b.toNat := wrap_i64 (by omega)
  (conv => whnf); refine ob (by omega) ?_
  (conv => whnf); refine atp ha ?_
  (conv => whnf); refine on hrow ?_
  (conv => whnf)
  rw [hw]
  refine brn (fun g1 => ?_) (fun g1 => ?_)
  · have k1 : b.toNat = 1 := by have := of_decide_eq_true g1; omega
    (conv => whnf); refine brn (fun g2 => ?_) (fun g2 => ?_)
    · have hp : parseEv (b :: r) = none := by
        rw [parseEv_cons, if_pos k1, if_neg]
        intro e; subst e
        have := of_decide_eq_true g2
        simp at hrl; omega
      (conv => whnf)
      refine zR ?_
      exact .inl ⟨hp, rfl, by first | exact Mem.le_refl _ | exact hle⟩
    · have hr : r = [] := List.eq_nil_of_length_eq_zero (by have := of_decide_eq_false g2; omega)
      have hp : parseEv (b :: r) = some ⟨1, zeroI, []⟩ := by rw [parseEv_cons, if_pos k1, if_pos hr]
      rw [k1]
      refine zR ?_
      exact .inr ⟨_, none, 0, hp, rfl, Mem.le_refl _, SrcOk.nil _ _, by simp⟩
  have k1 : ¬ b.toNat = 1 := by have := of_decide_eq_false g1; omega
  (conv => whnf); refine brn (fun g2 => ?_) (fun g2 => ?_)
  · have k2 : b.toNat = 2 := by have := of_decide_eq_true g2; omega
    refine zR ?_
    refine ob (by omega) ?_
    refine zR ?_
    refine (getMsg_ok _ _ _ _ r hsub (by omega) (by omega)).mono ?_
    rintro v M1 ⟨p, m, k, rfl, hle, hps, hm, -⟩
    (conv => whnf); refine brn (fun g3 => ?_) (fun g3 => ?_)
    · have e : ¬ getMsgErr r = 0 := by simpa using g3
      have hp : parseEv (b :: r) = none := by rw [parseEv_cons, if_neg k1, if_pos k2, if_neg e]
      (conv => whnf)
      refine zR ?_
      exact .inl ⟨hp, rfl, by first | exact Mem.le_refl _ | exact hle⟩
    · have e : getMsgErr r = 0 := by simpa using g3
      have hp : parseEv (b :: r) = some ⟨2, (getMsg r).id, (getMsg r).p⟩ := by rw [parseEv_cons, if_neg k1, if_pos k2, if_pos e]
      obtain rfl := hps.maplen
      rw [k2]
      refine zR ?_
      exact .inr ⟨_, p, k, hp, rfl, hle, hps, hm⟩
  have k2 : ¬ b.toNat = 2 := by have := of_decide_eq_false g2; omega
  (conv => whnf); refine brn (fun g3 => ?_) (fun g3 => ?_)
  · have k3 : b.toNat = 3 ∨ b.toNat = 4 := by have := of_decide_eq_true g3; omega
    (conv => whnf); refine brn_t g3 ?_
    refine zR ?_
    refine ob (by omega) ?_
    refine zR ?_
    refine (getId_ok _ _ _ _ r hsub (by omega) (by omega)).mono ?_
    rintro v _ ⟨rfl, rfl⟩
    (conv => whnf); refine brn (fun g5 => ?_) (fun g5 => ?_)
    · have e : ¬ getIdErr r = 0 := by simpa using g5
      have hp : parseEv (b :: r) = none := by rw [parseEv_cons, if_neg k1, if_neg k2, if_pos k3, if_neg e]
      (conv => whnf)
      refine zR ?_
      exact .inl ⟨hp, rfl, by first | exact Mem.le_refl _ | exact hle⟩
    · have e : getIdErr r = 0 := by simpa using g5
      have hp : parseEv (b :: r) = some ⟨b.toNat, getId r, []⟩ := by rw [parseEv_cons, if_neg k1, if_neg k2, if_pos k3, if_pos e]
      refine zR ?_
      exact .inr ⟨_, none, 0, hp, rfl, Mem.le_refl _, SrcOk.nil _ _, by simp⟩
  (conv => whnf); refine brn (fun g4 => ?_) (fun g4 => ?_)
  · have k3 : b.toNat = 3 ∨ b.toNat = 4 := by have := of_decide_eq_true g4; omega
    refine zR ?_
    refine ob (by omega) ?_
    refine zR ?_
    refine (getId_ok _ _ _ _ r hsub (by omega) (by omega)).mono ?_
    rintro v _ ⟨rfl, rfl⟩
    (conv => whnf); refine brn (fun g5 => ?_) (fun g5 => ?_)
    · have e : ¬ getIdErr r = 0 := by simpa using g5
      have hp : parseEv (b :: r) = none := by rw [parseEv_cons, if_neg k1, if_neg k2, if_pos k3, if_neg e]
      (conv => whnf)
      refine zR ?_
      exact .inl ⟨hp, rfl, by first | exact Mem.le_refl _ | exact hle⟩
    · have e : getIdErr r = 0 := by simpa using g5
      have hp : parseEv (b :: r) = some ⟨b.toNat, getId r, []⟩ := by rw [parseEv_cons, if_neg k1, if_neg k2, if_pos k3, if_pos e]
      refine zR ?_
      exact .inr ⟨_, none, 0, hp, rfl, Mem.le_refl _, SrcOk.nil _ _, by simp⟩
  · have k3 : ¬ (b.toNat = 3 ∨ b.toNat = 4) := by have := of_decide_eq_false g3; have := of_decide_eq_false g4; omega
    have hp : parseEv (b :: r) = none := by rw [parseEv_cons, if_neg k1, if_neg k2, if_neg k3]
    (conv => whnf)
    refine zR ?_
    exact .inl ⟨hp, rfl, by first | exact Mem.le_refl _ | exact hle⟩
end
section
variable {M : Mem}
def gotEv (l : List UInt8) : EvX := (parseEv l).getD ⟨0, zeroI, []⟩
def gotErr (l : List UInt8) : Int := if parseEv l = none then 2 else 0
theorem GetOut.all {l : List UInt8} {v : Value} {M' : Mem} (h : GetOut l M v M') : ∃ a c, v = .tuple #[evV (gotEv l).kind (gotEv l).id a (gotEv l).p.length c, .int .i64 (gotErr l)] ∧ M.le M' ∧ SrcOk M' 1 a (gotEv l).p.length ((gotEv l).p.map byteV) := by
  unfold gotEv gotErr
  rcases h with ⟨h1, rfl, h2⟩ | ⟨x, a, c, h1, rfl, h2, h3, h4⟩
  · rw [h1]
    exact ⟨none, 0, rfl, h2, SrcOk.nil _ _⟩
  · rw [h1]
    exact ⟨a, c, rfl, h2, h3⟩
theorem gotErr_zero {l : List UInt8} (h : gotErr l = 0) : parseEv l = some (gotEv l) := by
  unfold gotErr at h
  unfold gotEv
  cases e : parseEv l with
  | none => rw [e] at h; simp at h
  | some x => rfl
theorem putEvD_len (x : EvX) : (putEvD x).length ≤ 60 := by
  unfold putEvD
  split
  · rename_i h
    unfold evBytes
    rw [List.length_cons]
    split
    · simp
    · split
      · rename_i hk
        have := (evErr_two h hk).2.2
        rw [List.length_append, idBytes_len]; omega
      · rw [idBytes_len]; omega
  · simp
theorem forth {l : List UInt8} (h : gotErr l = 0) : evErr (gotEv l) = 0 ∧ putEvD (gotEv l) = l := by
  obtain ⟨h1, h2⟩ := bytes_parse (gotErr_zero h)
  exact ⟨h1, by unfold putEvD; rw [if_pos h1, h2]⟩
end
section
variable {M : Mem}
structure SnapR where
  self : Int
  epoch : Int
  ul : NxT
  hs : List MsgD
  sn : List Mk
def nextsB (l : NxT) : List UInt8 := l.flatMap fun n => byteOf n.1 :: lay2 [n.2]
def msgsB (l : List MsgD) : List UInt8 := l.flatMap fun m => byteOf (6 + m.p.length) :: (idBytes m.id.o m.id.d m.id.e m.id.c ++ m.p)
def markB (m : Mk) : List UInt8 := byteOf m.o :: (lay2 [m.e, m.up, m.more.length] ++ lay2 m.more)
def marksB (l : List Mk) : List UInt8 := l.flatMap markB
def headB (s : SnapR) : List UInt8 := byteOf s.self :: (lay2 [s.epoch] ++ [byteOf s.ul.length])
def snapBody (s : SnapR) : List UInt8 := headB s ++ nextsB s.ul ++ lay2 [(s.hs.length : Int)] ++ msgsB s.hs ++ lay2 [(s.sn.length : Int)] ++ marksB s.sn
def snapBytes (s : SnapR) : List UInt8 := snapBody s ++ be 4 (sumI (snapBody s))
structure SnapOk (s : SnapR) : Prop where
  bad : ¬ badD s.self 256 1048576 256
  form : FormS s.self s.epoch s.ul s.hs s.sn
  full : ¬ FullS 256 1048576 256 s.hs s.sn
  few : s.sn.length ≤ 65535
theorem SnapOk.check {s : SnapR} (h : SnapOk s) : CheckS 256 1048576 256 s.self s.epoch s.ul s.hs s.sn 0 := .inr (.inr (.inr ⟨h.bad, h.form, h.full, rfl⟩))
structure SnapAt (M : Mem) (s : SnapR) (ua : Option Addr) (un : Nat) (ha : Option Addr) (hn hc : Nat) (ma : Option Addr) (mn : Nat) (ms : List MX) (mk : List MkC) : Prop where
  stat : StatR M ua un ha hn ma mn s.ul ms mk
  big : BigS ms mk un hn hc mn
  held : ms.map MX.msg = s.hs
  seen : mk.map MkC.mk' = s.sn
variable {s : SnapR} {ua ha ma : Option Addr} {un uc hn hc mn mc : Nat} {ms : List MX} {mk : List MkC}
theorem checkSnap_ok (h : SnapAt M s ua un ha hn hc ma mn ms mk) (hR : SnapOk s) : CallsM Tryz.prog F.snap_Check [statV s.self s.epoch ua un uc ha hn hc ma mn mc] M fun v M' => v = .int .i64 0 ∧ M.le M' := by
  refine fo_snap_Check (by simp) ?_
  have hml := h.stat.seen.len
  have hmm : mn ≤ 65535 := by have h1 := hR.few; have h2 := congrArg List.length h.seen; rw [List.length_map] at h2; omega
  refine zR ?_
  refine (From15_ok 256 1048576 256 h.stat h.big).mono ?_
  rw [h.held, h.seen]
  rintro v M1 ⟨e, hC, ⟨he0, -⟩ | ⟨-, p, b, sp, sb, came, xs, es, rfl, h1, -⟩⟩
  · exact absurd (hC.uniq hR.check) he0
  refine zR ?_
  refine brn_f (decide_eq_false (by omega)) ?_
  refine zR ?_
  exact ⟨rfl, h1.le⟩
theorem lay2_one (x : Int) : lay2 [x] = be 2 x := by simp [lay2]
theorem nextsB_len (l : NxT) : (nextsB l).length = 3 * l.length := by
  unfold nextsB
  induction l with
  | nil => rfl
  | cons x r ih => rw [List.flatMap_cons, List.length_append, ih, List.length_cons, lay2_len]; simp; omega
theorem msgsB_take {l : List MsgD} {i : Nat} (h : i < l.length) : msgsB (l.take (i + 1)) = msgsB (l.take i) ++ (byteOf (6 + l[i].p.length) :: (idBytes l[i].id.o l[i].id.d l[i].id.e l[i].id.c ++ l[i].p)) := by
  unfold msgsB; rw [List.take_add_one, List.getElem?_eq_getElem h, List.flatMap_append]; simp
theorem marksB_take {l : List Mk} {i : Nat} (h : i < l.length) : marksB (l.take (i + 1)) = marksB (l.take i) ++ markB l[i] := by
  unfold marksB; rw [List.take_add_one, List.getElem?_eq_getElem h, List.flatMap_append]; simp
end
section
variable {M M0 : Mem}
variable {s : SnapR} {ua ha ma : Option Addr} {un uc hn hc mn mc : Nat} {ms : List MX} {mk : List MkC}
theorem sumM_le {m : Mk} : ∀ {l : List Mk}, m ∈ l → m.more.length ≤ sumM l
  | x :: r, h => by
    simp only [sumM, List.map_cons, List.sum_cons]
    rcases List.mem_cons.1 h with rfl | h
    · omega
    · have := sumM_le h; simp only [sumM] at this; omega
theorem Chain.range : ∀ {l : List Int} {last : Int}, Chain last l → 0 ≤ last → ∀ c ∈ l, 0 ≤ c ∧ c ≤ 65535
  | x :: r, last, h, h0, c, hc => by
    obtain ⟨h1, h2, h3⟩ := h
    rcases List.mem_cons.1 hc with rfl | hc
    · omega
    · exact Chain.range h3 (by omega) c hc
theorem headB_eq (s : SnapR) : headB s = ([byteOf s.self] ++ lay2 [s.epoch]) ++ [byteOf s.ul.length] := by simp [headB]
end
section
variable {M M0 M1 Mc : Mem}
theorem setCells_at (M : Mem) (b : Nat) (E : TypeId) (l : List Value) (y : Nat) : (M.setCells b E l) y = if y = b then some (.cells l.toArray E (0, 0)) else M y := by unfold Mem.setCells Mem.upd; rfl
theorem _root_.Go.Vm.NewSl.cur {b : Nat} {E0 E : TypeId} {l l' : List Value} {s n c : Nat} {a : Option Addr} {L : List Value} (h : NewSl (M1.setCells b E0 l) E s a n c L Mc) : NewSl (M1.setCells b E0 l') E s a n c L (Mc.setCells b E0 l') := by
  rw [newSl_iff] at h ⊢
  obtain ⟨h0, h1, h2, h3⟩ := h
  refine ⟨fun y o hy => ?_, h1, h2, h3.imp id fun ⟨b1, cs, ha, hb, hh, hr⟩ => ?_⟩
  · rw [setCells_at] at hy ⊢
    split at hy
    · rename_i e; rw [if_pos e]; exact hy
    · rename_i e
      rw [if_neg e]
      exact h0 y o (by rw [setCells_at, if_neg e]; exact hy)
  · have hne : b1 ≠ b := fun e => by rw [setCells_at, if_pos e] at hb; cases hb
    rw [setCells_at, if_neg hne] at hb
    refine ⟨b1, cs, ha, by rw [setCells_at, if_neg hne]; exact hb, ?_, hr⟩
    unfold Mem.has at hh ⊢
    rw [setCells_at, if_neg hne]; exact hh
theorem cur_le {b : Nat} {E0 : TypeId} {l l' : List Value} (h : (M1.setCells b E0 l).le Mc) : (M1.setCells b E0 l').le (Mc.setCells b E0 l') := (NewSl.cur (l' := l') ((NewSl.none (M1.setCells b E0 l) E0 1).up h)).le
theorem HeldAt.cur {b : Nat} {E0 : TypeId} {l l' : List Value} {a : Option Addr} {n c : Nat} {ms : List MX} (h : HeldAt (M1.setCells b E0 l) a n c ms Mc) : HeldAt (M1.setCells b E0 l') a n c ms (Mc.setCells b E0 l') := ⟨NewSl.cur h.row, fun m hm => NewSl.cur (h.data m hm), h.apart⟩
theorem MarksAt.cur {b : Nat} {E0 : TypeId} {l l' : List Value} {a : Option Addr} {n c : Nat} {mk : List MkC} (h : MarksAt (M1.setCells b E0 l) a n c mk Mc) : MarksAt (M1.setCells b E0 l') a n c mk (Mc.setCells b E0 l') := ⟨NewSl.cur h.row, fun m hm => NewSl.cur (h.more m hm)⟩
@[reducible] def curM (M1 : Mem) (b : Nat) (k : Nat) : Mem := M1.setCells b T.int [.int .i64 k]
theorem set_self {b : Nat} {E : TypeId} {l : List Value} (h : M.has b E l) : M.setCells b E l = M := by
  funext y
  rw [setCells_at]
  split
  · rename_i e; rw [e]; exact h.symm
  · rfl
theorem getNum_at {pre item rest : List UInt8} {size : Int} (hs : item.length = size.toNat) : getNum (pre ++ (item ++ rest)) (pre.length : Nat) size = num item 0 := by
  unfold getNum
  rw [Int.toNat_natCast, List.drop_left, ← hs, List.take_left]
theorem num_byteOf {x : Int} (h : 0 ≤ x ∧ x ≤ 255) : (num [byteOf x] 0 : Int) = x := by
  have := byteOf_toNat (x := x) (by omega)
  simp [num, this]
theorem num_lay2 {x : Int} (h : 0 ≤ x ∧ x ≤ 65535) : (num (lay2 [x]) 0 : Int) = x := by rw [lay2_one, be_two]; exact num_twoOf h
theorem flat_split {α β : Type} (f : α → List β) (l : List α) {i : Nat} (h : i < l.length) : l.flatMap f = (l.take i).flatMap f ++ (f l[i] ++ (l.drop (i + 1)).flatMap f) := by
  have e : l = l.take i ++ (l[i] :: l.drop (i + 1)) := by rw [← List.drop_eq_getElem_cons h, List.take_append_drop]
  exact (congrArg (fun l => l.flatMap f) e).trans (by rw [List.flatMap_append, List.flatMap_cons])
structure CurAt (M1 : Mem) (b4 b7 b8 : Nat) (a : Option Addr) (c : Nat) (l : List UInt8) : Prop where
  body : M1.has b4 T.s_uint8 [.slice a l.length c]
  bad : M1.has b8 T.bool [.bool false]
  src : ∀ k, SrcOk (curM M1 b7 k) 1 a l.length (l.map byteV)
  ne : b4 ≠ b7 ∧ b8 ≠ b7
  big : l.length ≤ 4194304 ∧ l.length ≤ c
theorem next_ok {b4 b7 b8 : Nat} {a : Option Addr} {c : Nat} {l : List UInt8} (h : CurAt M1 b4 b7 b8 a c l) {k : Nat} (hle : (curM M1 b7 k).le Mc) {pre item rest : List UInt8} (hl : l = pre ++ (item ++ rest)) (hk : pre.length = k) {size : Int} (hs : 1 ≤ size ∧ size ≤ 4) (hz : item.length = size.toNat) :
    CallsM Tryz.prog F.snap_Get_1 [.int .i64 size, ptr b4, ptr b7, ptr b8] Mc fun v M' => v = .int .i64 (num item 0 : Nat) ∧ M' = Mc.setCells b7 T.int [.int .i64 ((k + item.length : Nat) : Int)] ∧ (curM M1 b7 (k + item.length)).le M' := by
  refine fo_snap_Get_1 (by simp) ?_
  have hb4 : Mc.has b4 T.s_uint8 [.slice a l.length c] := hle _ _ (by unfold curM; rw [setCells_at, if_neg h.ne.1]; exact h.body)
  have hb8 : Mc.has b8 T.bool [.bool false] := hle _ _ (by unfold curM; rw [setCells_at, if_neg h.ne.2]; exact h.bad)
  have hb7 : Mc.has b7 T.int [.int .i64 k] := hle _ _ Mem.has_setCells
  have hll : l.length = k + item.length + rest.length := by rw [hl]; simp; omega
  have hlt := num_lt item 0
  have hit : item.length ≤ 4 := by omega
  have hpw : (256 : Nat) ^ item.length ≤ 256 ^ 4 := Nat.pow_le_pow_right (by decide) hit
  have hlt2 : num item 0 < 4294967296 := by
    have : (256 : Nat) ^ 4 = 4294967296 := by decide
    omega
  have hge : getErr l.length k size = 0 := by unfold getErr; rw [if_neg (by omega), if_neg (by omega)]
  refine zL3 (hb4) (hb7) (hb8) ?_
  refine (bitsGet_ok a l.length c Mc l ((h.src k).le hle) h.big.1 h.big.2 k size hge).mono ?_
  have hgn : getNum l (k : Nat) size = num item 0 := by rw [hl, ← hk]; exact getNum_at hz
  rw [hgn]
  rintro v _ ⟨rfl, rfl⟩
  refine zL3 (hb4) (hb7) (hb8) ?_
  refine on hb8.cells ?_
  (conv => whnf); refine ob (by simp) ?_
  have he8 : Mc.setCells b8 T.bool (splice [.bool false] (0 + 0 + 0) [.bool false]) = Mc := set_self hb8
  (conv => whnf)
  erw [he8]
  refine zL (hb7) ?_
  (conv => whnf); refine ob (inR_i64 (by have := h.big.1; omega)) ?_
  (conv => whnf); refine on hb7.cells ?_
  (conv => whnf); refine ob (by simp) ?_
  have e1 : (k : Int) + size = ((k + item.length : Nat) : Int) := by omega
  rw [e1]
  have he7 : Mc.setCells b7 T.int (splice [.int .i64 (k : Int)] (0 + 0 + 0) [.int .i64 ((k + item.length : Nat) : Int)]) = Mc.setCells b7 T.int [.int .i64 ((k + item.length : Nat) : Int)] := rfl
  (conv => whnf)
  rw [i64_small (n := ((num item 0 : Nat) : Int)) (by omega)]
  erw [he7]
  refine zR ?_
  exact ⟨rfl, rfl, cur_le hle⟩
theorem next1_ok {b4 b7 b8 : Nat} {a : Option Addr} {c : Nat} {l : List UInt8} (h : CurAt M1 b4 b7 b8 a c l) {k : Nat} (hle : (curM M1 b7 k).le Mc) {pre rest : List UInt8} {x : Int} (hx : 0 ≤ x ∧ x ≤ 255) (hl : l = pre ++ ([byteOf x] ++ rest)) (hk : pre.length = k) :
    CallsM Tryz.prog F.snap_Get_1 [.int .i64 1, ptr b4, ptr b7, ptr b8] Mc fun v M' => v = .int .i64 x ∧ M' = Mc.setCells b7 T.int [.int .i64 ((k + 1 : Nat) : Int)] ∧ (curM M1 b7 (k + 1)).le M' :=
  (next_ok h hle hl hk (by decide) rfl).mono fun v M' ⟨h1, h2, h3⟩ => ⟨by rw [h1, num_byteOf hx], h2, h3⟩
theorem next2_ok {b4 b7 b8 : Nat} {a : Option Addr} {c : Nat} {l : List UInt8} (h : CurAt M1 b4 b7 b8 a c l) {k : Nat} (hle : (curM M1 b7 k).le Mc) {pre rest : List UInt8} {x : Int} (hx : 0 ≤ x ∧ x ≤ 65535) (hl : l = pre ++ (lay2 [x] ++ rest)) (hk : pre.length = k) :
    CallsM Tryz.prog F.snap_Get_1 [.int .i64 2, ptr b4, ptr b7, ptr b8] Mc fun v M' => v = .int .i64 x ∧ M' = Mc.setCells b7 T.int [.int .i64 ((k + 2 : Nat) : Int)] ∧ (curM M1 b7 (k + 2)).le M' :=
  (next_ok h hle hl hk (by decide) (by rw [lay2_len]; rfl)).mono fun v M' ⟨h1, h2, h3⟩ => ⟨by rw [h1, num_lay2 hx], by rw [h2, lay2_len]; rfl, by rw [lay2_len] at h3; exact h3⟩
theorem CurAt.b8 {b4 b7 b8 : Nat} {a : Option Addr} {c : Nat} {l : List UInt8} (h : CurAt M1 b4 b7 b8 a c l) {k : Nat} (hle : (curM M1 b7 k).le Mc) : Mc.has b8 T.bool [.bool false] := hle _ _ (by unfold curM; rw [setCells_at, if_neg h.ne.2]; exact h.bad)
theorem CurAt.b4 {b4 b7 b8 : Nat} {a : Option Addr} {c : Nat} {l : List UInt8} (h : CurAt M1 b4 b7 b8 a c l) {k : Nat} (hle : (curM M1 b7 k).le Mc) : Mc.has b4 T.s_uint8 [.slice a l.length c] := hle _ _ (by unfold curM; rw [setCells_at, if_neg h.ne.1]; exact h.body)
theorem CurAt.b7 {b4 b7 b8 : Nat} {a : Option Addr} {c : Nat} {l : List UInt8} (_h : CurAt M1 b4 b7 b8 a c l) {k : Nat} (hle : (curM M1 b7 k).le Mc) : Mc.has b7 T.int [.int .i64 k] := hle _ _ Mem.has_setCells
structure Got (X M : Mem) (ua : Option Addr) (uc : Nat) (ul : NxT) (ha : Option Addr) (hc : Nat) (ms : List MX) (ma : Option Addr) (mc : Nat) (mk : List MkC) : Prop where
  nx : NewSl X T.api_Next 2 ua ul.length uc (ul.flatMap encN) M
  held : HeldAt X ha ms.length hc ms M
  seen : MarksAt X ma mk.length mc mk M
variable {X : Mem} {ua ha ma : Option Addr} {uc hc mc : Nat} {ul : NxT} {ms : List MX} {mk : List MkC}
theorem Got.up (h : Got X M ua uc ul ha hc ms ma mc mk) {M' : Mem} (hle : M.le M') : Got X M' ua uc ul ha hc ms ma mc mk := ⟨h.nx.up hle, h.held.up hle, h.seen.up hle⟩
theorem Got.cur {b : Nat} {E0 : TypeId} {l l' : List Value} (h : Got (M1.setCells b E0 l) Mc ua uc ul ha hc ms ma mc mk) : Got (M1.setCells b E0 l') (Mc.setCells b E0 l') ua uc ul ha hc ms ma mc mk := ⟨NewSl.cur h.nx, h.held.cur, h.seen.cur⟩
theorem _root_.Go.Vm.NewSl.keep' {M9 : Mem} {E E' : TypeId} {s s' : Nat} {a a' : Option Addr} {n c n' c' : Nat} {L L' : List Value} (h : NewSl X E s a n c L M) (hr : NewSl X E' s' a' n' c' L' M) (hk : Mem.keep (blk a') M M9) (hE : E ≠ E') : NewSl X E s a n c L M9 :=
  h.keep hk (fun y ⟨q, hq, e⟩ => e ▸ (hr.block hq).1) fun q hq ⟨q', hq', e⟩ => hr.ne h (Ne.symm hE) hq' hq e
theorem Got.addN {M9 : Mem} (h : Got X M ua uc ul ha hc ms ma mc mk) {x : Int × Int} {a9 : Option Addr} {c9 : Nat} (hN9 : NewSl X T.api_Next 2 a9 (ul.length + 1) c9 ((ul ++ [x]).flatMap encN) M9) (hk : Mem.keep (blk ua) M M9) : Got X M9 a9 c9 (ul ++ [x]) ha hc ms ma mc mk :=
  ⟨by simpa using hN9, ⟨h.held.row.keep' h.nx hk (by decide), fun m hm => (h.held.data m hm).keep' h.nx hk (by decide), h.held.apart⟩, ⟨h.seen.row.keep' h.nx hk (by decide), fun m hm => (h.seen.more m hm).keep' h.nx hk (by decide)⟩⟩
theorem Got.addH {M9 : Mem} (h : Got X M ua uc ul ha hc ms ma mc mk) {x : MX} (hnew : NewSl X T.uint8 1 x.a x.p.length x.c (x.p.map byteV) M) (hap : ∀ m ∈ ms, ∀ z, blk m.a z → ¬ blk x.a z) {a9 : Option Addr} {c9 : Nat} (hN9 : NewSl X T.api_Msg 5 a9 (ms.length + 1) c9 ((ms ++ [x]).flatMap encX) M9) (hk : Mem.keep (blk ha) M M9) : Got X M9 ua uc ul a9 c9 (ms ++ [x]) ma mc mk := by
  refine ⟨h.nx.keep' h.held.row hk (by decide), ⟨by simpa using hN9, fun m hm => ?_, ?_⟩, ⟨h.seen.row.keep' h.held.row hk (by decide), fun m hm => (h.seen.more m hm).keep' h.held.row hk (by decide)⟩⟩
  · rcases List.mem_append.1 hm with hm | hm
    · exact (h.held.data m hm).keep' h.held.row hk (by decide)
    · simp only [List.mem_singleton] at hm
      subst hm
      exact hnew.keep' h.held.row hk (by decide)
  · rw [List.pairwise_append]
    refine ⟨h.held.apart, by simp, fun m hm y hy z hz => ?_⟩
    simp only [List.mem_singleton] at hy
    subst hy
    exact hap m hm z hz
theorem Got.addM {M9 : Mem} (h : Got X M ua uc ul ha hc ms ma mc mk) {x : MkC} (hnew : NewSl X T.int 1 x.a x.more.length x.c (x.more.map intV) M) {a9 : Option Addr} {c9 : Nat} (hN9 : NewSl X T.api_Mark 4 a9 (mk.length + 1) c9 ((mk ++ [x]).flatMap encM) M9) (hk : Mem.keep (blk ma) M M9) : Got X M9 ua uc ul ha hc ms a9 c9 (mk ++ [x]) := by
  refine ⟨h.nx.keep' h.seen.row hk (by decide), ⟨h.held.row.keep' h.seen.row hk (by decide), fun m hm => (h.held.data m hm).keep' h.seen.row hk (by decide), h.held.apart⟩, ⟨by simpa using hN9, fun m hm => ?_⟩⟩
  rcases List.mem_append.1 hm with hm | hm
  · exact (h.seen.more m hm).keep' h.seen.row hk (by decide)
  · simp only [List.mem_singleton] at hm
    subst hm
    exact hnew.keep' h.seen.row hk (by decide)
theorem getMsg_bytes {i : IdT} {p : List UInt8} (h : msgErrD i p.length = 0) : getMsgErr (idBytes i.o i.d i.e i.c ++ p) = 0 ∧ getMsg (idBytes i.o i.d i.e i.c ++ p) = ⟨i, p⟩ := by
  obtain ⟨h1, h2, h3⟩ := msgErr_zero h
  obtain ⟨h4, h5⟩ := idOf_bytes (i := i) h1
  have ht : (idBytes i.o i.d i.e i.c ++ p).take 6 = idBytes i.o i.d i.e i.c := by rw [List.take_append_of_le_length (by omega), List.take_of_length_le (by omega)]
  have hd : (idBytes i.o i.d i.e i.c ++ p).drop 6 = p := by rw [← h5, List.drop_left]
  have he : getMsgErr (idBytes i.o i.d i.e i.c ++ p) = 0 := by
    unfold getMsgErr
    rw [ht, List.length_append, h5, if_neg (by omega), if_neg (by rw [(getIdErr_bytes h1).1]; simp), if_neg (by omega)]
  refine ⟨he, ?_⟩
  unfold getMsg
  rw [if_pos he, ht, hd, h4]
end
end Go.Proofs.YtpdkkbpkplhdpaaGreat
