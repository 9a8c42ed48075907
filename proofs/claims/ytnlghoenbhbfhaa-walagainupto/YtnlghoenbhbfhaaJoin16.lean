/- Records: put, and the first one of a row. -/
import Derived.Test.YtnlghoenbhbfhaaJoin15
import Derived.RangeFuncNested
import Derived.RangeFuncBound
import Derived.RangeFuncCalls
import Derived.RangeFuncLeaves
import Derived.Shelf.Abstract
import Derived.Shelf.RegionOpen
import Derived.WalkKit
import Derived.OwnWalkIn
import Derived.TacticsInMore
import Derived.LoopNIn
import Derived.LoopIn
import Derived.Test.YtnlghoenbhbfhaaJoin14
namespace Go.Proofs.Ytnlghoenbhbfhaa
open Go Go.Vm
attribute [local irreducible] Brn Ob Grow CallsM inR LoopVC Mem.row Mem.cells Mem.setCells Mem.upd Go.Vm.Own AppVC SrcVC StrVC NextVC New SrcOk subA NewSl Mem.textAt Mem.mapAt Mem.iterAt entryOf kfind Wr NewEls Elems
set_option maxRecDepth 10000
variable {M : Mem}
theorem u32_range (n : Int) : 0 ≤ IntKind.u32.wrap n ∧ IntKind.u32.wrap n < 4294967296 := by
  simp [IntKind.wrap, IntKind.signed, IntKind.bits]; omega
theorem sumI_range (l : List UInt8) : 0 ≤ sumI l ∧ sumI l < 4294967296 := by
  unfold sumI bitsOp
  exact u32_range _
theorem u64_small {n : Int} (h : 0 ≤ n ∧ n < 18446744073709551616) : IntKind.u64.wrap n = n := by
  simp [IntKind.wrap, IntKind.signed, IntKind.bits]; omega
theorem i64_small {n : Int} (h : 0 ≤ n ∧ n ≤ 9223372036854775807) : IntKind.i64.wrap n = n := by
  simp [IntKind.wrap, IntKind.signed, IntKind.bits]; omega
/-- a record's bytes -/
def putB (p : List UInt8) : List UInt8 := be 4 p.length ++ be 4 (sumI (be 4 p.length ++ p)) ++ p
def putE (p : List UInt8) : Int := if p.length = 0 then 2 else if 65536 < p.length then 3 else 0
theorem putErr4 {x : Int} (h : 0 ≤ x ∧ x < 4294967296) : putErr x 4 = 0 := by
  unfold putErr
  have h2 : x.fdiv (2 ^ (8 * (4 : Int)).toNat) = 0 := by
    have e : (2 : Int) ^ (8 * (4 : Int)).toNat = 4294967296 := by decide
    rw [e, Int.fdiv_eq_ediv_of_nonneg _ (by decide)]
    exact Int.ediv_eq_zero_of_lt h.1 h.2
  rw [if_neg (by decide), if_neg (by rw [h2]; simp)]
theorem put_ok {a : Option Addr} {n c : Nat} {p : List UInt8} (hs : SrcOk M 1 a n (p.map byteV)) (hn : n ≤ 2097152) (hnc : n ≤ c) : CallsM Try.prog F.record_Put [.slice a n c] M fun v M' =>
    (putE p ≠ 0 ∧ v = .tuple #[.slice none 0 0, .int .i64 (putE p)] ∧ M = M') ∨ (putE p = 0 ∧ ∃ a' n' c', n' = (putB p).length ∧ v = .tuple #[.slice a' n' c', .int .i64 0] ∧ NewSl M T.uint8 1 a' n' c' ((putB p).map byteV) M') := by
  refine fo_record_Put (by simp) ?_
  have hl := hs.maplen
  (conv => whnf); refine brn (fun g => ?_) (fun g => ?_)
  · have g1 : n = 0 := by have := of_decide_eq_true g; omega
    have e : putE p = 2 := by unfold putE; rw [if_pos (by omega)]
    repeat' ((conv => whnf); first | refine ⟨?_, True.intro⟩ | refine brn_t rfl ?_ | refine brn_f rfl ?_ | refine ob rfl ?_ | refine ob (by decide) ?_ | refine grow_same (Mem.le_refl _) ?_ | refine ob (Mem.le_refl _) ?_ | refine ⟨_, Mem.le_refl _, ?_⟩ | fail)
    rw [e]; exact .inl ⟨by decide, rfl, rfl⟩
  have g1 : ¬ n = 0 := by have := of_decide_eq_false g; omega
  (conv => whnf); refine brn (fun g => ?_) (fun g => ?_)
  · have g2 : 65536 < n := by have := of_decide_eq_true g; omega
    have e : putE p = 3 := by unfold putE; rw [if_neg (by omega), if_pos (by omega)]
    repeat' ((conv => whnf); first | refine ⟨?_, True.intro⟩ | refine brn_t rfl ?_ | refine brn_f rfl ?_ | refine ob rfl ?_ | refine ob (by decide) ?_ | refine grow_same (Mem.le_refl _) ?_ | refine ob (Mem.le_refl _) ?_ | refine ⟨_, Mem.le_refl _, ?_⟩ | fail)
    rw [e]; exact .inl ⟨by decide, rfl, rfl⟩
  have g2 : ¬ 65536 < n := by have := of_decide_eq_false g; omega
  have e0 : putE p = 0 := by unfold putE; rw [if_neg (by omega), if_neg (by omega)]
  (conv => whnf)
  rw [u64_small (n := (n : Int)) (by omega)]
  refine (bitsPut_ok none 0 0 n 4 M [] (SrcOk.nil M 1) (by decide)).mono ?_
  rintro v M1 (⟨hbad, -, -⟩ | ⟨-, a1, c1, rfl, hN1⟩)
  · exact absurd (putErr4 (by omega)) hbad
  replace hN1 := hN1.new
  rw [List.nil_append] at hN1
  have hk4 : (0 : Nat) + (4 : Int).toNat = 4 := rfl
  have hk4' : (4 : Int).toNat = 4 := rfl
  rw [hk4, hk4'] at hN1
  rw [hk4]
  (conv => whnf); refine new (fun b2 hb2 => ?_)
  replace hb2 : M1 b2 = none := hb2
  have hle2 : M1.le (M1.setCells b2 T.s_uint8 [.slice a1 4 c1, .slice a n c]) := Mem.le_setCells hb2
  have hs2 : SrcOk (M1.setCells b2 T.s_uint8 [.slice a1 4 c1, .slice a n c]) 1 (some ⟨b2, 0, none⟩) 2 [.slice a1 4 c1, .slice a n c] := SrcOk.lit rfl
  obtain ⟨M2, hM2⟩ : ∃ M2, M2 = M1.setCells b2 T.s_uint8 [.slice a1 4 c1, .slice a n c] := ⟨_, rfl⟩
  rw [← hM2] at hle2 hs2
  (conv => whnf)
  erw [← hM2]
  have hcc : 4 ≤ c1 := (newSl_iff.1 hN1).2.2.1
  have hE : Elems M2 1 (some ⟨b2, 0, none⟩) 2 (BytesR M2) [be 4 n, p] := by
    unfold Elems
    refine ⟨[[.slice a1 4 c1], [.slice a n c]], hs2, rfl, rfl, by simp, fun i cs x hi hx => ?_⟩
    match i, hi, hx with
    | 0, hi, hx => cases hi; cases hx; exact ⟨a1, 4, c1, rfl, hcc, hN1.src.le hle2⟩
    | 1, hi, hx => cases hi; cases hx; exact ⟨a, n, c, rfl, hnc, (hs.le hN1.le).le hle2⟩
    | i + 2, hi, hx => simp at hi
  refine (sum_ok hE (by decide) (fun l hl2 => by
    rcases List.mem_cons.1 hl2 with rfl | hl2
    · rw [be_length]; decide
    · simp at hl2; subst hl2; omega)).mono ?_
  rintro v _ ⟨rfl, rfl⟩
  have hfl : [be 4 (n : Int), p].flatten = be 4 p.length ++ p := by rw [← hl]; simp
  rw [hfl]
  have hsr := sumI_range (be 4 p.length ++ p)
  (conv => whnf)
  rw [u64_small (n := sumI (be 4 p.length ++ p)) (by omega)]
  refine (bitsPut_ok a1 4 c1 (sumI (be 4 p.length ++ p)) 4 M2 (be 4 n) (hN1.src.le hle2) (by decide)).mono ?_
  rintro v M3 (⟨hbad, -, -⟩ | ⟨-, a3, c3, rfl, hN3⟩)
  · exact absurd (putErr4 (by omega)) hbad
  replace hN3 := hN3.new
  rw [hk4'] at hN3
  rw [hk4']
  repeat' ((conv => whnf); first | refine ⟨?_, True.intro⟩ | refine brn_t rfl ?_ | refine brn_f rfl ?_ | refine ob rfl ?_ | refine ob (by decide) ?_ | refine grow_same (Mem.le_refl _) ?_ | refine ob (Mem.le_refl _) ?_ | refine ⟨_, Mem.le_refl _, ?_⟩ | fail)
  refine srcv (((hs.le hN1.le).le hle2).le hN3.le) ?_
  (conv => whnf); refine appN M2 _ hN3 (by omega) (by simp [maxLen]; omega) (bytes_one p) fun a4 c4 M4 hN4 => ?_
  repeat' ((conv => whnf); first | refine ⟨?_, True.intro⟩ | refine brn_t rfl ?_ | refine brn_f rfl ?_ | refine ob rfl ?_ | refine ob (by decide) ?_ | refine grow_same (Mem.le_refl _) ?_ | refine ob (Mem.le_refl _) ?_ | refine ⟨_, Mem.le_refl _, ?_⟩ | fail)
  refine .inr ⟨e0, a4, _, c4, ?_, rfl, ?_⟩
  · show 4 + 4 + n = _
    unfold putB; simp only [List.length_append, be_length]; omega
  · have e : (putB p).map byteV = (be 4 n ++ be 4 (sumI (be 4 p.length ++ p))).map byteV ++ p.map byteV := by rw [← List.map_append]; unfold putB; rw [hl]
    rw [e]
    exact hN4.mono (Mem.le_trans hN1.le hle2)
end Go.Proofs.Ytnlghoenbhbfhaa

/- The first record of a row. -/
namespace Go.Proofs.Ytnlghoenbhbfhaa
open Go Go.Vm
attribute [local irreducible] Brn Ob Grow CallsM inR LoopVC Mem.row Mem.cells Mem.setCells Mem.upd Go.Vm.Own AppVC SrcVC StrVC NextVC New SrcOk subA NewSl Mem.textAt Mem.mapAt Mem.iterAt entryOf kfind Wr NewEls Elems
set_option maxRecDepth 10000
variable {M : Mem}
/-- the record with which a row begins, and how many bytes it has -/
def firstR (l : List UInt8) : Option (List UInt8 × Nat) :=
  if l.length < 8 then none else if num (l.take 4) 0 = 0 ∨ 65536 < num (l.take 4) 0 ∨ l.length - 8 < num (l.take 4) 0 then none
  else if sumI (l.take 4 ++ (l.drop 8).take (num (l.take 4) 0)) = num ((l.drop 4).take 4) 0 then some ((l.drop 8).take (num (l.take 4) 0), 8 + num (l.take 4) 0) else none
def FirstOut (M : Mem) (l : List UInt8) (v : Value) (M' : Mem) : Prop :=
  (firstR l = none ∧ v = .tuple #[.slice none 0 0, .int .i64 0] ∧ M.le M') ∨ ∃ p k a n c, firstR l = some (p, k) ∧ v = .tuple #[.slice a n c, .int .i64 (k : Nat)] ∧ NewSl M T.uint8 1 a n c (p.map byteV) M'
theorem num4_lt (l : List UInt8) : num (l.take 4) 0 < 4294967296 := by
  have h := num_lt (l.take 4) 0
  have h2 : (l.take 4).length ≤ 4 := by rw [List.length_take]; omega
  have h3 : 256 ^ (l.take 4).length ≤ 256 ^ 4 := Nat.pow_le_pow_right (by decide) h2
  omega
theorem first_ok {a : Option Addr} {n c : Nat} {l : List UInt8} (hs : SrcOk M 1 a n (l.map byteV)) (hn : n ≤ 2097152) (hnc : n ≤ c) : CallsM Try.prog F.record_First [.slice a n c] M (FirstOut M l) := by
  refine fo_record_First (by simp) ?_
  have hl := hs.maplen
  have hd0 : l.drop (0 : Int).toNat = l := rfl
  have h4' : (4 : Int).toNat = 4 := rfl
  repeat' ((conv => whnf); first | refine ⟨?_, True.intro⟩ | refine brn_t rfl ?_ | refine brn_f rfl ?_ | refine ob rfl ?_ | refine ob (by decide) ?_ | refine grow_same (Mem.le_refl _) ?_ | refine ob (Mem.le_refl _) ?_ | refine ⟨_, Mem.le_refl _, ?_⟩ | fail)
  by_cases h4 : n < 4
  · have he : getErr n 0 4 = 2 := by unfold getErr; rw [if_neg (by omega), if_pos (by omega)]
    have he2 : getErr n 4 4 = 2 := by unfold getErr; rw [if_neg (by omega), if_pos (by omega)]
    have hno : firstR l = none := by unfold firstR; rw [if_pos (by omega)]
    refine (bitsGet_no a n c M 0 4 (by rw [he]; decide) (by omega)).mono ?_
    rintro v _ ⟨rfl, rfl⟩
    rw [he]
    repeat' ((conv => whnf); first | refine ⟨?_, True.intro⟩ | refine brn_t rfl ?_ | refine brn_f rfl ?_ | refine ob rfl ?_ | refine ob (by decide) ?_ | refine grow_same (Mem.le_refl _) ?_ | refine ob (Mem.le_refl _) ?_ | refine ⟨_, Mem.le_refl _, ?_⟩ | fail)
    refine (bitsGet_no a n c M 4 4 (by rw [he2]; decide) (by omega)).mono ?_
    rintro v _ ⟨rfl, rfl⟩
    repeat' ((conv => whnf); first | refine ⟨?_, True.intro⟩ | refine brn_t rfl ?_ | refine brn_f rfl ?_ | refine ob rfl ?_ | refine ob (by decide) ?_ | refine grow_same (Mem.le_refl _) ?_ | refine ob (Mem.le_refl _) ?_ | refine ⟨_, Mem.le_refl _, ?_⟩ | fail)
    exact .inl ⟨hno, rfl, Mem.le_refl _⟩
  have he : getErr n 0 4 = 0 := by unfold getErr; rw [if_neg (by omega), if_neg (by omega)]
  refine (bitsGet_ok a n c M l hs (by omega) hnc 0 4 he).mono ?_
  rintro v _ ⟨rfl, rfl⟩
  have e1 : getNum l 0 4 = num (l.take 4) 0 := rfl
  rw [e1]
  have hk4 := num4_lt l
  obtain ⟨k, hk⟩ : ∃ k, k = num (l.take 4) 0 := ⟨_, rfl⟩
  rw [← hk] at hk4 ⊢
  repeat' ((conv => whnf); first | refine ⟨?_, True.intro⟩ | refine brn_t rfl ?_ | refine brn_f rfl ?_ | refine ob rfl ?_ | refine ob (by decide) ?_ | refine grow_same (Mem.le_refl _) ?_ | refine ob (Mem.le_refl _) ?_ | refine ⟨_, Mem.le_refl _, ?_⟩ | fail)
  by_cases h8 : n < 8
  · have he2 : getErr n 4 4 = 2 := by unfold getErr; rw [if_neg (by omega), if_pos (by omega)]
    have hno : firstR l = none := by unfold firstR; rw [if_pos (by omega)]
    refine (bitsGet_no a n c M 4 4 (by rw [he2]; decide) (by omega)).mono ?_
    rintro v _ ⟨rfl, rfl⟩
    rw [he2]
    repeat' ((conv => whnf); first | refine ⟨?_, True.intro⟩ | refine brn_t rfl ?_ | refine brn_f rfl ?_ | refine ob rfl ?_ | refine ob (by decide) ?_ | refine grow_same (Mem.le_refl _) ?_ | refine ob (Mem.le_refl _) ?_ | refine ⟨_, Mem.le_refl _, ?_⟩ | fail)
    exact .inl ⟨hno, rfl, Mem.le_refl _⟩
  have he2 : getErr n 4 4 = 0 := by unfold getErr; rw [if_neg (by omega), if_neg (by omega)]
  refine (bitsGet_ok a n c M l hs (by omega) hnc 4 4 he2).mono ?_
  rintro v _ ⟨rfl, rfl⟩
  have e2 : getNum l 4 4 = num ((l.drop 4).take 4) 0 := rfl
  rw [e2]
  have hq4 := num4_lt (l.drop 4)
  obtain ⟨q, hq⟩ : ∃ q, q = num ((l.drop 4).take 4) 0 := ⟨_, rfl⟩
  rw [← hq] at hq4 ⊢
  repeat' ((conv => whnf); first | refine ⟨?_, True.intro⟩ | refine brn_t rfl ?_ | refine brn_f rfl ?_ | refine ob rfl ?_ | refine ob (by decide) ?_ | refine grow_same (Mem.le_refl _) ?_ | refine ob (Mem.le_refl _) ?_ | refine ⟨_, Mem.le_refl _, ?_⟩ | fail)
  refine brn (fun g => ?_) (fun g => ?_)
  · have g1 : k = 0 := by have := of_decide_eq_true g; omega
    have hno : firstR l = none := by unfold firstR; rw [if_neg (by omega), if_pos (.inl (by omega))]
    repeat' ((conv => whnf); first | refine ⟨?_, True.intro⟩ | refine brn_t rfl ?_ | refine brn_f rfl ?_ | refine ob rfl ?_ | refine ob (by decide) ?_ | refine grow_same (Mem.le_refl _) ?_ | refine ob (Mem.le_refl _) ?_ | refine ⟨_, Mem.le_refl _, ?_⟩ | fail)
    exact .inl ⟨hno, rfl, Mem.le_refl _⟩
  have g1 : ¬ k = 0 := by have := of_decide_eq_false g; omega
  repeat' ((conv => whnf); first | refine ⟨?_, True.intro⟩ | refine brn_t rfl ?_ | refine brn_f rfl ?_ | refine ob rfl ?_ | refine ob (by decide) ?_ | refine grow_same (Mem.le_refl _) ?_ | refine ob (Mem.le_refl _) ?_ | refine ⟨_, Mem.le_refl _, ?_⟩ | fail)
  refine brn (fun g => ?_) (fun g => ?_)
  · have g2 : 65536 < k := by have := of_decide_eq_true g; omega
    have hno : firstR l = none := by unfold firstR; rw [if_neg (by omega), if_pos (.inr (.inl (by omega)))]
    repeat' ((conv => whnf); first | refine ⟨?_, True.intro⟩ | refine brn_t rfl ?_ | refine brn_f rfl ?_ | refine ob rfl ?_ | refine ob (by decide) ?_ | refine grow_same (Mem.le_refl _) ?_ | refine ob (Mem.le_refl _) ?_ | refine ⟨_, Mem.le_refl _, ?_⟩ | fail)
    exact .inl ⟨hno, rfl, Mem.le_refl _⟩
  have g2 : ¬ 65536 < k := by have := of_decide_eq_false g; omega
  repeat' ((conv => whnf); first | refine ⟨?_, True.intro⟩ | refine brn_t rfl ?_ | refine brn_f rfl ?_ | refine ob rfl ?_ | refine ob (by decide) ?_ | refine grow_same (Mem.le_refl _) ?_ | refine ob (Mem.le_refl _) ?_ | refine ⟨_, Mem.le_refl _, ?_⟩ | fail)
  refine ob (inR_i64 (by first | omega | (dsimp only; omega))) ?_
  (conv => whnf)
  rw [u64_small (n := (n : Int) - 8) (by omega)]
  refine brn (fun g => ?_) (fun g => ?_)
  · have g3 : n - 8 < k := by have := of_decide_eq_true g; omega
    have hno : firstR l = none := by unfold firstR; rw [if_neg (by omega), if_pos (.inr (.inr (by omega)))]
    repeat' ((conv => whnf); first | refine ⟨?_, True.intro⟩ | refine brn_t rfl ?_ | refine brn_f rfl ?_ | refine ob rfl ?_ | refine ob (by decide) ?_ | refine grow_same (Mem.le_refl _) ?_ | refine ob (Mem.le_refl _) ?_ | refine ⟨_, Mem.le_refl _, ?_⟩ | fail)
    exact .inl ⟨hno, rfl, Mem.le_refl _⟩
  have g3 : ¬ n - 8 < k := by have := of_decide_eq_false g; omega
  (conv => whnf)
  rw [i64_small (n := (k : Int)) (by omega)]
  refine ob (inR_i64 (by first | omega | (dsimp only; omega))) ?_
  (conv => whnf)
  refine ob (by omega) ?_
  (conv => whnf)
  refine ob (by omega) ?_
  have hp := hs.subm (lo := 8) (hi := 8 + k) (c := c) (by omega) (by omega) hnc
  have ht := hs.subm (lo := 0) (hi := 4) (c := c) (by omega) (by omega) hnc
  have t1 : (8 + (k : Int)).toNat - Int.toNat 8 = k := by show (8 + (k : Int)).toNat - 8 = k; omega
  have t2 : Int.toNat 4 - Int.toNat 0 = 4 := rfl
  have t3 : Int.toNat 8 = 8 := rfl
  have t4 : Int.toNat 0 = 0 := rfl
  rw [t1, t2, t3, t4]
  rw [show 8 + k - 8 = k by omega] at hp
  rw [Nat.sub_zero, List.drop_zero] at ht
  generalize subA a 8 c 1 = ap at hp ⊢
  generalize subA a 0 c 1 = at' at ht ⊢
  obtain ⟨pl, hpl⟩ : ∃ pl, pl = (l.drop 8).take k := ⟨_, rfl⟩
  rw [← hpl] at hp
  have hpll := hp.maplen
  (conv => whnf); refine new (fun b2 hb2 => ?_)
  replace hb2 : M b2 = none := hb2
  have hle2 : M.le (M.setCells b2 T.s_uint8 [.slice at' 4 (c - 0), .slice ap k (c - 8)]) := Mem.le_setCells hb2
  have hs2 : SrcOk (M.setCells b2 T.s_uint8 [.slice at' 4 (c - 0), .slice ap k (c - 8)]) 1 (some ⟨b2, 0, none⟩) 2 [.slice at' 4 (c - 0), .slice ap k (c - 8)] := SrcOk.lit rfl
  obtain ⟨M2, hM2⟩ : ∃ M2, M2 = M.setCells b2 T.s_uint8 [.slice at' 4 (c - 0), .slice ap k (c - 8)] := ⟨_, rfl⟩
  rw [← hM2] at hle2 hs2
  (conv => whnf)
  erw [← hM2]
  have hE : Elems M2 1 (some ⟨b2, 0, none⟩) 2 (BytesR M2) [l.take 4, pl] := by
    unfold Elems
    refine ⟨[[.slice at' 4 (c - 0)], [.slice ap k (c - 8)]], hs2, rfl, rfl, by simp, fun i cs x hi hx => ?_⟩
    match i, hi, hx with
    | 0, hi, hx => cases hi; cases hx; exact ⟨at', 4, c - 0, rfl, by omega, ht.le hle2⟩
    | 1, hi, hx => cases hi; cases hx; exact ⟨ap, k, c - 8, rfl, by omega, hp.le hle2⟩
    | i + 2, hi, hx => simp at hi
  refine (sum_ok hE (by decide) (fun x hx => by
    rcases List.mem_cons.1 hx with rfl | hx
    · rw [List.length_take]; omega
    · simp at hx; subst hx; omega)).mono ?_
  rintro v _ ⟨rfl, rfl⟩
  have hfl : [l.take 4, pl].flatten = l.take 4 ++ pl := by simp
  rw [hfl]
  have hsr := sumI_range (l.take 4 ++ pl)
  obtain ⟨z, hz⟩ : ∃ z, z = sumI (l.take 4 ++ pl) := ⟨_, rfl⟩
  rw [← hz] at hsr ⊢
  have hf : firstR l = if z = q then some (pl, 8 + k) else none := by
    unfold firstR
    rw [if_neg (by omega), if_neg (by omega), ← hk, ← hq, ← hpl, ← hz]
  (conv => whnf)
  rw [u64_small (n := z) (by omega)]
  refine brn (fun g => ?_) (fun g => ?_)
  · have g4 : ¬ z = q := by simpa using g
    have hno : firstR l = none := by rw [hf, if_neg g4]
    repeat' ((conv => whnf); first | refine ⟨?_, True.intro⟩ | refine brn_t rfl ?_ | refine brn_f rfl ?_ | refine ob rfl ?_ | refine ob (by decide) ?_ | refine grow_same (Mem.le_refl _) ?_ | refine ob (Mem.le_refl _) ?_ | refine ⟨_, Mem.le_refl _, ?_⟩ | fail)
    exact .inl ⟨hno, rfl, hle2⟩
  have g4 : z = q := by simpa using g
  have hyes : firstR l = some (pl, 8 + k) := by rw [hf, if_pos g4]
  (conv => whnf); refine new (fun b3 hb3 => ?_)
  replace hb3 : M2 b3 = none := hb3
  have hN3 : NewSl M2 T.uint8 1 (some ⟨b3, 0, none⟩) 0 0 (([] : List UInt8).map byteV) _ := NewSl.lit hb3 T.uint8 1 0 [] rfl
  obtain ⟨M3, hM3⟩ : ∃ M3, M3 = M2.setCells b3 T.uint8 [] := ⟨_, rfl⟩
  rw [← hM3] at hN3
  (conv => whnf)
  erw [← hM3]
  refine srcv ((hp.le hle2).le hN3.le) ?_
  (conv => whnf); refine appN M2 _ hN3 (by omega) (by simp [maxLen]; omega) (bytes_one pl) fun a4 c4 M4 hN4 => ?_
  (conv => whnf)
  rw [i64_small (n := (k : Int)) (by omega)]
  refine ob (inR_i64 (by first | omega | (dsimp only; omega))) ?_
  repeat' ((conv => whnf); first | refine ⟨?_, True.intro⟩ | refine brn_t rfl ?_ | refine brn_f rfl ?_ | refine ob rfl ?_ | refine ob (by decide) ?_ | refine grow_same (Mem.le_refl _) ?_ | refine ob (Mem.le_refl _) ?_ | refine ⟨_, Mem.le_refl _, ?_⟩ | fail)
  refine .inr ⟨pl, 8 + k, a4, 0 + k, c4, hyes, ?_, ?_⟩
  · rw [Int.natCast_add]; rfl
  · rw [← List.map_append, List.nil_append] at hN4
    exact hN4.mono hle2
end Go.Proofs.Ytnlghoenbhbfhaa

/- Ranges over functions: a contract as a step of the world; how a range is used. -/
namespace Go.Vm
open Go.RowKit
theorem WLe.refl (W : World) : WLe W W := ⟨rfl, rfl, rfl, Nat.le_refl _, Nat.le_refl _, fun _ _ h => h⟩
theorem WLe.mem {A B : World} (h : WLe A B) : (memOf A).le (memOf B) := fun b o e => h.same b o e
theorem WLe.drew (W : World) : WLe W W.drew := ⟨rfl, rfl, rfl, Nat.le_succ _, Nat.le_refl _, fun _ _ h => h⟩
/-- a call as a step of the world -/
theorem CallsM.world {P : Program} {f : Nat} {args : List Value} {M : Mem} {R : Value → Mem → Prop} (h : CallsM P f args M R) {w : World} (hM : M.le (memOf w)) (hR : ∀ v M', R v M' → M.le M') :
    Calls P f args.toArray w fun e w' => ∃ v M', e = .returned v ∧ R v M' ∧ M'.le (memOf w') ∧ WLe w w' ∧ ∀ b, M b = none → M' b ≠ none → w.heap.size ≤ b := by
  obtain ⟨F, hF⟩ : ∃ F : Mem, F = fun b => if M b = none then memOf w b else none := ⟨_, rfl⟩
  refine (h.2 F w hM (fun b o hb => ?_) (fun b => ?_)).mono ?_
  · rw [hF] at hb; dsimp only at hb
    split at hb
    · exact hb
    · cases hb
  · by_cases e : M b = none
    · exact .inl e
    · right; rw [hF]; dsimp only; rw [if_neg e]
  · rintro e w' ⟨v, M', he, hr, hM', hF', hdj, h1, h2, h3, h4, h5⟩
    refine ⟨v, M', he, hr, hM', ⟨h1, h2, h3, h5, h4, fun k o hk => ?_⟩, fun b hb hb' => ?_⟩
    · by_cases e : M k = none
      · exact hF' k o (by rw [hF]; dsimp only; rw [if_pos e]; exact hk)
      · obtain ⟨z, hz⟩ := Option.ne_none_iff_exists'.1 e
        have h6 := hM k z hz
        have : o = z := Option.some.inj (hk.symm.trans h6)
        subst this
        exact hM' k o (hR v M' hr k o hz)
    · have h6 := (hdj b).resolve_left hb'
      rw [hF] at h6
      dsimp only at h6
      rw [if_pos hb] at h6
      apply Classical.byContradiction
      intro hlt
      have : w.heap[b]? = none := h6
      rw [Array.getElem?_eq_none_iff] at this
      exact hlt this
/-- a range is used: its iterator's contract, an invariant, one round, what follows -/
theorem rangeV {P : Program} {asg body : (Exit → St → Prop) → St → Prop} {ps : List Nat} {gf : Nat} {lb : List Value} {Q : Exit → St → Prop} {fr : List (Nat × SV)} {bx : List BE} {M : Mem} {α : Type} {encs : α → List Value} {A : Mem} {N : Nat} {PM : α → Mem → Prop} {D : List α → Prop}
    (hit : IterM P gf lb encs A N PM D) (hen : enters P gf = true) (hbx : bx.all goneB = true) (hA : A.le M) (hlen : ∀ x, (encs x).length = ps.length) (I : List α → Mem → Prop) (M0 : Mem) (hM0 : M0.le M) (hAM : ∀ b, A b ≠ none → M0 b = none) (hI : I [] M0)
    (hround : ∀ pre x M Mx M1, I pre M → pre.length < N → PM x Mx → (∀ b, Mx b ≠ none → M b = none ∧ A b = none) → M.le M1 → Mx.le M1 →
      asg (fun e t => e = .normal ∧ body (fun e t' => e = .normal ∧ ∃ M2, I (pre ++ [x]) M2 ∧ M2.le t'.M) t) ⟨zipF ps (encs x) fr, bx, M1⟩)
    (hdone : ∀ xs M M1, D xs → I xs M → (∀ b, A b ≠ none → M b = none) → M.le M1 → A.le M1 → Q .normal ⟨fr, bx, M1⟩) : RangeVC P asg body ps gf lb Q ⟨fr, bx, M⟩ :=
  ⟨hen, hbx, α, encs, A, N, PM, D, I, hit, hA, hlen, ⟨M0, hM0, hAM, hI⟩, hround, hdone⟩
end Go.Vm

/- The records of a row: the iterator. -/
namespace Go.Proofs.Ytnlghoenbhbfhaa
open Go Go.RowKit Go.Shelf Go.Vm Go.Proofs
attribute [local go_sem] Oper.semAt_some
/-- what a row's round is handed: where the record begins, its bytes' slice, its bytes -/
structure RowX where
  at' : Nat
  a : Option Addr
  n : Nat
  c : Nat
  p : List UInt8
def encX (x : RowX) : List Value := [.int .i64 x.at', .slice x.a x.n x.c]
/-- the memory of a record's bytes -/
def PMX (x : RowX) (Mx : Mem) : Prop := x.at' ≤ 2097152 ∧ x.n ≤ 65536 ∧ Wr Mx T.uint8 1 x.a x.n x.c (x.p.map byteV) ∧ ∀ b, Mx b ≠ none → blk x.a b
/-- all records of a row, at most so many -/
def scanF : Nat → List UInt8 → List (List UInt8)
  | 0, _ => []
  | f + 1, l => match firstR l with | none => [] | some (p, k) => p :: scanF f (l.drop k)
def scanR (l : List UInt8) : List (List UInt8) := scanF l.length l
def lenR (ps : List (List UInt8)) : Nat := (ps.map fun p => 8 + p.length).sum
theorem firstR_some {l p : List UInt8} {k : Nat} (h : firstR l = some (p, k)) : k = 8 + p.length ∧ k ≤ l.length ∧ 1 ≤ p.length ∧ p.length ≤ 65536 ∧ p = (l.drop 8).take p.length := by
  unfold firstR at h
  split at h
  · cases h
  · split at h
    · cases h
    · split at h
      · cases h
        rw [List.length_take, List.length_drop]
        refine ⟨by omega, by omega, by omega, by omega, ?_⟩
        congr 1; omega
      · cases h
theorem scanF_fuel {l : List UInt8} : ∀ {f g : Nat}, l.length ≤ f → l.length ≤ g → scanF f l = scanF g l := by
  have key : ∀ (m : Nat) (l : List UInt8), l.length ≤ m → ∀ f g, l.length ≤ f → l.length ≤ g → scanF f l = scanF g l := by
    intro m
    induction m with
    | zero =>
      intro l hl f g hf hg
      have h0 : firstR l = none := by unfold firstR; rw [if_pos (by omega)]
      cases f <;> cases g <;> simp [scanF, h0]
    | succ m ih =>
      intro l hl f g hf hg
      cases hx : firstR l with
      | none => cases f <;> cases g <;> simp [scanF, hx]
      | some q =>
        obtain ⟨p, k⟩ := q
        obtain ⟨h1, h2, h3, -⟩ := firstR_some hx
        match f, g, hf, hg with
        | 0, _, hf, _ => omega
        | _ + 1, 0, _, hg => omega
        | f + 1, g + 1, hf, hg =>
          simp only [scanF, hx]
          congr 1
          exact ih _ (by rw [List.length_drop]; omega) _ _ (by rw [List.length_drop]; omega) (by rw [List.length_drop]; omega)
  intro f g hf hg
  exact key l.length l (Nat.le_refl _) f g hf hg
theorem scanR_none {l : List UInt8} (h : firstR l = none) : scanR l = [] := by
  unfold scanR; cases l.length <;> simp [scanF, h]
theorem scanR_some {l p : List UInt8} {k : Nat} (h : firstR l = some (p, k)) : scanR l = p :: scanR (l.drop k) := by
  obtain ⟨h1, h2, h3, -⟩ := firstR_some h
  have e : scanR l = scanF ((l.length - 1) + 1) l := by unfold scanR; rw [show l.length - 1 + 1 = l.length by omega]
  rw [e]
  simp only [scanF, h]
  congr 1
  exact scanF_fuel (by rw [List.length_drop]; omega) (Nat.le_refl _)
/-- where each one begins -/
def AtX : Nat → List RowX → Prop
  | _, [] => True
  | k, x :: r => x.at' = k ∧ x.n = x.p.length ∧ AtX (k + (8 + x.p.length)) r
theorem lenR_append (ps qs : List (List UInt8)) : lenR (ps ++ qs) = lenR ps + lenR qs := by simp [lenR]
theorem AtX.snoc {x : RowX} : ∀ {k : Nat} {xs : List RowX}, AtX k xs → x.at' = k + lenR (xs.map (·.p)) → x.n = x.p.length → AtX k (xs ++ [x])
  | k, [], _, h1, h2 => ⟨by simpa [lenR] using h1, h2, trivial⟩
  | k, y :: r, ⟨h3, h4, h5⟩, h1, h2 => ⟨h3, h4, h5.snoc (by rw [h1]; simp [lenR]; omega) h2⟩
def DX (l : List UInt8) (xs : List RowX) : Prop := xs.map (·.p) = scanR l ∧ AtX 0 xs
/-- First, as a step of the world -/
theorem First_in {M : Mem} {a : Option Addr} {n c : Nat} {l : List UInt8} (hs : SrcOk M 1 a n (l.map byteV)) (hn : n ≤ 2097152) (hnc : n ≤ c) {w : World} (hM : M.le (memOf w)) :
    CallsIn Fence.wide 0 Try.prog F.record_First #[.slice a n c] w fun e w' => WLe w w' ∧ ∃ x : RowX, (firstR l = none ∧ e = .returned (.tuple #[.slice none 0 0, .int .i64 0])) ∨
      (firstR l = some (x.p, 8 + x.p.length) ∧ x.n = x.p.length ∧ e = .returned (.tuple #[.slice x.a x.n x.c, .int .i64 ((8 + x.p.length : Nat) : Int)]) ∧ ∃ Mx, PMX x Mx ∧ Mx.le (memOf w') ∧ ∀ b, Mx b ≠ none → w.heap.size ≤ b) := by
  refine callsIn_wide.2 ?_
  refine ((first_ok hs hn hnc).world hM ?_).mono ?_
  · rintro v M' (⟨-, -, h⟩ | ⟨p, k, a', n', c', -, -, h⟩)
    · exact h
    · exact h.le
  · rintro e w' ⟨v, M', rfl, (⟨h1, rfl, -⟩ | ⟨p, k, a', n', c', h1, rfl, hN⟩), hM', hle, hfr⟩
    · exact ⟨hle, ⟨0, none, 0, 0, []⟩, .inl ⟨h1, rfl⟩⟩
    · obtain ⟨h2, -, -, h4, -⟩ := firstR_some h1
      have hl := hN.src.maplen
      subst h2
      classical
      obtain ⟨Mx, hMx⟩ : ∃ Mx : Mem, Mx = fun b => if blk a' b then M' b else none := ⟨_, rfl⟩
      have hxle : Mx.le M' := fun b o hb => by
        rw [hMx] at hb; dsimp only at hb
        split at hb
        · exact hb
        · cases hb
      have hxb : ∀ b, Mx b ≠ none → blk a' b := fun b hb => by
        rw [hMx] at hb; dsimp only at hb
        split at hb
        · assumption
        · exact absurd rfl hb
      refine ⟨hle, ⟨0, a', n', c', p⟩, .inr ⟨h1, hl.symm, rfl, Mx, ⟨Nat.zero_le _, ?_, ?_, hxb⟩, fun b o hb => hM' b o (hxle b o hb), fun b hb => ?_⟩⟩
      · show n' ≤ 65536; omega
      · refine hN.wr.mono fun q o hq ho => ?_
        rw [hMx]; dsimp only; rw [if_pos ⟨q, hq, rfl⟩]; exact ho
      · obtain ⟨q, hq, rfl⟩ := hxb b hb
        have h5 := hN.block hq
        refine hfr _ h5.1 ?_
        obtain ⟨cs, hcs⟩ := h5.2
        unfold Mem.has at hcs; rw [hcs]; simp
set_option maxRecDepth 100000 in
set_option maxHeartbeats 2000000 in
theorem rows_it {A : Mem} {a : Option Addr} {n c B : Nat} {l : List UInt8} (hs : SrcOk A 1 a n (l.map byteV)) (hn : n ≤ 2097152) (hnc : n ≤ c) (hB : A.has B T.s_uint8 [.slice a n c]) :
    IterM Try.prog F.record_rows_1 [.pointer (some ⟨B, 0, none⟩)] encX A n PMX (DX l) := fun lp J W hAW hY h0 => by
  refine callsIn_of_wp Try.func70 rfl trivial ?_ rfl
  simp only [Try.ntmps70, List.size_toArray, List.length_cons, List.length_nil, Nat.reduceAdd, Nat.reduceSub, Array.replicate_succ, Array.replicate_zero, List.push_toArray, List.append_toArray, List.nil_append, List.cons_append]
  gi_wp2
  gi_loopw [3] (fun p wr => ∃ (pre : List RowX) (k : Nat) (Wp : World), p = .int .i64 k ∧ k ≤ n ∧ J pre Wp ∧ WLe Wp wr ∧ A.le (memOf wr) ∧ scanR l = pre.map (·.p) ++ scanR (l.drop k) ∧ k = lenR (pre.map (·.p)) ∧ AtX 0 pre)
    (fun p _ => n - (intOf p).toNat)
  case atStart =>
    exact ⟨[], 0, W, rfl, Nat.zero_le _, h0, WLe.refl _, hAW, by simp, rfl, trivial⟩
  case round =>
    obtain ⟨pre, k, Wp, rfl, hk, hJp, hwp, hle, hsc, hkl, hat⟩ := hrel
    have hb : wr.cell? ⟨B, 0, none⟩ = some (.slice a n c) := by
      have := hle B _ hB
      unfold World.cell?
      rw [show wr.heap[B]? = _ from this]
      rfl
    have hsub := hs.subm (lo := k) (hi := n) (c := c) hk (Nat.le_refl _) hnc
    have hll := hs.maplen
    have htk : (l.drop k).take (n - k) = l.drop k := List.take_of_length_le (by rw [List.length_drop]; omega)
    rw [htk] at hsub
    have H1 : Hid (k = lenR (pre.map (·.p))) := hkl
    have H2 : Hid (SrcOk A 1 (subA a k c 1) (n - k) ((l.drop k).map byteV)) := hsub
    have H3 : Hid (A.le (memOf wr)) := hle
    have H4 : Hid (scanR l = pre.map (·.p) ++ scanR (l.drop k)) := hsc
    have H5 : Hid (l.length = n) := hll
    have H9 : Hid (WLe Wp wr) := hwp
    clear hkl hsub hle hsc htk hll hwp
    gi_wp2
    · refine ⟨trivial, rfl, ?_⟩
      refine (First_in (l := l.drop k) (a := a) (n := n - k) (c := 0) (by have h2 := H2.out; unfold subA at h2; rw [if_pos h] at h2; exact h2) (by omega) (by omega) H3.out).mono ?_
      rintro e w' ⟨hle', x, (⟨hf, rfl⟩ | ⟨hf, hxn, rfl, Mx, hPM, hMx, hfr⟩)⟩
      · have H6 : Hid (firstR (l.drop k) = none) := hf
        have H10 : Hid (WLe wr w') := hle'
        clear hf hle'
        gi_wp2
        refine ⟨fun _ h => (by cases h), ?_⟩
        gi_wp2
        refine bodyPost_ret (results_none rfl _ _ _) rfl ?_
        refine ⟨⟨_, rfl⟩, pre, Wp, ⟨?_, hat⟩, hJp, H9.out.trans H10.out⟩
        have h4 := H4.out
        rw [scanR_none H6.out, List.append_nil] at h4
        exact h4.symm
      · have hfs := firstR_some hf
        have H6 : Hid (firstR (l.drop k) = some (x.p, 8 + x.p.length)) := hf
        have H8 : Hid (x.n = x.p.length) := hxn
        have H10 : Hid (WLe wr w') := hle'
        have hlen : pre.length < n := by
          have h1 := H1.out; have h5 := H5.out
          have h9 : 8 * (pre.map (·.p)).length ≤ lenR (pre.map (·.p)) := by
            generalize pre.map (·.p) = ps
            induction ps with
            | nil => simp
            | cons y r ih => simp only [lenR, List.map_cons, List.sum_cons, List.length_cons] at ih ⊢; omega
          rw [List.length_map] at h9
          have h10 := hfs.2.1; rw [List.length_drop] at h10
          omega
        obtain ⟨fn, tmps, assign, body, hy, hR⟩ := hY pre { x with at' := k } Wp w' Mx hJp (H9.out.trans hle') (fun b o hb => hle'.same b o (H3.out b o hb)) hlen ⟨Nat.le_trans hk hn, hPM.2⟩ hMx (fun b hb => Nat.le_trans H9.out.size (hfr b hb))
        dsimp only [encX] at hy
        clear hf hfs hxn hPM hMx hfr hle'
        gi_wp2
        refine ⟨rfl, ?_⟩
        refine hR.mono ?_
        rintro e W3 ⟨rfl, hJ3, hk3⟩
        gi_wp2
        have h10 := firstR_some H6.out
        have h5 := H5.out
        have h11 := h10.2.1
        rw [List.length_drop] at h11
        have hw64 : wrap64 ((k : Int) + (8 + (x.p.length : Int))) = ((k + (8 + x.p.length) : Nat) : Int) := by
          simp only [wrap64]; omega
        rw [hw64]
        refine ⟨⟨pre ++ [{ x with at' := k }], k + (8 + x.p.length), W3, rfl, by omega, hJ3, WLe.refl _, hk3, ?_, ?_, hat.snoc ?_ H8.out⟩, ?_⟩
        · rw [H4.out, scanR_some H6.out, List.drop_drop]; simp
        · have h1 := H1.out
          rw [List.map_append, lenR_append, ← h1]; simp [lenR]
        · have h1 := H1.out
          dsimp only; omega
        · simp only [intOf]; omega
    · refine ⟨trivial, rfl, ?_⟩
      refine (First_in (l := l.drop k) (a := a.map fun x => x.add k) (n := n - k) (c := c - k) (by have h2 := H2.out; unfold subA at h2; rw [if_neg h, Nat.mul_one] at h2; exact h2) (by omega) (by omega) H3.out).mono ?_
      rintro e w' ⟨hle', x, (⟨hf, rfl⟩ | ⟨hf, hxn, rfl, Mx, hPM, hMx, hfr⟩)⟩
      · have H6 : Hid (firstR (l.drop k) = none) := hf
        have H10 : Hid (WLe wr w') := hle'
        clear hf hle'
        gi_wp2
        refine ⟨fun _ h => (by cases h), ?_⟩
        gi_wp2
        refine bodyPost_ret (results_none rfl _ _ _) rfl ?_
        refine ⟨⟨_, rfl⟩, pre, Wp, ⟨?_, hat⟩, hJp, H9.out.trans H10.out⟩
        have h4 := H4.out
        rw [scanR_none H6.out, List.append_nil] at h4
        exact h4.symm
      · have hfs := firstR_some hf
        have H6 : Hid (firstR (l.drop k) = some (x.p, 8 + x.p.length)) := hf
        have H8 : Hid (x.n = x.p.length) := hxn
        have H10 : Hid (WLe wr w') := hle'
        have hlen : pre.length < n := by
          have h1 := H1.out; have h5 := H5.out
          have h9 : 8 * (pre.map (·.p)).length ≤ lenR (pre.map (·.p)) := by
            generalize pre.map (·.p) = ps
            induction ps with
            | nil => simp
            | cons y r ih => simp only [lenR, List.map_cons, List.sum_cons, List.length_cons] at ih ⊢; omega
          rw [List.length_map] at h9
          have h10 := hfs.2.1; rw [List.length_drop] at h10
          omega
        obtain ⟨fn, tmps, assign, body, hy, hR⟩ := hY pre { x with at' := k } Wp w' Mx hJp (H9.out.trans hle') (fun b o hb => hle'.same b o (H3.out b o hb)) hlen ⟨Nat.le_trans hk hn, hPM.2⟩ hMx (fun b hb => Nat.le_trans H9.out.size (hfr b hb))
        dsimp only [encX] at hy
        clear hf hfs hxn hPM hMx hfr hle'
        gi_wp2
        refine ⟨rfl, ?_⟩
        refine hR.mono ?_
        rintro e W3 ⟨rfl, hJ3, hk3⟩
        gi_wp2
        have h10 := firstR_some H6.out
        have h5 := H5.out
        have h11 := h10.2.1
        rw [List.length_drop] at h11
        have hw64 : wrap64 ((k : Int) + (8 + (x.p.length : Int))) = ((k + (8 + x.p.length) : Nat) : Int) := by
          simp only [wrap64]; omega
        rw [hw64]
        refine ⟨⟨pre ++ [{ x with at' := k }], k + (8 + x.p.length), W3, rfl, by omega, hJ3, WLe.refl _, hk3, ?_, ?_, hat.snoc ?_ H8.out⟩, ?_⟩
        · rw [H4.out, scanR_some H6.out, List.drop_drop]; simp
        · have h1 := H1.out
          rw [List.map_append, lenR_append, ← h1]; simp [lenR]
        · have h1 := H1.out
          dsimp only; omega
        · simp only [intOf]; omega
end Go.Proofs.Ytnlghoenbhbfhaa

/- Maps' values, told otherwise; lists of keys and values. -/
namespace Go.Vm
/-- a map's values may be told otherwise, if they lie the same -/
theorem MapAt.relabel {κ α : Type} [DecidableEq κ] {kv : κ → Value} {vv : α → Value} {M : Mem} {b : Nat} {m : List (κ × α)} (h : MapAt kv vv M b m) (f : κ × α → α) (hf : ∀ q ∈ m, vv (f q) = vv q.2) : MapAt kv vv M b (m.map fun q => (q.1, f q)) := by
  obtain ⟨l, c, h1, h2, rfl⟩ := h
  refine ⟨l.map fun q => (q.1, q.2.1, f q.2), c, ?_, ⟨?_, ?_, ?_⟩, ?_⟩
  · rw [h1]
    unfold mapObj
    congr 2
    rw [List.map_map]
    congr 1
    apply List.map_congr_left
    intro q hq
    simp only [Function.comp_apply, entOf, hf q.2 (List.mem_map.2 ⟨q, hq, rfl⟩)]
  · have := h2.keys
    simpa [List.map_map, Function.comp_def] using this
  · intro q hq
    obtain ⟨q', hq', rfl⟩ := List.mem_map.1 hq
    exact h2.old q' hq'
  · have := h2.apart
    simpa [List.map_map, Function.comp_def] using this
  · simp [List.map_map, Function.comp_def]
section
variable {κ α : Type} [DecidableEq κ]
theorem aset_self {l : List (κ × α)} {k : κ} {x : α} (h : aget l k = some x) : aset l k x = l := by
  induction l with
  | nil => rfl
  | cons q r ih =>
    obtain ⟨a, y⟩ := q
    simp only [aget] at h
    simp only [aset]
    split at h
    · rename_i e; cases h; rw [if_pos e, e]
    · rename_i e; rw [if_neg e, ih h]
theorem aset_aset (l : List (κ × α)) (k : κ) (x y : α) : aset (aset l k x) k y = aset l k y := by
  induction l with
  | nil => rfl
  | cons q r ih =>
    obtain ⟨a, z⟩ := q
    simp only [aset]
    split
    · simp [aset]
    · rename_i e; simp only [aset, if_neg e, ih]
theorem aset_append {l : List (κ × α)} {k : κ} {x y : α} (h : aget l k = none) : aset (l ++ [(k, x)]) k y = l ++ [(k, y)] := by
  induction l with
  | nil => simp [aset]
  | cons q r ih =>
    obtain ⟨a, z⟩ := q
    simp only [aget] at h
    split at h
    · cases h
    · rename_i e; simp only [List.cons_append, aset, if_neg e, ih h]
theorem aput_aput (l : List (κ × α)) (k : κ) (x y : α) : aput (aput l k x) k y = aput l k y := by
  cases h : aget l k with
  | some z =>
    have e1 : ∀ w, aput l k w = aset l k w := fun w => by simp [aput, h]
    have e2 : aget (aset l k x) k = some x := by rw [aget_aset]; simp [h]
    rw [e1, e1]
    simp only [aput, e2, aset_aset]
  | none =>
    have e1 : ∀ w, aput l k w = l ++ [(k, w)] := fun w => by simp [aput, h]
    have e2 : aget (l ++ [(k, x)]) k = some x := by rw [aget_append, h]; simp [aget]
    rw [e1, e1]
    simp only [aput, e2, aset_append h]
/-- what a put list has -/
theorem aset_split {l : List (κ × α)} {k : κ} {x : α} (hn : (l.map (·.1)).Nodup) (h : aget l k = some x) (y : α) : ∃ u v, l = u ++ (k, x) :: v ∧ aset l k y = u ++ (k, y) :: v ∧ (∀ q ∈ u, q.1 ≠ k) ∧ ∀ q ∈ v, q.1 ≠ k := by
  induction l with
  | nil => cases h
  | cons q r ih =>
    obtain ⟨a, z⟩ := q
    simp only [List.map_cons, List.nodup_cons] at hn
    simp only [aget] at h
    split at h
    · rename_i e; subst e; cases h
      exact ⟨[], r, rfl, by simp [aset], by simp, fun q hq e => hn.1 (e ▸ List.mem_map.2 ⟨q, hq, rfl⟩)⟩
    · rename_i e
      obtain ⟨u, v, h1, h2, h3, h4⟩ := ih hn.2 h
      refine ⟨(a, z) :: u, v, by rw [h1]; rfl, by simp only [aset, if_neg e, h2]; rfl, fun q hq => ?_, h4⟩
      rcases List.mem_cons.1 hq with rfl | hq
      · exact e
      · exact h3 q hq
end
end Go.Vm

