/- Ids and messages: what the two sides' functions say. -/
import Derived.Test.YthlleljdahkgpaaHopBits
namespace Go.Proofs.Ythlleljdahkgpaa
open Go Go.Vm
attribute [local irreducible] Brn Ob Grow CallsM inR LoopVC Mem.row Mem.cells Mem.setCells Mem.upd Own AppVC SrcVC StrVC NextVC New SrcOk subA
theorem in_ok (n a b : Int) (M : Mem) : CallsM Try.prog F.msg_Check_1 [.int .i64 n, .int .i64 a, .int .i64 b] M fun v M' => v = .bool (decide (a ≤ n ∧ n ≤ b)) ∧ M = M' := by
  refine fo_msg_Check_1 (by simp) ?_
  (conv => whnf)
  refine brn (fun h => ?_) (fun h => ?_)
  all_goals (conv => whnf)
  · refine ⟨by simp_all, rfl⟩
  · refine ⟨by simp_all; omega, rfl⟩
def idErr (a b c d : Int) : Int := if (0 ≤ a ∧ a ≤ 63) ∧ (0 ≤ b ∧ b ≤ 63) ∧ (1 ≤ c ∧ c ≤ 65535) ∧ (1 ≤ d ∧ d ≤ 65535) then (if a = b then 2 else 0) else 1
set_option maxRecDepth 10000 in
theorem check_ok (a b c d : Int) (M : Mem) : CallsM Try.prog F.msg_Check [.agg #[.int .i64 a, .int .i64 b, .int .i64 c, .int .i64 d]] M fun v M' => v = .int .i64 (idErr a b c d) ∧ M = M' := by
  refine fo_msg_Check (by simp) ?_
  (conv => whnf)
  repeat' ((conv => whnf); first
    | (refine (in_ok _ _ _ _).mono ?_; rintro v M' ⟨rfl, rfl⟩)
    | refine brn (fun h => ?_) (fun h => ?_))
  all_goals (conv => whnf)
  all_goals (refine ⟨?_, rfl⟩; simp_all [idErr])
  all_goals (intros; exfalso; omega)
set_option maxRecDepth 10000 in
theorem checkR_ok (a b c d : Int) (M : Mem) : CallsM Try.prog F.ref13_Check [.agg #[.int .i64 a, .int .i64 b, .int .i64 c, .int .i64 d]] M fun v M' => v = .int .i64 (idErr a b c d) ∧ M = M' := by
  refine fo_ref13_Check (by simp) ?_
  (conv => whnf)
  repeat' ((conv => whnf); refine brn (fun h => ?_) (fun h => ?_))
  all_goals (conv => whnf)
  all_goals (refine ⟨?_, rfl⟩; simp only [decide_eq_true_eq, decide_eq_false_iff_not] at *; congr 1; unfold idErr; split <;> (try split) <;> omega)
def msgErr (a b c d : Int) (n : Nat) : Int := if idErr a b c d ≠ 0 then idErr a b c d else if n = 0 then 2 else if 48 < n then 3 else 0
set_option maxRecDepth 10000 in
theorem checkMsg_ok (a b c d : Int) (p : Option Addr) (n k : Nat) (M : Mem) : CallsM Try.prog F.msg_CheckMsg [.agg #[.int .i64 a, .int .i64 b, .int .i64 c, .int .i64 d, .slice p n k]] M fun v M' => v = .int .i64 (msgErr a b c d n) ∧ M = M' := by
  refine fo_msg_CheckMsg (by simp) ?_
  (conv => whnf)
  repeat' ((conv => whnf); first
    | (refine (check_ok _ _ _ _ _).mono ?_; rintro v M' ⟨rfl, rfl⟩)
    | refine brn (fun h => ?_) (fun h => ?_))
  all_goals (conv => whnf)
  all_goals (refine ⟨?_, rfl⟩; simp_all [msgErr])
  all_goals omega
set_option maxRecDepth 10000 in
theorem checkMsgR_ok (a b c d : Int) (p : Option Addr) (n k : Nat) (M : Mem) : CallsM Try.prog F.ref13_CheckMsg [.agg #[.int .i64 a, .int .i64 b, .int .i64 c, .int .i64 d, .slice p n k]] M fun v M' => v = .int .i64 (msgErr a b c d n) ∧ M = M' := by
  refine fo_ref13_CheckMsg (by simp) ?_
  (conv => whnf)
  repeat' ((conv => whnf); first
    | (refine (checkR_ok _ _ _ _ _).mono ?_; rintro v M' ⟨rfl, rfl⟩)
    | refine brn (fun h => ?_) (fun h => ?_))
  all_goals (conv => whnf)
  all_goals (refine ⟨?_, rfl⟩; simp_all [msgErr])
  all_goals omega
set_option maxRecDepth 10000 in
theorem same_ok (a b c d a' b' c' d' : Int) (p p' : Option Addr) (n k n' k' : Nat) (M : Mem) (l l' : List UInt8) (h1 : SrcOk M 1 p n (l.map byteV)) (h2 : SrcOk M 1 p' n' (l'.map byteV)) :
    CallsM Try.prog F.msg_Same [.agg #[.int .i64 a, .int .i64 b, .int .i64 c, .int .i64 d, .slice p n k], .agg #[.int .i64 a', .int .i64 b', .int .i64 c', .int .i64 d', .slice p' n' k']] M fun v M' =>
      v = .bool (decide ((a = a' ∧ b = b' ∧ c = c' ∧ d = d') ∧ l = l')) ∧ M = M' := by
  refine fo_msg_Same (by simp) ?_
  (conv => whnf)
  repeat' ((conv => whnf); first
    | refine strv h1 ?_
    | refine strv h2 ?_
    | refine brn (fun h => ?_) (fun h => ?_))
  all_goals (conv => whnf)
  all_goals (refine ⟨?_, rfl⟩; simp_all)
set_option maxRecDepth 10000 in
theorem sameR_ok (a b c d a' b' c' d' : Int) (p p' : Option Addr) (n k n' k' : Nat) (M : Mem) (l l' : List UInt8) (h1 : SrcOk M 1 p n (l.map byteV)) (h2 : SrcOk M 1 p' n' (l'.map byteV)) :
    CallsM Try.prog F.ref13_Same [.agg #[.int .i64 a, .int .i64 b, .int .i64 c, .int .i64 d, .slice p n k], .agg #[.int .i64 a', .int .i64 b', .int .i64 c', .int .i64 d', .slice p' n' k']] M fun v M' =>
      v = .bool (decide ((a = a' ∧ b = b' ∧ c = c' ∧ d = d') ∧ l = l')) ∧ M = M' := by
  refine fo_ref13_Same (by simp) ?_
  (conv => whnf)
  repeat' ((conv => whnf); first
    | refine strv h1 ?_
    | refine strv h2 ?_
    | refine brn (fun h => ?_) (fun h => ?_))
  all_goals (conv => whnf)
  all_goals (refine ⟨?_, rfl⟩; simp_all)
end Go.Proofs.Ythlleljdahkgpaa
