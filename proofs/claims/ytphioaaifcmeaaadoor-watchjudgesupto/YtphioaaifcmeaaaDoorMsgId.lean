/- Ids: what the two sides' functions say. -/
import Derived.Test.YtphioaaifcmeaaaDoorCodeA
import Derived.Test.YtphioaaifcmeaaaDoorVmP
namespace Go.Proofs.YtphioaaifcmeaaaDoor
open Go Go.Vm
attribute [local irreducible] Brn Ob Grow CallsM inR LoopVC Mem.row Mem.cells Mem.setCells Mem.upd Go.Vm.Own AppVC SrcVC StrVC NextVC New SrcOk subA
theorem in_ok (n a b : Int) (M : Mem) : CallsM Tryd.prog F.msg_Check_1 [.int .i64 n, .int .i64 a, .int .i64 b] M fun v M' => v = .bool (decide (a ≤ n ∧ n ≤ b)) ∧ M = M' := by
  refine fo_msg_Check_1 (by simp) ?_
  (conv => whnf)
  refine brn (fun h => ?_) (fun h => ?_)
  all_goals (conv => whnf)
  · refine ⟨by simp_all, rfl⟩
  · refine ⟨by simp_all; omega, rfl⟩
def idErr (a b c d : Int) : Int := if (0 ≤ a ∧ a ≤ 63) ∧ (0 ≤ b ∧ b ≤ 63) ∧ (1 ≤ c ∧ c ≤ 65535) ∧ (1 ≤ d ∧ d ≤ 65535) then (if a = b then 2 else 0) else 1
set_option maxRecDepth 10000 in
theorem check_ok (a b c d : Int) (M : Mem) : CallsM Tryd.prog F.msg_Check [.agg #[.int .i64 a, .int .i64 b, .int .i64 c, .int .i64 d]] M fun v M' => v = .int .i64 (idErr a b c d) ∧ M = M' := by
  refine fo_msg_Check (by simp) ?_
  (conv => whnf)
  repeat' ((conv => whnf); first
    | (refine (in_ok _ _ _ _).mono ?_; rintro v M' ⟨rfl, rfl⟩)
    | refine brn (fun h => ?_) (fun h => ?_))
  all_goals (conv => whnf)
  all_goals (refine ⟨?_, rfl⟩; simp_all [idErr])
  all_goals (intros; exfalso; omega)
set_option maxRecDepth 10000 in
theorem checkR_ok (a b c d : Int) (M : Mem) : CallsM Tryd.prog F.ref13_Check [.agg #[.int .i64 a, .int .i64 b, .int .i64 c, .int .i64 d]] M fun v M' => v = .int .i64 (idErr a b c d) ∧ M = M' := by
  refine fo_ref13_Check (by simp) ?_
  (conv => whnf)
  repeat' ((conv => whnf); refine brn (fun h => ?_) (fun h => ?_))
  all_goals (conv => whnf)
  all_goals (refine ⟨?_, rfl⟩; simp only [decide_eq_true_eq, decide_eq_false_iff_not] at *; congr 1; unfold idErr; split <;> (try split) <;> omega)
end Go.Proofs.YtphioaaifcmeaaaDoor
