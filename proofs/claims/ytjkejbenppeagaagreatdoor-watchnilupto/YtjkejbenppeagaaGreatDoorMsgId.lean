/- Ids: what the two sides' functions say. -/
import Derived.Test.YtjkejbenppeagaaGreatDoorCodeA
import Derived.Test.YtjkejbenppeagaaGreatDoorCodeB
import Derived.Test.YtjkejbenppeagaaGreatDoorVmP
namespace Go.Proofs.YtjkejbenppeagaaGreatDoor
open Go Go.Vm
attribute [local irreducible] Brn Ob Grow CallsM inR LoopVC Mem.row Mem.cells Mem.setCells Mem.upd Go.Vm.Own AppVC SrcVC StrVC NextVC New SrcOk subA
theorem in_ok (n a b : Int) (M : Mem) : CallsM Tryz.prog F.msg_Check_1 [.int .i64 n, .int .i64 a, .int .i64 b] M fun v M' => v = .bool (decide (a ≤ n ∧ n ≤ b)) ∧ M = M' := by
  refine fo_msg_Check_1 (by simp) ?_
  (conv => whnf)
  refine brn (fun h => ?_) (fun h => ?_)
  all_goals (conv => whnf)
  · refine ⟨by simp_all, rfl⟩
  · refine ⟨by simp_all; omega, rfl⟩
def idErr (a b c d : Int) : Int := if (0 ≤ a ∧ a ≤ 63) ∧ (0 ≤ b ∧ b ≤ 63) ∧ (1 ≤ c ∧ c ≤ 65535) ∧ (1 ≤ d ∧ d ≤ 65535) then (if a = b then 2 else 0) else 1
set_option maxRecDepth 10000 in
theorem check_ok (a b c d : Int) (M : Mem) : CallsM Tryz.prog F.msg_Check [.agg #[.int .i64 a, .int .i64 b, .int .i64 c, .int .i64 d]] M fun v M' => v = .int .i64 (idErr a b c d) ∧ M = M' := by
  refine fo_msg_Check (by simp) ?_
  (conv => whnf)
  repeat' ((conv => whnf); first
    | (refine (in_ok _ _ _ _).mono ?_; rintro v M' ⟨rfl, rfl⟩)
    | refine brn (fun h => ?_) (fun h => ?_))
  all_goals (conv => whnf)
  all_goals (refine ⟨?_, rfl⟩; simp_all [idErr])
  all_goals (intros; exfalso; omega)
end Go.Proofs.YtjkejbenppeagaaGreatDoor
