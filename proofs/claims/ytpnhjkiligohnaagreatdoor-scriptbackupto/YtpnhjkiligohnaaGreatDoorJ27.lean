/- Part of this proof;laid by program. -/
import Derived.Test.YtpnhjkiligohnaaGreatDoorJ22
import Derived.Test.YtpnhjkiligohnaaGreatDoorJ20
import Derived.Test.YtpnhjkiligohnaaGreatDoorJ21
set_option linter.unusedVariables false
set_option linter.unusedSimpArgs false
namespace Go.Proofs.YtpnhjkiligohnaaGreatDoor
open Go.Vm Go.Vm.Rn Go.Vm.Rn.Q
set_option maxRecDepth 100000
theorem zPj:spg48.ok (run primsN zB 1000 40 F.zk) zaM=true:=by kernel_rfl
theorem zPk:spg49.ok (run primsN zB 1000 40 F.zl) zf6=true:=by kernel_rfl
theorem zPl:spg50.ok (run primsN zB 1000 40 F.zl) zf7=true:=by kernel_rfl
theorem zPm:spg51.ok (run primsN zB 1000 40 F.zk) zaM=true:=by kernel_rfl
theorem zPn:spg52.ok (run primsN zB 1000 40 F.zk) zaM=true:=by kernel_rfl
theorem zPo:spg53.ok (run primsN zB 1000 40 F.zl) zf6=true:=by kernel_rfl
theorem zPp:spg54.ok (run primsN zB 1000 40 F.zl) zf7=true:=by kernel_rfl
theorem zPq:spg55.ok (run primsN zB 1000 40 F.zk) zaM=true:=by kernel_rfl
theorem zPr:spg56.ok (run primsN zB 1000 40 F.zk) zaM=true:=by kernel_rfl
theorem zPs:spg57.ok (run primsN zB 1000 40 F.zl) zf6=true:=by kernel_rfl
theorem zPt:spg58.ok (run primsN zB 1000 40 F.zl) zf7=true:=by kernel_rfl
theorem zPu:spg59.ok (run primsN zB 1000 40 F.zk) zaM=true:=by kernel_rfl
end Go.Proofs.YtpnhjkiligohnaaGreatDoor
