/- Part of this proof;laid by program. -/
import Derived.Test.YtpnhjkiligohnaaGreatDoorJ22
import Derived.Test.YtpnhjkiligohnaaGreatDoorJ20
import Derived.Test.YtpnhjkiligohnaaGreatDoorJ21
set_option linter.unusedVariables false
set_option linter.unusedSimpArgs false
namespace Go.Proofs.YtpnhjkiligohnaaGreatDoor
open Go.Vm Go.Vm.Rn Go.Vm.Rn.Q
set_option maxRecDepth 100000
theorem zPq:spg48.ok (run primsN zB 1000 40 F.zk) zaM=true:=by kernel_rfl
theorem zPr:spg49.ok (run primsN zB 1000 40 F.zl) zf6=true:=by kernel_rfl
theorem zPs:spg50.ok (run primsN zB 1000 40 F.zl) zf7=true:=by kernel_rfl
theorem zPt:spg51.ok (run primsN zB 1000 40 F.zk) zaM=true:=by kernel_rfl
theorem zPu:spg52.ok (run primsN zB 1000 40 F.zk) zaM=true:=by kernel_rfl
theorem zPv:spg53.ok (run primsN zB 1000 40 F.zl) zf6=true:=by kernel_rfl
theorem zPw:spg54.ok (run primsN zB 1000 40 F.zl) zf7=true:=by kernel_rfl
theorem zPx:spg55.ok (run primsN zB 1000 40 F.zk) zaM=true:=by kernel_rfl
theorem zPy:spg56.ok (run primsN zB 1000 40 F.zk) zaM=true:=by kernel_rfl
theorem zPz:spg57.ok (run primsN zB 1000 40 F.zl) zf6=true:=by kernel_rfl
theorem zPA:spg58.ok (run primsN zB 1000 40 F.zl) zf7=true:=by kernel_rfl
theorem zPB:spg59.ok (run primsN zB 1000 40 F.zk) zaM=true:=by kernel_rfl
end Go.Proofs.YtpnhjkiligohnaaGreatDoor
