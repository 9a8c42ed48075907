/- Part of this proof;laid by program. -/
import Derived.Test.YtpnhjkiligohnaaGreatDoorJ22
import Derived.Test.YtpnhjkiligohnaaGreatDoorJ20
import Derived.Test.YtpnhjkiligohnaaGreatDoorJ21
set_option linter.unusedVariables false
set_option linter.unusedSimpArgs false
namespace Go.Proofs.YtpnhjkiligohnaaGreatDoor
open Go.Vm Go.Vm.Rn Go.Vm.Rn.Q
set_option maxRecDepth 100000
theorem zPv:spg60.ok (run primsN zB 1000 40 F.zk) zaM=true:=by kernel_rfl
theorem zPw:spg61.ok (run primsN zB 1000 40 F.zl) zf6=true:=by kernel_rfl
theorem zPx:spg62.ok (run primsN zB 1000 40 F.zl) zf7=true:=by kernel_rfl
theorem zPy:spg63.ok (run primsN zB 1000 40 F.zk) zaM=true:=by kernel_rfl
theorem zPz:spg64.ok (run primsN zB 1000 40 F.zk) zaM=true:=by kernel_rfl
theorem zPA:spg65.ok (run primsN zB 1000 40 F.zl) zf6=true:=by kernel_rfl
theorem zPB:spg66.ok (run primsN zB 1000 40 F.zl) zf7=true:=by kernel_rfl
theorem zPC:spg67.ok (run primsN zB 1000 40 F.zk) zaM=true:=by kernel_rfl
theorem zPD:spg68.ok (run primsN zB 1000 40 F.zk) zaM=true:=by kernel_rfl
theorem zPE:spg69.ok (run primsN zB 1000 40 F.zl) zf6=true:=by kernel_rfl
theorem zPF:spg70.ok (run primsN zB 1000 40 F.zl) zf7=true:=by kernel_rfl
theorem zPG:spg71.ok (run primsN zB 1000 40 F.zk) zaM=true:=by kernel_rfl
end Go.Proofs.YtpnhjkiligohnaaGreatDoor
