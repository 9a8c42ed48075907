/- Part of this proof;laid by program. -/
import Derived.Test.YtpnhjkiligohnaaGreatDoorJ22
import Derived.Test.YtpnhjkiligohnaaGreatDoorJ20
import Derived.Test.YtpnhjkiligohnaaGreatDoorJ21
set_option linter.unusedVariables false
set_option linter.unusedSimpArgs false
namespace Go.Proofs.YtpnhjkiligohnaaGreatDoor
open Go.Vm Go.Vm.Rn Go.Vm.Rn.Q
set_option maxRecDepth 100000
theorem zOV:spg24.ok (run primsN zB 1000 40 F.zk) zaM=true:=by kernel_rfl
theorem zOW:spg25.ok (run primsN zB 1000 40 F.zl) zf6=true:=by kernel_rfl
theorem zOX:spg26.ok (run primsN zB 1000 40 F.zl) zf7=true:=by kernel_rfl
theorem zOY:spg27.ok (run primsN zB 1000 40 F.zk) zaM=true:=by kernel_rfl
theorem zOZ:spg28.ok (run primsN zB 1000 40 F.zk) zaM=true:=by kernel_rfl
theorem zO0:spg29.ok (run primsN zB 1000 40 F.zl) zf6=true:=by kernel_rfl
theorem zO1:spg30.ok (run primsN zB 1000 40 F.zl) zf7=true:=by kernel_rfl
theorem zO2:spg31.ok (run primsN zB 1000 40 F.zk) zaM=true:=by kernel_rfl
theorem zO3:spg32.ok (run primsN zB 1000 40 F.zk) zaM=true:=by kernel_rfl
theorem zO4:spg33.ok (run primsN zB 1000 40 F.zl) zf6=true:=by kernel_rfl
theorem zO5:spg34.ok (run primsN zB 1000 40 F.zl) zf7=true:=by kernel_rfl
theorem zO6:spg35.ok (run primsN zB 1000 40 F.zk) zaM=true:=by kernel_rfl
end Go.Proofs.YtpnhjkiligohnaaGreatDoor
