/- Part of this proof;laid by program. -/
import Derived.Test.YtpnhjkiligohnaaGreatDoorJ22
import Derived.Test.YtpnhjkiligohnaaGreatDoorJ20
import Derived.Test.YtpnhjkiligohnaaGreatDoorJ21
set_option linter.unusedVariables false
set_option linter.unusedSimpArgs false
namespace Go.Proofs.YtpnhjkiligohnaaGreatDoor
open Go.Vm Go.Vm.Rn Go.Vm.Rn.Q
set_option maxRecDepth 100000
theorem zOP:spg24.ok (run primsN zA 1000 40 F.zj) zaP=true:=by kernel_rfl
theorem zOQ:spg25.ok (run primsN zA 1000 40 F.zk) zga=true:=by kernel_rfl
theorem zOR:spg26.ok (run primsN zA 1000 40 F.zk) zgb=true:=by kernel_rfl
theorem zOS:spg27.ok (run primsN zA 1000 40 F.zj) zaP=true:=by kernel_rfl
theorem zOT:spg28.ok (run primsN zA 1000 40 F.zj) zaP=true:=by kernel_rfl
theorem zOU:spg29.ok (run primsN zA 1000 40 F.zk) zga=true:=by kernel_rfl
theorem zOV:spg30.ok (run primsN zA 1000 40 F.zk) zgb=true:=by kernel_rfl
theorem zOW:spg31.ok (run primsN zA 1000 40 F.zj) zaP=true:=by kernel_rfl
theorem zOX:spg32.ok (run primsN zA 1000 40 F.zj) zaP=true:=by kernel_rfl
theorem zOY:spg33.ok (run primsN zA 1000 40 F.zk) zga=true:=by kernel_rfl
theorem zOZ:spg34.ok (run primsN zA 1000 40 F.zk) zgb=true:=by kernel_rfl
theorem zO0:spg35.ok (run primsN zA 1000 40 F.zj) zaP=true:=by kernel_rfl
end Go.Proofs.YtpnhjkiligohnaaGreatDoor
