/- Part of this proof;laid by program. -/
import Derived.Test.YtpnhjkiligohnaaGreatDoorJ22
import Derived.Test.YtpnhjkiligohnaaGreatDoorJ20
import Derived.Test.YtpnhjkiligohnaaGreatDoorJ21
set_option linter.unusedVariables false
set_option linter.unusedSimpArgs false
namespace Go.Proofs.YtpnhjkiligohnaaGreatDoor
open Go.Vm Go.Vm.Rn Go.Vm.Rn.Q
set_option maxRecDepth 100000
theorem zO1:spg36.ok (run primsN zA 1000 40 F.zj) zaP=true:=by kernel_rfl
theorem zO2:spg37.ok (run primsN zA 1000 40 F.zk) zga=true:=by kernel_rfl
theorem zO3:spg38.ok (run primsN zA 1000 40 F.zk) zgb=true:=by kernel_rfl
theorem zO4:spg39.ok (run primsN zA 1000 40 F.zj) zaP=true:=by kernel_rfl
theorem zO5:spg40.ok (run primsN zA 1000 40 F.zj) zaP=true:=by kernel_rfl
theorem zO6:spg41.ok (run primsN zA 1000 40 F.zk) zga=true:=by kernel_rfl
theorem zO7:spg42.ok (run primsN zA 1000 40 F.zk) zgb=true:=by kernel_rfl
theorem zO8:spg43.ok (run primsN zA 1000 40 F.zj) zaP=true:=by kernel_rfl
theorem zO9:spg44.ok (run primsN zA 1000 40 F.zj) zaP=true:=by kernel_rfl
theorem zPa:spg45.ok (run primsN zA 1000 40 F.zk) zga=true:=by kernel_rfl
theorem zPb:spg46.ok (run primsN zA 1000 40 F.zk) zgb=true:=by kernel_rfl
theorem zPc:spg47.ok (run primsN zA 1000 40 F.zj) zaP=true:=by kernel_rfl
end Go.Proofs.YtpnhjkiligohnaaGreatDoor
