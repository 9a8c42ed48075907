/- Part of this proof;laid by program. -/
import Derived.Test.YtpnhjkiligohnaaGreatDoorJ22
import Derived.Test.YtpnhjkiligohnaaGreatDoorJ20
import Derived.Test.YtpnhjkiligohnaaGreatDoorJ21
set_option linter.unusedVariables false
set_option linter.unusedSimpArgs false
namespace Go.Proofs.YtpnhjkiligohnaaGreatDoor
open Go.Vm Go.Vm.Rn Go.Vm.Rn.Q
set_option maxRecDepth 100000
theorem zPd:spg48.ok (run primsN zA 1000 40 F.zj) zaP=true:=by kernel_rfl
theorem zPe:spg49.ok (run primsN zA 1000 40 F.zk) zga=true:=by kernel_rfl
theorem zPf:spg50.ok (run primsN zA 1000 40 F.zk) zgb=true:=by kernel_rfl
theorem zPg:spg51.ok (run primsN zA 1000 40 F.zj) zaP=true:=by kernel_rfl
theorem zPh:spg52.ok (run primsN zA 1000 40 F.zj) zaP=true:=by kernel_rfl
theorem zPi:spg53.ok (run primsN zA 1000 40 F.zk) zga=true:=by kernel_rfl
theorem zPj:spg54.ok (run primsN zA 1000 40 F.zk) zgb=true:=by kernel_rfl
theorem zPk:spg55.ok (run primsN zA 1000 40 F.zj) zaP=true:=by kernel_rfl
theorem zPl:spg56.ok (run primsN zA 1000 40 F.zj) zaP=true:=by kernel_rfl
theorem zPm:spg57.ok (run primsN zA 1000 40 F.zk) zga=true:=by kernel_rfl
theorem zPn:spg58.ok (run primsN zA 1000 40 F.zk) zgb=true:=by kernel_rfl
theorem zPo:spg59.ok (run primsN zA 1000 40 F.zj) zaP=true:=by kernel_rfl
end Go.Proofs.YtpnhjkiligohnaaGreatDoor
