/- Part of this proof;laid by program. -/
import Derived.Test.YtpnhjkiligohnaaGreatDoorJ22
import Derived.Test.YtpnhjkiligohnaaGreatDoorJ20
import Derived.Test.YtpnhjkiligohnaaGreatDoorJ21
set_option linter.unusedVariables false
set_option linter.unusedSimpArgs false
namespace Go.Proofs.YtpnhjkiligohnaaGreatDoor
open Go.Vm Go.Vm.Rn Go.Vm.Rn.Q
set_option maxRecDepth 100000
theorem zJt:spg0.ok (run primsN zA 1000 40 F.z8) zOt=true:=by kernel_rfl
theorem zRK:spg1.ok (run primsN zA 1000 40 F.zk) zga=true:=by kernel_rfl
theorem zRL:spg2.ok (run primsN zA 1000 40 F.zk) zgb=true:=by kernel_rfl
theorem zRM:spg3.ok (run primsN zA 1000 40 F.zj) zaP=true:=by kernel_rfl
theorem zRN:spg4.ok (run primsN zA 1000 40 F.zj) zaP=true:=by kernel_rfl
theorem zRO:spg5.ok (run primsN zA 1000 40 F.zk) zga=true:=by kernel_rfl
theorem zRP:spg6.ok (run primsN zA 1000 40 F.zk) zgb=true:=by kernel_rfl
theorem zRQ:spg7.ok (run primsN zA 1000 40 F.zj) zaP=true:=by kernel_rfl
theorem zRR:spg8.ok (run primsN zA 1000 40 F.zj) zaP=true:=by kernel_rfl
theorem zRS:spg9.ok (run primsN zA 1000 40 F.zk) zga=true:=by kernel_rfl
theorem zOB:spg10.ok (run primsN zA 1000 40 F.zk) zgb=true:=by kernel_rfl
theorem zOC:spg11.ok (run primsN zA 1000 40 F.zj) zaP=true:=by kernel_rfl
end Go.Proofs.YtpnhjkiligohnaaGreatDoor
