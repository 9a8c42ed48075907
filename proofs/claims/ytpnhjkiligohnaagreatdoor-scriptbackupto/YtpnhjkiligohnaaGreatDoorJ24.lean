/- Part of this proof;laid by program. -/
import Derived.Test.YtpnhjkiligohnaaGreatDoorJ22
import Derived.Test.YtpnhjkiligohnaaGreatDoorJ20
import Derived.Test.YtpnhjkiligohnaaGreatDoorJ21
set_option linter.unusedVariables false
set_option linter.unusedSimpArgs false
namespace Go.Proofs.YtpnhjkiligohnaaGreatDoor
open Go.Vm Go.Vm.Rn Go.Vm.Rn.Q
set_option maxRecDepth 100000
theorem zOD:spg12.ok (run primsN zA 1000 40 F.zj) zaP=true:=by kernel_rfl
theorem zOE:spg13.ok (run primsN zA 1000 40 F.zk) zga=true:=by kernel_rfl
theorem zOF:spg14.ok (run primsN zA 1000 40 F.zk) zgb=true:=by kernel_rfl
theorem zOG:spg15.ok (run primsN zA 1000 40 F.zj) zaP=true:=by kernel_rfl
theorem zOH:spg16.ok (run primsN zA 1000 40 F.zj) zaP=true:=by kernel_rfl
theorem zOI:spg17.ok (run primsN zA 1000 40 F.zk) zga=true:=by kernel_rfl
theorem zOJ:spg18.ok (run primsN zA 1000 40 F.zk) zgb=true:=by kernel_rfl
theorem zOK:spg19.ok (run primsN zA 1000 40 F.zj) zaP=true:=by kernel_rfl
theorem zOL:spg20.ok (run primsN zA 1000 40 F.zj) zaP=true:=by kernel_rfl
theorem zOM:spg21.ok (run primsN zA 1000 40 F.zk) zga=true:=by kernel_rfl
theorem zON:spg22.ok (run primsN zA 1000 40 F.zk) zgb=true:=by kernel_rfl
theorem zOO:spg23.ok (run primsN zA 1000 40 F.zj) zaP=true:=by kernel_rfl
end Go.Proofs.YtpnhjkiligohnaaGreatDoor
