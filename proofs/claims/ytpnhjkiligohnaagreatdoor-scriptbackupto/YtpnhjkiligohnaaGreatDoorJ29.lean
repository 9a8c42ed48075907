/- Part of this proof;laid by program. -/
import Derived.Test.YtpnhjkiligohnaaGreatDoorJ22
import Derived.Test.YtpnhjkiligohnaaGreatDoorJ20
import Derived.Test.YtpnhjkiligohnaaGreatDoorJ21
set_option linter.unusedVariables false
set_option linter.unusedSimpArgs false
namespace Go.Proofs.YtpnhjkiligohnaaGreatDoor
open Go.Vm Go.Vm.Rn Go.Vm.Rn.Q
set_option maxRecDepth 100000
theorem zPB:spg72.ok (run primsN zA 1000 40 F.zj) zaP=true:=by kernel_rfl
theorem zPC:spg73.ok (run primsN zA 1000 40 F.zk) zga=true:=by kernel_rfl
theorem zPD:spg74.ok (run primsN zA 1000 40 F.zk) zgb=true:=by kernel_rfl
theorem zPE:spg75.ok (run primsN zA 1000 40 F.zj) zaP=true:=by kernel_rfl
theorem zPF:spg76.ok (run primsN zA 1000 40 F.zj) zaP=true:=by kernel_rfl
theorem zPG:spg77.ok (run primsN zA 1000 40 F.zk) zga=true:=by kernel_rfl
theorem zPH:spg78.ok (run primsN zA 1000 40 F.zk) zgb=true:=by kernel_rfl
theorem zPI:spg79.ok (run primsN zA 1000 40 F.zj) zaP=true:=by kernel_rfl
theorem zPJ:spg80.ok (run primsN zA 1000 40 F.zj) zaP=true:=by kernel_rfl
theorem zHS:spg82.ok (run primsN zA 1000 40 F.zcT) zaP=true:=by kernel_rfl
end Go.Proofs.YtpnhjkiligohnaaGreatDoor
