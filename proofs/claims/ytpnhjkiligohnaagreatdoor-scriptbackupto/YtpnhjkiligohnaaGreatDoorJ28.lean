/- Part of this proof;laid by program. -/
import Derived.Test.YtpnhjkiligohnaaGreatDoorJ22
import Derived.Test.YtpnhjkiligohnaaGreatDoorJ20
import Derived.Test.YtpnhjkiligohnaaGreatDoorJ21
set_option linter.unusedVariables false
set_option linter.unusedSimpArgs false
namespace Go.Proofs.YtpnhjkiligohnaaGreatDoor
open Go.Vm Go.Vm.Rn Go.Vm.Rn.Q
set_option maxRecDepth 100000
theorem zPp:spg60.ok (run primsN zA 1000 40 F.zj) zaP=true:=by kernel_rfl
theorem zPq:spg61.ok (run primsN zA 1000 40 F.zk) zga=true:=by kernel_rfl
theorem zPr:spg62.ok (run primsN zA 1000 40 F.zk) zgb=true:=by kernel_rfl
theorem zPs:spg63.ok (run primsN zA 1000 40 F.zj) zaP=true:=by kernel_rfl
theorem zPt:spg64.ok (run primsN zA 1000 40 F.zj) zaP=true:=by kernel_rfl
theorem zPu:spg65.ok (run primsN zA 1000 40 F.zk) zga=true:=by kernel_rfl
theorem zPv:spg66.ok (run primsN zA 1000 40 F.zk) zgb=true:=by kernel_rfl
theorem zPw:spg67.ok (run primsN zA 1000 40 F.zj) zaP=true:=by kernel_rfl
theorem zPx:spg68.ok (run primsN zA 1000 40 F.zj) zaP=true:=by kernel_rfl
theorem zPy:spg69.ok (run primsN zA 1000 40 F.zk) zga=true:=by kernel_rfl
theorem zPz:spg70.ok (run primsN zA 1000 40 F.zk) zgb=true:=by kernel_rfl
theorem zPA:spg71.ok (run primsN zA 1000 40 F.zj) zaP=true:=by kernel_rfl
end Go.Proofs.YtpnhjkiligohnaaGreatDoor
