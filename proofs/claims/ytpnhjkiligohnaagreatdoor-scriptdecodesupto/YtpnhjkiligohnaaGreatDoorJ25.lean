/- Part of this proof;laid by program. -/
import Derived.Test.YtpnhjkiligohnaaGreatDoorJ22
import Derived.Test.YtpnhjkiligohnaaGreatDoorJ20
import Derived.Test.YtpnhjkiligohnaaGreatDoorJ21
set_option linter.unusedVariables false
set_option linter.unusedSimpArgs false
namespace Go.Proofs.YtpnhjkiligohnaaGreatDoor
open Go.Vm Go.Vm.Rn Go.Vm.Rn.Q
set_option maxRecDepth 100000
theorem zNx:spg24.ok (run primsN zA 1000 40 F.zj) zaD=true:=by kernel_rfl
theorem zNy:spg25.ok (run primsN zA 1000 40 F.zk) zfQ=true:=by kernel_rfl
theorem zNz:spg26.ok (run primsN zA 1000 40 F.zk) zfR=true:=by kernel_rfl
theorem zNA:spg27.ok (run primsN zA 1000 40 F.zj) zaD=true:=by kernel_rfl
theorem zNB:spg28.ok (run primsN zA 1000 40 F.zj) zaD=true:=by kernel_rfl
theorem zNC:spg29.ok (run primsN zA 1000 40 F.zk) zfQ=true:=by kernel_rfl
theorem zND:spg30.ok (run primsN zA 1000 40 F.zk) zfR=true:=by kernel_rfl
theorem zNE:spg31.ok (run primsN zA 1000 40 F.zj) zaD=true:=by kernel_rfl
theorem zNF:spg32.ok (run primsN zA 1000 40 F.zj) zaD=true:=by kernel_rfl
theorem zNG:spg33.ok (run primsN zA 1000 40 F.zk) zfQ=true:=by kernel_rfl
theorem zNH:spg34.ok (run primsN zA 1000 40 F.zk) zfR=true:=by kernel_rfl
theorem zNI:spg35.ok (run primsN zA 1000 40 F.zj) zaD=true:=by kernel_rfl
end Go.Proofs.YtpnhjkiligohnaaGreatDoor
