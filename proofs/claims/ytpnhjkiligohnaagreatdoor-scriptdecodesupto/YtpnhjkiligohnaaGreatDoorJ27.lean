/- Part of this proof;laid by program. -/
import Derived.Test.YtpnhjkiligohnaaGreatDoorJ22
import Derived.Test.YtpnhjkiligohnaaGreatDoorJ20
import Derived.Test.YtpnhjkiligohnaaGreatDoorJ21
set_option linter.unusedVariables false
set_option linter.unusedSimpArgs false
namespace Go.Proofs.YtpnhjkiligohnaaGreatDoor
open Go.Vm Go.Vm.Rn Go.Vm.Rn.Q
set_option maxRecDepth 100000
theorem zNV:spg48.ok (run primsN zA 1000 40 F.zj) zaD=true:=by kernel_rfl
theorem zNW:spg49.ok (run primsN zA 1000 40 F.zk) zfQ=true:=by kernel_rfl
theorem zNX:spg50.ok (run primsN zA 1000 40 F.zk) zfR=true:=by kernel_rfl
theorem zNY:spg51.ok (run primsN zA 1000 40 F.zj) zaD=true:=by kernel_rfl
theorem zNZ:spg52.ok (run primsN zA 1000 40 F.zj) zaD=true:=by kernel_rfl
theorem zN0:spg53.ok (run primsN zA 1000 40 F.zk) zfQ=true:=by kernel_rfl
theorem zN1:spg54.ok (run primsN zA 1000 40 F.zk) zfR=true:=by kernel_rfl
theorem zN2:spg55.ok (run primsN zA 1000 40 F.zj) zaD=true:=by kernel_rfl
theorem zN3:spg56.ok (run primsN zA 1000 40 F.zj) zaD=true:=by kernel_rfl
theorem zN4:spg57.ok (run primsN zA 1000 40 F.zk) zfQ=true:=by kernel_rfl
theorem zN5:spg58.ok (run primsN zA 1000 40 F.zk) zfR=true:=by kernel_rfl
theorem zN6:spg59.ok (run primsN zA 1000 40 F.zj) zaD=true:=by kernel_rfl
end Go.Proofs.YtpnhjkiligohnaaGreatDoor
