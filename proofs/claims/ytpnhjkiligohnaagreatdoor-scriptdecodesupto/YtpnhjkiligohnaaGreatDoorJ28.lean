/- Part of this proof;laid by program. -/
import Derived.Test.YtpnhjkiligohnaaGreatDoorJ22
import Derived.Test.YtpnhjkiligohnaaGreatDoorJ20
import Derived.Test.YtpnhjkiligohnaaGreatDoorJ21
set_option linter.unusedVariables false
set_option linter.unusedSimpArgs false
namespace Go.Proofs.YtpnhjkiligohnaaGreatDoor
open Go.Vm Go.Vm.Rn Go.Vm.Rn.Q
set_option maxRecDepth 100000
theorem zN7:spg60.ok (run primsN zA 1000 40 F.zj) zaD=true:=by kernel_rfl
theorem zN8:spg61.ok (run primsN zA 1000 40 F.zk) zfQ=true:=by kernel_rfl
theorem zN9:spg62.ok (run primsN zA 1000 40 F.zk) zfR=true:=by kernel_rfl
theorem zOa:spg63.ok (run primsN zA 1000 40 F.zj) zaD=true:=by kernel_rfl
theorem zOb:spg64.ok (run primsN zA 1000 40 F.zj) zaD=true:=by kernel_rfl
theorem zOc:spg65.ok (run primsN zA 1000 40 F.zk) zfQ=true:=by kernel_rfl
theorem zOd:spg66.ok (run primsN zA 1000 40 F.zk) zfR=true:=by kernel_rfl
theorem zOe:spg67.ok (run primsN zA 1000 40 F.zj) zaD=true:=by kernel_rfl
theorem zOf:spg68.ok (run primsN zA 1000 40 F.zj) zaD=true:=by kernel_rfl
theorem zOg:spg69.ok (run primsN zA 1000 40 F.zk) zfQ=true:=by kernel_rfl
theorem zOh:spg70.ok (run primsN zA 1000 40 F.zk) zfR=true:=by kernel_rfl
theorem zOi:spg71.ok (run primsN zA 1000 40 F.zj) zaD=true:=by kernel_rfl
end Go.Proofs.YtpnhjkiligohnaaGreatDoor
