/- Part of this proof;laid by program. -/
import Derived.Test.YtpnhjkiligohnaaGreatDoorJ22
import Derived.Test.YtpnhjkiligohnaaGreatDoorJ20
import Derived.Test.YtpnhjkiligohnaaGreatDoorJ21
set_option linter.unusedVariables false
set_option linter.unusedSimpArgs false
namespace Go.Proofs.YtpnhjkiligohnaaGreatDoor
open Go.Vm Go.Vm.Rn Go.Vm.Rn.Q
set_option maxRecDepth 100000
theorem zOj:spg72.ok (run primsN zA 1000 40 F.zj) zaD=true:=by kernel_rfl
theorem zOk:spg73.ok (run primsN zA 1000 40 F.zk) zfQ=true:=by kernel_rfl
theorem zOl:spg74.ok (run primsN zA 1000 40 F.zk) zfR=true:=by kernel_rfl
theorem zOm:spg75.ok (run primsN zA 1000 40 F.zj) zaD=true:=by kernel_rfl
theorem zOn:spg76.ok (run primsN zA 1000 40 F.zj) zaD=true:=by kernel_rfl
theorem zOo:spg77.ok (run primsN zA 1000 40 F.zk) zfQ=true:=by kernel_rfl
theorem zOp:spg78.ok (run primsN zA 1000 40 F.zk) zfR=true:=by kernel_rfl
theorem zOq:spg79.ok (run primsN zA 1000 40 F.zj) zaD=true:=by kernel_rfl
theorem zOr:spg80.ok (run primsN zA 1000 40 F.zj) zaD=true:=by kernel_rfl
theorem zG8:spg82.ok (run primsN zA 1000 40 F.zcA) zaD=true:=by kernel_rfl
end Go.Proofs.YtpnhjkiligohnaaGreatDoor
