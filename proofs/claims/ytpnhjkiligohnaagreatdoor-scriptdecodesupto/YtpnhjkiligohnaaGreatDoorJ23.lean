/- Part of this proof;laid by program. -/
import Derived.Test.YtpnhjkiligohnaaGreatDoorJ22
import Derived.Test.YtpnhjkiligohnaaGreatDoorJ20
import Derived.Test.YtpnhjkiligohnaaGreatDoorJ21
set_option linter.unusedVariables false
set_option linter.unusedSimpArgs false
namespace Go.Proofs.YtpnhjkiligohnaaGreatDoor
open Go.Vm Go.Vm.Rn Go.Vm.Rn.Q
set_option maxRecDepth 100000
theorem zIw:spg0.ok (run primsN zA 1000 40 F.zae) zNb=true:=by kernel_rfl
theorem zQo:spg1.ok (run primsN zA 1000 40 F.zk) zfQ=true:=by kernel_rfl
theorem zQp:spg2.ok (run primsN zA 1000 40 F.zk) zfR=true:=by kernel_rfl
theorem zQq:spg3.ok (run primsN zA 1000 40 F.zj) zaD=true:=by kernel_rfl
theorem zQr:spg4.ok (run primsN zA 1000 40 F.zj) zaD=true:=by kernel_rfl
theorem zQs:spg5.ok (run primsN zA 1000 40 F.zk) zfQ=true:=by kernel_rfl
theorem zQt:spg6.ok (run primsN zA 1000 40 F.zk) zfR=true:=by kernel_rfl
theorem zQu:spg7.ok (run primsN zA 1000 40 F.zj) zaD=true:=by kernel_rfl
theorem zQv:spg8.ok (run primsN zA 1000 40 F.zj) zaD=true:=by kernel_rfl
theorem zQw:spg9.ok (run primsN zA 1000 40 F.zk) zfQ=true:=by kernel_rfl
theorem zNj:spg10.ok (run primsN zA 1000 40 F.zk) zfR=true:=by kernel_rfl
theorem zNk:spg11.ok (run primsN zA 1000 40 F.zj) zaD=true:=by kernel_rfl
end Go.Proofs.YtpnhjkiligohnaaGreatDoor
