/- Part of this proof;laid by program. -/
import Derived.Test.YtpnhjkiligohnaaGreatDoorJ22
import Derived.Test.YtpnhjkiligohnaaGreatDoorJ20
import Derived.Test.YtpnhjkiligohnaaGreatDoorJ21
set_option linter.unusedVariables false
set_option linter.unusedSimpArgs false
namespace Go.Proofs.YtpnhjkiligohnaaGreatDoor
open Go.Vm Go.Vm.Rn Go.Vm.Rn.Q
set_option maxRecDepth 100000
theorem zNJ:spg36.ok (run primsN zA 1000 40 F.zj) zaD=true:=by kernel_rfl
theorem zNK:spg37.ok (run primsN zA 1000 40 F.zk) zfQ=true:=by kernel_rfl
theorem zNL:spg38.ok (run primsN zA 1000 40 F.zk) zfR=true:=by kernel_rfl
theorem zNM:spg39.ok (run primsN zA 1000 40 F.zj) zaD=true:=by kernel_rfl
theorem zNN:spg40.ok (run primsN zA 1000 40 F.zj) zaD=true:=by kernel_rfl
theorem zNO:spg41.ok (run primsN zA 1000 40 F.zk) zfQ=true:=by kernel_rfl
theorem zNP:spg42.ok (run primsN zA 1000 40 F.zk) zfR=true:=by kernel_rfl
theorem zNQ:spg43.ok (run primsN zA 1000 40 F.zj) zaD=true:=by kernel_rfl
theorem zNR:spg44.ok (run primsN zA 1000 40 F.zj) zaD=true:=by kernel_rfl
theorem zNS:spg45.ok (run primsN zA 1000 40 F.zk) zfQ=true:=by kernel_rfl
theorem zNT:spg46.ok (run primsN zA 1000 40 F.zk) zfR=true:=by kernel_rfl
theorem zNU:spg47.ok (run primsN zA 1000 40 F.zj) zaD=true:=by kernel_rfl
end Go.Proofs.YtpnhjkiligohnaaGreatDoor
