/- Part of this proof;laid by program. -/
import Derived.Test.YtpnhjkiligohnaaGreatDoorJ22
import Derived.Test.YtpnhjkiligohnaaGreatDoorJ20
import Derived.Test.YtpnhjkiligohnaaGreatDoorJ21
set_option linter.unusedVariables false
set_option linter.unusedSimpArgs false
namespace Go.Proofs.YtpnhjkiligohnaaGreatDoor
open Go.Vm Go.Vm.Rn Go.Vm.Rn.Q
set_option maxRecDepth 100000
theorem zNl:spg12.ok (run primsN zA 1000 40 F.zj) zaD=true:=by kernel_rfl
theorem zNm:spg13.ok (run primsN zA 1000 40 F.zk) zfQ=true:=by kernel_rfl
theorem zNn:spg14.ok (run primsN zA 1000 40 F.zk) zfR=true:=by kernel_rfl
theorem zNo:spg15.ok (run primsN zA 1000 40 F.zj) zaD=true:=by kernel_rfl
theorem zNp:spg16.ok (run primsN zA 1000 40 F.zj) zaD=true:=by kernel_rfl
theorem zNq:spg17.ok (run primsN zA 1000 40 F.zk) zfQ=true:=by kernel_rfl
theorem zNr:spg18.ok (run primsN zA 1000 40 F.zk) zfR=true:=by kernel_rfl
theorem zNs:spg19.ok (run primsN zA 1000 40 F.zj) zaD=true:=by kernel_rfl
theorem zNt:spg20.ok (run primsN zA 1000 40 F.zj) zaD=true:=by kernel_rfl
theorem zNu:spg21.ok (run primsN zA 1000 40 F.zk) zfQ=true:=by kernel_rfl
theorem zNv:spg22.ok (run primsN zA 1000 40 F.zk) zfR=true:=by kernel_rfl
theorem zNw:spg23.ok (run primsN zA 1000 40 F.zj) zaD=true:=by kernel_rfl
end Go.Proofs.YtpnhjkiligohnaaGreatDoor
