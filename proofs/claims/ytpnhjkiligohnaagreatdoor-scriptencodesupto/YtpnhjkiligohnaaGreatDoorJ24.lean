/- Part of this proof;laid by program. -/
import Derived.Test.YtpnhjkiligohnaaGreatDoorJ22
import Derived.Test.YtpnhjkiligohnaaGreatDoorJ20
import Derived.Test.YtpnhjkiligohnaaGreatDoorJ21
set_option linter.unusedVariables false
set_option linter.unusedSimpArgs false
namespace Go.Proofs.YtpnhjkiligohnaaGreatDoor
open Go.Vm Go.Vm.Rn Go.Vm.Rn.Q
set_option maxRecDepth 100000
theorem zOQ:spg12.ok (run primsN zB 1000 40 F.zk) zaM=true:=by kernel_rfl
theorem zOR:spg13.ok (run primsN zB 1000 40 F.zl) zf6=true:=by kernel_rfl
theorem zOS:spg14.ok (run primsN zB 1000 40 F.zl) zf7=true:=by kernel_rfl
theorem zOT:spg15.ok (run primsN zB 1000 40 F.zk) zaM=true:=by kernel_rfl
theorem zOU:spg16.ok (run primsN zB 1000 40 F.zk) zaM=true:=by kernel_rfl
theorem zOV:spg17.ok (run primsN zB 1000 40 F.zl) zf6=true:=by kernel_rfl
theorem zOW:spg18.ok (run primsN zB 1000 40 F.zl) zf7=true:=by kernel_rfl
theorem zOX:spg19.ok (run primsN zB 1000 40 F.zk) zaM=true:=by kernel_rfl
theorem zOY:spg20.ok (run primsN zB 1000 40 F.zk) zaM=true:=by kernel_rfl
theorem zOZ:spg21.ok (run primsN zB 1000 40 F.zl) zf6=true:=by kernel_rfl
theorem zO0:spg22.ok (run primsN zB 1000 40 F.zl) zf7=true:=by kernel_rfl
theorem zO1:spg23.ok (run primsN zB 1000 40 F.zk) zaM=true:=by kernel_rfl
end Go.Proofs.YtpnhjkiligohnaaGreatDoor
