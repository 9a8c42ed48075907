/- Part of this proof;laid by program. -/
import Derived.Test.YtpnhjkiligohnaaGreatDoorJ22
import Derived.Test.YtpnhjkiligohnaaGreatDoorJ20
import Derived.Test.YtpnhjkiligohnaaGreatDoorJ21
set_option linter.unusedVariables false
set_option linter.unusedSimpArgs false
namespace Go.Proofs.YtpnhjkiligohnaaGreatDoor
open Go.Vm Go.Vm.Rn Go.Vm.Rn.Q
set_option maxRecDepth 100000
theorem zOJ:spg12.ok (run primsN zB 1000 40 F.zk) zaM=true:=by kernel_rfl
theorem zOK:spg13.ok (run primsN zB 1000 40 F.zl) zf6=true:=by kernel_rfl
theorem zOL:spg14.ok (run primsN zB 1000 40 F.zl) zf7=true:=by kernel_rfl
theorem zOM:spg15.ok (run primsN zB 1000 40 F.zk) zaM=true:=by kernel_rfl
theorem zON:spg16.ok (run primsN zB 1000 40 F.zk) zaM=true:=by kernel_rfl
theorem zOO:spg17.ok (run primsN zB 1000 40 F.zl) zf6=true:=by kernel_rfl
theorem zOP:spg18.ok (run primsN zB 1000 40 F.zl) zf7=true:=by kernel_rfl
theorem zOQ:spg19.ok (run primsN zB 1000 40 F.zk) zaM=true:=by kernel_rfl
theorem zOR:spg20.ok (run primsN zB 1000 40 F.zk) zaM=true:=by kernel_rfl
theorem zOS:spg21.ok (run primsN zB 1000 40 F.zl) zf6=true:=by kernel_rfl
theorem zOT:spg22.ok (run primsN zB 1000 40 F.zl) zf7=true:=by kernel_rfl
theorem zOU:spg23.ok (run primsN zB 1000 40 F.zk) zaM=true:=by kernel_rfl
end Go.Proofs.YtpnhjkiligohnaaGreatDoor
