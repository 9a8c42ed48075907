/- Part of this proof;laid by program. -/
import Derived.Test.YtpnhjkiligohnaaGreatDoorJ22
import Derived.Test.YtpnhjkiligohnaaGreatDoorJ20
import Derived.Test.YtpnhjkiligohnaaGreatDoorJ21
set_option linter.unusedVariables false
set_option linter.unusedSimpArgs false
namespace Go.Proofs.YtpnhjkiligohnaaGreatDoor
open Go.Vm Go.Vm.Rn Go.Vm.Rn.Q
set_option maxRecDepth 100000
theorem zJI:spg0.ok (run primsN zB 1000 40 F.za1) zOG=true:=by kernel_rfl
theorem zR0:spg1.ok (run primsN zB 1000 40 F.zl) zf6=true:=by kernel_rfl
theorem zR1:spg2.ok (run primsN zB 1000 40 F.zl) zf7=true:=by kernel_rfl
theorem zR2:spg3.ok (run primsN zB 1000 40 F.zk) zaM=true:=by kernel_rfl
theorem zR3:spg4.ok (run primsN zB 1000 40 F.zk) zaM=true:=by kernel_rfl
theorem zR4:spg5.ok (run primsN zB 1000 40 F.zl) zf6=true:=by kernel_rfl
theorem zR5:spg6.ok (run primsN zB 1000 40 F.zl) zf7=true:=by kernel_rfl
theorem zR6:spg7.ok (run primsN zB 1000 40 F.zk) zaM=true:=by kernel_rfl
theorem zR7:spg8.ok (run primsN zB 1000 40 F.zk) zaM=true:=by kernel_rfl
theorem zR8:spg9.ok (run primsN zB 1000 40 F.zl) zf6=true:=by kernel_rfl
theorem zOO:spg10.ok (run primsN zB 1000 40 F.zl) zf7=true:=by kernel_rfl
theorem zOP:spg11.ok (run primsN zB 1000 40 F.zk) zaM=true:=by kernel_rfl
end Go.Proofs.YtpnhjkiligohnaaGreatDoor
