/- Part of this proof;laid by program. -/
import Derived.Test.YtpnhjkiligohnaaGreatDoorJ22
import Derived.Test.YtpnhjkiligohnaaGreatDoorJ20
import Derived.Test.YtpnhjkiligohnaaGreatDoorJ21
set_option linter.unusedVariables false
set_option linter.unusedSimpArgs false
namespace Go.Proofs.YtpnhjkiligohnaaGreatDoor
open Go.Vm Go.Vm.Rn Go.Vm.Rn.Q
set_option maxRecDepth 100000
theorem zO7:spg36.ok (run primsN zB 1000 40 F.zk) zaM=true:=by kernel_rfl
theorem zO8:spg37.ok (run primsN zB 1000 40 F.zl) zf6=true:=by kernel_rfl
theorem zO9:spg38.ok (run primsN zB 1000 40 F.zl) zf7=true:=by kernel_rfl
theorem zPa:spg39.ok (run primsN zB 1000 40 F.zk) zaM=true:=by kernel_rfl
theorem zPb:spg40.ok (run primsN zB 1000 40 F.zk) zaM=true:=by kernel_rfl
theorem zPc:spg41.ok (run primsN zB 1000 40 F.zl) zf6=true:=by kernel_rfl
theorem zPd:spg42.ok (run primsN zB 1000 40 F.zl) zf7=true:=by kernel_rfl
theorem zPe:spg43.ok (run primsN zB 1000 40 F.zk) zaM=true:=by kernel_rfl
theorem zPf:spg44.ok (run primsN zB 1000 40 F.zk) zaM=true:=by kernel_rfl
theorem zPg:spg45.ok (run primsN zB 1000 40 F.zl) zf6=true:=by kernel_rfl
theorem zPh:spg46.ok (run primsN zB 1000 40 F.zl) zf7=true:=by kernel_rfl
theorem zPi:spg47.ok (run primsN zB 1000 40 F.zk) zaM=true:=by kernel_rfl
end Go.Proofs.YtpnhjkiligohnaaGreatDoor
