/- Part of this proof;laid by program. -/
import Derived.Test.YtpnhjkiligohnaaGreatDoorJ22
import Derived.Test.YtpnhjkiligohnaaGreatDoorJ20
import Derived.Test.YtpnhjkiligohnaaGreatDoorJ21
set_option linter.unusedVariables false
set_option linter.unusedSimpArgs false
namespace Go.Proofs.YtpnhjkiligohnaaGreatDoor
open Go.Vm Go.Vm.Rn Go.Vm.Rn.Q
set_option maxRecDepth 100000
theorem zJD:spg0.ok (run primsN zB 1000 40 F.za1) zOz=true:=by kernel_rfl
theorem zRS:spg1.ok (run primsN zB 1000 40 F.zl) zf6=true:=by kernel_rfl
theorem zRT:spg2.ok (run primsN zB 1000 40 F.zl) zf7=true:=by kernel_rfl
theorem zRU:spg3.ok (run primsN zB 1000 40 F.zk) zaM=true:=by kernel_rfl
theorem zRV:spg4.ok (run primsN zB 1000 40 F.zk) zaM=true:=by kernel_rfl
theorem zRW:spg5.ok (run primsN zB 1000 40 F.zl) zf6=true:=by kernel_rfl
theorem zRX:spg6.ok (run primsN zB 1000 40 F.zl) zf7=true:=by kernel_rfl
theorem zRY:spg7.ok (run primsN zB 1000 40 F.zk) zaM=true:=by kernel_rfl
theorem zRZ:spg8.ok (run primsN zB 1000 40 F.zk) zaM=true:=by kernel_rfl
theorem zR0:spg9.ok (run primsN zB 1000 40 F.zl) zf6=true:=by kernel_rfl
theorem zOH:spg10.ok (run primsN zB 1000 40 F.zl) zf7=true:=by kernel_rfl
theorem zOI:spg11.ok (run primsN zB 1000 40 F.zk) zaM=true:=by kernel_rfl
end Go.Proofs.YtpnhjkiligohnaaGreatDoor
