/- Part of this proof;laid by program. -/
import Derived.Test.YtpnhjkiligohnaaGreatDoorJ22
import Derived.Test.YtpnhjkiligohnaaGreatDoorJ20
import Derived.Test.YtpnhjkiligohnaaGreatDoorJ21
set_option linter.unusedVariables false
set_option linter.unusedSimpArgs false
namespace Go.Proofs.YtpnhjkiligohnaaGreatDoor
open Go.Vm Go.Vm.Rn Go.Vm.Rn.Q
set_option maxRecDepth 100000
theorem zPH:spg72.ok (run primsN zB 1000 40 F.zk) zaM=true:=by kernel_rfl
theorem zPI:spg73.ok (run primsN zB 1000 40 F.zl) zf6=true:=by kernel_rfl
theorem zPJ:spg74.ok (run primsN zB 1000 40 F.zl) zf7=true:=by kernel_rfl
theorem zPK:spg75.ok (run primsN zB 1000 40 F.zk) zaM=true:=by kernel_rfl
theorem zPL:spg76.ok (run primsN zB 1000 40 F.zk) zaM=true:=by kernel_rfl
theorem zPM:spg77.ok (run primsN zB 1000 40 F.zl) zf6=true:=by kernel_rfl
theorem zPN:spg78.ok (run primsN zB 1000 40 F.zl) zf7=true:=by kernel_rfl
theorem zPO:spg79.ok (run primsN zB 1000 40 F.zk) zaM=true:=by kernel_rfl
theorem zPP:spg80.ok (run primsN zB 1000 40 F.zk) zaM=true:=by kernel_rfl
theorem zH6:spg82.ok (run primsN zB 1000 40 F.zcO) zaM=true:=by kernel_rfl
end Go.Proofs.YtpnhjkiligohnaaGreatDoor
