/- Part of this proof;laid by program. -/
import Derived.Test.YtpnhjkiligohnaaGreatDoorJ22
import Derived.Test.YtpnhjkiligohnaaGreatDoorJ20
import Derived.Test.YtpnhjkiligohnaaGreatDoorJ21
set_option linter.unusedVariables false
set_option linter.unusedSimpArgs false
namespace Go.Proofs.YtpnhjkiligohnaaGreatDoor
open Go.Vm Go.Vm.Rn Go.Vm.Rn.Q
set_option maxRecDepth 100000
theorem zPC:spg60.ok (run primsN zB 1000 40 F.zk) zaM=true:=by kernel_rfl
theorem zPD:spg61.ok (run primsN zB 1000 40 F.zl) zf6=true:=by kernel_rfl
theorem zPE:spg62.ok (run primsN zB 1000 40 F.zl) zf7=true:=by kernel_rfl
theorem zPF:spg63.ok (run primsN zB 1000 40 F.zk) zaM=true:=by kernel_rfl
theorem zPG:spg64.ok (run primsN zB 1000 40 F.zk) zaM=true:=by kernel_rfl
theorem zPH:spg65.ok (run primsN zB 1000 40 F.zl) zf6=true:=by kernel_rfl
theorem zPI:spg66.ok (run primsN zB 1000 40 F.zl) zf7=true:=by kernel_rfl
theorem zPJ:spg67.ok (run primsN zB 1000 40 F.zk) zaM=true:=by kernel_rfl
theorem zPK:spg68.ok (run primsN zB 1000 40 F.zk) zaM=true:=by kernel_rfl
theorem zPL:spg69.ok (run primsN zB 1000 40 F.zl) zf6=true:=by kernel_rfl
theorem zPM:spg70.ok (run primsN zB 1000 40 F.zl) zf7=true:=by kernel_rfl
theorem zPN:spg71.ok (run primsN zB 1000 40 F.zk) zaM=true:=by kernel_rfl
end Go.Proofs.YtpnhjkiligohnaaGreatDoor
