/- Part of this proof;laid by program. -/
import Derived.Test.YtpnhjkiligohnaaGreatDoorJ22
import Derived.Test.YtpnhjkiligohnaaGreatDoorJ20
import Derived.Test.YtpnhjkiligohnaaGreatDoorJ21
set_option linter.unusedVariables false
set_option linter.unusedSimpArgs false
namespace Go.Proofs.YtpnhjkiligohnaaGreatDoor
open Go.Vm Go.Vm.Rn Go.Vm.Rn.Q
set_option maxRecDepth 100000
theorem zJc:spg60.ok (run primsN zu 1000 40 F.zf) zau=true:=by kernel_rfl
theorem zJd:spg61.ok (run primsN zu 1000 40 F.zg) zd2=true:=by kernel_rfl
theorem zJe:spg62.ok (run primsN zu 1000 40 F.zg) zd3=true:=by kernel_rfl
theorem zJf:spg63.ok (run primsN zu 1000 40 F.zf) zau=true:=by kernel_rfl
theorem zJg:spg64.ok (run primsN zu 1000 40 F.zf) zau=true:=by kernel_rfl
theorem zJh:spg65.ok (run primsN zu 1000 40 F.zg) zd2=true:=by kernel_rfl
theorem zJi:spg66.ok (run primsN zu 1000 40 F.zg) zd3=true:=by kernel_rfl
theorem zJj:spg67.ok (run primsN zu 1000 40 F.zf) zau=true:=by kernel_rfl
theorem zJk:spg68.ok (run primsN zu 1000 40 F.zf) zau=true:=by kernel_rfl
theorem zJl:spg69.ok (run primsN zu 1000 40 F.zg) zd2=true:=by kernel_rfl
theorem zJm:spg70.ok (run primsN zu 1000 40 F.zg) zd3=true:=by kernel_rfl
theorem zJn:spg71.ok (run primsN zu 1000 40 F.zf) zau=true:=by kernel_rfl
end Go.Proofs.YtpnhjkiligohnaaGreatDoor
