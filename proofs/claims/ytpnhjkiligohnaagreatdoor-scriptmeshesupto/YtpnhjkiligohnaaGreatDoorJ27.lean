/- Part of this proof;laid by program. -/
import Derived.Test.YtpnhjkiligohnaaGreatDoorJ22
import Derived.Test.YtpnhjkiligohnaaGreatDoorJ20
import Derived.Test.YtpnhjkiligohnaaGreatDoorJ21
set_option linter.unusedVariables false
set_option linter.unusedSimpArgs false
namespace Go.Proofs.YtpnhjkiligohnaaGreatDoor
open Go.Vm Go.Vm.Rn Go.Vm.Rn.Q
set_option maxRecDepth 100000
theorem zI0:spg48.ok (run primsN zu 1000 40 F.zf) zau=true:=by kernel_rfl
theorem zI1:spg49.ok (run primsN zu 1000 40 F.zg) zd2=true:=by kernel_rfl
theorem zI2:spg50.ok (run primsN zu 1000 40 F.zg) zd3=true:=by kernel_rfl
theorem zI3:spg51.ok (run primsN zu 1000 40 F.zf) zau=true:=by kernel_rfl
theorem zI4:spg52.ok (run primsN zu 1000 40 F.zf) zau=true:=by kernel_rfl
theorem zI5:spg53.ok (run primsN zu 1000 40 F.zg) zd2=true:=by kernel_rfl
theorem zI6:spg54.ok (run primsN zu 1000 40 F.zg) zd3=true:=by kernel_rfl
theorem zI7:spg55.ok (run primsN zu 1000 40 F.zf) zau=true:=by kernel_rfl
theorem zI8:spg56.ok (run primsN zu 1000 40 F.zf) zau=true:=by kernel_rfl
theorem zI9:spg57.ok (run primsN zu 1000 40 F.zg) zd2=true:=by kernel_rfl
theorem zJa:spg58.ok (run primsN zu 1000 40 F.zg) zd3=true:=by kernel_rfl
theorem zJb:spg59.ok (run primsN zu 1000 40 F.zf) zau=true:=by kernel_rfl
end Go.Proofs.YtpnhjkiligohnaaGreatDoor
