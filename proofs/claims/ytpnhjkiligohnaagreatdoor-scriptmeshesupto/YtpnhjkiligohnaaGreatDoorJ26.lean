/- Part of this proof;laid by program. -/
import Derived.Test.YtpnhjkiligohnaaGreatDoorJ22
import Derived.Test.YtpnhjkiligohnaaGreatDoorJ20
import Derived.Test.YtpnhjkiligohnaaGreatDoorJ21
set_option linter.unusedVariables false
set_option linter.unusedSimpArgs false
namespace Go.Proofs.YtpnhjkiligohnaaGreatDoor
open Go.Vm Go.Vm.Rn Go.Vm.Rn.Q
set_option maxRecDepth 100000
theorem zIO:spg36.ok (run primsN zu 1000 40 F.zf) zau=true:=by kernel_rfl
theorem zIP:spg37.ok (run primsN zu 1000 40 F.zg) zd2=true:=by kernel_rfl
theorem zIQ:spg38.ok (run primsN zu 1000 40 F.zg) zd3=true:=by kernel_rfl
theorem zIR:spg39.ok (run primsN zu 1000 40 F.zf) zau=true:=by kernel_rfl
theorem zIS:spg40.ok (run primsN zu 1000 40 F.zf) zau=true:=by kernel_rfl
theorem zIT:spg41.ok (run primsN zu 1000 40 F.zg) zd2=true:=by kernel_rfl
theorem zIU:spg42.ok (run primsN zu 1000 40 F.zg) zd3=true:=by kernel_rfl
theorem zIV:spg43.ok (run primsN zu 1000 40 F.zf) zau=true:=by kernel_rfl
theorem zIW:spg44.ok (run primsN zu 1000 40 F.zf) zau=true:=by kernel_rfl
theorem zIX:spg45.ok (run primsN zu 1000 40 F.zg) zd2=true:=by kernel_rfl
theorem zIY:spg46.ok (run primsN zu 1000 40 F.zg) zd3=true:=by kernel_rfl
theorem zIZ:spg47.ok (run primsN zu 1000 40 F.zf) zau=true:=by kernel_rfl
end Go.Proofs.YtpnhjkiligohnaaGreatDoor
