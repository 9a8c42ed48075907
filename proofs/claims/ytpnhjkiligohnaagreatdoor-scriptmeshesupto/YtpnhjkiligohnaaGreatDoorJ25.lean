/- Part of this proof;laid by program. -/
import Derived.Test.YtpnhjkiligohnaaGreatDoorJ22
import Derived.Test.YtpnhjkiligohnaaGreatDoorJ20
import Derived.Test.YtpnhjkiligohnaaGreatDoorJ21
set_option linter.unusedVariables false
set_option linter.unusedSimpArgs false
namespace Go.Proofs.YtpnhjkiligohnaaGreatDoor
open Go.Vm Go.Vm.Rn Go.Vm.Rn.Q
set_option maxRecDepth 100000
theorem zIC:spg24.ok (run primsN zu 1000 40 F.zf) zau=true:=by kernel_rfl
theorem zID:spg25.ok (run primsN zu 1000 40 F.zg) zd2=true:=by kernel_rfl
theorem zIE:spg26.ok (run primsN zu 1000 40 F.zg) zd3=true:=by kernel_rfl
theorem zIF:spg27.ok (run primsN zu 1000 40 F.zf) zau=true:=by kernel_rfl
theorem zIG:spg28.ok (run primsN zu 1000 40 F.zf) zau=true:=by kernel_rfl
theorem zIH:spg29.ok (run primsN zu 1000 40 F.zg) zd2=true:=by kernel_rfl
theorem zII:spg30.ok (run primsN zu 1000 40 F.zg) zd3=true:=by kernel_rfl
theorem zIJ:spg31.ok (run primsN zu 1000 40 F.zf) zau=true:=by kernel_rfl
theorem zIK:spg32.ok (run primsN zu 1000 40 F.zf) zau=true:=by kernel_rfl
theorem zIL:spg33.ok (run primsN zu 1000 40 F.zg) zd2=true:=by kernel_rfl
theorem zIM:spg34.ok (run primsN zu 1000 40 F.zg) zd3=true:=by kernel_rfl
theorem zIN:spg35.ok (run primsN zu 1000 40 F.zf) zau=true:=by kernel_rfl
end Go.Proofs.YtpnhjkiligohnaaGreatDoor
