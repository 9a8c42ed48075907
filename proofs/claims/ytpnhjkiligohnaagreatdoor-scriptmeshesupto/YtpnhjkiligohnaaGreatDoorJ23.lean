/- Part of this proof;laid by program. -/
import Derived.Test.YtpnhjkiligohnaaGreatDoorJ22
import Derived.Test.YtpnhjkiligohnaaGreatDoorJ20
import Derived.Test.YtpnhjkiligohnaaGreatDoorJ21
set_option linter.unusedVariables false
set_option linter.unusedSimpArgs false
namespace Go.Proofs.YtpnhjkiligohnaaGreatDoor
open Go.Vm Go.Vm.Rn Go.Vm.Rn.Q
set_option maxRecDepth 100000
theorem zDo:spg0.ok (run primsN zu 1000 40 F.zbH) zIg=true:=by kernel_rfl
theorem zLJ:spg1.ok (run primsN zu 1000 40 F.zg) zd2=true:=by kernel_rfl
theorem zLK:spg2.ok (run primsN zu 1000 40 F.zg) zd3=true:=by kernel_rfl
theorem zLL:spg3.ok (run primsN zu 1000 40 F.zf) zau=true:=by kernel_rfl
theorem zLM:spg4.ok (run primsN zu 1000 40 F.zf) zau=true:=by kernel_rfl
theorem zLN:spg5.ok (run primsN zu 1000 40 F.zg) zd2=true:=by kernel_rfl
theorem zLO:spg6.ok (run primsN zu 1000 40 F.zg) zd3=true:=by kernel_rfl
theorem zLP:spg7.ok (run primsN zu 1000 40 F.zf) zau=true:=by kernel_rfl
theorem zLQ:spg8.ok (run primsN zu 1000 40 F.zf) zau=true:=by kernel_rfl
theorem zLR:spg9.ok (run primsN zu 1000 40 F.zg) zd2=true:=by kernel_rfl
theorem zIo:spg10.ok (run primsN zu 1000 40 F.zg) zd3=true:=by kernel_rfl
theorem zIp:spg11.ok (run primsN zu 1000 40 F.zf) zau=true:=by kernel_rfl
end Go.Proofs.YtpnhjkiligohnaaGreatDoor
