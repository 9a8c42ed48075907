/- Part of this proof;laid by program. -/
import Derived.Test.YtpnhjkiligohnaaGreatDoorJ22
import Derived.Test.YtpnhjkiligohnaaGreatDoorJ20
import Derived.Test.YtpnhjkiligohnaaGreatDoorJ21
set_option linter.unusedVariables false
set_option linter.unusedSimpArgs false
namespace Go.Proofs.YtpnhjkiligohnaaGreatDoor
open Go.Vm Go.Vm.Rn Go.Vm.Rn.Q
set_option maxRecDepth 100000
theorem zIq:spg12.ok (run primsN zu 1000 40 F.zf) zau=true:=by kernel_rfl
theorem zIr:spg13.ok (run primsN zu 1000 40 F.zg) zd2=true:=by kernel_rfl
theorem zIs:spg14.ok (run primsN zu 1000 40 F.zg) zd3=true:=by kernel_rfl
theorem zIt:spg15.ok (run primsN zu 1000 40 F.zf) zau=true:=by kernel_rfl
theorem zIu:spg16.ok (run primsN zu 1000 40 F.zf) zau=true:=by kernel_rfl
theorem zIv:spg17.ok (run primsN zu 1000 40 F.zg) zd2=true:=by kernel_rfl
theorem zIw:spg18.ok (run primsN zu 1000 40 F.zg) zd3=true:=by kernel_rfl
theorem zIx:spg19.ok (run primsN zu 1000 40 F.zf) zau=true:=by kernel_rfl
theorem zIy:spg20.ok (run primsN zu 1000 40 F.zf) zau=true:=by kernel_rfl
theorem zIz:spg21.ok (run primsN zu 1000 40 F.zg) zd2=true:=by kernel_rfl
theorem zIA:spg22.ok (run primsN zu 1000 40 F.zg) zd3=true:=by kernel_rfl
theorem zIB:spg23.ok (run primsN zu 1000 40 F.zf) zau=true:=by kernel_rfl
end Go.Proofs.YtpnhjkiligohnaaGreatDoor
