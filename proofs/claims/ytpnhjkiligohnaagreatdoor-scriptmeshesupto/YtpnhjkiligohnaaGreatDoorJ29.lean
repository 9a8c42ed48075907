/- Part of this proof;laid by program. -/
import Derived.Test.YtpnhjkiligohnaaGreatDoorJ22
import Derived.Test.YtpnhjkiligohnaaGreatDoorJ20
import Derived.Test.YtpnhjkiligohnaaGreatDoorJ21
set_option linter.unusedVariables false
set_option linter.unusedSimpArgs false
namespace Go.Proofs.YtpnhjkiligohnaaGreatDoor
open Go.Vm Go.Vm.Rn Go.Vm.Rn.Q
set_option maxRecDepth 100000
theorem zJo:spg72.ok (run primsN zu 1000 40 F.zf) zau=true:=by kernel_rfl
theorem zJp:spg73.ok (run primsN zu 1000 40 F.zg) zd2=true:=by kernel_rfl
theorem zJq:spg74.ok (run primsN zu 1000 40 F.zg) zd3=true:=by kernel_rfl
theorem zJr:spg75.ok (run primsN zu 1000 40 F.zf) zau=true:=by kernel_rfl
theorem zJs:spg76.ok (run primsN zu 1000 40 F.zf) zau=true:=by kernel_rfl
theorem zJt:spg77.ok (run primsN zu 1000 40 F.zg) zd2=true:=by kernel_rfl
theorem zJu:spg78.ok (run primsN zu 1000 40 F.zg) zd3=true:=by kernel_rfl
theorem zJv:spg79.ok (run primsN zu 1000 40 F.zf) zau=true:=by kernel_rfl
theorem zJw:spg80.ok (run primsN zu 1000 40 F.zf) zau=true:=by kernel_rfl
theorem zBX:spg82.ok (run primsN zu 1000 40 F.zbu) zau=true:=by kernel_rfl
end Go.Proofs.YtpnhjkiligohnaaGreatDoor
