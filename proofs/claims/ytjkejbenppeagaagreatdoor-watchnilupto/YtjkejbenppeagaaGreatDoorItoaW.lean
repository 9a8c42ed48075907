/- Itoa at this program; numbers' texts. -/
import Derived.Test.YtjkejbenppeagaaGreatDoorCodeA
import Derived.Test.YtjkejbenppeagaaGreatDoorCodeB
import Derived.Test.YtjkejbenppeagaaGreatDoorVmS
import Derived.Test.YtjkejbenppeagaaGreatDoorVmL
import Derived.Test.YtjkejbenppeagaaGreatDoorVmX
import Derived.Test.YtjkejbenppeagaaGreatDoorVmZ
import Derived.Test.YtjkejbenppeagaaGreatDoorLayI
namespace Go.Proofs.YtjkejbenppeagaaGreatDoor
open Go Go.Vm
attribute [local irreducible] Brn Ob Grow CallsM inR LoopVC LoopVC0 Mem.row Mem.cells Mem.setCells Mem.upd Go.Vm.Own AppVC SrcVC StrVC NextVC New SrcOk subA NewSl Mem.textAt Mem.mapAt Mem.iterAt entryOf kfind Wr NewEls Elems
set_option maxRecDepth 10000
variable {M : Mem}
/-- a number's text -/
def dS (n : Int) : ByteArray := ⟨(Lib.itoa n).toArray⟩
theorem itoa_okW (hT : TabM Tryz.prog M) {n : Int} (h : -9223372036854775808 ≤ n ∧ n ≤ 9223372036854775807) : CallsM Tryz.prog F.strconv_Itoa [.int .i64 n] M fun v M' => v = .string (dS n) ∧ M = M' :=
  itoa_ok Tryz.laysM171 (by kernel_rfl) hT h.1 h.2
end Go.Proofs.YtjkejbenppeagaaGreatDoor
