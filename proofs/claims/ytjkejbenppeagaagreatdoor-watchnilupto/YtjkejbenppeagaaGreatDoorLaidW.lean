/- The listed tables: what the row's list gives; a world that holds them. -/
import Derived.Test.YtjkejbenppeagaaGreatDoorCards
import Derived.Test.YtjkejbenppeagaaGreatDoorTie
import Derived.Test.YtjkejbenppeagaaGreatDoorBridge
import Derived.Test.YtjkejbenppeagaaGreatDoorVmZ
import Derived.Deep.DeepHandedRow
import Derived.SevenTiedAt
import Derived.Stop.LaidErr
import Derived.Lib.LaidTab
namespace Go.Proofs.YtjkejbenppeagaaGreatDoor
open Go Go.Vm
set_option maxRecDepth 100000
theorem gTab : Tryz.prog.globalNamed "internal/strconv.uint64pow10" = some 0 := by kernel_rfl
theorem gTabType : (Tryz.prog.globals[0]?).map (·.type) = some T.a20_uint64 := by kernel_rfl
theorem tab68 : Tryz.prog.underlying T.a20_uint64 = some (.array 20 T.uint64) := by kernel_rfl
theorem tabU64 : Tryz.prog.underlying T.uint64 = some (.int .u64) := by kernel_rfl
theorem tabC64 : Tryz.prog.cellsOf T.uint64 = 1 := by kernel_rfl
theorem tabC68 : Tryz.prog.cellsOf T.a20_uint64 = 20 := by kernel_rfl
theorem tabData_eq : (Rows.laid_internal_strconv_uint64pow10 : DataW Unit) = Lib.tabData .u64 Lib.pow10Tab := by kernel_rfl
theorem tabM_of {W : World} (h : laidMet Tryz.prog [("math/bits.deBruijn32tab", Rows.laid_math_bits_deBruijn32tab), ("math/bits.deBruijn64tab", Rows.laid_math_bits_deBruijn64tab), ("internal/strconv.uint64pow10", Rows.laid_internal_strconv_uint64pow10)] W) : TabM Tryz.prog (memOf W) := by
  have h2 := laidMet.tail (laidMet.tail h)
  rw [tabData_eq] at h2
  have h3 := Lib.tabIs_of_head (rest := []) gTab gTabType tab68 tabU64 tabC64 tabC68 h2
  intro w hw
  unfold Lib.TabIs World.var? at h3 ⊢
  rw [gTab] at h3 ⊢
  simp only [Option.bind_some] at h3 ⊢
  cases hg : W.heap[0]? with
  | none => rw [hg] at h3; cases h3
  | some o =>
    have : w.heap[0]? = some o := hw 0 o hg
    rw [this]
    rw [hg] at h3
    exact h3
def layTab (cs : Array Value) : Obj → Obj
  | .cells _ t frozen => .cells cs t frozen
  | o => o
/-- a world for the witness: the settled one, the three tables holding what their initialisers lay -/
noncomputable def laidWorld (os : Os) : World :=
  { World.holding Tryz.prog os ⟨#[], #[], []⟩ with heap := (((World.holding Tryz.prog os ⟨#[], #[], []⟩).heap.modify 0 (layTab (Lib.pow10Tab.map fun n => Value.int .u64 n).toArray)).modify 1 (layTab #[.int .u8 0, .int .u8 1, .int .u8 28, .int .u8 2, .int .u8 29, .int .u8 14, .int .u8 24, .int .u8 3, .int .u8 30, .int .u8 22, .int .u8 20, .int .u8 15, .int .u8 25, .int .u8 17, .int .u8 4, .int .u8 8, .int .u8 31, .int .u8 27, .int .u8 13, .int .u8 23, .int .u8 21, .int .u8 19, .int .u8 16, .int .u8 7, .int .u8 26, .int .u8 12, .int .u8 18, .int .u8 6, .int .u8 11, .int .u8 5, .int .u8 10, .int .u8 9])).modify 2 (layTab #[.int .u8 0, .int .u8 1, .int .u8 56, .int .u8 2, .int .u8 57, .int .u8 49, .int .u8 28, .int .u8 3, .int .u8 61, .int .u8 58, .int .u8 42, .int .u8 50, .int .u8 38, .int .u8 29, .int .u8 17, .int .u8 4, .int .u8 62, .int .u8 47, .int .u8 59, .int .u8 36, .int .u8 45, .int .u8 43, .int .u8 51, .int .u8 22, .int .u8 53, .int .u8 39, .int .u8 33, .int .u8 30, .int .u8 24, .int .u8 18, .int .u8 12, .int .u8 5, .int .u8 63, .int .u8 55, .int .u8 48, .int .u8 27, .int .u8 60, .int .u8 41, .int .u8 37, .int .u8 16, .int .u8 46, .int .u8 35, .int .u8 44, .int .u8 21, .int .u8 52, .int .u8 32, .int .u8 23, .int .u8 11, .int .u8 54, .int .u8 26, .int .u8 40, .int .u8 15, .int .u8 34, .int .u8 20, .int .u8 31, .int .u8 10, .int .u8 25, .int .u8 14, .int .u8 19, .int .u8 9, .int .u8 13, .int .u8 8, .int .u8 7, .int .u8 6]) }
end Go.Proofs.YtjkejbenppeagaaGreatDoor
