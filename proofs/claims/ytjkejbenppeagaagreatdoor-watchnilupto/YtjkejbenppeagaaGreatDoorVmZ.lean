/- The library's strconv.Itoa, as a contract over memory: it reads one table of the library's. -/
import Derived.Test.YtjkejbenppeagaaGreatDoorVmH
import Derived.Shelf.Strconv.Itoa3
namespace Go.Vm
open Go.RowKit Go.Shelf Go.Sort Go.Proofs
section
variable {P : Program} {ρ : Ren}
/-- wherever this memory lies, the library's table of powers reads as its initialiser lays it -/
def TabM (P : Program) (M : Mem) : Prop := ∀ w : World, M.le (memOf w) → Lib.TabIs P w "internal/strconv.uint64pow10" .u64 Lib.pow10Tab
theorem TabM.le {M M' : Mem} (h : TabM P M) (hle : M.le M') : TabM P M' := fun w hw => h w (Mem.le_trans hle hw)
theorem itoa_ok (Ly : LaysM.n171 P ρ) (he : enters P (ρ.f 171) = true) {M : Mem} (hT : TabM P M) {n : Int} (h0 : -9223372036854775808 ≤ n) (h1 : n ≤ 9223372036854775807) :
    CallsM P (ρ.f 171) [.int .i64 n] M fun v M' => v = .string ⟨(Lib.itoa n).toArray⟩ ∧ M = M' := by
  refine ⟨he, fun F w hM hF hdj => ?_⟩
  refine (Any.strconv_Itoa Ly n h0 h1 w (hT w hM)).mono ?_
  rintro e w' ⟨rfl, k, os, rfl⟩
  have keep : (memOf w).le (memOf (grow (w.drewN k) os)) := fun x o hx => by
    have hlt : x < w.heap.size := (Array.getElem?_eq_some_iff.1 hx).1
    show (w.heap ++ os)[x]? = some o
    rw [Array.getElem?_append_left hlt]; exact hx
  refine ⟨_, M, rfl, ⟨rfl, rfl⟩, Mem.le_trans hM keep, Mem.le_trans hF keep, hdj, rfl, rfl, rfl, ?_, ?_⟩
  · show w.heap.size ≤ (w.heap ++ os).size
    simp
  · show w.drawn ≤ _
    simp [grow, World.drewN]
end
end Go.Vm
