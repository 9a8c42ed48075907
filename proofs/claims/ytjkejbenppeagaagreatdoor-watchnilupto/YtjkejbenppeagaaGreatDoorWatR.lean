/- The document's Judge; written by gen_judge.py. -/
import Derived.Test.YtjkejbenppeagaaGreatDoorWatQ
namespace Go.Proofs.YtjkejbenppeagaaGreatDoor
open Go Go.Vm
attribute [local irreducible] Brn Ob Grow CallsM inR LoopVC LoopVC0 Mem.row Mem.cells Mem.setCells Mem.upd Go.Vm.Own AppVC SrcVC StrVC NextVC New SrcOk subA NewSl Mem.textAt Mem.mapAt Mem.iterAt entryOf kfind Wr NewEls Elems
set_option maxRecDepth 10000
variable {M M0 : Mem}
theorem NewEls.new0' {α : Type} {b : Nat} (hb : M b = none) (E : TypeId) (s : Nat) (R : List Value → α → Prop) : NewEls M E s (some ⟨b, 0, none⟩) 0 0 R [] (M.setCells b E []) := by
  unfold NewEls
  refine ⟨[], newSl_iff.2 ⟨Mem.le_setCells hb, by simp, Nat.le_refl _, .inr ⟨b, [], rfl, hb, Mem.has_setCells, by simp, by simp⟩⟩, rfl, rfl, by simp, by simp⟩
end Go.Proofs.YtjkejbenppeagaaGreatDoor
