/- A new row's cells are written. -/
import Derived.Test.YtankgacaeejlhaaVmN
namespace Go.Vm
theorem NewSl.store1 {α : Type} {f : α → Value} {M M2 : Mem} {E : TypeId} {a : Option Addr} {n c : Nat} {L : List α} (h : NewSl M E 1 a n c (L.map f) M2) {j : Nat} (hj : j < n) :
    ∃ b cs, a = some ⟨b, 0, Option.none⟩ ∧ M b = Option.none ∧ M2.cells b = some (E, cs) ∧ 0 + j * 1 + 1 ≤ cs.length ∧ ∀ v, NewSl M E 1 a n c ((L.set j v).map f) (M2.setCells b E (splice cs (0 + j * 1) [f v])) ∧ Mem.keep (blk a) M2 (M2.setCells b E (splice cs (0 + j * 1) [f v])) := by
  obtain ⟨b, cs, rfl, hcells, hlen, hst⟩ := h.wr.store1 hj
  have hb : M b = Option.none := (h.block rfl).1
  refine ⟨b, cs, rfl, hb, hcells, hlen, fun v => ⟨?_, (hst v).2⟩⟩
  obtain ⟨h1, h2, h3⟩ := (hst v).1
  refine newSl_iff.2 ⟨(hst v).2.le h.le (fun x hx => ?_), h1, h2, .inr ?_⟩
  · obtain ⟨q, hq, e⟩ := hx; cases hq; subst e; exact hb
  · rcases h3 with ⟨h4, _⟩ | ⟨b3, cs3, h4, h5, h6, h7⟩
    · cases h4
    · cases h4; exact ⟨b, cs3, rfl, hb, h5, h6, h7⟩
end Go.Vm
