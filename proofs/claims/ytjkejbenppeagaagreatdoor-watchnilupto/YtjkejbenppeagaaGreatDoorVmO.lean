/- A new row's cells are written. -/
import Derived.Test.YtjkejbenppeagaaGreatDoorVmN
namespace Go.Vm
theorem NewSl.store1 {α : Type} {f : α → Value} {M M2 : Mem} {E : TypeId} {a : Option Addr} {n c : Nat} {L : List α} (h : NewSl M E 1 a n c (L.map f) M2) {j : Nat} (hj : j < n) :
    ∃ b cs, a = some ⟨b, 0, Option.none⟩ ∧ M b = Option.none ∧ M2.cells b = some (E, cs) ∧ 0 + j * 1 + 1 ≤ cs.length ∧ ∀ v, NewSl M E 1 a n c ((L.set j v).map f) (M2.setCells b E (splice cs (0 + j * 1) [f v])) ∧ Mem.keep (blk a) M2 (M2.setCells b E (splice cs (0 + j * 1) [f v])) := by
  obtain ⟨b, cs, rfl, hcells, hlen, hst⟩ := h.wr.store1 hj
  have hb : M b = Option.none := (h.block rfl).1
  refine ⟨b, cs, rfl, hb, hcells, hlen, fun v => ⟨?_, (hst v).2⟩⟩
  obtain ⟨h1, h2, h3⟩ := (hst v).1
  refine newSl_iff.2 ⟨(hst v).2.le h.le (fun x hx => ?_), h1, h2, .inr ?_⟩
  · obtain ⟨q, hq, e⟩ := hx; cases hq; subst e; exact hb
  · rcases h3 with ⟨h4, _⟩ | ⟨b3, cs3, h4, h5, h6, h7⟩
    · cases h4
    · cases h4; exact ⟨b, cs3, rfl, hb, h5, h6, h7⟩
/-- all but the row itself stays -/
theorem NewSl.rebase {M M2 M5 : Mem} {E : TypeId} {s : Nat} {a : Option Addr} {n c : Nat} {L : List Value} (h : NewSl M E s a n c L M2) (hle : M2.le M5) : NewSl (M5.minus (blk a)) E s a n c L M5 := by
  rw [newSl_iff] at h ⊢
  obtain ⟨_, h1, h2, h3⟩ := h
  exact ⟨Mem.minus_le _ _, h1, h2, h3.imp id fun ⟨b, cs, ha, _, hh, hr⟩ => ⟨b, cs, ha, Mem.minus_in ⟨_, ha, rfl⟩, hle _ _ hh, hr⟩⟩
end Go.Vm
