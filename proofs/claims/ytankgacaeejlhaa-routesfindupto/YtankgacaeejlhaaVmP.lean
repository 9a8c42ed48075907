/- New rows, side by side. -/
import Derived.Test.YtankgacaeejlhaaVmO
namespace Go.Vm
theorem NewSl.rebase2 {M M2 M5 : Mem} {E : TypeId} {s : Nat} {a : Option Addr} {n c : Nat} {L : List Value} (h : NewSl M E s a n c L M2) (hle : M2.le M5) {X : Nat → Prop} (hX : ∀ x, blk a x → X x) : NewSl (M5.minus X) E s a n c L M5 := by
  rw [newSl_iff] at h ⊢
  obtain ⟨_, h1, h2, h3⟩ := h
  exact ⟨Mem.minus_le _ _, h1, h2, h3.imp id fun ⟨b, cs, ha, _, hh, hr⟩ => ⟨b, cs, ha, Mem.minus_in (hX _ ⟨_, ha, rfl⟩), hle _ _ hh, hr⟩⟩
/-- blocks of two new rows of different kinds -/
theorem NewSl.ne {M M' : Mem} {E E' : TypeId} {s s' : Nat} {a a' : Option Addr} {n c n' c' : Nat} {L L' : List Value} (h : NewSl M E s a n c L M') (h' : NewSl M E' s' a' n' c' L' M') (hE : E ≠ E') {q q' : Addr} (hq : a = some q) (hq' : a' = some q') : q.block ≠ q'.block := fun e => by
  obtain ⟨_, cs, h1⟩ := h.block hq
  obtain ⟨_, cs', h2⟩ := h'.block hq'
  rw [e] at h1
  exact hE (h1.inj h2).1
end Go.Vm
