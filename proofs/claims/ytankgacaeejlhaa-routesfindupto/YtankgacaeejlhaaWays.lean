/- Ways in a net, and what costs that are told on and on come to. -/
import Derived.Test.YtankgacaeejlhaaVmS
namespace Go.Proofs.Ytankgacaeejlhaa
/-- a way of so many steps -/
inductive Way (lnk : Nat → Nat → Prop) : Nat → Nat → Nat → Prop where
  | nil (a : Nat) : Way lnk 0 a a
  | cons {j a b c : Nat} : lnk a b → Way lnk j b c → Way lnk (j + 1) a c
namespace Way
variable {lnk : Nat → Nat → Prop}
theorem snoc {j a b c : Nat} (h : Way lnk j a b) (hl : lnk b c) : Way lnk (j + 1) a c := by
  induction h with
  | nil a => exact .cons hl (.nil _)
  | cons h1 _ ih => exact .cons h1 (ih hl)
theorem unsnoc {j a c : Nat} (h : Way lnk (j + 1) a c) : ∃ b, Way lnk j a b ∧ lnk b c := by
  generalize hk : j + 1 = k at h
  induction h generalizing j with
  | nil a => cases hk
  | @cons j' a b c h1 h2 ih =>
    cases hk
    cases j' with
    | zero => cases h2; exact ⟨a, .nil _, h1⟩
    | succ j' =>
      obtain ⟨d, hd, hl⟩ := ih rfl
      exact ⟨d, .cons h1 hd, hl⟩
theorem zero {a b : Nat} (h : Way lnk 0 a b) : a = b := by cases h; rfl
end Way
/-- the least number of steps -/
def Least (lnk : Nat → Nat → Prop) (j a b : Nat) : Prop := Way lnk j a b ∧ ∀ i, Way lnk i a b → j ≤ i
theorem Least.uniq {lnk : Nat → Nat → Prop} {i j a b : Nat} (h : Least lnk i a b) (h' : Least lnk j a b) : i = j :=
  Nat.le_antisymm (h.2 _ h'.1) (h'.2 _ h.1)
/-- costs in rounds, up to round R: c r i d is what d costs i behind r rounds; nx r i d is the next hop -/
structure Told (R : Nat) (lnk : Nat → Nat → Prop) (c : Nat → Nat → Nat → Nat) (nx : Nat → Nat → Nat → Option Nat) : Prop where
  self : ∀ r i, r ≤ R → c r i i = 0
  pos : ∀ r i d, r ≤ R → i ≠ d → 0 < c r i d
  top : ∀ r i d, r ≤ R → c r i d ≤ 16
  by' : ∀ r i d, r < R → i ≠ d → c (r + 1) i d < 16 → ∃ k, lnk i k ∧ nx r k d ≠ some i ∧ c (r + 1) i d = c r k d + 1
  le : ∀ r i k d, r < R → i ≠ d → lnk i k → nx r k d ≠ some i → c (r + 1) i d ≤ c r k d + 1
  nxt : ∀ r k i d, r < R → nx (r + 1) k d = some i → k ≠ d ∧ lnk k i ∧ c (r + 1) k d < 16 ∧ c (r + 1) k d = c r i d + 1
namespace Told
variable {R : Nat} {lnk : Nat → Nat → Prop} {c : Nat → Nat → Nat → Nat} {nx : Nat → Nat → Nat → Option Nat}
theorem low (h : Told R lnk c nx) : ∀ r i d, r ≤ R → c r i d ≤ r → c r i d < 16 → Way lnk (c r i d) i d := by
  intro r
  induction r with
  | zero =>
    intro i d hR h0 _
    by_cases hi : i = d
    · subst hi; rw [h.self _ _ hR]; exact .nil _
    · have := h.pos 0 i d hR hi; omega
  | succ r ih =>
    intro i d hR hr ht
    by_cases hi : i = d
    · subst hi; rw [h.self _ _ hR]; exact .nil _
    · obtain ⟨k, hk, _, e⟩ := h.by' r i d (by omega) hi ht
      rw [e]
      exact .cons hk (ih k d (by omega) (by omega) (by omega))
theorem exact (h : Told R lnk c nx) : ∀ j r i d, r ≤ R → j + 8 ≤ r → j ≤ 8 → Least lnk j i d → c r i d = j := by
  intro j
  induction j with
  | zero =>
    intro r i d hR _ _ hl
    have := hl.1.zero; subst this; exact h.self r i hR
  | succ j ih =>
    intro r i d hR hr hj hl
    obtain ⟨hw, hmin⟩ := hl
    have hne : i ≠ d := fun e => by subst e; have := hmin 0 (.nil _); omega
    cases hw with
    | @cons _ _ k _ hlk hw' =>
      have hlk' : Least lnk j k d := ⟨hw', fun i' h' => by have := hmin _ (.cons hlk h'); omega⟩
      have hc : c (r - 1) k d = j := ih (r - 1) k d (by omega) (by omega) (by omega) hlk'
      have hup : c r i d ≤ j + 1 := by
        obtain ⟨r', rfl⟩ : ∃ r', r = r' + 1 := ⟨r - 1, by omega⟩
        rw [Nat.add_sub_cancel] at hc
        by_cases hn : nx r' k d = some i
        · exfalso
          obtain ⟨r2, rfl⟩ : ∃ r2, r' = r2 + 1 := ⟨r' - 1, by omega⟩
          obtain ⟨_, _, _, e⟩ := h.nxt r2 k i d (by omega) hn
          have := hmin _ (h.low r2 i d (by omega) (by omega) (by omega))
          omega
        · have := h.le r' i k d (by omega) hne hlk hn
          omega
      have := hmin _ (h.low r i d hR (by omega) (by omega))
      omega
theorem far (h : Told R lnk c nx) {r i d : Nat} (hR : r ≤ R) (hr : 16 ≤ r) (hw : ∀ j, ¬ Way lnk j i d) : c r i d = 16 := by
  have := h.top r i d hR
  by_cases hc : c r i d < 16
  · exact absurd (h.low r i d hR (by omega) hc) (hw _)
  · omega
end Told
end Go.Proofs.Ytankgacaeejlhaa
