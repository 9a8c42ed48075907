/- The library's sort of texts, as a contract over memory. -/
import Derived.Test.YtdjgmhifocdelaaVmQ
namespace Go.Vm
open Go.RowKit Go.Shelf Go.Sort Go.Proofs
section
variable {P : Program} {ρ : Ren}
def sortedT (l : List (List UInt8)) : List (List UInt8) := l.mergeSort fun x y => decide (x ≤ y)
theorem sortT_ok (Ly : Lays.n190 P ρ) (he : enters P (ρ.f 190) = true) {M : Mem} {E : TypeId} {a : Option Addr} {n c : Nat} {l : List (List UInt8)} (h : Wr M E 1 a n c (l.map encStr)) (hn : n < 4611686018427387904) :
    CallsM P (ρ.f 190) [.slice a n c] M fun v M' => v = .tuple #[] ∧ Wr M' E 1 a n c ((sortedT l).map encStr) ∧ Mem.keep (blk a) M M' := by
  refine ⟨he, fun F w hM hF hdj => ?_⟩
  have hll : l.length = n := h.maplen
  obtain ⟨h1, h2, ⟨rfl, rfl⟩ | ⟨b, cs, rfl, hh, hcl, ht⟩⟩ := h
  · have : n = 0 := by omega
    subst this
    have : l = [] := by simpa using hll
    subst this
    refine (Any.slices_Sort_string_none Ly none 0 w).mono ?_
    rintro e w' ⟨rfl, rfl⟩
    exact ⟨_, M, rfl, ⟨rfl, ⟨by simp [sortedT], Nat.le_refl _, .inl ⟨rfl, rfl⟩⟩, Mem.keep_refl _ _⟩, hM, hF, hdj, rfl, rfl, rfl, Nat.le_refl _, Nat.le_refl _⟩
  · have hb : b < w.heap.size := (Array.getElem?_eq_some_iff.1 (hM _ _ hh)).1
    have hH := holds_of hM hh encStr l (by rw [hll]; simpa using ht)
    have hs := Any.slices_Sort_string Ly b 0 c l w hH hb (by omega)
    rw [hll] at hs
    refine hs.mono ?_
    rintro e w' ⟨rfl, q, os, rfl⟩
    have hsl : (sortedT l).length = l.length := List.length_mergeSort l
    have ht' := turned hM hF hdj hh encStr (sortedT l).toArray (by simp [hsl]; omega) q os
    refine ⟨_, M.setCells b E ((sortedT l).toArray.toList.map encStr ++ cs.drop (sortedT l).toArray.size), rfl, ⟨rfl, ⟨by simp [hsl, hll], h2, .inr ⟨b, _, rfl, Mem.has_setCells, ?_, ?_⟩⟩, ?_⟩, ht'⟩
    · simp [hsl, hll, hcl]; omega
    · simp only [List.size_toArray, hsl, hll]
      rw [List.take_append_of_le_length (by simp [hsl]; omega), List.take_of_length_le (by simp [hsl]; omega)]
    · intro x o hx hxo
      have e : x ≠ b := fun e => hx ⟨_, rfl, e.symm⟩
      simp only [Mem.setCells, Mem.upd_ne _ _ e]; exact hxo
theorem sortedT_perm (l : List (List UInt8)) : (sortedT l).Perm l := List.mergeSort_perm l _
end
end Go.Vm
