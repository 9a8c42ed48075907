/- The library's sort of numbers, as a contract over memory. -/
import Derived.Test.YthlleljdahkgpaaVmP
import Derived.Shelf.Sort.Plain
import Derived.Shelf.Slices.In.SortNone
namespace Go.Vm
open Go.RowKit Go.Shelf Go.Sort Go.Proofs
theorem putCells_eq {α : Type} [Inhabited α] (enc : α → Value) (d : Array α) (cs : List Value) (h : d.size ≤ cs.length) : putCells enc 0 d cs.toArray = (d.toList.map enc ++ cs.drop d.size).toArray := by
  apply Array.ext_getElem?
  intro k
  simp only [putCells, Array.getElem?_mapIdx, List.getElem?_toArray]
  by_cases hk : k < d.size
  · have hc : k < cs.length := by omega
    rw [List.getElem?_append_left (by simpa using hk), List.getElem?_map]
    have e1 : cs[k]? = some cs[k] := List.getElem?_eq_getElem hc
    have e2 : d.toList[k]? = some d[k] := by simp [hk]
    rw [e1, e2]
    simp [hk]
  · rw [List.getElem?_append_right (by simpa using hk), List.getElem?_drop]
    simp only [List.length_map, Array.length_toList]
    rw [show d.size + (k - d.size) = k by omega]
    cases cs[k]? with
    | none => rfl
    | some v => simp only [Option.map_some]; rw [if_neg (by omega)]
/-- a row of cells turned, the tape drawn on, new blocks laid: in memory -/
theorem turned {α : Type} [Inhabited α] {M F : Mem} {w : World} (hM : M.le (memOf w)) (hF : F.le (memOf w)) (hdj : M.disj F) {b : Nat} {E : TypeId} {cs : List Value} (hh : M.has b E cs) (enc : α → Value) (d : Array α) (hd : d.size ≤ cs.length) (n : Nat) (os : Array Obj) :
    (M.setCells b E (d.toList.map enc ++ cs.drop d.size)).le (memOf (grow (putRow enc (Sort.ahead w n) b 0 d) os)) ∧ F.le (memOf (grow (putRow enc (Sort.ahead w n) b 0 d) os)) ∧ (M.setCells b E (d.toList.map enc ++ cs.drop d.size)).disj F ∧
    (grow (putRow enc (Sort.ahead w n) b 0 d) os).os = w.os ∧ (grow (putRow enc (Sort.ahead w n) b 0 d) os).output = w.output ∧ (grow (putRow enc (Sort.ahead w n) b 0 d) os).tape = w.tape ∧
    w.heap.size ≤ (grow (putRow enc (Sort.ahead w n) b 0 d) os).heap.size ∧ w.drawn ≤ (grow (putRow enc (Sort.ahead w n) b 0 d) os).drawn := by
  have hhb : w.heap[b]? = some (.cells cs.toArray E (0, 0)) := hM _ _ hh
  have hb : b < w.heap.size := (Array.getElem?_eq_some_iff.1 hhb).1
  have hFb : F b = none := (hdj b).resolve_left (by unfold Mem.has at hh; rw [hh]; simp)
  have other : ∀ x o, x ≠ b → w.heap[x]? = some o → memOf (grow (putRow enc (Sort.ahead w n) b 0 d) os) x = some o := fun x o hx hxo => by
    have hlt : x < w.heap.size := (Array.getElem?_eq_some_iff.1 hxo).1
    show (w.heap.modify b (onCells (putCells enc 0 d)) ++ os)[x]? = some o
    rw [Array.getElem?_append_left (by simpa using hlt), Array.getElem?_modify, if_neg (Ne.symm hx)]
    exact hxo
  refine ⟨fun x o hx => ?_, fun x o hx => ?_, fun x => ?_, rfl, rfl, rfl, by simp [grow, putRow, mapBlock], by simp [grow, putRow, mapBlock]⟩
  · by_cases e : x = b
    · subst e
      simp only [Mem.setCells, Mem.upd_same, Option.some.injEq] at hx
      subst hx
      show (w.heap.modify x (onCells (putCells enc 0 d)) ++ os)[x]? = _
      rw [Array.getElem?_append_left (by simpa using hb), Array.getElem?_modify, if_pos rfl, hhb]
      simp only [Option.map_some, onCells, putCells_eq enc d cs hd]
    · simp only [Mem.setCells, Mem.upd_ne _ _ e] at hx
      exact other x o e (hM x o hx)
  · have e : x ≠ b := fun e => by subst e; rw [hFb] at hx; cases hx
    exact other x o e (hF x o hx)
  · by_cases e : x = b
    · subst e; exact .inr hFb
    · simp only [Mem.setCells, Mem.upd_ne _ _ e]; exact hdj x
theorem holds_of {α : Type} [Inhabited α] {M : Mem} {w : World} (hM : M.le (memOf w)) {b : Nat} {E : TypeId} {cs : List Value} (hh : M.has b E cs) (enc : α → Value) (l : List α) (h : cs.take l.length = l.map enc) : Holds enc w b 0 l.toArray := by
  have hhb : w.heap[b]? = some (.cells cs.toArray E (0, 0)) := hM _ _ hh
  intro j hj
  have hj : j < l.length := by simpa using hj
  constructor
  · simp only [World.cell?, hhb, Nat.zero_add]
    have : (cs.take l.length)[j]? = (l.map enc)[j]? := by rw [h]
    rw [List.getElem?_take_of_lt hj, List.getElem?_map, List.getElem?_eq_getElem hj] at this
    simp [this, hj]
  · simp [World.frozen?, hhb]
section
variable {P : Program} {ρ : Ren}
def sortedI (l : List Int) : List Int := l.mergeSort fun x y => decide (x ≤ y)
theorem sortI_ok (Ly : Lays.n189 P ρ) (he : enters P (ρ.f 189) = true) {M : Mem} {E : TypeId} {a : Option Addr} {n c : Nat} {l : List Int} (h : Wr M E 1 a n c (l.map (Value.int .i64))) (hn : n < 4611686018427387904) :
    CallsM P (ρ.f 189) [.slice a n c] M fun v M' => v = .tuple #[] ∧ Wr M' E 1 a n c ((sortedI l).map (Value.int .i64)) ∧ Mem.keep (blk a) M M' := by
  refine ⟨he, fun F w hM hF hdj => ?_⟩
  have hll : l.length = n := h.maplen
  obtain ⟨h1, h2, ⟨rfl, rfl⟩ | ⟨b, cs, rfl, hh, hcl, ht⟩⟩ := h
  · have : n = 0 := by omega
    subst this
    have : l = [] := by simpa using hll
    subst this
    refine (Any.slices_Sort_int_none Ly none 0 w).mono ?_
    rintro e w' ⟨rfl, rfl⟩
    exact ⟨_, M, rfl, ⟨rfl, ⟨by simp [sortedI], Nat.le_refl _, .inl ⟨rfl, rfl⟩⟩, Mem.keep_refl _ _⟩, hM, hF, hdj, rfl, rfl, rfl, Nat.le_refl _, Nat.le_refl _⟩
  · have hb : b < w.heap.size := (Array.getElem?_eq_some_iff.1 (hM _ _ hh)).1
    have hH := holds_of hM hh (Value.int .i64) l (by rw [hll]; simpa using ht)
    have hs := Any.slices_Sort_int Ly b 0 c l w hH hb (by omega)
    rw [hll] at hs
    refine hs.mono ?_
    rintro e w' ⟨rfl, q, os, rfl⟩
    have hsl : (sortedI l).length = l.length := List.length_mergeSort l
    have ht' := turned hM hF hdj hh (Value.int .i64) (sortedI l).toArray (by simp [hsl]; omega) q os
    refine ⟨_, M.setCells b E ((sortedI l).toArray.toList.map (Value.int .i64) ++ cs.drop (sortedI l).toArray.size), rfl, ⟨rfl, ⟨by simp [hsl, hll], h2, .inr ⟨b, _, rfl, Mem.has_setCells, ?_, ?_⟩⟩, ?_⟩, ht'⟩
    · simp [hsl, hll, hcl]; omega
    · simp only [List.size_toArray, hsl, hll]
      rw [List.take_append_of_le_length (by simp [hsl]; omega), List.take_of_length_le (by simp [hsl]; omega)]
    · intro x o hx hxo
      have e : x ≠ b := fun e => hx ⟨_, rfl, e.symm⟩
      simp only [Mem.setCells, Mem.upd_ne _ _ e]; exact hxo
theorem sortedI_perm (l : List Int) : (sortedI l).Perm l := List.mergeSort_perm l _
theorem sortedI_sorted (l : List Int) : (sortedI l).Pairwise (· ≤ ·) := by
  have := List.pairwise_mergeSort (le := fun (x y : Int) => decide (x ≤ y)) (fun a b c h1 h2 => by simp at *; omega) (fun a b => by simp; omega) l
  exact this.imp fun h => by simpa using h
end
end Go.Vm
