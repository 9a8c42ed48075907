/- The shelf's layings at this program; made by program. -/
import Derived.Shelf.SlSortCmp.NoneTotal
import Derived.Shelf.Spec.SlicesInsertGrow
import Derived.Shelf.Slices.SearchI
import Derived.Test.YtlocjjponfbhmaaProg
import Derived.Test.YtlocjjponfbhmaaJoin13
import Derived.Shelf.Sort.Plain
import Derived.Shelf.Slices.In.SortNone
namespace Go.Proofs.Ytlocjjponfbhmaa
open Go Go.Proofs Go.Shelf
def Try.laysF_ren : Go.Shelf.Ren := ⟨fun | 6 => 86 | 15 => 91 | 14 => 103 | 28 => 113 | 29 => 114 | 20 => 120 | 21 => 121 | 22 => 122 | 23 => 123 | 24 => 124 | 25 => 125 | 26 => 126 | 27 => 127 | 46 => 135 | 47 => 129 | 48 => 130 | 49 => 136 | 50 => 137 | 57 => 139 | n => n, fun | 22 => 72 | 24 => 77 | 25 => 148 | 3 => 3 | 39 => 151 | 0 => 0 | 53 => 171 | 55 => 143 | 4 => 4 | 46 => 165 | 45 => 164 | 50 => 132 | 5 => 5 | 9 => 9 | 66 => 181 | 70 => 185 | 76 => 191 | 77 => 192 | n => n, fun | n => n⟩
theorem Try.laysF : Go.Proofs.SlLaysF0.n6 Try.prog Try.laysF_ren := {
  mixed := by kernel_rfl
  f6 := ⟨Try.f86.name, by decide, Try.func86.trans (congrArg some (by kernel_rfl))⟩
  f14 := ⟨Try.f103.name, by decide, Try.func103.trans (congrArg some (by kernel_rfl))⟩
  f15 := Try.func91.trans (congrArg some (by kernel_rfl))
  f20 := ⟨Try.f120.name, by decide, Try.func120.trans (congrArg some (by kernel_rfl))⟩
  f21 := ⟨Try.f121.name, by decide, Try.func121.trans (congrArg some (by kernel_rfl))⟩
  f22 := ⟨Try.f122.name, by decide, Try.func122.trans (congrArg some (by kernel_rfl))⟩
  f23 := ⟨Try.f123.name, by decide, Try.func123.trans (congrArg some (by kernel_rfl))⟩
  f24 := ⟨Try.f124.name, by decide, Try.func124.trans (congrArg some (by kernel_rfl))⟩
  f25 := ⟨Try.f125.name, by decide, Try.func125.trans (congrArg some (by kernel_rfl))⟩
  f26 := ⟨Try.f126.name, by decide, Try.func126.trans (congrArg some (by kernel_rfl))⟩
  f27 := ⟨Try.f127.name, by decide, Try.func127.trans (congrArg some (by kernel_rfl))⟩
  f28 := Try.func113.trans (congrArg some (by kernel_rfl))
  f29 := Try.func114.trans (congrArg some (by kernel_rfl))
  f46 := ⟨Try.f135.name, by decide, Try.func135.trans (congrArg some (by kernel_rfl))⟩
  f47 := Try.func129.trans (congrArg some (by kernel_rfl))
  f48 := Try.func130.trans (congrArg some (by kernel_rfl))
  f49 := ⟨Try.f136.name, by decide, Try.func136.trans (congrArg some (by kernel_rfl))⟩
  f50 := ⟨Try.f137.name, by decide, Try.func137.trans (congrArg some (by kernel_rfl))⟩
  f57 := ⟨Try.f139.name, by decide, Try.func139.trans (congrArg some (by kernel_rfl))⟩
  t0 := Try.underlying0
  a0 := Try.isAgg0
  z0 := Try.sizeOf0
  v0 := Try.zeroValue0
  t3 := Try.underlying3
  a3 := Try.isAgg3
  z3 := Try.sizeOf3
  v3 := Try.zeroValue3
  t4 := Try.underlying4
  a4 := Try.isAgg4
  z4 := Try.sizeOf4
  v4 := Try.zeroValue4
  t5 := Try.underlying5
  a5 := Try.isAgg5
  z5 := Try.sizeOf5
  v5 := Try.zeroValue5
  t9 := Try.underlying9
  a9 := Try.isAgg9
  z9 := Try.sizeOf9
  v9 := Try.zeroValue9
  t22 := Try.underlying72
  a22 := Try.isAgg72
  z22 := Try.sizeOf72
  v22 := Try.zeroValue72
  t25 := Try.underlying148
  a25 := Try.isAgg148
  z25 := Try.sizeOf148
  v25 := Try.zeroValue148
  t39 := Try.underlying151
  a39 := Try.isAgg151
  z39 := Try.sizeOf151
  v39 := Try.zeroValue151
  t45 := Try.underlying164
  a45 := Try.isAgg164
  z45 := Try.sizeOf164
  v45 := Try.zeroValue164
  t46 := Try.underlying165
  a46 := Try.isAgg165
  z46 := Try.sizeOf165
  v46 := Try.zeroValue165
  t50 := Try.underlying132
  a50 := Try.isAgg132
  z50 := Try.sizeOf132
  v50 := Try.zeroValue132
  t53 := Try.underlying171
  a53 := Try.isAgg171
  z53 := Try.sizeOf171
  v53 := Try.zeroValue171
  t55 := Try.underlying143
  a55 := Try.isAgg143
  z55 := Try.sizeOf143
  v55 := Try.zeroValue143
  t66 := Try.underlying181
  a66 := Try.isAgg181
  z66 := Try.sizeOf181
  v66 := Try.zeroValue181
  t70 := Try.underlying185
  a70 := Try.isAgg185
  z70 := Try.sizeOf185
  v70 := Try.zeroValue185
  t76 := Try.underlying191
  a76 := Try.isAgg191
  z76 := Try.sizeOf191
  v76 := Try.zeroValue191
  t77 := Try.underlying192
  a77 := Try.isAgg192
  z77 := Try.sizeOf192
  v77 := Try.zeroValue192 }
def Try.laysIns_ren : Go.Shelf.Ren := ⟨fun | 21 => 75 | 27 => 99 | 28 => 100 | 35 => 119 | 39 => 134 | n => n, fun | 22 => 27 | 3 => 3 | 4 => 4 | 0 => 0 | n => n, fun | n => n⟩
theorem Try.laysIns : Go.Proofs.Lays2.n21 Try.prog Try.laysIns_ren := {
  mixed := by kernel_rfl
  f21 := Try.func75.trans (congrArg some (by kernel_rfl))
  f27 := Try.func99.trans (congrArg some (by kernel_rfl))
  f28 := Try.func100.trans (congrArg some (by kernel_rfl))
  f35 := Try.func119.trans (congrArg some (by kernel_rfl))
  f39 := Try.func134.trans (congrArg some (by kernel_rfl))
  t0 := Try.underlying0
  a0 := Try.isAgg0
  z0 := Try.sizeOf0
  v0 := Try.zeroValue0
  t3 := Try.underlying3
  a3 := Try.isAgg3
  z3 := Try.sizeOf3
  v3 := Try.zeroValue3
  t4 := Try.underlying4
  a4 := Try.isAgg4
  z4 := Try.sizeOf4
  v4 := Try.zeroValue4
  t22 := Try.underlying27
  a22 := Try.isAgg27
  z22 := Try.sizeOf27
  v22 := Try.zeroValue27
  i3 := by kernel_rfl }
def Try.laysSearch_ren : Go.Shelf.Ren := ⟨fun | 25 => 74 | 31 => 97 | 32 => 98 | 37 => 118 | n => n, fun | 22 => 27 | 3 => 3 | 4 => 4 | 40 => 151 | 0 => 0 | n => n, fun | n => n⟩
theorem Try.laysSearch : Go.Proofs.Lays2.n25 Try.prog Try.laysSearch_ren := {
  mixed := by kernel_rfl
  f25 := Try.func74.trans (congrArg some (by kernel_rfl))
  f31 := Try.func97.trans (congrArg some (by kernel_rfl))
  f32 := Try.func98.trans (congrArg some (by kernel_rfl))
  f37 := Try.func118.trans (congrArg some (by kernel_rfl))
  t0 := Try.underlying0
  a0 := Try.isAgg0
  z0 := Try.sizeOf0
  v0 := Try.zeroValue0
  t3 := Try.underlying3
  a3 := Try.isAgg3
  z3 := Try.sizeOf3
  v3 := Try.zeroValue3
  t4 := Try.underlying4
  a4 := Try.isAgg4
  z4 := Try.sizeOf4
  v4 := Try.zeroValue4
  t22 := Try.underlying27
  a22 := Try.isAgg27
  z22 := Try.sizeOf27
  v22 := Try.zeroValue27
  t40 := Try.underlying151
  a40 := Try.isAgg151
  z40 := Try.sizeOf151
  v40 := Try.zeroValue151 }
def Try.laysP_ren : Go.Shelf.Ren := ⟨fun | 6 => 57 | 15 => 91 | 14 => 90 | 28 => 113 | 29 => 114 | 20 => 105 | 21 => 106 | 22 => 107 | 23 => 108 | 24 => 109 | 25 => 110 | 26 => 111 | 27 => 112 | 46 => 128 | 47 => 129 | 48 => 130 | 49 => 131 | 50 => 132 | 57 => 138 | n => n, fun | 22 => 110 | 24 => 94 | 25 => 112 | 3 => 3 | 39 => 151 | 0 => 0 | 53 => 171 | 55 => 143 | 4 => 4 | 46 => 165 | 45 => 164 | 50 => 132 | 5 => 5 | 9 => 9 | 66 => 181 | 70 => 185 | 76 => 191 | 77 => 192 | n => n, fun | n => n⟩
theorem Try.laysP : Go.Proofs.SlLaysF0.n6 Try.prog Try.laysP_ren := {
  mixed := by kernel_rfl
  f6 := ⟨Try.f57.name, by decide, Try.func57.trans (congrArg some (by kernel_rfl))⟩
  f14 := ⟨Try.f90.name, by decide, Try.func90.trans (congrArg some (by kernel_rfl))⟩
  f15 := Try.func91.trans (congrArg some (by kernel_rfl))
  f20 := ⟨Try.f105.name, by decide, Try.func105.trans (congrArg some (by kernel_rfl))⟩
  f21 := ⟨Try.f106.name, by decide, Try.func106.trans (congrArg some (by kernel_rfl))⟩
  f22 := ⟨Try.f107.name, by decide, Try.func107.trans (congrArg some (by kernel_rfl))⟩
  f23 := ⟨Try.f108.name, by decide, Try.func108.trans (congrArg some (by kernel_rfl))⟩
  f24 := ⟨Try.f109.name, by decide, Try.func109.trans (congrArg some (by kernel_rfl))⟩
  f25 := ⟨Try.f110.name, by decide, Try.func110.trans (congrArg some (by kernel_rfl))⟩
  f26 := ⟨Try.f111.name, by decide, Try.func111.trans (congrArg some (by kernel_rfl))⟩
  f27 := ⟨Try.f112.name, by decide, Try.func112.trans (congrArg some (by kernel_rfl))⟩
  f28 := Try.func113.trans (congrArg some (by kernel_rfl))
  f29 := Try.func114.trans (congrArg some (by kernel_rfl))
  f46 := ⟨Try.f128.name, by decide, Try.func128.trans (congrArg some (by kernel_rfl))⟩
  f47 := Try.func129.trans (congrArg some (by kernel_rfl))
  f48 := Try.func130.trans (congrArg some (by kernel_rfl))
  f49 := ⟨Try.f131.name, by decide, Try.func131.trans (congrArg some (by kernel_rfl))⟩
  f50 := ⟨Try.f132.name, by decide, Try.func132.trans (congrArg some (by kernel_rfl))⟩
  f57 := ⟨Try.f138.name, by decide, Try.func138.trans (congrArg some (by kernel_rfl))⟩
  t0 := Try.underlying0
  a0 := Try.isAgg0
  z0 := Try.sizeOf0
  v0 := Try.zeroValue0
  t3 := Try.underlying3
  a3 := Try.isAgg3
  z3 := Try.sizeOf3
  v3 := Try.zeroValue3
  t4 := Try.underlying4
  a4 := Try.isAgg4
  z4 := Try.sizeOf4
  v4 := Try.zeroValue4
  t5 := Try.underlying5
  a5 := Try.isAgg5
  z5 := Try.sizeOf5
  v5 := Try.zeroValue5
  t9 := Try.underlying9
  a9 := Try.isAgg9
  z9 := Try.sizeOf9
  v9 := Try.zeroValue9
  t22 := Try.underlying110
  a22 := Try.isAgg110
  z22 := Try.sizeOf110
  v22 := Try.zeroValue110
  t25 := Try.underlying112
  a25 := Try.isAgg112
  z25 := Try.sizeOf112
  v25 := Try.zeroValue112
  t39 := Try.underlying151
  a39 := Try.isAgg151
  z39 := Try.sizeOf151
  v39 := Try.zeroValue151
  t45 := Try.underlying164
  a45 := Try.isAgg164
  z45 := Try.sizeOf164
  v45 := Try.zeroValue164
  t46 := Try.underlying165
  a46 := Try.isAgg165
  z46 := Try.sizeOf165
  v46 := Try.zeroValue165
  t50 := Try.underlying132
  a50 := Try.isAgg132
  z50 := Try.sizeOf132
  v50 := Try.zeroValue132
  t53 := Try.underlying171
  a53 := Try.isAgg171
  z53 := Try.sizeOf171
  v53 := Try.zeroValue171
  t55 := Try.underlying143
  a55 := Try.isAgg143
  z55 := Try.sizeOf143
  v55 := Try.zeroValue143
  t66 := Try.underlying181
  a66 := Try.isAgg181
  z66 := Try.sizeOf181
  v66 := Try.zeroValue181
  t70 := Try.underlying185
  a70 := Try.isAgg185
  z70 := Try.sizeOf185
  v70 := Try.zeroValue185
  t76 := Try.underlying191
  a76 := Try.isAgg191
  z76 := Try.sizeOf191
  v76 := Try.zeroValue191
  t77 := Try.underlying192
  a77 := Try.isAgg192
  z77 := Try.sizeOf192
  v77 := Try.zeroValue192 }
end Go.Proofs.Ytlocjjponfbhmaa

/- The library's sort of numbers, as a contract over memory. -/
namespace Go.Vm
open Go.RowKit Go.Shelf Go.Sort Go.Proofs
theorem putCells_eq {α : Type} [Inhabited α] (enc : α → Value) (d : Array α) (cs : List Value) (h : d.size ≤ cs.length) : putCells enc 0 d cs.toArray = (d.toList.map enc ++ cs.drop d.size).toArray := by
  apply Array.ext_getElem?
  intro k
  simp only [putCells, Array.getElem?_mapIdx, List.getElem?_toArray]
  by_cases hk : k < d.size
  · have hc : k < cs.length := by omega
    rw [List.getElem?_append_left (by simpa using hk), List.getElem?_map]
    have e1 : cs[k]? = some cs[k] := List.getElem?_eq_getElem hc
    have e2 : d.toList[k]? = some d[k] := by simp [hk]
    rw [e1, e2]
    simp [hk]
  · rw [List.getElem?_append_right (by simpa using hk), List.getElem?_drop]
    simp only [List.length_map, Array.length_toList]
    rw [show d.size + (k - d.size) = k by omega]
    cases cs[k]? with
    | none => rfl
    | some v => simp only [Option.map_some]; rw [if_neg (by omega)]
/-- a row of cells turned, the tape drawn on, new blocks laid: in memory -/
theorem turned {α : Type} [Inhabited α] {M F : Mem} {w : World} (hM : M.le (memOf w)) (hF : F.le (memOf w)) (hdj : M.disj F) {b : Nat} {E : TypeId} {cs : List Value} (hh : M.has b E cs) (enc : α → Value) (d : Array α) (hd : d.size ≤ cs.length) (n : Nat) (os : Array Obj) :
    (M.setCells b E (d.toList.map enc ++ cs.drop d.size)).le (memOf (grow (putRow enc (Sort.ahead w n) b 0 d) os)) ∧ F.le (memOf (grow (putRow enc (Sort.ahead w n) b 0 d) os)) ∧ (M.setCells b E (d.toList.map enc ++ cs.drop d.size)).disj F ∧
    (grow (putRow enc (Sort.ahead w n) b 0 d) os).os = w.os ∧ (grow (putRow enc (Sort.ahead w n) b 0 d) os).output = w.output ∧ (grow (putRow enc (Sort.ahead w n) b 0 d) os).tape = w.tape ∧
    w.heap.size ≤ (grow (putRow enc (Sort.ahead w n) b 0 d) os).heap.size ∧ w.drawn ≤ (grow (putRow enc (Sort.ahead w n) b 0 d) os).drawn := by
  have hhb : w.heap[b]? = some (.cells cs.toArray E (0, 0)) := hM _ _ hh
  have hb : b < w.heap.size := (Array.getElem?_eq_some_iff.1 hhb).1
  have hFb : F b = none := (hdj b).resolve_left (by unfold Mem.has at hh; rw [hh]; simp)
  have other : ∀ x o, x ≠ b → w.heap[x]? = some o → memOf (grow (putRow enc (Sort.ahead w n) b 0 d) os) x = some o := fun x o hx hxo => by
    have hlt : x < w.heap.size := (Array.getElem?_eq_some_iff.1 hxo).1
    show (w.heap.modify b (onCells (putCells enc 0 d)) ++ os)[x]? = some o
    rw [Array.getElem?_append_left (by simpa using hlt), Array.getElem?_modify, if_neg (Ne.symm hx)]
    exact hxo
  refine ⟨fun x o hx => ?_, fun x o hx => ?_, fun x => ?_, rfl, rfl, rfl, by simp [grow, putRow, mapBlock], by simp [grow, putRow, mapBlock]⟩
  · by_cases e : x = b
    · subst e
      simp only [Mem.setCells, Mem.upd_same, Option.some.injEq] at hx
      subst hx
      show (w.heap.modify x (onCells (putCells enc 0 d)) ++ os)[x]? = _
      rw [Array.getElem?_append_left (by simpa using hb), Array.getElem?_modify, if_pos rfl, hhb]
      simp only [Option.map_some, onCells, putCells_eq enc d cs hd]
    · simp only [Mem.setCells, Mem.upd_ne _ _ e] at hx
      exact other x o e (hM x o hx)
  · have e : x ≠ b := fun e => by subst e; rw [hFb] at hx; cases hx
    exact other x o e (hF x o hx)
  · by_cases e : x = b
    · subst e; exact .inr hFb
    · simp only [Mem.setCells, Mem.upd_ne _ _ e]; exact hdj x
theorem holds_of {α : Type} [Inhabited α] {M : Mem} {w : World} (hM : M.le (memOf w)) {b : Nat} {E : TypeId} {cs : List Value} (hh : M.has b E cs) (enc : α → Value) (l : List α) (h : cs.take l.length = l.map enc) : Holds enc w b 0 l.toArray := by
  have hhb : w.heap[b]? = some (.cells cs.toArray E (0, 0)) := hM _ _ hh
  intro j hj
  have hj : j < l.length := by simpa using hj
  constructor
  · simp only [World.cell?, hhb, Nat.zero_add]
    have : (cs.take l.length)[j]? = (l.map enc)[j]? := by rw [h]
    rw [List.getElem?_take_of_lt hj, List.getElem?_map, List.getElem?_eq_getElem hj] at this
    simp [this, hj]
  · simp [World.frozen?, hhb]
section
variable {P : Program} {ρ : Ren}
def sortedI (l : List Int) : List Int := l.mergeSort fun x y => decide (x ≤ y)
theorem sortI_ok (Ly : Lays.n189 P ρ) (he : enters P (ρ.f 189) = true) {M : Mem} {E : TypeId} {a : Option Addr} {n c : Nat} {l : List Int} (h : Wr M E 1 a n c (l.map (Value.int .i64))) (hn : n < 4611686018427387904) :
    CallsM P (ρ.f 189) [.slice a n c] M fun v M' => v = .tuple #[] ∧ Wr M' E 1 a n c ((sortedI l).map (Value.int .i64)) ∧ Mem.keep (blk a) M M' := by
  refine ⟨he, fun F w hM hF hdj => ?_⟩
  have hll : l.length = n := h.maplen
  obtain ⟨h1, h2, ⟨rfl, rfl⟩ | ⟨b, cs, rfl, hh, hcl, ht⟩⟩ := h
  · have : n = 0 := by omega
    subst this
    have : l = [] := by simpa using hll
    subst this
    refine (Any.slices_Sort_int_none Ly none 0 w).mono ?_
    rintro e w' ⟨rfl, rfl⟩
    exact ⟨_, M, rfl, ⟨rfl, ⟨by simp [sortedI], Nat.le_refl _, .inl ⟨rfl, rfl⟩⟩, Mem.keep_refl _ _⟩, hM, hF, hdj, rfl, rfl, rfl, Nat.le_refl _, Nat.le_refl _⟩
  · have hb : b < w.heap.size := (Array.getElem?_eq_some_iff.1 (hM _ _ hh)).1
    have hH := holds_of hM hh (Value.int .i64) l (by rw [hll]; simpa using ht)
    have hs := Any.slices_Sort_int Ly b 0 c l w hH hb (by omega)
    rw [hll] at hs
    refine hs.mono ?_
    rintro e w' ⟨rfl, q, os, rfl⟩
    have hsl : (sortedI l).length = l.length := List.length_mergeSort l
    have ht' := turned hM hF hdj hh (Value.int .i64) (sortedI l).toArray (by simp [hsl]; omega) q os
    refine ⟨_, M.setCells b E ((sortedI l).toArray.toList.map (Value.int .i64) ++ cs.drop (sortedI l).toArray.size), rfl, ⟨rfl, ⟨by simp [hsl, hll], h2, .inr ⟨b, _, rfl, Mem.has_setCells, ?_, ?_⟩⟩, ?_⟩, ht'⟩
    · simp [hsl, hll, hcl]; omega
    · simp only [List.size_toArray, hsl, hll]
      rw [List.take_append_of_le_length (by simp [hsl]; omega), List.take_of_length_le (by simp [hsl]; omega)]
    · intro x o hx hxo
      have e : x ≠ b := fun e => hx ⟨_, rfl, e.symm⟩
      simp only [Mem.setCells, Mem.upd_ne _ _ e]; exact hxo
theorem sortedI_perm (l : List Int) : (sortedI l).Perm l := List.mergeSort_perm l _
theorem sortedI_sorted (l : List Int) : (sortedI l).Pairwise (· ≤ ·) := by
  have := List.pairwise_mergeSort (le := fun (x y : Int) => decide (x ≤ y)) (fun a b c h1 h2 => by simp at *; omega) (fun a b => by simp; omega) l
  exact this.imp fun h => by simpa using h
end
end Go.Vm

/- The library's sort of structs by a function, as a contract over memory. -/
namespace Go.Vm
open Go.RowKit Go.Shelf Go.Sort Go.Proofs
theorem flat_at {α : Type} {enc : α → List Value} {k : Nat} (hk : ∀ x, (enc x).length = k) : ∀ (l : List α) (i j : Nat) (x : α), l[i]? = some x → j < k → (l.flatMap enc)[i * k + j]? = (enc x)[j]?
  | [], i, j, x, h, _ => by simp at h
  | y :: r, 0, j, x, h, hj => by
    simp at h; subst h
    rw [List.flatMap_cons, Nat.zero_mul, Nat.zero_add, List.getElem?_append_left (by rw [hk]; exact hj)]
  | y :: r, i + 1, j, x, h, hj => by
    have := flat_at hk r i j x (by simpa using h) hj
    rw [List.flatMap_cons, List.getElem?_append_right (by rw [hk, Nat.succ_mul]; omega), hk, ← this]
    congr 1
    rw [Nat.succ_mul]; omega
theorem flat_len {α : Type} {enc : α → List Value} {k : Nat} (hk : ∀ x, (enc x).length = k) (l : List α) : (l.flatMap enc).length = l.length * k := by
  induction l with
  | nil => simp
  | cons y r ih => simp [hk, ih, Nat.succ_mul, Nat.add_comm]
theorem flatK_eq {α : Type} [Inhabited α] {enc : α → List Value} {k : Nat} (hk : ∀ x, (enc x).length = k) (hk0 : 0 < k) (l : List α) : (flatK enc k l.toArray).toList = l.flatMap enc := by
  apply List.ext_getElem?
  intro t
  by_cases ht : t < l.length * k
  · have hi : t / k < l.length := (Nat.div_lt_iff_lt_mul hk0).2 ht
    have e : t = t / k * k + t % k := by rw [Nat.mul_comm]; exact (Nat.div_add_mod t k).symm
    have hj : t % k < k := Nat.mod_lt _ hk0
    have h1 := flat_at hk l (t / k) (t % k) l[t / k] (List.getElem?_eq_getElem hi) hj
    rw [← e] at h1
    rw [h1]
    have hs : t < (flatK enc k l.toArray).size := by rw [size_flatK]; simpa using ht
    have h2 := get_flatK enc k l.toArray t (by simpa using ht)
    rw [Array.getElem?_toList, Array.getElem?_eq_getElem hs]
    rw [getElem!_pos _ t hs] at h2
    rw [h2]
    have h3 : l.toArray[t / k]! = l[t / k] := by simp [hi]
    rw [h3, getElem!_pos _ _ (by rw [hk]; exact hj), List.getElem?_eq_getElem (by rw [hk]; exact hj)]
  · rw [List.getElem?_eq_none (by simp; omega), List.getElem?_eq_none (by rw [flat_len hk]; omega)]
section
variable {P : Program} {ρ : Ren} {α : Type} [Inhabited α]
/-- a function that lays nothing of the caller's anew: a world that has only grown -/
theorem grown_of {W w' : World} (hF : (memOf W).le (memOf w')) (ho : w'.os = W.os) (hp : w'.output = W.output) (ht : w'.tape = W.tape) (hs : W.heap.size ≤ w'.heap.size) (hd : W.drawn ≤ w'.drawn) : ∃ q os', w' = grow (W.drewN q) os' := by
  refine ⟨w'.drawn - W.drawn, w'.heap.extract W.heap.size w'.heap.size, ?_⟩
  obtain ⟨h, t, d, o, p⟩ := w'
  simp only at ho hp ht hs hd
  subst ho; subst hp; subst ht
  have e1 : h = W.heap ++ h.extract W.heap.size h.size := by
    apply Array.ext_getElem?
    intro i
    by_cases hi : i < W.heap.size
    · rw [Array.getElem?_append_left hi]
      have := hF i W.heap[i] (Array.getElem?_eq_getElem hi)
      rw [Array.getElem?_eq_getElem hi]
      exact this
    · rw [Array.getElem?_append_right (by omega), Array.getElem?_extract]
      by_cases h2 : i < h.size
      · rw [if_pos (by omega)]; congr 1; omega
      · rw [if_neg (by omega), Array.getElem?_eq_none (by omega)]
  have e2 : d = W.drawn + (d - W.drawn) := by omega
  show World.mk h W.tape d W.os W.output = World.mk (W.heap ++ h.extract W.heap.size h.size) W.tape (W.drawn + (d - W.drawn)) W.os W.output
  rw [← e1, ← e2]
theorem cmp_lays {g : Nat} {enc : α → List Value} {k : Nat} {cf : α → α → Int} (hcmp : ∀ x y, CallsM P g [.agg (enc x).toArray, .agg (enc y).toArray] Mem.empty fun v _ => v = .int .i64 (cf x y)) (blk off size : Nat) (w : World) : CmpLays P g #[] enc k cf blk off size w := by
  intro m os dk _ x y
  have h := (hcmp x y).2 (memOf (sortWorldK enc k w blk off m dk os)) (sortWorldK enc k w blk off m dk os) (Mem.empty_le _) (fun _ _ h => h) (fun _ => .inl rfl)
  exact Calls.mono h fun e w' ⟨v, M', he, hv, _, hF, _, ho, hp, ht, hs, hd⟩ => ⟨by rw [he, hv], grown_of hF ho hp ht hs hd⟩
theorem sortF_ok (L : SlLaysF0.n6 P ρ) (he : enters P (ρ.f 6) = true) {k : Nat} (hk0 : 0 < k) (aE : ∀ w, (isAgg (ρ.t 24)).run P w = .ok true w) (zE : ∀ w, (Go.sizeOf (ρ.t 24)).run P w = .ok k w) {enc : α → List Value} (hk : ∀ x, (enc x).length = k) (h1 : ∀ x, ∀ v ∈ enc x, v.oneCell' = true)
    {cf : α → α → Int} (hO : SWO (ltOf cf)) {g : Nat} (eg : ∀ args w, (callFunc g args).run P w = .ok (.enter g args) w) (hcmp : ∀ x y, CallsM P g [.agg (enc x).toArray, .agg (enc y).toArray] Mem.empty fun v _ => v = .int .i64 (cf x y))
    {M : Mem} {E : TypeId} {a : Option Addr} {n c : Nat} {l : List α} (h : Wr M E k a n c (l.flatMap enc)) (hn : n < 4611686018427387904) :
    CallsM P (ρ.f 6) [.slice a n c, .func (.func g) #[] #[]] M fun v M' => v = .tuple #[] ∧ ∃ l' : List α, l'.Perm l ∧ l'.Pairwise (fun x y => ¬ cf y x < 0) ∧ Wr M' E k a n c (l'.flatMap enc) ∧ Mem.keep (blk a) M M' := by
  refine ⟨he, fun F w hM hF hdj => ?_⟩
  obtain ⟨hl, hnc, h3⟩ := h
  have hll : l.length = n := by
    rw [flat_len hk] at hl; exact Nat.eq_of_mul_eq_mul_right hk0 hl
  rcases h3 with ⟨rfl, rfl⟩ | ⟨b, cs, rfl, hh, hcl, ht⟩
  · have : n = 0 := by omega
    subst this
    have : l = [] := by simpa using hll
    subst this
    refine Calls.mono (AnyF.slices_SortFunc_none L none 0 _ w) ?_
    rintro e w' ⟨rfl, rfl⟩
    exact ⟨_, M, rfl, ⟨rfl, [], .refl _, .nil, ⟨by simp, Nat.le_refl _, .inl ⟨rfl, rfl⟩⟩, Mem.keep_refl _ _⟩, hM, hF, hdj, rfl, rfl, rfl, Nat.le_refl _, Nat.le_refl _⟩
  · have hb : b < w.heap.size := (Array.getElem?_eq_some_iff.1 (hM _ _ hh)).1
    have hle : n * k ≤ c * k := Nat.mul_le_mul_right _ hnc
    have hH : HoldsK enc k w b 0 l.toArray := by
      have := holds_of (α := Value) hM hh id (l.flatMap enc) (by rw [flat_len hk, hll, List.map_id]; exact ht)
      unfold HoldsK
      have e : flatK enc k l.toArray = (l.flatMap enc).toArray := by rw [← flatK_eq hk hk0 l]
      rw [e]; exact this
    have hs := AnyQ.slices_SortFunc L k aE zE enc hk h1 cf hO g #[] b 0 c l.toArray w eg (cmp_lays hcmp b 0 _ w) hH hb (by simp; omega)
    have e0 : l.toArray.size = n := by simpa using hll
    rw [e0] at hs
    refine Calls.mono hs ?_
    rintro e w' ⟨rfl, d', q, os, hp, hsd, rfl⟩
    have hds : d'.size = n := by rw [hp.1, e0]
    obtain ⟨l', rfl⟩ : ∃ l' : List α, d' = l'.toArray := ⟨d'.toList, by simp⟩
    have hl' : l'.length = n := by simpa using hds
    have hperm : l'.Perm l := by
      have := hp.2.2
      simpa [hll, hl', List.take_of_length_le] using this
    have hsort : l'.Pairwise (fun x y => ¬ cf y x < 0) := by
      rw [List.pairwise_iff_getElem]
      intro i j hi hj hij
      have := hsd i j (Nat.zero_le _) hij (by omega)
      have ei : l'.toArray[i]! = l'[i] := by simp [hi]
      have ej : l'.toArray[j]! = l'[j] := by simp [hj]
      rw [ei, ej] at this
      simpa [ltOf] using this
    have e2 : flatK enc k l'.toArray = (l'.flatMap enc).toArray := by rw [← flatK_eq hk hk0 l']
    have ht' := turned hM hF hdj hh id (l'.flatMap enc).toArray (by simp only [List.size_toArray]; rw [flat_len hk, hl', hcl]; exact hle) q os
    unfold sortWorldK putRowK
    rw [e2]
    have hfl : (l'.flatMap enc).length = n * k := by rw [flat_len hk, hl']
    refine ⟨_, M.setCells b E ((l'.flatMap enc).toArray.toList.map id ++ cs.drop (l'.flatMap enc).toArray.size), rfl, ⟨rfl, l', hperm, hsort, ⟨hfl, hnc, .inr ⟨b, _, rfl, Mem.has_setCells, ?_, ?_⟩⟩, ?_⟩, ht'⟩
    · simp only [List.map_id, List.length_append, List.length_drop, List.size_toArray]; rw [hfl, hcl]; omega
    · simp only [List.map_id, List.size_toArray]
      rw [List.take_append_of_le_length (by rw [hfl]; omega), List.take_of_length_le (by rw [hfl]; omega)]
    · intro x o hx hxo
      have e : x ≠ b := fun e => hx ⟨_, rfl, e.symm⟩
      simp only [Mem.setCells, Mem.upd_ne _ _ e]; exact hxo
end
end Go.Vm

