/- The shelf's layings at this program; made by program. -/
import Derived.Shelf.SlSortCmp.NoneTotal
import Derived.Shelf.Spec.SlicesInsertGrow
import Derived.Shelf.Slices.SearchI
import Derived.Test.YtlocjjponfbhmaaGreatProg
import Derived.Test.YtlocjjponfbhmaaGreatJoin12
import Derived.Shelf.Sort.Plain
import Derived.Shelf.Slices.In.SortNone
namespace Go.Proofs.YtlocjjponfbhmaaGreat
open Go Go.Proofs Go.Shelf
def Tryz.laysF_ren : Go.Shelf.Ren := ⟨fun | 6 => 56 | 15 => 55 | 14 => 85 | 28 => 83 | 29 => 84 | 20 => 97 | 21 => 98 | 22 => 99 | 23 => 100 | 24 => 101 | 25 => 102 | 26 => 103 | 27 => 104 | 46 => 108 | 47 => 93 | 48 => 94 | 49 => 109 | 50 => 110 | 57 => 111 | n => n, fun | 22 => 57 | 24 => 101 | 25 => 127 | 3 => 3 | 39 => 124 | 0 => 0 | 53 => 146 | 55 => 148 | 4 => 4 | 46 => 140 | 45 => 139 | 50 => 114 | 5 => 5 | 9 => 9 | 66 => 154 | 70 => 158 | 76 => 167 | 77 => 168 | n => n, fun | n => n⟩
theorem Tryz.laysF : Go.Proofs.SlLaysF0.n6 Tryz.prog Tryz.laysF_ren := {
  mixed := by kernel_rfl
  f6 := ⟨"slices.SortFunc[[]portage/api.Mark,portage/api.Mark]", by decide, Tryz.func56.trans (congrArg some (by kernel_rfl))⟩
  f14 := ⟨"slices.pdqsortCmpFunc[portage/api.Mark]", by decide, Tryz.func85.trans (congrArg some (by kernel_rfl))⟩
  f15 := Tryz.func55.trans (congrArg some (by kernel_rfl))
  f20 := ⟨"slices.insertionSortCmpFunc[portage/api.Mark]", by decide, Tryz.func97.trans (congrArg some (by kernel_rfl))⟩
  f21 := ⟨"slices.heapSortCmpFunc[portage/api.Mark]", by decide, Tryz.func98.trans (congrArg some (by kernel_rfl))⟩
  f22 := ⟨"slices.breakPatternsCmpFunc[portage/api.Mark]", by decide, Tryz.func99.trans (congrArg some (by kernel_rfl))⟩
  f23 := ⟨"slices.choosePivotCmpFunc[portage/api.Mark]", by decide, Tryz.func100.trans (congrArg some (by kernel_rfl))⟩
  f24 := ⟨"slices.reverseRangeCmpFunc[portage/api.Mark]", by decide, Tryz.func101.trans (congrArg some (by kernel_rfl))⟩
  f25 := ⟨"slices.partialInsertionSortCmpFunc[portage/api.Mark]", by decide, Tryz.func102.trans (congrArg some (by kernel_rfl))⟩
  f26 := ⟨"slices.partitionEqualCmpFunc[portage/api.Mark]", by decide, Tryz.func103.trans (congrArg some (by kernel_rfl))⟩
  f27 := ⟨"slices.partitionCmpFunc[portage/api.Mark]", by decide, Tryz.func104.trans (congrArg some (by kernel_rfl))⟩
  f28 := Tryz.func83.trans (congrArg some (by kernel_rfl))
  f29 := Tryz.func84.trans (congrArg some (by kernel_rfl))
  f46 := ⟨"slices.siftDownCmpFunc[portage/api.Mark]", by decide, Tryz.func108.trans (congrArg some (by kernel_rfl))⟩
  f47 := Tryz.func93.trans (congrArg some (by kernel_rfl))
  f48 := Tryz.func94.trans (congrArg some (by kernel_rfl))
  f49 := ⟨"slices.medianAdjacentCmpFunc[portage/api.Mark]", by decide, Tryz.func109.trans (congrArg some (by kernel_rfl))⟩
  f50 := ⟨"slices.medianCmpFunc[portage/api.Mark]", by decide, Tryz.func110.trans (congrArg some (by kernel_rfl))⟩
  f57 := ⟨"slices.order2CmpFunc[portage/api.Mark]", by decide, Tryz.func111.trans (congrArg some (by kernel_rfl))⟩
  t0 := Tryz.underlying0
  a0 := Tryz.isAgg0
  z0 := Tryz.sizeOf0
  v0 := Tryz.zeroValue0
  t3 := Tryz.underlying3
  a3 := Tryz.isAgg3
  z3 := Tryz.sizeOf3
  v3 := Tryz.zeroValue3
  t4 := Tryz.underlying4
  a4 := Tryz.isAgg4
  z4 := Tryz.sizeOf4
  v4 := Tryz.zeroValue4
  t5 := Tryz.underlying5
  a5 := Tryz.isAgg5
  z5 := Tryz.sizeOf5
  v5 := Tryz.zeroValue5
  t9 := Tryz.underlying9
  a9 := Tryz.isAgg9
  z9 := Tryz.sizeOf9
  v9 := Tryz.zeroValue9
  t22 := Tryz.underlying57
  a22 := Tryz.isAgg57
  z22 := Tryz.sizeOf57
  v22 := Tryz.zeroValue57
  t25 := Tryz.underlying127
  a25 := Tryz.isAgg127
  z25 := Tryz.sizeOf127
  v25 := Tryz.zeroValue127
  t39 := Tryz.underlying124
  a39 := Tryz.isAgg124
  z39 := Tryz.sizeOf124
  v39 := Tryz.zeroValue124
  t45 := Tryz.underlying139
  a45 := Tryz.isAgg139
  z45 := Tryz.sizeOf139
  v45 := Tryz.zeroValue139
  t46 := Tryz.underlying140
  a46 := Tryz.isAgg140
  z46 := Tryz.sizeOf140
  v46 := Tryz.zeroValue140
  t50 := Tryz.underlying114
  a50 := Tryz.isAgg114
  z50 := Tryz.sizeOf114
  v50 := Tryz.zeroValue114
  t53 := Tryz.underlying146
  a53 := Tryz.isAgg146
  z53 := Tryz.sizeOf146
  v53 := Tryz.zeroValue146
  t55 := Tryz.underlying148
  a55 := Tryz.isAgg148
  z55 := Tryz.sizeOf148
  v55 := Tryz.zeroValue148
  t66 := Tryz.underlying154
  a66 := Tryz.isAgg154
  z66 := Tryz.sizeOf154
  v66 := Tryz.zeroValue154
  t70 := Tryz.underlying158
  a70 := Tryz.isAgg158
  z70 := Tryz.sizeOf158
  v70 := Tryz.zeroValue158
  t76 := Tryz.underlying167
  a76 := Tryz.isAgg167
  z76 := Tryz.sizeOf167
  v76 := Tryz.zeroValue167
  t77 := Tryz.underlying168
  a77 := Tryz.isAgg168
  z77 := Tryz.sizeOf168
  v77 := Tryz.zeroValue168 }
def Tryz.laysIns_ren : Go.Shelf.Ren := ⟨fun | 21 => 50 | 27 => 73 | 28 => 74 | 35 => 91 | 39 => 106 | n => n, fun | 22 => 99 | 3 => 3 | 4 => 4 | 0 => 0 | n => n, fun | n => n⟩
theorem Tryz.laysIns : Go.Proofs.Lays2.n21 Tryz.prog Tryz.laysIns_ren := {
  mixed := by kernel_rfl
  f21 := Tryz.func50.trans (congrArg some (by kernel_rfl))
  f27 := Tryz.func73.trans (congrArg some (by kernel_rfl))
  f28 := Tryz.func74.trans (congrArg some (by kernel_rfl))
  f35 := Tryz.func91.trans (congrArg some (by kernel_rfl))
  f39 := Tryz.func106.trans (congrArg some (by kernel_rfl))
  t0 := Tryz.underlying0
  a0 := Tryz.isAgg0
  z0 := Tryz.sizeOf0
  v0 := Tryz.zeroValue0
  t3 := Tryz.underlying3
  a3 := Tryz.isAgg3
  z3 := Tryz.sizeOf3
  v3 := Tryz.zeroValue3
  t4 := Tryz.underlying4
  a4 := Tryz.isAgg4
  z4 := Tryz.sizeOf4
  v4 := Tryz.zeroValue4
  t22 := Tryz.underlying99
  a22 := Tryz.isAgg99
  z22 := Tryz.sizeOf99
  v22 := Tryz.zeroValue99
  i3 := by kernel_rfl }
def Tryz.laysSearch_ren : Go.Shelf.Ren := ⟨fun | 25 => 49 | 31 => 71 | 32 => 72 | 37 => 90 | n => n, fun | 22 => 99 | 3 => 3 | 4 => 4 | 40 => 124 | 0 => 0 | n => n, fun | n => n⟩
theorem Tryz.laysSearch : Go.Proofs.Lays2.n25 Tryz.prog Tryz.laysSearch_ren := {
  mixed := by kernel_rfl
  f25 := Tryz.func49.trans (congrArg some (by kernel_rfl))
  f31 := Tryz.func71.trans (congrArg some (by kernel_rfl))
  f32 := Tryz.func72.trans (congrArg some (by kernel_rfl))
  f37 := Tryz.func90.trans (congrArg some (by kernel_rfl))
  t0 := Tryz.underlying0
  a0 := Tryz.isAgg0
  z0 := Tryz.sizeOf0
  v0 := Tryz.zeroValue0
  t3 := Tryz.underlying3
  a3 := Tryz.isAgg3
  z3 := Tryz.sizeOf3
  v3 := Tryz.zeroValue3
  t4 := Tryz.underlying4
  a4 := Tryz.isAgg4
  z4 := Tryz.sizeOf4
  v4 := Tryz.zeroValue4
  t22 := Tryz.underlying99
  a22 := Tryz.isAgg99
  z22 := Tryz.sizeOf99
  v22 := Tryz.zeroValue99
  t40 := Tryz.underlying124
  a40 := Tryz.isAgg124
  z40 := Tryz.sizeOf124
  v40 := Tryz.zeroValue124 }
def Tryz.laysP_ren : Go.Shelf.Ren := ⟨fun | 6 => 37 | 15 => 55 | 14 => 54 | 28 => 83 | 29 => 84 | 20 => 75 | 21 => 76 | 22 => 77 | 23 => 78 | 24 => 79 | 25 => 80 | 26 => 81 | 27 => 82 | 46 => 92 | 47 => 93 | 48 => 94 | 49 => 95 | 50 => 96 | 57 => 107 | n => n, fun | 22 => 93 | 24 => 86 | 25 => 95 | 3 => 3 | 39 => 124 | 0 => 0 | 53 => 146 | 55 => 148 | 4 => 4 | 46 => 140 | 45 => 139 | 50 => 114 | 5 => 5 | 9 => 9 | 66 => 154 | 70 => 158 | 76 => 167 | 77 => 168 | n => n, fun | n => n⟩
theorem Tryz.laysP : Go.Proofs.SlLaysF0.n6 Tryz.prog Tryz.laysP_ren := {
  mixed := by kernel_rfl
  f6 := ⟨"slices.SortFunc[[]portage/store.place,portage/store.place]", by decide, Tryz.func37.trans (congrArg some (by kernel_rfl))⟩
  f14 := ⟨"slices.pdqsortCmpFunc[portage/store.place]", by decide, Tryz.func54.trans (congrArg some (by kernel_rfl))⟩
  f15 := Tryz.func55.trans (congrArg some (by kernel_rfl))
  f20 := ⟨"slices.insertionSortCmpFunc[portage/store.place]", by decide, Tryz.func75.trans (congrArg some (by kernel_rfl))⟩
  f21 := ⟨"slices.heapSortCmpFunc[portage/store.place]", by decide, Tryz.func76.trans (congrArg some (by kernel_rfl))⟩
  f22 := ⟨"slices.breakPatternsCmpFunc[portage/store.place]", by decide, Tryz.func77.trans (congrArg some (by kernel_rfl))⟩
  f23 := ⟨"slices.choosePivotCmpFunc[portage/store.place]", by decide, Tryz.func78.trans (congrArg some (by kernel_rfl))⟩
  f24 := ⟨"slices.reverseRangeCmpFunc[portage/store.place]", by decide, Tryz.func79.trans (congrArg some (by kernel_rfl))⟩
  f25 := ⟨"slices.partialInsertionSortCmpFunc[portage/store.place]", by decide, Tryz.func80.trans (congrArg some (by kernel_rfl))⟩
  f26 := ⟨"slices.partitionEqualCmpFunc[portage/store.place]", by decide, Tryz.func81.trans (congrArg some (by kernel_rfl))⟩
  f27 := ⟨"slices.partitionCmpFunc[portage/store.place]", by decide, Tryz.func82.trans (congrArg some (by kernel_rfl))⟩
  f28 := Tryz.func83.trans (congrArg some (by kernel_rfl))
  f29 := Tryz.func84.trans (congrArg some (by kernel_rfl))
  f46 := ⟨"slices.siftDownCmpFunc[portage/store.place]", by decide, Tryz.func92.trans (congrArg some (by kernel_rfl))⟩
  f47 := Tryz.func93.trans (congrArg some (by kernel_rfl))
  f48 := Tryz.func94.trans (congrArg some (by kernel_rfl))
  f49 := ⟨"slices.medianAdjacentCmpFunc[portage/store.place]", by decide, Tryz.func95.trans (congrArg some (by kernel_rfl))⟩
  f50 := ⟨"slices.medianCmpFunc[portage/store.place]", by decide, Tryz.func96.trans (congrArg some (by kernel_rfl))⟩
  f57 := ⟨"slices.order2CmpFunc[portage/store.place]", by decide, Tryz.func107.trans (congrArg some (by kernel_rfl))⟩
  t0 := Tryz.underlying0
  a0 := Tryz.isAgg0
  z0 := Tryz.sizeOf0
  v0 := Tryz.zeroValue0
  t3 := Tryz.underlying3
  a3 := Tryz.isAgg3
  z3 := Tryz.sizeOf3
  v3 := Tryz.zeroValue3
  t4 := Tryz.underlying4
  a4 := Tryz.isAgg4
  z4 := Tryz.sizeOf4
  v4 := Tryz.zeroValue4
  t5 := Tryz.underlying5
  a5 := Tryz.isAgg5
  z5 := Tryz.sizeOf5
  v5 := Tryz.zeroValue5
  t9 := Tryz.underlying9
  a9 := Tryz.isAgg9
  z9 := Tryz.sizeOf9
  v9 := Tryz.zeroValue9
  t22 := Tryz.underlying93
  a22 := Tryz.isAgg93
  z22 := Tryz.sizeOf93
  v22 := Tryz.zeroValue93
  t25 := Tryz.underlying95
  a25 := Tryz.isAgg95
  z25 := Tryz.sizeOf95
  v25 := Tryz.zeroValue95
  t39 := Tryz.underlying124
  a39 := Tryz.isAgg124
  z39 := Tryz.sizeOf124
  v39 := Tryz.zeroValue124
  t45 := Tryz.underlying139
  a45 := Tryz.isAgg139
  z45 := Tryz.sizeOf139
  v45 := Tryz.zeroValue139
  t46 := Tryz.underlying140
  a46 := Tryz.isAgg140
  z46 := Tryz.sizeOf140
  v46 := Tryz.zeroValue140
  t50 := Tryz.underlying114
  a50 := Tryz.isAgg114
  z50 := Tryz.sizeOf114
  v50 := Tryz.zeroValue114
  t53 := Tryz.underlying146
  a53 := Tryz.isAgg146
  z53 := Tryz.sizeOf146
  v53 := Tryz.zeroValue146
  t55 := Tryz.underlying148
  a55 := Tryz.isAgg148
  z55 := Tryz.sizeOf148
  v55 := Tryz.zeroValue148
  t66 := Tryz.underlying154
  a66 := Tryz.isAgg154
  z66 := Tryz.sizeOf154
  v66 := Tryz.zeroValue154
  t70 := Tryz.underlying158
  a70 := Tryz.isAgg158
  z70 := Tryz.sizeOf158
  v70 := Tryz.zeroValue158
  t76 := Tryz.underlying167
  a76 := Tryz.isAgg167
  z76 := Tryz.sizeOf167
  v76 := Tryz.zeroValue167
  t77 := Tryz.underlying168
  a77 := Tryz.isAgg168
  z77 := Tryz.sizeOf168
  v77 := Tryz.zeroValue168 }
end Go.Proofs.YtlocjjponfbhmaaGreat

/- The library's sort of numbers, as a contract over memory. -/
namespace Go.Vm
open Go.RowKit Go.Shelf Go.Sort Go.Proofs
theorem putCells_eq {α : Type} [Inhabited α] (enc : α → Value) (d : Array α) (cs : List Value) (h : d.size ≤ cs.length) : putCells enc 0 d cs.toArray = (d.toList.map enc ++ cs.drop d.size).toArray := by
  apply Array.ext_getElem?
  intro k
  simp only [putCells, Array.getElem?_mapIdx, List.getElem?_toArray]
  by_cases hk : k < d.size
  · have hc : k < cs.length := by omega
    rw [List.getElem?_append_left (by simpa using hk), List.getElem?_map]
    have e1 : cs[k]? = some cs[k] := List.getElem?_eq_getElem hc
    have e2 : d.toList[k]? = some d[k] := by simp [hk]
    rw [e1, e2]
    simp [hk]
  · rw [List.getElem?_append_right (by simpa using hk), List.getElem?_drop]
    simp only [List.length_map, Array.length_toList]
    rw [show d.size + (k - d.size) = k by omega]
    cases cs[k]? with
    | none => rfl
    | some v => simp only [Option.map_some]; rw [if_neg (by omega)]
/-- a row of cells turned, the tape drawn on, new blocks laid: in memory -/
theorem turned {α : Type} [Inhabited α] {M F : Mem} {w : World} (hM : M.le (memOf w)) (hF : F.le (memOf w)) (hdj : M.disj F) {b : Nat} {E : TypeId} {cs : List Value} (hh : M.has b E cs) (enc : α → Value) (d : Array α) (hd : d.size ≤ cs.length) (n : Nat) (os : Array Obj) :
    (M.setCells b E (d.toList.map enc ++ cs.drop d.size)).le (memOf (grow (putRow enc (Sort.ahead w n) b 0 d) os)) ∧ F.le (memOf (grow (putRow enc (Sort.ahead w n) b 0 d) os)) ∧ (M.setCells b E (d.toList.map enc ++ cs.drop d.size)).disj F ∧
    (grow (putRow enc (Sort.ahead w n) b 0 d) os).os = w.os ∧ (grow (putRow enc (Sort.ahead w n) b 0 d) os).output = w.output ∧ (grow (putRow enc (Sort.ahead w n) b 0 d) os).tape = w.tape ∧
    w.heap.size ≤ (grow (putRow enc (Sort.ahead w n) b 0 d) os).heap.size ∧ w.drawn ≤ (grow (putRow enc (Sort.ahead w n) b 0 d) os).drawn := by
  have hhb : w.heap[b]? = some (.cells cs.toArray E (0, 0)) := hM _ _ hh
  have hb : b < w.heap.size := (Array.getElem?_eq_some_iff.1 hhb).1
  have hFb : F b = none := (hdj b).resolve_left (by unfold Mem.has at hh; rw [hh]; simp)
  have other : ∀ x o, x ≠ b → w.heap[x]? = some o → memOf (grow (putRow enc (Sort.ahead w n) b 0 d) os) x = some o := fun x o hx hxo => by
    have hlt : x < w.heap.size := (Array.getElem?_eq_some_iff.1 hxo).1
    show (w.heap.modify b (onCells (putCells enc 0 d)) ++ os)[x]? = some o
    rw [Array.getElem?_append_left (by simpa using hlt), Array.getElem?_modify, if_neg (Ne.symm hx)]
    exact hxo
  refine ⟨fun x o hx => ?_, fun x o hx => ?_, fun x => ?_, rfl, rfl, rfl, by simp [grow, putRow, mapBlock], by simp [grow, putRow, mapBlock]⟩
  · by_cases e : x = b
    · subst e
      simp only [Mem.setCells, Mem.upd_same, Option.some.injEq] at hx
      subst hx
      show (w.heap.modify x (onCells (putCells enc 0 d)) ++ os)[x]? = _
      rw [Array.getElem?_append_left (by simpa using hb), Array.getElem?_modify, if_pos rfl, hhb]
      simp only [Option.map_some, onCells, putCells_eq enc d cs hd]
    · simp only [Mem.setCells, Mem.upd_ne _ _ e] at hx
      exact other x o e (hM x o hx)
  · have e : x ≠ b := fun e => by subst e; rw [hFb] at hx; cases hx
    exact other x o e (hF x o hx)
  · by_cases e : x = b
    · subst e; exact .inr hFb
    · simp only [Mem.setCells, Mem.upd_ne _ _ e]; exact hdj x
theorem holds_of {α : Type} [Inhabited α] {M : Mem} {w : World} (hM : M.le (memOf w)) {b : Nat} {E : TypeId} {cs : List Value} (hh : M.has b E cs) (enc : α → Value) (l : List α) (h : cs.take l.length = l.map enc) : Holds enc w b 0 l.toArray := by
  have hhb : w.heap[b]? = some (.cells cs.toArray E (0, 0)) := hM _ _ hh
  intro j hj
  have hj : j < l.length := by simpa using hj
  constructor
  · simp only [World.cell?, hhb, Nat.zero_add]
    have : (cs.take l.length)[j]? = (l.map enc)[j]? := by rw [h]
    rw [List.getElem?_take_of_lt hj, List.getElem?_map, List.getElem?_eq_getElem hj] at this
    simp [this, hj]
  · simp [World.frozen?, hhb]
section
variable {P : Program} {ρ : Ren}
def sortedI (l : List Int) : List Int := l.mergeSort fun x y => decide (x ≤ y)
theorem sortI_ok (Ly : Lays.n189 P ρ) (he : enters P (ρ.f 189) = true) {M : Mem} {E : TypeId} {a : Option Addr} {n c : Nat} {l : List Int} (h : Wr M E 1 a n c (l.map (Value.int .i64))) (hn : n < 4611686018427387904) :
    CallsM P (ρ.f 189) [.slice a n c] M fun v M' => v = .tuple #[] ∧ Wr M' E 1 a n c ((sortedI l).map (Value.int .i64)) ∧ Mem.keep (blk a) M M' := by
  refine ⟨he, fun F w hM hF hdj => ?_⟩
  have hll : l.length = n := h.maplen
  obtain ⟨h1, h2, ⟨rfl, rfl⟩ | ⟨b, cs, rfl, hh, hcl, ht⟩⟩ := h
  · have : n = 0 := by omega
    subst this
    have : l = [] := by simpa using hll
    subst this
    refine (Any.slices_Sort_int_none Ly none 0 w).mono ?_
    rintro e w' ⟨rfl, rfl⟩
    exact ⟨_, M, rfl, ⟨rfl, ⟨by simp [sortedI], Nat.le_refl _, .inl ⟨rfl, rfl⟩⟩, Mem.keep_refl _ _⟩, hM, hF, hdj, rfl, rfl, rfl, Nat.le_refl _, Nat.le_refl _⟩
  · have hb : b < w.heap.size := (Array.getElem?_eq_some_iff.1 (hM _ _ hh)).1
    have hH := holds_of hM hh (Value.int .i64) l (by rw [hll]; simpa using ht)
    have hs := Any.slices_Sort_int Ly b 0 c l w hH hb (by omega)
    rw [hll] at hs
    refine hs.mono ?_
    rintro e w' ⟨rfl, q, os, rfl⟩
    have hsl : (sortedI l).length = l.length := List.length_mergeSort l
    have ht' := turned hM hF hdj hh (Value.int .i64) (sortedI l).toArray (by simp [hsl]; omega) q os
    refine ⟨_, M.setCells b E ((sortedI l).toArray.toList.map (Value.int .i64) ++ cs.drop (sortedI l).toArray.size), rfl, ⟨rfl, ⟨by simp [hsl, hll], h2, .inr ⟨b, _, rfl, Mem.has_setCells, ?_, ?_⟩⟩, ?_⟩, ht'⟩
    · simp [hsl, hll, hcl]; omega
    · simp only [List.size_toArray, hsl, hll]
      rw [List.take_append_of_le_length (by simp [hsl]; omega), List.take_of_length_le (by simp [hsl]; omega)]
    · intro x o hx hxo
      have e : x ≠ b := fun e => hx ⟨_, rfl, e.symm⟩
      simp only [Mem.setCells, Mem.upd_ne _ _ e]; exact hxo
theorem sortedI_perm (l : List Int) : (sortedI l).Perm l := List.mergeSort_perm l _
theorem sortedI_sorted (l : List Int) : (sortedI l).Pairwise (· ≤ ·) := by
  have := List.pairwise_mergeSort (le := fun (x y : Int) => decide (x ≤ y)) (fun a b c h1 h2 => by simp at *; omega) (fun a b => by simp; omega) l
  exact this.imp fun h => by simpa using h
end
end Go.Vm

/- The library's sort of structs by a function, as a contract over memory. -/
namespace Go.Vm
open Go.RowKit Go.Shelf Go.Sort Go.Proofs
theorem flat_at {α : Type} {enc : α → List Value} {k : Nat} (hk : ∀ x, (enc x).length = k) : ∀ (l : List α) (i j : Nat) (x : α), l[i]? = some x → j < k → (l.flatMap enc)[i * k + j]? = (enc x)[j]?
  | [], i, j, x, h, _ => by simp at h
  | y :: r, 0, j, x, h, hj => by
    simp at h; subst h
    rw [List.flatMap_cons, Nat.zero_mul, Nat.zero_add, List.getElem?_append_left (by rw [hk]; exact hj)]
  | y :: r, i + 1, j, x, h, hj => by
    have := flat_at hk r i j x (by simpa using h) hj
    rw [List.flatMap_cons, List.getElem?_append_right (by rw [hk, Nat.succ_mul]; omega), hk, ← this]
    congr 1
    rw [Nat.succ_mul]; omega
theorem flat_len {α : Type} {enc : α → List Value} {k : Nat} (hk : ∀ x, (enc x).length = k) (l : List α) : (l.flatMap enc).length = l.length * k := by
  induction l with
  | nil => simp
  | cons y r ih => simp [hk, ih, Nat.succ_mul, Nat.add_comm]
theorem flatK_eq {α : Type} [Inhabited α] {enc : α → List Value} {k : Nat} (hk : ∀ x, (enc x).length = k) (hk0 : 0 < k) (l : List α) : (flatK enc k l.toArray).toList = l.flatMap enc := by
  apply List.ext_getElem?
  intro t
  by_cases ht : t < l.length * k
  · have hi : t / k < l.length := (Nat.div_lt_iff_lt_mul hk0).2 ht
    have e : t = t / k * k + t % k := by rw [Nat.mul_comm]; exact (Nat.div_add_mod t k).symm
    have hj : t % k < k := Nat.mod_lt _ hk0
    have h1 := flat_at hk l (t / k) (t % k) l[t / k] (List.getElem?_eq_getElem hi) hj
    rw [← e] at h1
    rw [h1]
    have hs : t < (flatK enc k l.toArray).size := by rw [size_flatK]; simpa using ht
    have h2 := get_flatK enc k l.toArray t (by simpa using ht)
    rw [Array.getElem?_toList, Array.getElem?_eq_getElem hs]
    rw [getElem!_pos _ t hs] at h2
    rw [h2]
    have h3 : l.toArray[t / k]! = l[t / k] := by simp [hi]
    rw [h3, getElem!_pos _ _ (by rw [hk]; exact hj), List.getElem?_eq_getElem (by rw [hk]; exact hj)]
  · rw [List.getElem?_eq_none (by simp; omega), List.getElem?_eq_none (by rw [flat_len hk]; omega)]
section
variable {P : Program} {ρ : Ren} {α : Type} [Inhabited α]
/-- a function that lays nothing of the caller's anew: a world that has only grown -/
theorem grown_of {W w' : World} (hF : (memOf W).le (memOf w')) (ho : w'.os = W.os) (hp : w'.output = W.output) (ht : w'.tape = W.tape) (hs : W.heap.size ≤ w'.heap.size) (hd : W.drawn ≤ w'.drawn) : ∃ q os', w' = grow (W.drewN q) os' := by
  refine ⟨w'.drawn - W.drawn, w'.heap.extract W.heap.size w'.heap.size, ?_⟩
  obtain ⟨h, t, d, o, p⟩ := w'
  simp only at ho hp ht hs hd
  subst ho; subst hp; subst ht
  have e1 : h = W.heap ++ h.extract W.heap.size h.size := by
    apply Array.ext_getElem?
    intro i
    by_cases hi : i < W.heap.size
    · rw [Array.getElem?_append_left hi]
      have := hF i W.heap[i] (Array.getElem?_eq_getElem hi)
      rw [Array.getElem?_eq_getElem hi]
      exact this
    · rw [Array.getElem?_append_right (by omega), Array.getElem?_extract]
      by_cases h2 : i < h.size
      · rw [if_pos (by omega)]; congr 1; omega
      · rw [if_neg (by omega), Array.getElem?_eq_none (by omega)]
  have e2 : d = W.drawn + (d - W.drawn) := by omega
  show World.mk h W.tape d W.os W.output = World.mk (W.heap ++ h.extract W.heap.size h.size) W.tape (W.drawn + (d - W.drawn)) W.os W.output
  rw [← e1, ← e2]
theorem cmp_lays {g : Nat} {enc : α → List Value} {k : Nat} {cf : α → α → Int} (hcmp : ∀ x y, CallsM P g [.agg (enc x).toArray, .agg (enc y).toArray] Mem.empty fun v _ => v = .int .i64 (cf x y)) (blk off size : Nat) (w : World) : CmpLays P g #[] enc k cf blk off size w := by
  intro m os dk _ x y
  have h := (hcmp x y).2 (memOf (sortWorldK enc k w blk off m dk os)) (sortWorldK enc k w blk off m dk os) (Mem.empty_le _) (fun _ _ h => h) (fun _ => .inl rfl)
  exact Calls.mono h fun e w' ⟨v, M', he, hv, _, hF, _, ho, hp, ht, hs, hd⟩ => ⟨by rw [he, hv], grown_of hF ho hp ht hs hd⟩
theorem sortF_ok (L : SlLaysF0.n6 P ρ) (he : enters P (ρ.f 6) = true) {k : Nat} (hk0 : 0 < k) (aE : ∀ w, (isAgg (ρ.t 24)).run P w = .ok true w) (zE : ∀ w, (Go.sizeOf (ρ.t 24)).run P w = .ok k w) {enc : α → List Value} (hk : ∀ x, (enc x).length = k) (h1 : ∀ x, ∀ v ∈ enc x, v.oneCell' = true)
    {cf : α → α → Int} (hO : SWO (ltOf cf)) {g : Nat} (eg : ∀ args w, (callFunc g args).run P w = .ok (.enter g args) w) (hcmp : ∀ x y, CallsM P g [.agg (enc x).toArray, .agg (enc y).toArray] Mem.empty fun v _ => v = .int .i64 (cf x y))
    {M : Mem} {E : TypeId} {a : Option Addr} {n c : Nat} {l : List α} (h : Wr M E k a n c (l.flatMap enc)) (hn : n < 4611686018427387904) :
    CallsM P (ρ.f 6) [.slice a n c, .func (.func g) #[] #[]] M fun v M' => v = .tuple #[] ∧ ∃ l' : List α, l'.Perm l ∧ l'.Pairwise (fun x y => ¬ cf y x < 0) ∧ Wr M' E k a n c (l'.flatMap enc) ∧ Mem.keep (blk a) M M' := by
  refine ⟨he, fun F w hM hF hdj => ?_⟩
  obtain ⟨hl, hnc, h3⟩ := h
  have hll : l.length = n := by
    rw [flat_len hk] at hl; exact Nat.eq_of_mul_eq_mul_right hk0 hl
  rcases h3 with ⟨rfl, rfl⟩ | ⟨b, cs, rfl, hh, hcl, ht⟩
  · have : n = 0 := by omega
    subst this
    have : l = [] := by simpa using hll
    subst this
    refine Calls.mono (AnyF.slices_SortFunc_none L none 0 _ w) ?_
    rintro e w' ⟨rfl, rfl⟩
    exact ⟨_, M, rfl, ⟨rfl, [], .refl _, .nil, ⟨by simp, Nat.le_refl _, .inl ⟨rfl, rfl⟩⟩, Mem.keep_refl _ _⟩, hM, hF, hdj, rfl, rfl, rfl, Nat.le_refl _, Nat.le_refl _⟩
  · have hb : b < w.heap.size := (Array.getElem?_eq_some_iff.1 (hM _ _ hh)).1
    have hle : n * k ≤ c * k := Nat.mul_le_mul_right _ hnc
    have hH : HoldsK enc k w b 0 l.toArray := by
      have := holds_of (α := Value) hM hh id (l.flatMap enc) (by rw [flat_len hk, hll, List.map_id]; exact ht)
      unfold HoldsK
      have e : flatK enc k l.toArray = (l.flatMap enc).toArray := by rw [← flatK_eq hk hk0 l]
      rw [e]; exact this
    have hs := AnyQ.slices_SortFunc L k aE zE enc hk h1 cf hO g #[] b 0 c l.toArray w eg (cmp_lays hcmp b 0 _ w) hH hb (by simp; omega)
    have e0 : l.toArray.size = n := by simpa using hll
    rw [e0] at hs
    refine Calls.mono hs ?_
    rintro e w' ⟨rfl, d', q, os, hp, hsd, rfl⟩
    have hds : d'.size = n := by rw [hp.1, e0]
    obtain ⟨l', rfl⟩ : ∃ l' : List α, d' = l'.toArray := ⟨d'.toList, by simp⟩
    have hl' : l'.length = n := by simpa using hds
    have hperm : l'.Perm l := by
      have := hp.2.2
      simpa [hll, hl', List.take_of_length_le] using this
    have hsort : l'.Pairwise (fun x y => ¬ cf y x < 0) := by
      rw [List.pairwise_iff_getElem]
      intro i j hi hj hij
      have := hsd i j (Nat.zero_le _) hij (by omega)
      have ei : l'.toArray[i]! = l'[i] := by simp [hi]
      have ej : l'.toArray[j]! = l'[j] := by simp [hj]
      rw [ei, ej] at this
      simpa [ltOf] using this
    have e2 : flatK enc k l'.toArray = (l'.flatMap enc).toArray := by rw [← flatK_eq hk hk0 l']
    have ht' := turned hM hF hdj hh id (l'.flatMap enc).toArray (by simp only [List.size_toArray]; rw [flat_len hk, hl', hcl]; exact hle) q os
    unfold sortWorldK putRowK
    rw [e2]
    have hfl : (l'.flatMap enc).length = n * k := by rw [flat_len hk, hl']
    refine ⟨_, M.setCells b E ((l'.flatMap enc).toArray.toList.map id ++ cs.drop (l'.flatMap enc).toArray.size), rfl, ⟨rfl, l', hperm, hsort, ⟨hfl, hnc, .inr ⟨b, _, rfl, Mem.has_setCells, ?_, ?_⟩⟩, ?_⟩, ht'⟩
    · simp only [List.map_id, List.length_append, List.length_drop, List.size_toArray]; rw [hfl, hcl]; omega
    · simp only [List.map_id, List.size_toArray]
      rw [List.take_append_of_le_length (by rw [hfl]; omega), List.take_of_length_le (by rw [hfl]; omega)]
    · intro x o hx hxo
      have e : x ≠ b := fun e => hx ⟨_, rfl, e.symm⟩
      simp only [Mem.setCells, Mem.upd_ne _ _ e]; exact hxo
end
end Go.Vm

