/- Part of this proof; laid by program. -/
import Derived.Test.YtpdkkbpkplhdpaaGreatJ10
import Derived.Shelf.Spec.SlicesInsertGrow
import Derived.Sort.Grow
import Derived.Test.YtpdkkbpkplhdpaaGreatJ11
import Derived.Test.YtpdkkbpkplhdpaaGreatJ15
namespace Go.Vm
open Go.RowKit Go.Shelf Go.Sort Go.Proofs
def RowG (M : Mem) (E : TypeId) (a : Option Addr) (c : Nat) (l : List Int) : Prop :=
  (l.length ≤ c ∧ c ≤ maxLen) ∧ ((a = none ∧ c = 0) ∨ ∃ b o cs, a = some ⟨b, o, none⟩ ∧ M.has b E cs ∧ o + c ≤ cs.length ∧ (cs.drop o).take l.length = l.map (Value.int .i64))
def setAll (c : Array Value) : Nat → List Value → Array Value
  | _, [] => c
  | o, v :: r => setAll (c.setIfInBounds o v) (o + 1) r
theorem setCells_map (b : Nat) : ∀ (vs : List Value) (o : Nat) (w : World), w.setCells b o vs = mapBlock w b fun c => setAll c o vs
  | [], o, w => by
    show w = _
    rw [mapBlock_id]
    intro c e fr _; rfl
  | v :: r, o, w => by
    show (w.setCell ⟨b, o, none⟩ v).setCells b (o + 1) r = _
    rw [setCells_map b r (o + 1), setCell_eq, mapBlock_mapBlock]
    rfl
theorem setAll_eq : ∀ (vs : List Value) (o : Nat) (cs : List Value), o + vs.length ≤ cs.length → setAll cs.toArray o vs = (splice cs o vs).toArray
  | [], o, cs, h => by simp [setAll, splice]
  | v :: r, o, cs, h => by
    simp only [List.length_cons] at h
    have e : cs.toArray.setIfInBounds o v = (cs.set o v).toArray := by simp
    rw [setAll, e, setAll_eq r (o + 1) (cs.set o v) (by simp; omega)]
    congr 1
    unfold splice
    have h1 : (cs.set o v).take (o + 1) = cs.take o ++ [v] := by
      rw [List.take_add_one, List.take_set, List.set_eq_of_length_le (by simp; omega), List.getElem?_set_self (by omega)]; rfl
    have h2 : (cs.set o v).drop (o + 1 + r.length) = cs.drop (o + (v :: r).length) := by
      rw [List.drop_set_of_lt (by omega)]; congr 1; simp; omega
    rw [h1, h2]; simp
theorem splice_drop {cs V : List Value} {o k : Nat} (h : o + k ≤ cs.length) : (splice cs (o + k) V).drop o = splice (cs.drop o) k V := by
  unfold splice
  rw [List.append_assoc, List.drop_append_of_le_length (by simp; omega), List.drop_take, show o + k - o = k by omega, List.drop_drop, ← List.append_assoc]
  congr 2
  omega
theorem splice2 {A l : List Value} {i : Nat} {x : Value} (ht : A.take l.length = l) (hi : i ≤ l.length) (ha : l.length + 1 ≤ A.length) : (splice (splice A (i + 1) (l.drop i)) i [x]).take (l.length + 1) = l.take i ++ x :: l.drop i := by
  have h1 : A.take i = l.take i := by rw [← ht, List.take_take, Nat.min_eq_left hi]
  have h2 : (splice A (i + 1) (l.drop i)).take i = l.take i := by
    unfold splice
    rw [List.append_assoc, List.take_append_of_le_length (by simp; omega), List.take_take, Nat.min_eq_left (by omega), h1]
  have h3 : (splice A (i + 1) (l.drop i)).drop (i + 1) = l.drop i ++ A.drop (i + 1 + (l.drop i).length) := by
    unfold splice
    rw [List.append_assoc, List.drop_append_of_le_length (by simp; omega), List.drop_of_length_le (by simp; omega), List.nil_append]
  have e : splice (splice A (i + 1) (l.drop i)) i [x] = (l.take i ++ x :: l.drop i) ++ A.drop (i + 1 + (l.drop i).length) := by
    rw [splice, h2, show i + [x].length = i + 1 from rfl, h3]; simp
  rw [e, List.take_append_of_le_length (by simp; omega), List.take_of_length_le (by simp; omega)]
theorem splice3 {A l : List Value} {i : Nat} {x : Value} (ht : A.take i = l.take i) (hi : i ≤ l.length) (ha : l.length + 1 ≤ A.length) : (splice (splice A i [x]) (i + 1) (l.drop i)).take (l.length + 1) = l.take i ++ x :: l.drop i := by
  have h2 : (splice A i [x]).take (i + 1) = l.take i ++ [x] := by
    unfold splice
    rw [List.take_append_of_le_length (by simp; omega), ht, List.take_of_length_le (by simp; omega)]
  have e : splice (splice A i [x]) (i + 1) (l.drop i) = (l.take i ++ x :: l.drop i) ++ (splice A i [x]).drop (i + 1 + (l.drop i).length) := by
    rw [splice, h2]; simp
  rw [e, List.take_append_of_le_length (by simp; omega), List.take_of_length_le (by simp; omega)]
theorem modify_push {h : Array Obj} {o : Obj} {f : Obj → Obj} : (h.push o).modify h.size f = h.push (f o) := by
  apply Array.ext_getElem?
  intro k
  rw [Array.getElem?_modify]
  by_cases hk : h.size = k
  · subst hk; simp
  · rw [if_neg hk]
    by_cases h2 : k < h.size
    · rw [Array.getElem?_push_lt h2, Array.getElem?_push_lt h2]
    · rw [Array.getElem?_eq_none (by simp; omega), Array.getElem?_eq_none (by simp; omega)]
theorem turnedF {M F : Mem} {w w' : World} (hM : M.le (memOf w)) (hF : F.le (memOf w)) (hdj : M.disj F) {b : Nat} {E : TypeId} {cs cs' : List Value} (hh : M.has b E cs) (f : Array Value → Array Value) (hf : f cs.toArray = cs'.toArray) {q : Nat} (hw : w' = mapBlock (Sort.ahead w q) b f) :
    (M.setCells b E cs').le (memOf w') ∧ F.le (memOf w') ∧ (M.setCells b E cs').disj F ∧ w'.os = w.os ∧ w'.output = w.output ∧ w'.tape = w.tape ∧ w.heap.size ≤ w'.heap.size ∧ w.drawn ≤ w'.drawn := by
  subst hw
  have hhb : w.heap[b]? = some (.cells cs.toArray E (0, 0)) := hM _ _ hh
  have hb : b < w.heap.size := (Array.getElem?_eq_some_iff.1 hhb).1
  have hFb : F b = none := (hdj b).resolve_left (by unfold Mem.has at hh; rw [hh]; simp)
  have other : ∀ x o, x ≠ b → w.heap[x]? = some o → memOf (mapBlock (Sort.ahead w q) b f) x = some o := fun x o hx hxo => by
    show (w.heap.modify b (onCells f))[x]? = some o
    rw [Array.getElem?_modify, if_neg (Ne.symm hx)]
    exact hxo
  refine ⟨fun x o hx => ?_, fun x o hx => ?_, fun x => ?_, rfl, rfl, rfl, by simp [mapBlock], by simp [mapBlock]⟩
  · by_cases e : x = b
    · subst e
      simp only [Mem.setCells, Mem.upd_same, Option.some.injEq] at hx
      subst hx
      show (w.heap.modify x (onCells f))[x]? = _
      rw [Array.getElem?_modify, if_pos rfl, hhb]
      simp only [Option.map_some, onCells, hf]
    · simp only [Mem.setCells, Mem.upd_ne _ _ e] at hx
      exact other x o e (hM x o hx)
  · have e : x ≠ b := fun e => by subst e; rw [hFb] at hx; cases hx
    exact other x o e (hF x o hx)
  · by_cases e : x = b
    · subst e; exact .inr hFb
    · simp only [Mem.setCells, Mem.upd_ne _ _ e]; exact hdj x
theorem laidF {M F : Mem} {w w' : World} (hM : M.le (memOf w)) (hF : F.le (memOf w)) (hdj : M.disj F) {E : TypeId} {cs : List Value} (hh : w'.heap = w.heap.push (.cells cs.toArray E)) (ho : w'.os = w.os) (hp : w'.output = w.output) (ht : w'.tape = w.tape) (hd : w.drawn ≤ w'.drawn) :
    M w.heap.size = none ∧ (M.setCells w.heap.size E cs).le (memOf w') ∧ F.le (memOf w') ∧ (M.setCells w.heap.size E cs).disj F ∧ w'.os = w.os ∧ w'.output = w.output ∧ w'.tape = w.tape ∧ w.heap.size ≤ w'.heap.size ∧ w.drawn ≤ w'.drawn := by
  have hn : ∀ N : Mem, N.le (memOf w) → N w.heap.size = none := fun N hN => Mem.none_of_le hN (Nat.le_refl _)
  have other : ∀ x o, w.heap[x]? = some o → memOf w' x = some o := fun x o hx => by
    show w'.heap[x]? = some o
    have hlt : x < w.heap.size := (Array.getElem?_eq_some_iff.1 hx).1
    rw [hh, Array.getElem?_push_lt hlt, ← Array.getElem?_eq_getElem hlt]; exact hx
  refine ⟨hn M hM, fun x o hx => ?_, fun x o hx => other x o (hF x o hx), fun x => ?_, ho, hp, ht, by rw [hh]; simp, hd⟩
  · by_cases e : x = w.heap.size
    · subst e
      simp only [Mem.setCells, Mem.upd_same, Option.some.injEq] at hx
      subst hx
      show w'.heap[w.heap.size]? = _
      rw [hh]; simp
    · simp only [Mem.setCells, Mem.upd_ne _ _ e] at hx
      exact other x o (hM x o hx)
  · by_cases e : x = w.heap.size
    · subst e; exact .inr (hn F hF)
    · simp only [Mem.setCells, Mem.upd_ne _ _ e]; exact hdj x
theorem has_cell {M : Mem} {w : World} (hM : M.le (memOf w)) {b : Nat} {E : TypeId} {cs : List Value} (hh : M.has b E cs) (j : Nat) : w.cell? ⟨b, j, none⟩ = cs[j]? ∧ w.frozen? ⟨b, j, none⟩ = false ∧ w.shape? b = some (E, cs.length) := by
  have hhb : w.heap[b]? = some (.cells cs.toArray E (0, 0)) := hM _ _ hh
  refine ⟨by simp [World.cell?, hhb], by simp [World.frozen?, hhb], by simp [World.shape?, hhb]⟩
section
variable {P : Program} {ρ : Ren}
theorem insI_ok (L : Lays2.n21 P ρ) (he : enters P (ρ.f 21) = true) {M : Mem} {a : Option Addr} {c : Nat} {l : List Int} (h : RowG M (ρ.t 3) a c l) (hc : l.length ≤ 4194303) (i : Nat) (hi : i ≤ l.length) {vb vc : Nat} {x : Int} {E' : TypeId} (hv : M.has vb E' [.int .i64 x]) (hne : ∀ q, a = some q → q.block ≠ vb) :
    CallsM P (ρ.f 21) [.slice a l.length c, .int .i64 i, .slice (some ⟨vb, 0, none⟩) 1 vc] M fun v M' => ∃ a' c', v = .slice a' (l.length + 1) c' ∧ RowG M' (ρ.t 3) a' c' (l.take i ++ x :: l.drop i) ∧ Mem.keep (blk a) M M' ∧ ∀ q, a' = some q → blk a q.block ∨ M q.block = none := by
  refine ⟨he, fun F w hM hF hdj => ?_⟩
  have hvc := fun j => has_cell hM hv j
  have hvs : ∀ (j : Nat) v, ([Value.int .i64 x] : List Value)[j]? = some v → w.cell? ⟨vb, 0 + j, none⟩ = some v := fun j v hj => by rw [Nat.zero_add, (hvc j).1]; exact hj
  have h1v : ∀ v ∈ ([Value.int .i64 x] : List Value), v.oneCell' = true := by simp [Value.oneCell']
  have h1c : ∀ v ∈ l.map (Value.int .i64), v.oneCell' = true := by simp [Value.oneCell']
  have hll : (l.map (Value.int .i64)).length = l.length := by simp
  have hnew : ∀ (w' : World) (cells : List Value) (c' : Nat), cells.length = c' → (l.length + 1 ≤ c' ∧ c' ≤ maxLen) → cells.take (l.length + 1) = (l.take i ++ x :: l.drop i).map (Value.int .i64) →
      w'.heap = w.heap.push (.cells cells.toArray (ρ.t 3)) → w'.os = w.os → w'.output = w.output → w'.tape = w.tape → w.drawn ≤ w'.drawn →
      ∃ v M', (Ending.returned (.slice (some ⟨w.heap.size, 0, none⟩) (l.length + 1) c')) = .returned v ∧ (∃ a' c', v = .slice a' (l.length + 1) c' ∧ RowG M' (ρ.t 3) a' c' (l.take i ++ x :: l.drop i) ∧ Mem.keep (blk a) M M' ∧ ∀ q, a' = some q → blk a q.block ∨ M q.block = none) ∧
        M'.le (memOf w') ∧ F.le (memOf w') ∧ M'.disj F ∧ w'.os = w.os ∧ w'.output = w.output ∧ w'.tape = w.tape ∧ w.heap.size ≤ w'.heap.size ∧ w.drawn ≤ w'.drawn := fun w' cells c' hcl hcc ht hh ho hp htt hd => by
    obtain ⟨hn, hrest⟩ := laidF hM hF hdj hh ho hp htt hd
    have hlen : (l.take i ++ x :: l.drop i).length = l.length + 1 := by simp; omega
    refine ⟨_, M.setCells w.heap.size (ρ.t 3) cells, rfl, ⟨_, _, rfl, ⟨by rw [hlen]; exact hcc, .inr ⟨_, 0, cells, rfl, Mem.has_setCells, by omega, by rw [hlen]; exact ht⟩⟩, ?_, fun q hq => by cases hq; exact .inr hn⟩, hrest⟩
    exact Mem.keep_of_le (Mem.le_setCells hn)
  have hins : ∀ cs : List Value, (cs.take l.length = l.map (Value.int .i64)) → True := fun _ _ => trivial
  obtain ⟨⟨hlc, hcM⟩, ⟨rfl, rfl⟩ | ⟨b, o, cs, rfl, hh, hoc, ht⟩⟩ := h
  · have hl0 : l = [] := List.eq_nil_of_length_eq_zero (by omega)
    subst hl0
    have hi0 : i = 0 := by simpa using hi
    subst hi0
    refine Calls.mono (Any2.slices_Insert_int_end_grow L none 0 0 vb 0 1 vc [] [.int .i64 x] w (by decide) (by decide) (by decide) (by decide) rfl rfl (fun _ => rfl) (fun a ha => by cases ha) hvs h1v) ?_
    rintro e w' ⟨rfl, rfl⟩
    have hge : 0 + 1 ≤ grownCap w (0 + 1) 0 (ρ.t 3) ∧ grownCap w (0 + 1) 0 (ρ.t 3) ≤ maxLen := ⟨grownCap_ge w (0 + 1) 0 (ρ.t 3), grownCap_le_maxLen w (0 + 1) 0 (ρ.t 3) (by simp [maxLen])⟩
    generalize grownCap w (0 + 1) 0 (ρ.t 3) = g at *
    refine hnew _ ([.int .i64 x] ++ (Builtin.zeroCells (Value.int .i64 0).cells (g - (0 + 1))).toList) g ?_ hge ?_ ?_ rfl rfl rfl (Nat.le_succ _)
    · simp [Builtin.zeroCells, Value.cells]; omega
    · simp
    · show (w.heap.push _) = _
      congr 2
      simp
  · have hcell := fun j => has_cell hM hh j
    have hget : ∀ (j : Nat) v, (l.map (Value.int .i64))[j]? = some v → w.cell? ⟨b, o + j, none⟩ = some v := fun j v hj => by
      rw [(hcell _).1]
      rw [← ht] at hj
      have hlt := (List.getElem?_eq_some_iff.1 hj).1
      rw [List.getElem?_take_of_lt (by simp at hlt; omega), List.getElem?_drop] at hj
      exact hj
    have hbv : vb ≠ b := fun e => hne _ rfl e.symm
    by_cases hroom : l.length + 1 ≤ c
    ·
      have fin : ∀ (w' : World) (q : Nat) (f : Array Value → Array Value) (cs' : List Value), f cs.toArray = cs'.toArray → w' = mapBlock (Sort.ahead w q) b f → cs'.length = cs.length → (cs'.drop o).take (l.length + 1) = (l.take i ++ x :: l.drop i).map (Value.int .i64) →
          ∃ v M', (Ending.returned (.slice (some ⟨b, o, none⟩) (l.length + 1) c)) = .returned v ∧ (∃ a' c', v = .slice a' (l.length + 1) c' ∧ RowG M' (ρ.t 3) a' c' (l.take i ++ x :: l.drop i) ∧ Mem.keep (blk (some ⟨b, o, none⟩)) M M' ∧ ∀ q, a' = some q → blk (some ⟨b, o, none⟩) q.block ∨ M q.block = none) ∧
            M'.le (memOf w') ∧ F.le (memOf w') ∧ M'.disj F ∧ w'.os = w.os ∧ w'.output = w.output ∧ w'.tape = w.tape ∧ w.heap.size ≤ w'.heap.size ∧ w.drawn ≤ w'.drawn := fun w' q f cs' hf hw hcl ht' => by
        have hlen : (l.take i ++ x :: l.drop i).length = l.length + 1 := by simp; omega
        refine ⟨_, M.setCells b (ρ.t 3) cs', rfl, ⟨_, _, rfl, ⟨by rw [hlen]; exact ⟨hroom, hcM⟩, .inr ⟨b, o, cs', rfl, Mem.has_setCells, by omega, by rw [hlen]; exact ht'⟩⟩, ?_, fun q hq => by cases hq; exact .inl ⟨_, rfl, rfl⟩⟩, turnedF hM hF hdj hh f hf hw⟩
        intro y o' hy hyo
        have e : y ≠ b := fun e => hy ⟨_, rfl, e.symm⟩
        simp only [Mem.setCells, Mem.upd_ne _ _ e]; exact hyo
      by_cases hend : i = l.length
      · subst hend
        refine Calls.mono (Any2.slices_Insert_int_end_room L b o l.length c vb 0 1 vc [.int .i64 x] w (by decide) hroom (by simp [maxLen] at hcM; omega) rfl (fun j hj => by rw [(hcell _).1, List.getElem?_eq_getElem (by omega)]; rfl) (fun j _ => (hcell _).2.1) hvs h1v) ?_
        rintro e w' ⟨rfl, rfl⟩
        rw [setCells_map]
        refine fin _ 0 _ (splice cs (o + l.length) [.int .i64 x]) (setAll_eq _ _ _ (by simp; omega)) rfl (by simp [splice]; omega) ?_
        unfold splice
        rw [List.append_assoc, List.drop_append_of_le_length (by simp; omega), List.drop_take, show o + l.length - o = l.length by omega, ht]
        rw [List.take_append, List.take_of_length_le (by simp)]
        simp
      · refine Calls.mono (Any2.slices_Insert_int_shift L b o l.length c i vb 0 1 vc (l.map (Value.int .i64)) [.int .i64 x] w (by omega) (by decide) hroom (by simp [maxLen] at hcM; omega) hbv hll rfl hget (fun j hj => by rw [(hcell _).1, List.getElem?_eq_getElem (by omega)]; rfl) (fun j _ => (hcell _).2.1) hvs h1c h1v E' (ρ.t 3) 1 cs.length (hvc 0).2.2 (hcell 0).2.2 (by omega) (hvc 0).2.1 (hvc 1).2.1) ?_
        rintro e w' ⟨rfl, rfl⟩
        rw [setCells_map, setCells_map, mapBlock_mapBlock]
        have hdl : ((l.map (Value.int .i64)).drop i).length = l.length - i := by simp
        have s1 : (splice cs (o + (i + 1)) ((l.map (Value.int .i64)).drop i)).length = cs.length := by unfold splice; simp; omega
        refine fin _ 1 _ (splice (splice cs (o + (i + 1)) ((l.map (Value.int .i64)).drop i)) (o + i) [.int .i64 x]) ?_ rfl (by unfold splice at s1 ⊢; simp at s1 ⊢; omega) ?_
        · show setAll (setAll cs.toArray (o + (i + 1)) ((l.map (Value.int .i64)).drop i)) (o + i) [.int .i64 x] = _
          rw [setAll_eq ((l.map (Value.int .i64)).drop i) (o + (i + 1)) cs (by rw [hdl]; omega), setAll_eq [.int .i64 x] (o + i) _ (by rw [s1]; simp; omega)]
        · have hz := splice2 (A := cs.drop o) (l := l.map (Value.int .i64)) (i := i) (x := .int .i64 x) (by simpa using ht) (by simp; omega) (by simp; omega)
          rw [hll] at hz
          rw [splice_drop (by rw [s1]; omega), splice_drop (by omega), hz]
          simp
    · have hcl : c < l.length + 1 := by omega
      have hge : l.length + 1 ≤ grownCap w (l.length + 1) c (ρ.t 3) ∧ grownCap w (l.length + 1) c (ρ.t 3) ≤ maxLen := ⟨grownCap_ge w (l.length + 1) c (ρ.t 3), grownCap_le_maxLen w (l.length + 1) c (ρ.t 3) (by simp [maxLen]; omega)⟩
      by_cases hend : i = l.length
      · subst hend
        refine Calls.mono (Any2.slices_Insert_int_end_grow L (some ⟨b, o, none⟩) l.length c vb 0 1 vc (l.map (Value.int .i64)) [.int .i64 x] w (by decide) hlc hcl (by omega) hll rfl (fun h => by cases h) (fun a ha j v hj => by cases ha; rw [Addr.add_lit]; exact hget j v hj) hvs h1v) ?_
        rintro e w' ⟨rfl, rfl⟩
        refine hnew _ (l.map (Value.int .i64) ++ [.int .i64 x] ++ (Builtin.zeroCells (Value.int .i64 0).cells (grownCap w (l.length + 1) c (ρ.t 3) - (l.length + 1))).toList) (grownCap w (l.length + 1) c (ρ.t 3)) ?_ hge ?_ ?_ rfl rfl rfl (Nat.le_succ _)
        · simp [Builtin.zeroCells, Value.cells]; omega
        · rw [List.take_append_of_le_length (by simp), List.take_of_length_le (by simp)]; simp
        · show (w.heap.push _) = _
          congr 2
          simp
      · refine Calls.mono (Any2.slices_Insert_int_grow L b o l.length c i vb 0 1 vc (l.map (Value.int .i64)) [.int .i64 x] w (by omega) (by decide) hlc hcl (by omega) hll rfl hget hvs h1c h1v) ?_
        rintro e w' ⟨rfl, rfl⟩
        generalize grownCap w (l.length + 1) c (ρ.t 3) = g at *
        have hdl : ((l.map (Value.int .i64)).drop i).length = l.length - i := by simp
        obtain ⟨C0, hC0⟩ : ∃ C0 : List Value, C0 = (l.map (Value.int .i64)).take i ++ (Builtin.zeroCells (Value.int .i64 0).cells (l.length + 1 - i)).toList ++ (Builtin.zeroCells (Value.int .i64 0).cells (g - (l.length + 1))).toList := ⟨_, rfl⟩
        have hC : (((l.map (Value.int .i64)).take i).toArray ++ Builtin.zeroCells (Value.int .i64 0).cells (l.length + 1 - i) ++ Builtin.zeroCells (Value.int .i64 0).cells (g - (l.length + 1))) = C0.toArray := by rw [hC0]; simp
        have hCl : C0.length = g := by rw [hC0]; simp [Builtin.zeroCells, Value.cells]; omega
        have hCt : C0.take i = (l.map (Value.int .i64)).take i := by rw [hC0, List.append_assoc, List.take_append_of_le_length (by simp; omega), List.take_of_length_le (by simp; omega)]
        have s1 : (splice C0 i [Value.int .i64 x]).length = C0.length := by unfold splice; simp; omega
        rw [hC]
        refine hnew _ (splice (splice C0 i [.int .i64 x]) (i + 1) ((l.map (Value.int .i64)).drop i)) g ?_ hge ?_ ?_ ?_ ?_ ?_ ?_
        · unfold splice at s1 ⊢; simp at s1 ⊢; omega
        · have hz := splice3 (A := C0) (l := l.map (Value.int .i64)) (i := i) (x := .int .i64 x) hCt (by simp; omega) (by simp; omega)
          rw [hll] at hz
          rw [hz]
          simp
        · rw [setCells_map, setCells_map]
          show ((w.heap.push (Obj.cells C0.toArray (ρ.t 3))).modify w.heap.size _).modify w.heap.size _ = _
          rw [modify_push, modify_push]
          congr 1
          show Obj.cells (setAll (setAll C0.toArray i [.int .i64 x]) (i + 1) ((l.map (Value.int .i64)).drop i)) (ρ.t 3) _ = _
          rw [setAll_eq [.int .i64 x] i C0 (by simp; omega), setAll_eq _ (i + 1) _ (by rw [s1, hdl]; omega)]
        · rw [setCells_map, setCells_map]; rfl
        · rw [setCells_map, setCells_map]; rfl
        · rw [setCells_map, setCells_map]; rfl
        · rw [setCells_map, setCells_map]; exact Nat.le_trans (Nat.le_succ _) (Nat.le_succ _)
end
end Go.Vm
namespace Go.Proofs.YtpdkkbpkplhdpaaGreat
open Go Go.Vm
attribute [local irreducible] Brn Ob Grow CallsM inR LoopVC LoopVC0 Mem.row Mem.cells Mem.setCells Mem.upd Go.Vm.Own AppVC SrcVC StrVC NextVC New SrcOk subA NewSl Mem.textAt Mem.mapAt Mem.iterAt entryOf kfind Wr NewEls Elems
set_option maxRecDepth 10000
section
@[reducible] def keyV (k : Int × Int) : Value := .agg #[.int .i64 k.1, .int .i64 k.2]
theorem keyK : KeyOk keyV := by
  intro a b
  obtain ⟨a1, a2⟩ := a
  obtain ⟨b1, b2⟩ := b
  simp only [sameV, sameCs, if_true, Prod.mk.injEq]
  (repeat' split) <;> simp_all
structure Ent where
  r : Nat
  a : Option Addr
  c : Nat
  up : Int
  more : List Int
def RowI (M : Mem) (a : Option Addr) (c : Nat) (l : List Int) : Prop :=
  (l.length ≤ c ∧ c ≤ maxLen) ∧ ((a = none ∧ c = 0) ∨ ∃ b o cs, a = some ⟨b, o, none⟩ ∧ M.has b T.int cs ∧ o + c ≤ cs.length ∧ (cs.drop o).take l.length = l.map intV)
structure EntAt (M : Mem) (x : Ent) : Prop where
  self : M.has x.r T.seen_row [.int .i64 x.up, .slice x.a x.more.length x.c]
  more : RowI M x.a x.c x.more
theorem RowI.src {M : Mem} {a : Option Addr} {c : Nat} {l : List Int} (h : RowI M a c l) : SrcOk M 1 a l.length (l.map intV) := by
  obtain ⟨hc, ⟨rfl, rfl⟩ | ⟨b, o, cs, rfl, hh, ho, ht⟩⟩ := h
  · have : l = [] := List.eq_nil_of_length_eq_zero (by omega)
    subst this
    unfold SrcOk
    exact ⟨rfl, .inl rfl⟩
  · unfold SrcOk
    refine ⟨by simp, .inr ⟨b, o, rfl, ?_⟩⟩
    rw [hh.row (by omega), Nat.mul_one]; rw [ht]
theorem RowI.mono {M M' : Mem} {a : Option Addr} {c : Nat} {l : List Int} (h : RowI M a c l) (hk : ∀ q o, a = some q → M q.block = some o → M' q.block = some o) : RowI M' a c l := by
  obtain ⟨hc, h1 | ⟨b, o, cs, rfl, hh, hr⟩⟩ := h
  · exact ⟨hc, .inl h1⟩
  · exact ⟨hc, .inr ⟨b, o, cs, rfl, hk _ _ rfl hh, hr⟩⟩
theorem RowI.block {M : Mem} {a : Option Addr} {c : Nat} {l : List Int} (h : RowI M a c l) {q : Addr} (hq : a = some q) : ∃ cs, M.has q.block T.int cs := by
  obtain ⟨hc, ⟨h1, _⟩ | ⟨b, o, cs, rfl, hh, hr⟩⟩ := h
  · rw [h1] at hq; cases hq
  · cases hq; exact ⟨cs, hh⟩
def Ent.own (x : Ent) : Nat → Prop := fun y => y = x.r ∨ blk x.a y
theorem EntAt.mono {M M' : Mem} {x : Ent} (h : EntAt M x) (hk : ∀ y o, x.own y → M y = some o → M' y = some o) : EntAt M' x :=
  ⟨hk _ _ (.inl rfl) h.self, h.more.mono fun q o hq => hk _ o (.inr ⟨q, hq, rfl⟩)⟩
theorem EntAt.le {M M' : Mem} {x : Ent} (h : EntAt M x) (hle : M.le M') : EntAt M' x := h.mono fun y o _ => hle y o
def apartE (x y : Ent) : Prop := ∀ z, x.own z → ¬ y.own z
@[reducible] def entV (x : Ent) : Value := ptr x.r
structure SetAt (M : Mem) (p b : Nat) (gaps : Int) (es : List ((Int × Int) × Ent)) : Prop where
  self : M.has p T.seen_Set [.int .i64 gaps, .map (some b)]
  map : MapAt keyV entV M b es
  ents : ∀ q ∈ es, EntAt M q.2
  apart : es.Pairwise fun x y => apartE x.2 y.2
theorem SetAt.le {M M' : Mem} {p b : Nat} {gaps : Int} {es : List ((Int × Int) × Ent)} (h : SetAt M p b gaps es) (hle : M.le M') : SetAt M' p b gaps es :=
  ⟨h.self.le hle, h.map.mono fun o => hle _ o, fun q hq => (h.ents q hq).le hle, h.apart⟩
theorem EntAt.nomap {M : Mem} {x : Ent} (h : EntAt M x) {b : Nat} {es : List ((Int × Int) × Ent)} (hm : MapAt keyV entV M b es) : ¬ x.own b := by
  rintro (e | ⟨q, hq, e⟩)
  · exact hm.nb h.self e.symm
  · obtain ⟨cs, hh⟩ := h.more.block hq
    exact hm.nb hh e
variable {M : Mem} {p b : Nat} {gaps : Int} {es : List ((Int × Int) × Ent)}
theorem New_ok (gaps : Int) : CallsM Tryz.prog F.seen_New [.int .i64 gaps] M fun v M' =>
    ((gaps < 0 ∨ 256 < gaps) ∧ v = .tuple #[.pointer none, .int .i64 1] ∧ M' = M) ∨
    (¬ (gaps < 0 ∨ 256 < gaps) ∧ ∃ p b, v = .tuple #[ptr p, .int .i64 0] ∧ M p = none ∧ M b = none ∧ M.le M' ∧ SetAt M' p b gaps []) := by
  refine fo_seen_New (by simp) ?_
  (conv => whnf); refine brn (fun h => ?_) (fun h => ?_)
  · refine zR ?_
    exact .inl ⟨.inl (of_decide_eq_true h), rfl, rfl⟩
  (conv => whnf); refine brn (fun h1 => ?_) (fun h1 => ?_)
  · (conv => whnf)
    exact .inl ⟨.inr (of_decide_eq_true h1), rfl, rfl⟩
  · (conv => whnf); refine new (fun b hb => ?_)
    replace hb : M b = none := hb
    (conv => whnf); refine new (fun p hp => ?_)
    replace hp : (M.upd b (.map #[] 0)) p = none := hp
    have hne : p ≠ b := fun e => by subst e; rw [Mem.upd_same] at hp; cases hp
    rw [Mem.upd_ne _ _ hne] at hp
    (conv => whnf)
    have hn : ¬ (gaps < 0 ∨ 256 < gaps) := by
      have := of_decide_eq_false h
      have := of_decide_eq_false h1
      omega
    refine .inr ⟨hn, p, b, rfl, hp, hb, Mem.le_trans (Mem.le_upd hb) (Mem.le_setCells (by rw [Mem.upd_ne _ _ hne]; exact hp)), Mem.has_setCells, ?_, by simp, by simp⟩
    refine (MapAt.new M b).mono fun o ho => ?_
    unfold Mem.setCells
    rw [Mem.upd_ne _ _ (Ne.symm hne)]; exact ho
theorem of_ok (h : SetAt M p b gaps es) (o d e c : Int) : CallsM Tryz.prog F.seen_Set_of [ptr p, .agg #[.int .i64 o, .int .i64 d, .int .i64 e, .int .i64 c]] M fun v M' =>
    (∃ x, aget es (o, e) = some x ∧ v = ptr x.r ∧ M' = M) ∨
    (aget es (o, e) = none ∧ ∃ r, v = ptr r ∧ M r = none ∧ M' = M.setCells r T.seen_row [.int .i64 0, .slice none 0 0]) := by
  refine fo_seen_Set_of (by simp) ?_
  refine zR ?_
  refine on (h.self.c1 rfl) ?_
  (conv => whnf)
  refine h.map.get keyK (o, e) (fun hn => ?_) (fun x j hx => ?_)
  · refine zR ?_
    refine new (fun r hr => ?_)
    replace hr : M r = none := hr
    (conv => whnf)
    exact .inr ⟨hn, r, rfl, hr, rfl⟩
  · refine zR ?_
    exact .inl ⟨x, hx, rfl, rfl⟩
end
section
set_option maxRecDepth 10000 in
theorem index_ok (a : Option Addr) (n c : Nat) (x : Int) (M : Mem) (l : List Int) (hs : SrcOk M 1 a n (l.map intV)) (hn : n ≤ 4194304) :
    CallsM Tryz.prog F.slices_Index_int_int [.slice a n c, .int .i64 x] M fun v M' => (∃ i : Int, v = .int .i64 i ∧ (0 ≤ i ↔ x ∈ l)) ∧ M = M' := by
  refine fo_slices_Index_int_int (by simp) ?_
  have hl := hs.maplen
  (conv => whnf)
  refine loopQ [8] (fun (i : Nat) => [(8, .int .i64 i)]) (fun i => i ≤ n ∧ x ∉ l.take i) (fun i => n - i) 0 ⟨by omega, by simp⟩ zS ?_
  intro i ⟨hi, hnot⟩
  (conv => whnf); refine brn (fun h => ?_) (fun h => ?_)
  · simp only [decide_eq_true_eq] at h
    obtain ⟨hlt, b, o, rfl, hrow⟩ := hs.at (i := i) (by omega)
    (conv => whnf); refine ob (by omega) ?_
    (conv => whnf); refine on hrow ?_
    (conv => whnf); refine brn (fun g => ?_) (fun g => ?_)
    · (conv => whnf)
      refine ⟨⟨i, rfl, ?_⟩, rfl⟩
      simp only [decide_eq_true_eq] at g
      subst g
      exact ⟨fun _ => List.getElem_mem _, fun _ => by omega⟩
    · (conv => whnf); refine ob (inR_i64 (by omega)) ?_
      (conv => whnf)
      refine ⟨i + 1, ⟨by omega, ?_⟩, by omega, zS⟩
      simp only [decide_eq_false_iff_not] at g
      rw [List.take_add_one, List.getElem?_eq_getElem hlt]
      simp only [Option.toList_some, List.mem_append, List.mem_singleton, not_or]
      exact ⟨hnot, g⟩
  · (conv => whnf)
    simp only [decide_eq_false_iff_not] at h
    refine ⟨⟨-1, rfl, ?_⟩, rfl⟩
    rw [List.take_of_length_le (by omega)] at hnot
    simp [hnot]
theorem contains_ok (a : Option Addr) (n c : Nat) (x : Int) (M : Mem) (l : List Int) (hs : SrcOk M 1 a n (l.map intV)) (hn : n ≤ 4194304) :
    CallsM Tryz.prog F.slices_Contains_int_int [.slice a n c, .int .i64 x] M fun v M' => v = .bool (decide (x ∈ l)) ∧ M = M' := by
  refine fo_slices_Contains_int_int (by simp) ?_
  (conv => whnf); refine (index_ok a n c x M l hs hn).mono ?_
  rintro v M' ⟨⟨i, rfl, hi⟩, rfl⟩
  (conv => whnf)
  exact ⟨by simp [hi], rfl⟩
variable {M : Mem} {p b : Nat} {gaps : Int} {es : List ((Int × Int) × Ent)}
def upOf (es : List ((Int × Int) × Ent)) (k : Int × Int) : Int := match aget es k with | some x => x.up | none => 0
def moreOf (es : List ((Int × Int) × Ent)) (k : Int × Int) : List Int := match aget es k with | some x => x.more | none => []
def hasE (es : List ((Int × Int) × Ent)) (o d e c : Int) : Bool := decide (idErr o d e c = 0) && (decide (c ≤ upOf es (o, e)) || decide (c ∈ moreOf es (o, e)))
def gapsE (es : List ((Int × Int) × Ent)) : Nat := (es.map fun q => q.2.more.length).sum
theorem gapsE_perm {l r : List ((Int × Int) × Ent)} (h : l.Perm r) : gapsE l = gapsE r := (h.map _).sum_nat
theorem gapsE_le {q : (Int × Int) × Ent} : ∀ {es : List ((Int × Int) × Ent)}, q ∈ es → q.2.more.length ≤ gapsE es
  | [], h => by cases h
  | x :: r, h => by
    simp only [gapsE, List.map_cons, List.sum_cons]
    rcases List.mem_cons.1 h with rfl | h
    · omega
    · have := gapsE_le h
      simp only [gapsE] at this
      omega
def GoodE (es : List ((Int × Int) × Ent)) : Prop := ∀ q ∈ es, 0 ≤ q.2.up ∧ q.2.up ≤ 65535
theorem Has_ok (h : SetAt M p b gaps es) (hg : gapsE es ≤ 4194304) (o d e c : Int) : CallsM Tryz.prog F.seen_Set_Has [ptr p, .agg #[.int .i64 o, .int .i64 d, .int .i64 e, .int .i64 c]] M fun v M' => v = .bool (hasE es o d e c) ∧ M.le M' := by
  refine fo_seen_Set_Has (by simp) ?_
  (conv => whnf); refine brn_f rfl ?_
  (conv => whnf); refine (check_ok o d e c M).mono ?_
  rintro v _ ⟨rfl, rfl⟩
  (conv => whnf); refine brn (fun g => ?_) (fun g => ?_)
  · (conv => whnf)
    have : ¬ idErr o d e c = 0 := by simpa using g
    exact ⟨by simp [hasE, this], Mem.le_refl _⟩
  have hok : idErr o d e c = 0 := by simpa using g
  (conv => whnf); refine (of_ok h o d e c).mono ?_
  rintro v M1 (⟨x, hx, rfl, rfl⟩ | ⟨hn, r, rfl, hr, rfl⟩)
  · have hxe := h.ents _ (aget_mem hx)
    have hlen : x.more.length ≤ 4194304 := Nat.le_trans (gapsE_le (aget_mem hx)) hg
    (conv => whnf); refine on (hxe.self.c1 rfl) ?_
    (conv => whnf); refine brn (fun g1 => ?_) (fun g1 => ?_)
    · have g1' : c ≤ x.up := of_decide_eq_true g1
      refine zR ?_
      exact ⟨by simp [hasE, hok, upOf, hx, g1'], Mem.le_refl _⟩
    · have g1' : ¬ c ≤ x.up := of_decide_eq_false g1
      (conv => whnf); refine on (hxe.self.c1 rfl) ?_
      refine zU ?_
      refine (contains_ok x.a x.more.length x.c c _ x.more hxe.more.src hlen).mono ?_
      rintro v _ ⟨rfl, rfl⟩
      (conv => whnf)
      exact ⟨by simp [hasE, hok, upOf, moreOf, hx, g1'], Mem.le_refl _⟩
  · have hle : M.le (M.setCells r T.seen_row [.int .i64 0, .slice none 0 0]) := Mem.le_setCells hr
    have hh := Mem.has_setCells (M := M) (b := r) (E := T.seen_row) (l := [.int .i64 0, .slice none 0 0])
    obtain ⟨M1, hM1⟩ : ∃ M1, M1 = M.setCells r T.seen_row [.int .i64 0, .slice none 0 0] := ⟨_, rfl⟩
    rw [← hM1] at hle hh ⊢
    have hc : 1 ≤ c := by unfold idErr at hok; split at hok <;> (try cases hok); omega
    (conv => whnf); refine on (hh.c1 rfl) ?_
    (conv => whnf); refine brn_f (by simp; omega) ?_
    (conv => whnf); refine on (hh.c1 rfl) ?_
    refine zU ?_
    refine (contains_ok none 0 0 c M1 [] (SrcOk.nil M1 1) (by omega)).mono ?_
    rintro v _ ⟨rfl, rfl⟩
    (conv => whnf)
    have hlt : ¬ c ≤ 0 := by omega
    exact ⟨by simp [hasE, hok, upOf, moreOf, hn, hlt], hle⟩
theorem Gaps_ok (h : SetAt M p b gaps es) (hg : gapsE es ≤ 4611686018427387904) : CallsM Tryz.prog F.seen_Set_Gaps [ptr p] M fun v M' => v = .int .i64 (gapsE es) ∧ M.le M' := by
  refine fo_seen_Set_Gaps (by simp) ?_
  (conv => whnf); refine brn_t rfl ?_
  (conv => whnf); refine on (h.self.c1 rfl) ?_
  (conv => whnf)
  refine h.map.range fun q bi hbi hI => ?_
  replace hbi : M bi = none := hbi
  (conv => whnf)
  refine loopF (σ := Mem × Nat × List ((Int × Int) × Ent)) [3] (fun x => [(3, .int .i64 x.2.1)]) (fun _ => []) (fun x => x.1)
    (fun | ⟨M1, n, todo⟩ => M.le M1 ∧ Iter keyV entV M1 bi b es todo ∧ n + gapsE todo = gapsE es) (fun x => x.2.2.length) ⟨_, 0, es⟩
    ⟨Mem.le_upd hbi, hI, by omega⟩ zS ?_
  rintro ⟨M1, n, todo⟩ ⟨hle, hI1, hsum⟩
  (conv => whnf)
  refine hI1.next (fun h0 => ?_) (fun i k todo' o' hperm hI2 hent => ?_)
  · subst h0
    refine zR ?_
    refine ⟨?_, hle⟩
    have : gapsE [] = 0 := rfl
    congr 1
    dsimp only
    omega
  · have hle2 : M.le (M1.upd bi o') := fun y o hb => by
      rw [Mem.upd_ne _ _ (fun e => by subst e; rw [hbi] at hb; cases hb)]; exact hle _ _ hb
    obtain ⟨M2, hM2⟩ : ∃ M2, M2 = M1.upd bi o' := ⟨_, rfl⟩
    rw [← hM2] at hI2 hent hle2
    have hmem : (i, k) ∈ es := hI1.todo_sub _ (hperm.mem_iff.2 (by simp))
    have hke := (h.le hle2).ents _ hmem
    have hs := gapsE_perm hperm
    simp only [gapsE, List.map_cons, List.sum_cons] at hs
    have hsum' : n + k.more.length + gapsE todo' = gapsE es := by simp only [gapsE] at hsum ⊢; omega
    (conv => whnf)
    erw [← hM2]
    refine zR ?_
    refine on hent ?_
    (conv => whnf); refine on (hke.self.c1 rfl) ?_
    (conv => whnf); refine ob (inR_i64 (by dsimp only; omega)) ?_
    (conv => whnf)
    refine ⟨⟨M2, n + k.more.length, todo'⟩, ⟨hle2, hI2, hsum'⟩, by have := hperm.length_eq; simp at this ⊢; omega, zS⟩
def mayE (gaps : Int) (es : List ((Int × Int) × Ent)) (o d e c : Int) : Int :=
  if idErr o d e c ≠ 0 then idErr o d e c else if hasE es o d e c then 5 else if c ≠ upOf es (o, e) + 1 ∧ gaps ≤ gapsE es then 6 else 0
theorem upOf_range (hgd : GoodE es) (k : Int × Int) : 0 ≤ upOf es k ∧ upOf es k ≤ 65535 := by
  unfold upOf
  cases hx : aget es k with
  | none => dsimp only; omega
  | some x => exact hgd _ (aget_mem hx)
theorem May_ok (h : SetAt M p b gaps es) (hg : gapsE es ≤ 4194304) (hgd : GoodE es) (o d e c : Int) : CallsM Tryz.prog F.seen_Set_May [ptr p, .agg #[.int .i64 o, .int .i64 d, .int .i64 e, .int .i64 c]] M fun v M' => v = .int .i64 (mayE gaps es o d e c) ∧ M.le M' := by
  refine fo_seen_Set_May (by simp) ?_
  (conv => whnf); refine brn_f rfl ?_
  (conv => whnf); refine (check_ok o d e c M).mono ?_
  rintro v _ ⟨rfl, rfl⟩
  (conv => whnf); refine brn (fun g => ?_) (fun g => ?_)
  · (conv => whnf)
    have : ¬ idErr o d e c = 0 := by simpa using g
    exact ⟨by simp [mayE, this], Mem.le_refl _⟩
  have hok : idErr o d e c = 0 := by simpa using g
  (conv => whnf); refine (Has_ok h hg o d e c).mono ?_
  rintro v M1 ⟨rfl, hle1⟩
  have h1 := h.le hle1
  (conv => whnf); refine brn (fun g => ?_) (fun g => ?_)
  · (conv => whnf)
    exact ⟨by simp [mayE, hok, g], hle1⟩
  have hno : hasE es o d e c = false := g
  have hur := upOf_range hgd (o, e)
  have fin : ∀ (t : Bool), t = (decide (c ≠ upOf es (o, e) + 1) && decide (gaps ≤ gapsE es)) → mayE gaps es o d e c = if t then 6 else 0 := fun t ht => by
    subst ht
    simp only [mayE, hok, hno]
    by_cases e1 : c = upOf es (o, e) + 1 <;> by_cases e2 : gaps ≤ (gapsE es : Int) <;> simp [e1, e2]
  have key : CallsM Tryz.prog F.seen_Set_of [ptr p, .agg #[.int .i64 o, .int .i64 d, .int .i64 e, .int .i64 c]] M1 fun v M' => ∃ r, v = ptr r ∧ M1.le M' ∧ M'.row r 0 1 = some [.int .i64 (upOf es (o, e))] := (of_ok h1 o d e c).mono fun v M' hv => by
    rcases hv with ⟨x, hx, rfl, rfl⟩ | ⟨hn, r, rfl, hr, rfl⟩
    · refine ⟨x.r, rfl, Mem.le_refl _, ?_⟩
      have := (h1.ents _ (aget_mem hx)).self.c1 (o := 0) rfl
      simpa [upOf, hx] using this
    · refine ⟨r, rfl, Mem.le_setCells hr, ?_⟩
      have := (Mem.has_setCells (M := M1) (b := r) (E := T.seen_row) (l := [.int .i64 0, .slice none 0 0])).c1 (o := 0) rfl
      simpa [upOf, hn] using this
  (conv => whnf); refine ⟨M1, Mem.le_refl _, ?_⟩
  refine zU ?_
  refine key.mono ?_
  rintro v M2 ⟨r, rfl, hle2, hrow⟩
  have hself2 := (h1.le hle2).self
  (conv => whnf); refine ob rfl ?_
  (conv => whnf); refine growX M2 hle2 (Mem.le_refl _) ?_
  (conv => whnf); refine on hrow ?_
  (conv => whnf); refine ob (inR_i64 (by omega)) ?_
  (conv => whnf); refine brn (fun g1 => ?_) (fun g1 => ?_)
  · (conv => whnf); refine on (hself2.c1 rfl) ?_
    refine zU ?_
    refine (Gaps_ok (h1.le hle2) (by omega)).mono ?_
    rintro v M3 ⟨rfl, hle3⟩
    refine zT (hle3) ?_
    refine brn (fun g2 => ?_) (fun g2 => ?_)
    · have e := fin true (by rw [Bool.not_eq_true', decide_eq_false_iff_not] at g1; simp [g1, of_decide_eq_true g2])
      (conv => whnf)
      exact ⟨by rw [e]; rfl, Mem.le_trans hle1 (Mem.le_trans hle2 hle3)⟩
    · have e := fin false (by simp [of_decide_eq_false g2])
      (conv => whnf)
      exact ⟨by rw [e]; rfl, Mem.le_trans hle1 (Mem.le_trans hle2 hle3)⟩
  · have e := fin false (by simp at g1; simp [g1])
    refine zU ?_
    (conv => whnf)
    exact ⟨by rw [e]; rfl, Mem.le_trans hle1 hle2⟩
end
section
variable {M : Mem}
theorem isNaN_ok (x : Int) : CallsM Tryz.prog F.cmp_isNaN_int [.int .i64 x] M fun v M' => v = .bool false ∧ M = M' := by
  refine fo_cmp_isNaN_int (by simp) ?_
  refine zR ?_
  exact ⟨by simp, rfl⟩
theorem nan_ok (x : Int) : CallsM Tryz.prog F.slices_isNaN_int [.int .i64 x] M fun v M' => v = .bool false ∧ M = M' := by
  refine fo_slices_isNaN_int (by simp) ?_
  refine zR ?_
  exact ⟨by simp, rfl⟩
theorem less_ok (x y : Int) : CallsM Tryz.prog F.cmp_Less_int [.int .i64 x, .int .i64 y] M fun v M' => v = .bool (decide (x < y)) ∧ M = M' := by
  refine fo_cmp_Less_int (by simp) ?_
  (conv => whnf); refine (isNaN_ok x).mono ?_
  rintro v _ ⟨rfl, rfl⟩
  refine zR ?_
  exact ⟨rfl, rfl⟩
theorem bsearch_ok {a : Option Addr} {n c : Nat} {l : List Int} (hs : SrcOk M 1 a n (l.map intV)) (hn : n ≤ 4194304) (hl : l.Pairwise (· < ·)) (x : Int) :
    CallsM Tryz.prog F.slices_BinarySearch_int_int [.slice a n c, .int .i64 x] M fun v M' => ∃ (i : Nat) (f : Bool), v = .tuple #[.int .i64 i, .bool f] ∧ i ≤ n ∧ (∀ k y, k < i → l[k]? = some y → y < x) ∧ (∀ k y, i ≤ k → l[k]? = some y → x ≤ y) ∧ M = M' := by
  refine fo_slices_BinarySearch_int_int (by simp) ?_
  have hll := hs.maplen
  have hmono : ∀ k k' y y', k ≤ k' → l[k]? = some y → l[k']? = some y' → y ≤ y' := fun k k' y y' hk h1 h2 => by
    rcases Nat.lt_or_ge k k' with h | h
    · have hk' := (List.getElem?_eq_some_iff.1 h2).1
      have := List.pairwise_iff_getElem.1 hl k k' (by omega) hk' h
      rw [List.getElem?_eq_getElem (by omega)] at h1
      rw [List.getElem?_eq_getElem hk'] at h2
      cases h1; cases h2; omega
    · have : k = k' := Nat.le_antisymm hk h
      subst this; rw [h1] at h2; cases h2; omega
  (conv => whnf)
  refine loopQ (σ := Nat × Nat) [7, 8] (fun q => [(7, .int .i64 q.1), (8, .int .i64 q.2)]) (fun | ⟨i, j⟩ => i ≤ j ∧ j ≤ n ∧ (∀ k y, k < i → l[k]? = some y → y < x) ∧ (∀ k y, j ≤ k → l[k]? = some y → x ≤ y)) (fun q => q.2 - q.1) ⟨0, n⟩
    ⟨by omega, by omega, fun k y hk => by omega, fun k y hk hy => by rw [List.getElem?_eq_none (by omega)] at hy; cases hy⟩ zS ?_
  rintro ⟨i, j⟩ ⟨hij, hj, h1, h2⟩
  (conv => whnf); refine brn (fun g => ?_) (fun g => ?_)
  · have hlt : i < j := by have := of_decide_eq_true g; dsimp only at this; omega
    (conv => whnf); refine ob (inR_i64 (by first | omega | (dsimp only; omega))) ?_
    (conv => whnf); refine ob (by decide) ?_
    (conv => whnf)
    have hmid : IntKind.i64.wrap ((IntKind.u64.wrap ((i : Int) + j)).fdiv (2 ^ min (Int.toNat 1) IntKind.u64.bits)) = (((i + j) / 2 : Nat) : Int) := by
      have e1 : IntKind.u64.wrap ((i : Int) + j) = ((i + j : Nat) : Int) := by rw [IntKind.wrap_u64]; omega
      have e2 : (2 : Int) ^ min (Int.toNat 1) IntKind.u64.bits = 2 := by decide
      have e3 : ((i + j : Nat) : Int).fdiv 2 = (((i + j) / 2 : Nat) : Int) := by rw [Int.fdiv_eq_ediv_of_nonneg _ (by decide)]; omega
      rw [e1, e2, e3, IntKind.wrap_i64]
      omega
    rw [hmid]
    obtain ⟨m, hm⟩ : ∃ m, m = (i + j) / 2 := ⟨_, rfl⟩
    rw [← hm]
    obtain ⟨hlm, b, o, rfl, hrow⟩ := hs.at (i := m) (by omega)
    have hgm : l[m]? = some l[m] := List.getElem?_eq_getElem hlm
    refine ob (by omega) ?_
    (conv => whnf); refine on hrow ?_
    (conv => whnf); refine (less_ok _ _).mono ?_
    rintro v _ ⟨rfl, rfl⟩
    (conv => whnf); refine brn (fun g1 => ?_) (fun g1 => ?_)
    · have hx : l[m] < x := of_decide_eq_true g1
      (conv => whnf); refine ob (inR_i64 (by omega)) ?_
      (conv => whnf)
      refine ⟨⟨m + 1, j⟩, ⟨by omega, by omega, fun k y hk hy => ?_, h2⟩, by dsimp only; omega, zS⟩
      have := hmono k m y l[m] (by omega) hy hgm
      omega
    · have hx : ¬ l[m] < x := of_decide_eq_false g1
      (conv => whnf)
      refine ⟨⟨i, m⟩, ⟨by omega, by omega, h1, fun k y hk hy => ?_⟩, by dsimp only; omega, zS⟩
      have := hmono m k l[m] y hk hgm hy
      omega
  · have he : i = j := by have := of_decide_eq_false g; dsimp only at this; omega
    subst he
    (conv => whnf); refine brn (fun g => ?_) (fun g => ?_)
    · have hlt : i < n := by have := of_decide_eq_true g; dsimp only at this; omega
      obtain ⟨_, b, o, rfl, hrow⟩ := hs.at (i := i) hlt
      (conv => whnf); refine ob (by first | omega | (dsimp only; omega)) ?_
      (conv => whnf); refine on hrow ?_
      (conv => whnf); refine brn (fun g1 => ?_) (fun g1 => ?_)
      · refine zR ?_
        exact ⟨i, _, rfl, hj, h1, h2, rfl⟩
      · (conv => whnf); refine ob (by first | omega | (dsimp only; omega)) ?_
        (conv => whnf); refine on hrow ?_
        (conv => whnf); refine (nan_ok _).mono ?_
        rintro v _ ⟨rfl, rfl⟩
        refine zR ?_
        exact ⟨i, _, rfl, hj, h1, h2, rfl⟩
    · refine zR ?_
      exact ⟨i, _, rfl, hj, h1, h2, rfl⟩
end
section
variable {M : Mem} {p b : Nat} {gaps : Int} {es : List ((Int × Int) × Ent)}
theorem EntAt.some {x : Ent} (h : EntAt M x) {y : Nat} (hy : x.own y) : M y ≠ none := by
  rcases hy with rfl | ⟨q, hq, rfl⟩
  · have := h.self; unfold Mem.has at this; rw [this]; simp
  · obtain ⟨cs, hh⟩ := h.more.block hq
    unfold Mem.has at hh; rw [hh]; simp
theorem EntAt.noset {x : Ent} (h : EntAt M x) {p : Nat} {l : List Value} (hp : M.has p T.seen_Set l) : ¬ x.own p := by
  rintro (e | ⟨q, hq, e⟩)
  · subst e
    exact absurd (h.self.inj hp).1 (by decide)
  · obtain ⟨cs, hh⟩ := h.more.block hq
    subst e
    exact absurd (hh.inj hp).1 (by decide)
theorem SetAt.turn {M' : Mem} (h : SetAt M p b gaps es) {k : Int × Int} {x x' : Ent} (hx : aget es k = some x) (hk : Mem.keep x.own M M') (he : EntAt M' x') (hr : x'.r = x.r) (hown : ∀ y, x'.own y → x.own y ∨ M y = none) : SetAt M' p b gaps (aput es k x') := by
  have hxe := h.ents _ (aget_mem hx)
  have hpa : aput es k x' = aset es k x' := by simp [aput, hx]
  obtain ⟨u, v, h1, h2, h3, h4⟩ := aset_split h.map.nodup hx x'
  have hap := h.apart
  rw [h1] at hap
  have hap' := List.pairwise_append.1 hap
  have hmem : ∀ q, q ∈ u ∨ q ∈ v → q ∈ es := fun q hq => by rw [h1]; rcases hq with hq | hq <;> simp [hq]
  have hfar : ∀ q, q ∈ u ∨ q ∈ v → ∀ y, q.2.own y → ¬ x.own y := fun q hq y hy hxy => by
    rcases hq with hq | hq
    · exact hap'.2.2 q hq (k, x) (by simp) y hy hxy
    · exact (List.pairwise_cons.1 hap'.2.1).1 q hq y hxy hy
  have hfar' : ∀ q, q ∈ u ∨ q ∈ v → ∀ y, q.2.own y → ¬ x'.own y := fun q hq y hy hxy => by
    rcases hown y hxy with h5 | h5
    · exact hfar q hq y hy h5
    · exact (h.ents q (hmem q hq)).some hy h5
  rw [hpa, h2]
  refine ⟨hk _ _ (hxe.noset h.self) h.self, ?_, fun q hq => ?_, ?_⟩
  · have hm := h.map.relabel (fun q => if q.1 = k then x' else q.2) (fun q hq => by
      split
      · rename_i e
        have : aget es k = some q.2 := aget_of_mem h.map.nodup (by obtain ⟨q1, q2⟩ := q; simp only at e; subst e; exact hq)
        rw [hx] at this
        rw [show q.2 = x from (Option.some.inj this).symm]
        simp [entV, hr]
      · rfl)
    have e : (es.map fun q => (q.1, if q.1 = k then x' else q.2)) = u ++ (k, x') :: v := by
      rw [h1, List.map_append, List.map_cons]
      congr 1
      · rw [List.map_congr_left (g := id), List.map_id]
        intro q hq; simp [h3 q hq]
      · congr 1
        · simp
        · rw [List.map_congr_left (g := id), List.map_id]
          intro q hq; simp [h4 q hq]
    rw [e] at hm
    exact hm.mono fun o ho => hk _ o (hxe.nomap h.map) ho
  · rcases List.mem_append.1 hq with hq | hq
    · exact (h.ents q (hmem q (.inl hq))).mono fun y o hy ho => hk y o (hfar q (.inl hq) y hy) ho
    · rcases List.mem_cons.1 hq with rfl | hq
      · exact he
      · exact (h.ents q (hmem q (.inr hq))).mono fun y o hy ho => hk y o (hfar q (.inr hq) y hy) ho
  · rw [List.pairwise_append]
    refine ⟨hap'.1, List.pairwise_cons.2 ⟨fun q hq y hy hqy => hfar' q (.inr hq) y hqy hy, (List.pairwise_cons.1 hap'.2.1).2⟩, fun q hq q' hq' => ?_⟩
    rcases List.mem_cons.1 hq' with rfl | hq'
    · exact fun y hy hxy => hfar' q (.inl hq) y hy hxy
    · exact hap'.2.2 q hq q' (List.mem_cons_of_mem _ hq')
theorem SetAt.more {M' : Mem} (h : SetAt M p b gaps es) {k : Int × Int} {x : Ent} (hx : aget es k = none) (hk : Mem.keep (fun y => y = b) M M') (hm : MapAt keyV entV M' b (aput es k x)) (he : EntAt M' x) (hown : ∀ y, x.own y → M y = none) : SetAt M' p b gaps (aput es k x) := by
  have hpa : aput es k x = es ++ [(k, x)] := by simp [aput, hx]
  refine ⟨hk _ _ (h.map.nb h.self) h.self, hm, fun q hq => ?_, ?_⟩
  · rw [hpa] at hq
    rcases List.mem_append.1 hq with hq | hq
    · exact (h.ents q hq).mono fun y o hy ho => hk y o (fun e => by subst e; exact (h.ents q hq).nomap h.map hy) ho
    · simp at hq; subst hq; exact he
  · rw [hpa, List.pairwise_append]
    refine ⟨h.apart, by simp, fun q hq q' hq' => ?_⟩
    simp at hq'; subst hq'
    exact fun y hy hxy => (h.ents q hq).some hy (hown y hxy)
end
end Go.Proofs.YtpdkkbpkplhdpaaGreat
