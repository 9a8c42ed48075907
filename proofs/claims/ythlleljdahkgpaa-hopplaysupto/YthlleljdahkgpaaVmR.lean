/- The library's sort of structs by a function, as a contract over memory. -/
import Derived.Test.YthlleljdahkgpaaVmQ
import Derived.Shelf.SlSortCmp.NoneTotal
namespace Go.Vm
open Go.RowKit Go.Shelf Go.Sort Go.Proofs
theorem flat_at {α : Type} {enc : α → List Value} {k : Nat} (hk : ∀ x, (enc x).length = k) : ∀ (l : List α) (i j : Nat) (x : α), l[i]? = some x → j < k → (l.flatMap enc)[i * k + j]? = (enc x)[j]?
  | [], i, j, x, h, _ => by simp at h
  | y :: r, 0, j, x, h, hj => by
    simp at h; subst h
    rw [List.flatMap_cons, Nat.zero_mul, Nat.zero_add, List.getElem?_append_left (by rw [hk]; exact hj)]
  | y :: r, i + 1, j, x, h, hj => by
    have := flat_at hk r i j x (by simpa using h) hj
    rw [List.flatMap_cons, List.getElem?_append_right (by rw [hk, Nat.succ_mul]; omega), hk, ← this]
    congr 1
    rw [Nat.succ_mul]; omega
theorem flat_len {α : Type} {enc : α → List Value} {k : Nat} (hk : ∀ x, (enc x).length = k) (l : List α) : (l.flatMap enc).length = l.length * k := by
  induction l with
  | nil => simp
  | cons y r ih => simp [hk, ih, Nat.succ_mul, Nat.add_comm]
theorem flatK_eq {α : Type} [Inhabited α] {enc : α → List Value} {k : Nat} (hk : ∀ x, (enc x).length = k) (hk0 : 0 < k) (l : List α) : (flatK enc k l.toArray).toList = l.flatMap enc := by
  apply List.ext_getElem?
  intro t
  by_cases ht : t < l.length * k
  · have hi : t / k < l.length := (Nat.div_lt_iff_lt_mul hk0).2 ht
    have e : t = t / k * k + t % k := by rw [Nat.mul_comm]; exact (Nat.div_add_mod t k).symm
    have hj : t % k < k := Nat.mod_lt _ hk0
    have h1 := flat_at hk l (t / k) (t % k) l[t / k] (List.getElem?_eq_getElem hi) hj
    rw [← e] at h1
    rw [h1]
    have hs : t < (flatK enc k l.toArray).size := by rw [size_flatK]; simpa using ht
    have h2 := get_flatK enc k l.toArray t (by simpa using ht)
    rw [Array.getElem?_toList, Array.getElem?_eq_getElem hs]
    rw [getElem!_pos _ t hs] at h2
    rw [h2]
    have h3 : l.toArray[t / k]! = l[t / k] := by simp [hi]
    rw [h3, getElem!_pos _ _ (by rw [hk]; exact hj), List.getElem?_eq_getElem (by rw [hk]; exact hj)]
  · rw [List.getElem?_eq_none (by simp; omega), List.getElem?_eq_none (by rw [flat_len hk]; omega)]
section
variable {P : Program} {ρ : Ren} {α : Type} [Inhabited α]
/-- a function that lays nothing of the caller's anew: a world that has only grown -/
theorem grown_of {W w' : World} (hF : (memOf W).le (memOf w')) (ho : w'.os = W.os) (hp : w'.output = W.output) (ht : w'.tape = W.tape) (hs : W.heap.size ≤ w'.heap.size) (hd : W.drawn ≤ w'.drawn) : ∃ q os', w' = grow (W.drewN q) os' := by
  refine ⟨w'.drawn - W.drawn, w'.heap.extract W.heap.size w'.heap.size, ?_⟩
  obtain ⟨h, t, d, o, p⟩ := w'
  simp only at ho hp ht hs hd
  subst ho; subst hp; subst ht
  have e1 : h = W.heap ++ h.extract W.heap.size h.size := by
    apply Array.ext_getElem?
    intro i
    by_cases hi : i < W.heap.size
    · rw [Array.getElem?_append_left hi]
      have := hF i W.heap[i] (Array.getElem?_eq_getElem hi)
      rw [Array.getElem?_eq_getElem hi]
      exact this
    · rw [Array.getElem?_append_right (by omega), Array.getElem?_extract]
      by_cases h2 : i < h.size
      · rw [if_pos (by omega)]; congr 1; omega
      · rw [if_neg (by omega), Array.getElem?_eq_none (by omega)]
  have e2 : d = W.drawn + (d - W.drawn) := by omega
  show World.mk h W.tape d W.os W.output = World.mk (W.heap ++ h.extract W.heap.size h.size) W.tape (W.drawn + (d - W.drawn)) W.os W.output
  rw [← e1, ← e2]
theorem cmp_lays {g : Nat} {enc : α → List Value} {k : Nat} {cf : α → α → Int} (hcmp : ∀ x y, CallsM P g [.agg (enc x).toArray, .agg (enc y).toArray] Mem.empty fun v _ => v = .int .i64 (cf x y)) (blk off size : Nat) (w : World) : CmpLays P g #[] enc k cf blk off size w := by
  intro m os dk _ x y
  have h := (hcmp x y).2 (memOf (sortWorldK enc k w blk off m dk os)) (sortWorldK enc k w blk off m dk os) (Mem.empty_le _) (fun _ _ h => h) (fun _ => .inl rfl)
  exact Calls.mono h fun e w' ⟨v, M', he, hv, _, hF, _, ho, hp, ht, hs, hd⟩ => ⟨by rw [he, hv], grown_of hF ho hp ht hs hd⟩
theorem sortF_ok (L : SlLaysF0.n6 P ρ) (he : enters P (ρ.f 6) = true) {k : Nat} (hk0 : 0 < k) (aE : ∀ w, (isAgg (ρ.t 24)).run P w = .ok true w) (zE : ∀ w, (Go.sizeOf (ρ.t 24)).run P w = .ok k w) {enc : α → List Value} (hk : ∀ x, (enc x).length = k) (h1 : ∀ x, ∀ v ∈ enc x, v.oneCell' = true)
    {cf : α → α → Int} (hO : SWO (ltOf cf)) {g : Nat} (eg : ∀ args w, (callFunc g args).run P w = .ok (.enter g args) w) (hcmp : ∀ x y, CallsM P g [.agg (enc x).toArray, .agg (enc y).toArray] Mem.empty fun v _ => v = .int .i64 (cf x y))
    {M : Mem} {E : TypeId} {a : Option Addr} {n c : Nat} {l : List α} (h : Wr M E k a n c (l.flatMap enc)) (hn : n < 4611686018427387904) :
    CallsM P (ρ.f 6) [.slice a n c, .func (.func g) #[] #[]] M fun v M' => v = .tuple #[] ∧ ∃ l' : List α, l'.Perm l ∧ l'.Pairwise (fun x y => ¬ cf y x < 0) ∧ Wr M' E k a n c (l'.flatMap enc) ∧ Mem.keep (blk a) M M' := by
  refine ⟨he, fun F w hM hF hdj => ?_⟩
  obtain ⟨hl, hnc, h3⟩ := h
  have hll : l.length = n := by
    rw [flat_len hk] at hl; exact Nat.eq_of_mul_eq_mul_right hk0 hl
  rcases h3 with ⟨rfl, rfl⟩ | ⟨b, cs, rfl, hh, hcl, ht⟩
  · have : n = 0 := by omega
    subst this
    have : l = [] := by simpa using hll
    subst this
    refine Calls.mono (AnyF.slices_SortFunc_none L none 0 _ w) ?_
    rintro e w' ⟨rfl, rfl⟩
    exact ⟨_, M, rfl, ⟨rfl, [], .refl _, .nil, ⟨by simp, Nat.le_refl _, .inl ⟨rfl, rfl⟩⟩, Mem.keep_refl _ _⟩, hM, hF, hdj, rfl, rfl, rfl, Nat.le_refl _, Nat.le_refl _⟩
  · have hb : b < w.heap.size := (Array.getElem?_eq_some_iff.1 (hM _ _ hh)).1
    have hle : n * k ≤ c * k := Nat.mul_le_mul_right _ hnc
    have hH : HoldsK enc k w b 0 l.toArray := by
      have := holds_of (α := Value) hM hh id (l.flatMap enc) (by rw [flat_len hk, hll, List.map_id]; exact ht)
      unfold HoldsK
      have e : flatK enc k l.toArray = (l.flatMap enc).toArray := by rw [← flatK_eq hk hk0 l]
      rw [e]; exact this
    have hs := AnyQ.slices_SortFunc L k aE zE enc hk h1 cf hO g #[] b 0 c l.toArray w eg (cmp_lays hcmp b 0 _ w) hH hb (by simp; omega)
    have e0 : l.toArray.size = n := by simpa using hll
    rw [e0] at hs
    refine Calls.mono hs ?_
    rintro e w' ⟨rfl, d', q, os, hp, hsd, rfl⟩
    have hds : d'.size = n := by rw [hp.1, e0]
    obtain ⟨l', rfl⟩ : ∃ l' : List α, d' = l'.toArray := ⟨d'.toList, by simp⟩
    have hl' : l'.length = n := by simpa using hds
    have hperm : l'.Perm l := by
      have := hp.2.2
      simpa [hll, hl', List.take_of_length_le] using this
    have hsort : l'.Pairwise (fun x y => ¬ cf y x < 0) := by
      rw [List.pairwise_iff_getElem]
      intro i j hi hj hij
      have := hsd i j (Nat.zero_le _) hij (by omega)
      have ei : l'.toArray[i]! = l'[i] := by simp [hi]
      have ej : l'.toArray[j]! = l'[j] := by simp [hj]
      rw [ei, ej] at this
      simpa [ltOf] using this
    have e2 : flatK enc k l'.toArray = (l'.flatMap enc).toArray := by rw [← flatK_eq hk hk0 l']
    have ht' := turned hM hF hdj hh id (l'.flatMap enc).toArray (by simp only [List.size_toArray]; rw [flat_len hk, hl', hcl]; exact hle) q os
    unfold sortWorldK putRowK
    rw [e2]
    have hfl : (l'.flatMap enc).length = n * k := by rw [flat_len hk, hl']
    refine ⟨_, M.setCells b E ((l'.flatMap enc).toArray.toList.map id ++ cs.drop (l'.flatMap enc).toArray.size), rfl, ⟨rfl, l', hperm, hsort, ⟨hfl, hnc, .inr ⟨b, _, rfl, Mem.has_setCells, ?_, ?_⟩⟩, ?_⟩, ht'⟩
    · simp only [List.map_id, List.length_append, List.length_drop, List.size_toArray]; rw [hfl, hcl]; omega
    · simp only [List.map_id, List.size_toArray]
      rw [List.take_append_of_le_length (by rw [hfl]; omega), List.take_of_length_le (by rw [hfl]; omega)]
    · intro x o hx hxo
      have e : x ≠ b := fun e => hx ⟨_, rfl, e.symm⟩
      simp only [Mem.setCells, Mem.upd_ne _ _ e]; exact hxo
end
end Go.Vm
