/- Rows of structs: one cell read, one cell written, one struct more. -/
import Derived.Test.YtjkejbenppeagaaGreatDoorVmP
namespace Go.Vm
section
variable {α : Type} {enc : α → List Value} {s : Nat} (hk : ∀ x, (enc x).length = s)
include hk
theorem fm_at : ∀ (l : List α) (i j : Nat) (x : α), l[i]? = some x → j < s → (l.flatMap enc)[i * s + j]? = (enc x)[j]?
  | [], i, j, x, h, _ => by simp at h
  | y :: r, 0, j, x, h, hj => by
    simp at h; subst h
    rw [List.flatMap_cons, Nat.zero_mul, Nat.zero_add, List.getElem?_append_left (by rw [hk]; exact hj)]
  | y :: r, i + 1, j, x, h, hj => by
    have := fm_at r i j x (by simpa using h) hj
    rw [List.flatMap_cons, List.getElem?_append_right (by rw [hk, Nat.succ_mul]; omega), hk, ← this]
    congr 1
    rw [Nat.succ_mul]; omega
theorem fm_len (l : List α) : (l.flatMap enc).length = l.length * s := by
  induction l with
  | nil => simp
  | cons y r ih => simp [hk, ih, Nat.succ_mul, Nat.add_comm]
theorem fm_set : ∀ (l : List α) (i j : Nat) (x x' : α) (v : Value), l[i]? = some x → j < s → enc x' = (enc x).set j v → (l.flatMap enc).set (i * s + j) v = (l.set i x').flatMap enc
  | [], i, j, x, x', v, h, _, _ => by simp at h
  | y :: r, 0, j, x, x', v, h, hj, he => by
    simp at h; subst h
    rw [List.flatMap_cons, Nat.zero_mul, Nat.zero_add, List.set_append_left _ _ (by rw [hk]; exact hj), List.set_cons_zero, List.flatMap_cons, he]
  | y :: r, i + 1, j, x, x', v, h, hj, he => by
    have := fm_set r i j x x' v (by simpa using h) hj he
    rw [List.flatMap_cons, List.set_append_right _ _ (by rw [hk, Nat.succ_mul]; omega), hk, List.set_cons_succ, List.flatMap_cons, ← this]
    congr 2
    rw [Nat.succ_mul]; omega
theorem SrcOk.flen {M : Mem} {a : Option Addr} {n : Nat} {l : List α} (h : SrcOk M s a n (l.flatMap enc)) (hs : 0 < s) : l.length = n := by
  have := h.len
  rw [fm_len hk] at this
  exact Nat.eq_of_mul_eq_mul_right hs this
/-- one cell of one struct -/
theorem SrcOk.fcell {M : Mem} {a : Option Addr} {n : Nat} {l : List α} (h : SrcOk M s a n (l.flatMap enc)) {j p : Nat} {x : α} {v : Value} (hx : l[j]? = some x) (hv : (enc x)[p]? = some v) : ∃ b o, a = some ⟨b, o, Option.none⟩ ∧ M.row b (o + j * s + p) 1 = some [v] := by
  have hp : p < s := by rw [← hk x]; exact (List.getElem?_eq_some_iff.1 hv).1
  have hj : j < n := by have := h.flen hk (by omega); have := (List.getElem?_eq_some_iff.1 hx).1; omega
  obtain ⟨b, o, ha, hr⟩ := h.elem hj (by omega)
  refine ⟨b, o, ha, ?_⟩
  rw [hr p 1 (by omega)]
  have hat := fm_at hk l j p x hx hp
  rw [hv] at hat
  obtain ⟨hlt, e⟩ := List.getElem?_eq_some_iff.1 hat
  rw [List.drop_eq_getElem_cons hlt, e]; simp
/-- one struct -/
theorem SrcOk.fall {M : Mem} {a : Option Addr} {n : Nat} {l : List α} (h : SrcOk M s a n (l.flatMap enc)) (hs : 0 < s) {j : Nat} {x : α} (hx : l[j]? = some x) : ∃ b o, a = some ⟨b, o, Option.none⟩ ∧ M.row b (o + j * s) s = some (enc x) := by
  have hj : j < n := by have := h.flen hk hs; have := (List.getElem?_eq_some_iff.1 hx).1; omega
  obtain ⟨b, o, ha, hr⟩ := h.elem hj hs
  refine ⟨b, o, ha, ?_⟩
  have := hr 0 s (by omega)
  rw [Nat.add_zero] at this
  rw [this]
  congr 1
  apply List.ext_getElem?
  intro t
  by_cases ht : t < s
  · rw [List.getElem?_take_of_lt ht, List.getElem?_drop, Nat.add_zero, fm_at hk l j t x hx ht]
  · rw [List.getElem?_eq_none (by simp; omega), List.getElem?_eq_none (by rw [hk]; omega)]
/-- all cells of one struct -/
theorem SrcOk.fcells {M : Mem} {a : Option Addr} {n : Nat} {l : List α} (h : SrcOk M s a n (l.flatMap enc)) (hs : 0 < s) {j : Nat} {x : α} (hx : l[j]? = some x) : ∃ b o, a = some ⟨b, o, Option.none⟩ ∧ ∀ p v, (enc x)[p]? = some v → M.row b (o + j * s + p) 1 = some [v] := by
  obtain ⟨b, o, ha, _⟩ := h.fall hk hs hx
  refine ⟨b, o, ha, fun p v hv => ?_⟩
  obtain ⟨b', o', ha', hr⟩ := h.fcell hk hx hv
  rw [ha] at ha'
  cases ha'
  exact hr
/-- one cell of one struct is written -/
theorem Wr.fstore {M : Mem} {E : TypeId} {a : Option Addr} {n c : Nat} {l : List α} (h : Wr M E s a n c (l.flatMap enc)) {j p : Nat} {x : α} (hx : l[j]? = some x) (hp : p < s) :
    ∃ b cs, a = some ⟨b, 0, Option.none⟩ ∧ M.cells b = some (E, cs) ∧ 0 + j * s + p + 1 ≤ cs.length ∧ ∀ (x' : α) (v : Value), enc x' = (enc x).set p v → Wr (M.setCells b E (splice cs (0 + j * s + p) [v])) E s a n c ((l.set j x').flatMap enc) ∧ Mem.keep (blk a) M (M.setCells b E (splice cs (0 + j * s + p) [v])) := by
  have hl := h.len
  have hjl := (List.getElem?_eq_some_iff.1 hx).1
  rw [fm_len hk] at hl
  have hln : l.length = n := Nat.eq_of_mul_eq_mul_right (by omega) hl
  have hlt : j * s + p < n * s := by
    have : (j + 1) * s ≤ n * s := Nat.mul_le_mul_right _ (by omega)
    rw [Nat.succ_mul] at this; omega
  obtain ⟨h1, h2, ⟨ha, hc⟩ | ⟨b, cs, ha, hh, hcl, ht⟩⟩ := h
  · omega
  · have hle : n * s ≤ c * s := Nat.mul_le_mul_right _ h2
    refine ⟨b, cs, ha, hh.cells, by omega, fun x' v he => ⟨⟨?_, h2, .inr ⟨b, _, ha, Mem.has_setCells, ?_, ?_⟩⟩, ?_⟩⟩
    · rw [fm_len hk]; simp [hln]
    · rw [splice_one _ _ _ (by omega)]; simpa using hcl
    · rw [splice_one _ _ _ (by omega), List.take_set, ht, Nat.zero_add]
      exact fm_set hk l j p x x' v hx hp he
    · intro y o hy hM
      have hne : y ≠ b := fun e => hy ⟨_, ha, e.symm⟩
      unfold Mem.setCells
      rw [Mem.upd_ne _ _ hne]; exact hM
theorem NewSl.fstore {M M2 : Mem} {E : TypeId} {a : Option Addr} {n c : Nat} {l : List α} (h : NewSl M E s a n c (l.flatMap enc) M2) {j p : Nat} {x : α} (hx : l[j]? = some x) (hp : p < s) :
    ∃ b cs, a = some ⟨b, 0, Option.none⟩ ∧ M2.cells b = some (E, cs) ∧ 0 + j * s + p + 1 ≤ cs.length ∧ ∀ (x' : α) (v : Value), enc x' = (enc x).set p v → NewSl M E s a n c ((l.set j x').flatMap enc) (M2.setCells b E (splice cs (0 + j * s + p) [v])) ∧ Mem.keep (blk a) M2 (M2.setCells b E (splice cs (0 + j * s + p) [v])) := by
  obtain ⟨b, cs, ha, hc, hl, hst⟩ := h.wr.fstore hk hx hp
  exact ⟨b, cs, ha, hc, hl, fun x' v he => ⟨h.ofWr (hst x' v he).1 (hst x' v he).2 rfl, (hst x' v he).2⟩⟩
omit hk in
/-- one struct more -/
theorem appF {E : TypeId} {bytes : Nat} {a : Option Addr} {n c : Nat} {news : List Value} {M : Mem} {k : Option Addr → Nat → Mem → Prop} {l : List α} (M0 : Mem) (hown : NewSl M0 E s a n c (l.flatMap enc) M) (x : α) (hx : news = enc x)
    (h1 : (n + 1) * bytes ≤ 140737488355328) (h2 : n + 1 ≤ maxLen) (h3 : ∀ u ∈ news, u.oneCell' = true) (hkk : ∀ a' c' M', NewSl M0 E s a' (n + 1) c' ((l ++ [x]).flatMap enc) M' → Mem.keep (blk a) M M' → k a' c' M') : AppVC E s bytes a n c 1 news M k := by
  subst hx
  refine appK M0 _ hown h1 h2 h3 fun a' c' M' hn hkp => hkk a' c' M' ?_ hkp
  rw [List.flatMap_append]
  simpa using hn
end
end Go.Vm
