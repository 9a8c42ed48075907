/- Maps' values, told otherwise; lists of keys and values. -/
import Derived.Test.YtdjgmhifocdelaaVmP
namespace Go.Vm
/-- a map's values may be told otherwise, if they lie the same -/
theorem MapAt.relabel {κ α : Type} [DecidableEq κ] {kv : κ → Value} {vv : α → Value} {M : Mem} {b : Nat} {m : List (κ × α)} (h : MapAt kv vv M b m) (f : κ × α → α) (hf : ∀ q ∈ m, vv (f q) = vv q.2) : MapAt kv vv M b (m.map fun q => (q.1, f q)) := by
  obtain ⟨l, c, h1, h2, rfl⟩ := h
  refine ⟨l.map fun q => (q.1, q.2.1, f q.2), c, ?_, ⟨?_, ?_, ?_⟩, ?_⟩
  · rw [h1]
    unfold mapObj
    congr 2
    rw [List.map_map]
    congr 1
    apply List.map_congr_left
    intro q hq
    simp only [Function.comp_apply, entOf, hf q.2 (List.mem_map.2 ⟨q, hq, rfl⟩)]
  · have := h2.keys
    simpa [List.map_map, Function.comp_def] using this
  · intro q hq
    obtain ⟨q', hq', rfl⟩ := List.mem_map.1 hq
    exact h2.old q' hq'
  · have := h2.apart
    simpa [List.map_map, Function.comp_def] using this
  · simp [List.map_map, Function.comp_def]
section
variable {κ α : Type} [DecidableEq κ]
theorem aset_self {l : List (κ × α)} {k : κ} {x : α} (h : aget l k = some x) : aset l k x = l := by
  induction l with
  | nil => rfl
  | cons q r ih =>
    obtain ⟨a, y⟩ := q
    simp only [aget] at h
    simp only [aset]
    split at h
    · rename_i e; cases h; rw [if_pos e, e]
    · rename_i e; rw [if_neg e, ih h]
theorem aset_aset (l : List (κ × α)) (k : κ) (x y : α) : aset (aset l k x) k y = aset l k y := by
  induction l with
  | nil => rfl
  | cons q r ih =>
    obtain ⟨a, z⟩ := q
    simp only [aset]
    split
    · simp [aset]
    · rename_i e; simp only [aset, if_neg e, ih]
theorem aset_append {l : List (κ × α)} {k : κ} {x y : α} (h : aget l k = none) : aset (l ++ [(k, x)]) k y = l ++ [(k, y)] := by
  induction l with
  | nil => simp [aset]
  | cons q r ih =>
    obtain ⟨a, z⟩ := q
    simp only [aget] at h
    split at h
    · cases h
    · rename_i e; simp only [List.cons_append, aset, if_neg e, ih h]
theorem aput_aput (l : List (κ × α)) (k : κ) (x y : α) : aput (aput l k x) k y = aput l k y := by
  cases h : aget l k with
  | some z =>
    have e1 : ∀ w, aput l k w = aset l k w := fun w => by simp [aput, h]
    have e2 : aget (aset l k x) k = some x := by rw [aget_aset]; simp [h]
    rw [e1, e1]
    simp only [aput, e2, aset_aset]
  | none =>
    have e1 : ∀ w, aput l k w = l ++ [(k, w)] := fun w => by simp [aput, h]
    have e2 : aget (l ++ [(k, x)]) k = some x := by rw [aget_append, h]; simp [aget]
    rw [e1, e1]
    simp only [aput, e2, aset_append h]
/-- what a put list has -/
theorem aset_split {l : List (κ × α)} {k : κ} {x : α} (hn : (l.map (·.1)).Nodup) (h : aget l k = some x) (y : α) : ∃ u v, l = u ++ (k, x) :: v ∧ aset l k y = u ++ (k, y) :: v ∧ (∀ q ∈ u, q.1 ≠ k) ∧ ∀ q ∈ v, q.1 ≠ k := by
  induction l with
  | nil => cases h
  | cons q r ih =>
    obtain ⟨a, z⟩ := q
    simp only [List.map_cons, List.nodup_cons] at hn
    simp only [aget] at h
    split at h
    · rename_i e; subst e; cases h
      exact ⟨[], r, rfl, by simp [aset], by simp, fun q hq e => hn.1 (e ▸ List.mem_map.2 ⟨q, hq, rfl⟩)⟩
    · rename_i e
      obtain ⟨u, v, h1, h2, h3, h4⟩ := ih hn.2 h
      refine ⟨(a, z) :: u, v, by rw [h1]; rfl, by simp only [aset, if_neg e, h2]; rfl, fun q hq => ?_, h4⟩
      rcases List.mem_cons.1 hq with rfl | hq
      · exact e
      · exact h3 q hq
end
end Go.Vm
