/- Maps, as lists of keys and values. -/
import Derived.Test.YtjkejbenppeagaaGreatDoorVmL
namespace Go.Vm
set_option linter.unusedSectionVars false
set_option linter.unusedSimpArgs false
section
variable {κ α : Type} [DecidableEq κ]
/-- two keys are the same just if their values are -/
def KeyOk (kv : κ → Value) : Prop := ∀ a b, sameV (kv a) (kv b) = some (decide (a = b))
def entOf (kv : κ → Value) (vv : α → Value) (p : Nat × κ × α) : MapEntry := { key := kv p.2.1, val := vv p.2.2, born := p.1 }
def mapObj (kv : κ → Value) (vv : α → Value) (l : List (Nat × κ × α)) (clock : Nat) : Obj := .map (l.map (entOf kv vv)).toArray clock
structure MapOk (l : List (Nat × κ × α)) (clock : Nat) : Prop where
  keys : (l.map (·.2.1)).Nodup
  old : ∀ p ∈ l, p.1 < clock
  apart : (l.map (·.1)).Nodup
/-! lists of keys and values -/
def aget : List (κ × α) → κ → Option α
  | [], _ => none
  | (k, x) :: r, i => if k = i then some x else aget r i
def aset : List (κ × α) → κ → α → List (κ × α)
  | [], _, _ => []
  | (k, y) :: r, i, x => if k = i then (i, x) :: r else (k, y) :: aset r i x
def aput (l : List (κ × α)) (k : κ) (x : α) : List (κ × α) := match aget l k with | some _ => aset l k x | none => l ++ [(k, x)]
def adel (l : List (κ × α)) (k : κ) : List (κ × α) := l.filter fun p => decide (p.1 ≠ k)
theorem aget_none {l : List (κ × α)} {k : κ} : aget l k = none ↔ k ∉ l.map (·.1) := by
  induction l with
  | nil => simp [aget]
  | cons p r ih =>
    obtain ⟨a, x⟩ := p
    simp only [aget]
    split
    · rename_i h; subst h; simp
    · rename_i h; rw [ih]; simp [Ne.symm h]
theorem aget_mem {l : List (κ × α)} {k : κ} {x : α} (h : aget l k = some x) : (k, x) ∈ l := by
  induction l with
  | nil => cases h
  | cons p r ih =>
    obtain ⟨a, y⟩ := p
    simp only [aget] at h
    split at h
    · rename_i e; subst e; cases h; simp
    · exact List.mem_cons_of_mem _ (ih h)
theorem aget_of_mem {l : List (κ × α)} (hn : (l.map (·.1)).Nodup) {k : κ} {x : α} (h : (k, x) ∈ l) : aget l k = some x := by
  induction l with
  | nil => cases h
  | cons p r ih =>
    obtain ⟨a, y⟩ := p
    simp only [List.map_cons, List.nodup_cons] at hn
    simp only [aget]
    rcases List.mem_cons.1 h with e | e
    · cases e; simp
    · split
      · rename_i ha; subst ha
        exact absurd (List.mem_map.2 ⟨_, e, rfl⟩) hn.1
      · exact ih hn.2 e
theorem aset_keys (l : List (κ × α)) (k : κ) (x : α) : (aset l k x).map (·.1) = l.map (·.1) := by
  induction l with
  | nil => rfl
  | cons p r ih =>
    obtain ⟨a, y⟩ := p
    simp only [aset]
    split
    · rename_i e; simp [e]
    · simp [ih]
theorem aget_aset (l : List (κ × α)) (k : κ) (x : α) (i : κ) : aget (aset l k x) i = if i = k ∧ (aget l k).isSome then some x else aget l i := by
  induction l with
  | nil => simp [aset, aget]
  | cons p r ih =>
    obtain ⟨a, y⟩ := p
    simp only [aset]
    by_cases ha : a = k
    · rw [if_pos ha]
      subst ha
      simp only [aget, if_true, Option.isSome_some, and_true]
      by_cases hi : a = i
      · simp [hi]
      · rw [if_neg hi, if_neg hi, if_neg (fun e => hi e.symm)]
    · rw [if_neg ha]
      simp only [aget, if_neg ha, ih]
      by_cases hi : a = i
      · rw [if_pos hi, if_pos hi, if_neg (fun e => ha (hi.trans e.1))]
      · rw [if_neg hi, if_neg hi]
theorem aget_append (l r : List (κ × α)) (i : κ) : aget (l ++ r) i = (aget l i).or (aget r i) := by
  induction l with
  | nil => simp [aget]
  | cons p l ih =>
    obtain ⟨a, y⟩ := p
    simp only [List.cons_append, aget]
    split <;> simp_all
theorem aget_aput (l : List (κ × α)) (k : κ) (x : α) (i : κ) : aget (aput l k x) i = if i = k then some x else aget l i := by
  unfold aput
  cases h : aget l k with
  | some y => simp only [aget_aset, h, Option.isSome_some, and_true]
  | none =>
    simp only [aget_append]
    by_cases hi : i = k
    · subst hi; rw [h]; simp [aget]
    · rw [if_neg hi]; simp only [aget]; rw [if_neg (fun e => hi e.symm)]; simp
theorem aput_keys (l : List (κ × α)) (k : κ) (x : α) : (aput l k x).map (·.1) = if (aget l k).isSome then l.map (·.1) else l.map (·.1) ++ [k] := by
  unfold aput
  cases h : aget l k <;> simp [aset_keys]
theorem aput_nodup {l : List (κ × α)} (h : (l.map (·.1)).Nodup) (k : κ) (x : α) : ((aput l k x).map (·.1)).Nodup := by
  rw [aput_keys]
  cases hg : aget l k with
  | some _ => simpa using h
  | none =>
    have := aget_none.1 hg
    simp only [Option.isSome_none, Bool.false_eq_true, if_false]
    rw [List.nodup_append]
    exact ⟨h, by simp, fun a ha b hb => by simp at hb; subst hb; exact fun e => this (e ▸ ha)⟩
theorem aget_adel (l : List (κ × α)) (k i : κ) : aget (adel l k) i = if i = k then none else aget l i := by
  unfold adel
  induction l with
  | nil => simp [aget]
  | cons p r ih =>
    obtain ⟨a, y⟩ := p
    simp only [List.filter_cons]
    by_cases ha : a = k
    · simp only [ha, ne_eq, not_true_eq_false, decide_false, Bool.false_eq_true, if_false]
      rw [ih]
      by_cases hi : i = k
      · simp [hi]
      · rw [if_neg hi, if_neg hi]; simp only [aget]; rw [if_neg (fun e => hi e.symm)]
    · simp only [ne_eq, ha, not_false_eq_true, decide_true, if_true, aget]
      rw [ih]
      by_cases hi : a = i
      · rw [if_pos hi, if_pos hi, if_neg (fun e => ha (hi.trans e))]
      · rw [if_neg hi, if_neg hi]
theorem adel_nodup {l : List (κ × α)} (h : (l.map (·.1)).Nodup) (k : κ) : ((adel l k).map (·.1)).Nodup := h.sublist (List.Sublist.map _ List.filter_sublist)
/-! the same, with the numbers of birth -/
def bset : List (Nat × κ × α) → κ → α → List (Nat × κ × α)
  | [], _, _ => []
  | (b, k, y) :: r, i, x => if k = i then (b, i, x) :: r else (b, k, y) :: bset r i x
def bput (l : List (Nat × κ × α)) (clock : Nat) (k : κ) (x : α) : List (Nat × κ × α) := match aget (l.map (·.2)) k with | some _ => bset l k x | none => l ++ [(clock, k, x)]
def bclock (l : List (Nat × κ × α)) (clock : Nat) (k : κ) : Nat := match aget (l.map (·.2)) k with | some _ => clock | none => clock + 1
def bdel (l : List (Nat × κ × α)) (k : κ) : List (Nat × κ × α) := l.filter fun p => decide (p.2.1 ≠ k)
theorem bset_map (l : List (Nat × κ × α)) (k : κ) (x : α) : (bset l k x).map (·.2) = aset (l.map (·.2)) k x := by
  induction l with
  | nil => rfl
  | cons p r ih =>
    obtain ⟨b, a, y⟩ := p
    simp only [bset, List.map_cons, aset]
    split <;> simp [ih]
theorem bset_born (l : List (Nat × κ × α)) (k : κ) (x : α) : (bset l k x).map (·.1) = l.map (·.1) := by
  induction l with
  | nil => rfl
  | cons p r ih =>
    obtain ⟨b, a, y⟩ := p
    simp only [bset]
    split <;> simp [ih]
theorem bput_map (l : List (Nat × κ × α)) (clock : Nat) (k : κ) (x : α) : (bput l clock k x).map (·.2) = aput (l.map (·.2)) k x := by
  unfold bput aput
  cases h : aget (l.map (·.2)) k <;> simp [bset_map]
theorem bdel_map (l : List (Nat × κ × α)) (k : κ) : (bdel l k).map (·.2) = adel (l.map (·.2)) k := by
  unfold bdel adel
  rw [List.filter_map]
  rfl
theorem map21 (l : List (Nat × κ × α)) : l.map (·.2.1) = (l.map (·.2)).map (·.1) := by simp
theorem MapOk.put {l : List (Nat × κ × α)} {clock : Nat} (h : MapOk l clock) (k : κ) (x : α) : MapOk (bput l clock k x) (bclock l clock k) := by
  refine ⟨?_, ?_, ?_⟩
  · rw [map21, bput_map]; exact aput_nodup (by rw [← map21]; exact h.keys) k x
  · unfold bput bclock
    cases hg : aget (l.map (·.2)) k with
    | some y =>
      intro p hp
      simp only at hp ⊢
      have : p.1 ∈ (bset l k x).map (·.1) := List.mem_map.2 ⟨p, hp, rfl⟩
      rw [bset_born] at this
      obtain ⟨q, hq, e⟩ := List.mem_map.1 this
      rw [← e]; exact h.old q hq
    | none =>
      intro p hp
      simp only [List.mem_append, List.mem_singleton] at hp ⊢
      rcases hp with hp | rfl
      · have := h.old p hp; omega
      · simp
  · unfold bput
    cases hg : aget (l.map (·.2)) k with
    | some y => simp only [bset_born]; exact h.apart
    | none =>
      simp only [List.map_append, List.map_cons, List.map_nil]
      rw [List.nodup_append]
      refine ⟨h.apart, by simp, fun a ha b hb => ?_⟩
      simp at hb; subst hb
      obtain ⟨q, hq, e⟩ := List.mem_map.1 ha
      have := h.old q hq
      intro e'; omega
theorem MapOk.del {l : List (Nat × κ × α)} {clock : Nat} (h : MapOk l clock) (k : κ) : MapOk (bdel l k) clock :=
  ⟨h.keys.sublist (List.Sublist.map _ List.filter_sublist), fun p hp => h.old p (List.mem_filter.1 hp).1, h.apart.sublist (List.Sublist.map _ List.filter_sublist)⟩
theorem MapOk.empty : MapOk ([] : List (Nat × κ × α)) 0 := ⟨by simp, by simp, by simp⟩
/-! looking -/
variable {kv : κ → Value} {vv : α → Value}
theorem kfind_none (hk : KeyOk kv) {k : κ} : ∀ {l : List (Nat × κ × α)} (i : Nat), aget (l.map (·.2)) k = none → kfind (kv k) (l.map (entOf kv vv)) i = some none
  | [], _, _ => rfl
  | (b, a, y) :: r, i, h => by
    simp only [List.map_cons, aget] at h
    split at h
    · cases h
    · rename_i hne
      simp only [List.map_cons, kfind, entOf, hk k a]
      rw [decide_eq_false (fun e => hne e.symm)]
      exact kfind_none hk (i + 1) h
theorem kfind_some (hk : KeyOk kv) {k : κ} {x : α} : ∀ {l : List (Nat × κ × α)} (i : Nat), aget (l.map (·.2)) k = some x → ∃ j, kfind (kv k) (l.map (entOf kv vv)) i = some (some (i + j, vv x)) ∧
      (∀ y, ((l.map (entOf kv vv)).modify j fun e => { e with key := kv k, val := vv y }) = (bset l k y).map (entOf kv vv)) ∧ (∀ (_ : (l.map (·.2.1)).Nodup), (l.map (entOf kv vv)).eraseIdx j = (bdel l k).map (entOf kv vv)) ∧ j < l.length
  | [], _, h => by cases h
  | (b, a, y) :: r, i, h => by
    simp only [List.map_cons, aget] at h
    split at h
    · rename_i e; subst e; cases h
      refine ⟨0, ?_, ?_, ?_, by simp⟩
      · simp [kfind, entOf, hk a a]
      · intro y'; simp [entOf, bset]
      · intro hn
        simp only [List.map_cons, List.nodup_cons] at hn
        have : ∀ p ∈ r, p.2.1 ≠ a := fun p hp e => hn.1 (e ▸ List.mem_map.2 ⟨p, hp, rfl⟩)
        simp only [List.map_cons, List.eraseIdx_cons_zero, bdel, List.filter_cons, ne_eq, not_true_eq_false, decide_false, Bool.false_eq_true, if_false]
        rw [List.filter_eq_self.2]
        intro p hp; simpa using this p hp
    · rename_i hne
      obtain ⟨j, h1, h3, h4, h5⟩ := kfind_some hk (i + 1) h
      refine ⟨j + 1, ?_, ?_, ?_, by simp; omega⟩
      · simp only [List.map_cons, kfind, entOf, hk k a]
        rw [decide_eq_false (fun e => hne e.symm)]
        simp only
        rw [h1]
        congr 3
        omega
      · intro y'; simp only [List.map_cons, List.modify_succ_cons, bset, if_neg hne]; rw [h3]
      · intro hn
        simp only [List.map_cons, List.nodup_cons] at hn
        simp only [List.map_cons, List.eraseIdx_cons_succ]
        rw [h4 hn.2]
        simp [bdel, List.filter_cons, hne]
/-- where a map lies -/
def MapAt (kv : κ → Value) (vv : α → Value) (M : Mem) (b : Nat) (m : List (κ × α)) : Prop := ∃ l clock, M b = some (mapObj kv vv l clock) ∧ MapOk l clock ∧ l.map (·.2) = m
theorem MapAt.nodup {M : Mem} {b : Nat} {m : List (κ × α)} (h : MapAt kv vv M b m) : (m.map (·.1)).Nodup := by
  obtain ⟨l, c, _, h1, rfl⟩ := h; rw [← map21]; exact h1.keys
theorem MapAt.mono {M M' : Mem} {b : Nat} {m : List (κ × α)} (h : MapAt kv vv M b m) (hb : ∀ o, M b = some o → M' b = some o) : MapAt kv vv M' b m := by
  obtain ⟨l, c, h0, h1⟩ := h; exact ⟨l, c, hb _ h0, h1⟩
theorem MapAt.new (M : Mem) (b : Nat) : MapAt kv vv (M.upd b (.map #[] 0)) b [] := ⟨[], 0, by simp [Mem.upd, mapObj], MapOk.empty, rfl⟩
/-- looked up -/
theorem MapAt.get {M : Mem} {b : Nat} {m : List (κ × α)} (h : MapAt kv vv M b m) (hk : KeyOk kv) (k : κ) {K : Option (Nat × Value) → Prop} (h0 : aget m k = none → K none) (h1 : ∀ x i, aget m k = some x → K (some (i, vv x))) :
    onO (M.mapAt b) fun p => onO (kfind (kv k) p.1.toList 0) K := by
  obtain ⟨l, c, hM, _, rfl⟩ := h
  simp only [Mem.mapAt, hM, mapObj, onO]
  cases hg : aget (l.map (·.2)) k with
  | none => simp only [kfind_none hk 0 hg]; exact h0 hg
  | some x =>
    obtain ⟨j, hj, _⟩ := kfind_some (vv := vv) hk 0 hg
    simp only [hj]; exact h1 x _ hg
theorem MapAt.len {M : Mem} {b : Nat} {m : List (κ × α)} (h : MapAt kv vv M b m) {K : Array MapEntry × Nat → Prop} (hK : ∀ es c, es.size = m.length → K (es, c)) : onO (M.mapAt b) K := by
  obtain ⟨l, c, hM, _, rfl⟩ := h
  simp only [Mem.mapAt, hM, mapObj, onO]
  exact hK _ _ (by simp)
/-- laid in -/
theorem MapAt.put {M : Mem} {b : Nat} {m : List (κ × α)} (h : MapAt kv vv M b m) (hk : KeyOk kv) (k : κ) (x : α) {K : Array MapEntry × Nat → Option (Nat × Value) → Prop}
    (h0 : ∀ p f, (∀ M' : Mem, MapAt kv vv (M'.upd b (mput p f (kv k) (vv x))) b (aput m k x)) → K p f) : onO (M.mapAt b) fun p => onO (kfind (kv k) p.1.toList 0) fun f => K p f := by
  obtain ⟨l, c, hM, hok, rfl⟩ := h
  simp only [Mem.mapAt, hM, mapObj, onO]
  cases hg : aget (l.map (·.2)) k with
  | none =>
    simp only [kfind_none hk 0 hg]
    refine h0 _ _ fun M' => ⟨bput l c k x, bclock l c k, ?_, hok.put k x, bput_map ..⟩
    simp [Mem.upd, mput, mapObj, bput, bclock, hg, entOf]
  | some y =>
    obtain ⟨j, hj, hset, _⟩ := kfind_some (vv := vv) hk 0 hg
    simp only [hj]
    refine h0 _ _ fun M' => ⟨bput l c k x, bclock l c k, ?_, hok.put k x, bput_map ..⟩
    simp [Mem.upd, mput, mapObj, bput, bclock, hg, hset]
/-- struck out -/
theorem MapAt.del {M : Mem} {b : Nat} {m : List (κ × α)} (h : MapAt kv vv M b m) (hk : KeyOk kv) (k : κ) {K : Array MapEntry × Nat → Option (Nat × Value) → Prop}
    (h0 : ∀ p f, (∀ M' : Mem, MapAt kv vv (M'.upd b (mdrop p f)) b (adel m k)) → K p f) : onO (M.mapAt b) fun p => onO (kfind (kv k) p.1.toList 0) fun f => K p f := by
  obtain ⟨l, c, hM, hok, rfl⟩ := h
  simp only [Mem.mapAt, hM, mapObj, onO]
  cases hg : aget (l.map (·.2)) k with
  | none =>
    simp only [kfind_none hk 0 hg]
    refine h0 _ _ fun M' => ⟨bdel l k, c, ?_, hok.del k, bdel_map ..⟩
    have : bdel l k = l := by
      unfold bdel
      rw [List.filter_eq_self]
      intro p hp
      have := aget_none.1 hg
      simp only [decide_eq_true_eq, ne_eq]
      intro e; exact this (by rw [← map21]; exact List.mem_map.2 ⟨p, hp, e⟩)
    simp [Mem.upd, mdrop, mapObj, this]
  | some y =>
    obtain ⟨j, hj, _, hdel, hlt⟩ := kfind_some (vv := vv) hk 0 hg
    simp only [hj]
    refine h0 _ _ fun M' => ⟨bdel l k, c, ?_, hok.del k, bdel_map ..⟩
    have := hdel hok.keys
    simp [Mem.upd, mdrop, mapObj, this, hlt]
end
end Go.Vm
