/- Maps, as lists of keys and values. -/
import Derived.Test.YtnlghoenbhbfhaaJoin11
namespace Go.Vm
set_option linter.unusedSectionVars false
set_option linter.unusedSimpArgs false
section
variable {κ α : Type} [DecidableEq κ]
/-- two keys are the same just if their values are -/
def KeyOk (kv : κ → Value) : Prop := ∀ a b, sameV (kv a) (kv b) = some (decide (a = b))
def entOf (kv : κ → Value) (vv : α → Value) (p : Nat × κ × α) : MapEntry := { key := kv p.2.1, val := vv p.2.2, born := p.1 }
def mapObj (kv : κ → Value) (vv : α → Value) (l : List (Nat × κ × α)) (clock : Nat) : Obj := .map (l.map (entOf kv vv)).toArray clock
structure MapOk (l : List (Nat × κ × α)) (clock : Nat) : Prop where
  keys : (l.map (·.2.1)).Nodup
  old : ∀ p ∈ l, p.1 < clock
  apart : (l.map (·.1)).Nodup
/-! lists of keys and values -/
def aget : List (κ × α) → κ → Option α
  | [], _ => none
  | (k, x) :: r, i => if k = i then some x else aget r i
def aset : List (κ × α) → κ → α → List (κ × α)
  | [], _, _ => []
  | (k, y) :: r, i, x => if k = i then (i, x) :: r else (k, y) :: aset r i x
def aput (l : List (κ × α)) (k : κ) (x : α) : List (κ × α) := match aget l k with | some _ => aset l k x | none => l ++ [(k, x)]
def adel (l : List (κ × α)) (k : κ) : List (κ × α) := l.filter fun p => decide (p.1 ≠ k)
theorem aget_none {l : List (κ × α)} {k : κ} : aget l k = none ↔ k ∉ l.map (·.1) := by
  induction l with
  | nil => simp [aget]
  | cons p r ih =>
    obtain ⟨a, x⟩ := p
    simp only [aget]
    split
    · rename_i h; subst h; simp
    · rename_i h; rw [ih]; simp [Ne.symm h]
theorem aget_mem {l : List (κ × α)} {k : κ} {x : α} (h : aget l k = some x) : (k, x) ∈ l := by
  induction l with
  | nil => cases h
  | cons p r ih =>
    obtain ⟨a, y⟩ := p
    simp only [aget] at h
    split at h
    · rename_i e; subst e; cases h; simp
    · exact List.mem_cons_of_mem _ (ih h)
theorem aget_of_mem {l : List (κ × α)} (hn : (l.map (·.1)).Nodup) {k : κ} {x : α} (h : (k, x) ∈ l) : aget l k = some x := by
  induction l with
  | nil => cases h
  | cons p r ih =>
    obtain ⟨a, y⟩ := p
    simp only [List.map_cons, List.nodup_cons] at hn
    simp only [aget]
    rcases List.mem_cons.1 h with e | e
    · cases e; simp
    · split
      · rename_i ha; subst ha
        exact absurd (List.mem_map.2 ⟨_, e, rfl⟩) hn.1
      · exact ih hn.2 e
theorem aset_keys (l : List (κ × α)) (k : κ) (x : α) : (aset l k x).map (·.1) = l.map (·.1) := by
  induction l with
  | nil => rfl
  | cons p r ih =>
    obtain ⟨a, y⟩ := p
    simp only [aset]
    split
    · rename_i e; simp [e]
    · simp [ih]
theorem aget_aset (l : List (κ × α)) (k : κ) (x : α) (i : κ) : aget (aset l k x) i = if i = k ∧ (aget l k).isSome then some x else aget l i := by
  induction l with
  | nil => simp [aset, aget]
  | cons p r ih =>
    obtain ⟨a, y⟩ := p
    simp only [aset]
    by_cases ha : a = k
    · rw [if_pos ha]
      subst ha
      simp only [aget, if_true, Option.isSome_some, and_true]
      by_cases hi : a = i
      · simp [hi]
      · rw [if_neg hi, if_neg hi, if_neg (fun e => hi e.symm)]
    · rw [if_neg ha]
      simp only [aget, if_neg ha, ih]
      by_cases hi : a = i
      · rw [if_pos hi, if_pos hi, if_neg (fun e => ha (hi.trans e.1))]
      · rw [if_neg hi, if_neg hi]
theorem aget_append (l r : List (κ × α)) (i : κ) : aget (l ++ r) i = (aget l i).or (aget r i) := by
  induction l with
  | nil => simp [aget]
  | cons p l ih =>
    obtain ⟨a, y⟩ := p
    simp only [List.cons_append, aget]
    split <;> simp_all
theorem aget_aput (l : List (κ × α)) (k : κ) (x : α) (i : κ) : aget (aput l k x) i = if i = k then some x else aget l i := by
  unfold aput
  cases h : aget l k with
  | some y => simp only [aget_aset, h, Option.isSome_some, and_true]
  | none =>
    simp only [aget_append]
    by_cases hi : i = k
    · subst hi; rw [h]; simp [aget]
    · rw [if_neg hi]; simp only [aget]; rw [if_neg (fun e => hi e.symm)]; simp
theorem aput_keys (l : List (κ × α)) (k : κ) (x : α) : (aput l k x).map (·.1) = if (aget l k).isSome then l.map (·.1) else l.map (·.1) ++ [k] := by
  unfold aput
  cases h : aget l k <;> simp [aset_keys]
theorem aput_nodup {l : List (κ × α)} (h : (l.map (·.1)).Nodup) (k : κ) (x : α) : ((aput l k x).map (·.1)).Nodup := by
  rw [aput_keys]
  cases hg : aget l k with
  | some _ => simpa using h
  | none =>
    have := aget_none.1 hg
    simp only [Option.isSome_none, Bool.false_eq_true, if_false]
    rw [List.nodup_append]
    exact ⟨h, by simp, fun a ha b hb => by simp at hb; subst hb; exact fun e => this (e ▸ ha)⟩
theorem aget_adel (l : List (κ × α)) (k i : κ) : aget (adel l k) i = if i = k then none else aget l i := by
  unfold adel
  induction l with
  | nil => simp [aget]
  | cons p r ih =>
    obtain ⟨a, y⟩ := p
    simp only [List.filter_cons]
    by_cases ha : a = k
    · simp only [ha, ne_eq, not_true_eq_false, decide_false, Bool.false_eq_true, if_false]
      rw [ih]
      by_cases hi : i = k
      · simp [hi]
      · rw [if_neg hi, if_neg hi]; simp only [aget]; rw [if_neg (fun e => hi e.symm)]
    · simp only [ne_eq, ha, not_false_eq_true, decide_true, if_true, aget]
      rw [ih]
      by_cases hi : a = i
      · rw [if_pos hi, if_pos hi, if_neg (fun e => ha (hi.trans e))]
      · rw [if_neg hi, if_neg hi]
theorem adel_nodup {l : List (κ × α)} (h : (l.map (·.1)).Nodup) (k : κ) : ((adel l k).map (·.1)).Nodup := h.sublist (List.Sublist.map _ List.filter_sublist)
/-! the same, with the numbers of birth -/
def bset : List (Nat × κ × α) → κ → α → List (Nat × κ × α)
  | [], _, _ => []
  | (b, k, y) :: r, i, x => if k = i then (b, i, x) :: r else (b, k, y) :: bset r i x
def bput (l : List (Nat × κ × α)) (clock : Nat) (k : κ) (x : α) : List (Nat × κ × α) := match aget (l.map (·.2)) k with | some _ => bset l k x | none => l ++ [(clock, k, x)]
def bclock (l : List (Nat × κ × α)) (clock : Nat) (k : κ) : Nat := match aget (l.map (·.2)) k with | some _ => clock | none => clock + 1
def bdel (l : List (Nat × κ × α)) (k : κ) : List (Nat × κ × α) := l.filter fun p => decide (p.2.1 ≠ k)
theorem bset_map (l : List (Nat × κ × α)) (k : κ) (x : α) : (bset l k x).map (·.2) = aset (l.map (·.2)) k x := by
  induction l with
  | nil => rfl
  | cons p r ih =>
    obtain ⟨b, a, y⟩ := p
    simp only [bset, List.map_cons, aset]
    split <;> simp [ih]
theorem bset_born (l : List (Nat × κ × α)) (k : κ) (x : α) : (bset l k x).map (·.1) = l.map (·.1) := by
  induction l with
  | nil => rfl
  | cons p r ih =>
    obtain ⟨b, a, y⟩ := p
    simp only [bset]
    split <;> simp [ih]
theorem bput_map (l : List (Nat × κ × α)) (clock : Nat) (k : κ) (x : α) : (bput l clock k x).map (·.2) = aput (l.map (·.2)) k x := by
  unfold bput aput
  cases h : aget (l.map (·.2)) k <;> simp [bset_map]
theorem bdel_map (l : List (Nat × κ × α)) (k : κ) : (bdel l k).map (·.2) = adel (l.map (·.2)) k := by
  unfold bdel adel
  rw [List.filter_map]
  rfl
theorem map21 (l : List (Nat × κ × α)) : l.map (·.2.1) = (l.map (·.2)).map (·.1) := by simp
theorem MapOk.put {l : List (Nat × κ × α)} {clock : Nat} (h : MapOk l clock) (k : κ) (x : α) : MapOk (bput l clock k x) (bclock l clock k) := by
  refine ⟨?_, ?_, ?_⟩
  · rw [map21, bput_map]; exact aput_nodup (by rw [← map21]; exact h.keys) k x
  · unfold bput bclock
    cases hg : aget (l.map (·.2)) k with
    | some y =>
      intro p hp
      simp only at hp ⊢
      have : p.1 ∈ (bset l k x).map (·.1) := List.mem_map.2 ⟨p, hp, rfl⟩
      rw [bset_born] at this
      obtain ⟨q, hq, e⟩ := List.mem_map.1 this
      rw [← e]; exact h.old q hq
    | none =>
      intro p hp
      simp only [List.mem_append, List.mem_singleton] at hp ⊢
      rcases hp with hp | rfl
      · have := h.old p hp; omega
      · simp
  · unfold bput
    cases hg : aget (l.map (·.2)) k with
    | some y => simp only [bset_born]; exact h.apart
    | none =>
      simp only [List.map_append, List.map_cons, List.map_nil]
      rw [List.nodup_append]
      refine ⟨h.apart, by simp, fun a ha b hb => ?_⟩
      simp at hb; subst hb
      obtain ⟨q, hq, e⟩ := List.mem_map.1 ha
      have := h.old q hq
      intro e'; omega
theorem MapOk.del {l : List (Nat × κ × α)} {clock : Nat} (h : MapOk l clock) (k : κ) : MapOk (bdel l k) clock :=
  ⟨h.keys.sublist (List.Sublist.map _ List.filter_sublist), fun p hp => h.old p (List.mem_filter.1 hp).1, h.apart.sublist (List.Sublist.map _ List.filter_sublist)⟩
theorem MapOk.empty : MapOk ([] : List (Nat × κ × α)) 0 := ⟨by simp, by simp, by simp⟩
/-! looking -/
variable {kv : κ → Value} {vv : α → Value}
theorem kfind_none (hk : KeyOk kv) {k : κ} : ∀ {l : List (Nat × κ × α)} (i : Nat), aget (l.map (·.2)) k = none → kfind (kv k) (l.map (entOf kv vv)) i = some none
  | [], _, _ => rfl
  | (b, a, y) :: r, i, h => by
    simp only [List.map_cons, aget] at h
    split at h
    · cases h
    · rename_i hne
      simp only [List.map_cons, kfind, entOf, hk k a]
      rw [decide_eq_false (fun e => hne e.symm)]
      exact kfind_none hk (i + 1) h
theorem kfind_some (hk : KeyOk kv) {k : κ} {x : α} : ∀ {l : List (Nat × κ × α)} (i : Nat), aget (l.map (·.2)) k = some x → ∃ j, kfind (kv k) (l.map (entOf kv vv)) i = some (some (i + j, vv x)) ∧
      (∀ y, ((l.map (entOf kv vv)).modify j fun e => { e with key := kv k, val := vv y }) = (bset l k y).map (entOf kv vv)) ∧ (∀ (_ : (l.map (·.2.1)).Nodup), (l.map (entOf kv vv)).eraseIdx j = (bdel l k).map (entOf kv vv)) ∧ j < l.length
  | [], _, h => by cases h
  | (b, a, y) :: r, i, h => by
    simp only [List.map_cons, aget] at h
    split at h
    · rename_i e; subst e; cases h
      refine ⟨0, ?_, ?_, ?_, by simp⟩
      · simp [kfind, entOf, hk a a]
      · intro y'; simp [entOf, bset]
      · intro hn
        simp only [List.map_cons, List.nodup_cons] at hn
        have : ∀ p ∈ r, p.2.1 ≠ a := fun p hp e => hn.1 (e ▸ List.mem_map.2 ⟨p, hp, rfl⟩)
        simp only [List.map_cons, List.eraseIdx_cons_zero, bdel, List.filter_cons, ne_eq, not_true_eq_false, decide_false, Bool.false_eq_true, if_false]
        rw [List.filter_eq_self.2]
        intro p hp; simpa using this p hp
    · rename_i hne
      obtain ⟨j, h1, h3, h4, h5⟩ := kfind_some hk (i + 1) h
      refine ⟨j + 1, ?_, ?_, ?_, by simp; omega⟩
      · simp only [List.map_cons, kfind, entOf, hk k a]
        rw [decide_eq_false (fun e => hne e.symm)]
        simp only
        rw [h1]
        congr 3
        omega
      · intro y'; simp only [List.map_cons, List.modify_succ_cons, bset, if_neg hne]; rw [h3]
      · intro hn
        simp only [List.map_cons, List.nodup_cons] at hn
        simp only [List.map_cons, List.eraseIdx_cons_succ]
        rw [h4 hn.2]
        simp [bdel, List.filter_cons, hne]
/-- where a map lies -/
def MapAt (kv : κ → Value) (vv : α → Value) (M : Mem) (b : Nat) (m : List (κ × α)) : Prop := ∃ l clock, M b = some (mapObj kv vv l clock) ∧ MapOk l clock ∧ l.map (·.2) = m
theorem MapAt.nodup {M : Mem} {b : Nat} {m : List (κ × α)} (h : MapAt kv vv M b m) : (m.map (·.1)).Nodup := by
  obtain ⟨l, c, _, h1, rfl⟩ := h; rw [← map21]; exact h1.keys
theorem MapAt.mono {M M' : Mem} {b : Nat} {m : List (κ × α)} (h : MapAt kv vv M b m) (hb : ∀ o, M b = some o → M' b = some o) : MapAt kv vv M' b m := by
  obtain ⟨l, c, h0, h1⟩ := h; exact ⟨l, c, hb _ h0, h1⟩
theorem MapAt.new (M : Mem) (b : Nat) : MapAt kv vv (M.upd b (.map #[] 0)) b [] := ⟨[], 0, by simp [Mem.upd, mapObj], MapOk.empty, rfl⟩
/-- looked up -/
theorem MapAt.get {M : Mem} {b : Nat} {m : List (κ × α)} (h : MapAt kv vv M b m) (hk : KeyOk kv) (k : κ) {K : Option (Nat × Value) → Prop} (h0 : aget m k = none → K none) (h1 : ∀ x i, aget m k = some x → K (some (i, vv x))) :
    onO (M.mapAt b) fun p => onO (kfind (kv k) p.1.toList 0) K := by
  obtain ⟨l, c, hM, _, rfl⟩ := h
  simp only [Mem.mapAt, hM, mapObj, onO]
  cases hg : aget (l.map (·.2)) k with
  | none => simp only [kfind_none hk 0 hg]; exact h0 hg
  | some x =>
    obtain ⟨j, hj, _⟩ := kfind_some (vv := vv) hk 0 hg
    simp only [hj]; exact h1 x _ hg
theorem MapAt.len {M : Mem} {b : Nat} {m : List (κ × α)} (h : MapAt kv vv M b m) {K : Array MapEntry × Nat → Prop} (hK : ∀ es c, es.size = m.length → K (es, c)) : onO (M.mapAt b) K := by
  obtain ⟨l, c, hM, _, rfl⟩ := h
  simp only [Mem.mapAt, hM, mapObj, onO]
  exact hK _ _ (by simp)
/-- laid in -/
theorem MapAt.put {M : Mem} {b : Nat} {m : List (κ × α)} (h : MapAt kv vv M b m) (hk : KeyOk kv) (k : κ) (x : α) {K : Array MapEntry × Nat → Option (Nat × Value) → Prop}
    (h0 : ∀ p f, (∀ M' : Mem, MapAt kv vv (M'.upd b (mput p f (kv k) (vv x))) b (aput m k x)) → K p f) : onO (M.mapAt b) fun p => onO (kfind (kv k) p.1.toList 0) fun f => K p f := by
  obtain ⟨l, c, hM, hok, rfl⟩ := h
  simp only [Mem.mapAt, hM, mapObj, onO]
  cases hg : aget (l.map (·.2)) k with
  | none =>
    simp only [kfind_none hk 0 hg]
    refine h0 _ _ fun M' => ⟨bput l c k x, bclock l c k, ?_, hok.put k x, bput_map ..⟩
    simp [Mem.upd, mput, mapObj, bput, bclock, hg, entOf]
  | some y =>
    obtain ⟨j, hj, hset, _⟩ := kfind_some (vv := vv) hk 0 hg
    simp only [hj]
    refine h0 _ _ fun M' => ⟨bput l c k x, bclock l c k, ?_, hok.put k x, bput_map ..⟩
    simp [Mem.upd, mput, mapObj, bput, bclock, hg, hset]
/-- struck out -/
theorem MapAt.del {M : Mem} {b : Nat} {m : List (κ × α)} (h : MapAt kv vv M b m) (hk : KeyOk kv) (k : κ) {K : Array MapEntry × Nat → Option (Nat × Value) → Prop}
    (h0 : ∀ p f, (∀ M' : Mem, MapAt kv vv (M'.upd b (mdrop p f)) b (adel m k)) → K p f) : onO (M.mapAt b) fun p => onO (kfind (kv k) p.1.toList 0) fun f => K p f := by
  obtain ⟨l, c, hM, hok, rfl⟩ := h
  simp only [Mem.mapAt, hM, mapObj, onO]
  cases hg : aget (l.map (·.2)) k with
  | none =>
    simp only [kfind_none hk 0 hg]
    refine h0 _ _ fun M' => ⟨bdel l k, c, ?_, hok.del k, bdel_map ..⟩
    have : bdel l k = l := by
      unfold bdel
      rw [List.filter_eq_self]
      intro p hp
      have := aget_none.1 hg
      simp only [decide_eq_true_eq, ne_eq]
      intro e; exact this (by rw [← map21]; exact List.mem_map.2 ⟨p, hp, e⟩)
    simp [Mem.upd, mdrop, mapObj, this]
  | some y =>
    obtain ⟨j, hj, _, hdel, hlt⟩ := kfind_some (vv := vv) hk 0 hg
    simp only [hj]
    refine h0 _ _ fun M' => ⟨bdel l k, c, ?_, hok.del k, bdel_map ..⟩
    have := hdel hok.keys
    simp [Mem.upd, mdrop, mapObj, this, hlt]
end
end Go.Vm

/- Rounds over maps. -/
namespace Go.Vm
set_option linter.unusedSectionVars false
set_option linter.unusedSimpArgs false
section
variable {κ α : Type} [DecidableEq κ] {kv : κ → Value} {vv : α → Value}
/-- a round over the map m, at b: 'cur' what the map has now, 'todo' what is still to come -/
def Iter (kv : κ → Value) (vv : α → Value) (M : Mem) (b m : Nat) (cur todo : List (κ × α)) : Prop :=
  ∃ (l : List (Nat × κ × α)) (clock : Nat) (seen : List Nat) (tb : List (Nat × κ × α)), M m = some (mapObj kv vv l clock) ∧ MapOk l clock ∧ l.map (·.2) = cur ∧ M b = some (.mapIter (some m) clock (List.toArray seen) clock) ∧
    (∀ p ∈ l, p.1 ∈ seen ∨ p ∈ tb) ∧ (∀ p ∈ tb, p ∈ l ∧ p.1 ∉ seen) ∧ (tb.map (·.1)).Nodup ∧ tb.map (·.2) = todo
theorem Iter.at {M : Mem} {b m : Nat} {cur todo : List (κ × α)} (h : Iter kv vv M b m cur todo) : MapAt kv vv M m cur := by
  obtain ⟨l, c, seen, tb, h1, h2, h3, _⟩ := h; exact ⟨l, c, h1, h2, h3⟩
theorem Iter.mono {M M' : Mem} {b m : Nat} {cur todo : List (κ × α)} (h : Iter kv vv M b m cur todo) (hb : ∀ c o, c = b ∨ c = m → M c = some o → M' c = some o) : Iter kv vv M' b m cur todo := by
  obtain ⟨l, c, seen, tb, h1, h2, h3, h4, hr⟩ := h
  exact ⟨l, c, seen, tb, hb _ _ (.inr rfl) h1, h2, h3, hb _ _ (.inl rfl) h4, hr⟩
theorem Iter.le {M M' : Mem} {b m : Nat} {cur todo : List (κ × α)} (h : Iter kv vv M b m cur todo) (hle : M.le M') : Iter kv vv M' b m cur todo := h.mono fun c o _ => hle c o
theorem Iter.keep {M M' : Mem} {b m : Nat} {cur todo : List (κ × α)} {S : Nat → Prop} (h : Iter kv vv M b m cur todo) (hk : Mem.keep S M M') (h1 : ¬ S b) (h2 : ¬ S m) : Iter kv vv M' b m cur todo :=
  h.mono fun c o hc => hk c o (by rcases hc with rfl | rfl <;> assumption)
theorem Iter.ne {M : Mem} {b m : Nat} {cur todo : List (κ × α)} (h : Iter kv vv M b m cur todo) : b ≠ m := by
  obtain ⟨l, c, seen, tb, h1, h2, h3, h4, hr⟩ := h
  rintro rfl
  rw [h1] at h4; simp [mapObj] at h4
theorem Iter.todo_sub {M : Mem} {b m : Nat} {cur todo : List (κ × α)} (h : Iter kv vv M b m cur todo) : ∀ p ∈ todo, p ∈ cur := by
  obtain ⟨l, c, seen, tb, h1, h2, rfl, h4, h5, h6, h7, rfl⟩ := h
  intro p hp
  obtain ⟨q, hq, rfl⟩ := List.mem_map.1 hp
  exact List.mem_map.2 ⟨q, (h6 q hq).1, rfl⟩
theorem nodup_of_map_fst {β γ : Type} {l : List (β × γ)} (h : (l.map (·.1)).Nodup) : l.Nodup := by
  induction l with
  | nil => simp
  | cons p r ih =>
    simp only [List.map_cons, List.nodup_cons] at h ⊢
    exact ⟨fun hp => h.1 (List.mem_map.2 ⟨p, hp, rfl⟩), ih h.2⟩
theorem MapAt.range {M : Mem} {m : Nat} {cur : List (κ × α)} (h : MapAt kv vv M m cur) {K : Array MapEntry × Nat → Nat → Prop}
    (hk : ∀ p b, M b = none → Iter kv vv (M.upd b (.mapIter (some m) p.2 #[] p.2)) b m cur cur → K p b) :
    onO (M.mapAt m) fun p => New M fun b => K p b := by
  obtain ⟨l, c, hM, hok, rfl⟩ := h
  simp only [Mem.mapAt, hM, mapObj, onO]
  intro b hb
  have hne : m ≠ b := fun e => by subst e; rw [hb] at hM; cases hM
  refine hk _ b hb ⟨l, c, [], l, ?_, hok, rfl, by simp [Mem.upd], fun p hp => .inr hp, fun p hp => ⟨hp, by simp⟩, hok.apart, rfl⟩
  rw [Mem.upd_ne _ _ hne, hM]
/-- the next round -/
theorem Iter.next {M : Mem} {b m : Nat} {cur todo : List (κ × α)} (h : Iter kv vv M b m cur todo) {A : Prop} {k : SV → Mem → Prop} (h0 : todo = [] → k (.c (.v (.tuple #[.bool false]))) M)
    (h1 : ∀ i x todo' o, todo.Perm ((i, x) :: todo') → Iter kv vv (M.upd b o) b m cur todo' → entryOf (M.upd b o) b = some (kv i, vv x) → k (.c (.v (.tuple #[.bool true, kv i, vv x]))) (M.upd b o)) :
    onO (M.iterAt b) fun t => optN t.1 A (fun m => onO (M.mapAt m) fun p => NextVC M b t.2.1 t.2.2.2 m t.2.2.1 p.1 p.2 k) := by
  have hne := h.ne
  obtain ⟨l, c, seen, tb, hM, hok, rfl, hI, h5, h6, h7, rfl⟩ := h
  simp only [Mem.iterAt, hI, onO, optN, Mem.mapAt, hM, mapObj]
  refine ⟨?_, ?_, ?_⟩
  · cases hl : l with
    | nil => right; left; simp
    | cons p r =>
      right; right
      refine ⟨entOf kv vv p, by simp, ?_⟩
      exact hok.old p (by rw [hl]; simp)
  · intro hall
    apply h0
    cases htb : tb with
    | nil => rfl
    | cons p r =>
      exfalso
      obtain ⟨hp, hns⟩ := h6 p (by rw [htb]; simp)
      have hp1 := hok.old p hp
      rcases hall (entOf kv vv p) (by simp only [List.mem_map]; exact ⟨p, hp, rfl⟩) with hc | hc
      · simp only [entOf, List.contains_toArray, List.contains_iff_mem] at hc
        exact hns hc
      · simp only [entOf] at hc; omega
  · intro e he hns
    simp only [List.mem_map] at he
    obtain ⟨p, hp, rfl⟩ := he
    have hns' : p.1 ∉ seen := by simpa [entOf] using hns
    have hpt : p ∈ tb := (h5 p hp).resolve_left hns'
    obtain ⟨u, v, rfl⟩ := List.append_of_mem hpt
    have hperm : (u ++ p :: v).Perm (p :: (u ++ v)) := List.perm_middle
    refine h1 p.2.1 p.2.2 ((u ++ v).map (·.2)) _ (hperm.map (·.2)) ?_ ?_
    · refine ⟨l, c, seen ++ [p.1], u ++ v, ?_, hok, rfl, ?_, ?_, ?_, ?_, rfl⟩
      · rw [Mem.upd_ne _ _ (Ne.symm hne), hM]
      · rw [Mem.upd_same]; simp [entOf]
      · intro q hq
        rcases h5 q hq with hs | hs
        · left; simp [hs]
        · simp only [List.mem_append, List.mem_cons] at hs
          rcases hs with hs | rfl | hs
          · right; simp [hs]
          · left; simp
          · right; simp [hs]
      · intro q hq
        have hq' : q ∈ u ++ p :: v := by simp only [List.mem_append, List.mem_cons] at hq ⊢; rcases hq with hq | hq <;> simp [hq]
        obtain ⟨h8, h9⟩ := h6 q hq'
        refine ⟨h8, ?_⟩
        simp only [List.mem_append, List.mem_singleton, not_or]
        refine ⟨h9, fun e => ?_⟩
        have hnd : ((p :: (u ++ v)).map (·.1)).Nodup := (hperm.map (·.1)).nodup_iff.1 h7
        simp only [List.map_cons, List.nodup_cons] at hnd
        exact hnd.1 (e ▸ List.mem_map.2 ⟨q, hq, rfl⟩)
      · have hnd : ((p :: (u ++ v)).map (·.1)).Nodup := (hperm.map (·.1)).nodup_iff.1 h7
        simp only [List.map_cons, List.nodup_cons] at hnd
        exact hnd.2
    · have e1 : (M.upd b (.mapIter (some m) c ((List.toArray seen).push (entOf kv vv p).born) c)) m = some (mapObj kv vv l c) := by rw [Mem.upd_ne _ _ (Ne.symm hne), hM]
      simp only [entryOf, Mem.iterAt, Mem.upd_same, Mem.mapAt, e1, mapObj, Array.back?_push, if_true]
      have hf : (List.map (entOf kv vv) l).toArray.find? (fun x => x.born == (entOf kv vv p).born) = some (entOf kv vv p) := by
        rw [List.find?_toArray]
        rw [List.find?_map]
        have : l.find? ((fun x => x.born == (entOf kv vv p).born) ∘ entOf kv vv) = some p := by
          have hap := hok.apart
          clear h5 h6 h7 hns hns' hpt hperm hok hM e1 h0 h1
          induction l with
          | nil => cases hp
          | cons q r ih =>
            simp only [List.map_cons, List.nodup_cons] at hap
            rw [List.find?_cons]
            rcases List.mem_cons.1 hp with rfl | hp
            · simp [entOf]
            · have hne : q.1 ≠ p.1 := fun e => hap.1 (e ▸ List.mem_map.2 ⟨p, hp, rfl⟩)
              have hb : ((fun x => x.born == (entOf kv vv p).born) ∘ entOf kv vv) q = false := by simpa [entOf] using hne
              rw [hb]
              exact ih hp hap.2
        rw [this]; rfl
      rw [hf]; rfl
theorem mem_bset {p : Nat × κ × α} {l : List (Nat × κ × α)} {k : κ} {x : α} (hp : p ∈ bset l k x) : (p ∈ l ∧ p.2.1 ≠ k) ∨ (p.2.1 = k ∧ ∃ y, (p.1, k, y) ∈ l) ∨ False := by
  induction l with
  | nil => simp [bset] at hp
  | cons q r ih =>
    obtain ⟨b', a, y'⟩ := q
    simp only [bset] at hp
    split at hp
    · rename_i e
      subst e
      rcases List.mem_cons.1 hp with rfl | hp
      · right; left; exact ⟨rfl, y', by simp⟩
      · by_cases e : p.2.1 = a
        · right; left; exact ⟨e, p.2.2, by rw [← e]; exact List.mem_cons_of_mem _ hp⟩
        · left; exact ⟨List.mem_cons_of_mem _ hp, e⟩
    · rename_i e
      rcases List.mem_cons.1 hp with rfl | hp
      · left; exact ⟨by simp, e⟩
      · rcases ih hp with ⟨h1, h2⟩ | ⟨h1, z, h2⟩ | h1
        · left; exact ⟨List.mem_cons_of_mem _ h1, h2⟩
        · right; left; exact ⟨h1, z, List.mem_cons_of_mem _ h2⟩
        · exact h1.elim
theorem mem_bset2 {p : Nat × κ × α} {l : List (Nat × κ × α)} {k : κ} {x : α} (hp : p ∈ l) (hne : p.2.1 ≠ k) : p ∈ bset l k x := by
  induction l with
  | nil => cases hp
  | cons q r ih =>
    obtain ⟨b', a, y'⟩ := q
    simp only [bset]
    rcases List.mem_cons.1 hp with rfl | hp
    · rw [if_neg hne]; simp
    · split
      · exact List.mem_cons_of_mem _ hp
      · exact List.mem_cons_of_mem _ (ih hp)
/-- what was met already turns, in the map itself -/
theorem Iter.put {M : Mem} {b m : Nat} {cur todo : List (κ × α)} (h : Iter kv vv M b m cur todo) (hk : KeyOk kv) (k : κ) (x : α) (hc : (aget cur k).isSome) (ht : aget todo k = none) {K : Array MapEntry × Nat → Option (Nat × Value) → Prop}
    (h0 : ∀ p f, (∀ M' : Mem, M' b = M b → Iter kv vv (M'.upd m (mput p f (kv k) (vv x))) b m (aput cur k x) todo) → K p f) : onO (M.mapAt m) fun p => onO (kfind (kv k) p.1.toList 0) fun f => K p f := by
  have hne := h.ne
  obtain ⟨l, c, seen, tb, hM, hok, rfl, hI, h5, h6, h7, rfl⟩ := h
  simp only [Mem.mapAt, hM, mapObj, onO]
  obtain ⟨y, hg⟩ := Option.isSome_iff_exists.1 hc
  obtain ⟨j, hj, hset, _⟩ := kfind_some (vv := vv) hk 0 hg
  simp only [hj]
  have hbp : bput l c k x = bset l k x := by simp [bput, hg]
  have hbc : bclock l c k = c := by simp [bclock, hg]
  have hok' := hok.put k x
  rw [hbp, hbc] at hok'
  have hmem := fun p => mem_bset (p := p) (l := l) (k := k) (x := x)
  have hmem2 := fun p => mem_bset2 (p := p) (l := l) (k := k) (x := x)
  have htk : ∀ p ∈ tb, p.2.1 ≠ k := fun p hp e => (aget_none.1 ht) (by rw [← map21]; exact List.mem_map.2 ⟨p, hp, e⟩)
  refine h0 _ _ fun M' hM' => ⟨bset l k x, c, seen, tb, ?_, hok', ?_, ?_, ?_, ?_, h7, rfl⟩
  · simp [Mem.upd, mput, mapObj, hset]
  · rw [bset_map]; simp [aput, hg]
  · rw [Mem.upd_ne _ _ hne, hM', hI]
  · intro p hp
    rcases hmem p hp with ⟨h1, h2⟩ | ⟨h1, z, h2⟩ | h1
    · exact h5 p h1
    · rcases h5 _ h2 with hs | hs
      · exact .inl hs
      · exact absurd rfl (htk _ hs)
    · exact h1.elim
  · intro p hp
    exact ⟨hmem2 p (h6 p hp).1 (htk p hp), (h6 p hp).2⟩
theorem Iter.del {M : Mem} {b m : Nat} {cur todo : List (κ × α)} (h : Iter kv vv M b m cur todo) (hk : KeyOk kv) (k : κ) (ht : aget todo k = none) {K : Array MapEntry × Nat → Option (Nat × Value) → Prop}
    (h0 : ∀ p f, (∀ M' : Mem, M' b = M b → Iter kv vv (M'.upd m (mdrop p f)) b m (adel cur k) todo) → K p f) : onO (M.mapAt m) fun p => onO (kfind (kv k) p.1.toList 0) fun f => K p f := by
  have hne := h.ne
  obtain ⟨l, c, seen, tb, hM, hok, rfl, hI, h5, h6, h7, rfl⟩ := h
  simp only [Mem.mapAt, hM, mapObj, onO]
  have htk : ∀ p ∈ tb, p.2.1 ≠ k := fun p hp e => (aget_none.1 ht) (by rw [← map21]; exact List.mem_map.2 ⟨p, hp, e⟩)
  have fin : ∀ p f, mdrop p f = mapObj kv vv (bdel l k) c → ∀ M' : Mem, M' b = M b → Iter kv vv (M'.upd m (mdrop p f)) b m (adel (l.map (·.2)) k) (tb.map (·.2)) := fun p f e M' hM' =>
    ⟨bdel l k, c, seen, tb, by rw [Mem.upd_same, e], hok.del k, bdel_map .., by rw [Mem.upd_ne _ _ hne, hM', hI], fun q hq => h5 q (List.mem_filter.1 hq).1,
      fun q hq => ⟨List.mem_filter.2 ⟨(h6 q hq).1, by simpa using htk q hq⟩, (h6 q hq).2⟩, h7, rfl⟩
  cases hg : aget (l.map (·.2)) k with
  | none =>
    simp only [kfind_none hk 0 hg]
    refine h0 _ _ (fin _ _ ?_)
    have : bdel l k = l := by
      unfold bdel
      rw [List.filter_eq_self]
      intro p hp
      have := aget_none.1 hg
      simp only [decide_eq_true_eq, ne_eq]
      intro e; exact this (by rw [← map21]; exact List.mem_map.2 ⟨p, hp, e⟩)
    simp [mdrop, mapObj, this]
  | some y =>
    obtain ⟨j, hj, _, hdel, hlt⟩ := kfind_some (vv := vv) hk 0 hg
    simp only [hj]
    refine h0 _ _ (fin _ _ ?_)
    have := hdel hok.keys
    simp [mdrop, mapObj, this, hlt]
end
end Go.Vm

/- A new row's cells are written. -/
namespace Go.Vm
theorem NewSl.store1 {α : Type} {f : α → Value} {M M2 : Mem} {E : TypeId} {a : Option Addr} {n c : Nat} {L : List α} (h : NewSl M E 1 a n c (L.map f) M2) {j : Nat} (hj : j < n) :
    ∃ b cs, a = some ⟨b, 0, Option.none⟩ ∧ M b = Option.none ∧ M2.cells b = some (E, cs) ∧ 0 + j * 1 + 1 ≤ cs.length ∧ ∀ v, NewSl M E 1 a n c ((L.set j v).map f) (M2.setCells b E (splice cs (0 + j * 1) [f v])) ∧ Mem.keep (blk a) M2 (M2.setCells b E (splice cs (0 + j * 1) [f v])) := by
  obtain ⟨b, cs, rfl, hcells, hlen, hst⟩ := h.wr.store1 hj
  have hb : M b = Option.none := (h.block rfl).1
  refine ⟨b, cs, rfl, hb, hcells, hlen, fun v => ⟨?_, (hst v).2⟩⟩
  obtain ⟨h1, h2, h3⟩ := (hst v).1
  refine newSl_iff.2 ⟨(hst v).2.le h.le (fun x hx => ?_), h1, h2, .inr ?_⟩
  · obtain ⟨q, hq, e⟩ := hx; cases hq; subst e; exact hb
  · rcases h3 with ⟨h4, _⟩ | ⟨b3, cs3, h4, h5, h6, h7⟩
    · cases h4
    · cases h4; exact ⟨b, cs3, rfl, hb, h5, h6, h7⟩
/-- all but the row itself stays -/
theorem NewSl.rebase {M M2 M5 : Mem} {E : TypeId} {s : Nat} {a : Option Addr} {n c : Nat} {L : List Value} (h : NewSl M E s a n c L M2) (hle : M2.le M5) : NewSl (M5.minus (blk a)) E s a n c L M5 := by
  rw [newSl_iff] at h ⊢
  obtain ⟨_, h1, h2, h3⟩ := h
  exact ⟨Mem.minus_le _ _, h1, h2, h3.imp id fun ⟨b, cs, ha, _, hh, hr⟩ => ⟨b, cs, ha, Mem.minus_in ⟨_, ha, rfl⟩, hle _ _ hh, hr⟩⟩
end Go.Vm

/- New rows, side by side. -/
namespace Go.Vm
theorem NewSl.rebase2 {M M2 M5 : Mem} {E : TypeId} {s : Nat} {a : Option Addr} {n c : Nat} {L : List Value} (h : NewSl M E s a n c L M2) (hle : M2.le M5) {X : Nat → Prop} (hX : ∀ x, blk a x → X x) : NewSl (M5.minus X) E s a n c L M5 := by
  rw [newSl_iff] at h ⊢
  obtain ⟨_, h1, h2, h3⟩ := h
  exact ⟨Mem.minus_le _ _, h1, h2, h3.imp id fun ⟨b, cs, ha, _, hh, hr⟩ => ⟨b, cs, ha, Mem.minus_in (hX _ ⟨_, ha, rfl⟩), hle _ _ hh, hr⟩⟩
/-- blocks of two new rows of different kinds -/
theorem NewSl.ne {M M' : Mem} {E E' : TypeId} {s s' : Nat} {a a' : Option Addr} {n c n' c' : Nat} {L L' : List Value} (h : NewSl M E s a n c L M') (h' : NewSl M E' s' a' n' c' L' M') (hE : E ≠ E') {q q' : Addr} (hq : a = some q) (hq' : a' = some q') : q.block ≠ q'.block := fun e => by
  obtain ⟨_, cs, h1⟩ := h.block hq
  obtain ⟨_, cs', h2⟩ := h'.block hq'
  rw [e] at h1
  exact hE (h1.inj h2).1
end Go.Vm
namespace Go.Vm
/-- the row itself turned, else all stays -/
theorem NewSl.ofWr {M M1 M2 : Mem} {E E' : TypeId} {s s' : Nat} {a a' : Option Addr} {n c n' c' : Nat} {L L' : List Value} (h : NewSl M E s a n c L M1) (hw : Wr M2 E' s' a' n' c' L') (hk : Mem.keep (blk a) M1 M2) (ha : blk a = blk a') : NewSl M E' s' a' n' c' L' M2 := by
  have hb : ∀ x, blk a x → M x = Option.none := fun x ⟨q, hq, e⟩ => by subst e; exact (h.block hq).1
  refine newSl_iff.2 ⟨hk.le h.le hb, ?_⟩
  obtain ⟨h1, h2, h3⟩ := hw
  exact ⟨h1, h2, h3.imp id fun ⟨b, cs, hab, hr⟩ => ⟨b, cs, hab, hb b (by rw [ha]; exact ⟨_, hab, rfl⟩), hr⟩⟩
section
variable {κ α : Type} {kv : κ → Value} {vv : α → Value}
/-- a row is no map, no round -/
theorem MapAt.nb {M : Mem} {b : Nat} {m : List (κ × α)} (h : MapAt kv vv M b m) {x : Nat} {E : TypeId} {l : List Value} (hx : M.has x E l) : x ≠ b := by
  rintro rfl
  obtain ⟨l1, c, h1, _⟩ := h
  unfold Mem.has at hx; rw [h1] at hx; simp [mapObj] at hx
theorem Iter.nb {M : Mem} {b m : Nat} {cur todo : List (κ × α)} (h : Iter kv vv M b m cur todo) {x : Nat} {E : TypeId} {l : List Value} (hx : M.has x E l) : x ≠ b ∧ x ≠ m := by
  obtain ⟨l1, c, seen, tb, h1, h2, h3, h4, hr⟩ := h
  constructor
  · rintro rfl; unfold Mem.has at hx; rw [h4] at hx; simp at hx
  · rintro rfl; unfold Mem.has at hx; rw [h1] at hx; simp [mapObj] at hx
/-- a row that is read, while a map turns -/
theorem MapAt.src {M M' : Mem} {x : Nat} {m : List (κ × α)} (h : MapAt kv vv M x m) {s : Nat} {a : Option Addr} {n : Nat} {l : List Value} (h' : SrcOk M s a n l) (hk : Mem.keep (fun y => y = x) M M') : SrcOk M' s a n l := by
  unfold SrcOk at h' ⊢
  obtain ⟨h1, h2 | ⟨b, o, rfl, h3⟩⟩ := h'
  · exact ⟨h1, .inl h2⟩
  · refine ⟨h1, .inr ⟨b, o, rfl, ?_⟩⟩
    have hne : b ≠ x := by
      rintro rfl
      obtain ⟨l1, c, h4, _⟩ := h
      unfold Mem.row at h3
      rw [h4] at h3
      simp [mapObj] at h3
    unfold Mem.row at h3 ⊢
    cases hb : M b with
    | none => rw [hb] at h3; cases h3
    | some ob => rw [hb] at h3; rw [hk b ob hne hb]; exact h3
end
end Go.Vm
namespace Go.Vm
theorem NewEls.new0 {α : Type} {M : Mem} {b : Nat} (hb : M b = Option.none) (E : TypeId) (s : Nat) (R : List Value → α → Prop) : NewEls M E s (some ⟨b, 0, Option.none⟩) 0 0 R [] (M.setCells b E []) :=
  ⟨[], NewSl.lit hb E s 0 [] (by simp), rfl, rfl, by simp, by simp⟩
end Go.Vm
namespace Go.Vm
/-- what a call does not need stays beside it -/
theorem CallsM.frame {P : Program} {f : Nat} {args : List Value} {A M : Mem} {R : Value → Mem → Prop} (h : CallsM P f args A R) (hA : A.le M) :
    CallsM P f args M fun v M' => ∃ A', R v A' ∧ A'.le M' ∧ ∀ x o, A x = none → M x = some o → M' x = some o ∧ A' x = none := by
  refine ⟨h.1, fun F w hM hF hdj => ?_⟩
  obtain ⟨F', hF'⟩ : ∃ F' : Mem, F' = fun x => if A x = none then (if M x = none then F x else M x) else none := ⟨_, rfl⟩
  have hFF : F.le F' := fun x o hx => by
    have hMx : M x = none := (hdj x).resolve_right (by rw [hx]; simp)
    have hAx : A x = none := by
      cases e : A x with
      | none => rfl
      | some y => rw [hA x y e] at hMx; cases hMx
    rw [hF']; dsimp only; rw [if_pos hAx, if_pos hMx]; exact hx
  have hF'w : F'.le (memOf w) := fun x o hx => by
    rw [hF'] at hx; dsimp only at hx
    split at hx
    · split at hx
      · exact hF x o hx
      · exact hM x o hx
    · cases hx
  have hdj' : A.disj F' := fun x => by
    by_cases e : A x = none
    · exact .inl e
    · right; rw [hF']; dsimp only; rw [if_neg e]
  refine (h.2 F' w (fun x o hx => hM x o (hA x o hx)) hF'w hdj').mono ?_
  rintro e w' ⟨v, A', he, hR, hA', hFw', hdA, hrest⟩
  have hin : ∀ x o, A x = none → M x = some o → F' x = some o := fun x o h1 h2 => by
    rw [hF']; dsimp only; rw [if_pos h1, if_neg (by rw [h2]; simp)]; exact h2
  obtain ⟨M', hM'⟩ : ∃ M' : Mem, M' = fun x => if A' x = none then (if A x = none then M x else none) else A' x := ⟨_, rfl⟩
  refine ⟨v, M', he, ⟨A', hR, fun x o hx => by rw [hM']; dsimp only; rw [if_neg (by rw [hx]; simp)]; exact hx, fun x o h1 h2 => ?_⟩, fun x o hx => ?_, fun x o hx => hFw' x o (hFF x o hx), fun x => ?_, hrest⟩
  · have := hin x o h1 h2
    have hn : A' x = none := (hdA x).resolve_right (by rw [this]; simp)
    exact ⟨by rw [hM']; dsimp only; rw [if_pos hn, if_pos h1]; exact h2, hn⟩
  · rw [hM'] at hx; dsimp only at hx
    split at hx
    · split at hx
      · exact hFw' x o (hin x o ‹_› hx)
      · cases hx
    · exact hA' x o hx
  · cases e : F x with
    | none => exact .inr rfl
    | some o =>
      left
      have hFx := hFF x o e
      have hn : A' x = none := (hdA x).resolve_right (by rw [hFx]; simp)
      have hMx : M x = none := (hdj x).resolve_right (by rw [e]; simp)
      rw [hM']; dsimp only; rw [if_pos hn]; split
      · exact hMx
      · rfl
end Go.Vm
namespace Go.Vm
/-- appending, and how much room there is then -/
theorem appNC {E : TypeId} {size bytes : Nat} {a : Option Addr} {n c m : Nat} {news : List Value} {M : Mem} {k : Option Addr → Nat → Mem → Prop} (M0 : Mem) (L : List Value) (hown : NewSl M0 E size a n c L M)
    (h1 : (n + m) * bytes ≤ 140737488355328) (h2 : n + m ≤ maxLen) (h3 : ∀ u ∈ news, u.oneCell' = true) (hk : ∀ a' c' M', (c' = c ∨ c' ≤ maxLen) → NewSl M0 E size a' (n + m) c' (L ++ news) M' → k a' c' M') : AppVC E size bytes a n c m news M k := by
  obtain ⟨M1, h0, h⟩ := hown
  exact appC M1 L h h1 h2 h3 fun a' c' M' hc ho => hk a' c' M' hc ⟨M1, h0, ho⟩
end Go.Vm

