/- Rounds over maps. -/
import Derived.Test.YtjkejbenppeagaaGreatDoorVmM
namespace Go.Vm
set_option linter.unusedSectionVars false
set_option linter.unusedSimpArgs false
section
variable {κ α : Type} [DecidableEq κ] {kv : κ → Value} {vv : α → Value}
/-- a round over the map m, at b: 'cur' what the map has now, 'todo' what is still to come -/
def Iter (kv : κ → Value) (vv : α → Value) (M : Mem) (b m : Nat) (cur todo : List (κ × α)) : Prop :=
  ∃ (l : List (Nat × κ × α)) (clock : Nat) (seen : List Nat) (tb : List (Nat × κ × α)), M m = some (mapObj kv vv l clock) ∧ MapOk l clock ∧ l.map (·.2) = cur ∧ M b = some (.mapIter (some m) clock (List.toArray seen) clock) ∧
    (∀ p ∈ l, p.1 ∈ seen ∨ p ∈ tb) ∧ (∀ p ∈ tb, p ∈ l ∧ p.1 ∉ seen) ∧ (tb.map (·.1)).Nodup ∧ tb.map (·.2) = todo
theorem Iter.at {M : Mem} {b m : Nat} {cur todo : List (κ × α)} (h : Iter kv vv M b m cur todo) : MapAt kv vv M m cur := by
  obtain ⟨l, c, seen, tb, h1, h2, h3, _⟩ := h; exact ⟨l, c, h1, h2, h3⟩
theorem Iter.mono {M M' : Mem} {b m : Nat} {cur todo : List (κ × α)} (h : Iter kv vv M b m cur todo) (hb : ∀ c o, c = b ∨ c = m → M c = some o → M' c = some o) : Iter kv vv M' b m cur todo := by
  obtain ⟨l, c, seen, tb, h1, h2, h3, h4, hr⟩ := h
  exact ⟨l, c, seen, tb, hb _ _ (.inr rfl) h1, h2, h3, hb _ _ (.inl rfl) h4, hr⟩
theorem Iter.le {M M' : Mem} {b m : Nat} {cur todo : List (κ × α)} (h : Iter kv vv M b m cur todo) (hle : M.le M') : Iter kv vv M' b m cur todo := h.mono fun c o _ => hle c o
theorem Iter.keep {M M' : Mem} {b m : Nat} {cur todo : List (κ × α)} {S : Nat → Prop} (h : Iter kv vv M b m cur todo) (hk : Mem.keep S M M') (h1 : ¬ S b) (h2 : ¬ S m) : Iter kv vv M' b m cur todo :=
  h.mono fun c o hc => hk c o (by rcases hc with rfl | rfl <;> assumption)
theorem Iter.ne {M : Mem} {b m : Nat} {cur todo : List (κ × α)} (h : Iter kv vv M b m cur todo) : b ≠ m := by
  obtain ⟨l, c, seen, tb, h1, h2, h3, h4, hr⟩ := h
  rintro rfl
  rw [h1] at h4; simp [mapObj] at h4
theorem Iter.todo_sub {M : Mem} {b m : Nat} {cur todo : List (κ × α)} (h : Iter kv vv M b m cur todo) : ∀ p ∈ todo, p ∈ cur := by
  obtain ⟨l, c, seen, tb, h1, h2, rfl, h4, h5, h6, h7, rfl⟩ := h
  intro p hp
  obtain ⟨q, hq, rfl⟩ := List.mem_map.1 hp
  exact List.mem_map.2 ⟨q, (h6 q hq).1, rfl⟩
theorem nodup_of_map_fst {β γ : Type} {l : List (β × γ)} (h : (l.map (·.1)).Nodup) : l.Nodup := by
  induction l with
  | nil => simp
  | cons p r ih =>
    simp only [List.map_cons, List.nodup_cons] at h ⊢
    exact ⟨fun hp => h.1 (List.mem_map.2 ⟨p, hp, rfl⟩), ih h.2⟩
theorem MapAt.range {M : Mem} {m : Nat} {cur : List (κ × α)} (h : MapAt kv vv M m cur) {K : Array MapEntry × Nat → Nat → Prop}
    (hk : ∀ p b, M b = none → Iter kv vv (M.upd b (.mapIter (some m) p.2 #[] p.2)) b m cur cur → K p b) :
    onO (M.mapAt m) fun p => New M fun b => K p b := by
  obtain ⟨l, c, hM, hok, rfl⟩ := h
  simp only [Mem.mapAt, hM, mapObj, onO]
  intro b hb
  have hne : m ≠ b := fun e => by subst e; rw [hb] at hM; cases hM
  refine hk _ b hb ⟨l, c, [], l, ?_, hok, rfl, by simp [Mem.upd], fun p hp => .inr hp, fun p hp => ⟨hp, by simp⟩, hok.apart, rfl⟩
  rw [Mem.upd_ne _ _ hne, hM]
/-- the next round -/
theorem Iter.next {M : Mem} {b m : Nat} {cur todo : List (κ × α)} (h : Iter kv vv M b m cur todo) {A : Prop} {k : SV → Mem → Prop} (h0 : todo = [] → k (.c (.v (.tuple #[.bool false]))) M)
    (h1 : ∀ i x todo' o, todo.Perm ((i, x) :: todo') → Iter kv vv (M.upd b o) b m cur todo' → entryOf (M.upd b o) b = some (kv i, vv x) → k (.c (.v (.tuple #[.bool true, kv i, vv x]))) (M.upd b o)) :
    onO (M.iterAt b) fun t => optN t.1 A (fun m => onO (M.mapAt m) fun p => NextVC M b t.2.1 t.2.2.2 m t.2.2.1 p.1 p.2 k) := by
  have hne := h.ne
  obtain ⟨l, c, seen, tb, hM, hok, rfl, hI, h5, h6, h7, rfl⟩ := h
  simp only [Mem.iterAt, hI, onO, optN, Mem.mapAt, hM, mapObj]
  refine ⟨?_, ?_, ?_⟩
  · cases hl : l with
    | nil => right; left; simp
    | cons p r =>
      right; right
      refine ⟨entOf kv vv p, by simp, ?_⟩
      exact hok.old p (by rw [hl]; simp)
  · intro hall
    apply h0
    cases htb : tb with
    | nil => rfl
    | cons p r =>
      exfalso
      obtain ⟨hp, hns⟩ := h6 p (by rw [htb]; simp)
      have hp1 := hok.old p hp
      rcases hall (entOf kv vv p) (by simp only [List.mem_map]; exact ⟨p, hp, rfl⟩) with hc | hc
      · simp only [entOf, List.contains_toArray, List.contains_iff_mem] at hc
        exact hns hc
      · simp only [entOf] at hc; omega
  · intro e he hns
    simp only [List.mem_map] at he
    obtain ⟨p, hp, rfl⟩ := he
    have hns' : p.1 ∉ seen := by simpa [entOf] using hns
    have hpt : p ∈ tb := (h5 p hp).resolve_left hns'
    obtain ⟨u, v, rfl⟩ := List.append_of_mem hpt
    have hperm : (u ++ p :: v).Perm (p :: (u ++ v)) := List.perm_middle
    refine h1 p.2.1 p.2.2 ((u ++ v).map (·.2)) _ (hperm.map (·.2)) ?_ ?_
    · refine ⟨l, c, seen ++ [p.1], u ++ v, ?_, hok, rfl, ?_, ?_, ?_, ?_, rfl⟩
      · rw [Mem.upd_ne _ _ (Ne.symm hne), hM]
      · rw [Mem.upd_same]; simp [entOf]
      · intro q hq
        rcases h5 q hq with hs | hs
        · left; simp [hs]
        · simp only [List.mem_append, List.mem_cons] at hs
          rcases hs with hs | rfl | hs
          · right; simp [hs]
          · left; simp
          · right; simp [hs]
      · intro q hq
        have hq' : q ∈ u ++ p :: v := by simp only [List.mem_append, List.mem_cons] at hq ⊢; rcases hq with hq | hq <;> simp [hq]
        obtain ⟨h8, h9⟩ := h6 q hq'
        refine ⟨h8, ?_⟩
        simp only [List.mem_append, List.mem_singleton, not_or]
        refine ⟨h9, fun e => ?_⟩
        have hnd : ((p :: (u ++ v)).map (·.1)).Nodup := (hperm.map (·.1)).nodup_iff.1 h7
        simp only [List.map_cons, List.nodup_cons] at hnd
        exact hnd.1 (e ▸ List.mem_map.2 ⟨q, hq, rfl⟩)
      · have hnd : ((p :: (u ++ v)).map (·.1)).Nodup := (hperm.map (·.1)).nodup_iff.1 h7
        simp only [List.map_cons, List.nodup_cons] at hnd
        exact hnd.2
    · have e1 : (M.upd b (.mapIter (some m) c ((List.toArray seen).push (entOf kv vv p).born) c)) m = some (mapObj kv vv l c) := by rw [Mem.upd_ne _ _ (Ne.symm hne), hM]
      simp only [entryOf, Mem.iterAt, Mem.upd_same, Mem.mapAt, e1, mapObj, Array.back?_push, if_true]
      have hf : (List.map (entOf kv vv) l).toArray.find? (fun x => x.born == (entOf kv vv p).born) = some (entOf kv vv p) := by
        rw [List.find?_toArray]
        rw [List.find?_map]
        have : l.find? ((fun x => x.born == (entOf kv vv p).born) ∘ entOf kv vv) = some p := by
          have hap := hok.apart
          clear h5 h6 h7 hns hns' hpt hperm hok hM e1 h0 h1
          induction l with
          | nil => cases hp
          | cons q r ih =>
            simp only [List.map_cons, List.nodup_cons] at hap
            rw [List.find?_cons]
            rcases List.mem_cons.1 hp with rfl | hp
            · simp [entOf]
            · have hne : q.1 ≠ p.1 := fun e => hap.1 (e ▸ List.mem_map.2 ⟨p, hp, rfl⟩)
              have hb : ((fun x => x.born == (entOf kv vv p).born) ∘ entOf kv vv) q = false := by simpa [entOf] using hne
              rw [hb]
              exact ih hp hap.2
        rw [this]; rfl
      rw [hf]; rfl
theorem mem_bset {p : Nat × κ × α} {l : List (Nat × κ × α)} {k : κ} {x : α} (hp : p ∈ bset l k x) : (p ∈ l ∧ p.2.1 ≠ k) ∨ (p.2.1 = k ∧ ∃ y, (p.1, k, y) ∈ l) ∨ False := by
  induction l with
  | nil => simp [bset] at hp
  | cons q r ih =>
    obtain ⟨b', a, y'⟩ := q
    simp only [bset] at hp
    split at hp
    · rename_i e
      subst e
      rcases List.mem_cons.1 hp with rfl | hp
      · right; left; exact ⟨rfl, y', by simp⟩
      · by_cases e : p.2.1 = a
        · right; left; exact ⟨e, p.2.2, by rw [← e]; exact List.mem_cons_of_mem _ hp⟩
        · left; exact ⟨List.mem_cons_of_mem _ hp, e⟩
    · rename_i e
      rcases List.mem_cons.1 hp with rfl | hp
      · left; exact ⟨by simp, e⟩
      · rcases ih hp with ⟨h1, h2⟩ | ⟨h1, z, h2⟩ | h1
        · left; exact ⟨List.mem_cons_of_mem _ h1, h2⟩
        · right; left; exact ⟨h1, z, List.mem_cons_of_mem _ h2⟩
        · exact h1.elim
theorem mem_bset2 {p : Nat × κ × α} {l : List (Nat × κ × α)} {k : κ} {x : α} (hp : p ∈ l) (hne : p.2.1 ≠ k) : p ∈ bset l k x := by
  induction l with
  | nil => cases hp
  | cons q r ih =>
    obtain ⟨b', a, y'⟩ := q
    simp only [bset]
    rcases List.mem_cons.1 hp with rfl | hp
    · rw [if_neg hne]; simp
    · split
      · exact List.mem_cons_of_mem _ hp
      · exact List.mem_cons_of_mem _ (ih hp)
/-- what was met already turns, in the map itself -/
theorem Iter.put {M : Mem} {b m : Nat} {cur todo : List (κ × α)} (h : Iter kv vv M b m cur todo) (hk : KeyOk kv) (k : κ) (x : α) (hc : (aget cur k).isSome) (ht : aget todo k = none) {K : Array MapEntry × Nat → Option (Nat × Value) → Prop}
    (h0 : ∀ p f, (∀ M' : Mem, M' b = M b → Iter kv vv (M'.upd m (mput p f (kv k) (vv x))) b m (aput cur k x) todo) → K p f) : onO (M.mapAt m) fun p => onO (kfind (kv k) p.1.toList 0) fun f => K p f := by
  have hne := h.ne
  obtain ⟨l, c, seen, tb, hM, hok, rfl, hI, h5, h6, h7, rfl⟩ := h
  simp only [Mem.mapAt, hM, mapObj, onO]
  obtain ⟨y, hg⟩ := Option.isSome_iff_exists.1 hc
  obtain ⟨j, hj, hset, _⟩ := kfind_some (vv := vv) hk 0 hg
  simp only [hj]
  have hbp : bput l c k x = bset l k x := by simp [bput, hg]
  have hbc : bclock l c k = c := by simp [bclock, hg]
  have hok' := hok.put k x
  rw [hbp, hbc] at hok'
  have hmem := fun p => mem_bset (p := p) (l := l) (k := k) (x := x)
  have hmem2 := fun p => mem_bset2 (p := p) (l := l) (k := k) (x := x)
  have htk : ∀ p ∈ tb, p.2.1 ≠ k := fun p hp e => (aget_none.1 ht) (by rw [← map21]; exact List.mem_map.2 ⟨p, hp, e⟩)
  refine h0 _ _ fun M' hM' => ⟨bset l k x, c, seen, tb, ?_, hok', ?_, ?_, ?_, ?_, h7, rfl⟩
  · simp [Mem.upd, mput, mapObj, hset]
  · rw [bset_map]; simp [aput, hg]
  · rw [Mem.upd_ne _ _ hne, hM', hI]
  · intro p hp
    rcases hmem p hp with ⟨h1, h2⟩ | ⟨h1, z, h2⟩ | h1
    · exact h5 p h1
    · rcases h5 _ h2 with hs | hs
      · exact .inl hs
      · exact absurd rfl (htk _ hs)
    · exact h1.elim
  · intro p hp
    exact ⟨hmem2 p (h6 p hp).1 (htk p hp), (h6 p hp).2⟩
theorem Iter.del {M : Mem} {b m : Nat} {cur todo : List (κ × α)} (h : Iter kv vv M b m cur todo) (hk : KeyOk kv) (k : κ) (ht : aget todo k = none) {K : Array MapEntry × Nat → Option (Nat × Value) → Prop}
    (h0 : ∀ p f, (∀ M' : Mem, M' b = M b → Iter kv vv (M'.upd m (mdrop p f)) b m (adel cur k) todo) → K p f) : onO (M.mapAt m) fun p => onO (kfind (kv k) p.1.toList 0) fun f => K p f := by
  have hne := h.ne
  obtain ⟨l, c, seen, tb, hM, hok, rfl, hI, h5, h6, h7, rfl⟩ := h
  simp only [Mem.mapAt, hM, mapObj, onO]
  have htk : ∀ p ∈ tb, p.2.1 ≠ k := fun p hp e => (aget_none.1 ht) (by rw [← map21]; exact List.mem_map.2 ⟨p, hp, e⟩)
  have fin : ∀ p f, mdrop p f = mapObj kv vv (bdel l k) c → ∀ M' : Mem, M' b = M b → Iter kv vv (M'.upd m (mdrop p f)) b m (adel (l.map (·.2)) k) (tb.map (·.2)) := fun p f e M' hM' =>
    ⟨bdel l k, c, seen, tb, by rw [Mem.upd_same, e], hok.del k, bdel_map .., by rw [Mem.upd_ne _ _ hne, hM', hI], fun q hq => h5 q (List.mem_filter.1 hq).1,
      fun q hq => ⟨List.mem_filter.2 ⟨(h6 q hq).1, by simpa using htk q hq⟩, (h6 q hq).2⟩, h7, rfl⟩
  cases hg : aget (l.map (·.2)) k with
  | none =>
    simp only [kfind_none hk 0 hg]
    refine h0 _ _ (fin _ _ ?_)
    have : bdel l k = l := by
      unfold bdel
      rw [List.filter_eq_self]
      intro p hp
      have := aget_none.1 hg
      simp only [decide_eq_true_eq, ne_eq]
      intro e; exact this (by rw [← map21]; exact List.mem_map.2 ⟨p, hp, e⟩)
    simp [mdrop, mapObj, this]
  | some y =>
    obtain ⟨j, hj, _, hdel, hlt⟩ := kfind_some (vv := vv) hk 0 hg
    simp only [hj]
    refine h0 _ _ (fin _ _ ?_)
    have := hdel hok.keys
    simp [mdrop, mapObj, this, hlt]
end
end Go.Vm
