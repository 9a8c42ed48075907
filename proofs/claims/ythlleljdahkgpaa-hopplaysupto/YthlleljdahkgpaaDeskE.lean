/- A desk: a tick passes. -/
import Derived.Test.YthlleljdahkgpaaDeskD
namespace Go.Proofs.Ythlleljdahkgpaa
open Go Go.Vm
attribute [local irreducible] Brn Ob Grow CallsM inR LoopVC Mem.row Mem.cells Mem.setCells Mem.upd Own AppVC SrcVC StrVC NextVC New SrcOk subA NewSl Mem.textAt Mem.mapAt Mem.iterAt entryOf kfind Wr NewEls Elems
set_option maxRecDepth 10000
def tickK (k : Known) : Option Known :=
  if 0 < k.waits then (if k.waits - 1 = 0 ∧ (k.ticks = 0 ∨ k.ticks = 64) then none else some { k with waits := k.waits - 1 })
  else (if k.waits = 0 ∧ (k.ticks + 1 = 0 ∨ k.ticks + 1 = 64) then none else some { k with ticks := k.ticks + 1 })
structure KOk (k : Known) : Prop where
  w0 : 0 ≤ k.waits
  w1 : k.waits ≤ 64
  t0 : 0 ≤ k.ticks
  t1 : k.ticks < 64
def KAll (m : List (Id × Known)) : Prop := ∀ i k, aget m i = some k → KOk k
theorem tickK_ok {k k' : Known} (h : KOk k) (ht : tickK k = some k') : KOk k' := by
  obtain ⟨h1, h2, h3, h4⟩ := h
  unfold tickK at ht
  split at ht <;> split at ht <;> cases ht <;> exact ⟨by simp only; omega, by simp only; omega, by simp only; omega, by simp only; omega⟩
theorem Mem.keep_new {S : Nat → Prop} {M M1 : Mem} (h : Mem.keep S M M1) {b : Nat} (hb : M b = none) (o : Obj) : Mem.keep S M (M1.upd b o) := fun c x hn hc => by
  have hne : c ≠ b := fun e => by subst e; rw [hb] at hc; cases hc
  rw [Mem.upd_ne _ _ hne]; exact h c x hn hc
variable {p b : Nat} {wait next : Int} {m : List (Id × Known)} {M : Mem}
theorem tick_ok (hd : DeskAt M p b wait next m) (hk : KAll m) : CallsM Try.prog F.hop_Desk_Tick [ptr p] M fun v M' =>
    v = .int .i64 0 ∧ Mem.keep (one b) M M' ∧ ∃ m', DeskAt M' p b wait next m' ∧ ∀ i, aget m' i = (aget m i).bind tickK := by
  refine fo_hop_Desk_Tick (by simp) ?_
  repeat' ((conv => whnf); first | refine ⟨?_, True.intro⟩ | refine brn_t rfl ?_ | refine brn_f rfl ?_ | refine ob rfl ?_ | refine ob (by decide) ?_ | refine grow_same (Mem.le_refl _) ?_ | refine ob (Mem.le_refl _) ?_ | refine ⟨_, Mem.le_refl _, ?_⟩ | fail)
  refine on (hd.self.c1 rfl) ?_
  (conv => whnf)
  refine hd.map.range fun q b2 hb2 hI => ?_
  replace hb2 : M b2 = none := hb2
  have hpM : M p ≠ none := by have := hd.self; unfold Mem.has at this; rw [this]; simp
  have hp2 : p ≠ b2 := fun e => hpM (e ▸ hb2)
  (conv => whnf)
  refine loopF (σ := Mem × List (Id × Known) × List (Id × Known)) [] (fun _ => []) (fun _ => []) (fun x => x.1)
    (fun | ⟨M1, cur, todo⟩ => Mem.keep (one b) M M1 ∧ M1.has p T.hop_Desk [.int .i64 wait, .int .i64 next, .map (some b)] ∧ Iter Id.v Known.v M1 b2 b cur todo ∧ (todo.map (·.1)).Nodup ∧
      ∀ i, aget cur i = (match aget todo i with | some k => some k | none => (aget m i).bind tickK) ∧ (∀ k, aget todo i = some k → aget m i = some k)) (fun x => x.2.2.length) ⟨_, m, m⟩
    ⟨Mem.keep_new (Mem.keep_refl _ _) hb2 _, by unfold Mem.has; rw [Mem.upd_ne _ _ hp2]; exact hd.self, hI, hd.map.nodup, fun i => ⟨by cases aget m i <;> rfl, fun k h => h⟩⟩ ⟨(by repeat' first | exact True.intro | refine ⟨rfl, ?_⟩), (by repeat' first | exact True.intro | refine ⟨rfl, ?_⟩), Mem.le_refl _, rfl⟩ ?_
  rintro ⟨M1, cur, todo⟩ ⟨hkp, hself, hI1, hnd, hcur⟩
  (conv => whnf)
  refine hI1.next (fun h0 => ?_) (fun i k todo' o' hperm hI2 hent => ?_)
  · subst h0
    repeat' ((conv => whnf); first | refine ⟨?_, True.intro⟩ | refine brn_t rfl ?_ | refine brn_f rfl ?_ | refine ob rfl ?_ | refine ob (by decide) ?_ | refine grow_same (Mem.le_refl _) ?_ | refine ob (Mem.le_refl _) ?_ | refine ⟨_, Mem.le_refl _, ?_⟩ | fail)
    refine ⟨rfl, hkp, cur, ⟨hself, hd.ne, hI1.at⟩, fun i => (hcur i).1⟩
  · have hnd' : ((i, k) :: todo').map (·.1) |>.Nodup := (hperm.map (·.1)).nodup_iff.1 hnd
    have hmem : (i, k) ∈ todo := hperm.mem_iff.2 (by simp)
    have hti : aget todo i = some k := aget_of_mem hnd hmem
    have hmi : aget m i = some k := (hcur i).2 k hti
    have hci : aget cur i = some k := by rw [(hcur i).1, hti]
    have hti' : aget todo' i = none := by
      rw [aget_none]
      simp only [List.map_cons, List.nodup_cons] at hnd'
      exact hnd'.1
    have htj : ∀ j, j ≠ i → aget todo j = aget todo' j := fun j hj => by
      cases h : aget todo' j with
      | none =>
        rw [aget_none] at h ⊢
        intro hm; apply h
        obtain ⟨q, hq, e⟩ := List.mem_map.1 hm
        have := hperm.mem_iff.1 hq
        rcases List.mem_cons.1 this with rfl | hq'
        · exact absurd e.symm hj
        · exact List.mem_map.2 ⟨q, hq', e⟩
      | some y => exact aget_of_mem hnd (hperm.mem_iff.2 (List.mem_cons_of_mem _ (aget_mem h)))
    have hko := hk i k hmi
    obtain ⟨hw0, hw1, ht0, ht1⟩ := hko
    have hkp2 : Mem.keep (one b) M (M1.upd b2 o') := Mem.keep_new hkp hb2 _
    have hself2 : (M1.upd b2 o').has p T.hop_Desk [.int .i64 wait, .int .i64 next, .map (some b)] := by unfold Mem.has at hself ⊢; rw [Mem.upd_ne _ _ hp2]; exact hself
    have hlen : todo'.length < todo.length := by have := hperm.length_eq; simp at this; omega
    have hinv : ∀ M4 cur4, Iter Id.v Known.v M4 b2 b cur4 todo' → Mem.keep (one b) M M4 → M4.has p T.hop_Desk [.int .i64 wait, .int .i64 next, .map (some b)] → (∀ j, aget cur4 j = if j = i then tickK k else aget cur j) →
        Mem.keep (one b) M M4 ∧ M4.has p T.hop_Desk [.int .i64 wait, .int .i64 next, .map (some b)] ∧ Iter Id.v Known.v M4 b2 b cur4 todo' ∧ (todo'.map (·.1)).Nodup ∧
        ∀ i, aget cur4 i = (match aget todo' i with | some k => some k | none => (aget m i).bind tickK) ∧ (∀ k, aget todo' i = some k → aget m i = some k) := by
      intro M4 cur4 h1 h2 h3 h4
      simp only [List.map_cons, List.nodup_cons] at hnd'
      refine ⟨h2, h3, h1, hnd'.2, fun j => ?_⟩
      by_cases hj : j = i
      · subst hj
        rw [h4, if_pos rfl, hti', hmi]
        exact ⟨rfl, fun _ h => by cases h⟩
      · rw [h4, if_neg hj, ← htj j hj]
        exact hcur j
    clear hcur hperm hnd hnd' hmem htj
    repeat' ((conv => whnf); first | refine ⟨?_, True.intro⟩ | refine brn_t rfl ?_ | refine brn_f rfl ?_ | refine ob rfl ?_ | refine ob (by decide) ?_ | refine grow_same (Mem.le_refl _) ?_ | refine ob (Mem.le_refl _) ?_ | refine ⟨_, Mem.le_refl _, ?_⟩ | fail)
    refine on hent ?_
    repeat' ((conv => whnf); first | refine ⟨?_, True.intro⟩ | refine brn_t rfl ?_ | refine brn_f rfl ?_ | refine ob rfl ?_ | refine ob (by decide) ?_ | refine grow_same (Mem.le_refl _) ?_ | refine ob (Mem.le_refl _) ?_ | refine ⟨_, Mem.le_refl _, ?_⟩ | fail)
    refine brn (fun g => ?_) (fun g => ?_)
    · have hw : 0 < k.waits := by simpa using g
      (conv => whnf); refine ob (inR_i64 (by omega)) ?_
      repeat' ((conv => whnf); first | refine ⟨?_, True.intro⟩ | refine brn_t rfl ?_ | refine brn_f rfl ?_ | refine ob rfl ?_ | refine ob (by decide) ?_ | refine grow_same (Mem.le_refl _) ?_ | refine ob (Mem.le_refl _) ?_ | refine ⟨_, Mem.le_refl _, ?_⟩ | fail)
      refine on (hself2.c1 rfl) ?_
      repeat' ((conv => whnf); first | refine ⟨?_, True.intro⟩ | refine brn_t rfl ?_ | refine brn_f rfl ?_ | refine ob rfl ?_ | refine ob (by decide) ?_ | refine grow_same (Mem.le_refl _) ?_ | refine ob (Mem.le_refl _) ?_ | refine ⟨_, Mem.le_refl _, ?_⟩ | fail)
      refine hI2.put idKey i { k with waits := k.waits - 1 } (by rw [hci]; rfl) hti' fun q f hm => ?_
      have hI3 := hm _ rfl
      have hkp3 : Mem.keep (one b) M ((M1.upd b2 o').upd b (mput q f i.v (Known.v { k with waits := k.waits - 1 }))) := Mem.keep_trans hkp2 (Mem.keep_upd _ _ rfl)
      have hself3 : ((M1.upd b2 o').upd b (mput q f i.v (Known.v { k with waits := k.waits - 1 }))).has p T.hop_Desk [.int .i64 wait, .int .i64 next, .map (some b)] := by unfold Mem.has at hself2 ⊢; rw [Mem.upd_ne _ _ hd.ne]; exact hself2
      obtain ⟨M3, hM3⟩ : ∃ M3, M3 = (M1.upd b2 o').upd b (mput q f i.v (Known.v { k with waits := k.waits - 1 })) := ⟨_, rfl⟩
      rw [← hM3] at hI3 hkp3 hself3
      (conv => whnf)
      erw [← hM3]
      have hcur3 : ∀ j, aget (aput cur i { k with waits := k.waits - 1 }) j = if j = i then some { k with waits := k.waits - 1 } else aget cur j := aget_aput _ _ _
      repeat' ((conv => whnf); first | refine brn (fun g1 => ?_) (fun g1 => ?_) | refine ⟨?_, True.intro⟩ | refine ⟨_, Mem.le_refl _, ?_⟩ | refine on (hself3.c1 rfl) ?_ | fail)
      all_goals simp only [decide_eq_true_eq, decide_eq_false_iff_not] at *
      all_goals first
        | (refine hI3.del idKey i hti' fun q' f' hm' => ?_
           (conv => whnf)
           refine ⟨⟨_, _, todo'⟩, hinv _ _ (hm' _ rfl) (Mem.keep_trans hkp3 (Mem.keep_upd _ _ rfl)) (hself3.upd hd.ne _) (fun j => (aget_adel _ _ _).trans ?_), hlen, ⟨(by repeat' first | exact True.intro | refine ⟨rfl, ?_⟩), (by repeat' first | exact True.intro | refine ⟨rfl, ?_⟩), Mem.le_refl _, rfl⟩⟩
           by_cases hj : j = i
           · rw [if_pos hj, if_pos hj]; unfold tickK; first | rw [if_pos (by assumption), if_pos (by omega)] | rw [if_neg (by omega), if_pos (by omega)]
           · rw [if_neg hj, if_neg hj, hcur3, if_neg hj])
        | (refine ⟨⟨_, _, todo'⟩, hinv _ _ hI3 hkp3 hself3 (fun j => (hcur3 j).trans ?_), hlen, ⟨(by repeat' first | exact True.intro | refine ⟨rfl, ?_⟩), (by repeat' first | exact True.intro | refine ⟨rfl, ?_⟩), Mem.le_refl _, rfl⟩⟩
           by_cases hj : j = i
           · rw [if_pos hj, if_pos hj]; unfold tickK; first | rw [if_pos (by assumption), if_neg (by omega)] | rw [if_neg (by omega), if_neg (by omega)]
           · rw [if_neg hj, if_neg hj])
        | fail
    · have hw : k.waits = 0 := by simp at g; omega
      (conv => whnf); refine ob (inR_i64 (by omega)) ?_
      repeat' ((conv => whnf); first | refine ⟨?_, True.intro⟩ | refine brn_t rfl ?_ | refine brn_f rfl ?_ | refine ob rfl ?_ | refine ob (by decide) ?_ | refine grow_same (Mem.le_refl _) ?_ | refine ob (Mem.le_refl _) ?_ | refine ⟨_, Mem.le_refl _, ?_⟩ | fail)
      refine on (hself2.c1 rfl) ?_
      repeat' ((conv => whnf); first | refine ⟨?_, True.intro⟩ | refine brn_t rfl ?_ | refine brn_f rfl ?_ | refine ob rfl ?_ | refine ob (by decide) ?_ | refine grow_same (Mem.le_refl _) ?_ | refine ob (Mem.le_refl _) ?_ | refine ⟨_, Mem.le_refl _, ?_⟩ | fail)
      refine hI2.put idKey i { k with ticks := k.ticks + 1 } (by rw [hci]; rfl) hti' fun q f hm => ?_
      have hI3 := hm _ rfl
      have hkp3 : Mem.keep (one b) M ((M1.upd b2 o').upd b (mput q f i.v (Known.v { k with ticks := k.ticks + 1 }))) := Mem.keep_trans hkp2 (Mem.keep_upd _ _ rfl)
      have hself3 : ((M1.upd b2 o').upd b (mput q f i.v (Known.v { k with ticks := k.ticks + 1 }))).has p T.hop_Desk [.int .i64 wait, .int .i64 next, .map (some b)] := by unfold Mem.has at hself2 ⊢; rw [Mem.upd_ne _ _ hd.ne]; exact hself2
      obtain ⟨M3, hM3⟩ : ∃ M3, M3 = (M1.upd b2 o').upd b (mput q f i.v (Known.v { k with ticks := k.ticks + 1 })) := ⟨_, rfl⟩
      rw [← hM3] at hI3 hkp3 hself3
      (conv => whnf)
      erw [← hM3]
      have hcur3 : ∀ j, aget (aput cur i { k with ticks := k.ticks + 1 }) j = if j = i then some { k with ticks := k.ticks + 1 } else aget cur j := aget_aput _ _ _
      repeat' ((conv => whnf); first | refine brn (fun g1 => ?_) (fun g1 => ?_) | refine ⟨?_, True.intro⟩ | refine ⟨_, Mem.le_refl _, ?_⟩ | refine on (hself3.c1 rfl) ?_ | fail)
      all_goals simp only [decide_eq_true_eq, decide_eq_false_iff_not] at *
      all_goals first
        | (refine hI3.del idKey i hti' fun q' f' hm' => ?_
           (conv => whnf)
           refine ⟨⟨_, _, todo'⟩, hinv _ _ (hm' _ rfl) (Mem.keep_trans hkp3 (Mem.keep_upd _ _ rfl)) (hself3.upd hd.ne _) (fun j => (aget_adel _ _ _).trans ?_), hlen, ⟨(by repeat' first | exact True.intro | refine ⟨rfl, ?_⟩), (by repeat' first | exact True.intro | refine ⟨rfl, ?_⟩), Mem.le_refl _, rfl⟩⟩
           by_cases hj : j = i
           · rw [if_pos hj, if_pos hj]; unfold tickK; first | rw [if_pos (by assumption), if_pos (by omega)] | rw [if_neg (by omega), if_pos (by omega)]
           · rw [if_neg hj, if_neg hj, hcur3, if_neg hj])
        | (refine ⟨⟨_, _, todo'⟩, hinv _ _ hI3 hkp3 hself3 (fun j => (hcur3 j).trans ?_), hlen, ⟨(by repeat' first | exact True.intro | refine ⟨rfl, ?_⟩), (by repeat' first | exact True.intro | refine ⟨rfl, ?_⟩), Mem.le_refl _, rfl⟩⟩
           by_cases hj : j = i
           · rw [if_pos hj, if_pos hj]; unfold tickK; first | rw [if_pos (by assumption), if_neg (by omega)] | rw [if_neg (by omega), if_neg (by omega)]
           · rw [if_neg hj, if_neg hj])
        | fail
end Go.Proofs.Ythlleljdahkgpaa
