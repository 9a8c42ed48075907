/- Tables of ways: routes are set; who was heard; what was heard grows old. -/
import Derived.Test.YtankgacaeejlhaaRoutesF
import Derived.Test.YtankgacaeejlhaaSortI
namespace Go.Proofs.Ytankgacaeejlhaa
open Go Go.Vm
attribute [local irreducible] Brn Ob CallsM inR LoopVC Mem.row Mem.cells Mem.setCells Mem.upd Own AppVC SrcVC StrVC NextVC New SrcOk subA NewSl Mem.textAt Mem.mapAt Mem.iterAt entryOf kfind Wr NewEls Elems
set_option maxRecDepth 10000
variable {M : Mem} {p b1 b2 : Nat} {a : Option Addr} {n c : Nat} {me age : Int} {nb : List Int} {st : List (Int × Int)} {m : List (Int × Hd)}
def setE (me : Int) (nb : List Int) (d x : Int) : Int := if isNode d then (if d = me then 2 else if x = -1 then 0 else if x ∈ nb then 0 else 4) else 1
def setS (st : List (Int × Int)) (d x : Int) : List (Int × Int) := if x = -1 then adel st d else aput st d x
theorem TabAt.setTo {M' : Mem} (ht : TabAt M p b1 b2 a n c me age nb st m) (hk : Mem.keep (one b1) M M') {st' : List (Int × Int)} (hs : MapAt intV intV M' b1 st') : TabAt M' p b1 b2 a n c me age nb st' m :=
  ⟨hk _ _ ht.n1 ht.self, ht.n1, ht.n2, ht.n12, ht.set.src ht.nbs hk, ht.na, hs, ht.hrd.mono fun o ho => hk _ o (Ne.symm ht.n12) ho⟩
theorem TabAt.hrdTo {M' : Mem} (ht : TabAt M p b1 b2 a n c me age nb st m) (hk : Mem.keep (one b2) M M') {m' : List (Int × Hd)} (hs : MapAt intV Hd.v M' b2 m') : TabAt M' p b1 b2 a n c me age nb st m' :=
  ⟨hk _ _ ht.n2 ht.self, ht.n1, ht.n2, ht.n12, ht.hrd.src ht.nbs hk, ht.na, ht.set.mono fun o ho => hk _ o ht.n12 ho, hs⟩
theorem Set_ok (ht : TabAt M p b1 b2 a n c me age nb st m) (hn : n ≤ 4194304) (d x : Int) : CallsM Try.prog F.routes_Table_Set [ptr p, .int .i64 d, .int .i64 x] M fun v M' => v = .int .i64 (setE me nb d x) ∧
    ((setE me nb d x ≠ 0 ∧ M' = M) ∨ (setE me nb d x = 0 ∧ Mem.keep (one b1) M M' ∧ TabAt M' p b1 b2 a n c me age nb (setS st d x) m)) := by
  refine fo_routes_Table_Set (by simp) ?_
  (conv => whnf); refine brn_f rfl ?_
  (conv => whnf); refine (node_ok d M).mono ?_
  rintro v _ ⟨rfl, rfl⟩
  (conv => whnf); refine brn (fun h => ?_) (fun h => ?_)
  · (conv => whnf)
    have e : setE me nb d x = 1 := by simp at h; simp [setE, h]
    exact ⟨by rw [e], .inl ⟨by rw [e]; decide, rfl⟩⟩
  have hd : isNode d = true := by simpa using h
  (conv => whnf); refine on (ht.self.c1 rfl) ?_
  (conv => whnf); refine brn (fun h => ?_) (fun h => ?_)
  · (conv => whnf)
    have h' : d = me := by simpa using h
    have e : setE me nb d x = 2 := by simp [setE, hd, h']; rw [← h', hd]
    exact ⟨by rw [e], .inl ⟨by rw [e]; decide, rfl⟩⟩
  have hne : d ≠ me := by simpa using h
  (conv => whnf); refine brn (fun h => ?_) (fun h => ?_)
  · have h' : x = -1 := by simpa using h
    have e : setE me nb d x = 0 := by simp [setE, hd, hne, h']
    (conv => whnf); refine on (ht.self.c1 rfl) ?_
    (conv => whnf)
    refine ht.set.del intKey d fun q f hm => ?_
    (conv => whnf)
    have hk := Mem.keep_upd (S := one b1) M (b := b1) (mdrop q f) rfl
    refine ⟨by rw [e], .inr ⟨e, hk, ht.setTo hk ?_⟩⟩
    rw [setS, if_pos h']; exact hm M
  have hx : x ≠ -1 := by simpa using h
  (conv => whnf); refine (near_ok ht hn x).mono ?_
  rintro v _ ⟨rfl, rfl⟩
  (conv => whnf); refine brn (fun h => ?_) (fun h => ?_)
  · (conv => whnf)
    have h' : x ∉ nb := by simpa using h
    have e : setE me nb d x = 4 := by simp [setE, hd, hne, hx, h']
    exact ⟨by rw [e], .inl ⟨by rw [e]; decide, rfl⟩⟩
  have hnb : x ∈ nb := by simpa using h
  have e : setE me nb d x = 0 := by simp [setE, hd, hne, hnb]
  (conv => whnf); refine on (ht.self.c1 rfl) ?_
  (conv => whnf)
  refine ht.set.put intKey d x fun q f hm => ?_
  (conv => whnf)
  have hk := Mem.keep_upd (S := one b1) M (b := b1) (mput q f (intV d) (intV x)) rfl
  refine ⟨by rw [e], .inr ⟨e, hk, ht.setTo hk ?_⟩⟩
  rw [setS, if_neg hx]; exact hm M
theorem Heard_ok (ht : TabAt M p b1 b2 a n c me age nb st m) (hm : m.length ≤ 4194304) : CallsM Try.prog F.routes_Table_Heard [ptr p] M fun v M' => ∃ a' c', v = .slice a' m.length c' ∧ NewSl M T.int 1 a' m.length c' ((sortedI (m.map (·.1))).map intV) M' := by
  refine fo_routes_Table_Heard (by simp) ?_
  (conv => whnf); refine brn_f rfl ?_
  (conv => whnf); refine on (ht.self.c1 rfl) ?_
  (conv => whnf)
  refine ht.hrd.range fun q bi hbi hI => ?_
  replace hbi : M bi = none := hbi
  (conv => whnf)
  refine loopF (σ := Mem × Option Addr × Nat × List Int × List (Int × Hd)) [3] (fun x => [(3, .slice x.2.1 x.2.2.2.1.length x.2.2.1)]) (fun _ => []) (fun x => x.1)
    (fun | ⟨M1, a', c', ks, todo⟩ => M.le M1 ∧ Iter intV Hd.v M1 bi b2 m todo ∧ NewSl M T.int 1 a' ks.length c' (ks.map intV) M1 ∧ (ks ++ todo.map (·.1)).Perm (m.map (·.1))) (fun x => x.2.2.2.2.length) ⟨_, none, 0, [], m⟩
    ⟨Mem.le_upd hbi, hI, (NewSl.none M T.int 1).up (Mem.le_upd hbi), by simp⟩ ⟨(by repeat' first | exact True.intro | refine ⟨rfl, ?_⟩), (by repeat' first | exact True.intro | refine ⟨rfl, ?_⟩), Mem.le_refl _, rfl⟩ ?_
  rintro ⟨M1, a', c', ks, todo⟩ ⟨hle, hI1, hN, hp⟩
  have hlen := hp.length_eq
  simp only [List.length_append, List.length_map] at hlen
  (conv => whnf)
  refine hI1.next (fun h0 => ?_) (fun i k todo' o' hperm hI2 hent => ?_)
  · subst h0
    simp only [List.map_nil, List.append_nil, List.length_nil, Nat.add_zero] at hp hlen
    repeat' ((conv => whnf); first | refine ⟨?_, True.intro⟩ | refine brn_t rfl ?_ | refine brn_f rfl ?_ | refine ob rfl ?_ | refine ob (by decide) ?_ | refine ob (Mem.le_refl _) ?_ | refine ⟨_, Mem.le_refl _, ?_⟩ | fail)
    refine (sort_ok hN.wr (by omega)).mono ?_
    rintro v M2 ⟨rfl, hw, hk⟩
    (conv => whnf)
    have e : sortedI ks = sortedI (m.map (·.1)) := List.Perm.eq_of_pairwise (le := (· ≤ ·)) (fun x y _ _ h1 h2 => Int.le_antisymm h1 h2) (sortedI_sorted _) (sortedI_sorted _) ((sortedI_perm _).trans (hp.trans (sortedI_perm _).symm))
    rw [e] at hw
    refine ⟨a', c', by rw [hlen], ?_⟩
    rw [hlen] at hw hN
    exact hN.ofWr hw hk rfl
  · have hne : ∀ r, a' = some r → r.block ≠ bi := fun r hr => by obtain ⟨_, cs, hh⟩ := hN.block hr; exact (hI1.nb hh).1
    have hk := Mem.keep_upd (S := one bi) M1 (b := bi) o' rfl
    have hN2 := hN.keep hk (fun b hb => by have hb : b = bi := hb; subst hb; exact hbi) fun r hr hb => hne r hr hb
    obtain ⟨M2, hM2⟩ : ∃ M2, M2 = M1.upd bi o' := ⟨_, rfl⟩
    rw [← hM2] at hI2 hent hN2
    have hpl := hperm.length_eq
    simp only [List.length_cons] at hpl
    (conv => whnf)
    erw [← hM2]
    repeat' ((conv => whnf); first | refine ⟨?_, True.intro⟩ | refine brn_t rfl ?_ | refine brn_f rfl ?_ | refine ob rfl ?_ | refine ob (by decide) ?_ | refine ob (Mem.le_refl _) ?_ | refine ⟨_, Mem.le_refl _, ?_⟩ | fail)
    refine on hent ?_
    repeat' ((conv => whnf); first | refine ⟨?_, True.intro⟩ | refine brn_t rfl ?_ | refine brn_f rfl ?_ | refine ob rfl ?_ | refine ob (by decide) ?_ | refine ob (Mem.le_refl _) ?_ | refine ⟨_, Mem.le_refl _, ?_⟩ | fail)
    refine appK M _ hN2 (by first | omega | (dsimp only; omega)) (by simp [maxLen]; omega) (by simp [Value.oneCell']) fun a6 c6 M6 hN6 hk6 => ?_
    (conv => whnf)
    refine ⟨⟨M6, a6, c6, ks ++ [i], todo'⟩, ⟨hN6.le, ?_, by simpa using hN6, ?_⟩, by dsimp only; omega, by simp only [List.length_append, List.length_cons, List.length_nil]; exact ⟨(by repeat' first | exact True.intro | refine ⟨rfl, ?_⟩), (by repeat' first | exact True.intro | refine ⟨rfl, ?_⟩), Mem.le_refl _, rfl⟩⟩
    · refine hI2.keep hk6 ?_ ?_
      · rintro ⟨r, hr, e⟩
        obtain ⟨_, cs, hh⟩ := hN2.block hr
        exact (hI2.nb hh).1 e
      · rintro ⟨r, hr, e⟩
        obtain ⟨_, cs, hh⟩ := hN2.block hr
        exact (hI2.nb hh).2 e
    · refine List.Perm.trans ?_ hp
      rw [List.append_assoc]
      exact List.Perm.append_left ks (by simpa using (hperm.map (fun q : Int × Hd => q.1)).symm)
/-- what was heard grows old by one -/
def tickO : Option Hd → Option Hd
  | some h => if h.left = 1 then none else some ⟨h.c, h.left - 1⟩
  | none => none
def GoodL (m : List (Int × Hd)) : Prop := ∀ k h, aget m k = some h → 1 ≤ h.left ∧ h.left ≤ 64
theorem Tick_ok (ht : TabAt M p b1 b2 a n c me age nb st m) (hm : m.length ≤ 4194304) (hl : GoodL m) : CallsM Try.prog F.routes_Table_Tick [ptr p] M fun v M' => v = .int .i64 0 ∧
    ∃ m', Mem.keep (one b2) M M' ∧ TabAt M' p b1 b2 a n c me age nb st m' ∧ ∀ k, aget m' k = tickO (aget m k) := by
  refine fo_routes_Table_Tick (by simp) ?_
  (conv => whnf); refine brn_f rfl ?_
  (conv => whnf); refine (Heard_ok ht hm).mono ?_
  rintro v Mh ⟨a', c', rfl, hN⟩
  obtain ⟨ks, hks⟩ : ∃ ks, ks = sortedI (m.map (·.1)) := ⟨_, rfl⟩
  have hperm : ks.Perm (m.map (·.1)) := hks ▸ sortedI_perm _
  have hnd : ks.Nodup := hperm.nodup_iff.2 ht.hrd.nodup
  rw [← hks] at hN
  have hlen : ks.length = m.length := hN.src.maplen
  (conv => whnf)
  refine loopF (σ := Nat × Mem × List (Int × Hd)) [11] (fun x => [(11, .int .i64 x.1)]) (fun _ => []) (fun x => x.2.1)
    (fun | ⟨i, M1, m1⟩ => i ≤ m.length ∧ Mem.keep (one b2) Mh M1 ∧ TabAt M1 p b1 b2 a n c me age nb st m1 ∧ SrcOk M1 1 a' m.length (ks.map intV) ∧ ∀ k, aget m1 k = if k ∈ ks.take i then tickO (aget m k) else aget m k) (fun x => m.length - x.1) ⟨0, Mh, m⟩
    ⟨by omega, Mem.keep_refl _ _, ht.le hN.le, hN.src, by simp⟩ ⟨(by repeat' first | exact True.intro | refine ⟨rfl, ?_⟩), (by repeat' first | exact True.intro | refine ⟨rfl, ?_⟩), Mem.le_refl _, rfl⟩ ?_
  rintro ⟨i, M1, m1⟩ ⟨hi, hk1, ht1, hs1, hg1⟩
  (conv => whnf); refine brn (fun g => ?_) (fun g => ?_)
  · have hi' : i < m.length := by have := of_decide_eq_true g; dsimp only at this; omega
    obtain ⟨hlt, b, o, rfl, hrow⟩ := hs1.at (i := i) hi'
    (conv => whnf); refine ob (by first | omega | (dsimp only; omega)) ?_
    (conv => whnf); refine on hrow ?_
    obtain ⟨x, hx⟩ : ∃ x, x = ks[i] := ⟨_, rfl⟩
    rw [← hx]
    have hxm : x ∈ m.map (·.1) := hperm.mem_iff.1 (hx ▸ List.getElem_mem hlt)
    have hxt : x ∉ ks.take i := fun h => by
      obtain ⟨j, hj, e⟩ := List.getElem_of_mem h
      have hj' : j < i := by simp at hj; omega
      rw [List.getElem_take, hx] at e
      have := (List.getElem_inj hnd).1 e
      omega
    obtain ⟨h, hh⟩ : ∃ h, aget m x = some h := by
      cases e : aget m x with
      | none => exact absurd hxm (aget_none.1 e)
      | some h => exact ⟨h, rfl⟩
    have hh1 : aget m1 x = some h := by rw [hg1, if_neg hxt, hh]
    have hll := hl x h hh
    (conv => whnf); refine on (ht1.self.c1 rfl) ?_
    (conv => whnf)
    refine ht1.hrd.get intKey x (fun hno => ?_) (fun h' j hyes => ?_)
    · rw [hh1] at hno; cases hno
    rw [hh1] at hyes; cases hyes
    repeat' ((conv => whnf); first | refine ⟨?_, True.intro⟩ | refine brn_t rfl ?_ | refine brn_f rfl ?_ | refine ob rfl ?_ | refine ob (by decide) ?_ | refine ob (Mem.le_refl _) ?_ | refine ⟨_, Mem.le_refl _, ?_⟩ | fail)
    refine ob (inR_i64 (by omega)) ?_
    (conv => whnf); refine on (ht1.self.c1 rfl) ?_
    (conv => whnf)
    refine ⟨?_, True.intro⟩
    (conv => whnf)
    refine ht1.hrd.put intKey x ⟨h.c, h.left - 1⟩ fun q f hm2 => ?_
    have hk2 := Mem.keep_upd (S := one b2) M1 (b := b2) (mput q f (intV x) (Hd.v ⟨h.c, h.left - 1⟩)) rfl
    have ht2 := ht1.hrdTo hk2 (hm2 M1)
    have hs2 := ht1.hrd.src hs1 hk2
    obtain ⟨M2, hM2⟩ : ∃ M2, M2 = M1.upd b2 (mput q f (intV x) (Hd.v ⟨h.c, h.left - 1⟩)) := ⟨_, rfl⟩
    rw [← hM2] at hk2 ht2 hs2
    (conv => whnf)
    erw [← hM2]
    have htk : ks.take (i + 1) = ks.take i ++ [x] := by rw [List.take_add_one, List.getElem?_eq_getElem hlt, ← hx]; rfl
    repeat' ((conv => whnf); first | refine ⟨?_, True.intro⟩ | refine brn_t rfl ?_ | refine brn_f rfl ?_ | refine ob rfl ?_ | refine ob (by decide) ?_ | refine ob (Mem.le_refl _) ?_ | refine ⟨_, Mem.le_refl _, ?_⟩ | fail)
    refine brn (fun g1 => ?_) (fun g1 => ?_)
    · have hz : h.left = 1 := by have : h.left - 1 = 0 := by simpa using g1
                                 omega
      (conv => whnf); refine on (ht2.self.c1 rfl) ?_
      (conv => whnf)
      refine ht2.hrd.del intKey x fun q f hm3 => ?_
      have hk3 := Mem.keep_upd (S := one b2) M2 (b := b2) (mdrop q f) rfl
      have ht3 := ht2.hrdTo hk3 (hm3 M2)
      have hs3 := ht2.hrd.src hs2 hk3
      repeat' ((conv => whnf); first | refine ⟨?_, True.intro⟩ | refine brn_t rfl ?_ | refine brn_f rfl ?_ | refine ob rfl ?_ | refine ob (by decide) ?_ | refine ob (Mem.le_refl _) ?_ | refine ⟨_, Mem.le_refl _, ?_⟩ | fail)
      refine ob (inR_i64 (by first | omega | (dsimp only; omega))) ?_
      (conv => whnf)
      refine ⟨⟨i + 1, M2.upd b2 (mdrop q f), adel (aput m1 x ⟨h.c, h.left - 1⟩) x⟩, ⟨by omega, Mem.keep_trans hk1 (Mem.keep_trans hk2 hk3), ht3, hs3, fun k => ?_⟩, by dsimp only; omega, ⟨(by repeat' first | exact True.intro | refine ⟨rfl, ?_⟩), (by repeat' first | exact True.intro | refine ⟨rfl, ?_⟩), Mem.le_refl _, rfl⟩⟩
      rw [aget_adel, aget_aput, hg1, htk]
      by_cases e : k = x
      · subst e; simp [hh, tickO, hz]
      · simp [e]
    · have hz : ¬ h.left = 1 := by have : ¬ h.left - 1 = 0 := by simpa using g1
                                   omega
      (conv => whnf); refine ob (inR_i64 (by first | omega | (dsimp only; omega))) ?_
      (conv => whnf)
      refine ⟨⟨i + 1, M2, aput m1 x ⟨h.c, h.left - 1⟩⟩, ⟨by omega, Mem.keep_trans hk1 hk2, ht2, hs2, fun k => ?_⟩, by dsimp only; omega, ⟨(by repeat' first | exact True.intro | refine ⟨rfl, ?_⟩), (by repeat' first | exact True.intro | refine ⟨rfl, ?_⟩), Mem.le_refl _, rfl⟩⟩
      rw [aget_aput, hg1, htk]
      by_cases e : k = x
      · subst e; simp [hh, tickO, hz]
      · simp [e]
  · have hi' : i = m.length := by have := of_decide_eq_false g; dsimp only at this; omega
    repeat' ((conv => whnf); first | refine ⟨?_, True.intro⟩ | refine brn_t rfl ?_ | refine brn_f rfl ?_ | refine ob rfl ?_ | refine ob (by decide) ?_ | refine ob (Mem.le_refl _) ?_ | refine ⟨_, Mem.le_refl _, ?_⟩ | fail)
    refine ⟨rfl, m1, fun b o hb hbo => hk1 b o hb (hN.le b o hbo), ht1, fun k => ?_⟩
    rw [hg1, List.take_of_length_le (by omega)]
    by_cases e : k ∈ ks
    · rw [if_pos e]
    · rw [if_neg e]
      have : aget m k = none := aget_none.2 fun h => e (hperm.mem_iff.2 h)
      rw [this]; rfl
end Go.Proofs.Ytankgacaeejlhaa
