/- A store's state is right, plainly. -/
import Derived.Test.YtlocjjponfbhmaaGreatJoin26
import Derived.Test.YtlocjjponfbhmaaGreatFromD
import Derived.Test.YtlocjjponfbhmaaGreatJoin27
import Derived.Test.YtlocjjponfbhmaaGreatJoin28
namespace Go.Proofs.YtlocjjponfbhmaaGreat
open Go Go.Vm
/-- what a store keeps -/
structure GoS (S : StR) (es : EsT) : Prop where
  none : S.epoch = 0 → ∀ n ∈ S.used, n = 0
  own : S.used.getD S.self.toNat 0 = 0
  held : ∀ m ∈ S.l, m.id.o = S.self → m.id.e = S.epoch → m.id.c ≤ S.used.getD m.id.d.toNat 0
  seen : ∀ q ∈ es, q.1.1 ≠ S.self
theorem GoS.new (self qh qb qg : Int) : GoS (newD self qh qb qg) [] := by
  refine ⟨fun _ n hn => List.eq_of_mem_replicate hn, ?_, fun m hm => (by cases hm), fun q hq => (by cases hq)⟩
  unfold newD
  dsimp only
  rw [List.getD_eq_getElem?_getD, List.getElem?_replicate]
  split <;> rfl
theorem aput_key {es : EsT} {k : Int × Int} {x : Ent} {q : (Int × Int) × Ent} (h : q ∈ aput es k x) : q.1 = k ∨ ∃ r ∈ es, r.1 = q.1 := by
  have h1 : q.1 ∈ (aput es k x).map (·.1) := List.mem_map.2 ⟨q, h, rfl⟩
  rw [aput_keys] at h1
  split at h1
  · exact .inr (List.mem_map.1 h1)
  · rcases List.mem_append.1 h1 with h1 | h1
    · exact .inr (List.mem_map.1 h1)
    · exact .inl (by simpa using h1)
theorem mayDeliver {S : StR} {set : IdT → Int} {i : IdT} {n : Nat} (h : mayD S set 4 i n = 0) : i.d = S.self ∧ set i = 0 := by
  unfold mayD at h
  split at h
  · rename_i g; exact absurd h g
  rw [if_neg (by decide), if_neg (by decide), if_neg (by decide)] at h
  split at h
  · cases h
  · rename_i g; exact ⟨by omega, h⟩
theorem GoS.step : KeepQ GoS := by
  intro S es es' k i p hI hE h hst
  by_cases hm : mayD S (setMay S es) k i p.length = 0
  rotate_left
  · rw [if_neg hm]
    rw [if_neg (fun h => hm h.1)] at hst
    rw [hst]; exact h
  rw [if_pos hm]
  by_cases h1 : k = 1
  · subst h1
    rw [if_neg (fun h => by omega)] at hst
    subst hst
    have e : applyD S 1 i p = { S with epoch := S.epoch + 1, used := List.replicate 64 0 } := by unfold applyD; rw [if_pos rfl]
    rw [e]
    have he := hI.epoch
    refine ⟨fun _ n hn => List.eq_of_mem_replicate hn, ?_, fun m hm ho he' => ?_, h.seen⟩
    · dsimp only
      rw [List.getD_eq_getElem?_getD, List.getElem?_replicate]
      split <;> rfl
    · have := (hI.msgs m hm).2.2 ho
      dsimp only at he'
      omega
  by_cases h2 : k = 2
  · subst h2
    rw [if_neg (fun h => by omega)] at hst
    subst hst
    obtain ⟨g1, g2, g3, g4, g5, g6⟩ := mayHold hm
    obtain ⟨r1, r2, r3, r4, r5⟩ := idErr_all (msgErr_zero g1).1
    have e : applyD S 2 i p = { S with l := S.l ++ [⟨i, p⟩], used := if i.o = S.self ∧ i.e = S.epoch then S.used.set i.d.toNat (max (lastD S i.d) i.c) else S.used } := by unfold applyD; rw [if_neg (by decide), if_pos rfl]
    rw [e]
    have hs := hI.self
    have hu := hI.ulen
    refine ⟨fun h0 n hn => ?_, ?_, fun m hm ho he' => ?_, h.seen⟩
    · dsimp only at h0 hn
      rw [if_neg (fun hh => by omega)] at hn
      exact h.none h0 n hn
    · dsimp only
      split
      · rw [getD_set (by omega), if_neg (by omega)]; exact h.own
      · exact h.own
    · dsimp only at hm ho he' ⊢
      rcases List.mem_append.1 hm with hm | hm
      · have hc := h.held m hm ho he'
        split
        · rw [getD_set (by omega)]
          split
          · rename_i hd
            unfold lastD
            rw [hd] at hc
            omega
          · exact hc
        · exact hc
      · simp only [List.mem_singleton] at hm
        subst hm
        dsimp only at ho he' ⊢
        rw [if_pos ⟨ho, he'⟩, getD_set (by omega), if_pos rfl]
        omega
  by_cases h3 : k = 3
  · subst h3
    rw [if_neg (fun h => by omega)] at hst
    subst hst
    have e : applyD S 3 i p = { S with l := S.l.filter fun m => decide (m.id ≠ i) } := by unfold applyD; rw [if_neg (by decide), if_neg (by decide), if_pos rfl]
    rw [e]
    exact ⟨h.none, h.own, fun m hm => h.held m (List.mem_filter.1 hm).1, h.seen⟩
  · have e : applyD S k i p = S := by unfold applyD; rw [if_neg h1, if_neg h2, if_neg h3]
    rw [e]
    refine ⟨h.none, h.own, h.held, fun q hq => ?_⟩
    split at hst
    · rename_i h4
      obtain ⟨-, rfl⟩ := h4
      obtain ⟨hd, hz⟩ := mayDeliver hm
      rcases hst with ⟨hne, rfl⟩ | ⟨_, x, rfl, _⟩
      · exact h.seen q hq
      · have := (idErr_all (mayE_zero hz).1).2.2.2.2
        rcases aput_key hq with hk | ⟨r, hr, hk⟩
        · rw [hk]; dsimp only; omega
        · rw [← hk]; exact h.seen r hr
    · rw [hst] at hq; exact h.seen q hq
theorem Chain.of : ∀ {l : List Int} {last : Int}, l.Pairwise (· < ·) → (∀ c ∈ l, last < c ∧ c ≤ 65535) → Chain last l
  | [], _, _, _ => trivial
  | x :: r, last, h1, h2 => by
    obtain ⟨h3, h4⟩ := List.pairwise_cons.1 h1
    exact ⟨(h2 x (by simp)).1, (h2 x (by simp)).2, Chain.of h4 fun c hc => ⟨h3 c hc, (h2 c (by simp [hc])).2⟩⟩
theorem marks_form {es : EsT} (hE : InvE es) {l : List Mk} (hs : l.Pairwise ltMk) (hp : l.Perm (es.map mkOf)) : FormP l := by
  refine ⟨fun m hm => ?_, hs⟩
  obtain ⟨q, hq, rfl⟩ := List.mem_map.1 (hp.mem_iff.1 hm)
  obtain ⟨⟨c1, c2, c3⟩, c4⟩ := hE.can q hq
  obtain ⟨⟨k1, k2, k3, k4⟩, k5⟩ := hE.range q hq
  dsimp only [mkOf]
  refine ⟨⟨k1, (show q.1.1 < 64 by omega), k3, k4, c1, ?_⟩, c4.imp id fun h => List.length_pos_iff.2 h, Chain.of c2 fun c hc => ⟨c3 c hc, k5 c (.inr hc)⟩⟩
  dsimp only
  by_cases h0 : 0 < q.2.up
  · exact k5 q.2.up (.inl ⟨by omega, Int.le_refl _⟩)
  · omega
theorem usedF_sort : ∀ (u : List Int) (k : Nat), (usedF k u).Pairwise fun x y => x.1 < y.1
  | [], _ => .nil
  | n :: r, k => by
    unfold usedF
    split
    · refine List.pairwise_cons.2 ⟨fun y hy => ?_, usedF_sort r (k + 1)⟩
      have := usedF_key r (k + 1) y hy
      dsimp only; omega
    · exact usedF_sort r (k + 1)
theorem usedF_mem : ∀ (u : List Int) (k : Nat) (x : Int × Int), x ∈ usedF k u → x.2 ∈ u ∧ x.2 = u.getD (x.1.toNat - k) 0
  | [], _, x, h => by cases h
  | n :: r, k, x, h => by
    have more : x ∈ usedF (k + 1) r → x.2 ∈ n :: r ∧ x.2 = (n :: r).getD (x.1.toNat - k) 0 := fun h => by
      obtain ⟨h1, h2⟩ := usedF_mem r (k + 1) x h
      have h3 := usedF_key r (k + 1) x h
      refine ⟨by simp [h1], ?_⟩
      rw [show x.1.toNat - k = (x.1.toNat - (k + 1)) + 1 by omega]
      rw [List.getD_cons_succ]; exact h2
    unfold usedF at h
    split at h
    · rcases List.mem_cons.1 h with rfl | h
      · simp
      · exact more h
    · exact more h
theorem GoS.nexts {S : StR} {es : EsT} (hI : InvS S) (h : GoS S es) : NextsP S.self S.epoch (usedD S.used) := by
  refine ⟨⟨fun n hn => ?_, usedF_sort _ _, fun hne he => ?_⟩, hI.epoch⟩
  · have h1 := usedF_key _ _ n hn
    obtain ⟨h2, h3⟩ := usedF_mem _ _ n hn
    have h4 := hI.used _ h2
    have hu := hI.ulen
    refine ⟨by omega, fun e => ?_, by omega, by omega⟩
    rw [Nat.sub_zero, e, h.own] at h3
    omega
  · obtain ⟨x, r, e⟩ := List.exists_cons_of_ne_nil hne
    have hx : x ∈ usedD S.used := by rw [e]; simp
    have h1 := usedF_key _ _ x hx
    have h2 := h.none he _ (usedF_mem _ _ x hx).1
    omega
theorem GoS.form {S : StR} {es : EsT} (hI : InvS S) (hE : InvE es) (h : GoS S es) {l : List Mk} (hs : l.Pairwise ltMk) (hp : l.Perm (es.map mkOf)) : FormS S.self S.epoch (usedD S.used) S.l l := by
  refine ⟨h.nexts hI, ⟨fun m hm => ?_, hI.nodup⟩, fun m hm => ?_, marks_form hE hs hp⟩
  · obtain ⟨h1, h2, h3⟩ := hI.msgs m hm
    refine ⟨h1, h2, fun ho => ?_⟩
    have h4 := h3 ho
    by_cases he : m.id.e = S.epoch
    · refine .inr ⟨he, ?_⟩
      have := h.held m hm ho he
      have hr := idErr_all (msgErr_zero h1).1
      rw [lastD_usedD hI (by omega)]
      exact this
    · exact .inl (by omega)
  · obtain ⟨q, hq, rfl⟩ := List.mem_map.1 (hp.mem_iff.1 hm)
    exact h.seen q hq
theorem GoS.check {S : StR} {es : EsT} (hI : InvS S) (hE : InvE es) (hr : (gapsE es : Int) ≤ S.qg) (hg : ¬ badD S.self S.qh S.qb S.qg) (h : GoS S es) {l : List Mk} (hs : l.Pairwise ltMk) (hp : l.Perm (es.map mkOf)) : CheckS S.qh S.qb S.qg S.self S.epoch (usedD S.used) S.l l 0 := by
  refine .inr (.inr (.inr ⟨hg, h.form hI hE hs hp, fun hf => ?_, rfl⟩))
  have hq := hI.qh
  have hb := hI.qb
  have hsum : sumM l = gapsE es := by
    have := (hp.map fun m => m.more.length).sum_nat
    rw [List.map_map] at this
    exact this
  unfold FullS at hf
  rw [hsum] at hf
  omega
theorem arrU_usedD {S : StR} {es : EsT} (hI : InvS S) (h : GoS S es) : arrU (usedD S.used) = S.used := by
  have hu := hI.ulen
  apply List.ext_getElem?
  intro i
  by_cases hi : i < 64
  · have h1 := lastN_arrU (h.nexts hI).1 (d := i) (by omega)
    have h2 := lastD_usedD hI (d := i) (by omega)
    rw [h1] at h2
    unfold lastD at h2
    simp only [Int.toNat_natCast] at h2
    have l1 : i < (arrU (usedD S.used)).length := by rw [arrU_len]; exact hi
    have l2 : i < S.used.length := by omega
    rw [List.getD_eq_getElem?_getD, List.getD_eq_getElem?_getD, List.getElem?_eq_getElem l1, List.getElem?_eq_getElem l2] at h2
    rw [List.getElem?_eq_getElem l1, List.getElem?_eq_getElem l2]
    exact congrArg some h2
  · rw [List.getElem?_eq_none (by rw [arrU_len]; omega), List.getElem?_eq_none (by omega)]
theorem RelS.other {es es2 : EsT} {L : List K} (h : RelS es L) (hE : InvE es2) (hp : (es2.map mkOf).Perm (es.map mkOf)) : RelS es2 L := by
  refine ⟨hE, h.sort, fun o e c => ?_⟩
  rw [← h.same o e c, inE_mem hE, inE_mem h.inv]
  constructor
  · rintro ⟨q, hq, e1, e2, e3⟩
    obtain ⟨r, hr, er⟩ := List.mem_map.1 (hp.mem_iff.1 (List.mem_map.2 ⟨q, hq, rfl⟩))
    simp only [mkOf, Mk.mk.injEq] at er
    exact ⟨r, hr, by omega, by omega, by rw [er.2.2.1, er.2.2.2]; exact e3⟩
  · rintro ⟨q, hq, e1, e2, e3⟩
    obtain ⟨r, hr, er⟩ := List.mem_map.1 (hp.mem_iff.2 (List.mem_map.2 ⟨q, hq, rfl⟩))
    simp only [mkOf, Mk.mk.injEq] at er
    exact ⟨r, hr, by omega, by omega, by rw [er.2.2.1, er.2.2.2]; exact e3⟩
end Go.Proofs.YtlocjjponfbhmaaGreat

/- The store: how many bytes. -/
namespace Go.Proofs.YtlocjjponfbhmaaGreat
open Go Go.Vm
attribute [local irreducible] Brn Ob Grow CallsM inR LoopVC Mem.row Mem.cells Mem.setCells Mem.upd Own AppVC SrcVC StrVC NextVC New SrcOk subA NewSl Mem.textAt Mem.mapAt Mem.iterAt entryOf kfind Wr NewEls Elems
set_option maxRecDepth 10000
variable {M M0 B : Mem} {p b sp sb : Nat} {S : StR} {came : Int} {xs : HsT} {es : EsT}
theorem Bytes_ok (h : FreshSt M0 M p b sp sb S came xs es) : CallsM Tryz.prog F.store_Store_Bytes [ptr p] M fun v M' => v = .int .i64 (bytesD S.l) ∧ M = M' := by
  refine fo_store_Store_Bytes (by simp) ?_
  (conv => whnf); refine brn_f rfl ?_
  (conv => whnf); refine on (h.at'.self.c1 (stCs_bytes h.inv.ulen ..)) ?_
  repeat' ((conv => whnf); first | refine ⟨?_, True.intro⟩ | refine brn_t rfl ?_ | refine brn_f rfl ?_ | refine ob rfl ?_ | refine ob (by decide) ?_ | refine grow_same (Mem.le_refl _) ?_ | refine ob (Mem.le_refl _) ?_ | refine ⟨_, Mem.le_refl _, ?_⟩ | fail)
  exact ⟨rfl, rfl⟩
end Go.Proofs.YtlocjjponfbhmaaGreat

/- Both stores tell the same. -/
namespace Go.Proofs.YtlocjjponfbhmaaGreat
open Go Go.Vm
attribute [local irreducible] Brn Ob Grow CallsM inR LoopVC Mem.row Mem.cells Mem.setCells Mem.upd Own AppVC SrcVC StrVC NextVC New SrcOk subA NewSl Mem.textAt Mem.mapAt Mem.iterAt entryOf kfind Wr NewEls Elems
set_option maxRecDepth 10000
variable {M B : Mem} {p b sp sb : Nat} {S : StR} {came : Int} {xs : HsT} {es : EsT} {L : List K} {D : DocV} {ms : List MX}
theorem Epoch_ok (h : FreshSt B M p b sp sb S came xs es) : CallsM Tryz.prog F.store_Store_Epoch [ptr p] M fun v M' => v = .int .i64 S.epoch ∧ M = M' := by
  refine fo_store_Store_Epoch (by simp) ?_
  (conv => whnf); refine brn_f rfl ?_
  (conv => whnf); refine on (h.at'.self.c1 rfl) ?_
  repeat' ((conv => whnf); first | refine ⟨?_, True.intro⟩ | refine brn_t rfl ?_ | refine brn_f rfl ?_ | refine ob rfl ?_ | refine ob (by decide) ?_ | refine grow_same (Mem.le_refl _) ?_ | refine ob (Mem.le_refl _) ?_ | refine ⟨_, Mem.le_refl _, ?_⟩ | fail)
  exact ⟨rfl, rfl⟩
theorem state15R_ok (h : DocAt M S L D ms) : CallsM Tryz.prog F.ref15_State [docV S D] M fun v M' => ∃ a c mk, v = statV S.self S.epoch D.ua D.un D.uc D.la D.ln D.lc a mk.length c ∧ M.le M' ∧ MarksR M' a mk.length mk ∧ FewM mk ∧ mk.map MkC.mk' = marksK L ∧ mk.length ≤ D.kn := by
  refine fo_ref15_State (by simp) ?_
  repeat' ((conv => whnf); first | refine ⟨?_, True.intro⟩ | refine brn_t rfl ?_ | refine brn_f rfl ?_ | refine ob rfl ?_ | refine ob (by decide) ?_ | refine grow_same (Mem.le_refl _) ?_ | refine ob (Mem.le_refl _) ?_ | refine ⟨_, Mem.le_refl _, ?_⟩ | fail)
  refine (marksR_ok h.keys (by have := h.few; omega) S.qg).mono ?_
  rintro v M1 ⟨a1, c1, l, rfl, hW, hl, hln, hfew⟩
  repeat' ((conv => whnf); first | refine ob rfl ?_ | refine grow_same hW.row.le ?_ | refine ob hW.row.le ?_ | refine ⟨?_, True.intro⟩ | fail)
  repeat' ((conv => whnf); first | refine ⟨?_, True.intro⟩ | refine brn_t rfl ?_ | refine brn_f rfl ?_ | refine ob rfl ?_ | refine ob (by decide) ?_ | refine grow_same (Mem.le_refl _) ?_ | refine ob (Mem.le_refl _) ?_ | refine ⟨_, Mem.le_refl _, ?_⟩ | fail)
  exact ⟨a1, c1, l, rfl, hW.row.le, ⟨hW.row.src, fun m hm => (hW.more m hm).src⟩, fun m hm => by have := (hfew m hm).2; have := h.few; omega, hl, hln⟩
theorem told_ok (h : Both B M p b sp sb S came xs es L D ms) (hcm : came ≤ 4611686018427387904) (hes : es.length ≤ 4194000) (hkn : D.kn ≤ 4194000) : CallsM Tryz.prog F.law15_told [ptr p, docV S D] M fun v M' => v = .bool true ∧ M.le M' := by
  refine fo_law15_told (by simp) ?_
  have hI := h.own.inv
  have hqh := hI.qh
  have hD := h.doc.le h.own.le
  repeat' ((conv => whnf); first | refine ⟨?_, True.intro⟩ | refine brn_t rfl ?_ | refine brn_f rfl ?_ | refine ob rfl ?_ | refine ob (by decide) ?_ | refine grow_same (Mem.le_refl _) ?_ | refine ob (Mem.le_refl _) ?_ | refine ⟨_, Mem.le_refl _, ?_⟩ | fail)
  refine (State_ok h.own hcm hes).mono ?_
  rintro v M1 ⟨ua, uc, ha, hc, ms1, ma, mc, mk, rfl, hle1, hN, hH, hmsg, hMk, hperm, hcan⟩
  have h1 := h.own.to hle1
  repeat' ((conv => whnf); first | refine ob rfl ?_ | refine grow_same hle1 ?_ | refine ob hle1 ?_ | refine ⟨?_, True.intro⟩ | fail)
  repeat' ((conv => whnf); first | refine ⟨?_, True.intro⟩ | refine brn_t rfl ?_ | refine brn_f rfl ?_ | refine ob rfl ?_ | refine ob (by decide) ?_ | refine grow_same (Mem.le_refl _) ?_ | refine ob (Mem.le_refl _) ?_ | refine ⟨_, Mem.le_refl _, ?_⟩ | fail)
  refine (state15R_ok (hD.le hle1)).mono ?_
  rintro v M2 ⟨a2, c2, mk2, rfl, hle2, hMr, hfew, hmk2, hln2⟩
  have hle12 := Mem.le_trans hle1 hle2
  repeat' ((conv => whnf); first | refine ob rfl ?_ | refine grow_same hle12 ?_ | refine ob hle12 ?_ | refine ⟨?_, True.intro⟩ | fail)
  repeat' ((conv => whnf); first | refine ⟨?_, True.intro⟩ | refine brn_t rfl ?_ | refine brn_f rfl ?_ | refine ob rfl ?_ | refine ob (by decide) ?_ | refine grow_same (Mem.le_refl _) ?_ | refine ob (Mem.le_refl _) ?_ | refine ⟨_, Mem.le_refl _, ?_⟩ | fail)
  have hmkl : mk.length = es.length := by have := hperm.length_eq; simpa using this
  have hml : ms1.length = S.l.length := by rw [← hmsg, List.length_map]
  have hus : (usedD S.used).length ≤ 64 := by have h9 : (usedD S.used).length ≤ S.used.length := usedF_len _ 0; have := hI.ulen; omega
  have hun := h.doc.un
  have hln := h.doc.ln
  have hfm : FewM mk := by
    have hF : FreshS (M.minus (setB sp sb es)) M sp sb S.qg es := ⟨Mem.minus_le _ _, h.own.at'.set, h.own.invE, h.own.room, fun _ hy => Mem.minus_in hy⟩
    exact hF.fewM hperm
  have s1 : StatR M2 ua (usedD S.used).length ha ms1.length ma mk.length (usedD S.used) ms1 mk := ⟨hN.src.le hle2, hH.msgs.le hle2, hMk.r.le hle2, hfm, by omega⟩
  have s2 : StatR M2 D.ua D.un D.la D.ln a2 mk2.length (usedD S.used) ms mk2 := ⟨hD.used.le hle12, hD.row.le hle12, hMr, hfew, by omega⟩
  refine (sameState_ok S.self S.epoch s1 s2 (hmsg.trans h.doc.msgs.symm) ((h.rel.marks hcan).trans hmk2.symm) _ _ _ _ _ _).mono ?_
  rintro v _ ⟨rfl, rfl⟩
  repeat' ((conv => whnf); first | refine ob rfl ?_ | refine grow_same hle12 ?_ | refine ob hle12 ?_ | refine ⟨?_, True.intro⟩ | fail)
  repeat' ((conv => whnf); first | refine ⟨?_, True.intro⟩ | refine brn_t rfl ?_ | refine brn_f rfl ?_ | refine ob rfl ?_ | refine ob (by decide) ?_ | refine grow_same (Mem.le_refl _) ?_ | refine ob (Mem.le_refl _) ?_ | refine ⟨_, Mem.le_refl _, ?_⟩ | fail)
  refine (Held_ok (h1.to hle2) hcm).mono ?_
  rintro v M3 ⟨a3, n3, c3, ms3, rfl, hH3, hmsg3⟩
  have hle3 := Mem.le_trans hle12 hH3.row.le
  have hn3 := hH3.len
  have hn3l : ms3.length = S.l.length := by rw [← hmsg3, List.length_map]
  repeat' ((conv => whnf); first | refine ob rfl ?_ | refine grow_same hle3 ?_ | refine ob hle3 ?_ | refine ⟨?_, True.intro⟩ | fail)
  repeat' ((conv => whnf); first | refine ⟨?_, True.intro⟩ | refine brn_t rfl ?_ | refine brn_f rfl ?_ | refine ob rfl ?_ | refine ob (by decide) ?_ | refine grow_same (Mem.le_refl _) ?_ | refine ob (Mem.le_refl _) ?_ | refine ⟨_, Mem.le_refl _, ?_⟩ | fail)
  refine (sameAllR_ok hH3.msgs (hD.row.le hle3) (by omega) (by omega)).mono ?_
  rintro v _ ⟨rfl, rfl⟩
  rw [decide_eq_true (hmsg3.trans h.doc.msgs.symm)]
  repeat' ((conv => whnf); first | refine ob rfl ?_ | refine grow_same hle3 ?_ | refine ob hle3 ?_ | refine ⟨?_, True.intro⟩ | fail)
  repeat' ((conv => whnf); first | refine ⟨?_, True.intro⟩ | refine brn_t rfl ?_ | refine brn_f rfl ?_ | refine ob rfl ?_ | refine ob (by decide) ?_ | refine grow_same (Mem.le_refl _) ?_ | refine ob (Mem.le_refl _) ?_ | refine ⟨_, Mem.le_refl _, ?_⟩ | fail)
  have h3 := h.own.to hle3
  refine (Bytes_ok h3).mono ?_
  rintro v _ ⟨rfl, rfl⟩
  repeat' ((conv => whnf); first | refine ob rfl ?_ | refine grow_same hle3 ?_ | refine ob hle3 ?_ | refine ⟨?_, True.intro⟩ | fail)
  repeat' ((conv => whnf); first | refine ⟨?_, True.intro⟩ | refine brn_t rfl ?_ | refine brn_f rfl ?_ | refine ob rfl ?_ | refine ob (by decide) ?_ | refine grow_same (Mem.le_refl _) ?_ | refine ob (Mem.le_refl _) ?_ | refine ⟨_, Mem.le_refl _, ?_⟩ | fail)
  refine (bytesR_ok (hD.le hle3) hI).mono ?_
  rintro v _ ⟨rfl, rfl⟩
  repeat' ((conv => whnf); first | refine ob rfl ?_ | refine grow_same hle3 ?_ | refine ob hle3 ?_ | refine ⟨?_, True.intro⟩ | fail)
  repeat' ((conv => whnf); first | refine ⟨?_, True.intro⟩ | refine brn_t rfl ?_ | refine brn_f rfl ?_ | refine ob rfl ?_ | refine ob (by decide) ?_ | refine grow_same (Mem.le_refl _) ?_ | refine ob (Mem.le_refl _) ?_ | refine ⟨_, Mem.le_refl _, ?_⟩ | fail)
  (conv => whnf); refine brn_t (by simp) ?_
  repeat' ((conv => whnf); first | refine ⟨?_, True.intro⟩ | refine brn_t rfl ?_ | refine brn_f rfl ?_ | refine ob rfl ?_ | refine ob (by decide) ?_ | refine grow_same (Mem.le_refl _) ?_ | refine ob (Mem.le_refl _) ?_ | refine ⟨_, Mem.le_refl _, ?_⟩ | fail)
  refine (Epoch_ok h3).mono ?_
  rintro v _ ⟨rfl, rfl⟩
  repeat' ((conv => whnf); first | refine ob rfl ?_ | refine grow_same hle3 ?_ | refine ob hle3 ?_ | refine ⟨?_, True.intro⟩ | fail)
  repeat' ((conv => whnf); first | refine ⟨?_, True.intro⟩ | refine brn_t rfl ?_ | refine brn_f rfl ?_ | refine ob rfl ?_ | refine ob (by decide) ?_ | refine grow_same (Mem.le_refl _) ?_ | refine ob (Mem.le_refl _) ?_ | refine ⟨_, Mem.le_refl _, ?_⟩ | fail)
  exact ⟨by simp, hle3⟩
end Go.Proofs.YtlocjjponfbhmaaGreat

/- StoreGoes, as a contract. -/
namespace Go.Proofs.YtlocjjponfbhmaaGreat
open Go Go.Vm
attribute [local irreducible] Brn Ob Grow CallsM inR LoopVC Mem.row Mem.cells Mem.setCells Mem.upd Own AppVC SrcVC StrVC NextVC New SrcOk subA NewSl Mem.textAt Mem.mapAt Mem.iterAt entryOf kfind Wr NewEls Elems
set_option maxRecDepth 10000
variable {M B : Mem}
structure StG where
  i : Nat
  mem : Mem
  B : Mem
  S : StR
  x : Hd
  y : Hd
  L : List K
  D : DocV
  ms : List MX
theorem goes_law (self qh qb qg : Int) {a : Option Addr} {n c : Nat} {l : List EvX} (hl : Elems M 6 a n (EvR M) l) (hn : n ≤ 1048576) (hc : n ≤ c) {a' : Option Addr} {n' c' : Nat} {l' : List EvX} (hl' : Elems M 6 a' n' (EvR M) l') (hn' : n' ≤ 1048576) (hc' : n' ≤ c') :
    CallsM Tryz.prog F.law15_StoreGoes [.agg #[.int .i64 self, .int .i64 qh, .int .i64 qb, .int .i64 qg], .slice a n c, .slice a' n' c'] M fun v M' => v = .bool true ∧ M.le M' := by
  refine fo_law15_StoreGoes (by simp) ?_
  (conv => whnf); refine (doneQ_ok self qh qb qg (GoS.new _ _ _ _) GoS.step hl hn hc).mono ?_
  rintro v M1 (⟨hg, rfl, rfl⟩ | ⟨hg, B, p, b, sp, sb, S, came, xs, es, L, D, ms, rfl, hMB, hBo, hca, hkn, hel, rfl, rfl, rfl, rfl, -, hGo⟩)
  · repeat' ((conv => whnf); first | refine ⟨?_, True.intro⟩ | refine brn_t rfl ?_ | refine brn_f rfl ?_ | refine ob rfl ?_ | refine ob (by decide) ?_ | refine grow_same (Mem.le_refl _) ?_ | refine ob (Mem.le_refl _) ?_ | refine ⟨_, Mem.le_refl _, ?_⟩ | fail)
    refine awake_ok.mono ?_
    rintro v M2 ⟨rfl, hle⟩
    repeat' ((conv => whnf); first | refine ⟨?_, True.intro⟩ | refine brn_t rfl ?_ | refine brn_f rfl ?_ | refine ob rfl ?_ | refine ob (by decide) ?_ | refine grow_same (Mem.le_refl _) ?_ | refine ob (Mem.le_refl _) ?_ | refine ⟨_, Mem.le_refl _, ?_⟩ | fail)
    exact ⟨rfl, hle⟩
  have hI := hBo.own.inv
  have hE := hBo.own.invE
  have hqh := hI.qh
  have hus : (usedD S.used).length ≤ 64 := by have h9 : (usedD S.used).length ≤ S.used.length := usedF_len _ 0; have := hI.ulen; omega
  have hbq : S.qh ≤ 256 := by unfold badD at hg; omega
  repeat' ((conv => whnf); first | refine ⟨?_, True.intro⟩ | refine brn_t rfl ?_ | refine brn_f rfl ?_ | refine ob rfl ?_ | refine ob (by decide) ?_ | refine grow_same (Mem.le_refl _) ?_ | refine ob (Mem.le_refl _) ?_ | refine ⟨_, Mem.le_refl _, ?_⟩ | fail)
  refine (State_ok hBo.own (by omega) (by omega)).mono ?_
  rintro v M2 ⟨ua, uc, ha, hcc, ms1, ma, mc, mk, rfl, hle2, hN, hH, hmsg, hMk, hperm, hcan⟩
  have hml : ms1.length = S.l.length := by rw [← hmsg, List.length_map]
  have hmkl : mk.length = es.length := by have := hperm.length_eq; simpa using this
  have hfm : FewM mk := by
    have hF : FreshS (M1.minus (setB sp sb es)) M1 sp sb S.qg es := ⟨Mem.minus_le _ _, hBo.own.at'.set, hBo.own.invE, hBo.own.room, fun _ hy => Mem.minus_in hy⟩
    exact hF.fewM hperm
  have s1 : StatR M2 ua (usedD S.used).length ha ms1.length ma mk.length (usedD S.used) ms1 mk := ⟨hN.src, hH.msgs, hMk.r, hfm, by omega⟩
  have hbig : BigS ms1 mk (usedD S.used).length ms1.length hcc mk.length := by
    have hcl : ms1.length ≤ hcc := (newSl_iff.1 hH.row).2.2.1
    refine ⟨by omega, by omega, by omega, by omega, fun m hm => ?_, fun m hm => ?_⟩
    · have h1 : m.msg ∈ S.l := hmsg ▸ List.mem_map.2 ⟨m, hm, rfl⟩
      have := (msgErr_zero (hI.msgs _ h1).1).2.2
      dsimp only [MX.msg] at this
      omega
    · obtain ⟨q, hq, e⟩ := List.mem_map.1 (hperm.mem_iff.1 (List.mem_map.2 ⟨m, hm, rfl⟩))
      have h1 : m.more = q.2.more := (congrArg Mk.more e).symm
      have h2 := gapsE_le hq
      have h3 := hBo.own.room
      rw [h1]; omega
  repeat' ((conv => whnf); first | refine ob rfl ?_ | refine grow_same hle2 ?_ | refine ob hle2 ?_ | refine ⟨?_, True.intro⟩ | fail)
  repeat' ((conv => whnf); first | refine ⟨?_, True.intro⟩ | refine brn_t rfl ?_ | refine brn_f rfl ?_ | refine ob rfl ?_ | refine ob (by decide) ?_ | refine grow_same (Mem.le_refl _) ?_ | refine ob (Mem.le_refl _) ?_ | refine ⟨_, Mem.le_refl _, ?_⟩ | fail)
  refine (From15_ok S.qh S.qb S.qg s1 hbig).mono ?_
  rw [hmsg]
  have hchk := GoS.check hI hE hBo.own.room.1 hg hGo hcan.sorted hperm
  rintro v M3 ⟨e, hC, ⟨he0, rfl, hle3⟩ | ⟨-, p2, b2, sp2, sb2, came2, xs2, es2, rfl, h3, hcm2, hes2⟩⟩
  · exact absurd (hC.uniq hchk) he0
  rw [arrU_usedD hI hGo] at h3
  have hS : mkS S.self S.qh S.qb S.qg S.epoch S.used S.l = S := rfl
  rw [hS] at h3
  obtain ⟨x, hx⟩ : ∃ x : Hd, x = ⟨p, b, sp, sb, came, xs, es⟩ := ⟨_, rfl⟩
  obtain ⟨y, hy⟩ : ∃ y : Hd, y = ⟨p2, b2, sp2, sb2, came2, xs2, es2⟩ := ⟨_, rfl⟩
  have hel2 : es2.length = es.length := by have := congrArg List.length hes2; simp at this; omega
  have hT : Two B M3 S S x y := by
    subst hx hy
    have h2 := hBo.own.to hle2
    refine ⟨h2.to h3.le, ⟨Mem.le_trans h2.le h3.le, h3.at', h3.inv, h3.invE, h3.room, fun z hz => ?_⟩, fun z h4 h5 => ?_⟩
    · have := h3.fresh z hz
      cases e : B z with
      | none => rfl
      | some o => rw [h2.le z o e] at this; cases this
    · exact h2.some h4 (h3.fresh z h5)
  have hR2 : RelS y.es L := by
    subst hy
    exact hBo.rel.other h3.invE (hes2 ▸ hperm)
  have hR1 : RelS x.es L := by subst hx; exact hBo.rel
  have hxp : p = x.p := by rw [hx]
  have hyp : p2 = y.p := by rw [hy]
  have hxc : x.came = came ∧ x.es.length = es.length := by rw [hx]; exact ⟨rfl, rfl⟩
  have hyc : y.came = came2 ∧ y.es.length = es2.length := by rw [hy]; exact ⟨rfl, rfl⟩
  have hD := hBo.doc
  rw [hxp, hyp]
  obtain ⟨px, hpx⟩ : ∃ px, px = x.p := ⟨_, rfl⟩
  obtain ⟨py, hpy⟩ : ∃ py, py = y.p := ⟨_, rfl⟩
  rw [← hpx, ← hpy]
  have hle3 : M.le M3 := Mem.le_trans hMB hT.one.le
  repeat' ((conv => whnf); first | refine ⟨?_, True.intro⟩ | refine brn_t rfl ?_ | refine brn_f rfl ?_ | refine ob rfl ?_ | refine ob (by decide) ?_ | refine grow_same (Mem.le_refl _) ?_ | refine ob (Mem.le_refl _) ?_ | refine ⟨_, Mem.le_refl _, ?_⟩ | fail)
  refine (cutEv_ok hl' hn' hc' M3).mono ?_
  rintro v _ ⟨⟨a1, n1, c1, rfl, hn1, hc1, hnl, hcutM⟩, rfl⟩
  clear hx hy hxp hyp hchk hC hes2 hperm hcan hMk hH hN s1 hbig hBo h3 hle2 hmsg hGo
  (conv => whnf)
  refine loopF (σ := StG) [12, 2] (fun w => [(12, .int .i64 w.i), (2, .slice a1 n1 c1)]) (fun w => [.live T.portagelaw15_Set [.v (.int .i64 S.self), .v (.int .i64 S.qh), .v (.int .i64 S.qb), .v (.int .i64 S.qg)], .live T.portageref15_Store (docCs w.S w.D)]) (fun w => w.mem)
    (fun w => w.i ≤ n1 ∧ M.le w.B ∧ Two w.B w.mem w.S w.S w.x w.y ∧ DocAt w.B w.S w.L w.D w.ms ∧ RelS w.x.es w.L ∧ RelS w.y.es w.L ∧ w.x.p = px ∧ w.y.p = py ∧ w.x.came ≤ 50 + w.i ∧ w.y.came ≤ 256 + w.i ∧ w.x.es.length ≤ 50 + w.i ∧ w.y.es.length ≤ 50 + w.i ∧ w.D.kn ≤ 50 + w.i) (fun w => n1 - w.i)
    ⟨0, M3, B, S, x, y, L, D, ms⟩ ⟨by simp, hMB, hT, hD, hR1, hR2, hpx.symm, hpy.symm, by dsimp only; omega, by dsimp only; omega, by dsimp only; omega, by dsimp only; omega, by dsimp only; omega⟩ ⟨(by repeat' first | exact True.intro | refine ⟨rfl, ?_⟩), (by repeat' first | exact True.intro | refine ⟨rfl, ?_⟩), Mem.le_refl _, rfl⟩ ?_
  clear hT hD hR1 hR2 hpx hpy hxc hyc hMB hle3
  rintro ⟨i, Mc, B, S1, x, y, L, D, ms⟩ ⟨hi, hMB, hT, hD, hR1, hR2, hpx, hpy, hc1, hc2, he1, he2, hkn⟩
  dsimp only at hi hMB hT hD hR1 hR2 hpx hpy hc1 hc2 he1 he2 hkn
  have hM := Mem.le_trans hMB hT.one.le
  (conv => whnf); refine brn (fun g => ?_) (fun g => ?_)
  rotate_left
  · subst hpx hpy
    repeat' ((conv => whnf); first | refine ⟨?_, True.intro⟩ | refine brn_t rfl ?_ | refine brn_f rfl ?_ | refine ob rfl ?_ | refine ob (by decide) ?_ | refine grow_same (Mem.le_refl _) ?_ | refine ob (Mem.le_refl _) ?_ | refine ⟨_, Mem.le_refl _, ?_⟩ | fail)
    refine (told_ok ⟨hT.one, hD, hR1⟩ (by omega) (by omega) (by omega)).mono ?_
    rintro v M4 ⟨rfl, hle4⟩
    repeat' ((conv => whnf); first | refine ⟨?_, True.intro⟩ | refine brn_t rfl ?_ | refine brn_f rfl ?_ | refine ob rfl ?_ | refine ob (by decide) ?_ | refine grow_same (Mem.le_refl _) ?_ | refine ob (Mem.le_refl _) ?_ | refine ⟨_, Mem.le_refl _, ?_⟩ | fail)
    refine (told_ok ⟨(hT.to hle4).two, hD, hR2⟩ (by omega) (by omega) (by omega)).mono ?_
    rintro v M5 ⟨rfl, hle5⟩
    repeat' ((conv => whnf); first | refine ⟨?_, True.intro⟩ | refine brn_t rfl ?_ | refine brn_f rfl ?_ | refine ob rfl ?_ | refine ob (by decide) ?_ | refine grow_same (Mem.le_refl _) ?_ | refine ob (Mem.le_refl _) ?_ | refine ⟨_, Mem.le_refl _, ?_⟩ | fail)
    refine awake_ok.mono ?_
    rintro v M6 ⟨rfl, hle6⟩
    repeat' ((conv => whnf); first | refine ⟨?_, True.intro⟩ | refine brn_t rfl ?_ | refine brn_f rfl ?_ | refine ob rfl ?_ | refine ob (by decide) ?_ | refine grow_same (Mem.le_refl _) ?_ | refine ob (Mem.le_refl _) ?_ | refine ⟨_, Mem.le_refl _, ?_⟩ | fail)
    exact ⟨rfl, Mem.le_trans hM (Mem.le_trans hle4 (Mem.le_trans hle5 hle6))⟩
  have hlt : i < n1 := by have := of_decide_eq_true g; dsimp only at this; omega
  obtain ⟨hil, bb, o, a2, c2, ha, hrow, hd, hd1, hd2⟩ := ev_at hcutM hlt
  generalize (l'.take 50)[i] = z at *
  have hdoc := hT.aside (apply15R_ok (hD.le hT.base) hT.one.inv (by omega) z.kind z.id (hd.le (Mem.le_trans hMB hT.base)) hd1 (c := c2))
  repeat' ((conv => whnf); first | refine ⟨?_, True.intro⟩ | refine brn_t rfl ?_ | refine brn_f rfl ?_ | refine ob rfl ?_ | refine ob (by decide) ?_ | refine grow_same (Mem.le_refl _) ?_ | refine ob (Mem.le_refl _) ?_ | refine ⟨_, Mem.le_refl _, ?_⟩ | fail)
  refine ob (by first | omega | (dsimp only; omega)) ?_
  (conv => whnf); refine atp ha ?_
  (conv => whnf); refine on (Mem.row_le hM hrow) ?_
  repeat' ((conv => whnf); first | refine ⟨?_, True.intro⟩ | refine ⟨?_, ?_, True.intro⟩ | refine brn_t rfl ?_ | refine brn_f rfl ?_ | refine ob rfl ?_ | refine ob (by decide) ?_ | refine grow_same (Mem.le_refl _) ?_ | refine ob (Mem.le_refl _) ?_ | refine ⟨_, Mem.le_refl _, ?_⟩ | fail)
  · refine hdoc.mono ?_
    rintro v M4 ⟨A, ⟨D', ms', rfl, hleA, hD', hkn'⟩, hT4⟩
    repeat' ((conv => whnf); first | refine ⟨?_, True.intro⟩ | refine brn_t rfl ?_ | refine brn_f rfl ?_ | refine ob rfl ?_ | refine ob (by decide) ?_ | refine grow_same (Mem.le_refl _) ?_ | refine ob (Mem.le_refl _) ?_ | refine ⟨_, Mem.le_refl _, ?_⟩ | fail)
    have hMA : M.le A := Mem.le_trans hMB (Mem.le_trans hT.base hleA)
    have hM4 : M.le M4 := Mem.le_trans hMA hT4.one.le
    refine ob (by first | omega | (dsimp only; omega)) ?_
    (conv => whnf); refine atp ha ?_
    (conv => whnf); refine on (Mem.row_le hM4 hrow) ?_
    subst hpx hpy
    repeat' ((conv => whnf); first | refine ⟨?_, True.intro⟩ | refine brn_t rfl ?_ | refine brn_f rfl ?_ | refine ob rfl ?_ | refine ob (by decide) ?_ | refine grow_same (Mem.le_refl _) ?_ | refine ob (Mem.le_refl _) ?_ | refine ⟨_, Mem.le_refl _, ?_⟩ | fail)
    refine (Apply15_ok hT4.one.base.1 z.kind z.id (hd.le hM4) hd1 (by omega)).mono ?_
    rintro v M5 ⟨came5, xs5, es5, rfl, hcc5, h5, hst5⟩
    have hm1 : mayD S1 (setMay S1 x.es) z.kind z.id z.p.length = mayD S1 (setMayK S1 L) z.kind z.id z.p.length := by
      have : setMay S1 x.es = setMayK S1 L := by funext w; exact hR1.may S1.qg w.o w.d w.e w.c
      rw [this]
    have hm2 : mayD S1 (setMay S1 y.es) z.kind z.id z.p.length = mayD S1 (setMayK S1 L) z.kind z.id z.p.length := by
      have : setMay S1 y.es = setMayK S1 L := by funext w; exact hR2.may S1.qg w.o w.d w.e w.c
      rw [this]
    have hrel1 := rel_step hR1 hm1 hst5
    have hT5 := hT4.turn (x' := ⟨x.p, x.b, x.sp, x.sb, came5, xs5, es5⟩) h5
    have hM5 : M.le M5 := Mem.le_trans hMA hT5.one.le
    rw [hm1] at hT5 ⊢
    (conv => whnf); refine brn_f (by simp) ?_
    refine ob (by first | omega | (dsimp only; omega)) ?_
    (conv => whnf); refine atp ha ?_
    (conv => whnf); refine on (Mem.row_le hM5 hrow) ?_
    repeat' ((conv => whnf); first | refine ⟨?_, True.intro⟩ | refine brn_t rfl ?_ | refine brn_f rfl ?_ | refine ob rfl ?_ | refine ob (by decide) ?_ | refine grow_same (Mem.le_refl _) ?_ | refine ob (Mem.le_refl _) ?_ | refine ⟨_, Mem.le_refl _, ?_⟩ | fail)
    refine (Apply15_ok hT5.symm.one.base.1 z.kind z.id (hd.le hM5) hd1 (by omega)).mono ?_
    rintro v M6 ⟨came6, xs6, es6, rfl, hcc6, h6, hst6⟩
    have hrel2 := rel_step hR2 hm2 hst6
    have hT6 := (hT5.symm.turn (x' := ⟨y.p, y.b, y.sp, y.sb, came6, xs6, es6⟩) h6).symm
    rw [hm2] at hT6 ⊢
    have hl5 := step_len hst5
    have hl6 := step_len hst6
    (conv => whnf); refine brn_f (by simp) ?_
    repeat' ((conv => whnf); first | refine ⟨?_, True.intro⟩ | refine brn_t rfl ?_ | refine brn_f rfl ?_ | refine ob rfl ?_ | refine ob (by decide) ?_ | refine grow_same (Mem.le_refl _) ?_ | refine ob (Mem.le_refl _) ?_ | refine ⟨_, Mem.le_refl _, ?_⟩ | fail)
    refine ob (inR_i64 (by first | omega | (dsimp only; omega))) ?_
    (conv => whnf)
    exact ⟨⟨i + 1, M6, A, _, ⟨x.p, x.b, x.sp, x.sb, came5, xs5, es5⟩, ⟨y.p, y.b, y.sp, y.sb, came6, xs6, es6⟩, _, D', ms'⟩, ⟨by dsimp only; omega, hMA, hT6, hD', hrel1, hrel2, rfl, rfl, by dsimp only; omega, by dsimp only; omega, by dsimp only; omega, by dsimp only; omega, by dsimp only; omega⟩, by dsimp only; omega, ⟨(by repeat' first | exact True.intro | refine ⟨rfl, ?_⟩), (by repeat' first | exact True.intro | refine ⟨rfl, ?_⟩), Mem.le_refl _, rfl⟩⟩
  · refine hdoc.mono ?_
    rintro v M4 ⟨A, ⟨D', ms', rfl, hleA, hD', hkn'⟩, hT4⟩
    repeat' ((conv => whnf); first | refine ⟨?_, True.intro⟩ | refine brn_t rfl ?_ | refine brn_f rfl ?_ | refine ob rfl ?_ | refine ob (by decide) ?_ | refine grow_same (Mem.le_refl _) ?_ | refine ob (Mem.le_refl _) ?_ | refine ⟨_, Mem.le_refl _, ?_⟩ | fail)
    have hMA : M.le A := Mem.le_trans hMB (Mem.le_trans hT.base hleA)
    have hM4 : M.le M4 := Mem.le_trans hMA hT4.one.le
    refine ob (by first | omega | (dsimp only; omega)) ?_
    (conv => whnf); refine atp ha ?_
    (conv => whnf); refine on (Mem.row_le hM4 hrow) ?_
    subst hpx hpy
    repeat' ((conv => whnf); first | refine ⟨?_, True.intro⟩ | refine brn_t rfl ?_ | refine brn_f rfl ?_ | refine ob rfl ?_ | refine ob (by decide) ?_ | refine grow_same (Mem.le_refl _) ?_ | refine ob (Mem.le_refl _) ?_ | refine ⟨_, Mem.le_refl _, ?_⟩ | fail)
    refine (Apply15_ok hT4.one.base.1 z.kind z.id (hd.le hM4) hd1 (by omega)).mono ?_
    rintro v M5 ⟨came5, xs5, es5, rfl, hcc5, h5, hst5⟩
    have hm1 : mayD S1 (setMay S1 x.es) z.kind z.id z.p.length = mayD S1 (setMayK S1 L) z.kind z.id z.p.length := by
      have : setMay S1 x.es = setMayK S1 L := by funext w; exact hR1.may S1.qg w.o w.d w.e w.c
      rw [this]
    have hm2 : mayD S1 (setMay S1 y.es) z.kind z.id z.p.length = mayD S1 (setMayK S1 L) z.kind z.id z.p.length := by
      have : setMay S1 y.es = setMayK S1 L := by funext w; exact hR2.may S1.qg w.o w.d w.e w.c
      rw [this]
    have hrel1 := rel_step hR1 hm1 hst5
    have hT5 := hT4.turn (x' := ⟨x.p, x.b, x.sp, x.sb, came5, xs5, es5⟩) h5
    have hM5 : M.le M5 := Mem.le_trans hMA hT5.one.le
    rw [hm1] at hT5 ⊢
    (conv => whnf); refine brn_f (by simp) ?_
    refine ob (by first | omega | (dsimp only; omega)) ?_
    (conv => whnf); refine atp ha ?_
    (conv => whnf); refine on (Mem.row_le hM5 hrow) ?_
    repeat' ((conv => whnf); first | refine ⟨?_, True.intro⟩ | refine brn_t rfl ?_ | refine brn_f rfl ?_ | refine ob rfl ?_ | refine ob (by decide) ?_ | refine grow_same (Mem.le_refl _) ?_ | refine ob (Mem.le_refl _) ?_ | refine ⟨_, Mem.le_refl _, ?_⟩ | fail)
    refine (Apply15_ok hT5.symm.one.base.1 z.kind z.id (hd.le hM5) hd1 (by omega)).mono ?_
    rintro v M6 ⟨came6, xs6, es6, rfl, hcc6, h6, hst6⟩
    have hrel2 := rel_step hR2 hm2 hst6
    have hT6 := (hT5.symm.turn (x' := ⟨y.p, y.b, y.sp, y.sb, came6, xs6, es6⟩) h6).symm
    rw [hm2] at hT6 ⊢
    have hl5 := step_len hst5
    have hl6 := step_len hst6
    (conv => whnf); refine brn_f (by simp) ?_
    repeat' ((conv => whnf); first | refine ⟨?_, True.intro⟩ | refine brn_t rfl ?_ | refine brn_f rfl ?_ | refine ob rfl ?_ | refine ob (by decide) ?_ | refine grow_same (Mem.le_refl _) ?_ | refine ob (Mem.le_refl _) ?_ | refine ⟨_, Mem.le_refl _, ?_⟩ | fail)
    refine ob (inR_i64 (by first | omega | (dsimp only; omega))) ?_
    (conv => whnf)
    exact ⟨⟨i + 1, M6, A, _, ⟨x.p, x.b, x.sp, x.sb, came5, xs5, es5⟩, ⟨y.p, y.b, y.sp, y.sb, came6, xs6, es6⟩, _, D', ms'⟩, ⟨by dsimp only; omega, hMA, hT6, hD', hrel1, hrel2, rfl, rfl, by dsimp only; omega, by dsimp only; omega, by dsimp only; omega, by dsimp only; omega, by dsimp only; omega⟩, by dsimp only; omega, ⟨(by repeat' first | exact True.intro | refine ⟨rfl, ?_⟩), (by repeat' first | exact True.intro | refine ⟨rfl, ?_⟩), Mem.le_refl _, rfl⟩⟩
end Go.Proofs.YtlocjjponfbhmaaGreat

