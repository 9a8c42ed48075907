/- StoreFresh, as a contract. -/
import Derived.Test.YtlocjjponfbhmaaStoreI
namespace Go.Proofs.Ytlocjjponfbhmaa
open Go Go.Vm
attribute [local irreducible] Brn Ob Grow CallsM inR LoopVC Mem.row Mem.cells Mem.setCells Mem.upd Own AppVC SrcVC StrVC NextVC New SrcOk subA NewSl Mem.textAt Mem.mapAt Mem.iterAt entryOf kfind Wr NewEls Elems
set_option maxRecDepth 10000
variable {M B : Mem} {p b sp sb : Nat} {S : StR} {came : Int} {xs : HsT} {es : EsT} {L : List K} {D : DocV} {ms : List MX}
theorem StAt.ntype (h : StAt M p b sp sb S came xs es) {y : Nat} {E : TypeId} {cs : List Value} (hy : M.has y E cs) (h1 : E ≠ T.store_Store) (h2 : E ≠ T.uint8) (h3 : E ≠ T.seen_Set) (h4 : E ≠ T.seen_row) (h5 : E ≠ T.int) : ¬ stB p b sp sb xs es y := by
  rintro (rfl | rfl | ⟨q, hq, hy'⟩ | hy')
  · exact h1 (hy.inj h.self).1
  · exact h.map.nb hy rfl
  · obtain ⟨cs', hc⟩ := h.dhas hq hy'
    exact h2 (hy.inj hc).1
  · rcases hy' with rfl | rfl | ⟨q, hq, hy'⟩
    · exact h3 (hy.inj h.set.self).1
    · exact h.set.map.nb hy rfl
    · have hE := h.set.ents q hq
      rcases hy' with rfl | ⟨a, ha, rfl⟩
      · exact h4 (hy.inj hE.self).1
      · obtain ⟨cs', hh⟩ := hE.more.block ha
        exact h5 (hy.inj hh).1
theorem wr_nil {M : Mem} {b : Nat} {E : TypeId} {s : Nat} (h : M.has b E []) : Wr M E s (Option.some ⟨b, 0, none⟩) 0 0 [] := by
  unfold Wr
  exact ⟨by simp, by omega, .inr ⟨b, [], rfl, h, by simp, by simp⟩⟩
theorem wr_new {M : Mem} {E : TypeId} {s : Nat} {a : Option Addr} {n c : Nat} {l : List Value} (h : Wr M E s a n c l) : NewSl (M.minus (blk a)) E s a n c l M := by
  rw [newSl_iff]
  unfold Wr at h
  obtain ⟨h1, h2, h3⟩ := h
  exact ⟨Mem.minus_le _ _, h1, h2, h3.imp id fun ⟨b, cs, ha, hh, hr⟩ => ⟨b, cs, ha, Mem.minus_in ⟨_, ha, rfl⟩, hh, hr⟩⟩
/-- ids that were told, and are held -/
def IdsInv (ids : List IdT) (S : StR) : Prop := ∀ j ∈ ids, j.o = S.self ∧ (0 ≤ j.d ∧ j.d ≤ 63) ∧ (j.e < S.epoch ∨ (j.e = S.epoch ∧ j.c ≤ lastD S j.d))
theorem lastD_set {S : StR} (hu : S.used.length = 64) {d e : Int} (hd : 0 ≤ d ∧ d ≤ 63) (he : 0 ≤ e ∧ e ≤ 63) (v : Int) : (S.used.set d.toNat v).getD e.toNat 0 = if e = d then v else lastD S e := by
  unfold lastD
  rw [List.getD_eq_getElem?_getD, List.getD_eq_getElem?_getD, List.getElem?_set]
  by_cases h : e = d
  · subst h
    rw [if_pos rfl, if_pos (by omega), if_pos rfl]; rfl
  · rw [if_neg (by omega), if_neg h]
theorem IdsInv.apply {ids : List IdT} {set : IdT → Int} (h : IdsInv ids S) (hI : InvS S) {k : Int} {i : IdT} {l : List UInt8} (hm : mayD S set k i l.length = 0) : IdsInv ids (applyD S k i l) := by
  intro j hj
  obtain ⟨h1, h2, h3⟩ := h j hj
  by_cases k1 : k = 1
  · subst k1
    have e : applyD S 1 i l = { S with epoch := S.epoch + 1, used := List.replicate 64 0 } := by unfold applyD; rw [if_pos rfl]
    rw [e]
    exact ⟨h1, h2, .inl (by dsimp only; omega)⟩
  by_cases k2 : k = 2
  · subst k2
    obtain ⟨m1, -⟩ := mayHold hm
    have hid := idErr_all (msgErr_zero m1).1
    have e : applyD S 2 i l = { S with l := S.l ++ [⟨i, l⟩], used := if i.o = S.self ∧ i.e = S.epoch then S.used.set i.d.toNat (max (lastD S i.d) i.c) else S.used } := by unfold applyD; rw [if_neg (by decide), if_pos rfl]
    rw [e]
    refine ⟨h1, h2, h3.imp id fun ⟨h4, h5⟩ => ⟨h4, ?_⟩⟩
    show j.c ≤ (if i.o = S.self ∧ i.e = S.epoch then S.used.set i.d.toNat (max (lastD S i.d) i.c) else S.used).getD j.d.toNat 0
    split
    · rw [lastD_set hI.ulen hid.2.1 h2]
      split
      · rename_i e1; rw [e1] at h5; omega
      · exact h5
    · exact h5
  · have e : (applyD S k i l).self = S.self ∧ (applyD S k i l).epoch = S.epoch ∧ (applyD S k i l).used = S.used := by
      unfold applyD; rw [if_neg k1, if_neg k2]; split <;> exact ⟨rfl, rfl, rfl⟩
    obtain ⟨e1, e2, e3⟩ := e
    rw [e1, e2]
    unfold lastD
    rw [e3]
    exact ⟨h1, h2, h3⟩
theorem freshD_ok {d : Int} (h : (freshD S d).2 = 0) : (0 ≤ d ∧ d ≤ 63) ∧ (freshD S d).1 = ⟨S.self, d, S.epoch, lastD S d + 1⟩ := by
  unfold freshD at h ⊢
  repeat' split at h
  all_goals simp_all
theorem IdsInv.new {ids : List IdT} (h : IdsInv ids S) {d : Int} (h0 : (freshD S d).2 = 0) : ∀ j ∈ ids, j ≠ (freshD S d).1 := by
  obtain ⟨hd, e⟩ := freshD_ok h0
  intro j hj hje
  rw [e] at hje
  subst hje
  obtain ⟨_, _, h3⟩ := h _ hj
  dsimp only at h3
  omega
theorem IdsInv.put {ids : List IdT} {set : IdT → Int} (h : IdsInv ids S) (hI : InvS S) {d : Int} (h0 : (freshD S d).2 = 0) {l : List UInt8} (hm : mayD S set 2 (freshD S d).1 l.length = 0) : IdsInv (ids ++ [(freshD S d).1]) (applyD S 2 (freshD S d).1 l) := by
  obtain ⟨hd, e⟩ := freshD_ok h0
  intro j hj
  rcases List.mem_append.1 hj with hj | hj
  · exact h.apply hI hm j hj
  · simp only [List.mem_singleton] at hj
    subst hj
    rw [e]
    have e1 : applyD S 2 ⟨S.self, d, S.epoch, lastD S d + 1⟩ l = { S with l := S.l ++ [⟨⟨S.self, d, S.epoch, lastD S d + 1⟩, l⟩], used := S.used.set d.toNat (max (lastD S d) (lastD S d + 1)) } := by
      unfold applyD; rw [if_neg (by decide), if_pos rfl, if_pos ⟨rfl, rfl⟩]
    rw [e1]
    refine ⟨rfl, hd, .inr ⟨rfl, ?_⟩⟩
    show lastD S d + 1 ≤ (S.used.set d.toNat (max (lastD S d) (lastD S d + 1))).getD d.toNat 0
    rw [lastD_set hI.ulen hd hd, if_pos rfl]
    omega
structure StF where
  i : Nat
  mem : Mem
  B : Mem
  S : StR
  came : Int
  xs : HsT
  es : EsT
  ids : List IdT
  a : Option Addr
  c : Nat
theorem fresh_law (self qh qb qg : Int) {a : Option Addr} {n c : Nat} {l : List EvX} (hl : Elems M 6 a n (EvR M) l) (hn : n ≤ 1048576) (hc : n ≤ c) {da : Option Addr} {dn dc : Nat} {ds : List Int} (hd : SrcOk M 1 da dn (ds.map intV)) :
    CallsM Try.prog F.law15_StoreFresh [.agg #[.int .i64 self, .int .i64 qh, .int .i64 qb, .int .i64 qg], .slice a n c, .slice da dn dc] M fun v M' => v = .bool true ∧ M.le M' := by
  refine fo_law15_StoreFresh (by simp) ?_
  have hdl := hd.maplen
  repeat' ((conv => whnf); first | refine ⟨?_, True.intro⟩ | refine brn_t rfl ?_ | refine brn_f rfl ?_ | refine ob rfl ?_ | refine ob (by decide) ?_ | refine grow_same (Mem.le_refl _) ?_ | refine ob (Mem.le_refl _) ?_ | refine ⟨_, Mem.le_refl _, ?_⟩ | fail)
  refine quota_ok.mono ?_
  rintro v _ ⟨rfl, rfl⟩
  repeat' ((conv => whnf); first | refine ⟨?_, True.intro⟩ | refine brn_t rfl ?_ | refine brn_f rfl ?_ | refine ob rfl ?_ | refine ob (by decide) ?_ | refine grow_same (Mem.le_refl _) ?_ | refine ob (Mem.le_refl _) ?_ | refine ⟨_, Mem.le_refl _, ?_⟩ | fail)
  refine (done_ok self 256 1048576 256 (a := none) (n := 0) (c := 0) (l := []) (Elems.nil _ _ _) (by omega) (by omega)).mono ?_
  rintro v M1 (⟨hg, rfl, rfl⟩ | ⟨hg, B, p, b, sp, sb, S, came, xs, es, L, D, ms, rfl, hMB, hBo, hca, hkn, -, -, -, -, hnew⟩)
  · repeat' ((conv => whnf); first | refine ⟨?_, True.intro⟩ | refine brn_t rfl ?_ | refine brn_f rfl ?_ | refine ob rfl ?_ | refine ob (by decide) ?_ | refine grow_same (Mem.le_refl _) ?_ | refine ob (Mem.le_refl _) ?_ | refine ⟨_, Mem.le_refl _, ?_⟩ | fail)
    refine awake_ok.mono ?_
    rintro v M2 ⟨rfl, hle⟩
    repeat' ((conv => whnf); first | refine ⟨?_, True.intro⟩ | refine brn_t rfl ?_ | refine brn_f rfl ?_ | refine ob rfl ?_ | refine ob (by decide) ?_ | refine grow_same (Mem.le_refl _) ?_ | refine ob (Mem.le_refl _) ?_ | refine ⟨_, Mem.le_refl _, ?_⟩ | fail)
    exact ⟨rfl, hle⟩
  repeat' ((conv => whnf); first | refine ⟨?_, True.intro⟩ | refine brn_t rfl ?_ | refine brn_f rfl ?_ | refine ob rfl ?_ | refine ob (by decide) ?_ | refine grow_same (Mem.le_refl _) ?_ | refine ob (Mem.le_refl _) ?_ | refine ⟨_, Mem.le_refl _, ?_⟩ | fail)
  refine new (fun b9 hb9 => ?_)
  replace hb9 : M1 b9 = none := hb9
  have hle2 : M1.le (M1.setCells b9 T.api_Id []) := Mem.le_setCells hb9
  have hh2 : (M1.setCells b9 T.api_Id []).has b9 T.api_Id [] := Mem.has_setCells
  obtain ⟨M2, hM2⟩ : ∃ M2, M2 = M1.setCells b9 T.api_Id [] := ⟨_, rfl⟩
  rw [← hM2] at hle2 hh2
  (conv => whnf)
  erw [← hM2]
  have h2 := hBo.own.to hle2
  obtain ⟨h2b, hB2⟩ := h2.base
  have hw2 : Wr (M2.minus (stB p b sp sb xs es)) T.api_Id 4 (some ⟨b9, 0, none⟩) 0 0 (([] : List IdT).flatMap idCs) := by
    have hm := hh2.minus (h2.at'.ntype hh2 (by decide) (by decide) (by decide) (by decide) (by decide))
    exact wr_nil hm
  repeat' ((conv => whnf); first | refine ⟨?_, True.intro⟩ | refine brn_t rfl ?_ | refine brn_f rfl ?_ | refine ob rfl ?_ | refine ob (by decide) ?_ | refine grow_same (Mem.le_refl _) ?_ | refine ob (Mem.le_refl _) ?_ | refine ⟨_, Mem.le_refl _, ?_⟩ | fail)
  refine (cutEv_ok hl hn hc M2).mono ?_
  rintro v _ ⟨⟨a1, n1, c1, rfl, hn1, hc1, hnl, hcutM⟩, rfl⟩
  have hS : S = newD self 256 1048576 256 := hnew rfl
  have lo : ∀ {A C : Mem} {y : Nat}, A.le C → C y = none → A y = none := fun {A C y} h hy => by
    cases e : A y with
    | none => rfl
    | some o => rw [h y o e] at hy; cases hy
  have hb9M : ∀ z, blk (some (⟨b9, 0, none⟩ : Addr)) z → M z = none := fun z ⟨q, hq, e⟩ => by
    cases hq; subst e
    exact lo (Mem.le_trans hMB hBo.own.le) hb9
  (conv => whnf)
  refine loopF (σ := StF) [11, 10, 1] (fun y => [(11, .int .i64 y.i), (10, .slice y.a y.ids.length y.c), (1, .slice a1 n1 c1)]) (fun _ => []) (fun y => y.mem)
    (fun y => y.i ≤ 50 ∧ M.le y.B ∧ FreshSt y.B y.mem p b sp sb y.S y.came y.xs y.es ∧ Wr y.B T.api_Id 4 y.a y.ids.length y.c (y.ids.flatMap idCs) ∧ IdsInv y.ids y.S ∧ y.came ≤ 50 + 2 * y.i ∧ y.ids.length ≤ y.i ∧ ∀ z, blk y.a z → M z = none) (fun y => 50 - y.i)
    ⟨0, M2, M2.minus (stB p b sp sb xs es), S, came, xs, es, [], some ⟨b9, 0, none⟩, 0⟩ ⟨by simp, Mem.le_trans hMB hB2, h2b, hw2, by simp [IdsInv], by dsimp only; omega, by simp, hb9M⟩ ⟨(by repeat' first | exact True.intro | refine ⟨rfl, ?_⟩), (by repeat' first | exact True.intro | refine ⟨rfl, ?_⟩), Mem.le_refl _, rfl⟩ ?_
  rintro ⟨i, Mc, B, S, came, xs, es, ids, ia, ic⟩ ⟨hi, hMB, hF, hW, hII, hca, hil, hbM⟩
  dsimp only at hi hMB hF hW hII hca hil hbM
  (conv => whnf); refine brn (fun g => ?_) (fun g => ?_)
  · have hlt : i < n1 := by have := of_decide_eq_true g; dsimp only at this; omega
    (conv => whnf); refine brn_t (decide_eq_true (by dsimp only; omega)) ?_
    obtain ⟨hil2, bb, o, a2, c2, ha, hrow, he, he1, he2⟩ := ev_at hcutM hlt
    generalize (l.take 50)[i] = x at *
    (conv => whnf); refine ob (by first | omega | (dsimp only; omega)) ?_
    (conv => whnf); refine atp ha ?_
    (conv => whnf); refine on (Mem.row_le (Mem.le_trans hMB hF.le) hrow) ?_
    (conv => whnf); refine (Apply15_ok hF x.kind x.id (he.le (Mem.le_trans hMB hF.le)) he1 (by omega)).mono ?_
    rintro v M3 ⟨c3, xs3, es3, rfl, hcc, h3, -⟩
    obtain ⟨S3, hS3⟩ : ∃ S3, S3 = if mayD S (setMay S es) x.kind x.id x.p.length = 0 then applyD S x.kind x.id x.p else S := ⟨_, rfl⟩
    rw [← hS3] at h3
    have hII3 : IdsInv ids S3 := by
      rw [hS3]; split
      · exact hII.apply hF.inv (by assumption)
      · exact hII
    (conv => whnf); refine brn (fun g5 => ?_) (fun g5 => ?_)
    · repeat' ((conv => whnf); first | refine ⟨?_, True.intro⟩ | refine brn_t rfl ?_ | refine brn_f rfl ?_ | refine ob rfl ?_ | refine ob (by decide) ?_ | refine grow_same (Mem.le_refl _) ?_ | refine ob (Mem.le_refl _) ?_ | refine ⟨_, Mem.le_refl _, ?_⟩ | fail)
      refine ob (inR_i64 (by first | omega | (dsimp only; omega))) ?_
      (conv => whnf)
      exact ⟨⟨i + 1, M3, B, S3, c3, xs3, es3, ids, ia, ic⟩, ⟨by dsimp only; omega, hMB, h3, hW, hII3, by dsimp only; omega, by dsimp only; omega, hbM⟩, by dsimp only; omega, ⟨(by repeat' first | exact True.intro | refine ⟨rfl, ?_⟩), (by repeat' first | exact True.intro | refine ⟨rfl, ?_⟩), Mem.le_refl _, rfl⟩⟩
    have hid : i < dn := by have := of_decide_eq_false g5; dsimp only at this; omega
    obtain ⟨hdlt, bd, od, hda, hdrow⟩ := hd.at hid
    generalize ds[i] = d at *
    (conv => whnf); refine ob (by first | omega | (dsimp only; omega)) ?_
    (conv => whnf); refine atp hda ?_
    (conv => whnf); refine on (Mem.row_le (Mem.le_trans hMB h3.le) hdrow) ?_
    (conv => whnf); refine (Fresh_ok h3.at' h3.inv d).mono ?_
    rintro v _ ⟨rfl, rfl⟩
    (conv => whnf); refine brn (fun g6 => ?_) (fun g6 => ?_)
    · repeat' ((conv => whnf); first | refine ⟨?_, True.intro⟩ | refine brn_t rfl ?_ | refine brn_f rfl ?_ | refine ob rfl ?_ | refine ob (by decide) ?_ | refine grow_same (Mem.le_refl _) ?_ | refine ob (Mem.le_refl _) ?_ | refine ⟨_, Mem.le_refl _, ?_⟩ | fail)
      refine ob (inR_i64 (by first | omega | (dsimp only; omega))) ?_
      (conv => whnf)
      exact ⟨⟨i + 1, M3, B, S3, c3, xs3, es3, ids, ia, ic⟩, ⟨by dsimp only; omega, hMB, h3, hW, hII3, by dsimp only; omega, by dsimp only; omega, hbM⟩, by dsimp only; omega, ⟨(by repeat' first | exact True.intro | refine ⟨rfl, ?_⟩), (by repeat' first | exact True.intro | refine ⟨rfl, ?_⟩), Mem.le_refl _, rfl⟩⟩
    have hf0 : (freshD S3 d).2 = 0 := by simpa using g6
    have hnew := hII3.new hf0
    (conv => whnf)
    refine loopQ [14] (fun (j : Nat) => [(14, .int .i64 j)]) (fun j => j ≤ ids.length) (fun j => ids.length - j) 0 (by omega) ⟨(by repeat' first | exact True.intro | refine ⟨rfl, ?_⟩), (by repeat' first | exact True.intro | refine ⟨rfl, ?_⟩), Mem.le_refl _, rfl⟩ ?_
    intro j hj
    (conv => whnf); refine brn (fun g7 => ?_) (fun g7 => ?_)
    · have hjl : j < ids.length := by have := of_decide_eq_true g7; dsimp only at this; omega
      have hx : ids[j]? = some ids[j] := List.getElem?_eq_getElem hjl
      obtain ⟨bi, oi, hia, hirow⟩ := (hW.src.le h3.le).fall idCs_len (by decide) hx
      have hne := hnew ids[j] (List.getElem_mem _)
      generalize ids[j] = y at *
      (conv => whnf); refine ob (by first | omega | (dsimp only; omega)) ?_
      (conv => whnf); refine atp hia ?_
      (conv => whnf); refine on hirow ?_
      (conv => whnf); refine brn_f (by
        obtain ⟨y1, y2, y3, y4⟩ := y
        generalize (freshD S3 d).1 = z at *
        obtain ⟨z1, z2, z3, z4⟩ := z
        simp only [ne_eq, IdT.mk.injEq, not_and] at hne
        simp only [Bool.and_eq_false_iff, decide_eq_false_iff_not]
        omega) ?_
      repeat' ((conv => whnf); first | refine ⟨?_, True.intro⟩ | refine brn_t rfl ?_ | refine brn_f rfl ?_ | refine ob rfl ?_ | refine ob (by decide) ?_ | refine grow_same (Mem.le_refl _) ?_ | refine ob (Mem.le_refl _) ?_ | refine ⟨_, Mem.le_refl _, ?_⟩ | fail)
      refine ob (inR_i64 (by first | omega | (dsimp only; omega))) ?_
      (conv => whnf)
      exact ⟨j + 1, by omega, by omega, ⟨(by repeat' first | exact True.intro | refine ⟨rfl, ?_⟩), (by repeat' first | exact True.intro | refine ⟨rfl, ?_⟩), Mem.le_refl _, rfl⟩⟩
    repeat' ((conv => whnf); first | refine ⟨?_, True.intro⟩ | refine brn_t rfl ?_ | refine brn_f rfl ?_ | refine ob rfl ?_ | refine ob (by decide) ?_ | refine grow_same (Mem.le_refl _) ?_ | refine ob (Mem.le_refl _) ?_ | refine ⟨_, Mem.le_refl _, ?_⟩ | fail)
    refine new (fun b8 hb8 => ?_)
    replace hb8 : M3 b8 = none := hb8
    have hle4 : M3.le (M3.setCells b8 T.uint8 [Value.int .u8 1]) := Mem.le_setCells hb8
    have hs4 : SrcOk (M3.setCells b8 T.uint8 [Value.int .u8 1]) 1 (some ⟨b8, 0, none⟩) 1 ([1].map byteV) := SrcOk.lit rfl
    obtain ⟨M4, hM4⟩ : ∃ M4, M4 = M3.setCells b8 T.uint8 [Value.int .u8 1] := ⟨_, rfl⟩
    rw [← hM4] at hle4 hs4
    (conv => whnf)
    erw [← hM4]
    repeat' ((conv => whnf); first | refine ⟨?_, True.intro⟩ | refine brn_t rfl ?_ | refine brn_f rfl ?_ | refine ob rfl ?_ | refine ob (by decide) ?_ | refine grow_same (Mem.le_refl _) ?_ | refine ob (Mem.le_refl _) ?_ | refine ⟨_, Mem.le_refl _, ?_⟩ | fail)
    refine (Apply15_ok (l := [1]) (h3.to hle4) 2 (freshD S3 d).1 hs4 (by simp) (by omega)).mono ?_
    rintro v M5 ⟨c5, xs5, es5, rfl, hcc5, h5, -⟩
    (conv => whnf); refine brn (fun g8 => ?_) (fun g8 => ?_)
    rotate_left
    · have g9 : ¬ mayD S3 (setMay S3 es3) 2 (freshD S3 d).1 ([1] : List UInt8).length = 0 := by simpa using g8
      rw [if_neg g9] at h5
      repeat' ((conv => whnf); first | refine ⟨?_, True.intro⟩ | refine brn_t rfl ?_ | refine brn_f rfl ?_ | refine ob rfl ?_ | refine ob (by decide) ?_ | refine grow_same (Mem.le_refl _) ?_ | refine ob (Mem.le_refl _) ?_ | refine ⟨_, Mem.le_refl _, ?_⟩ | fail)
      refine ob (inR_i64 (by first | omega | (dsimp only; omega))) ?_
      (conv => whnf)
      exact ⟨⟨i + 1, M5, B, S3, c5, xs5, es5, ids, ia, ic⟩, ⟨by dsimp only; omega, hMB, h5, hW, hII3, by dsimp only; omega, by dsimp only; omega, hbM⟩, by dsimp only; omega, ⟨(by repeat' first | exact True.intro | refine ⟨rfl, ?_⟩), (by repeat' first | exact True.intro | refine ⟨rfl, ?_⟩), Mem.le_refl _, rfl⟩⟩
    have g9 : mayD S3 (setMay S3 es3) 2 (freshD S3 d).1 ([1] : List UInt8).length = 0 := by simpa using g8
    rw [if_pos g9] at h5
    have hII5 := hII3.put h3.inv hf0 g9
    repeat' ((conv => whnf); first | refine ⟨?_, True.intro⟩ | refine brn_t rfl ?_ | refine brn_f rfl ?_ | refine ob rfl ?_ | refine ob (by decide) ?_ | refine grow_same (Mem.le_refl _) ?_ | refine ob (Mem.le_refl _) ?_ | refine ⟨_, Mem.le_refl _, ?_⟩ | fail)
    have hN5 := (wr_new hW).up h5.le
    refine appF _ hN5 (freshD S3 d).1 rfl (by first | omega | (dsimp only; omega)) (by simp [maxLen]; omega) (by simp [Value.oneCell']) fun a6 c6 M6 hN6 hk6 => ?_
    (conv => whnf); refine ob (inR_i64 (by first | omega | (dsimp only; omega))) ?_
    (conv => whnf)
    have hkeep : ∀ y o, stB p b sp sb xs5 es5 y → M5 y = some o → M6 y = some o := fun y o hy ho => hk6 y o (fun ⟨q, hq, e⟩ => by
      obtain ⟨cs, hh⟩ := hW.block hq
      have h1 := h5.fresh y hy
      unfold Mem.has at hh
      rw [e, h1] at hh
      cases hh) ho
    have h6 : FreshSt (M6.minus (stB p b sp sb xs5 es5)) M6 p b sp sb _ c5 xs5 es5 := ⟨Mem.minus_le _ _, h5.at'.mono hkeep, h5.inv, h5.invE, h5.room, fun _ hy => Mem.minus_in hy⟩
    have hW6 : Wr (M6.minus (stB p b sp sb xs5 es5)) T.api_Id 4 a6 (ids.length + 1) c6 ((ids ++ [(freshD S3 d).1]).flatMap idCs) := hN6.wr.mono fun q o hq ho => by
      obtain ⟨cs, hh⟩ := (hN6.block hq).2
      unfold Mem.minus
      rw [if_neg (h6.at'.ntype hh (by decide) (by decide) (by decide) (by decide) (by decide))]; exact ho
    have hMz : M.le (M6.minus (stB p b sp sb xs5 es5)) := fun y o ho => by
      have h1 := hMB y o ho
      have hnb : ¬ blk ia y := fun hy => by rw [hbM y hy] at ho; cases ho
      have hns : ¬ stB p b sp sb xs5 es5 y := fun hy => by rw [h5.fresh y hy] at h1; cases h1
      unfold Mem.minus
      rw [if_neg hns]
      exact hk6 y o hnb (h5.le y o h1)
    refine ⟨⟨i + 1, M6, M6.minus (stB p b sp sb xs5 es5), _, c5, xs5, es5, ids ++ [(freshD S3 d).1], a6, c6⟩, ⟨by dsimp only; omega, hMz, h6, by simpa using hW6, hII5, by dsimp only; omega, by simp; omega, ?_⟩, by dsimp only; omega, ?_⟩
    · intro z ⟨q, hq, e⟩
      subst e
      rcases Mem.minus_none (hN6.block hq).1 with h1 | h1
      · exact hbM _ h1
      · exact lo hMB h1
    · simp only [List.length_append, List.length_cons, List.length_nil]
      exact ⟨(by repeat' first | exact True.intro | refine ⟨rfl, ?_⟩), (by repeat' first | exact True.intro | refine ⟨rfl, ?_⟩), Mem.le_refl _, rfl⟩
  · have hge : ¬ i < n1 := by have := of_decide_eq_false g; dsimp only at this; omega
    (conv => whnf); refine brn (fun g1 => ?_) (fun g1 => ?_)
    · (conv => whnf); refine brn (fun g2 => ?_) (fun g2 => ?_)
      · (conv => whnf); refine brn_f (decide_eq_false (by dsimp only; omega)) ?_
        have hi50 : i < 50 := by have := of_decide_eq_true g2; dsimp only at this; omega
        obtain ⟨M3, rfl⟩ : ∃ M3, M3 = Mc := ⟨_, rfl⟩
        obtain ⟨S3, rfl⟩ : ∃ S3, S3 = S := ⟨_, rfl⟩
        obtain ⟨c3, rfl⟩ : ∃ c3, c3 = came := ⟨_, rfl⟩
        obtain ⟨xs3, rfl⟩ : ∃ xs3, xs3 = xs := ⟨_, rfl⟩
        obtain ⟨es3, rfl⟩ : ∃ es3, es3 = es := ⟨_, rfl⟩
        have h3 := hF
        have hII3 := hII
        (conv => whnf); refine brn (fun g5 => ?_) (fun g5 => ?_)
        · repeat' ((conv => whnf); first | refine ⟨?_, True.intro⟩ | refine brn_t rfl ?_ | refine brn_f rfl ?_ | refine ob rfl ?_ | refine ob (by decide) ?_ | refine grow_same (Mem.le_refl _) ?_ | refine ob (Mem.le_refl _) ?_ | refine ⟨_, Mem.le_refl _, ?_⟩ | fail)
          refine ob (inR_i64 (by first | omega | (dsimp only; omega))) ?_
          (conv => whnf)
          exact ⟨⟨i + 1, M3, B, S3, c3, xs3, es3, ids, ia, ic⟩, ⟨by dsimp only; omega, hMB, h3, hW, hII3, by dsimp only; omega, by dsimp only; omega, hbM⟩, by dsimp only; omega, ⟨(by repeat' first | exact True.intro | refine ⟨rfl, ?_⟩), (by repeat' first | exact True.intro | refine ⟨rfl, ?_⟩), Mem.le_refl _, rfl⟩⟩
        have hid : i < dn := by have := of_decide_eq_false g5; dsimp only at this; omega
        obtain ⟨hdlt, bd, od, hda, hdrow⟩ := hd.at hid
        generalize ds[i] = d at *
        (conv => whnf); refine ob (by first | omega | (dsimp only; omega)) ?_
        (conv => whnf); refine atp hda ?_
        (conv => whnf); refine on (Mem.row_le (Mem.le_trans hMB h3.le) hdrow) ?_
        (conv => whnf); refine (Fresh_ok h3.at' h3.inv d).mono ?_
        rintro v _ ⟨rfl, rfl⟩
        (conv => whnf); refine brn (fun g6 => ?_) (fun g6 => ?_)
        · repeat' ((conv => whnf); first | refine ⟨?_, True.intro⟩ | refine brn_t rfl ?_ | refine brn_f rfl ?_ | refine ob rfl ?_ | refine ob (by decide) ?_ | refine grow_same (Mem.le_refl _) ?_ | refine ob (Mem.le_refl _) ?_ | refine ⟨_, Mem.le_refl _, ?_⟩ | fail)
          refine ob (inR_i64 (by first | omega | (dsimp only; omega))) ?_
          (conv => whnf)
          exact ⟨⟨i + 1, M3, B, S3, c3, xs3, es3, ids, ia, ic⟩, ⟨by dsimp only; omega, hMB, h3, hW, hII3, by dsimp only; omega, by dsimp only; omega, hbM⟩, by dsimp only; omega, ⟨(by repeat' first | exact True.intro | refine ⟨rfl, ?_⟩), (by repeat' first | exact True.intro | refine ⟨rfl, ?_⟩), Mem.le_refl _, rfl⟩⟩
        have hf0 : (freshD S3 d).2 = 0 := by simpa using g6
        have hnew := hII3.new hf0
        (conv => whnf)
        refine loopQ [14] (fun (j : Nat) => [(14, .int .i64 j)]) (fun j => j ≤ ids.length) (fun j => ids.length - j) 0 (by omega) ⟨(by repeat' first | exact True.intro | refine ⟨rfl, ?_⟩), (by repeat' first | exact True.intro | refine ⟨rfl, ?_⟩), Mem.le_refl _, rfl⟩ ?_
        intro j hj
        (conv => whnf); refine brn (fun g7 => ?_) (fun g7 => ?_)
        · have hjl : j < ids.length := by have := of_decide_eq_true g7; dsimp only at this; omega
          have hx : ids[j]? = some ids[j] := List.getElem?_eq_getElem hjl
          obtain ⟨bi, oi, hia, hirow⟩ := (hW.src.le h3.le).fall idCs_len (by decide) hx
          have hne := hnew ids[j] (List.getElem_mem _)
          generalize ids[j] = y at *
          (conv => whnf); refine ob (by first | omega | (dsimp only; omega)) ?_
          (conv => whnf); refine atp hia ?_
          (conv => whnf); refine on hirow ?_
          (conv => whnf); refine brn_f (by
            obtain ⟨y1, y2, y3, y4⟩ := y
            generalize (freshD S3 d).1 = z at *
            obtain ⟨z1, z2, z3, z4⟩ := z
            simp only [ne_eq, IdT.mk.injEq, not_and] at hne
            simp only [Bool.and_eq_false_iff, decide_eq_false_iff_not]
            omega) ?_
          repeat' ((conv => whnf); first | refine ⟨?_, True.intro⟩ | refine brn_t rfl ?_ | refine brn_f rfl ?_ | refine ob rfl ?_ | refine ob (by decide) ?_ | refine grow_same (Mem.le_refl _) ?_ | refine ob (Mem.le_refl _) ?_ | refine ⟨_, Mem.le_refl _, ?_⟩ | fail)
          refine ob (inR_i64 (by first | omega | (dsimp only; omega))) ?_
          (conv => whnf)
          exact ⟨j + 1, by omega, by omega, ⟨(by repeat' first | exact True.intro | refine ⟨rfl, ?_⟩), (by repeat' first | exact True.intro | refine ⟨rfl, ?_⟩), Mem.le_refl _, rfl⟩⟩
        repeat' ((conv => whnf); first | refine ⟨?_, True.intro⟩ | refine brn_t rfl ?_ | refine brn_f rfl ?_ | refine ob rfl ?_ | refine ob (by decide) ?_ | refine grow_same (Mem.le_refl _) ?_ | refine ob (Mem.le_refl _) ?_ | refine ⟨_, Mem.le_refl _, ?_⟩ | fail)
        refine new (fun b8 hb8 => ?_)
        replace hb8 : M3 b8 = none := hb8
        have hle4 : M3.le (M3.setCells b8 T.uint8 [Value.int .u8 1]) := Mem.le_setCells hb8
        have hs4 : SrcOk (M3.setCells b8 T.uint8 [Value.int .u8 1]) 1 (some ⟨b8, 0, none⟩) 1 ([1].map byteV) := SrcOk.lit rfl
        obtain ⟨M4, hM4⟩ : ∃ M4, M4 = M3.setCells b8 T.uint8 [Value.int .u8 1] := ⟨_, rfl⟩
        rw [← hM4] at hle4 hs4
        (conv => whnf)
        erw [← hM4]
        repeat' ((conv => whnf); first | refine ⟨?_, True.intro⟩ | refine brn_t rfl ?_ | refine brn_f rfl ?_ | refine ob rfl ?_ | refine ob (by decide) ?_ | refine grow_same (Mem.le_refl _) ?_ | refine ob (Mem.le_refl _) ?_ | refine ⟨_, Mem.le_refl _, ?_⟩ | fail)
        refine (Apply15_ok (l := [1]) (h3.to hle4) 2 (freshD S3 d).1 hs4 (by simp) (by omega)).mono ?_
        rintro v M5 ⟨c5, xs5, es5, rfl, hcc5, h5, -⟩
        (conv => whnf); refine brn (fun g8 => ?_) (fun g8 => ?_)
        rotate_left
        · have g9 : ¬ mayD S3 (setMay S3 es3) 2 (freshD S3 d).1 ([1] : List UInt8).length = 0 := by simpa using g8
          rw [if_neg g9] at h5
          repeat' ((conv => whnf); first | refine ⟨?_, True.intro⟩ | refine brn_t rfl ?_ | refine brn_f rfl ?_ | refine ob rfl ?_ | refine ob (by decide) ?_ | refine grow_same (Mem.le_refl _) ?_ | refine ob (Mem.le_refl _) ?_ | refine ⟨_, Mem.le_refl _, ?_⟩ | fail)
          refine ob (inR_i64 (by first | omega | (dsimp only; omega))) ?_
          (conv => whnf)
          exact ⟨⟨i + 1, M5, B, S3, c5, xs5, es5, ids, ia, ic⟩, ⟨by dsimp only; omega, hMB, h5, hW, hII3, by dsimp only; omega, by dsimp only; omega, hbM⟩, by dsimp only; omega, ⟨(by repeat' first | exact True.intro | refine ⟨rfl, ?_⟩), (by repeat' first | exact True.intro | refine ⟨rfl, ?_⟩), Mem.le_refl _, rfl⟩⟩
        have g9 : mayD S3 (setMay S3 es3) 2 (freshD S3 d).1 ([1] : List UInt8).length = 0 := by simpa using g8
        rw [if_pos g9] at h5
        have hII5 := hII3.put h3.inv hf0 g9
        repeat' ((conv => whnf); first | refine ⟨?_, True.intro⟩ | refine brn_t rfl ?_ | refine brn_f rfl ?_ | refine ob rfl ?_ | refine ob (by decide) ?_ | refine grow_same (Mem.le_refl _) ?_ | refine ob (Mem.le_refl _) ?_ | refine ⟨_, Mem.le_refl _, ?_⟩ | fail)
        have hN5 := (wr_new hW).up h5.le
        refine appF _ hN5 (freshD S3 d).1 rfl (by first | omega | (dsimp only; omega)) (by simp [maxLen]; omega) (by simp [Value.oneCell']) fun a6 c6 M6 hN6 hk6 => ?_
        (conv => whnf); refine ob (inR_i64 (by first | omega | (dsimp only; omega))) ?_
        (conv => whnf)
        have hkeep : ∀ y o, stB p b sp sb xs5 es5 y → M5 y = some o → M6 y = some o := fun y o hy ho => hk6 y o (fun ⟨q, hq, e⟩ => by
          obtain ⟨cs, hh⟩ := hW.block hq
          have h1 := h5.fresh y hy
          unfold Mem.has at hh
          rw [e, h1] at hh
          cases hh) ho
        have h6 : FreshSt (M6.minus (stB p b sp sb xs5 es5)) M6 p b sp sb _ c5 xs5 es5 := ⟨Mem.minus_le _ _, h5.at'.mono hkeep, h5.inv, h5.invE, h5.room, fun _ hy => Mem.minus_in hy⟩
        have hW6 : Wr (M6.minus (stB p b sp sb xs5 es5)) T.api_Id 4 a6 (ids.length + 1) c6 ((ids ++ [(freshD S3 d).1]).flatMap idCs) := hN6.wr.mono fun q o hq ho => by
          obtain ⟨cs, hh⟩ := (hN6.block hq).2
          unfold Mem.minus
          rw [if_neg (h6.at'.ntype hh (by decide) (by decide) (by decide) (by decide) (by decide))]; exact ho
        have hMz : M.le (M6.minus (stB p b sp sb xs5 es5)) := fun y o ho => by
          have h1 := hMB y o ho
          have hnb : ¬ blk ia y := fun hy => by rw [hbM y hy] at ho; cases ho
          have hns : ¬ stB p b sp sb xs5 es5 y := fun hy => by rw [h5.fresh y hy] at h1; cases h1
          unfold Mem.minus
          rw [if_neg hns]
          exact hk6 y o hnb (h5.le y o h1)
        refine ⟨⟨i + 1, M6, M6.minus (stB p b sp sb xs5 es5), _, c5, xs5, es5, ids ++ [(freshD S3 d).1], a6, c6⟩, ⟨by dsimp only; omega, hMz, h6, by simpa using hW6, hII5, by dsimp only; omega, by simp; omega, ?_⟩, by dsimp only; omega, ?_⟩
        · intro z ⟨q, hq, e⟩
          subst e
          rcases Mem.minus_none (hN6.block hq).1 with h1 | h1
          · exact hbM _ h1
          · exact lo hMB h1
        · simp only [List.length_append, List.length_cons, List.length_nil]
          exact ⟨(by repeat' first | exact True.intro | refine ⟨rfl, ?_⟩), (by repeat' first | exact True.intro | refine ⟨rfl, ?_⟩), Mem.le_refl _, rfl⟩
      · repeat' ((conv => whnf); first | refine ⟨?_, True.intro⟩ | refine brn_t rfl ?_ | refine brn_f rfl ?_ | refine ob rfl ?_ | refine ob (by decide) ?_ | refine grow_same (Mem.le_refl _) ?_ | refine ob (Mem.le_refl _) ?_ | refine ⟨_, Mem.le_refl _, ?_⟩ | fail)
        refine awake_ok.mono ?_
        rintro v M6 ⟨rfl, hle6⟩
        repeat' ((conv => whnf); first | refine ⟨?_, True.intro⟩ | refine brn_t rfl ?_ | refine brn_f rfl ?_ | refine ob rfl ?_ | refine ob (by decide) ?_ | refine grow_same (Mem.le_refl _) ?_ | refine ob (Mem.le_refl _) ?_ | refine ⟨_, Mem.le_refl _, ?_⟩ | fail)
        exact ⟨rfl, Mem.le_trans hMB (Mem.le_trans hF.le hle6)⟩
    · repeat' ((conv => whnf); first | refine ⟨?_, True.intro⟩ | refine brn_t rfl ?_ | refine brn_f rfl ?_ | refine ob rfl ?_ | refine ob (by decide) ?_ | refine grow_same (Mem.le_refl _) ?_ | refine ob (Mem.le_refl _) ?_ | refine ⟨_, Mem.le_refl _, ?_⟩ | fail)
      refine awake_ok.mono ?_
      rintro v M6 ⟨rfl, hle6⟩
      repeat' ((conv => whnf); first | refine ⟨?_, True.intro⟩ | refine brn_t rfl ?_ | refine brn_f rfl ?_ | refine ob rfl ?_ | refine ob (by decide) ?_ | refine grow_same (Mem.le_refl _) ?_ | refine ob (Mem.le_refl _) ?_ | refine ⟨_, Mem.le_refl _, ?_⟩ | fail)
      exact ⟨rfl, Mem.le_trans hMB (Mem.le_trans hF.le hle6)⟩
end Go.Proofs.Ytlocjjponfbhmaa

