/- The store of a state. -/
import Derived.Test.YtlocjjponfbhmaaGreatJoin30
namespace Go.Proofs.YtlocjjponfbhmaaGreat
open Go Go.Vm
attribute [local irreducible] Brn Ob Grow CallsM inR LoopVC Mem.row Mem.cells Mem.setCells Mem.upd Own AppVC SrcVC StrVC NextVC New SrcOk subA NewSl Mem.textAt Mem.mapAt Mem.iterAt entryOf kfind Wr NewEls Elems
set_option maxRecDepth 10000
variable {M : Mem} {self epoch : Int} {ul : NxT} {ms : List MX} {mk : List MkC}
/-- a store that is being made -/
@[reducible] def mkS (self qh qb qg epoch : Int) (u : List Int) (l : List MsgD) : StR := ⟨self, qh, qb, qg, epoch, u, l⟩
theorem Nx.take {me ep : Int} {l : NxT} (h : Nx me ep l) (k : Nat) : Nx me ep (l.take k) :=
  ⟨fun n hn => h.each n (List.mem_of_mem_take hn), h.sort.sublist (List.take_sublist _ _), fun hne => h.some (fun e => hne (by simp [e]))⟩
theorem stCs_put_epoch (S : StR) (b : Nat) (came bytes : Int) (sp : Nat) (v : Int) : splice (stCs S b came bytes sp) 4 [.int .i64 v] = stCs { S with epoch := v } b came bytes sp := by simp [splice, stCs]
theorem stCs_put_qh (S : StR) (b : Nat) (came bytes : Int) (sp : Nat) (v : Int) : splice (stCs S b came bytes sp) 1 [.int .i64 v] = stCs { S with qh := v } b came bytes sp := by simp [splice, stCs]
theorem stCs_put_qb (S : StR) (b : Nat) (came bytes : Int) (sp : Nat) (v : Int) : splice (stCs S b came bytes sp) 2 [.int .i64 v] = stCs { S with qb := v } b came bytes sp := by simp [splice, stCs]
theorem stCs_put_q (S : StR) (b : Nat) (came bytes : Int) (sp : Nat) (x y z : Int) : splice (stCs S b came bytes sp) 1 [.int .i64 x, .int .i64 y, .int .i64 z] = stCs { S with qh := x, qb := y, qg := z } b came bytes sp := by simp [splice, stCs]
theorem stCs_put_set {S : StR} (hu : S.used.length = 64) (b : Nat) (came bytes : Int) (sp sp' : Nat) : splice (stCs S b came bytes sp) 72 [ptr sp'] = stCs S b came bytes sp' := by
  have e : ∀ w, stCs S b came bytes w = ([.int .i64 S.self, .int .i64 S.qh, .int .i64 S.qb, .int .i64 S.qg, .int .i64 S.epoch] ++ S.used.map intV ++ [.map (some b), .int .i64 came, .int .i64 bytes]) ++ ptr w :: [] := fun w => by simp [stCs]
  rw [e, e, splice1 (by simp [hu])]
theorem bytesD_few : ∀ {l : List MsgD}, (∀ m ∈ l, m.p.length ≤ 48) → bytesD l ≤ 48 * l.length
  | [], _ => by simp [bytesD]
  | x :: r, h => by
    have ih := bytesD_few (l := r) fun m hm => h m (by simp [hm])
    have hx := h x (by simp)
    simp only [bytesD, List.map_cons, List.sum_cons, List.length_cons] at ih ⊢
    omega
theorem mayD_hold {S : StR} {set : IdT → Int} {i : IdT} {n : Nat} (h1 : msgErrD i n = 0) (h2 : i.d ≠ S.self) (h3 : ¬ (i.o = S.self ∧ S.epoch < i.e)) (h4 : hasD S.l i = false) (h5 : (S.l.length : Int) < S.qh) (h6 : (bytesD S.l : Int) + n ≤ S.qb) : mayD S set 2 i n = 0 := by
  have hf : formD 2 i n = 0 := by unfold formD; rw [if_neg (by decide), if_pos rfl]; exact h1
  unfold mayD
  rw [if_neg (by simp [hf]), if_neg (by decide), if_pos rfl, if_neg (by omega), h4, if_neg (by decide), if_neg (by omega)]
theorem applyD_hold (self qh qb qg epoch : Int) (u : List Int) (l : List MsgD) (m : MsgD) : applyD (mkS self qh qb qg epoch (usedH self epoch u l) l) 2 m.id m.p = mkS self qh qb qg epoch (usedH self epoch u (l ++ [m])) (l ++ [m]) := by
  unfold applyD
  rw [if_neg (by decide), if_pos rfl, usedH_snoc]
  rfl
theorem take_hold {self epoch : Int} {ul : NxT} {hs : List MsgD} (h : HoldsP self epoch ul hs) {k : Nat} (hk : k < hs.length) : hasD (hs.take k) hs[k].id = false := by
  rw [← Bool.not_eq_true, hasD_iff]
  intro hm
  have h2 := h.2
  have hsplit : hs = hs.take k ++ hs[k] :: hs.drop (k + 1) := by conv => lhs; rw [← List.take_append_drop k hs, List.drop_eq_getElem_cons hk]
  rw [hsplit, List.map_append, List.nodup_append] at h2
  exact h2.2.2 _ hm hs[k].id (List.mem_map.2 ⟨hs[k], List.mem_cons_self .., rfl⟩) rfl
theorem stCs_row2 {p b sp sb : Nat} {S : StR} {came : Int} {xs : HsT} {es : EsT} (hA : StAt M p b sp sb S came xs es) (hu : S.used.length = 64) : M.row p 5 64 = some (vs64 (fun i => S.used.getD i 0)) := by
  rw [hA.self.row (by rw [stCs_len hu]; omega), ← used64 hu]
  congr 1
  unfold stCs
  rw [List.append_assoc, List.drop_append]
  simp [hu]
theorem all64 {u w : List Int} (hu : u.length = 64) (hw : w.length = 64) : (List.range 64).all (fun i => decide (u.getD i 0 = w.getD i 0)) = true ↔ u = w := by
  rw [List.all_eq_true]
  constructor
  · intro h
    apply List.ext_getElem (by omega)
    intro i h1 h2
    have := of_decide_eq_true (h i (List.mem_range.2 (by omega)))
    rw [List.getD_eq_getElem?_getD, List.getD_eq_getElem?_getD, List.getElem?_eq_getElem h1, List.getElem?_eq_getElem h2] at this
    exact this
  · rintro rfl i _
    exact decide_eq_true rfl
theorem usedH_len (self epoch : Int) : ∀ (hs : List MsgD) (u : List Int), (usedH self epoch u hs).length = u.length
  | [], _ => rfl
  | x :: r, u => by
    have e : usedH self epoch u (x :: r) = usedH self epoch (if x.id.o = self ∧ x.id.e = epoch then u.set x.id.d.toNat (max (u.getD x.id.d.toNat 0) x.id.c) else u) r := rfl
    rw [e, usedH_len self epoch r]
    split <;> simp
/-- the counters stay just if the messages are right -/
theorem holds_iff {self epoch : Int} {ul : NxT} {hs : List MsgD} (hN : Nx self epoch ul) (hI : ∀ m ∈ hs, msgErrD m.id m.p.length = 0 ∧ m.id.d ≠ self ∧ (m.id.o = self → m.id.e ≤ epoch)) (hn : (hs.map (·.id)).Nodup) : HoldsP self epoch ul hs ↔ usedH self epoch (arrU ul) hs = arrU ul := by
  have hd : ∀ m ∈ hs, 0 ≤ m.id.d ∧ m.id.d.toNat < (arrU ul).length := fun m hm => by
    have := idErr_all (msgErr_zero (hI m hm).1).1
    rw [arrU_len]; omega
  constructor
  · intro h
    refine usedH_same hs _ fun m hm hc => ⟨(hd m hm).2, ?_⟩
    rw [← lastN_arrU hN (hd m hm).1]
    rcases (h.1 m hm).2.2 hc.1 with h1 | h1
    · omega
    · exact h1.2
  · intro h
    refine ⟨fun m hm => ⟨(hI m hm).1, (hI m hm).2.1, fun ho => ?_⟩, hn⟩
    have h1 := (hI m hm).2.2 ho
    by_cases he : m.id.e = epoch
    · refine .inr ⟨he, ?_⟩
      have := (usedH_ge hs (arrU ul) (fun m hm _ => (hd m hm).2)).2 m hm ⟨ho, he⟩
      rw [h] at this
      rw [lastN_arrU hN (hd m hm).1]; exact this
    · exact .inl (by omega)
/-- the store of a state, or why there is none -/
def FromOut (qh qb qg self epoch : Int) (ul : NxT) (hs : List MsgD) (mks : List Mk) (M : Mem) (v : Value) (M' : Mem) : Prop :=
  ∃ e, CheckS qh qb qg self epoch ul hs mks e ∧ ((e ≠ 0 ∧ v = .tuple #[.pointer none, .int .i64 e] ∧ M.le M') ∨
    (e = 0 ∧ ∃ p b sp sb came xs es, v = .tuple #[ptr p, .int .i64 0] ∧ FreshSt M M' p b sp sb (mkS self qh qb qg epoch (arrU ul) hs) came xs es ∧ came ≤ hs.length ∧ es.map mkOf = mks))
theorem From15_ok (qh qb qg : Int) {ua ha ma : Option Addr} {un uc hn hc mn mc : Nat} (h : StatR M ua un ha hn ma mn ul ms mk) (hB : BigS ms mk un hn hc mn) :
    CallsM Tryz.prog F.store_From [.agg #[.int .i64 qh, .int .i64 qb, .int .i64 qg], statV self epoch ua un uc ha hn hc ma mn mc] M (FromOut qh qb qg self epoch ul (ms.map MX.msg) (mk.map MkC.mk') M) := by
  refine fo_store_From (by simp) ?_
  have hb1 := hB.b1
  have hb2 := hB.b2
  have hb4 := hB.b4
  have hhl := h.held.len
  have hml := h.seen.len
  have hul := h.used.flen encN_len (by decide)
  repeat' ((conv => whnf); first | refine ⟨?_, True.intro⟩ | refine brn_t rfl ?_ | refine brn_f rfl ?_ | refine ob rfl ?_ | refine ob (by decide) ?_ | refine grow_same (Mem.le_refl _) ?_ | refine ob (Mem.le_refl _) ?_ | refine ⟨_, Mem.le_refl _, ?_⟩ | fail)
  refine (New15_ok self qh qb qg).mono ?_
  rintro v M1 (⟨hg, rfl, rfl⟩ | ⟨hg, p, b, sp, sb, rfl, h1⟩)
  · repeat' ((conv => whnf); first | refine ⟨?_, True.intro⟩ | refine brn_t rfl ?_ | refine brn_f rfl ?_ | refine ob rfl ?_ | refine ob (by decide) ?_ | refine grow_same (Mem.le_refl _) ?_ | refine ob (Mem.le_refl _) ?_ | refine ⟨_, Mem.le_refl _, ?_⟩ | fail)
    exact ⟨1, .inl ⟨hg, rfl⟩, .inl ⟨by decide, rfl, Mem.le_refl _⟩⟩
  have bad : ∀ {M' : Mem}, M.le M' → ¬ FormS self epoch ul (ms.map MX.msg) (mk.map MkC.mk') → FromOut qh qb qg self epoch ul (ms.map MX.msg) (mk.map MkC.mk') M (.tuple #[.pointer none, .int .i64 2]) M' := fun hle hh => ⟨2, .inr (.inl ⟨hg, hh, rfl⟩), .inl ⟨by decide, rfl, hle⟩⟩
  repeat' ((conv => whnf); first | refine ⟨?_, True.intro⟩ | refine brn_t rfl ?_ | refine brn_f rfl ?_ | refine ob rfl ?_ | refine ob (by decide) ?_ | refine grow_same (Mem.le_refl _) ?_ | refine ob (Mem.le_refl _) ?_ | refine ⟨_, Mem.le_refl _, ?_⟩ | fail)
  refine (nexts_ok (h.used.le h1.le) (by omega)).mono ?_
  rintro v _ ⟨bn, rfl, hbn, rfl⟩
  (conv => whnf); refine brn (fun g1 => ?_) (fun g1 => ?_)
  · have e1 : bn = false := by simpa using g1
    repeat' ((conv => whnf); first | refine ⟨?_, True.intro⟩ | refine brn_t rfl ?_ | refine brn_f rfl ?_ | refine ob rfl ?_ | refine ob (by decide) ?_ | refine grow_same (Mem.le_refl _) ?_ | refine ob (Mem.le_refl _) ?_ | refine ⟨_, Mem.le_refl _, ?_⟩ | fail)
    exact bad h1.le (fun hF => by have := hbn.2 hF.1; rw [e1] at this; cases this)
  have hN := hbn.1 (by simpa using g1)
  have hep := hN.2
  have hsf := h1.inv.self
  -- the epoch
  repeat' ((conv => whnf); first | refine ⟨?_, True.intro⟩ | refine brn_t rfl ?_ | refine brn_f rfl ?_ | refine ob rfl ?_ | refine ob (by decide) ?_ | refine grow_same (Mem.le_refl _) ?_ | refine ob (Mem.le_refl _) ?_ | refine ⟨_, Mem.le_refl _, ?_⟩ | fail)
  refine on h1.at'.self.cells ?_
  (conv => whnf); refine ob (by dsimp only; rw [stCs_len h1.inv.ulen]; omega) ?_
  have hs2 : (M1.setCells p T.store_Store (splice (stCs (newD self qh qb qg) b 0 (bytesD (newD self qh qb qg).l) sp) 4 [.int .i64 epoch])).has p T.store_Store (stCs (mkS self qh qb qg epoch (arrU []) []) b 0 0 sp) := by
    rw [stCs_put_epoch]; exact Mem.has_setCells
  have hk2 : Mem.keep (fun y => y = p) M1 (M1.setCells p T.store_Store (splice (stCs (newD self qh qb qg) b 0 (bytesD (newD self qh qb qg).l) sp) 4 [.int .i64 epoch])) := keepS rfl
  obtain ⟨M2, hM2⟩ : ∃ M2, M2 = M1.setCells p T.store_Store (splice (stCs (newD self qh qb qg) b 0 (bytesD (newD self qh qb qg).l) sp) 4 [.int .i64 epoch]) := ⟨_, rfl⟩
  rw [← hM2] at hs2 hk2
  have invU : ∀ k, InvS (mkS self qh qb qg epoch (arrU (ul.take k)) []) := fun k => ⟨hsf, hep, arrU_len _, fun n hn => arrU_mem (hN.1.take k) n hn, h1.inv.qh, h1.inv.qb, by simp, by simp⟩
  have h2 : FreshSt M M2 p b sp sb (mkS self qh qb qg epoch (arrU (ul.take 0)) []) 0 [] [] := by
    refine ⟨hk2.le h1.le fun y hy => h1.fresh y (.inl hy), h1.at'.head (S' := mkS self qh qb qg epoch (arrU []) []) hk2 hs2 rfl rfl (Int.le_refl _), invU 0, h1.invE, h1.room, h1.fresh⟩
  (conv => whnf)
  erw [← hM2]
  (conv => whnf)
  refine loopF (σ := Nat × Mem) [37] (fun y => [(37, .int .i64 y.1)]) (fun _ => [.live T.api_Quota [.v (.int .i64 qh), .v (.int .i64 qb), .v (.int .i64 qg)], .live T.api_State [.v (.int .i64 self), .v (.int .i64 epoch), .v (.slice ua un uc), .v (.slice ha hn hc), .v (.slice ma mn mc)]]) (fun y => y.2)
    (fun | ⟨i, Mx⟩ => i ≤ un ∧ FreshSt M Mx p b sp sb (mkS self qh qb qg epoch (arrU (ul.take i)) []) 0 [] []) (fun y => un - y.1) ⟨0, M2⟩ ⟨by omega, h2⟩ ⟨(by repeat' first | exact True.intro | refine ⟨rfl, ?_⟩), (by repeat' first | exact True.intro | refine ⟨rfl, ?_⟩), Mem.le_refl _, rfl⟩ ?_
  rintro ⟨i, Mx⟩ ⟨hi, hx⟩
  (conv => whnf); refine brn (fun g2 => ?_) (fun g2 => ?_)
  · have hlt : i < ul.length := by have := of_decide_eq_true g2; dsimp only at this; omega
    have hxx : ul[i]? = some ul[i] := List.getElem?_eq_getElem hlt
    obtain ⟨bx, ox, ha1, hc1⟩ := (h.used.le hx.le).fparts encN_len (by decide) hxx
    have htk : ul.take (i + 1) = ul.take i ++ [ul[i]] := by rw [List.take_add_one, hxx]; rfl
    have hen := hN.1.each ul[i] (List.getElem_mem _)
    generalize ul[i] = n at *
    (conv => whnf); refine ob (by first | omega | (dsimp only; omega)) ?_
    (conv => whnf); refine atp ha1 ?_
    (conv => whnf); refine on (hc1 0 2 (by decide)) ?_
    repeat' ((conv => whnf); first | refine ⟨?_, True.intro⟩ | refine brn_t rfl ?_ | refine brn_f rfl ?_ | refine ob rfl ?_ | refine ob (by decide) ?_ | refine grow_same (Mem.le_refl _) ?_ | refine ob (Mem.le_refl _) ?_ | refine ⟨_, Mem.le_refl _, ?_⟩ | fail)
    refine ob (by omega) ?_
    repeat' ((conv => whnf); first | refine ⟨?_, True.intro⟩ | refine brn_t rfl ?_ | refine brn_f rfl ?_ | refine ob rfl ?_ | refine ob (by decide) ?_ | refine grow_same (Mem.le_refl _) ?_ | refine ob (Mem.le_refl _) ?_ | refine ⟨_, Mem.le_refl _, ?_⟩ | fail)
    refine on hx.at'.self.cells ?_
    (conv => whnf); refine ob (by dsimp only; rw [stCs_len hx.inv.ulen]; omega) ?_
    have hputu : splice (stCs (mkS self qh qb qg epoch (arrU (ul.take i)) []) b 0 (bytesD []) sp) (0 + 0 + 5 + n.1.toNat * 1) [.int .i64 n.2] = stCs (mkS self qh qb qg epoch (arrU (ul.take (i + 1))) []) b 0 (bytesD []) sp := by
      rw [show 0 + 0 + 5 + n.1.toNat * 1 = 5 + n.1.toNat by omega, stCs_put_used (arrU_len _) _ _ _ (by omega), htk, arrU_snoc]
    have hs3 : (Mx.setCells p T.store_Store (splice (stCs (mkS self qh qb qg epoch (arrU (ul.take i)) []) b 0 (bytesD []) sp) (0 + 0 + 5 + n.1.toNat * 1) [.int .i64 n.2])).has p T.store_Store (stCs (mkS self qh qb qg epoch (arrU (ul.take (i + 1))) []) b 0 (bytesD []) sp) := by
      rw [← hputu]; exact Mem.has_setCells
    repeat' ((conv => whnf); first | refine ⟨?_, True.intro⟩ | refine brn_t rfl ?_ | refine brn_f rfl ?_ | refine ob rfl ?_ | refine ob (by decide) ?_ | refine grow_same (Mem.le_refl _) ?_ | refine ob (Mem.le_refl _) ?_ | refine ⟨_, Mem.le_refl _, ?_⟩ | fail)
    refine ob (inR_i64 (by first | omega | (dsimp only; omega))) ?_
    (conv => whnf)
    refine ⟨⟨i + 1, _⟩, ⟨by omega, ?_⟩, by dsimp only; omega, ⟨(by repeat' first | exact True.intro | refine ⟨rfl, ?_⟩), (by repeat' first | exact True.intro | refine ⟨rfl, ?_⟩), Mem.le_refl _, rfl⟩⟩
    exact ⟨(keepS (X := fun y => y = p) rfl).le hx.le fun y hy => hx.fresh y (.inl hy), hx.at'.head (S' := mkS self qh qb qg epoch (arrU (ul.take (i + 1))) []) (keepS rfl) hs3 rfl rfl (Int.le_refl _), invU _, hx.invE, hx.room, hx.fresh⟩
  have hge : un ≤ i := by have := of_decide_eq_false g2; dsimp only at this; omega
  rw [List.take_of_length_le (by omega)] at hx
  have hrow := stCs_row hx.at' hx.inv
  repeat' ((conv => whnf); first | refine ⟨?_, True.intro⟩ | refine brn_t rfl ?_ | refine brn_f rfl ?_ | refine ob rfl ?_ | refine ob (by decide) ?_ | refine grow_same (Mem.le_refl _) ?_ | refine ob (Mem.le_refl _) ?_ | refine ⟨_, Mem.le_refl _, ?_⟩ | fail)
  refine on hrow ?_
  repeat' ((conv => whnf); first | refine ⟨?_, True.intro⟩ | refine brn_t rfl ?_ | refine brn_f rfl ?_ | refine ob rfl ?_ | refine ob (by decide) ?_ | refine grow_same (Mem.le_refl _) ?_ | refine ob (Mem.le_refl _) ?_ | fail)
  refine ⟨Mx.minus (fun y => y = p), Mem.minus_le _ _, ?_⟩
  repeat' ((conv => whnf); first | refine ⟨?_, True.intro⟩ | refine brn_t rfl ?_ | refine brn_f rfl ?_ | refine ob rfl ?_ | refine ob (by decide) ?_ | refine grow_same (Mem.le_refl _) ?_ | refine ob (Mem.le_refl _) ?_ | fail)
  refine ob (inR_i64 (by first | omega | (dsimp only; omega))) ?_
  repeat' ((conv => whnf); first | refine ⟨?_, True.intro⟩ | refine brn_t rfl ?_ | refine brn_f rfl ?_ | refine ob rfl ?_ | refine ob (by decide) ?_ | refine grow_same (Mem.le_refl _) ?_ | refine ob (Mem.le_refl _) ?_ | fail)
  refine on hx.at'.self.cells ?_
  (conv => whnf); refine ob (by dsimp only; rw [stCs_len hx.inv.ulen]; omega) ?_
  have hs4 : (Mx.setCells p T.store_Store (splice (stCs (mkS self qh qb qg epoch (arrU ul) []) b 0 (bytesD []) sp) (0 + 0 + 1 + 0) [.int .i64 hn])).has p T.store_Store (stCs (mkS self hn qb qg epoch (arrU ul) []) b 0 0 sp) := by
    rw [show 0 + 0 + 1 + 0 = 1 from rfl, stCs_put_qh]; exact Mem.has_setCells
  have hk4 : Mem.keep (fun y => y = p) Mx (Mx.setCells p T.store_Store (splice (stCs (mkS self qh qb qg epoch (arrU ul) []) b 0 (bytesD []) sp) (0 + 0 + 1 + 0) [.int .i64 hn])) := keepS rfl
  obtain ⟨M4, hM4⟩ : ∃ M4, M4 = Mx.setCells p T.store_Store (splice (stCs (mkS self qh qb qg epoch (arrU ul) []) b 0 (bytesD []) sp) (0 + 0 + 1 + 0) [.int .i64 hn]) := ⟨_, rfl⟩
  rw [← hM4] at hs4 hk4
  have hm4 : (Mx.minus (fun y => y = p)).le M4 := fun y o ho => by
    unfold Mem.minus at ho
    split at ho
    · cases ho
    · exact hk4 y o (by assumption) ho
  (conv => whnf)
  erw [← hM4]
  repeat' ((conv => whnf); first | refine ob rfl ?_ | refine grow_same hm4 ?_ | refine ob hm4 ?_ | refine ⟨?_, True.intro⟩ | fail)
  repeat' ((conv => whnf); first | refine ⟨?_, True.intro⟩ | refine brn_t rfl ?_ | refine brn_f rfl ?_ | refine ob rfl ?_ | refine ob (by decide) ?_ | refine grow_same (Mem.le_refl _) ?_ | refine ob (Mem.le_refl _) ?_ | fail)
  refine on hs4.cells ?_
  (conv => whnf); refine ob (by dsimp only; rw [stCs_len (S := mkS self hn qb qg epoch (arrU ul) []) (arrU_len ul)]; omega) ?_
  have hs5 : (M4.setCells p T.store_Store (splice (stCs (mkS self hn qb qg epoch (arrU ul) []) b 0 0 sp) (0 + 0 + 1 + 1) [.int .i64 (48 * hn)])).has p T.store_Store (stCs (mkS self hn (48 * hn) qg epoch (arrU ul) []) b 0 0 sp) := by
    rw [show 0 + 0 + 1 + 1 = 2 from rfl, stCs_put_qb]; exact Mem.has_setCells
  have hk5 : Mem.keep (fun y => y = p) Mx (M4.setCells p T.store_Store (splice (stCs (mkS self hn qb qg epoch (arrU ul) []) b 0 0 sp) (0 + 0 + 1 + 1) [.int .i64 (48 * hn)])) := Mem.keep_trans hk4 (keepS rfl)
  obtain ⟨M5, hM5⟩ : ∃ M5, M5 = M4.setCells p T.store_Store (splice (stCs (mkS self hn qb qg epoch (arrU ul) []) b 0 0 sp) (0 + 0 + 1 + 1) [.int .i64 (48 * hn)]) := ⟨_, rfl⟩
  rw [← hM5] at hs5 hk5
  (conv => whnf)
  erw [← hM5]
  have h5 : FreshSt M M5 p b sp sb (mkS self hn (48 * hn) qg epoch (arrU ul) []) 0 [] [] := by
    refine ⟨hk5.le hx.le fun y hy => hx.fresh y (.inl hy), hx.at'.head (S' := mkS self hn (48 * hn) qg epoch (arrU ul) []) hk5 hs5 rfl rfl (Int.le_refl _), ?_, hx.invE, hx.room, hx.fresh⟩
    have hi2 := hx.inv
    exact ⟨hi2.self, hi2.epoch, hi2.ulen, hi2.used, by dsimp only; simp; omega, by dsimp only; simp [bytesD]; omega, by simp, by simp⟩
  obtain ⟨hs, hhs⟩ : ∃ hs, hs = ms.map MX.msg := ⟨_, rfl⟩
  have hsl : hs.length = hn := by rw [hhs, List.length_map]; exact hhl
  rw [← hhs] at bad ⊢
  repeat' ((conv => whnf); first | refine ⟨?_, True.intro⟩ | refine brn_t rfl ?_ | refine brn_f rfl ?_ | refine ob rfl ?_ | refine ob (by decide) ?_ | refine grow_same (Mem.le_refl _) ?_ | refine ob (Mem.le_refl _) ?_ | refine ⟨_, Mem.le_refl _, ?_⟩ | fail)
  refine loopF (σ := Nat × Mem × Int × HsT) [72] (fun y => [(72, .int .i64 y.1)]) (fun _ => [.live T.api_Quota [.v (.int .i64 qh), .v (.int .i64 qb), .v (.int .i64 qg)], .live T.api_State [.v (.int .i64 self), .v (.int .i64 epoch), .v (.slice ua un uc), .v (.slice ha hn hc), .v (.slice ma mn mc)], .live T.a64_int (cs64 fun i => (arrU ul).getD i 0)]) (fun y => y.2.1)
    (fun | ⟨k, My, came, xs⟩ => k ≤ hn ∧ FreshSt M My p b sp sb (mkS self hn (48 * hn) qg epoch (usedH self epoch (arrU ul) (hs.take k)) (hs.take k)) came xs [] ∧ came ≤ k) (fun y => hn - y.1) ⟨0, M5, 0, []⟩ ⟨by omega, h5, by simp⟩ ⟨(by repeat' first | exact True.intro | refine ⟨rfl, ?_⟩), (by repeat' first | exact True.intro | refine ⟨rfl, ?_⟩), Mem.le_refl _, rfl⟩ ?_
  rintro ⟨k, My, came, xs⟩ ⟨hk, hy, hcame⟩
  (conv => whnf); refine brn (fun g3 => ?_) (fun g3 => ?_)
  · have hlt : k < hs.length := by have := of_decide_eq_true g3; dsimp only at this; omega
    have hxx : ms[k]? = some ms[k] := List.getElem?_eq_getElem (by omega)
    have hmk : hs[k] = ms[k].msg := by simp [hhs]
    obtain ⟨bx, ox, ha1, hc1⟩ := (h.held.row.le hy.le).fparts encX_len (by decide) hxx
    have hd := (h.held.data ms[k] (List.getElem_mem _)).le hy.le
    have hdl := hB.msgs ms[k] (List.getElem_mem _)
    have htk : hs.take (k + 1) = hs.take k ++ [hs[k]] := by rw [List.take_add_one, List.getElem?_eq_getElem hlt]; rfl
    have hlk : (hs.take k).length = k := by simp; omega
    have h48 : bytesD (hs.take k) ≤ 48 * k := by
      have := bytesD_few (l := hs.take k) (fun m hm => (msgErr_zero (hy.inv.msgs m hm).1).2.2)
      omega
    have hno : mayD (mkS self hn (48 * hn) qg epoch (usedH self epoch (arrU ul) (hs.take k)) (hs.take k)) (setMay (mkS self hn (48 * hn) qg epoch (usedH self epoch (arrU ul) (hs.take k)) (hs.take k)) []) 2 ms[k].id ms[k].p.length ≠ 0 → ¬ HoldsP self epoch ul hs := fun hne hH => hne (by
      have hok := hH.1 hs[k] (List.getElem_mem _)
      have htake := take_hold hH hlt
      rw [hmk] at hok htake
      obtain ⟨o1, o2, o3⟩ := hok
      have h48' : ms[k].p.length ≤ 48 := (msgErr_zero o1).2.2
      have o3' : ms[k].id.o = self → ms[k].id.e < epoch ∨ (ms[k].id.e = epoch ∧ ms[k].id.c ≤ lastN ul ms[k].id.d) := o3
      refine mayD_hold o1 o2 (fun ⟨q1, q2⟩ => ?_) htake (by dsimp only; omega) (by dsimp only; omega)
      have q2' : epoch < ms[k].id.e := q2
      rcases o3' q1 with h | h
      · omega
      · omega)
    generalize ms[k] = m at *
    (conv => whnf); refine ob (by first | omega | (dsimp only; omega)) ?_
    (conv => whnf); refine atp ha1 ?_
    (conv => whnf); refine on (hc1 0 5 (by decide)) ?_
    repeat' ((conv => whnf); first | refine ⟨?_, True.intro⟩ | refine brn_t rfl ?_ | refine brn_f rfl ?_ | refine ob rfl ?_ | refine ob (by decide) ?_ | refine grow_same (Mem.le_refl _) ?_ | refine ob (Mem.le_refl _) ?_ | refine ⟨_, Mem.le_refl _, ?_⟩ | fail)
    refine (Apply15_ok hy 2 m.id hd hdl (by omega)).mono ?_
    rintro v M6 ⟨came6, xs6, es6, rfl, hcc6, h6, hst6⟩
    rw [if_neg (by omega)] at hst6
    subst hst6
    (conv => whnf); refine brn (fun g4 => ?_) (fun g4 => ?_)
    · repeat' ((conv => whnf); first | refine ⟨?_, True.intro⟩ | refine brn_t rfl ?_ | refine brn_f rfl ?_ | refine ob rfl ?_ | refine ob (by decide) ?_ | refine grow_same (Mem.le_refl _) ?_ | refine ob (Mem.le_refl _) ?_ | refine ⟨_, Mem.le_refl _, ?_⟩ | fail)
      exact bad h6.le (fun hF => hno (by simpa using g4) hF.2.1)
    · rw [if_pos (by simpa using g4), show m.id = m.msg.id from rfl, show m.p = m.msg.p from rfl, applyD_hold, ← hmk, ← htk] at h6
      repeat' ((conv => whnf); first | refine ⟨?_, True.intro⟩ | refine brn_t rfl ?_ | refine brn_f rfl ?_ | refine ob rfl ?_ | refine ob (by decide) ?_ | refine grow_same (Mem.le_refl _) ?_ | refine ob (Mem.le_refl _) ?_ | refine ⟨_, Mem.le_refl _, ?_⟩ | fail)
      refine ob (inR_i64 (by first | omega | (dsimp only; omega))) ?_
      (conv => whnf)
      exact ⟨⟨k + 1, M6, came6, xs6⟩, ⟨by omega, h6, by omega⟩, by dsimp only; omega, ⟨(by repeat' first | exact True.intro | refine ⟨rfl, ?_⟩), (by repeat' first | exact True.intro | refine ⟨rfl, ?_⟩), Mem.le_refl _, rfl⟩⟩
  have hge3 : hn ≤ k := by have := of_decide_eq_false g3; dsimp only at this; omega
  rw [List.take_of_length_le (by omega)] at hy
  obtain ⟨uH, huH⟩ : ∃ uH, uH = usedH self epoch (arrU ul) hs := ⟨_, rfl⟩
  have huHl : uH.length = 64 := by rw [huH, usedH_len, arrU_len]
  have hiff := holds_iff (hs := hs) hN.1 hy.inv.msgs hy.inv.nodup
  rw [← huH] at hy hiff
  repeat' ((conv => whnf); first | refine ⟨?_, True.intro⟩ | refine brn_t rfl ?_ | refine brn_f rfl ?_ | refine ob rfl ?_ | refine ob (by decide) ?_ | refine grow_same (Mem.le_refl _) ?_ | refine ob (Mem.le_refl _) ?_ | refine ⟨_, Mem.le_refl _, ?_⟩ | fail)
  refine on hy.at'.self.cells ?_
  (conv => whnf); refine ob (by dsimp only; rw [stCs_len (S := mkS self hn (48 * hn) qg epoch uH hs) huHl]; omega) ?_
  have hs7 : (My.setCells p T.store_Store (splice (stCs (mkS self hn (48 * hn) qg epoch uH hs) b came (bytesD hs) sp) (0 + 0 + 1) [.int .i64 qh, .int .i64 qb, .int .i64 qg])).has p T.store_Store (stCs (mkS self qh qb qg epoch uH hs) b came (bytesD hs) sp) := by
    rw [show 0 + 0 + 1 = 1 from rfl, stCs_put_q]; exact Mem.has_setCells
  have hk7 : Mem.keep (fun y => y = p) My (My.setCells p T.store_Store (splice (stCs (mkS self hn (48 * hn) qg epoch uH hs) b came (bytesD hs) sp) (0 + 0 + 1) [.int .i64 qh, .int .i64 qb, .int .i64 qg])) := keepS rfl
  obtain ⟨M7, hM7⟩ : ∃ M7, M7 = My.setCells p T.store_Store (splice (stCs (mkS self hn (48 * hn) qg epoch uH hs) b came (bytesD hs) sp) (0 + 0 + 1) [.int .i64 qh, .int .i64 qb, .int .i64 qg]) := ⟨_, rfl⟩
  rw [← hM7] at hs7 hk7
  (conv => whnf)
  erw [← hM7]
  have hle7 : M.le M7 := hk7.le hy.le fun y hy' => hy.fresh y (.inl hy')
  have hA7 : StAt M7 p b sp sb (mkS self qh qb qg epoch uH hs) came xs [] := hy.at'.head (S' := mkS self qh qb qg epoch uH hs) hk7 hs7 rfl rfl (Int.le_refl _)
  repeat' ((conv => whnf); first | refine ⟨?_, True.intro⟩ | refine brn_t rfl ?_ | refine brn_f rfl ?_ | refine ob rfl ?_ | refine ob (by decide) ?_ | refine grow_same (Mem.le_refl _) ?_ | refine ob (Mem.le_refl _) ?_ | refine ⟨_, Mem.le_refl _, ?_⟩ | fail)
  refine on (stCs_row2 hA7 huHl) ?_
  (conv => whnf); refine brn (fun g5 => ?_) (fun g5 => ?_)
  · have g6 : (!(List.range 64).all (fun i => decide (uH.getD i 0 = (arrU ul).getD i 0))) = true := g5
    repeat' ((conv => whnf); first | refine ⟨?_, True.intro⟩ | refine brn_t rfl ?_ | refine brn_f rfl ?_ | refine ob rfl ?_ | refine ob (by decide) ?_ | refine grow_same (Mem.le_refl _) ?_ | refine ob (Mem.le_refl _) ?_ | refine ⟨_, Mem.le_refl _, ?_⟩ | fail)
    refine bad hle7 (fun hF => ?_)
    have := (all64 huHl (arrU_len ul)).2 (hiff.1 hF.2.1)
    rw [this] at g6
    cases g6
  have g6 : (!(List.range 64).all (fun i => decide (uH.getD i 0 = (arrU ul).getD i 0))) = false := g5
  have huA : uH = arrU ul := (all64 huHl (arrU_len ul)).1 (by simpa using g6)
  have hH := hiff.2 huA
  rw [huA] at hA7
  repeat' ((conv => whnf); first | refine ⟨?_, True.intro⟩ | refine brn_t rfl ?_ | refine brn_f rfl ?_ | refine ob rfl ?_ | refine ob (by decide) ?_ | refine grow_same (Mem.le_refl _) ?_ | refine ob (Mem.le_refl _) ?_ | refine ⟨_, Mem.le_refl _, ?_⟩ | fail)
  refine loopF (σ := Nat) [95] (fun k => [(95, .int .i64 k)]) (fun _ => [.live T.api_Quota [.v (.int .i64 qh), .v (.int .i64 qb), .v (.int .i64 qg)], .live T.api_State [.v (.int .i64 self), .v (.int .i64 epoch), .v (.slice ua un uc), .v (.slice ha hn hc), .v (.slice ma mn mc)]]) (fun _ => M7)
    (fun k => k ≤ mn ∧ ∀ m ∈ (mk.map MkC.mk').take k, m.o ≠ self) (fun k => mn - k) 0 ⟨by omega, by simp⟩ ⟨(by repeat' first | exact True.intro | refine ⟨rfl, ?_⟩), (by repeat' first | exact True.intro | refine ⟨rfl, ?_⟩), Mem.le_refl _, rfl⟩ ?_
  rintro k2 ⟨hk2', hall⟩
  (conv => whnf); refine brn (fun g7 => ?_) (fun g7 => ?_)
  · have hlt : k2 < mk.length := by have := of_decide_eq_true g7; omega
    have hxx : mk[k2]? = some mk[k2] := List.getElem?_eq_getElem hlt
    obtain ⟨b1, o1, ha1, hcc⟩ := (h.seen.row.le hle7).fparts encM_len (by decide) hxx
    have htk : (mk.map MkC.mk').take (k2 + 1) = (mk.map MkC.mk').take k2 ++ [mk[k2].mk'] := by rw [List.take_add_one, List.getElem?_map, hxx]; rfl
    have hmem : mk[k2] ∈ mk := List.getElem_mem _
    generalize mk[k2] = x at *
    (conv => whnf); refine ob (by first | omega | (dsimp only; omega)) ?_
    (conv => whnf); refine atp ha1 ?_
    (conv => whnf); refine on (hcc 0 4 (by decide)) ?_
    (conv => whnf); refine brn (fun g8 => ?_) (fun g8 => ?_)
    · repeat' ((conv => whnf); first | refine ⟨?_, True.intro⟩ | refine brn_t rfl ?_ | refine brn_f rfl ?_ | refine ob rfl ?_ | refine ob (by decide) ?_ | refine grow_same (Mem.le_refl _) ?_ | refine ob (Mem.le_refl _) ?_ | refine ⟨_, Mem.le_refl _, ?_⟩ | fail)
      exact bad hle7 (fun hF => hF.2.2.1 x.mk' (List.mem_map.2 ⟨x, hmem, rfl⟩) (of_decide_eq_true g8))
    · repeat' ((conv => whnf); first | refine ⟨?_, True.intro⟩ | refine brn_t rfl ?_ | refine brn_f rfl ?_ | refine ob rfl ?_ | refine ob (by decide) ?_ | refine grow_same (Mem.le_refl _) ?_ | refine ob (Mem.le_refl _) ?_ | refine ⟨_, Mem.le_refl _, ?_⟩ | fail)
      refine ob (inR_i64 (by first | omega | (dsimp only; omega))) ?_
      (conv => whnf)
      refine ⟨k2 + 1, ⟨by omega, fun m hm => ?_⟩, by omega, ⟨(by repeat' first | exact True.intro | refine ⟨rfl, ?_⟩), (by repeat' first | exact True.intro | refine ⟨rfl, ?_⟩), Mem.le_refl _, rfl⟩⟩
      rw [htk] at hm
      rcases List.mem_append.1 hm with hm | hm
      · exact hall m hm
      · simp only [List.mem_singleton] at hm; subst hm; exact of_decide_eq_false g8
  have hge7 : mn ≤ k2 := by have := of_decide_eq_false g7; omega
  rw [List.take_of_length_le (by simp; omega)] at hall
  repeat' ((conv => whnf); first | refine ⟨?_, True.intro⟩ | refine brn_t rfl ?_ | refine brn_f rfl ?_ | refine ob rfl ?_ | refine ob (by decide) ?_ | refine grow_same (Mem.le_refl _) ?_ | refine ob (Mem.le_refl _) ?_ | refine ⟨_, Mem.le_refl _, ?_⟩ | fail)
  refine (From_ok qg (h.seen.le hle7) h.few (by omega) hB.marks).mono ?_
  have hgg : ¬ (qg < 0 ∨ 256 < qg) := by unfold badD at hg; omega
  rintro v M8 ⟨f, hf, hout⟩
  have hP : f = 2 ∧ ¬ FormP (mk.map MkC.mk') ∨ FormP (mk.map MkC.mk') ∧ ((f = 6 ∧ qg < sumM (mk.map MkC.mk')) ∨ (f = 0 ∧ (sumM (mk.map MkC.mk') : Int) ≤ qg)) := by
    rcases hf with ⟨h1, h2⟩ | ⟨h1, h2, h3⟩ | ⟨h1, h2, h3, h4⟩ | ⟨h1, h2, h3, h4⟩
    · exact absurd h1 hgg
    · exact .inl ⟨h3, h2⟩
    · exact .inr ⟨h2, .inl ⟨h4, h3⟩⟩
    · exact .inr ⟨h2, .inr ⟨h4, h3⟩⟩
  have full : ∀ {M' : Mem}, M.le M' → FormP (mk.map MkC.mk') → FullS qh qb qg hs (mk.map MkC.mk') → FromOut qh qb qg self epoch ul hs (mk.map MkC.mk') M (.tuple #[.pointer none, .int .i64 6]) M' := fun hle h1 h2 => ⟨6, .inr (.inr (.inl ⟨hg, ⟨hN, hH, hall, h1⟩, h2, rfl⟩)), .inl ⟨by decide, rfl, hle⟩⟩
  rcases hout with ⟨hf0, rfl, hle8⟩ | ⟨hf0, p2, b2, es2, rfl, h8, hes⟩
  · (conv => whnf); refine brn (fun g8 => ?_) (fun g8 => ?_)
    · have e8 : f = 2 := of_decide_eq_true g8
      subst e8
      repeat' ((conv => whnf); first | refine ⟨?_, True.intro⟩ | refine brn_t rfl ?_ | refine brn_f rfl ?_ | refine ob rfl ?_ | refine ob (by decide) ?_ | refine grow_same (Mem.le_refl _) ?_ | refine ob (Mem.le_refl _) ?_ | refine ⟨_, Mem.le_refl _, ?_⟩ | fail)
      refine bad (Mem.le_trans hle7 hle8) (fun hF => ?_)
      rcases hP with ⟨_, h2⟩ | ⟨_, ⟨h3, _⟩ | ⟨h3, _⟩⟩
      · exact h2 hF.2.2.2
      · omega
      · omega
    · have e8 : ¬ f = 2 := of_decide_eq_false g8
      have h6 : FormP (mk.map MkC.mk') ∧ qg < sumM (mk.map MkC.mk') := by
        rcases hP with ⟨h1, _⟩ | ⟨h2, ⟨_, h3⟩ | ⟨h3, _⟩⟩
        · exact absurd h1 e8
        · exact ⟨h2, h3⟩
        · exact absurd h3 hf0
      repeat' ((conv => whnf); first | refine ⟨?_, True.intro⟩ | refine brn_t rfl ?_ | refine brn_f rfl ?_ | refine ob rfl ?_ | refine ob (by decide) ?_ | refine grow_same (Mem.le_refl _) ?_ | refine ob (Mem.le_refl _) ?_ | refine ⟨_, Mem.le_refl _, ?_⟩ | fail)
      refine brn_t (by simp [hf0]) ?_
      repeat' ((conv => whnf); first | refine ⟨?_, True.intro⟩ | refine brn_t rfl ?_ | refine brn_f rfl ?_ | refine ob rfl ?_ | refine ob (by decide) ?_ | refine grow_same (Mem.le_refl _) ?_ | refine ob (Mem.le_refl _) ?_ | refine ⟨_, Mem.le_refl _, ?_⟩ | fail)
      exact full (Mem.le_trans hle7 hle8) h6.1 (.inl h6.2)
  subst hf0
  have hFP : FormP (mk.map MkC.mk') ∧ (sumM (mk.map MkC.mk') : Int) ≤ qg := by
    rcases hP with ⟨h1, _⟩ | ⟨h2, ⟨h1, _⟩ | ⟨_, h3⟩⟩
    · cases h1
    · cases h1
    · exact ⟨h2, h3⟩
  have hle8 := Mem.le_trans hle7 h8.le
  have hA8 := hA7.le h8.le
  have hxl : xs.length = hs.length := by have := congrArg List.length hA8.held; simpa using this
  repeat' ((conv => whnf); first | refine ⟨?_, True.intro⟩ | refine brn_t rfl ?_ | refine brn_f rfl ?_ | refine ob rfl ?_ | refine ob (by decide) ?_ | refine grow_same (Mem.le_refl _) ?_ | refine ob (Mem.le_refl _) ?_ | refine ⟨_, Mem.le_refl _, ?_⟩ | fail)
  refine on (hA8.self.c1 (stCs_map (S := mkS self qh qb qg epoch (arrU ul) hs) (arrU_len ul) ..)) ?_
  (conv => whnf)
  refine hA8.map.len fun e9 c9 hsz => ?_
  (conv => whnf); refine brn (fun g8 => ?_) (fun g8 => ?_)
  · have e8 : qh < hs.length := by have := of_decide_eq_true g8; dsimp only at this; rw [hsz] at this; omega
    repeat' ((conv => whnf); first | refine ⟨?_, True.intro⟩ | refine brn_t rfl ?_ | refine brn_f rfl ?_ | refine ob rfl ?_ | refine ob (by decide) ?_ | refine grow_same (Mem.le_refl _) ?_ | refine ob (Mem.le_refl _) ?_ | refine ⟨_, Mem.le_refl _, ?_⟩ | fail)
    exact full hle8 hFP.1 (.inr (.inl e8))
  have e8 : ¬ qh < hs.length := by have := of_decide_eq_false g8; dsimp only at this; rw [hsz] at this; omega
  repeat' ((conv => whnf); first | refine ⟨?_, True.intro⟩ | refine brn_t rfl ?_ | refine brn_f rfl ?_ | refine ob rfl ?_ | refine ob (by decide) ?_ | refine grow_same (Mem.le_refl _) ?_ | refine ob (Mem.le_refl _) ?_ | refine ⟨_, Mem.le_refl _, ?_⟩ | fail)
  refine on (hA8.self.c1 (stCs_bytes (S := mkS self qh qb qg epoch (arrU ul) hs) (arrU_len ul) ..)) ?_
  (conv => whnf); refine brn (fun g9 => ?_) (fun g9 => ?_)
  · repeat' ((conv => whnf); first | refine ⟨?_, True.intro⟩ | refine brn_t rfl ?_ | refine brn_f rfl ?_ | refine ob rfl ?_ | refine ob (by decide) ?_ | refine grow_same (Mem.le_refl _) ?_ | refine ob (Mem.le_refl _) ?_ | refine ⟨_, Mem.le_refl _, ?_⟩ | fail)
    exact full hle8 hFP.1 (.inr (.inr (of_decide_eq_true g9)))
  have e9' : ¬ qb < bytesD hs := of_decide_eq_false g9
  repeat' ((conv => whnf); first | refine ⟨?_, True.intro⟩ | refine brn_t rfl ?_ | refine brn_f rfl ?_ | refine ob rfl ?_ | refine ob (by decide) ?_ | refine grow_same (Mem.le_refl _) ?_ | refine ob (Mem.le_refl _) ?_ | refine ⟨_, Mem.le_refl _, ?_⟩ | fail)
  refine on hA8.self.cells ?_
  (conv => whnf); refine ob (by dsimp only; rw [stCs_len (S := mkS self qh qb qg epoch (arrU ul) hs) (arrU_len ul)]; omega) ?_
  (conv => whnf)
  have hpM : M p = none := hy.fresh p (.inl rfl)
  have hbp : b ≠ p := (hA8.map.nb hA8.self).symm
  have hk9 : Mem.keep (fun y => y = p) M8 (M8.setCells p T.store_Store (splice (stCs (mkS self qh qb qg epoch (arrU ul) hs) b came (bytesD hs) sp) (0 + 0 + 72) [ptr p2])) := keepS rfl
  have hs9 : (M8.setCells p T.store_Store (splice (stCs (mkS self qh qb qg epoch (arrU ul) hs) b came (bytesD hs) sp) (0 + 0 + 72) [ptr p2])).has p T.store_Store (stCs (mkS self qh qb qg epoch (arrU ul) hs) b came (bytesD hs) p2) := by
    rw [show 0 + 0 + 72 = 72 from rfl, stCs_put_set (S := mkS self qh qb qg epoch (arrU ul) hs) (arrU_len ul)]; exact Mem.has_setCells
  have hnp : ∀ y, setB p2 b2 es2 y → y ≠ p := fun y hy' e => by
    have := h8.fresh y hy'
    have h7 := hA7.self
    unfold Mem.has at h7
    rw [e, h7] at this
    cases this
  have hbad : (0 ≤ self ∧ self ≤ 63) ∧ (0 ≤ qh ∧ qh ≤ 256) ∧ (0 ≤ qb ∧ qb ≤ 1048576) := by unfold badD at hg; omega
  refine ⟨0, .inr (.inr (.inr ⟨hg, ⟨hN, hH, hall, hFP.1⟩, fun hh => ?_, rfl⟩)), .inr ⟨rfl, p, b, p2, b2, came, xs, es2, rfl, ⟨?_, ?_, ?_, h8.inv, h8.room, fun y hy' => ?_⟩, by omega, hes⟩⟩
  · rcases hh with hh | hh | hh
    · have := hFP.2; omega
    · exact e8 hh
    · exact e9' hh
  · exact hk9.le hle8 fun y e => e ▸ hpM
  · refine ⟨hs9, hA8.map.mono fun o ho => hk9 b o hbp ho, fun q hq => (hA8.data q hq).mono fun a o ha ho => hk9 _ o (hA8.dset hq ⟨a, ha, rfl⟩).2.1 ho, h8.at'.mono fun y o hy' ho => hk9 y o (hnp y hy') ho, hA8.held, hA8.keys, hA8.ord, hA8.came, fun e => ?_⟩
    have := h8.fresh b2 (.inr (.inl rfl))
    obtain ⟨l', c', hh, _⟩ := hA7.map
    rw [← e, hh] at this
    cases this
  · exact ⟨hbad.1, hep, arrU_len _, fun n hn => arrU_mem hN.1 n hn, by dsimp only; omega, by dsimp only; omega, hy.inv.msgs, hy.inv.nodup⟩
  · rcases hy' with hy' | hy' | hy' | hy'
    · exact hy.fresh y (.inl hy')
    · exact hy.fresh y (.inr (.inl hy'))
    · exact hy.fresh y (.inr (.inr (.inl hy')))
    · have := h8.fresh y hy'
      cases e : M y with
      | none => rfl
      | some o => rw [hle7 y o e] at this; cases this
end Go.Proofs.YtlocjjponfbhmaaGreat

