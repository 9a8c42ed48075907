/- The store: Apply. -/
import Derived.Test.YtlocjjponfbhmaaGreatJoin22
namespace Go.Proofs.YtlocjjponfbhmaaGreat
open Go Go.Vm
attribute [local irreducible] Brn Ob Grow CallsM inR LoopVC Mem.row Mem.cells Mem.setCells Mem.upd Own AppVC SrcVC StrVC NextVC New SrcOk subA NewSl Mem.textAt Mem.mapAt Mem.iterAt entryOf kfind Wr NewEls Elems
set_option maxRecDepth 10000
variable {M M0 : Mem} {p b sp sb : Nat} {S : StR} {came : Int} {xs : HsT} {es : EsT}
/-- what an event leaves -/
def ApplyOut (M0 : Mem) (p b sp sb : Nat) (S : StR) (came : Int) (es : EsT) (k : Int) (i : IdT) (l : List UInt8) (v : Value) (M' : Mem) : Prop :=
  ∃ came' xs' es', v = .int .i64 (mayD S (setMay S es) k i l.length) ∧ came' ≤ came + 1 ∧
    FreshSt M0 M' p b sp sb (if mayD S (setMay S es) k i l.length = 0 then applyD S k i l else S) came' xs' es' ∧
    (if mayD S (setMay S es) k i l.length = 0 ∧ k = 4 then StepE S.qg es es' i.o i.d i.e i.c else es' = es)
theorem stCs_boot (hu : S.used.length = 64) (came bytes v : Int) : splice (splice (stCs S b came bytes sp) 4 [.int .i64 v]) 5 ((List.replicate 64 (0 : Int)).map intV) = stCs { S with epoch := v, used := List.replicate 64 0 } b came bytes sp := by
  have h5 : splice (stCs S b came bytes sp) 4 [.int .i64 v] = stCs { S with epoch := v } b came bytes sp := by simp [splice, stCs]
  rw [h5]
  unfold splice
  have e : (stCs { S with epoch := v } b came bytes sp).drop (5 + ((List.replicate 64 (0 : Int)).map intV).length) = [.map (some b), .int .i64 came, .int .i64 bytes, ptr sp] := by
    unfold stCs
    rw [List.append_assoc, List.drop_append]
    simp [hu]
  rw [e]
  simp [stCs]
theorem stCs_rel (hu : S.used.length = 64) (came bytes v : Int) : splice (stCs S b came bytes sp) 71 [.int .i64 v] = stCs S b came v sp := by
  unfold splice
  have h1 : ([.int .i64 S.self, .int .i64 S.qh, .int .i64 S.qb, .int .i64 S.qg, .int .i64 S.epoch] ++ S.used.map intV : List Value).length = 69 := by simp [hu]
  unfold stCs
  generalize ([.int .i64 S.self, .int .i64 S.qh, .int .i64 S.qb, .int .i64 S.qg, .int .i64 S.epoch] ++ S.used.map intV : List Value) = L at *
  rw [List.take_append, List.drop_append]
  simp [h1, List.take_of_length_le, List.drop_of_length_le]
theorem bytesD_le {m : MsgD} : ∀ {l : List MsgD}, m ∈ l → m.p.length ≤ bytesD l
  | x :: r, h => by
    simp only [bytesD, List.map_cons, List.sum_cons]
    rcases List.mem_cons.1 h with rfl | h
    · omega
    · have := bytesD_le h
      simp only [bytesD] at this
      omega
theorem FreshSt.to (h : FreshSt M0 M p b sp sb S came xs es) {M' : Mem} (hle : M.le M') : FreshSt M0 M' p b sp sb S came xs es :=
  ⟨Mem.le_trans h.le hle, h.at'.le hle, h.inv, h.invE, h.room, h.fresh⟩
theorem keepS {X : Nat → Prop} {M : Mem} {y : Nat} {E : TypeId} {l : List Value} (h : X y) : Mem.keep X M (M.setCells y E l) := by
  unfold Mem.setCells; exact Mem.keep_upd _ _ h
theorem Apply15_ok (h : FreshSt M0 M p b sp sb S came xs es) (k : Int) (i : IdT) {a : Option Addr} {c : Nat} {l : List UInt8} (hl : SrcOk M 1 a l.length (l.map byteV)) (hn : l.length ≤ 1048576) (hcm : came ≤ 4611686018427387904) :
    CallsM Tryz.prog F.store_Store_Apply [ptr p, evV k i a l.length c] M (ApplyOut M0 p b sp sb S came es k i l) := by
  refine fo_store_Store_Apply (by simp) ?_
  repeat' ((conv => whnf); first | refine ⟨?_, True.intro⟩ | refine brn_t rfl ?_ | refine brn_f rfl ?_ | refine ob rfl ?_ | refine ob (by decide) ?_ | refine grow_same (Mem.le_refl _) ?_ | refine ob (Mem.le_refl _) ?_ | refine ⟨_, Mem.le_refl _, ?_⟩ | fail)
  refine (May15_ok h k i a l.length c hn).mono ?_
  rintro v M1 ⟨rfl, hle1⟩
  have h1 := h.to hle1
  have hA := h1.at'
  have hI := h1.inv
  (conv => whnf); refine brn (fun g => ?_) (fun g => ?_)
  · have g1 : ¬ mayD S (setMay S es) k i l.length = 0 := by simpa using g
    repeat' ((conv => whnf); first | refine ⟨?_, True.intro⟩ | refine brn_t rfl ?_ | refine brn_f rfl ?_ | refine ob rfl ?_ | refine ob (by decide) ?_ | refine grow_same (Mem.le_refl _) ?_ | refine ob (Mem.le_refl _) ?_ | refine ⟨_, Mem.le_refl _, ?_⟩ | fail)
    refine ⟨came, xs, es, rfl, by omega, ?_, ?_⟩
    · rw [if_neg g1]; exact h1
    · rw [if_neg (fun e => g1 e.1)]
  have g1 : mayD S (setMay S es) k i l.length = 0 := by simpa using g
  have hI2 := applyD_inv hI g1
  repeat' ((conv => whnf); first | refine ⟨?_, True.intro⟩ | refine brn_t rfl ?_ | refine brn_f rfl ?_ | refine ob rfl ?_ | refine ob (by decide) ?_ | refine grow_same (Mem.le_refl _) ?_ | refine ob (Mem.le_refl _) ?_ | refine ⟨_, Mem.le_refl _, ?_⟩ | fail)
  refine brn (fun g2 => ?_) (fun g2 => ?_)
  · have g3 : k = 1 := of_decide_eq_true g2
    subst g3
    have he := hI2.epoch
    have e : applyD S 1 i l = { S with epoch := S.epoch + 1, used := List.replicate 64 0 } := by unfold applyD; rw [if_pos rfl]
    rw [e] at he
    dsimp only at he
    repeat' ((conv => whnf); first | refine ⟨?_, True.intro⟩ | refine brn_t rfl ?_ | refine brn_f rfl ?_ | refine ob rfl ?_ | refine ob (by decide) ?_ | refine grow_same (Mem.le_refl _) ?_ | refine ob (Mem.le_refl _) ?_ | refine ⟨_, Mem.le_refl _, ?_⟩ | fail)
    refine on (hA.self.c1 rfl) ?_
    (conv => whnf); refine ob (inR_i64 (by omega)) ?_
    (conv => whnf); refine on hA.self.cells ?_
    (conv => whnf); refine ob (by dsimp only; rw [stCs_len hI.ulen]; omega) ?_
    (conv => whnf)
    refine on Mem.cells_setCells ?_
    have h5 : splice (stCs S b came (bytesD S.l) sp) 4 [.int .i64 (S.epoch + 1)] = stCs { S with epoch := S.epoch + 1 } b came (bytesD S.l) sp := by simp [splice, stCs]
    (conv => whnf); refine ob (by
      dsimp only
      show 69 ≤ (splice (stCs S b came (bytesD S.l) sp) 4 [.int .i64 (S.epoch + 1)]).length
      rw [h5, stCs_len (S := { S with epoch := S.epoch + 1 }) hI.ulen]; omega) ?_
    have hb6 := stCs_boot (S := S) (b := b) (sp := sp) hI.ulen came (bytesD S.l) (S.epoch + 1)
    have hs6 : ((M1.setCells p T.store_Store (splice (stCs S b came (bytesD S.l) sp) 4 [.int .i64 (S.epoch + 1)])).setCells p T.store_Store (splice (splice (stCs S b came (bytesD S.l) sp) 4 [.int .i64 (S.epoch + 1)]) 5 ((List.replicate 64 (0 : Int)).map intV))).has p T.store_Store (stCs (applyD S 1 i l) b came (bytesD (applyD S 1 i l).l) sp) := by
      rw [e, hb6]; exact Mem.has_setCells
    have hk6 : Mem.keep (fun y => y = p) M1 ((M1.setCells p T.store_Store (splice (stCs S b came (bytesD S.l) sp) 4 [.int .i64 (S.epoch + 1)])).setCells p T.store_Store (splice (splice (stCs S b came (bytesD S.l) sp) 4 [.int .i64 (S.epoch + 1)]) 5 ((List.replicate 64 (0 : Int)).map intV))) := fun y o hy ho => by
      unfold Mem.setCells; rw [Mem.upd_ne _ _ hy, Mem.upd_ne _ _ hy]; exact ho
    obtain ⟨M6, hM6⟩ : ∃ M6, M6 = ((M1.setCells p T.store_Store (splice (stCs S b came (bytesD S.l) sp) 4 [.int .i64 (S.epoch + 1)])).setCells p T.store_Store (splice (splice (stCs S b came (bytesD S.l) sp) 4 [.int .i64 (S.epoch + 1)]) 5 ((List.replicate 64 (0 : Int)).map intV))) := ⟨_, rfl⟩
    rw [← hM6] at hs6 hk6
    have h6 := hA.head hk6 hs6 (by rw [e]) (by rw [e]) (Int.le_refl _)
    repeat' ((conv => whnf); first | refine ⟨?_, True.intro⟩ | refine brn_t rfl ?_ | refine brn_f rfl ?_ | refine ob rfl ?_ | refine ob (by decide) ?_ | refine grow_same (Mem.le_refl _) ?_ | refine ob (Mem.le_refl _) ?_ | refine ⟨_, Mem.le_refl _, ?_⟩ | fail)
    (conv => whnf)
    erw [← hM6]
    refine ⟨came, xs, es, by rw [g1], by omega, ?_, ?_⟩
    · rw [if_pos g1]
      exact ⟨hk6.le h1.le fun y hy => h1.fresh y (.inl hy), h6, hI2, h1.invE, by rw [e]; exact h1.room, h1.fresh⟩
    · rw [if_neg (by omega)]
  have k1 : ¬ k = 1 := of_decide_eq_false g2
  have hk : k = 2 ∨ k = 3 ∨ k = 4 := by
    have g3 : formD k i l.length = 0 := by
      unfold mayD at g1
      split at g1
      · rename_i g4; exact absurd g1 g4
      · rename_i g4; simpa using g4
    unfold formD at g3
    repeat' split at g3
    all_goals omega
  rcases hk with rfl | rfl | rfl
  · obtain ⟨m1, m2, m3, m4, m5, m6⟩ := mayHold g1
    obtain ⟨i1, i2, i3⟩ := msgErr_zero m1
    have hid := idErr_all i1
    have hqb := hI.qb
    have hqh := hI.qh
    have hnone : aget xs i = none := by
      rcases aget_held hA i with ⟨hn, _⟩ | ⟨x, _, _, h0, _⟩
      · exact hn
      · rw [m4] at h0; cases h0
    repeat' ((conv => whnf); first | refine ⟨?_, True.intro⟩ | refine brn_t rfl ?_ | refine brn_f rfl ?_ | refine ob rfl ?_ | refine ob (by decide) ?_ | refine grow_same (Mem.le_refl _) ?_ | refine ob (Mem.le_refl _) ?_ | refine ⟨_, Mem.le_refl _, ?_⟩ | fail)
    refine on (hA.self.c1 (stCs_map hI.ulen ..)) ?_
    (conv => whnf); refine on (hA.self.c1 (stCs_came hI.ulen ..)) ?_
    repeat' ((conv => whnf); first | refine ⟨?_, True.intro⟩ | refine brn_t rfl ?_ | refine brn_f rfl ?_ | refine ob rfl ?_ | refine ob (by decide) ?_ | refine grow_same (Mem.le_refl _) ?_ | refine ob (Mem.le_refl _) ?_ | refine ⟨_, Mem.le_refl _, ?_⟩ | fail)
    refine new (fun b9 hb9 => ?_)
    replace hb9 : M1 b9 = none := hb9
    have hN1 : NewSl M1 T.uint8 1 (some ⟨b9, 0, none⟩) 0 0 (([] : List UInt8).map byteV) _ := NewSl.lit hb9 T.uint8 1 0 [] rfl
    obtain ⟨M3, hM3⟩ : ∃ M3, M3 = M1.setCells b9 T.uint8 [] := ⟨_, rfl⟩
    rw [← hM3] at hN1
    (conv => whnf)
    erw [← hM3]
    repeat' ((conv => whnf); first | refine ⟨?_, True.intro⟩ | refine brn_t rfl ?_ | refine brn_f rfl ?_ | refine ob rfl ?_ | refine ob (by decide) ?_ | refine grow_same (Mem.le_refl _) ?_ | refine ob (Mem.le_refl _) ?_ | refine ⟨_, Mem.le_refl _, ?_⟩ | fail)
    (conv => whnf)
    refine srcv ((hl.le hle1).le hN1.le) ?_
    (conv => whnf); refine appN M1 _ hN1 (by first | omega | (dsimp only; omega)) (by simp [maxLen]; omega) (by simp [Value.oneCell', byteV]) fun a5 c5 M5 hN5 => ?_
    rw [Nat.zero_add l.length] at hN5
    rw [Nat.zero_add l.length]
    have hA5 := hA.le hN5.le
    have hbp : b ≠ p := (hA.map.nb hA.self).symm
    obtain ⟨x, hx⟩ : ∃ x : PX, x = ⟨i, a5, c5, l, came⟩ := ⟨_, rfl⟩
    have hap : aput xs i x = xs ++ [(i, x)] := by unfold aput; rw [hnone]
    repeat' ((conv => whnf); first | refine ob rfl ?_ | refine grow_same hN5.le ?_ | refine ob hN5.le ?_ | refine ⟨?_, True.intro⟩ | fail)
    (conv => whnf)
    refine hA5.map.put idK i x (fun pp ff hput => ?_)
    replace hput := hput M5
    rw [hap] at hput
    have hk6 : Mem.keep (fun y => y = p ∨ y = b) M1 (M5.upd b (mput pp ff (idA i) (pxV x))) := Mem.keep_trans (Mem.keep_of_le hN5.le) (Mem.keep_upd _ _ (.inr rfl))
    have hw6 : Wr (M5.upd b (mput pp ff (idA i) (pxV x))) T.uint8 1 a5 l.length c5 (l.map byteV) := hN5.wr.mono fun q o hq ho => by
      rw [Mem.upd_ne _ _ (fun e => ?_)]; exact ho
      obtain ⟨cs, hh⟩ := (hN5.block hq).2
      rw [e] at hh
      exact hA5.map.nb hh rfl
    have hs6 : (M5.upd b (mput pp ff (idA i) (pxV x))).has p T.store_Store (stCs S b came (bytesD S.l) sp) := by
      unfold Mem.has; rw [Mem.upd_ne _ _ hbp.symm]; exact hA5.self
    subst hx
    obtain ⟨M6, hM6⟩ : ∃ M6, M6 = M5.upd b (mput pp ff (idA i) (pxV ⟨i, a5, c5, l, came⟩)) := ⟨_, rfl⟩
    rw [← hM6] at hput hk6 hw6 hs6
    (conv => whnf)
    erw [← hM6]
    repeat' ((conv => whnf); first | refine ⟨?_, True.intro⟩ | refine brn_t rfl ?_ | refine brn_f rfl ?_ | refine ob rfl ?_ | refine ob (by decide) ?_ | refine grow_same (Mem.le_refl _) ?_ | refine ob (Mem.le_refl _) ?_ | refine ⟨_, Mem.le_refl _, ?_⟩ | fail)
    refine on (hs6.c1 (stCs_came hI.ulen ..)) ?_
    have hc0 := hA.came
    (conv => whnf); refine ob (inR_i64 (by omega)) ?_
    repeat' ((conv => whnf); first | refine ⟨?_, True.intro⟩ | refine brn_t rfl ?_ | refine brn_f rfl ?_ | refine ob rfl ?_ | refine ob (by decide) ?_ | refine grow_same (Mem.le_refl _) ?_ | refine ob (Mem.le_refl _) ?_ | refine ⟨_, Mem.le_refl _, ?_⟩ | fail)
    refine on hs6.cells ?_
    (conv => whnf); refine ob (by dsimp only; rw [stCs_len hI.ulen]; omega) ?_
    have hk7 : Mem.keep (fun y => y = p ∨ y = b) M1 (M6.setCells p T.store_Store (splice (stCs S b came (bytesD S.l) sp) 70 [.int .i64 (came + 1)])) := Mem.keep_trans hk6 (keepS (.inl rfl))
    have hp7 : Mem.keep (fun y => y = p) M6 (M6.setCells p T.store_Store (splice (stCs S b came (bytesD S.l) sp) 70 [.int .i64 (came + 1)])) := keepS rfl
    have hs7 : (M6.setCells p T.store_Store (splice (stCs S b came (bytesD S.l) sp) 70 [.int .i64 (came + 1)])).has p T.store_Store (stCs S b (came + 1) (bytesD S.l) sp) := by
      rw [stCs_put_came hI.ulen]; exact Mem.has_setCells
    obtain ⟨M7, hM7⟩ : ∃ M7, M7 = M6.setCells p T.store_Store (splice (stCs S b came (bytesD S.l) sp) 70 [.int .i64 (came + 1)]) := ⟨_, rfl⟩
    rw [← hM7] at hk7 hp7 hs7
    (conv => whnf)
    erw [← hM7]
    repeat' ((conv => whnf); first | refine ⟨?_, True.intro⟩ | refine brn_t rfl ?_ | refine brn_f rfl ?_ | refine ob rfl ?_ | refine ob (by decide) ?_ | refine grow_same (Mem.le_refl _) ?_ | refine ob (Mem.le_refl _) ?_ | refine ⟨_, Mem.le_refl _, ?_⟩ | fail)
    refine on (hs7.c1 (stCs_bytes hI.ulen ..)) ?_
    (conv => whnf); refine ob (inR_i64 (by omega)) ?_
    repeat' ((conv => whnf); first | refine ⟨?_, True.intro⟩ | refine brn_t rfl ?_ | refine brn_f rfl ?_ | refine ob rfl ?_ | refine ob (by decide) ?_ | refine grow_same (Mem.le_refl _) ?_ | refine ob (Mem.le_refl _) ?_ | refine ⟨_, Mem.le_refl _, ?_⟩ | fail)
    refine on hs7.cells ?_
    (conv => whnf); refine ob (by dsimp only; rw [stCs_len hI.ulen]; omega) ?_
    have hk8 : Mem.keep (fun y => y = p ∨ y = b) M1 (M7.setCells p T.store_Store (splice (stCs S b (came + 1) (bytesD S.l) sp) 71 [.int .i64 ((bytesD S.l : Int) + l.length)])) := Mem.keep_trans hk7 (keepS (.inl rfl))
    have hp8 : Mem.keep (fun y => y = p) M6 (M7.setCells p T.store_Store (splice (stCs S b (came + 1) (bytesD S.l) sp) 71 [.int .i64 ((bytesD S.l : Int) + l.length)])) := Mem.keep_trans hp7 (keepS rfl)
    have hs8 : (M7.setCells p T.store_Store (splice (stCs S b (came + 1) (bytesD S.l) sp) 71 [.int .i64 ((bytesD S.l : Int) + l.length)])).has p T.store_Store (stCs S b (came + 1) ((bytesD S.l : Int) + l.length) sp) := by
      rw [stCs_put_bytes hI.ulen]; exact Mem.has_setCells
    obtain ⟨M8, hM8⟩ : ∃ M8, M8 = M7.setCells p T.store_Store (splice (stCs S b (came + 1) (bytesD S.l) sp) 71 [.int .i64 ((bytesD S.l : Int) + l.length)]) := ⟨_, rfl⟩
    rw [← hM8] at hk8 hp8 hs8
    (conv => whnf)
    erw [← hM8]
    have hbytes : (bytesD (S.l ++ [⟨i, l⟩]) : Int) = (bytesD S.l : Int) + l.length := by rw [bytesD_append]; simp [bytesD]
    have he : applyD S 2 i l = { S with l := S.l ++ [⟨i, l⟩], used := if i.o = S.self ∧ i.e = S.epoch then S.used.set i.d.toNat (max (lastD S i.d) i.c) else S.used } := by unfold applyD; rw [if_neg (by decide), if_pos rfl]
    -- whatever becomes of the counters
    have fin : ∀ M9, Mem.keep (fun y => y = p ∨ y = b) M1 M9 → Mem.keep (fun y => y = p) M6 M9 → M9.has p T.store_Store (stCs (applyD S 2 i l) b (came + 1) ((bytesD S.l : Int) + l.length) sp) → ApplyOut M0 p b sp sb S came es 2 i l (.int .i64 0) M9 := by
      intro M9 hk9 hp9 hs9
      have h9 : StAt M9 p b sp sb (applyD S 2 i l) (came + 1) (xs ++ [(i, ⟨i, a5, c5, l, came⟩)]) es := by
        refine hA.turn hk9 ?_ (hput.mono fun o ho => hp9 b o hbp ho) ?_ (by rw [he]) ?_ ?_ ?_ ⟨by omega, ?_⟩
        · have : (bytesD (applyD S 2 i l).l : Int) = (bytesD S.l : Int) + l.length := by rw [he]; exact hbytes
          rw [this]; exact hs9
        · intro q hq
          rcases List.mem_append.1 hq with hq | hq
          · exact .inl hq
          · simp only [List.mem_singleton] at hq
            subst hq
            exact .inr (hw6.mono fun q o hq ho => hp9 _ o (fun e => by
              obtain ⟨cs, hh⟩ := (hN5.block hq).2
              have h1' := (hN5.block hq).1
              have h2' := hA.self
              unfold Mem.has at h2'
              rw [e, h2'] at h1'
              cases h1') ho)
        · rw [List.map_append, hA.held, he]; rfl
        · intro q hq
          rcases List.mem_append.1 hq with hq | hq
          · exact hA.keys q hq
          · simp only [List.mem_singleton] at hq; subst hq; rfl
        · rw [List.pairwise_append]
          refine ⟨hA.ord, by simp, fun a ha b hb => ?_⟩
          simp only [List.mem_singleton] at hb
          subst hb
          exact (hA.came.2 a ha).2
        · intro q hq
          rcases List.mem_append.1 hq with hq | hq
          · have := hA.came.2 q hq; omega
          · simp only [List.mem_singleton] at hq; subst hq; dsimp only; omega
      refine ⟨came + 1, xs ++ [(i, ⟨i, a5, c5, l, came⟩)], es, by rw [g1], by omega, ?_, ?_⟩
      · rw [if_pos g1]
        refine ⟨hk9.le h1.le fun y hy => ?_, h9, hI2, h1.invE, by rw [he]; exact h1.room, fun y hy => ?_⟩
        · rcases hy with hy | hy
          · exact h1.fresh y (.inl hy)
          · exact h1.fresh y (.inr (.inl hy))
        · rcases hy with hy | hy | ⟨q, hq, hy⟩ | hy
          · exact h1.fresh y (.inl hy)
          · exact h1.fresh y (.inr (.inl hy))
          · rcases List.mem_append.1 hq with hq | hq
            · exact h1.fresh y (.inr (.inr (.inl ⟨q, hq, hy⟩)))
            · simp only [List.mem_singleton] at hq
              subst hq
              obtain ⟨a, ha, rfl⟩ := hy
              have h3 := (hN5.block ha).1
              cases e0 : M0 a.block with
              | none => rfl
              | some o => rw [h1.le _ o e0] at h3; cases h3
          · exact h1.fresh y (.inr (.inr (.inr hy)))
      · rw [if_neg (by omega)]
    repeat' ((conv => whnf); first | refine ⟨?_, True.intro⟩ | refine brn_t rfl ?_ | refine brn_f rfl ?_ | refine ob rfl ?_ | refine ob (by decide) ?_ | refine grow_same (Mem.le_refl _) ?_ | refine ob (Mem.le_refl _) ?_ | refine ⟨_, Mem.le_refl _, ?_⟩ | fail)
    refine on (hs8.c1 rfl) ?_
    (conv => whnf); refine brn (fun g2 => ?_) (fun g2 => ?_)
    rotate_left
    · have g3 : ¬ i.o = S.self := of_decide_eq_false g2
      have e1 : applyD S 2 i l = { S with l := S.l ++ [⟨i, l⟩] } := by rw [he, if_neg (fun h => g3 h.1)]
      repeat' ((conv => whnf); first | refine ⟨?_, True.intro⟩ | refine brn_t rfl ?_ | refine brn_f rfl ?_ | refine ob rfl ?_ | refine ob (by decide) ?_ | refine grow_same (Mem.le_refl _) ?_ | refine ob (Mem.le_refl _) ?_ | refine ⟨_, Mem.le_refl _, ?_⟩ | fail)
      (conv => whnf)
      exact fin M8 hk8 hp8 (by rw [e1]; exact hs8)
    have g3 : i.o = S.self := of_decide_eq_true g2
    repeat' ((conv => whnf); first | refine ⟨?_, True.intro⟩ | refine brn_t rfl ?_ | refine brn_f rfl ?_ | refine ob rfl ?_ | refine ob (by decide) ?_ | refine grow_same (Mem.le_refl _) ?_ | refine ob (Mem.le_refl _) ?_ | refine ⟨_, Mem.le_refl _, ?_⟩ | fail)
    refine on (hs8.c1 rfl) ?_
    (conv => whnf); refine brn (fun g4 => ?_) (fun g4 => ?_)
    rotate_left
    · have g5 : ¬ i.e = S.epoch := of_decide_eq_false g4
      have e1 : applyD S 2 i l = { S with l := S.l ++ [⟨i, l⟩] } := by rw [he, if_neg (fun h => g5 h.2)]
      repeat' ((conv => whnf); first | refine ⟨?_, True.intro⟩ | refine brn_t rfl ?_ | refine brn_f rfl ?_ | refine ob rfl ?_ | refine ob (by decide) ?_ | refine grow_same (Mem.le_refl _) ?_ | refine ob (Mem.le_refl _) ?_ | refine ⟨_, Mem.le_refl _, ?_⟩ | fail)
      (conv => whnf)
      exact fin M8 hk8 hp8 (by rw [e1]; exact hs8)
    have g5 : i.e = S.epoch := of_decide_eq_true g4
    have e1 : applyD S 2 i l = { S with l := S.l ++ [⟨i, l⟩], used := S.used.set i.d.toNat (max (lastD S i.d) i.c) } := by rw [he, if_pos ⟨g3, g5⟩]
    obtain ⟨d, hd⟩ : ∃ d : Nat, i.d = d := ⟨i.d.toNat, by omega⟩
    have hd64 : d < 64 := by omega
    have hk : M8.row p (0 + 0 + 5 + i.d.toNat * 1) 1 = some [.int .i64 (lastD S i.d)] := by
      have := hs8.c1 (stCs_used hI.ulen b (came + 1) ((bytesD S.l : Int) + l.length) sp (d := d) hd64)
      rw [hd, show 0 + 0 + 5 + ((d : Int)).toNat * 1 = 5 + d by omega]; exact this
    repeat' ((conv => whnf); first | refine ⟨?_, True.intro⟩ | refine brn_t rfl ?_ | refine brn_f rfl ?_ | refine ob rfl ?_ | refine ob (by decide) ?_ | refine grow_same (Mem.le_refl _) ?_ | refine ob (Mem.le_refl _) ?_ | refine ⟨_, Mem.le_refl _, ?_⟩ | fail)
    refine ob (by omega) ?_
    (conv => whnf); refine on hk ?_
    repeat' ((conv => whnf); first | refine ⟨?_, True.intro⟩ | refine brn_t rfl ?_ | refine brn_f rfl ?_ | refine ob rfl ?_ | refine ob (by decide) ?_ | refine grow_same (Mem.le_refl _) ?_ | refine ob (Mem.le_refl _) ?_ | refine ⟨_, Mem.le_refl _, ?_⟩ | fail)
    refine ob (by omega) ?_
    repeat' ((conv => whnf); first | refine ⟨?_, True.intro⟩ | refine brn_t rfl ?_ | refine brn_f rfl ?_ | refine ob rfl ?_ | refine ob (by decide) ?_ | refine grow_same (Mem.le_refl _) ?_ | refine ob (Mem.le_refl _) ?_ | refine ⟨_, Mem.le_refl _, ?_⟩ | fail)
    refine on hs8.cells ?_
    (conv => whnf); refine ob (by dsimp only; rw [stCs_len hI.ulen]; omega) ?_
    have hput9 : splice (stCs S b (came + 1) ((bytesD S.l : Int) + l.length) sp) (0 + 0 + 5 + i.d.toNat * 1) [.int .i64 (max (lastD S i.d) i.c)] = stCs (applyD S 2 i l) b (came + 1) ((bytesD S.l : Int) + l.length) sp := by
      have hdn : i.d.toNat = d := by omega
      rw [e1, show 0 + 0 + 5 + i.d.toNat * 1 = 5 + d by omega, stCs_put_used hI.ulen _ _ _ hd64, hdn]
    repeat' ((conv => whnf); first | refine ⟨?_, True.intro⟩ | refine brn_t rfl ?_ | refine brn_f rfl ?_ | refine ob rfl ?_ | refine ob (by decide) ?_ | refine grow_same (Mem.le_refl _) ?_ | refine ob (Mem.le_refl _) ?_ | refine ⟨_, Mem.le_refl _, ?_⟩ | fail)
    (conv => whnf)
    refine fin _ (Mem.keep_trans hk8 (keepS (.inl rfl))) (Mem.keep_trans hp8 (keepS rfl)) ?_
    rw [← hput9]
    exact Mem.has_setCells
  · repeat' ((conv => whnf); first | refine ⟨?_, True.intro⟩ | refine brn_t rfl ?_ | refine brn_f rfl ?_ | refine ob rfl ?_ | refine ob (by decide) ?_ | refine grow_same (Mem.le_refl _) ?_ | refine ob (Mem.le_refl _) ?_ | refine ⟨_, Mem.le_refl _, ?_⟩ | fail)
    refine on (hA.self.c1 (stCs_bytes hI.ulen ..)) ?_
    (conv => whnf); refine on (hA.self.c1 (stCs_map hI.ulen ..)) ?_
    (conv => whnf)
    refine hA.map.get idK i (fun hn => ?_) (fun x j hx => ?_)
    · rcases aget_held hA i with ⟨_, h0, _⟩ | ⟨x, hx, _⟩
      · unfold mayD at g1
        rw [h0] at g1
        repeat' split at g1
        all_goals first | exact absurd g1 ‹_› | (exfalso; simp_all)
      · rw [hn] at hx; cases hx
    · have hbx : x.p.length ≤ bytesD S.l := by
        rw [← hA.held]
        exact bytesD_le (List.mem_map.2 ⟨_, aget_mem hx, rfl⟩ : x.msg ∈ xs.map fun q => q.2.msg)
      have hqb := hI.qb
      (conv => whnf); refine ob (inR_i64 (by omega)) ?_
      repeat' ((conv => whnf); first | refine ⟨?_, True.intro⟩ | refine brn_t rfl ?_ | refine brn_f rfl ?_ | refine ob rfl ?_ | refine ob (by decide) ?_ | refine grow_same (Mem.le_refl _) ?_ | refine ob (Mem.le_refl _) ?_ | refine ⟨_, Mem.le_refl _, ?_⟩ | fail)
      refine on hA.self.cells ?_
      (conv => whnf); refine ob (by dsimp only; rw [stCs_len hI.ulen]; omega) ?_
      have hw := stCs_rel (S := S) (b := b) (sp := sp) hI.ulen came (bytesD S.l) ((bytesD S.l : Int) - x.p.length)
      have hs6 : (M1.setCells p T.store_Store (splice (stCs S b came (bytesD S.l) sp) 71 [.int .i64 ((bytesD S.l : Int) - x.p.length)])).has p T.store_Store (stCs S b came ((bytesD S.l : Int) - x.p.length) sp) := by
        rw [← hw]; exact Mem.has_setCells
      have hk6 : Mem.keep (fun y => y = p) M1 (M1.setCells p T.store_Store (splice (stCs S b came (bytesD S.l) sp) 71 [.int .i64 ((bytesD S.l : Int) - x.p.length)])) := fun y o hy ho => by
        unfold Mem.setCells; rw [Mem.upd_ne _ _ hy]; exact ho
      obtain ⟨M6, hM6⟩ : ∃ M6, M6 = M1.setCells p T.store_Store (splice (stCs S b came (bytesD S.l) sp) 71 [.int .i64 ((bytesD S.l : Int) - x.p.length)]) := ⟨_, rfl⟩
      rw [← hM6] at hs6 hk6
      repeat' ((conv => whnf); first | refine ⟨?_, True.intro⟩ | refine brn_t rfl ?_ | refine brn_f rfl ?_ | refine ob rfl ?_ | refine ob (by decide) ?_ | refine grow_same (Mem.le_refl _) ?_ | refine ob (Mem.le_refl _) ?_ | refine ⟨_, Mem.le_refl _, ?_⟩ | fail)
      (conv => whnf)
      erw [← hM6]
      refine on (hs6.c1 (stCs_map hI.ulen ..)) ?_
      repeat' ((conv => whnf); first | refine ⟨?_, True.intro⟩ | refine brn_t rfl ?_ | refine brn_f rfl ?_ | refine ob rfl ?_ | refine ob (by decide) ?_ | refine grow_same (Mem.le_refl _) ?_ | refine ob (Mem.le_refl _) ?_ | refine ⟨_, Mem.le_refl _, ?_⟩ | fail)
      have hbp : b ≠ p := (hA.map.nb hA.self).symm
      have hm6 : MapAt idA pxV M6 b xs := hA.map.mono fun o ho => hk6 b o hbp ho
      (conv => whnf)
      refine hm6.del idK i (fun pp ff hdel => ?_)
      replace hdel := hdel M6
      have hk7 : Mem.keep (fun y => y = p ∨ y = b) M1 (M6.upd b (mdrop pp ff)) := Mem.keep_trans (Mem.keep_mono hk6 fun y hy => .inl hy) (Mem.keep_upd _ _ (.inr rfl))
      have hs7 : (M6.upd b (mdrop pp ff)).has p T.store_Store (stCs S b came ((bytesD S.l : Int) - x.p.length) sp) := by
        unfold Mem.has; rw [Mem.upd_ne _ _ hbp.symm]; exact hs6
      obtain ⟨M7, hM7⟩ : ∃ M7, M7 = M6.upd b (mdrop pp ff) := ⟨_, rfl⟩
      rw [← hM7] at hdel hk7 hs7
      (conv => whnf)
      erw [← hM7]
      repeat' ((conv => whnf); first | refine ⟨?_, True.intro⟩ | refine brn_t rfl ?_ | refine brn_f rfl ?_ | refine ob rfl ?_ | refine ob (by decide) ?_ | refine grow_same (Mem.le_refl _) ?_ | refine ob (Mem.le_refl _) ?_ | refine ⟨_, Mem.le_refl _, ?_⟩ | fail)
      (conv => whnf)
      have hmem := aget_mem hx
      have hxi : x.id = i := hA.keys _ hmem
      have hml : x.msg ∈ S.l := by rw [← hA.held]; exact List.mem_map.2 ⟨_, hmem, rfl⟩
      have e : applyD S 3 i l = { S with l := S.l.filter fun m => decide (m.id ≠ i) } := by unfold applyD; rw [if_neg (by decide), if_neg (by decide), if_pos rfl]
      have hbd := bytesD_del hI.nodup hml hxi
      have hheld : (adel xs i).map (fun q => q.2.msg) = S.l.filter fun m => decide (m.id ≠ i) := by
        rw [← hA.held]
        unfold adel
        rw [List.filter_map]
        congr 1
        apply List.filter_congr
        intro q hq
        have := hA.keys q hq
        simp [this]
      have hsub : ∀ q ∈ adel xs i, q ∈ xs := fun q hq => (List.mem_filter.1 hq).1
      have h9 : StAt M7 p b sp sb (applyD S 3 i l) came (adel xs i) es := by
        refine hA.turn hk7 ?_ hdel (fun q hq => .inl (hsub q hq)) (by rw [e]) (by rw [e]; exact hheld) (fun q hq => hA.keys q (hsub q hq)) (hA.ord.sublist List.filter_sublist) ⟨hA.came.1, fun q hq => hA.came.2 q (hsub q hq)⟩
        have : ((bytesD S.l : Int) - x.p.length) = (bytesD (applyD S 3 i l).l : Int) := by rw [e]; dsimp only at hbd ⊢; omega
        rw [e] at this ⊢
        rw [← this]; exact hs7
      refine ⟨came, adel xs i, es, by rw [g1], by omega, ?_, ?_⟩
      · rw [if_pos g1]
        refine ⟨hk7.le h1.le fun y hy => ?_, h9, hI2, h1.invE, by rw [e]; exact h1.room, fun y hy => ?_⟩
        · rcases hy with hy | hy
          · exact h1.fresh y (.inl hy)
          · exact h1.fresh y (.inr (.inl hy))
        · rcases hy with hy | hy | ⟨q, hq, hy⟩ | hy
          · exact h1.fresh y (.inl hy)
          · exact h1.fresh y (.inr (.inl hy))
          · exact h1.fresh y (.inr (.inr (.inl ⟨q, hsub q hq, hy⟩)))
          · exact h1.fresh y (.inr (.inr (.inr hy)))
      · rw [if_neg (by omega)]
  · repeat' ((conv => whnf); first | refine ⟨?_, True.intro⟩ | refine brn_t rfl ?_ | refine brn_f rfl ?_ | refine ob rfl ?_ | refine ob (by decide) ?_ | refine grow_same (Mem.le_refl _) ?_ | refine ob (Mem.le_refl _) ?_ | refine ⟨_, Mem.le_refl _, ?_⟩ | fail)
    have hB : FreshS (M1.minus (setB sp sb es)) M1 sp sb S.qg es := ⟨Mem.minus_le _ _, hA.set, h1.invE, h1.room, fun _ hy => Mem.minus_in hy⟩
    have hMB : M0.le (M1.minus (setB sp sb es)) := Mem.le_minus h1.le fun y hy => h1.fresh y (.inr (.inr (.inr hy)))
    refine on (hA.self.c1 (stCs_set hI.ulen ..)) ?_
    repeat' ((conv => whnf); first | refine ⟨?_, True.intro⟩ | refine brn_t rfl ?_ | refine brn_f rfl ?_ | refine ob rfl ?_ | refine ob (by decide) ?_ | refine grow_same (Mem.le_refl _) ?_ | refine ob (Mem.le_refl _) ?_ | refine ⟨_, Mem.le_refl _, ?_⟩ | fail)
    refine (addS hB i.o i.d i.e i.c).mono ?_
    rintro v M2 ⟨es2, rfl, h2, hst⟩
    repeat' ((conv => whnf); first | refine ⟨?_, True.intro⟩ | refine brn_t rfl ?_ | refine brn_f rfl ?_ | refine ob rfl ?_ | refine ob (by decide) ?_ | refine grow_same (Mem.le_refl _) ?_ | refine ob (Mem.le_refl _) ?_ | refine ⟨_, Mem.le_refl _, ?_⟩ | fail)
    have e : applyD S 4 i l = S := by unfold applyD; rw [if_neg (by decide), if_neg (by decide), if_neg (by decide)]
    refine ⟨came, xs, es2, by rw [g1], by omega, ?_, ?_⟩
    · rw [if_pos g1, e]
      refine ⟨Mem.le_trans hMB h2.le, hA.turned h2.le h2.at', hI, h2.inv, h2.room, fun y hy => ?_⟩
      rcases hy with hy | hy | hy | hy
      · exact h1.fresh y (.inl hy)
      · exact h1.fresh y (.inr (.inl hy))
      · exact h1.fresh y (.inr (.inr (.inl hy)))
      · have h3 := h2.fresh y hy
        cases e0 : M0 y with
        | none => rfl
        | some o => rw [hMB y o e0] at h3; cases h3
    · rw [if_pos ⟨g1, rfl⟩]; exact hst
end Go.Proofs.YtlocjjponfbhmaaGreat

/- The document's store, plainly: counters that were used; messages without one. -/
namespace Go.Proofs.YtlocjjponfbhmaaGreat
open Go Go.Vm
def usedF : Nat → List Int → List (Int × Int)
  | _, [] => []
  | d, n :: r => if 0 < n then ((d : Int), n) :: usedF (d + 1) r else usedF (d + 1) r
@[reducible] def usedD (u : List Int) : List (Int × Int) := usedF 0 u
def lastN : List (Int × Int) → Int → Int
  | [], _ => 0
  | x :: r, d => if x.1 = d then x.2 else lastN r d
def restN (n : Int × Int) : Bool → List (Int × Int) → List (Int × Int)
  | dn, [] => if dn then [] else [n]
  | dn, x :: r => if x.1 = n.1 then restN n dn r else if dn = false ∧ n.1 < x.1 then n :: x :: restN n true r else x :: restN n dn r
@[reducible] def useN (n : Int × Int) (l : List (Int × Int)) : List (Int × Int) := restN n false l
theorem usedF_key : ∀ (u : List Int) (k : Nat) (x : Int × Int), x ∈ usedF k u → (k : Int) ≤ x.1 ∧ x.1 < k + u.length ∧ 0 < x.2
  | [], _, x, h => by cases h
  | n :: r, k, x, h => by
    unfold usedF at h
    split at h
    · rename_i hn
      rcases List.mem_cons.1 h with rfl | h
      · simp; omega
      · have := usedF_key r (k + 1) x h; simp; omega
    · have := usedF_key r (k + 1) x h; simp; omega
theorem usedF_len : ∀ (u : List Int) (k : Nat), (usedF k u).length ≤ u.length
  | [], _ => by simp [usedF]
  | n :: r, k => by
    have := usedF_len r (k + 1)
    unfold usedF
    split <;> simp <;> omega
theorem lastN_none {l : List (Int × Int)} {d : Int} (h : ∀ x ∈ l, x.1 ≠ d) : lastN l d = 0 := by
  induction l with
  | nil => rfl
  | cons x r ih =>
    unfold lastN
    rw [if_neg (h x (by simp))]
    exact ih fun y hy => h y (by simp [hy])
theorem lastN_usedF : ∀ (u : List Int) (k : Nat) (d : Nat), (∀ n ∈ u, 0 ≤ n) → lastN (usedF k u) ((k + d : Nat) : Int) = u.getD d 0
  | [], k, d, _ => by simp [usedF, lastN]
  | n :: r, k, d, h => by
    have h0 := h n (by simp)
    unfold usedF
    cases d with
    | zero =>
      split
      · simp [lastN]
      · rename_i hn
        rw [lastN_none fun x hx => by have := usedF_key r (k + 1) x hx; omega]
        simp; omega
    | succ d =>
      have ih := lastN_usedF r (k + 1) d (fun m hm => h m (by simp [hm]))
      rw [show k + 1 + d = k + (d + 1) by omega] at ih
      split
      · unfold lastN
        rw [if_neg (by dsimp only; omega), ih]
        simp
      · rw [ih]; simp
theorem lastD_usedD {S : StR} (hI : InvS S) {d : Int} (hd : 0 ≤ d) : lastN (usedD S.used) d = lastD S d := by
  obtain ⟨k, rfl⟩ : ∃ k : Nat, d = k := ⟨d.toNat, by omega⟩
  have := lastN_usedF S.used 0 k (fun n hn => (hI.used n hn).1)
  rw [Nat.zero_add] at this
  rw [usedD, this]
  unfold lastD
  simp
theorem restN_true {n : Int × Int} : ∀ {l : List (Int × Int)}, (∀ x ∈ l, x.1 ≠ n.1) → restN n true l = l
  | [], _ => rfl
  | x :: r, h => by
    unfold restN
    rw [if_neg (h x (by simp)), if_neg (by simp), restN_true fun y hy => h y (by simp [hy])]
theorem restN_far {n : Int × Int} {l : List (Int × Int)} (h : ∀ x ∈ l, n.1 < x.1) : restN n false l = n :: l := by
  cases l with
  | nil => rfl
  | cons x r =>
    unfold restN
    have h1 := h x (by simp)
    rw [if_neg (by omega), if_pos ⟨rfl, h1⟩, restN_true fun y hy => by have := h y (by simp [hy]); omega]
theorem useN_usedF {c : Int} (hc : 0 < c) : ∀ (u : List Int) (k d : Nat), d < u.length → restN (((k + d : Nat) : Int), c) false (usedF k u) = usedF k (u.set d c)
  | [], _, _, h => by simp at h
  | n :: r, k, d, h => by
    cases d with
    | zero =>
      have hfar : ∀ x ∈ usedF (k + 1) r, ((((k + 0 : Nat) : Int), c) : Int × Int).1 < x.1 := fun x hx => by
        have := usedF_key r (k + 1) x hx; dsimp only; omega
      have e2 : usedF k ((n :: r).set 0 c) = ((k : Int), c) :: usedF (k + 1) r := by simp [usedF, hc]
      have e1 : usedF k (n :: r) = if 0 < n then ((k : Int), n) :: usedF (k + 1) r else usedF (k + 1) r := rfl
      rw [e2, e1]
      split
      · rw [restN, if_pos (by simp), restN_far hfar]
        simp
      · rw [restN_far hfar]
        simp
    | succ d =>
      have ih := useN_usedF hc r (k + 1) d (by simpa using h)
      rw [show k + 1 + d = k + (d + 1) by omega] at ih
      have e1 : usedF k (n :: r) = if 0 < n then ((k : Int), n) :: usedF (k + 1) r else usedF (k + 1) r := rfl
      have e2 : usedF k ((n :: r).set (d + 1) c) = if 0 < n then ((k : Int), n) :: usedF (k + 1) (r.set d c) else usedF (k + 1) (r.set d c) := rfl
      rw [e1, e2]
      split
      · rw [restN, if_neg (by dsimp only; omega), if_neg (by dsimp only; omega), ih]
      · exact ih
theorem useN_usedD {S : StR} (hI : InvS S) {d c : Int} (hd : 0 ≤ d ∧ d ≤ 63) (hc : 0 < c) : useN (d, c) (usedD S.used) = usedD (S.used.set d.toNat c) := by
  obtain ⟨k, rfl⟩ : ∃ k : Nat, d = k := ⟨d.toNat, by omega⟩
  have := useN_usedF hc S.used 0 k (by have := hI.ulen; omega)
  rw [Nat.zero_add] at this
  rw [usedD, useN, this]
  simp
theorem usedD_zero : usedD (List.replicate 64 0) = [] := by decide
theorem set_same {u : List Int} {d : Nat} {c : Int} (h : c ≤ u.getD d 0) (hd : d < u.length) : u.set d (max (u.getD d 0) c) = u := by
  rw [Int.max_eq_left h]
  apply List.ext_getElem?
  intro i
  rw [List.getElem?_set]
  split
  · rename_i e; subst e
    simp [List.getD_eq_getElem?_getD, hd]
  · rfl
end Go.Proofs.YtlocjjponfbhmaaGreat

