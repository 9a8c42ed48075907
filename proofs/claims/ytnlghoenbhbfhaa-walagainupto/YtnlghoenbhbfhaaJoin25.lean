/- The log: Begin, Append, Last. -/
import Derived.Test.YtnlghoenbhbfhaaWalI
namespace Go.Proofs.Ytnlghoenbhbfhaa
open Go Go.Vm
attribute [local irreducible] Brn Ob Grow CallsM inR LoopVC Mem.row Mem.cells Mem.setCells Mem.upd Go.Vm.Own AppVC SrcVC StrVC NextVC New SrcOk subA NewSl Mem.textAt Mem.mapAt Mem.iterAt entryOf kfind Wr NewEls Elems
set_option maxRecDepth 10000
variable {M M0 : Mem} {g p b : Nat} {D : DiskR} {es : FsT}
theorem syncL_last (D : DiskR) (L : LogR) : (syncL D L).2.1.last = L.last ∧ (syncL D L).2.1.first = L.first ∧ (syncL D L).2.1.size = L.size := by
  unfold syncL; repeat' split
  all_goals exact ⟨rfl, rfl, rfl⟩
theorem begin_okL {L : LogR} (h : LogAt M0 M g p b D es L) (hl : L.last ≤ 99999) (hl1 : 1 ≤ L.last) : CallsM Try.prog F.wal_Log_Begin [ptr g] M fun v M' => ∃ es', v = .tuple #[.int .i64 (beginL D L).2.2.1, .int .i64 (beginL D L).2.2.2] ∧ LogAt M0 M' g p b (beginL D L).1 es' (beginL D L).2.1 := by
  refine fo_wal_Log_Begin (by simp) ?_
  repeat' ((conv => whnf); first | refine ⟨?_, True.intro⟩ | refine brn_t rfl ?_ | refine brn_f rfl ?_ | refine ob rfl ?_ | refine ob (by decide) ?_ | refine grow_same (Mem.le_refl _) ?_ | refine ob (Mem.le_refl _) ?_ | refine ⟨_, Mem.le_refl _, ?_⟩ | fail)
  refine (sync_okL h).mono ?_
  rintro v M1 ⟨es1, rfl, h1⟩
  obtain ⟨l1, l2, l3⟩ := syncL_last D L
  obtain ⟨S, hS⟩ : ∃ S, S = syncL D L := ⟨_, rfl⟩
  have hB : beginL D L = if S.2.2 ≠ 0 then (S.1, S.2.1, 0, S.2.2) else if lenL S.1 L.last = 0 then (S.1, S.2.1, L.last, 0) else if L.last = 99999 then (S.1, S.2.1, 0, 1) else (S.1, { S.2.1 with last := L.last + 1 }, L.last + 1, 0) := by rw [hS]; rfl
  rw [← hS] at h1 l1 l2 l3 ⊢
  (conv => whnf); refine brn (fun e => ?_) (fun e => ?_)
  · have e1 : S.2.2 ≠ 0 := by simpa using e
    repeat' ((conv => whnf); first | refine ⟨?_, True.intro⟩ | refine brn_t rfl ?_ | refine brn_f rfl ?_ | refine ob rfl ?_ | refine ob (by decide) ?_ | refine grow_same (Mem.le_refl _) ?_ | refine ob (Mem.le_refl _) ?_ | refine ⟨_, Mem.le_refl _, ?_⟩ | fail)
    rw [hB, if_pos e1]
    exact ⟨es1, rfl, h1⟩
  have e1 : ¬ S.2.2 ≠ 0 := by simpa using e
  repeat' ((conv => whnf); first | refine ⟨?_, True.intro⟩ | refine brn_t rfl ?_ | refine brn_f rfl ?_ | refine ob rfl ?_ | refine ob (by decide) ?_ | refine grow_same (Mem.le_refl _) ?_ | refine ob (Mem.le_refl _) ?_ | refine ⟨_, Mem.le_refl _, ?_⟩ | fail)
  refine on (h1.self.c1 rfl) ?_
  repeat' ((conv => whnf); first | refine ⟨?_, True.intro⟩ | refine brn_t rfl ?_ | refine brn_f rfl ?_ | refine ob rfl ?_ | refine ob (by decide) ?_ | refine grow_same (Mem.le_refl _) ?_ | refine ob (Mem.le_refl _) ?_ | refine ⟨_, Mem.le_refl _, ?_⟩ | fail)
  rw [l1]
  refine (length_ok h1 L.last).mono ?_
  rintro v M2 ⟨rfl, hle2⟩
  have h2 := h1.to hle2
  (conv => whnf); refine brn (fun e => ?_) (fun e => ?_)
  · have e2 : lenL S.1 L.last = 0 := by have := of_decide_eq_true e; omega
    repeat' ((conv => whnf); first | refine ⟨?_, True.intro⟩ | refine brn_t rfl ?_ | refine brn_f rfl ?_ | refine ob rfl ?_ | refine ob (by decide) ?_ | refine grow_same (Mem.le_refl _) ?_ | refine ob (Mem.le_refl _) ?_ | refine ⟨_, Mem.le_refl _, ?_⟩ | fail)
    refine on (h2.self.c1 rfl) ?_
    repeat' ((conv => whnf); first | refine ⟨?_, True.intro⟩ | refine brn_t rfl ?_ | refine brn_f rfl ?_ | refine ob rfl ?_ | refine ob (by decide) ?_ | refine grow_same (Mem.le_refl _) ?_ | refine ob (Mem.le_refl _) ?_ | refine ⟨_, Mem.le_refl _, ?_⟩ | fail)
    rw [hB, if_neg e1, if_pos e2, l1]
    exact ⟨es1, rfl, h2⟩
  have e2 : ¬ lenL S.1 L.last = 0 := by have := of_decide_eq_false e; omega
  repeat' ((conv => whnf); first | refine ⟨?_, True.intro⟩ | refine brn_t rfl ?_ | refine brn_f rfl ?_ | refine ob rfl ?_ | refine ob (by decide) ?_ | refine grow_same (Mem.le_refl _) ?_ | refine ob (Mem.le_refl _) ?_ | refine ⟨_, Mem.le_refl _, ?_⟩ | fail)
  refine on (h2.self.c1 rfl) ?_
  repeat' ((conv => whnf); first | refine ⟨?_, True.intro⟩ | refine brn_t rfl ?_ | refine brn_f rfl ?_ | refine ob rfl ?_ | refine ob (by decide) ?_ | refine grow_same (Mem.le_refl _) ?_ | refine ob (Mem.le_refl _) ?_ | refine ⟨_, Mem.le_refl _, ?_⟩ | fail)
  rw [l1]
  refine brn (fun e => ?_) (fun e => ?_)
  · have e3 : L.last = 99999 := of_decide_eq_true e
    repeat' ((conv => whnf); first | refine ⟨?_, True.intro⟩ | refine brn_t rfl ?_ | refine brn_f rfl ?_ | refine ob rfl ?_ | refine ob (by decide) ?_ | refine grow_same (Mem.le_refl _) ?_ | refine ob (Mem.le_refl _) ?_ | refine ⟨_, Mem.le_refl _, ?_⟩ | fail)
    rw [hB, if_neg e1, if_neg e2, if_pos e3]
    exact ⟨es1, rfl, h2⟩
  have e3 : ¬ L.last = 99999 := of_decide_eq_false e
  repeat' ((conv => whnf); first | refine ⟨?_, True.intro⟩ | refine brn_t rfl ?_ | refine brn_f rfl ?_ | refine ob rfl ?_ | refine ob (by decide) ?_ | refine grow_same (Mem.le_refl _) ?_ | refine ob (Mem.le_refl _) ?_ | refine ⟨_, Mem.le_refl _, ?_⟩ | fail)
  refine on (h2.self.c1 rfl) ?_
  (conv => whnf)
  rw [l1]
  refine ob (inR_i64 (by omega)) ?_
  (conv => whnf); refine on h2.self.cells ?_
  (conv => whnf); refine ob (by simp) ?_
  have h3 := h2.set { S.2.1 with last := L.last + 1 }
  obtain ⟨M3, hM3⟩ : ∃ M3, M3 = M2.setCells g T.wal_Log (logCs p { S.2.1 with last := L.last + 1 }) := ⟨_, rfl⟩
  rw [← hM3] at h3
  (conv => whnf)
  erw [← hM3]
  refine on (h3.self.c1 rfl) ?_
  repeat' ((conv => whnf); first | refine ⟨?_, True.intro⟩ | refine brn_t rfl ?_ | refine brn_f rfl ?_ | refine ob rfl ?_ | refine ob (by decide) ?_ | refine grow_same (Mem.le_refl _) ?_ | refine ob (Mem.le_refl _) ?_ | refine ⟨_, Mem.le_refl _, ?_⟩ | fail)
  rw [hB, if_neg e1, if_neg e2, if_neg e3]
  exact ⟨es1, rfl, h3⟩
theorem beginL_first (D : DiskR) (L : LogR) : (beginL D L).2.1.first = L.first ∧ (beginL D L).2.1.size = L.size := by
  obtain ⟨l1, l2, l3⟩ := syncL_last D L
  unfold beginL; repeat' split
  all_goals exact ⟨l2, l3⟩
/-- the blocks of a log and of its disk -/
def logB (g p b : Nat) (es : FsT) : Nat → Prop := fun y => y = g ∨ diskB p b es y
theorem LogAt.full {L : LogR} (h : LogAt M0 M g p b D es L) {y : Nat} (hy : logB g p b es y) : M y ≠ none := by
  rcases hy with rfl | hy
  · have := h.self; unfold Mem.has at this; rw [this]; simp
  · exact h.disk.at'.full hy
theorem LogAt.mono {M1 : Mem} {L : LogR} (h : LogAt M1 M g p b D es L) (hle : M0.le M1) : LogAt M0 M g p b D es L := ⟨h.disk.mono hle, h.self, by
  cases e : M0 g with
  | none => rfl
  | some z => have := hle _ _ e; rw [h.fresh] at this; cases this⟩
theorem LogAt.base {L : LogR} (h : LogAt M0 M g p b D es L) : LogAt (M.minus (logB g p b es)) M g p b D es L ∧ M0.le (M.minus (logB g p b es)) := by
  refine ⟨⟨⟨Mem.minus_le _ _, h.disk.at', h.disk.rel, h.disk.inv, fun y hy => Mem.minus_in (.inr hy)⟩, h.self, Mem.minus_in (.inl rfl)⟩, Mem.le_minus h.disk.le fun y hy => ?_⟩
  rcases hy with rfl | hy
  · exact h.fresh
  · exact h.disk.fresh y hy
theorem append_okL {L : LogR} (h : LogAt M0 M g p b D es L) (hl : L.last ≤ 99999) (hl1 : 1 ≤ L.last) (hsz : 0 ≤ L.size ∧ L.size ≤ 1048576) {a : Option Addr} {n c : Nat} {q : List UInt8} (hs : SrcOk M 1 a n (q.map byteV)) (hn : n ≤ 2097152) (hnc : n ≤ c) (hlen : lenL D L.last ≤ 1048576) :
    CallsM Try.prog F.wal_Log_Append [ptr g, .slice a n c] M fun v M' => ∃ es', v = .int .i64 (appendL D L q).2.2 ∧ LogAt M0 M' g p b (appendL D L q).1 es' (appendL D L q).2.1 := by
  refine fo_wal_Log_Append (by simp) ?_
  repeat' ((conv => whnf); first | refine ⟨?_, True.intro⟩ | refine brn_t rfl ?_ | refine brn_f rfl ?_ | refine ob rfl ?_ | refine ob (by decide) ?_ | refine grow_same (Mem.le_refl _) ?_ | refine ob (Mem.le_refl _) ?_ | refine ⟨_, Mem.le_refl _, ?_⟩ | fail)
  refine (ready_okL h.self).mono ?_
  rintro v _ ⟨rfl, rfl⟩
  (conv => whnf); refine brn (fun e => ?_) (fun e => ?_)
  · have hf : L.failed = true := by
      cases hf : L.failed
      · rw [hf] at e; exact absurd e (by decide)
      · rfl
    repeat' ((conv => whnf); first | refine ⟨?_, True.intro⟩ | refine brn_t rfl ?_ | refine brn_f rfl ?_ | refine ob rfl ?_ | refine ob (by decide) ?_ | refine grow_same (Mem.le_refl _) ?_ | refine ob (Mem.le_refl _) ?_ | refine ⟨_, Mem.le_refl _, ?_⟩ | fail)
    rw [if_pos hf, show appendL D L q = (D, L, 7) by simp [appendL, hf]]
    exact ⟨es, rfl, h⟩
  have hf : ¬ L.failed = true := fun hf => by rw [if_pos hf] at e; exact absurd e (by decide)
  repeat' ((conv => whnf); first | refine ⟨?_, True.intro⟩ | refine brn_t rfl ?_ | refine brn_f rfl ?_ | refine ob rfl ?_ | refine ob (by decide) ?_ | refine grow_same (Mem.le_refl _) ?_ | refine ob (Mem.le_refl _) ?_ | refine ⟨_, Mem.le_refl _, ?_⟩ | fail)
  refine (put_ok hs hn hnc).mono ?_
  rintro v M1 (⟨he, rfl, rfl⟩ | ⟨he, a', n', c', hn', rfl, hN⟩)
  · (conv => whnf); refine brn_t (by simpa using he) ?_
    repeat' ((conv => whnf); first | refine ⟨?_, True.intro⟩ | refine brn_t rfl ?_ | refine brn_f rfl ?_ | refine ob rfl ?_ | refine ob (by decide) ?_ | refine grow_same (Mem.le_refl _) ?_ | refine ob (Mem.le_refl _) ?_ | refine ⟨_, Mem.le_refl _, ?_⟩ | fail)
    rw [show appendL D L q = (D, L, putE q) by simp [appendL, hf, he]]
    exact ⟨es, rfl, h⟩
  have h1 := h.to hN.le
  have hsB := hN.src
  have hql : (putB q).length = 8 + q.length := putB_len q
  have hqn := hs.maplen
  repeat' ((conv => whnf); first | refine ⟨?_, True.intro⟩ | refine brn_t rfl ?_ | refine brn_f rfl ?_ | refine ob rfl ?_ | refine ob (by decide) ?_ | refine grow_same (Mem.le_refl _) ?_ | refine ob (Mem.le_refl _) ?_ | refine ⟨_, Mem.le_refl _, ?_⟩ | fail)
  refine on (h1.self.c1 rfl) ?_
  repeat' ((conv => whnf); first | refine ⟨?_, True.intro⟩ | refine brn_t rfl ?_ | refine brn_f rfl ?_ | refine ob rfl ?_ | refine ob (by decide) ?_ | refine grow_same (Mem.le_refl _) ?_ | refine ob (Mem.le_refl _) ?_ | refine ⟨_, Mem.le_refl _, ?_⟩ | fail)
  refine (down_okL h1.disk).mono ?_
  rintro v _ ⟨rfl, rfl⟩
  cases hd : D.down
  case true =>
    repeat' ((conv => whnf); first | refine ⟨?_, True.intro⟩ | refine brn_t rfl ?_ | refine brn_f rfl ?_ | refine ob rfl ?_ | refine ob (by decide) ?_ | refine grow_same (Mem.le_refl _) ?_ | refine ob (Mem.le_refl _) ?_ | refine ⟨_, Mem.le_refl _, ?_⟩ | fail)
    refine (told_okL h1 9).mono ?_
    rintro v M2 ⟨rfl, h2⟩
    repeat' ((conv => whnf); first | refine ⟨?_, True.intro⟩ | refine brn_t rfl ?_ | refine brn_f rfl ?_ | refine ob rfl ?_ | refine ob (by decide) ?_ | refine grow_same (Mem.le_refl _) ?_ | refine ob (Mem.le_refl _) ?_ | refine ⟨_, Mem.le_refl _, ?_⟩ | fail)
    rw [show appendL D L q = (D, downL L 9, 9) by simp [appendL, hf, he, hd]]
    exact ⟨es, rfl, h2⟩
  repeat' ((conv => whnf); first | refine ⟨?_, True.intro⟩ | refine brn_t rfl ?_ | refine brn_f rfl ?_ | refine ob rfl ?_ | refine ob (by decide) ?_ | refine grow_same (Mem.le_refl _) ?_ | refine ob (Mem.le_refl _) ?_ | refine ⟨_, Mem.le_refl _, ?_⟩ | fail)
  refine on (h1.self.c1 rfl) ?_
  repeat' ((conv => whnf); first | refine ⟨?_, True.intro⟩ | refine brn_t rfl ?_ | refine brn_f rfl ?_ | refine ob rfl ?_ | refine ob (by decide) ?_ | refine grow_same (Mem.le_refl _) ?_ | refine ob (Mem.le_refl _) ?_ | refine ⟨_, Mem.le_refl _, ?_⟩ | fail)
  refine (length_ok h1 L.last).mono ?_
  rintro v M2 ⟨rfl, hle2⟩
  have h2 := h1.to hle2
  have hA : ¬ (roomL D L (putB q).length).2.2 ≠ 0 → appendL D L q = ((appendR (roomL D L (putB q).length).1 (nameB (roomL D L (putB q).length).2.1.last) (putB q)).1,
    downL (roomL D L (putB q).length).2.1 (appendR (roomL D L (putB q).length).1 (nameB (roomL D L (putB q).length).2.1.last) (putB q)).2,
    (appendR (roomL D L (putB q).length).1 (nameB (roomL D L (putB q).length).2.1.last) (putB q)).2) := fun e0 => by
    unfold appendL; rw [if_neg hf, if_neg (by simp [he]), if_neg (by simp [hd]), if_neg e0]
  have hsM : SrcOk (M2.minus (logB g p b es)) 1 a' n' ((putB q).map byteV) := (hsB.le hle2).minus fun z hz hb => h.full hb (hN.block hz).1
  (conv => whnf); refine brn (fun e => ?_) (fun e => ?_)
  · have e1 : 0 < lenL D L.last := by have := of_decide_eq_true e; omega
    repeat' ((conv => whnf); first | refine ⟨?_, True.intro⟩ | refine brn_t rfl ?_ | refine brn_f rfl ?_ | refine ob rfl ?_ | refine ob (by decide) ?_ | refine grow_same (Mem.le_refl _) ?_ | refine ob (Mem.le_refl _) ?_ | refine ⟨_, Mem.le_refl _, ?_⟩ | fail)
    refine on (h2.self.c1 rfl) ?_
    (conv => whnf); refine ob (inR_i64 (by omega)) ?_
    (conv => whnf); refine brn (fun e => ?_) (fun e => ?_)
    · have e2 : L.size - lenL D L.last < (putB q).length := by have := of_decide_eq_true e; omega
      have hfu : fullL D L (putB q).length := ⟨e1, e2⟩
      have hRe : roomL D L (putB q).length = ((beginL D L).1, (beginL D L).2.1, (beginL D L).2.2.2) := by unfold roomL; rw [if_pos hfu]
      repeat' ((conv => whnf); first | refine ⟨?_, True.intro⟩ | refine brn_t rfl ?_ | refine brn_f rfl ?_ | refine ob rfl ?_ | refine ob (by decide) ?_ | refine grow_same (Mem.le_refl _) ?_ | refine ob (Mem.le_refl _) ?_ | refine ⟨_, Mem.le_refl _, ?_⟩ | fail)
      refine (begin_okL h2.base.1 hl hl1).mono ?_
      rintro v M3 ⟨es3, rfl, h3b⟩
      have hs3 := hsM.le h3b.disk.le
      have h3 := h3b.mono h2.base.2
      (conv => whnf); refine brn (fun e => ?_) (fun e => ?_)
      · have e3 : (beginL D L).2.2.2 ≠ 0 := by simpa using e
        repeat' ((conv => whnf); first | refine ⟨?_, True.intro⟩ | refine brn_t rfl ?_ | refine brn_f rfl ?_ | refine ob rfl ?_ | refine ob (by decide) ?_ | refine grow_same (Mem.le_refl _) ?_ | refine ob (Mem.le_refl _) ?_ | refine ⟨_, Mem.le_refl _, ?_⟩ | fail)
        rw [show appendL D L q = roomL D L (putB q).length by unfold appendL; rw [if_neg hf, if_neg (by simp [he]), if_neg (by simp [hd]), if_pos (by rw [hRe]; exact e3)], hRe]
        exact ⟨es3, rfl, h3⟩
      · have e3 : (beginL D L).2.2.2 = 0 := by simpa using e
        repeat' ((conv => whnf); first | refine ⟨?_, True.intro⟩ | refine brn_t rfl ?_ | refine brn_f rfl ?_ | refine ob rfl ?_ | refine ob (by decide) ?_ | refine grow_same (Mem.le_refl _) ?_ | refine ob (Mem.le_refl _) ?_ | refine ⟨_, Mem.le_refl _, ?_⟩ | fail)
        refine on (h3.self.c1 rfl) ?_
        (conv => whnf); refine on (h3.self.c1 rfl) ?_
        repeat' ((conv => whnf); first | refine ⟨?_, True.intro⟩ | refine brn_t rfl ?_ | refine brn_f rfl ?_ | refine ob rfl ?_ | refine ob (by decide) ?_ | refine grow_same (Mem.le_refl _) ?_ | refine ob (Mem.le_refl _) ?_ | refine ⟨_, Mem.le_refl _, ?_⟩ | fail)
        refine (name_ok _).mono ?_
        rintro v M4 ⟨rfl, hle4⟩
        have h4 := h3.to hle4
        repeat' ((conv => whnf); first | refine ob rfl ?_ | refine grow_same hle4 ?_ | refine ob hle4 ?_ | refine ⟨?_, True.intro⟩ | fail)
        repeat' ((conv => whnf); first | refine ⟨?_, True.intro⟩ | refine brn_t rfl ?_ | refine brn_f rfl ?_ | refine ob rfl ?_ | refine ob (by decide) ?_ | refine grow_same (Mem.le_refl _) ?_ | refine ob (Mem.le_refl _) ?_ | refine ⟨_, Mem.le_refl _, ?_⟩ | fail)
        refine (appendF h4.disk.base.1 (name_size _) (hs3.le hle4)).mono ?_
        rintro v M5 ⟨es5, rfl, h5⟩
        have h5' := h4.call h5
        repeat' ((conv => whnf); first | refine ⟨?_, True.intro⟩ | refine brn_t rfl ?_ | refine brn_f rfl ?_ | refine ob rfl ?_ | refine ob (by decide) ?_ | refine grow_same (Mem.le_refl _) ?_ | refine ob (Mem.le_refl _) ?_ | refine ⟨_, Mem.le_refl _, ?_⟩ | fail)
        refine (told_okL h5' _).mono ?_
        rintro v M6 ⟨rfl, h6⟩
        repeat' ((conv => whnf); first | refine ⟨?_, True.intro⟩ | refine brn_t rfl ?_ | refine brn_f rfl ?_ | refine ob rfl ?_ | refine ob (by decide) ?_ | refine grow_same (Mem.le_refl _) ?_ | refine ob (Mem.le_refl _) ?_ | refine ⟨_, Mem.le_refl _, ?_⟩ | fail)
        rw [hA (by rw [hRe]; exact fun h => h e3), hRe]
        exact ⟨es5, rfl, h6⟩
    · have e2 : ¬ L.size - lenL D L.last < (putB q).length := by have := of_decide_eq_false e; omega
      have hRe : roomL D L (putB q).length = (D, L, 0) := by unfold roomL; rw [if_neg (fun h => e2 h.2)]
      have e3 : (0 : Int) = 0 := rfl
      rename Mem => M3
      have h3 := h2
      have hs3 := hsB.le hle2
      repeat' ((conv => whnf); first | refine ⟨?_, True.intro⟩ | refine brn_t rfl ?_ | refine brn_f rfl ?_ | refine ob rfl ?_ | refine ob (by decide) ?_ | refine grow_same (Mem.le_refl _) ?_ | refine ob (Mem.le_refl _) ?_ | refine ⟨_, Mem.le_refl _, ?_⟩ | fail)
      refine on (h3.self.c1 rfl) ?_
      (conv => whnf); refine on (h3.self.c1 rfl) ?_
      repeat' ((conv => whnf); first | refine ⟨?_, True.intro⟩ | refine brn_t rfl ?_ | refine brn_f rfl ?_ | refine ob rfl ?_ | refine ob (by decide) ?_ | refine grow_same (Mem.le_refl _) ?_ | refine ob (Mem.le_refl _) ?_ | refine ⟨_, Mem.le_refl _, ?_⟩ | fail)
      refine (name_ok _).mono ?_
      rintro v M4 ⟨rfl, hle4⟩
      have h4 := h3.to hle4
      repeat' ((conv => whnf); first | refine ob rfl ?_ | refine grow_same hle4 ?_ | refine ob hle4 ?_ | refine ⟨?_, True.intro⟩ | fail)
      repeat' ((conv => whnf); first | refine ⟨?_, True.intro⟩ | refine brn_t rfl ?_ | refine brn_f rfl ?_ | refine ob rfl ?_ | refine ob (by decide) ?_ | refine grow_same (Mem.le_refl _) ?_ | refine ob (Mem.le_refl _) ?_ | refine ⟨_, Mem.le_refl _, ?_⟩ | fail)
      refine (appendF h4.disk.base.1 (name_size _) (hs3.le hle4)).mono ?_
      rintro v M5 ⟨es5, rfl, h5⟩
      have h5' := h4.call h5
      repeat' ((conv => whnf); first | refine ⟨?_, True.intro⟩ | refine brn_t rfl ?_ | refine brn_f rfl ?_ | refine ob rfl ?_ | refine ob (by decide) ?_ | refine grow_same (Mem.le_refl _) ?_ | refine ob (Mem.le_refl _) ?_ | refine ⟨_, Mem.le_refl _, ?_⟩ | fail)
      refine (told_okL h5' _).mono ?_
      rintro v M6 ⟨rfl, h6⟩
      repeat' ((conv => whnf); first | refine ⟨?_, True.intro⟩ | refine brn_t rfl ?_ | refine brn_f rfl ?_ | refine ob rfl ?_ | refine ob (by decide) ?_ | refine grow_same (Mem.le_refl _) ?_ | refine ob (Mem.le_refl _) ?_ | refine ⟨_, Mem.le_refl _, ?_⟩ | fail)
      rw [hA (by rw [hRe]; exact fun h => h e3), hRe]
      exact ⟨es5, rfl, h6⟩
  · have e1 : ¬ 0 < lenL D L.last := by have := of_decide_eq_false e; omega
    have hRe : roomL D L (putB q).length = (D, L, 0) := by unfold roomL; rw [if_neg (fun h => e1 h.1)]
    have e3 : (0 : Int) = 0 := rfl
    rename Mem => M3
    have h3 := h2
    have hs3 := hsB.le hle2
    repeat' ((conv => whnf); first | refine ⟨?_, True.intro⟩ | refine brn_t rfl ?_ | refine brn_f rfl ?_ | refine ob rfl ?_ | refine ob (by decide) ?_ | refine grow_same (Mem.le_refl _) ?_ | refine ob (Mem.le_refl _) ?_ | refine ⟨_, Mem.le_refl _, ?_⟩ | fail)
    refine on (h3.self.c1 rfl) ?_
    (conv => whnf); refine on (h3.self.c1 rfl) ?_
    repeat' ((conv => whnf); first | refine ⟨?_, True.intro⟩ | refine brn_t rfl ?_ | refine brn_f rfl ?_ | refine ob rfl ?_ | refine ob (by decide) ?_ | refine grow_same (Mem.le_refl _) ?_ | refine ob (Mem.le_refl _) ?_ | refine ⟨_, Mem.le_refl _, ?_⟩ | fail)
    refine (name_ok _).mono ?_
    rintro v M4 ⟨rfl, hle4⟩
    have h4 := h3.to hle4
    repeat' ((conv => whnf); first | refine ob rfl ?_ | refine grow_same hle4 ?_ | refine ob hle4 ?_ | refine ⟨?_, True.intro⟩ | fail)
    repeat' ((conv => whnf); first | refine ⟨?_, True.intro⟩ | refine brn_t rfl ?_ | refine brn_f rfl ?_ | refine ob rfl ?_ | refine ob (by decide) ?_ | refine grow_same (Mem.le_refl _) ?_ | refine ob (Mem.le_refl _) ?_ | refine ⟨_, Mem.le_refl _, ?_⟩ | fail)
    refine (appendF h4.disk.base.1 (name_size _) (hs3.le hle4)).mono ?_
    rintro v M5 ⟨es5, rfl, h5⟩
    have h5' := h4.call h5
    repeat' ((conv => whnf); first | refine ⟨?_, True.intro⟩ | refine brn_t rfl ?_ | refine brn_f rfl ?_ | refine ob rfl ?_ | refine ob (by decide) ?_ | refine grow_same (Mem.le_refl _) ?_ | refine ob (Mem.le_refl _) ?_ | refine ⟨_, Mem.le_refl _, ?_⟩ | fail)
    refine (told_okL h5' _).mono ?_
    rintro v M6 ⟨rfl, h6⟩
    repeat' ((conv => whnf); first | refine ⟨?_, True.intro⟩ | refine brn_t rfl ?_ | refine brn_f rfl ?_ | refine ob rfl ?_ | refine ob (by decide) ?_ | refine grow_same (Mem.le_refl _) ?_ | refine ob (Mem.le_refl _) ?_ | refine ⟨_, Mem.le_refl _, ?_⟩ | fail)
    rw [hA (by rw [hRe]; exact fun h => h e3), hRe]
    exact ⟨es5, rfl, h6⟩
theorem last_okL {L : LogR} (h : M.has g T.wal_Log (logCs p L)) : CallsM Try.prog F.wal_Log_Last [ptr g] M fun v M' => v = .int .i64 L.last ∧ M = M' := by
  refine fo_wal_Log_Last (by simp) ?_
  repeat' ((conv => whnf); first | refine ⟨?_, True.intro⟩ | refine brn_t rfl ?_ | refine brn_f rfl ?_ | refine ob rfl ?_ | refine ob (by decide) ?_ | refine grow_same (Mem.le_refl _) ?_ | refine ob (Mem.le_refl _) ?_ | refine ⟨_, Mem.le_refl _, ?_⟩ | fail)
  refine on (h.c1 rfl) ?_
  repeat' ((conv => whnf); first | refine ⟨?_, True.intro⟩ | refine brn_t rfl ?_ | refine brn_f rfl ?_ | refine ob rfl ?_ | refine ob (by decide) ?_ | refine grow_same (Mem.le_refl _) ?_ | refine ob (Mem.le_refl _) ?_ | refine ⟨_, Mem.le_refl _, ?_⟩ | fail)
  exact ⟨rfl, rfl⟩
end Go.Proofs.Ytnlghoenbhbfhaa

/- The log: segments, remove. -/
namespace Go.Proofs.Ytnlghoenbhbfhaa
open Go Go.Vm
attribute [local irreducible] Brn Ob Grow CallsM inR LoopVC Mem.row Mem.cells Mem.setCells Mem.upd Go.Vm.Own AppVC SrcVC StrVC NextVC New SrcOk subA NewSl Mem.textAt Mem.mapAt Mem.iterAt entryOf kfind Wr NewEls Elems
set_option maxRecDepth 10000
variable {M M0 : Mem} {g p b : Nat} {D : DiskR} {es : FsT}
/-- the number that a name says -/
def numR (s : ByteArray) : Int := ((bl s).drop 1).foldl (fun a c => 10 * a + ((c.toNat : Int) - 48)) 0
theorem numR_name {k : Int} (h : ¬ (k < 1 ∨ 99999 < k)) : numR (nameB k) = k := by
  rw [nameC_eq h]
  have hnn : 0 ≤ k := by omega
  have a1 : kk k 1 = k / 10 := by show (kk k 0).tdiv 10 = _; rw [Int.tdiv_eq_ediv_of_nonneg (kk_nn hnn 0)]; rfl
  have a2 : kk k 2 = k / 100 := by show (kk k 1).tdiv 10 = _; rw [Int.tdiv_eq_ediv_of_nonneg (kk_nn hnn 1), a1]; omega
  have a3 : kk k 3 = k / 1000 := by show (kk k 2).tdiv 10 = _; rw [Int.tdiv_eq_ediv_of_nonneg (kk_nn hnn 2), a2]; omega
  have a4 : kk k 4 = k / 10000 := by show (kk k 3).tdiv 10 = _; rw [Int.tdiv_eq_ediv_of_nonneg (kk_nn hnn 3), a3]; omega
  have a0 : kk k 0 = k := rfl
  have d0 := dg_range hnn 0
  have d1 := dg_range hnn 1
  have d2 := dg_range hnn 2
  have d3 := dg_range hnn 3
  have d4 := dg_range hnn 4
  show 10 * (10 * (10 * (10 * (10 * 0 + (((dgB k 4).toNat : Int) - 48)) + (((dgB k 3).toNat : Int) - 48)) + (((dgB k 2).toNat : Int) - 48)) + (((dgB k 1).toNat : Int) - 48)) + (((dgB k 0).toNat : Int) - 48) = k
  omega
theorem name_inj {j k : Int} (hj : ¬ (j < 1 ∨ 99999 < j)) (hk : ¬ (k < 1 ∨ 99999 < k)) (h : nameB j = nameB k) : j = k := by rw [← numR_name hj, ← numR_name hk, h]
/-- all files are segments -/
def NamesW (D : DiskR) : Prop := ∀ f ∈ D.l, ∃ k : Int, ¬ (k < 1 ∨ 99999 < k) ∧ f.name = nameB k
theorem NamesW.num (h : NamesW D) {f : FileR} (hf : f ∈ D.l) : ¬ (numR f.name < 1 ∨ 99999 < numR f.name) ∧ f.name = nameB (numR f.name) := by
  obtain ⟨k, h1, h2⟩ := h f hf
  rw [h2, numR_name h1]; exact ⟨h1, rfl⟩
def segsR (D : DiskR) (pick : Int → Bool) : List Int := (D.l.map fun f => numR f.name).filter pick
theorem segs_ok {L : LogR} (h : LogAt M0 M g p b D es L) (hW : NamesW D) {gf : Nat} {cv : Value} {pick : Int → Bool}
    (hp : ∀ M', M.le M' → ∀ k : Int, CallsM Try.prog gf [.int .i64 k, cv] M' fun v M'' => v = .bool (pick k) ∧ M'.le M'') :
    CallsM Try.prog F.wal_Log_segments [ptr g, .func (.func gf) #[] #[cv]] M fun v M' => ∃ a n c, v = .slice a n c ∧ n = (segsR D pick).length ∧ NewSl M T.int 1 a n c ((segsR D pick).map intV) M' := by
  refine fo_wal_Log_segments (by simp) ?_
  repeat' ((conv => whnf); first | refine ⟨?_, True.intro⟩ | refine brn_t rfl ?_ | refine brn_f rfl ?_ | refine ob rfl ?_ | refine ob (by decide) ?_ | refine grow_same (Mem.le_refl _) ?_ | refine ob (Mem.le_refl _) ?_ | refine ⟨_, Mem.le_refl _, ?_⟩ | fail)
  refine on (h.self.c1 rfl) ?_
  repeat' ((conv => whnf); first | refine ⟨?_, True.intro⟩ | refine brn_t rfl ?_ | refine brn_f rfl ?_ | refine ob rfl ?_ | refine ob (by decide) ?_ | refine grow_same (Mem.le_refl _) ?_ | refine ob (Mem.le_refl _) ?_ | refine ⟨_, Mem.le_refl _, ?_⟩ | fail)
  refine (Names_ok h.disk.at' h.disk.rel h.disk.inv).mono ?_
  rintro v M1 ⟨na, nc, rfl, hNm⟩
  have hln := h.disk.inv.len
  (conv => whnf)
  refine loopF (σ := Nat × Mem × Option Addr × Nat × List Int) [15, 5] (fun y => [(15, .int .i64 y.1), (5, .slice y.2.2.1 y.2.2.2.2.length y.2.2.2.1)]) (fun _ => []) (fun y => y.2.1)
    (fun | ⟨i, Mc, a, c, out⟩ => i ≤ D.l.length ∧ NewSl M1 T.int 1 a out.length c (out.map intV) Mc ∧ out = ((D.l.take i).map fun f => numR f.name).filter pick ∧ out.length ≤ i) (fun y => D.l.length - y.1) ⟨0, M1, none, 0, []⟩ ⟨by omega, NewSl.none M1 T.int 1, by simp, by simp⟩ ⟨(by repeat' first | exact True.intro | refine ⟨rfl, ?_⟩), (by repeat' first | exact True.intro | refine ⟨rfl, ?_⟩), Mem.le_refl _, rfl⟩ ?_
  rintro ⟨i, Mc, a, c, out⟩ ⟨hi, hN, hout, hol⟩
  (conv => whnf); refine brn (fun e => ?_) (fun e => ?_)
  · have hlt : i < D.l.length := by have := of_decide_eq_true e; dsimp only at this; omega
    obtain ⟨hk1, b1, o1, e1, hr1⟩ := (hNm.src.le hN.le).at (i := i) hlt
    have hx : D.l[i]? = some D.l[i] := List.getElem?_eq_getElem hlt
    have hnm : (D.l.map (·.name))[i] = D.l[i].name := by simp
    rw [hnm] at hr1
    obtain ⟨hnk, hnn⟩ := hW.num (List.mem_of_getElem? hx)
    have htk : ((D.l.take (i + 1)).map fun f => numR f.name).filter pick = ((D.l.take i).map fun f => numR f.name).filter pick ++ (if pick (numR D.l[i].name) = true then [numR D.l[i].name] else []) := by
      rw [List.take_add_one, hx, List.map_append, List.filter_append]
      congr 1
      cases hpk : pick (numR D.l[i].name) <;> simp [hpk]
    generalize D.l[i] = f at *
    generalize hkk : numR f.name = k at *
    rw [hnn] at hr1
    (conv => whnf); refine ob (by first | omega | (dsimp only; omega)) ?_
    (conv => whnf); refine atp e1 ?_
    (conv => whnf); refine on hr1 ?_
    repeat' ((conv => whnf); first | refine ⟨?_, True.intro⟩ | refine brn_t rfl ?_ | refine brn_f rfl ?_ | refine ob rfl ?_ | refine ob (by decide) ?_ | refine grow_same (Mem.le_refl _) ?_ | refine ob (Mem.le_refl _) ?_ | refine ⟨_, Mem.le_refl _, ?_⟩ | fail)
    refine (number_ok k hnk).mono ?_
    rintro v M2 ⟨rfl, hle2⟩
    (conv => whnf); refine brn_t (decide_eq_true (by omega)) ?_
    repeat' ((conv => whnf); first | refine ⟨?_, True.intro⟩ | refine brn_t rfl ?_ | refine brn_f rfl ?_ | refine ob rfl ?_ | refine ob (by decide) ?_ | refine grow_same (Mem.le_refl _) ?_ | refine ob (Mem.le_refl _) ?_ | refine ⟨_, Mem.le_refl _, ?_⟩ | fail)
    refine (hp M2 (Mem.le_trans hNm.le (Mem.le_trans hN.le hle2)) k).mono ?_
    rintro v M3 ⟨rfl, hle3⟩
    have hN3 := (hN.up hle2).up hle3
    cases hpk : pick k
    case true =>
      rw [hpk, if_pos rfl] at htk
      repeat' ((conv => whnf); first | refine ⟨?_, True.intro⟩ | refine brn_t rfl ?_ | refine brn_f rfl ?_ | refine ob rfl ?_ | refine ob (by decide) ?_ | refine grow_same (Mem.le_refl _) ?_ | refine ob (Mem.le_refl _) ?_ | refine ⟨_, Mem.le_refl _, ?_⟩ | fail)
      refine appN M1 _ hN3 (by first | omega | (dsimp only; omega)) (by simp [maxLen]; omega) (by simp [Value.oneCell']) fun a4 c4 M4 hN4 => ?_
      (conv => whnf); refine ob (inR_i64 (by first | omega | (dsimp only; omega))) ?_
      (conv => whnf)
      refine ⟨⟨i + 1, M4, a4, c4, out ++ [k]⟩, ⟨by omega, by simpa using hN4, by rw [htk, hout], by simp; omega⟩, by dsimp only; omega, ?_⟩
      rw [List.length_append]
      exact ⟨(by repeat' first | exact True.intro | refine ⟨rfl, ?_⟩), (by repeat' first | exact True.intro | refine ⟨rfl, ?_⟩), Mem.le_refl _, rfl⟩
    case false =>
      rw [hpk, if_neg (by decide), List.append_nil] at htk
      repeat' ((conv => whnf); first | refine ⟨?_, True.intro⟩ | refine brn_t rfl ?_ | refine brn_f rfl ?_ | refine ob rfl ?_ | refine ob (by decide) ?_ | refine grow_same (Mem.le_refl _) ?_ | refine ob (Mem.le_refl _) ?_ | refine ⟨_, Mem.le_refl _, ?_⟩ | fail)
      refine ob (inR_i64 (by first | omega | (dsimp only; omega))) ?_
      (conv => whnf)
      exact ⟨⟨i + 1, M3, a, c, out⟩, ⟨by omega, hN3, by rw [htk, hout], by omega⟩, by dsimp only; omega, ⟨(by repeat' first | exact True.intro | refine ⟨rfl, ?_⟩), (by repeat' first | exact True.intro | refine ⟨rfl, ?_⟩), Mem.le_refl _, rfl⟩⟩
  · have hge : i = D.l.length := by have := of_decide_eq_false e; dsimp only at this; omega
    subst hge
    rw [List.take_length] at hout
    repeat' ((conv => whnf); first | refine ⟨?_, True.intro⟩ | refine brn_t rfl ?_ | refine brn_f rfl ?_ | refine ob rfl ?_ | refine ob (by decide) ?_ | refine grow_same (Mem.le_refl _) ?_ | refine ob (Mem.le_refl _) ?_ | refine ⟨_, Mem.le_refl _, ?_⟩ | fail)
    exact ⟨a, out.length, c, rfl, by rw [hout]; rfl, by rw [show segsR D pick = out from hout.symm]; exact hN.mono hNm.le⟩
end Go.Proofs.Ytnlghoenbhbfhaa

/- The log: remove; what segments are picked; a list turned round. -/
namespace Go.Proofs.Ytnlghoenbhbfhaa
open Go Go.Vm
attribute [local irreducible] Brn Ob Grow CallsM inR LoopVC Mem.row Mem.cells Mem.setCells Mem.upd Go.Vm.Own AppVC SrcVC StrVC NextVC New SrcOk subA NewSl Mem.textAt Mem.mapAt Mem.iterAt entryOf kfind Wr NewEls Elems
set_option maxRecDepth 10000
variable {M M0 : Mem} {g p b : Nat} {D : DiskR} {es : FsT}
/-- files are removed, one behind the other -/
def removeAll (D : DiskR) : List Int → DiskR × Int
  | [] => (D, 0)
  | k :: r => if (removeR D (nameB k)).2 ≠ 0 then removeR D (nameB k) else removeAll (removeR D (nameB k)).1 r
theorem remove_okL {L : LogR} (h : LogAt M0 M g p b D es L) {a : Option Addr} {n c : Nat} {ks : List Int} (hs : SrcOk M0 1 a n (ks.map intV)) (hn : n ≤ 1000000) :
    CallsM Try.prog F.wal_Log_remove [ptr g, .slice a n c] M fun v M' => ∃ es', v = .int .i64 (removeAll D ks).2 ∧ LogAt M0 M' g p b (removeAll D ks).1 es' L := by
  refine fo_wal_Log_remove (by simp) ?_
  have hkl := hs.maplen
  (conv => whnf)
  refine loopF (σ := Nat × Mem × DiskR × FsT) [10] (fun y => [(10, .int .i64 y.1)]) (fun _ => []) (fun y => y.2.1)
    (fun | ⟨i, Mc, Dc, ec⟩ => i ≤ n ∧ LogAt M0 Mc g p b Dc ec L ∧ removeAll D ks = removeAll Dc (ks.drop i)) (fun y => n - y.1) ⟨0, M, D, es⟩ ⟨by omega, h, rfl⟩ ⟨(by repeat' first | exact True.intro | refine ⟨rfl, ?_⟩), (by repeat' first | exact True.intro | refine ⟨rfl, ?_⟩), Mem.le_refl _, rfl⟩ ?_
  rintro ⟨i, Mc, Dc, ec⟩ ⟨hi, hL, hrm⟩
  (conv => whnf); refine brn (fun e => ?_) (fun e => ?_)
  · have hlt : i < n := by have := of_decide_eq_true e; dsimp only at this; omega
    obtain ⟨hk1, b1, o1, e1, hr1⟩ := (hs.le hL.disk.le).at hlt
    rw [List.drop_eq_getElem_cons hk1] at hrm
    generalize ks[i] = k at *
    (conv => whnf); refine ob (by first | omega | (dsimp only; omega)) ?_
    (conv => whnf); refine atp e1 ?_
    (conv => whnf); refine on hr1 ?_
    repeat' ((conv => whnf); first | refine ⟨?_, True.intro⟩ | refine brn_t rfl ?_ | refine brn_f rfl ?_ | refine ob rfl ?_ | refine ob (by decide) ?_ | refine grow_same (Mem.le_refl _) ?_ | refine ob (Mem.le_refl _) ?_ | refine ⟨_, Mem.le_refl _, ?_⟩ | fail)
    refine on (hL.self.c1 rfl) ?_
    repeat' ((conv => whnf); first | refine ⟨?_, True.intro⟩ | refine brn_t rfl ?_ | refine brn_f rfl ?_ | refine ob rfl ?_ | refine ob (by decide) ?_ | refine grow_same (Mem.le_refl _) ?_ | refine ob (Mem.le_refl _) ?_ | refine ⟨_, Mem.le_refl _, ?_⟩ | fail)
    refine (name_ok k).mono ?_
    rintro v M1 ⟨rfl, hle1⟩
    have h1 := hL.to hle1
    repeat' ((conv => whnf); first | refine ob rfl ?_ | refine grow_same hle1 ?_ | refine ob hle1 ?_ | refine ⟨?_, True.intro⟩ | fail)
    repeat' ((conv => whnf); first | refine ⟨?_, True.intro⟩ | refine brn_t rfl ?_ | refine brn_f rfl ?_ | refine ob rfl ?_ | refine ob (by decide) ?_ | refine grow_same (Mem.le_refl _) ?_ | refine ob (Mem.le_refl _) ?_ | refine ⟨_, Mem.le_refl _, ?_⟩ | fail)
    refine (removeF h1.disk.base.1 (name_size k)).mono ?_
    rintro v M2 ⟨es2, rfl, h2⟩
    have h2' := h1.call h2
    (conv => whnf); refine brn (fun e => ?_) (fun e => ?_)
    · have e2 : (removeR Dc (nameB k)).2 ≠ 0 := by simpa using e
      repeat' ((conv => whnf); first | refine ⟨?_, True.intro⟩ | refine brn_t rfl ?_ | refine brn_f rfl ?_ | refine ob rfl ?_ | refine ob (by decide) ?_ | refine grow_same (Mem.le_refl _) ?_ | refine ob (Mem.le_refl _) ?_ | refine ⟨_, Mem.le_refl _, ?_⟩ | fail)
      rw [hrm, removeAll, if_pos e2]
      exact ⟨es2, rfl, h2'⟩
    · have e2 : ¬ (removeR Dc (nameB k)).2 ≠ 0 := by simpa using e
      rw [removeAll, if_neg e2] at hrm
      repeat' ((conv => whnf); first | refine ⟨?_, True.intro⟩ | refine brn_t rfl ?_ | refine brn_f rfl ?_ | refine ob rfl ?_ | refine ob (by decide) ?_ | refine grow_same (Mem.le_refl _) ?_ | refine ob (Mem.le_refl _) ?_ | refine ⟨_, Mem.le_refl _, ?_⟩ | fail)
      refine ob (inR_i64 (by first | omega | (dsimp only; omega))) ?_
      (conv => whnf)
      exact ⟨⟨i + 1, M2, _, es2⟩, ⟨by omega, h2', hrm⟩, by dsimp only; omega, ⟨(by repeat' first | exact True.intro | refine ⟨rfl, ?_⟩), (by repeat' first | exact True.intro | refine ⟨rfl, ?_⟩), Mem.le_refl _, rfl⟩⟩
  · have hge : i = n := by have := of_decide_eq_false e; dsimp only at this; omega
    subst hge
    rw [List.drop_of_length_le (by omega), removeAll] at hrm
    repeat' ((conv => whnf); first | refine ⟨?_, True.intro⟩ | refine brn_t rfl ?_ | refine brn_f rfl ?_ | refine ob rfl ?_ | refine ob (by decide) ?_ | refine grow_same (Mem.le_refl _) ?_ | refine ob (Mem.le_refl _) ?_ | refine ⟨_, Mem.le_refl _, ?_⟩ | fail)
    rw [hrm]
    exact ⟨ec, rfl, hL⟩
theorem pick1_ok {L : LogR} {bx : Nat} (hb : M.has bx T.p_wal_Log [ptr g]) (h : M.has g T.wal_Log (logCs p L)) : ∀ M', M.le M' → ∀ k : Int, CallsM Try.prog F.wal_Log_open_1 [.int .i64 k, ptr bx] M' fun v M'' => v = .bool (decide (k < L.first)) ∧ M'.le M'' := fun M' hle k => by
  refine fo_wal_Log_open_1 (by simp) ?_
  repeat' ((conv => whnf); first | refine ⟨?_, True.intro⟩ | refine brn_t rfl ?_ | refine brn_f rfl ?_ | refine ob rfl ?_ | refine ob (by decide) ?_ | refine grow_same (Mem.le_refl _) ?_ | refine ob (Mem.le_refl _) ?_ | refine ⟨_, Mem.le_refl _, ?_⟩ | fail)
  refine on ((hb.le hle).c1 rfl) ?_
  (conv => whnf); refine on ((h.le hle).c1 rfl) ?_
  repeat' ((conv => whnf); first | refine ⟨?_, True.intro⟩ | refine brn_t rfl ?_ | refine brn_f rfl ?_ | refine ob rfl ?_ | refine ob (by decide) ?_ | refine grow_same (Mem.le_refl _) ?_ | refine ob (Mem.le_refl _) ?_ | refine ⟨_, Mem.le_refl _, ?_⟩ | fail)
  exact ⟨rfl, Mem.le_refl _⟩
theorem pick2_ok {bx : Nat} {n : Int} (hb : M.has bx T.int [.int .i64 n]) : ∀ M', M.le M' → ∀ k : Int, CallsM Try.prog F.wal_Log_open_2 [.int .i64 k, ptr bx] M' fun v M'' => v = .bool (decide (n ≤ k)) ∧ M'.le M'' := fun M' hle k => by
  refine fo_wal_Log_open_2 (by simp) ?_
  repeat' ((conv => whnf); first | refine ⟨?_, True.intro⟩ | refine brn_t rfl ?_ | refine brn_f rfl ?_ | refine ob rfl ?_ | refine ob (by decide) ?_ | refine grow_same (Mem.le_refl _) ?_ | refine ob (Mem.le_refl _) ?_ | refine ⟨_, Mem.le_refl _, ?_⟩ | fail)
  refine on ((hb.le hle).c1 rfl) ?_
  repeat' ((conv => whnf); first | refine ⟨?_, True.intro⟩ | refine brn_t rfl ?_ | refine brn_f rfl ?_ | refine ob rfl ?_ | refine ob (by decide) ?_ | refine grow_same (Mem.le_refl _) ?_ | refine ob (Mem.le_refl _) ?_ | refine ⟨_, Mem.le_refl _, ?_⟩ | fail)
  exact ⟨rfl, Mem.le_refl _⟩
theorem pickS_ok {L : LogR} {bx : Nat} (hb : M.has bx T.p_wal_Log [ptr g]) (h : M.has g T.wal_Log (logCs p L)) : ∀ M', M.le M' → ∀ k : Int, CallsM Try.prog F.wal_Log_Size_1 [.int .i64 k, ptr bx] M' fun v M'' => v = .bool (decide (L.first ≤ k) && decide (k ≤ L.last)) ∧ M'.le M'' := fun M' hle k => by
  refine fo_wal_Log_Size_1 (by simp) ?_
  repeat' ((conv => whnf); first | refine ⟨?_, True.intro⟩ | refine brn_t rfl ?_ | refine brn_f rfl ?_ | refine ob rfl ?_ | refine ob (by decide) ?_ | refine grow_same (Mem.le_refl _) ?_ | refine ob (Mem.le_refl _) ?_ | refine ⟨_, Mem.le_refl _, ?_⟩ | fail)
  refine on ((hb.le hle).c1 rfl) ?_
  (conv => whnf); refine on ((h.le hle).c1 rfl) ?_
  (conv => whnf); refine brn (fun e => ?_) (fun e => ?_)
  · repeat' ((conv => whnf); first | refine ⟨?_, True.intro⟩ | refine brn_t rfl ?_ | refine brn_f rfl ?_ | refine ob rfl ?_ | refine ob (by decide) ?_ | refine grow_same (Mem.le_refl _) ?_ | refine ob (Mem.le_refl _) ?_ | refine ⟨_, Mem.le_refl _, ?_⟩ | fail)
    refine on ((hb.le hle).c1 rfl) ?_
    (conv => whnf); refine on ((h.le hle).c1 rfl) ?_
    repeat' ((conv => whnf); first | refine ⟨?_, True.intro⟩ | refine brn_t rfl ?_ | refine brn_f rfl ?_ | refine ob rfl ?_ | refine ob (by decide) ?_ | refine grow_same (Mem.le_refl _) ?_ | refine ob (Mem.le_refl _) ?_ | refine ⟨_, Mem.le_refl _, ?_⟩ | fail)
    exact ⟨by rw [e]; rfl, Mem.le_refl _⟩
  · repeat' ((conv => whnf); first | refine ⟨?_, True.intro⟩ | refine brn_t rfl ?_ | refine brn_f rfl ?_ | refine ob rfl ?_ | refine ob (by decide) ?_ | refine grow_same (Mem.le_refl _) ?_ | refine ob (Mem.le_refl _) ?_ | refine ⟨_, Mem.le_refl _, ?_⟩ | fail)
    exact ⟨by rw [e]; rfl, Mem.le_refl _⟩
end Go.Proofs.Ytnlghoenbhbfhaa

