/- Part of this proof; laid by program. -/
import Derived.Test.YtpdkkbpkplhdpaaGreatJ13
namespace Go.Proofs.YtpdkkbpkplhdpaaGreat
open Go Go.Vm
attribute [local irreducible] Brn Ob Grow CallsM inR LoopVC LoopVC0 Mem.row Mem.cells Mem.setCells Mem.upd Go.Vm.Own AppVC SrcVC StrVC NextVC New SrcOk subA NewSl Mem.textAt Mem.mapAt Mem.iterAt entryOf kfind Wr NewEls Elems
set_option maxRecDepth 10000
section
variable {M M0 : Mem} {g p b : Nat} {D : DiskR} {es : FsT}
structure LogR where
  first : Int
  last : Int
  size : Int
  failed : Bool
def lenL (D : DiskR) (k : Int) : Nat := if D.down = true then safeR D (nameB k) else (readR D (nameB k)).1.size
def downL (L : LogR) (e : Int) : LogR := { L with failed := L.failed || decide (e = 9) }
def syncL (D : DiskR) (L : LogR) : DiskR × LogR × Int :=
  if L.failed = true then (D, L, 7) else if D.down = true then (D, downL L 9, 9) else if lenL D L.last = safeR D (nameB L.last) then (D, L, 0)
  else ((syncR D (nameB L.last)).1, downL L (syncR D (nameB L.last)).2, (syncR D (nameB L.last)).2)
def beginL (D : DiskR) (L : LogR) : DiskR × LogR × Int × Int :=
  if (syncL D L).2.2 ≠ 0 then ((syncL D L).1, (syncL D L).2.1, 0, (syncL D L).2.2)
  else if lenL (syncL D L).1 L.last = 0 then ((syncL D L).1, (syncL D L).2.1, L.last, 0)
  else if L.last = 99999 then ((syncL D L).1, (syncL D L).2.1, 0, 1)
  else ((syncL D L).1, { (syncL D L).2.1 with last := L.last + 1 }, L.last + 1, 0)
def fullL (D : DiskR) (L : LogR) (n : Nat) : Prop := 0 < lenL D L.last ∧ L.size - lenL D L.last < n
instance (D : DiskR) (L : LogR) (n : Nat) : Decidable (fullL D L n) := inferInstanceAs (Decidable (_ ∧ _))
def roomL (D : DiskR) (L : LogR) (n : Nat) : DiskR × LogR × Int := if fullL D L n then ((beginL D L).1, (beginL D L).2.1, (beginL D L).2.2.2) else (D, L, 0)
def appendL (D : DiskR) (L : LogR) (q : List UInt8) : DiskR × LogR × Int :=
  if L.failed = true then (D, L, 7) else if putE q ≠ 0 then (D, L, putE q) else if D.down = true then (D, downL L 9, 9)
  else if (roomL D L (putB q).length).2.2 ≠ 0 then roomL D L (putB q).length
  else ((appendR (roomL D L (putB q).length).1 (nameB (roomL D L (putB q).length).2.1.last) (putB q)).1,
    downL (roomL D L (putB q).length).2.1 (appendR (roomL D L (putB q).length).1 (nameB (roomL D L (putB q).length).2.1.last) (putB q)).2,
    (appendR (roomL D L (putB q).length).1 (nameB (roomL D L (putB q).length).2.1.last) (putB q)).2)
@[reducible] def logCs (p : Nat) (L : LogR) : List Value := [ptr p, .int .i64 L.first, .int .i64 L.last, .int .i64 L.size, .bool L.failed]
structure LogAt (M0 M : Mem) (g p b : Nat) (D : DiskR) (es : FsT) (L : LogR) : Prop where
  disk : FreshD M0 M p b D es
  self : M.has g T.wal_Log (logCs p L)
  fresh : M0 g = none
theorem DAt.notB (h : DAt M p b D es) {g : Nat} {l : List Value} (hg : M.has g T.wal_Log l) : ¬ diskB p b es g := by
  rintro (e | e | ⟨q, hq, e | ⟨a, ha, e⟩⟩)
  · subst e; exact absurd (h.self.inj hg).1 (by decide)
  · exact h.map.nb hg e
  · subst e; exact absurd ((h.ents q hq).self.inj hg).1 (by decide)
  · obtain ⟨cs, hh⟩ := (h.ents q hq).row.block ha
    subst e
    exact absurd (hh.inj hg).1 (by decide)
theorem FreshD.mono {M1 : Mem} (h : FreshD M1 M p b D es) (hle : M0.le M1) : FreshD M0 M p b D es := ⟨Mem.le_trans hle h.le, h.at', h.rel, h.inv, fun y hy => by
  cases e : M0 y with
  | none => rfl
  | some z => have := hle _ _ e; rw [h.fresh y hy] at this; cases this⟩
theorem LogAt.to {L : LogR} (h : LogAt M0 M g p b D es L) {M' : Mem} (hle : M.le M') : LogAt M0 M' g p b D es L := ⟨h.disk.to hle, h.self.le hle, h.fresh⟩
theorem LogAt.call {L : LogR} (h : LogAt M0 M g p b D es L) {M' : Mem} {D' : DiskR} {es' : FsT} (h' : FreshD (M.minus (diskB p b es)) M' p b D' es') : LogAt M0 M' g p b D' es' L := by
  have hg : (M.minus (diskB p b es)).has g T.wal_Log (logCs p L) := by
    have := h.self
    unfold Mem.has at this ⊢
    unfold Mem.minus
    rw [if_neg (h.disk.at'.notB h.self)]
    exact this
  exact ⟨h'.mono h.disk.base.2, hg.le h'.le, h.fresh⟩
theorem LogAt.set {L : LogR} (h : LogAt M0 M g p b D es L) (L' : LogR) : LogAt M0 (M.setCells g T.wal_Log (logCs p L')) g p b D es L' := by
  have hk : Mem.keep (fun y => y = g) M (M.setCells g T.wal_Log (logCs p L')) := fun y o hy ho => by
    unfold Mem.setCells; rw [Mem.upd_ne _ _ hy]; exact ho
  refine ⟨⟨hk.le h.disk.le (fun y hy => by rw [hy]; exact h.fresh), h.disk.at'.mono fun y o hy ho => hk y o (fun e => ?_) ho, h.disk.rel, h.disk.inv, h.disk.fresh⟩, Mem.has_setCells, h.fresh⟩
  rw [e] at hy
  exact h.disk.at'.notB h.self hy
theorem name_size (k : Int) : (nameB k).size ≤ 4611686018427387904 := by
  unfold nameB
  split
  · show (0 : Nat) ≤ _; decide
  · show (6 : Nat) ≤ _; decide
theorem ready_okL {L : LogR} (h : M.has g T.wal_Log (logCs p L)) : CallsM Tryz.prog F.wal_Log_ready [ptr g] M fun v M' => v = .int .i64 (if L.failed = true then 7 else 0) ∧ M = M' := by
  refine fo_wal_Log_ready (by simp) ?_
  obtain ⟨fi, la, sz, fl⟩ := L
  cases fl
  · refine zR ?_
    refine on (h.c1 rfl) ?_
    refine zR ?_
    exact ⟨rfl, rfl⟩
  · refine zR ?_
    refine on (h.c1 rfl) ?_
    refine zR ?_
    exact ⟨rfl, rfl⟩
theorem told_okL {L : LogR} (h : LogAt M0 M g p b D es L) (e : Int) : CallsM Tryz.prog F.wal_Log_told [ptr g, .int .i64 e] M fun v M' => v = .int .i64 e ∧ LogAt M0 M' g p b D es (downL L e) := by
  refine fo_wal_Log_told (by simp) ?_
  have h' := h.set (downL L e)
  have hs := h.self
  clear h
  obtain ⟨fi, la, sz, fl⟩ := L
  cases fl
  · refine zR ?_
    refine on (hs.c1 rfl) ?_
    refine zR ?_
    refine on hs.cells ?_
    (conv => whnf); refine ob (by simp) ?_
    refine zR ?_
    exact ⟨rfl, h'⟩
  · refine zR ?_
    refine on (hs.c1 rfl) ?_
    refine zR ?_
    refine on hs.cells ?_
    (conv => whnf); refine ob (by simp) ?_
    refine zR ?_
    exact ⟨rfl, h'⟩
theorem down_okL (h : FreshD M0 M p b D es) : CallsM Tryz.prog F.disk_Disk_Down [ptr p] M fun v M' => v = .bool D.down ∧ M = M' := Down_ok h.at'
theorem read_e (D : DiskR) (s : ByteArray) : ((readR D s).2 = 9 ↔ D.down = true) := by
  unfold readR thereE readyE
  cases D.down <;> simp
  repeat' split
  all_goals simp_all
theorem length_ok {L : LogR} (h : LogAt M0 M g p b D es L) (k : Int) : CallsM Tryz.prog F.wal_Log_length [ptr g, .int .i64 k] M fun v M' => v = .int .i64 (lenL D k) ∧ M.le M' := by
  refine fo_wal_Log_length (by simp) ?_
  refine zR ?_
  refine on (h.self.c1 rfl) ?_
  refine zR ?_
  refine (name_ok k).mono ?_
  rintro v M1 ⟨rfl, hle1⟩
  refine zT (hle1) ?_
  have h1 := h.to hle1
  refine zR ?_
  refine (readF h1.disk (name_size k)).mono ?_
  rintro v M2 ⟨a, n, c, rfl, hn, hN⟩
  have h2 := h1.to hN.le
  refine zR ?_
  refine brn (fun e => ?_) (fun e => ?_)
  · have hd := (read_e D (nameB k)).1 (of_decide_eq_true e)
    refine zR ?_
    refine on (h2.self.c1 rfl) ?_
    refine zR ?_
    refine (name_ok k).mono ?_
    rintro v M3 ⟨rfl, hle3⟩
    have h3 := h2.to hle3
    refine zT (hle3) ?_
    refine zR ?_
    refine (safeF h3.disk (nameB k)).mono ?_
    rintro v _ ⟨rfl, rfl⟩
    refine zR ?_
    refine ⟨?_, Mem.le_trans hle1 (Mem.le_trans hN.le hle3)⟩
    unfold lenL; rw [if_pos hd]
  · have hd : ¬ D.down = true := fun hd => of_decide_eq_false e ((read_e D (nameB k)).2 hd)
    refine zR ?_
    refine ⟨?_, Mem.le_trans hle1 hN.le⟩
    unfold lenL; rw [if_neg hd, hn, bl_len]
theorem sync_okL {L : LogR} (h : LogAt M0 M g p b D es L) : CallsM Tryz.prog F.wal_Log_Sync [ptr g] M fun v M' => ∃ es', v = .int .i64 (syncL D L).2.2 ∧ LogAt M0 M' g p b (syncL D L).1 es' (syncL D L).2.1 := by
  refine fo_wal_Log_Sync (by simp) ?_
  refine zR ?_
  refine (ready_okL h.self).mono ?_
  rintro v _ ⟨rfl, rfl⟩
  (conv => whnf); refine brn (fun e => ?_) (fun e => ?_)
  · have hf : L.failed = true := by
      cases hf : L.failed
      · rw [hf] at e; exact absurd e (by decide)
      · rfl
    refine zR ?_
    rw [if_pos hf, show syncL D L = (D, L, 7) by simp [syncL, hf]]
    exact ⟨es, rfl, h⟩
  have hf : ¬ L.failed = true := fun hf => by rw [if_pos hf] at e; exact absurd e (by decide)
  refine zR ?_
  refine on (h.self.c1 rfl) ?_
  refine zR ?_
  refine (down_okL h.disk).mono ?_
  rintro v _ ⟨rfl, rfl⟩
  cases hd : D.down
  case true =>
    refine zR ?_
    refine (told_okL h 9).mono ?_
    rintro v M1 ⟨rfl, h1⟩
    refine zR ?_
    rw [show syncL D L = (D, downL L 9, 9) by simp [syncL, hf, hd]]
    exact ⟨es, rfl, h1⟩
  refine zR ?_
  refine on (h.self.c1 rfl) ?_
  (conv => whnf); refine on (h.self.c1 rfl) ?_
  (conv => whnf); refine on (h.self.c1 rfl) ?_
  refine zR ?_
  refine (length_ok h L.last).mono ?_
  rintro v M1 ⟨rfl, hle1⟩
  have h1 := h.to hle1
  refine zT (hle1) ?_
  refine zR ?_
  refine (name_ok L.last).mono ?_
  rintro v M2 ⟨rfl, hle2⟩
  have h2 := h1.to hle2
  refine zT ((Mem.le_trans hle1 hle2)) ?_
  refine zR ?_
  refine (safeF h2.disk (nameB L.last)).mono ?_
  rintro v _ ⟨rfl, rfl⟩
  (conv => whnf); refine brn (fun e => ?_) (fun e => ?_)
  · have e1 : lenL D L.last = safeR D (nameB L.last) := by have := of_decide_eq_true e; omega
    refine zR ?_
    rw [show syncL D L = (D, L, 0) by simp [syncL, hf, hd, e1]]
    exact ⟨es, rfl, h2⟩
  have e1 : ¬ lenL D L.last = safeR D (nameB L.last) := by have := of_decide_eq_false e; omega
  refine zR ?_
  refine on (h2.self.c1 rfl) ?_
  (conv => whnf); refine on (h2.self.c1 rfl) ?_
  refine zR ?_
  refine (name_ok L.last).mono ?_
  rintro v M3 ⟨rfl, hle3⟩
  have h3 := h2.to hle3
  refine zT (hle3) ?_
  refine zR ?_
  refine (syncF h3.disk.base.1 (name_size L.last)).mono ?_
  rintro v M4 ⟨es4, rfl, h4⟩
  have h4' := h3.call h4
  refine zR ?_
  refine (told_okL h4' _).mono ?_
  rintro v M5 ⟨rfl, h5⟩
  refine zR ?_
  rw [show syncL D L = ((syncR D (nameB L.last)).1, downL L (syncR D (nameB L.last)).2, (syncR D (nameB L.last)).2) by simp [syncL, hf, hd, e1]]
  exact ⟨es4, rfl, h5⟩
end
section
variable {M M0 : Mem} {g p b : Nat} {D : DiskR} {es : FsT}
theorem syncL_last (D : DiskR) (L : LogR) : (syncL D L).2.1.last = L.last ∧ (syncL D L).2.1.first = L.first ∧ (syncL D L).2.1.size = L.size := by
  unfold syncL; repeat' split
  all_goals exact ⟨rfl, rfl, rfl⟩
theorem begin_okL {L : LogR} (h : LogAt M0 M g p b D es L) (hl : L.last ≤ 99999) (hl1 : 1 ≤ L.last) : CallsM Tryz.prog F.wal_Log_Begin [ptr g] M fun v M' => ∃ es', v = .tuple #[.int .i64 (beginL D L).2.2.1, .int .i64 (beginL D L).2.2.2] ∧ LogAt M0 M' g p b (beginL D L).1 es' (beginL D L).2.1 := by
  refine fo_wal_Log_Begin (by simp) ?_
  refine zR ?_
  refine (sync_okL h).mono ?_
  rintro v M1 ⟨es1, rfl, h1⟩
  obtain ⟨l1, l2, l3⟩ := syncL_last D L
  obtain ⟨S, hS⟩ : ∃ S, S = syncL D L := ⟨_, rfl⟩
  have hB : beginL D L = if S.2.2 ≠ 0 then (S.1, S.2.1, 0, S.2.2) else if lenL S.1 L.last = 0 then (S.1, S.2.1, L.last, 0) else if L.last = 99999 then (S.1, S.2.1, 0, 1) else (S.1, { S.2.1 with last := L.last + 1 }, L.last + 1, 0) := by rw [hS]; rfl
  rw [← hS] at h1 l1 l2 l3 ⊢
  (conv => whnf); refine brn (fun e => ?_) (fun e => ?_)
  · have e1 : S.2.2 ≠ 0 := by simpa using e
    refine zR ?_
    rw [hB, if_pos e1]
    exact ⟨es1, rfl, h1⟩
  have e1 : ¬ S.2.2 ≠ 0 := by simpa using e
  refine zR ?_
  refine on (h1.self.c1 rfl) ?_
  refine zR ?_
  rw [l1]
  refine (length_ok h1 L.last).mono ?_
  rintro v M2 ⟨rfl, hle2⟩
  have h2 := h1.to hle2
  (conv => whnf); refine brn (fun e => ?_) (fun e => ?_)
  · have e2 : lenL S.1 L.last = 0 := by have := of_decide_eq_true e; omega
    refine zR ?_
    refine on (h2.self.c1 rfl) ?_
    refine zR ?_
    rw [hB, if_neg e1, if_pos e2, l1]
    exact ⟨es1, rfl, h2⟩
  have e2 : ¬ lenL S.1 L.last = 0 := by have := of_decide_eq_false e; omega
  refine zR ?_
  refine on (h2.self.c1 rfl) ?_
  refine zR ?_
  rw [l1]
  refine brn (fun e => ?_) (fun e => ?_)
  · have e3 : L.last = 99999 := of_decide_eq_true e
    refine zR ?_
    rw [hB, if_neg e1, if_neg e2, if_pos e3]
    exact ⟨es1, rfl, h2⟩
  have e3 : ¬ L.last = 99999 := of_decide_eq_false e
  refine zR ?_
  refine on (h2.self.c1 rfl) ?_
  (conv => whnf)
  rw [l1]
  refine ob (inR_i64 (by omega)) ?_
  (conv => whnf); refine on h2.self.cells ?_
  (conv => whnf); refine ob (by simp) ?_
  have h3 := h2.set { S.2.1 with last := L.last + 1 }
  obtain ⟨M3, hM3⟩ : ∃ M3, M3 = M2.setCells g T.wal_Log (logCs p { S.2.1 with last := L.last + 1 }) := ⟨_, rfl⟩
  rw [← hM3] at h3
  (conv => whnf)
  erw [← hM3]
  refine on (h3.self.c1 rfl) ?_
  refine zR ?_
  rw [hB, if_neg e1, if_neg e2, if_neg e3]
  exact ⟨es1, rfl, h3⟩
def logB (g p b : Nat) (es : FsT) : Nat → Prop := fun y => y = g ∨ diskB p b es y
theorem LogAt.full {L : LogR} (h : LogAt M0 M g p b D es L) {y : Nat} (hy : logB g p b es y) : M y ≠ none := by
  rcases hy with rfl | hy
  · have := h.self; unfold Mem.has at this; rw [this]; simp
  · exact h.disk.at'.full hy
theorem LogAt.mono {M1 : Mem} {L : LogR} (h : LogAt M1 M g p b D es L) (hle : M0.le M1) : LogAt M0 M g p b D es L := ⟨h.disk.mono hle, h.self, by
  cases e : M0 g with
  | none => rfl
  | some z => have := hle _ _ e; rw [h.fresh] at this; cases this⟩
theorem LogAt.base {L : LogR} (h : LogAt M0 M g p b D es L) : LogAt (M.minus (logB g p b es)) M g p b D es L ∧ M0.le (M.minus (logB g p b es)) := by
  refine ⟨⟨⟨Mem.minus_le _ _, h.disk.at', h.disk.rel, h.disk.inv, fun y hy => Mem.minus_in (.inr hy)⟩, h.self, Mem.minus_in (.inl rfl)⟩, Mem.le_minus h.disk.le fun y hy => ?_⟩
  rcases hy with rfl | hy
  · exact h.fresh
  · exact h.disk.fresh y hy
theorem append_okL {L : LogR} (h : LogAt M0 M g p b D es L) (hl : L.last ≤ 99999) (hl1 : 1 ≤ L.last) (hsz : 0 ≤ L.size ∧ L.size ≤ 1048576) {a : Option Addr} {n c : Nat} {q : List UInt8} (hs : SrcOk M 1 a n (q.map byteV)) (hn : n ≤ 2097152) (hnc : n ≤ c) (hlen : lenL D L.last ≤ 1048576) :
    CallsM Tryz.prog F.wal_Log_Append [ptr g, .slice a n c] M fun v M' => ∃ es', v = .int .i64 (appendL D L q).2.2 ∧ LogAt M0 M' g p b (appendL D L q).1 es' (appendL D L q).2.1 := by
  refine fo_wal_Log_Append (by simp) ?_
  refine zR ?_
  refine (ready_okL h.self).mono ?_
  rintro v _ ⟨rfl, rfl⟩
  (conv => whnf); refine brn (fun e => ?_) (fun e => ?_)
  · have hf : L.failed = true := by
      cases hf : L.failed
      · rw [hf] at e; exact absurd e (by decide)
      · rfl
    refine zR ?_
    rw [if_pos hf, show appendL D L q = (D, L, 7) by simp [appendL, hf]]
    exact ⟨es, rfl, h⟩
  have hf : ¬ L.failed = true := fun hf => by rw [if_pos hf] at e; exact absurd e (by decide)
  refine zR ?_
  refine (put_ok hs hn hnc).mono ?_
  rintro v M1 (⟨he, rfl, rfl⟩ | ⟨he, a', n', c', hn', rfl, hN⟩)
  · (conv => whnf); refine brn_t (by simpa using he) ?_
    refine zR ?_
    rw [show appendL D L q = (D, L, putE q) by simp [appendL, hf, he]]
    exact ⟨es, rfl, h⟩
  have h1 := h.to hN.le
  have hsB := hN.src
  have hql : (putB q).length = 8 + q.length := putB_len q
  have hqn := hs.maplen
  refine zR ?_
  refine on (h1.self.c1 rfl) ?_
  refine zR ?_
  refine (down_okL h1.disk).mono ?_
  rintro v _ ⟨rfl, rfl⟩
  cases hd : D.down
  case true =>
    refine zR ?_
    refine (told_okL h1 9).mono ?_
    rintro v M2 ⟨rfl, h2⟩
    refine zR ?_
    rw [show appendL D L q = (D, downL L 9, 9) by simp [appendL, hf, he, hd]]
    exact ⟨es, rfl, h2⟩
  refine zR ?_
  refine on (h1.self.c1 rfl) ?_
  refine zR ?_
  refine (length_ok h1 L.last).mono ?_
  rintro v M2 ⟨rfl, hle2⟩
  have h2 := h1.to hle2
  have hA : ¬ (roomL D L (putB q).length).2.2 ≠ 0 → appendL D L q = ((appendR (roomL D L (putB q).length).1 (nameB (roomL D L (putB q).length).2.1.last) (putB q)).1,
    downL (roomL D L (putB q).length).2.1 (appendR (roomL D L (putB q).length).1 (nameB (roomL D L (putB q).length).2.1.last) (putB q)).2,
    (appendR (roomL D L (putB q).length).1 (nameB (roomL D L (putB q).length).2.1.last) (putB q)).2) := fun e0 => by
    unfold appendL; rw [if_neg hf, if_neg (by simp [he]), if_neg (by simp [hd]), if_neg e0]
  have hsM : SrcOk (M2.minus (logB g p b es)) 1 a' n' ((putB q).map byteV) := (hsB.le hle2).minus fun z hz hb => h.full hb (hN.block hz).1
  (conv => whnf); refine brn (fun e => ?_) (fun e => ?_)
  · have e1 : 0 < lenL D L.last := by have := of_decide_eq_true e; omega
    refine zR ?_
    refine on (h2.self.c1 rfl) ?_
    (conv => whnf); refine ob (inR_i64 (by omega)) ?_
    (conv => whnf); refine brn (fun e => ?_) (fun e => ?_)
    · have e2 : L.size - lenL D L.last < (putB q).length := by have := of_decide_eq_true e; omega
      have hfu : fullL D L (putB q).length := ⟨e1, e2⟩
      have hRe : roomL D L (putB q).length = ((beginL D L).1, (beginL D L).2.1, (beginL D L).2.2.2) := by unfold roomL; rw [if_pos hfu]
      refine zR ?_
      refine (begin_okL h2.base.1 hl hl1).mono ?_
      rintro v M3 ⟨es3, rfl, h3b⟩
      have hs3 := hsM.le h3b.disk.le
      have h3 := h3b.mono h2.base.2
      (conv => whnf); refine brn (fun e => ?_) (fun e => ?_)
      · have e3 : (beginL D L).2.2.2 ≠ 0 := by simpa using e
        refine zR ?_
        rw [show appendL D L q = roomL D L (putB q).length by unfold appendL; rw [if_neg hf, if_neg (by simp [he]), if_neg (by simp [hd]), if_pos (by rw [hRe]; exact e3)], hRe]
        exact ⟨es3, rfl, h3⟩
      · have e3 : (beginL D L).2.2.2 = 0 := by simpa using e
        refine zR ?_
        refine on (h3.self.c1 rfl) ?_
        (conv => whnf); refine on (h3.self.c1 rfl) ?_
        refine zR ?_
        refine (name_ok _).mono ?_
        rintro v M4 ⟨rfl, hle4⟩
        have h4 := h3.to hle4
        refine zT (hle4) ?_
        refine zR ?_
        refine (appendF h4.disk.base.1 (name_size _) (hs3.le hle4)).mono ?_
        rintro v M5 ⟨es5, rfl, h5⟩
        have h5' := h4.call h5
        refine zR ?_
        refine (told_okL h5' _).mono ?_
        rintro v M6 ⟨rfl, h6⟩
        refine zR ?_
        rw [hA (by rw [hRe]; exact fun h => h e3), hRe]
        exact ⟨es5, rfl, h6⟩
    · have e2 : ¬ L.size - lenL D L.last < (putB q).length := by have := of_decide_eq_false e; omega
      have hRe : roomL D L (putB q).length = (D, L, 0) := by unfold roomL; rw [if_neg (fun h => e2 h.2)]
      have e3 : (0 : Int) = 0 := rfl
      rename Mem => M3
      have h3 := h2
      have hs3 := hsB.le hle2
      refine zR ?_
      refine on (h3.self.c1 rfl) ?_
      (conv => whnf); refine on (h3.self.c1 rfl) ?_
      refine zR ?_
      refine (name_ok _).mono ?_
      rintro v M4 ⟨rfl, hle4⟩
      have h4 := h3.to hle4
      refine zT (hle4) ?_
      refine zR ?_
      refine (appendF h4.disk.base.1 (name_size _) (hs3.le hle4)).mono ?_
      rintro v M5 ⟨es5, rfl, h5⟩
      have h5' := h4.call h5
      refine zR ?_
      refine (told_okL h5' _).mono ?_
      rintro v M6 ⟨rfl, h6⟩
      refine zR ?_
      rw [hA (by rw [hRe]; exact fun h => h e3), hRe]
      exact ⟨es5, rfl, h6⟩
  · have e1 : ¬ 0 < lenL D L.last := by have := of_decide_eq_false e; omega
    have hRe : roomL D L (putB q).length = (D, L, 0) := by unfold roomL; rw [if_neg (fun h => e1 h.1)]
    have e3 : (0 : Int) = 0 := rfl
    rename Mem => M3
    have h3 := h2
    have hs3 := hsB.le hle2
    refine zR ?_
    refine on (h3.self.c1 rfl) ?_
    (conv => whnf); refine on (h3.self.c1 rfl) ?_
    refine zR ?_
    refine (name_ok _).mono ?_
    rintro v M4 ⟨rfl, hle4⟩
    have h4 := h3.to hle4
    refine zT (hle4) ?_
    refine zR ?_
    refine (appendF h4.disk.base.1 (name_size _) (hs3.le hle4)).mono ?_
    rintro v M5 ⟨es5, rfl, h5⟩
    have h5' := h4.call h5
    refine zR ?_
    refine (told_okL h5' _).mono ?_
    rintro v M6 ⟨rfl, h6⟩
    refine zR ?_
    rw [hA (by rw [hRe]; exact fun h => h e3), hRe]
    exact ⟨es5, rfl, h6⟩
end
section
variable {M M0 : Mem} {g p b : Nat} {D : DiskR} {es : FsT}
def numR (s : ByteArray) : Int := if s.size = 6 ∧ ((s.toList.getD 0 0).toNat : Int) = 119 then ((bl s).drop 1).foldl (fun a c => 10 * a + ((c.toNat : Int) - 48)) 0 else 0
theorem numR_no {s : ByteArray} (h : NoSeg s) : numR s = 0 := if_neg fun ⟨a, b⟩ => h.elim (fun h => h a) fun h => h b
theorem numR_name {k : Int} (h : ¬ (k < 1 ∨ 99999 < k)) : numR (nameB k) = k := by
  rw [nameC_eq h, numR, if_pos ⟨rfl, by rw [nameC_head]; rfl⟩]
  have hnn : 0 ≤ k := by omega
  have a1 : kk k 1 = k / 10 := by show (kk k 0).tdiv 10 = _; rw [Int.tdiv_eq_ediv_of_nonneg (kk_nn hnn 0)]; rfl
  have a2 : kk k 2 = k / 100 := by show (kk k 1).tdiv 10 = _; rw [Int.tdiv_eq_ediv_of_nonneg (kk_nn hnn 1), a1]; omega
  have a3 : kk k 3 = k / 1000 := by show (kk k 2).tdiv 10 = _; rw [Int.tdiv_eq_ediv_of_nonneg (kk_nn hnn 2), a2]; omega
  have a4 : kk k 4 = k / 10000 := by show (kk k 3).tdiv 10 = _; rw [Int.tdiv_eq_ediv_of_nonneg (kk_nn hnn 3), a3]; omega
  have a0 : kk k 0 = k := rfl
  have d0 := dg_range hnn 0
  have d1 := dg_range hnn 1
  have d2 := dg_range hnn 2
  have d3 := dg_range hnn 3
  have d4 := dg_range hnn 4
  show 10 * (10 * (10 * (10 * (10 * 0 + (((dgB k 4).toNat : Int) - 48)) + (((dgB k 3).toNat : Int) - 48)) + (((dgB k 2).toNat : Int) - 48)) + (((dgB k 1).toNat : Int) - 48)) + (((dgB k 0).toNat : Int) - 48) = k
  omega
def NamesW (D : DiskR) : Prop := ∀ f ∈ D.l, (∃ k : Int, ¬ (k < 1 ∨ 99999 < k) ∧ f.name = nameB k) ∨ NoSeg f.name
theorem NamesW.num (h : NamesW D) {f : FileR} (hf : f ∈ D.l) : (¬ (numR f.name < 1 ∨ 99999 < numR f.name) ∧ f.name = nameB (numR f.name)) ∨ (NoSeg f.name ∧ numR f.name = 0) := by
  rcases h f hf with ⟨k, h1, h2⟩ | h1
  · rw [h2, numR_name h1]; exact .inl ⟨h1, rfl⟩
  · exact .inr ⟨h1, numR_no h1⟩
def segsR (D : DiskR) (pick : Int → Bool) : List Int := (D.l.map fun f => numR f.name).filter fun k => decide (0 < k) && pick k
theorem segs_ok {L : LogR} (h : LogAt M0 M g p b D es L) (hW : NamesW D) {gf : Nat} {cv : Value} {pick : Int → Bool}
    (hp : ∀ M', M.le M' → ∀ k : Int, CallsM Tryz.prog gf [.int .i64 k, cv] M' fun v M'' => v = .bool (pick k) ∧ M'.le M'') :
    CallsM Tryz.prog F.wal_Log_segments [ptr g, .func (.func gf) #[] #[cv]] M fun v M' => ∃ a n c, v = .slice a n c ∧ n = (segsR D pick).length ∧ NewSl M T.int 1 a n c ((segsR D pick).map intV) M' := by
  refine fo_wal_Log_segments (by simp) ?_
  refine zR ?_
  refine on (h.self.c1 rfl) ?_
  refine zR ?_
  refine (Names_ok h.disk.at' h.disk.rel h.disk.inv).mono ?_
  rintro v M1 ⟨na, nc, rfl, hNm⟩
  have hln := h.disk.inv.len
  (conv => whnf)
  refine loopF (σ := Nat × Mem × Option Addr × Nat × List Int) [15, 5] (fun y => [(15, .int .i64 y.1), (5, .slice y.2.2.1 y.2.2.2.2.length y.2.2.2.1)]) (fun _ => []) (fun y => y.2.1)
    (fun | ⟨i, Mc, a, c, out⟩ => i ≤ D.l.length ∧ NewSl M1 T.int 1 a out.length c (out.map intV) Mc ∧ out = ((D.l.take i).map fun f => numR f.name).filter (fun k => decide (0 < k) && pick k) ∧ out.length ≤ i) (fun y => D.l.length - y.1) ⟨0, M1, none, 0, []⟩ ⟨by omega, NewSl.none M1 T.int 1, by simp, by simp⟩ zS ?_
  rintro ⟨i, Mc, a, c, out⟩ ⟨hi, hN, hout, hol⟩
  (conv => whnf); refine brn (fun e => ?_) (fun e => ?_)
  · have hlt : i < D.l.length := by have := of_decide_eq_true e; dsimp only at this; omega
    obtain ⟨hk1, b1, o1, e1, hr1⟩ := (hNm.src.le hN.le).at (i := i) hlt
    have hx : D.l[i]? = some D.l[i] := List.getElem?_eq_getElem hlt
    have hnm : (D.l.map (·.name))[i] = D.l[i].name := by simp
    rw [hnm] at hr1
    have hnum := hW.num (List.mem_of_getElem? hx)
    have htk : ((D.l.take (i + 1)).map fun f => numR f.name).filter (fun k => decide (0 < k) && pick k) = ((D.l.take i).map fun f => numR f.name).filter (fun k => decide (0 < k) && pick k) ++ (if (decide (0 < numR D.l[i].name) && pick (numR D.l[i].name)) = true then [numR D.l[i].name] else []) := by
      rw [List.take_add_one, hx, List.map_append, List.filter_append]
      congr 1
      cases hpk : (decide (0 < numR D.l[i].name) && pick (numR D.l[i].name)) <;> simp [hpk]
    generalize D.l[i] = f at *
    rcases hnum with ⟨hnk, hnn⟩ | ⟨hno, hn0⟩
    rotate_left
    · rw [hn0, if_neg (by simp), List.append_nil] at htk
      (conv => whnf); refine ob (by first | omega | (dsimp only; omega)) ?_
      (conv => whnf); refine atp e1 ?_
      (conv => whnf); refine on hr1 ?_
      refine zR ?_
      refine (number_none hno).mono ?_
      rintro v _ ⟨rfl, rfl⟩
      refine zR ?_
      refine ob (inR_i64 (by first | omega | (dsimp only; omega))) ?_
      (conv => whnf)
      exact ⟨⟨i + 1, Mc, a, c, out⟩, ⟨by omega, hN, by rw [htk, hout], by omega⟩, by dsimp only; omega, zS⟩
    generalize hkk : numR f.name = k at *
    rw [hnn] at hr1
    have hkp : decide (0 < k) = true := decide_eq_true (by omega)
    rw [hkp, Bool.true_and] at htk
    (conv => whnf); refine ob (by first | omega | (dsimp only; omega)) ?_
    (conv => whnf); refine atp e1 ?_
    (conv => whnf); refine on hr1 ?_
    refine zR ?_
    refine (number_ok k hnk).mono ?_
    rintro v M2 ⟨rfl, hle2⟩
    (conv => whnf); refine brn_t (decide_eq_true (by omega)) ?_
    refine zR ?_
    refine (hp M2 (Mem.le_trans hNm.le (Mem.le_trans hN.le hle2)) k).mono ?_
    rintro v M3 ⟨rfl, hle3⟩
    have hN3 := (hN.up hle2).up hle3
    cases hpk : pick k
    case true =>
      rw [hpk, if_pos rfl] at htk
      refine zR ?_
      refine appN M1 _ hN3 (by first | omega | (dsimp only; omega)) (by simp [maxLen]; omega) (by simp [Value.oneCell']) fun a4 c4 M4 hN4 => ?_
      (conv => whnf); refine ob (inR_i64 (by first | omega | (dsimp only; omega))) ?_
      (conv => whnf)
      refine ⟨⟨i + 1, M4, a4, c4, out ++ [k]⟩, ⟨by omega, by simpa using hN4, by rw [htk, hout], by simp; omega⟩, by dsimp only; omega, ?_⟩
      rw [List.length_append]
      exact zS
    case false =>
      rw [hpk, if_neg (by decide), List.append_nil] at htk
      refine zR ?_
      refine ob (inR_i64 (by first | omega | (dsimp only; omega))) ?_
      (conv => whnf)
      exact ⟨⟨i + 1, M3, a, c, out⟩, ⟨by omega, hN3, by rw [htk, hout], by omega⟩, by dsimp only; omega, zS⟩
  · have hge : i = D.l.length := by have := of_decide_eq_false e; dsimp only at this; omega
    subst hge
    rw [List.take_length] at hout
    refine zR ?_
    exact ⟨a, out.length, c, rfl, by rw [hout]; rfl, by rw [show segsR D pick = out from hout.symm]; exact hN.mono hNm.le⟩
end
section
variable {M M0 : Mem} {g p b : Nat} {D : DiskR} {es : FsT}
def removeAll (D : DiskR) : List Int → DiskR × Int
  | [] => (D, 0)
  | k :: r => if (removeR D (nameB k)).2 ≠ 0 then removeR D (nameB k) else removeAll (removeR D (nameB k)).1 r
theorem remove_okL {L : LogR} (h : LogAt M0 M g p b D es L) {a : Option Addr} {n c : Nat} {ks : List Int} (hs : SrcOk M0 1 a n (ks.map intV)) (hn : n ≤ 1000000) :
    CallsM Tryz.prog F.wal_Log_remove [ptr g, .slice a n c] M fun v M' => ∃ es', v = .int .i64 (removeAll D ks).2 ∧ LogAt M0 M' g p b (removeAll D ks).1 es' L := by
  refine fo_wal_Log_remove (by simp) ?_
  have hkl := hs.maplen
  (conv => whnf)
  refine loopF (σ := Nat × Mem × DiskR × FsT) [10] (fun y => [(10, .int .i64 y.1)]) (fun _ => []) (fun y => y.2.1)
    (fun | ⟨i, Mc, Dc, ec⟩ => i ≤ n ∧ LogAt M0 Mc g p b Dc ec L ∧ removeAll D ks = removeAll Dc (ks.drop i)) (fun y => n - y.1) ⟨0, M, D, es⟩ ⟨by omega, h, rfl⟩ zS ?_
  rintro ⟨i, Mc, Dc, ec⟩ ⟨hi, hL, hrm⟩
  (conv => whnf); refine brn (fun e => ?_) (fun e => ?_)
  · have hlt : i < n := by have := of_decide_eq_true e; dsimp only at this; omega
    obtain ⟨hk1, b1, o1, e1, hr1⟩ := (hs.le hL.disk.le).at hlt
    rw [List.drop_eq_getElem_cons hk1] at hrm
    generalize ks[i] = k at *
    (conv => whnf); refine ob (by first | omega | (dsimp only; omega)) ?_
    (conv => whnf); refine atp e1 ?_
    (conv => whnf); refine on hr1 ?_
    refine zR ?_
    refine on (hL.self.c1 rfl) ?_
    refine zR ?_
    refine (name_ok k).mono ?_
    rintro v M1 ⟨rfl, hle1⟩
    have h1 := hL.to hle1
    refine zT (hle1) ?_
    refine zR ?_
    refine (removeF h1.disk.base.1 (name_size k)).mono ?_
    rintro v M2 ⟨es2, rfl, h2⟩
    have h2' := h1.call h2
    (conv => whnf); refine brn (fun e => ?_) (fun e => ?_)
    · have e2 : (removeR Dc (nameB k)).2 ≠ 0 := by simpa using e
      refine zR ?_
      rw [hrm, removeAll, if_pos e2]
      exact ⟨es2, rfl, h2'⟩
    · have e2 : ¬ (removeR Dc (nameB k)).2 ≠ 0 := by simpa using e
      rw [removeAll, if_neg e2] at hrm
      refine zR ?_
      refine ob (inR_i64 (by first | omega | (dsimp only; omega))) ?_
      (conv => whnf)
      exact ⟨⟨i + 1, M2, _, es2⟩, ⟨by omega, h2', hrm⟩, by dsimp only; omega, zS⟩
  · have hge : i = n := by have := of_decide_eq_false e; dsimp only at this; omega
    subst hge
    rw [List.drop_of_length_le (by omega), removeAll] at hrm
    refine zR ?_
    rw [hrm]
    exact ⟨ec, rfl, hL⟩
theorem pick1_ok {L : LogR} {bx : Nat} (hb : M.has bx T.p_wal_Log [ptr g]) (h : M.has g T.wal_Log (logCs p L)) : ∀ M', M.le M' → ∀ k : Int, CallsM Tryz.prog F.wal_Log_open_1 [.int .i64 k, ptr bx] M' fun v M'' => v = .bool (decide (k < L.first)) ∧ M'.le M'' := fun M' hle k => by
  refine fo_wal_Log_open_1 (by simp) ?_
  refine zR ?_
  refine on ((hb.le hle).c1 rfl) ?_
  (conv => whnf); refine on ((h.le hle).c1 rfl) ?_
  refine zR ?_
  exact ⟨rfl, Mem.le_refl _⟩
theorem pick2_ok {bx : Nat} {n : Int} (hb : M.has bx T.int [.int .i64 n]) : ∀ M', M.le M' → ∀ k : Int, CallsM Tryz.prog F.wal_Log_open_2 [.int .i64 k, ptr bx] M' fun v M'' => v = .bool (decide (n ≤ k)) ∧ M'.le M'' := fun M' hle k => by
  refine fo_wal_Log_open_2 (by simp) ?_
  refine zR ?_
  refine on ((hb.le hle).c1 rfl) ?_
  refine zR ?_
  exact ⟨rfl, Mem.le_refl _⟩
end
section
variable {M : Mem}
theorem reverse_okL {B : Mem} {a : Option Addr} {n c : Nat} {ks : List Int} (h : NewSl B T.int 1 a n c (ks.map intV) M) (hn : n ≤ 1000000) :
    CallsM Tryz.prog F.slices_Reverse_int_int [.slice a n c] M fun v M' => v = .tuple #[] ∧ NewSl B T.int 1 a n c (ks.reverse.map intV) M' ∧ Mem.keep (blk a) M M' := by
  refine fo_slices_Reverse_int_int (by simp) ?_
  have hkl := h.src.maplen
  refine zR ?_
  refine ob (inR_i64 (by first | omega | (dsimp only; omega))) ?_
  (conv => whnf)
  refine loopF (σ := Nat × Mem × List Int) [2, 3] (fun y => [(2, .int .i64 y.1), (3, .int .i64 (n - 1 - y.1))]) (fun _ => []) (fun y => y.2.1)
    (fun | ⟨i, Mc, cur⟩ => 2 * i ≤ n + 1 ∧ NewSl B T.int 1 a n c (cur.map intV) Mc ∧ Mem.keep (blk a) M Mc ∧ ∀ x y, x + y + 1 = n → cur[x]? = if x < i ∨ y < i then ks[y]? else ks[x]?) (fun y => n - y.1) ⟨0, M, ks⟩ ⟨by omega, h, Mem.keep_refl _ _, fun x y _ => by simp⟩ ?_ ?_
  · dsimp only
    rw [show (n : Int) - 1 - ((0 : Nat) : Int) = n - 1 by omega]; exact zS
  rintro ⟨i, Mc, cur⟩ ⟨hi, hN, hk, hc⟩
  have hcl := hN.src.maplen
  (conv => whnf); refine brn (fun e => ?_) (fun e => ?_)
  · have hlt : 2 * i + 1 < n := by have := of_decide_eq_true e; dsimp only at this; omega
    obtain ⟨j, hj⟩ : ∃ j, j = n - 1 - i := ⟨_, rfl⟩
    have hjI : (n : Int) - 1 - (i : Int) = (j : Int) := by omega
    obtain ⟨hi1, b1, o1, e1, hr1⟩ := hN.src.at (i := i) (by omega)
    obtain ⟨hj1, b2, o2, e2, hr2⟩ := hN.src.at (i := j) (by omega)
    rw [e1] at e2
    simp only [Option.some.injEq, Addr.mk.injEq, and_true] at e2
    obtain ⟨rfl, rfl⟩ := e2
    obtain ⟨b3, cs3, e3, hb3, hcell3, hlen3, hst3⟩ := hN.store1 (j := i) (by omega)
    rw [e1] at e3
    simp only [Option.some.injEq, Addr.mk.injEq, and_true] at e3
    obtain ⟨rfl, rfl⟩ := e3
    obtain ⟨hN4, hk4⟩ := hst3 cur[j]
    obtain ⟨M4, hM4⟩ : ∃ M4, M4 = Mc.setCells b1 T.int (splice cs3 (0 + i * 1) [intV cur[j]]) := ⟨_, rfl⟩
    rw [← hM4] at hN4 hk4
    obtain ⟨b5, cs5, e5, hb5, hcell5, hlen5, hst5⟩ := hN4.store1 (j := j) (by omega)
    rw [e1] at e5
    simp only [Option.some.injEq, Addr.mk.injEq, and_true] at e5
    obtain ⟨rfl, -⟩ := e5
    obtain ⟨hN6, hk6⟩ := hst5 cur[i]
    dsimp only
    rw [hjI]
    (conv => whnf); refine ob (by first | omega | (dsimp only; omega)) ?_
    (conv => whnf); refine atp e1 ?_
    (conv => whnf); refine on hr2 ?_
    (conv => whnf); refine ob (by first | omega | (dsimp only; omega)) ?_
    (conv => whnf); refine atp e1 ?_
    (conv => whnf); refine on hr1 ?_
    (conv => whnf); refine ob (by first | omega | (dsimp only; omega)) ?_
    (conv => whnf); refine atp e1 ?_
    refine zR ?_
    refine on hcell3 ?_
    (conv => whnf); refine ob (by simpa using hlen3) ?_
    (conv => whnf)
    erw [← hM4]
    refine zR ?_
    refine ob (by first | omega | (dsimp only; omega)) ?_
    (conv => whnf); refine atp e1 ?_
    refine zR ?_
    refine on hcell5 ?_
    (conv => whnf); refine ob (by simpa using hlen5) ?_
    refine zR ?_
    refine ob (inR_i64 (by first | omega | (dsimp only; omega))) ?_
    (conv => whnf); refine ob (inR_i64 (by first | omega | (dsimp only; omega))) ?_
    (conv => whnf)
    refine ⟨⟨i + 1, _, (cur.set i cur[j]).set j cur[i]⟩, ⟨by omega, hN6, Mem.keep_trans hk (Mem.keep_trans hk4 hk6), fun x y hxy => ?_⟩, by dsimp only; omega, ?_⟩
    · have h1 := hc x y hxy
      have h2 := hc i j (by omega)
      have h3 := hc j i (by omega)
      rw [List.getElem?_eq_getElem hi1] at h2
      rw [List.getElem?_eq_getElem hj1] at h3
      rw [if_neg (by omega)] at h2 h3
      by_cases ex : x = j
      · subst ex
        have ey : y = i := by omega
        subst ey
        rw [List.getElem?_set_self (by simpa using hj1), if_pos (.inr (by omega)), h2]
      · rw [List.getElem?_set_ne (Ne.symm ex)]
        by_cases ex2 : x = i
        · subst ex2
          have ey : y = j := by omega
          subst ey
          rw [List.getElem?_set_self hi1, if_pos (.inl (by omega)), h3]
        · rw [List.getElem?_set_ne (Ne.symm ex2), h1]
          have : (x < i ∨ y < i) ↔ (x < i + 1 ∨ y < i + 1) := by omega
          by_cases hh : x < i ∨ y < i
          · rw [if_pos hh, if_pos (this.1 hh)]
          · rw [if_neg hh, if_neg (fun h => hh (this.2 h))]
    · dsimp only
      rw [show (n : Int) - 1 - ((i + 1 : Nat) : Int) = (j : Int) - 1 by omega]; exact zS
  · have hge : n ≤ 2 * i + 1 := by have := of_decide_eq_false e; dsimp only at this; omega
    have hrev : cur = ks.reverse := by
      apply List.ext_getElem?
      intro x
      by_cases hx : x < n
      · have h1 := hc x (n - 1 - x) (by omega)
        rw [h1, List.getElem?_reverse (by omega), hkl]
        split
        · rfl
        · have : x = n - 1 - x := by omega
          rw [← this]
      · rw [List.getElem?_eq_none (by omega), List.getElem?_eq_none (by simp; omega)]
    refine zR ?_
    exact ⟨rfl, hrev ▸ hN, hk⟩
end
section
variable {M M0 : Mem} {g p b : Nat} {D : DiskR} {es : FsT}
def openLoop : Nat → DiskR → Int → Int → List (List UInt8) → DiskR × Int × Int × List (List UInt8) × Int
  | 0, D, next, last, all => (D, next, last, all, 0)
  | f + 1, D, next, last, all =>
    if 99999 < next ∨ (readR D (nameB next)).2 = 4 then (D, next, last, all, 0)
    else if (readR D (nameB next)).2 ≠ 0 then (D, next, last, [], (readR D (nameB next)).2)
    else if lenR (scanR (bl (readR D (nameB next)).1)) < (bl (readR D (nameB next)).1).length then
      (if (cutR D (nameB next) (lenR (scanR (bl (readR D (nameB next)).1)))).2 ≠ 0 then ((cutR D (nameB next) (lenR (scanR (bl (readR D (nameB next)).1)))).1, next + 1, next, [], (cutR D (nameB next) (lenR (scanR (bl (readR D (nameB next)).1)))).2)
      else ((cutR D (nameB next) (lenR (scanR (bl (readR D (nameB next)).1)))).1, next + 1, next, all ++ scanR (bl (readR D (nameB next)).1), 0))
    else openLoop f D (next + 1) next (all ++ scanR (bl (readR D (nameB next)).1))
def openR (D : DiskR) (L : LogR) : DiskR × LogR × List (List UInt8) × Int :=
  let r := removeAll D (segsR D fun k => decide (k < L.first))
  if r.2 ≠ 0 then (r.1, L, [], r.2) else
  let o := openLoop (100000 - L.first).toNat r.1 L.first L.last []
  if o.2.2.2.2 ≠ 0 then (o.1, { L with last := o.2.2.1 }, [], o.2.2.2.2) else
  let q := removeAll o.1 (segsR o.1 fun k => decide (o.2.1 ≤ k)).reverse
  (q.1, { L with last := o.2.2.1 }, o.2.2.2.1, q.2)
theorem NamesW.l {D' : DiskR} (h : NamesW D) (e : ∀ f ∈ D'.l, f ∈ D.l ∨ (∃ k : Int, ¬ (k < 1 ∨ 99999 < k) ∧ f.name = nameB k) ∨ NoSeg f.name) : NamesW D' := fun f hf => by
  rcases e f hf with hf | hf
  · exact h f hf
  · exact hf
theorem readyE_name {k : Int} (h : readyE D (nameB k) = 0) : ¬ (k < 1 ∨ 99999 < k) := fun hk => by
  have := (readyE_zero h).2
  have e : nameB k = ByteArray.empty := by unfold nameB; rw [if_pos hk]
  rw [e] at this
  exact absurd this (by decide)
theorem NamesW.remove (h : NamesW D) (s : ByteArray) : NamesW (removeR D s).1 := by
  unfold removeR
  split
  · exact h
  · exact h.l fun f hf => .inl (withoutR_mem.1 hf).1
theorem NamesW.cut (h : NamesW D) (k : Int) (n : Int) : NamesW (cutR D (nameB k) n).1 := by
  unfold cutR
  split
  · exact h
  · rename_i h0
    split
    · exact h
    · have hk := readyE_name (thereE_zero (by simpa using h0)).1
      refine h.l fun f hf => ?_
      rcases withR_mem.1 hf with rfl | ⟨hf, _⟩
      · exact .inr (.inl ⟨k, hk, rfl⟩)
      · exact .inl hf
theorem NamesW.removeAll : ∀ {ks : List Int} {D : DiskR}, NamesW D → NamesW (removeAll D ks).1
  | [], _, h => h
  | k :: r, D, h => by
    rw [Go.Proofs.YtpdkkbpkplhdpaaGreat.removeAll]
    split
    · exact h.remove _
    · exact NamesW.removeAll (h.remove _)
theorem LogAt.keepS {L : LogR} (h : LogAt M0 M g p b D es L) {S : Nat → Prop} {M' : Mem} (hk : Mem.keep S M M') (hS : ∀ y, S y → M0 y = none ∧ ¬ logB g p b es y) : LogAt M0 M' g p b D es L :=
  ⟨⟨hk.le h.disk.le fun y hy => (hS y hy).1, h.disk.at'.mono fun y o hy ho => hk y o (fun e => (hS y e).2 (.inr hy)) ho, h.disk.rel, h.disk.inv, h.disk.fresh⟩, hk _ _ (fun e => (hS g e).2 (.inl rfl)) h.self, h.fresh⟩
def AllAt (M0 M : Mem) (a : Option Addr) (n c : Nat) (all : List (List UInt8)) : Prop := NewEls M0 T.s_uint8 1 a n c (BytesW M) all M
theorem AllAt.up {a : Option Addr} {n c : Nat} {all : List (List UInt8)} (h : AllAt M0 M a n c all) {M' : Mem} (hle : M.le M') : AllAt M0 M' a n c all := (NewEls.up h hle).imp fun _ _ _ hx => hx.le hle
theorem AllAt.app {Z : Mem} {S : Nat → Prop} {a a2 : Option Addr} {n c n2 : Nat} {all more : List (List UInt8)} (h : AllAt M0 Z a n c all) (hZ : Z.le M) (hS1 : ∀ y, S y → Z y = none) (hS2 : ∀ y, S y → M y ≠ none) (h2 : Elems Z 1 a2 n2 (BytesW Z) more) {k : Option Addr → Nat → Mem → Prop} (hb : n + n2 ≤ 4000000000000)
    (hk : ∀ a' c' M', AllAt M0 (M'.minus S) a' (n + n2) c' (all ++ more) → Mem.keep (blk a) M M' → (∀ y, blk a y → M0 y = none ∧ ¬ S y) → (∀ y o, Z y = some o → ¬ blk a y → (M'.minus S) y = some o) → k a' c' M') : SrcVC M 1 a2 n2 fun vs => AppVC T.s_uint8 1 24 a n c n2 vs M k := by
  unfold Elems at h2
  obtain ⟨css2, s2, l2, m2, u2, r2⟩ := h2
  refine srcv (s2.le hZ) ?_
  unfold AllAt NewEls at h
  obtain ⟨css, s1, l1, m1, u1, r1⟩ := h
  have one : ∀ {cs : List Value} {x : List UInt8}, BytesW Z cs x → ∀ u ∈ cs, u.oneCell' = true := fun ⟨_, _, _, e, _⟩ u hu => by rw [e] at hu; simp at hu; subst hu; rfl
  have hblk : ∀ y, blk a y → M0 y = none ∧ ¬ S y := fun y ⟨q, hq, e⟩ => by
    obtain ⟨h3, cs, h4⟩ := s1.block hq
    rw [e] at h3 h4
    refine ⟨h3, fun hs => ?_⟩
    have := hS1 y hs
    unfold Mem.has at h4; rw [h4] at this; cases this
  have hm0 : M0.le (M.minus (blk a)) := Mem.le_minus (Mem.le_trans s1.le hZ) fun y hy => (hblk y hy).1
  refine appK (M.minus (blk a)) _ (s1.rebase hZ) (by omega) (by simp [maxLen]; omega) (fun u hu => ?_) fun a' c' M' hN hkp => ?_
  · obtain ⟨cs, hcs, hu⟩ := List.mem_flatten.1 hu
    obtain ⟨i, hi, rfl⟩ := List.getElem_of_mem hcs
    exact one (r2 i _ _ (List.getElem?_eq_getElem hi) (List.getElem?_eq_getElem (by omega))) u hu
  · have hold : ∀ y o, Z y = some o → ¬ blk a y → (M'.minus S) y = some o := fun y o hy hny => by
      unfold Mem.minus
      rw [if_neg fun hs => by rw [hS1 y hs] at hy; cases hy]
      exact hkp y o hny (hZ y o hy)
    have mv : ∀ {cs : List Value} {x : List UInt8}, BytesW Z cs x → BytesW (M'.minus S) cs x := fun ⟨pa, pn, pc, e, hw⟩ => ⟨pa, pn, pc, e, hw.mono fun q o hq ho => hold _ _ ho fun ⟨q2, hq2, e2⟩ => by
      obtain ⟨cs1, hh1⟩ := (s1.block hq2).2
      obtain ⟨cs2, hh2⟩ := hw.block hq
      rw [e2] at hh1
      exact absurd (hh1.inj hh2).1 (by decide)⟩
    have hN2 : NewSl M0 T.s_uint8 1 a' (n + n2) c' (css.flatten ++ css2.flatten) (M'.minus S) := by
      obtain ⟨w0, w1, w2, w3⟩ := newSl_iff.1 hN
      refine newSl_iff.2 ⟨fun y o hy => ?_, w1, w2, w3.imp id fun ⟨b1, cs, ha, hb1, hh, hr⟩ => ⟨b1, cs, ha, ?_, ?_, hr⟩⟩
      · exact hold y o (s1.le y o hy) fun hbl => by rw [(hblk y hbl).1] at hy; cases hy
      · cases e : M0 b1 with
        | none => rfl
        | some o => rw [hm0 b1 o e] at hb1; cases hb1
      · unfold Mem.has at hh ⊢
        unfold Mem.minus
        rw [if_neg fun hs => ?_]
        · exact hh
        · rcases Classical.em (blk a b1) with hbl | hbl
          · exact (hblk b1 hbl).2 hs
          · unfold Mem.minus at hb1
            rw [if_neg hbl] at hb1
            exact hS2 b1 hs hb1
    refine hk a' c' M' ?_ hkp hblk hold
    unfold AllAt NewEls
    refine ⟨css ++ css2, by rw [List.flatten_append]; exact hN2, by simp [l1, l2], by simp [m1, m2], fun cs hcs => ?_, fun i cs x hi hx => ?_⟩
    · rcases List.mem_append.1 hcs with hcs | hcs
      · exact u1 cs hcs
      · exact u2 cs hcs
    · by_cases hlt : i < css.length
      · rw [List.getElem?_append_left hlt] at hi
        rw [List.getElem?_append_left (by omega)] at hx
        exact mv (r1 i cs x hi hx)
      · rw [List.getElem?_append_right (by omega)] at hi
        rw [List.getElem?_append_right (by omega), show i - all.length = i - css.length by omega] at hx
        exact mv (r2 _ cs x hi hx)
end
section
variable {M M0 : Mem} {g p b : Nat} {D : DiskR} {es : FsT}
theorem LogAt.z {L : LogR} (_h : LogAt M0 M g p b D es L) {M' : Mem} {D' : DiskR} {es' : FsT} {L' : LogR} (h' : LogAt (M.minus (logB g p b es)) M' g p b D' es' L') : (M.minus (logB g p b es)).le (M'.minus (logB g p b es')) := h'.base.2
theorem LogAt.zle {L : LogR} (h : LogAt M0 M g p b D es L) {M' : Mem} (hle : M.le M') : (M.minus (logB g p b es)).le (M'.minus (logB g p b es)) := (h.base.1.to hle).base.2
structure OpS where
  f : Nat
  next : Int
  M : Mem
  D : DiskR
  es : FsT
  last : Int
  a : Option Addr
  c : Nat
  all : List (List UInt8)
structure OpI (B0 : Mem) (g p b bq : Nat) (L : LogR) (R : DiskR × Int × Int × List (List UInt8) × Int) (y : OpS) : Prop where
  fu : y.f = (100000 - y.next).toNat ∧ 1 ≤ y.next ∧ y.next ≤ 100000
  log : LogAt B0 y.M g p b y.D y.es { L with last := y.last }
  bx : (y.M.minus (logB g p b y.es)).has bq T.p_wal_Log [ptr g]
  all' : AllAt B0 (y.M.minus (logB g p b y.es)) y.a y.all.length y.c y.all
  nm : NamesW y.D
  eq : R = openLoop y.f y.D y.next y.last y.all
  len : (y.all.length : Int) + (100000 - y.next) * 1048576 ≤ 104857600000
set_option maxRecDepth 10000 in
theorem open_okL {L : LogR} (h : LogAt M0 M g p b D es L) (hW : NamesW D) (hf : 1 ≤ L.first ∧ L.first ≤ 99999) (_hfl : L.failed = false) :
    CallsM Tryz.prog F.wal_Log_open [ptr g] M fun v M' => ∃ es' a n c, v = .tuple #[.slice a n c, .int .i64 (openR D L).2.2.2] ∧ LogAt M0 M' g p b (openR D L).1 es' (openR D L).2.1 ∧
      ((openR D L).2.2.2 = 0 → AllAt M0 (M'.minus (logB g p b es')) a n c (openR D L).2.2.1) := by
  refine fo_wal_Log_open (by simp) ?_
  obtain ⟨h0, hM0⟩ := h.base
  obtain ⟨B0, hB0⟩ : ∃ B0, B0 = M.minus (logB g p b es) := ⟨_, rfl⟩
  rw [← hB0] at h0 hM0
  refine zR ?_
  refine new (fun bq hbl => ?_)
  replace hbl : M bq = none := hbl
  have hle1 : M.le (M.setCells bq T.p_wal_Log [ptr g]) := Mem.le_setCells hbl
  have hb1 : (M.setCells bq T.p_wal_Log [ptr g]).has bq T.p_wal_Log [ptr g] := Mem.has_setCells
  obtain ⟨M1, hM1⟩ : ∃ M1, M1 = M.setCells bq T.p_wal_Log [ptr g] := ⟨_, rfl⟩
  rw [← hM1] at hle1 hb1
  (conv => whnf)
  erw [← hM1]
  have h1 := h0.to hle1
  refine (segs_ok h1 hW (pick1_ok hb1 h1.self)).mono ?_
  rintro v M2 ⟨a2, n2, c2, rfl, hn2, hN2⟩
  have hle2 := hN2.le
  (conv => whnf); refine ob (hb1.le hle2) ?_
  (conv => whnf); refine grow_same (Mem.le_trans hle1 hle2) ?_
  refine zR ?_
  have h2 := h1.to hle2
  have hs2 : SrcOk (M2.minus (logB g p b es)) 1 a2 n2 ((segsR D fun k => decide (k < L.first)).map intV) := hN2.src.minus fun q hq hb => h1.full hb (hN2.block hq).1
  have hbl2 : (M2.minus (logB g p b es)).has bq T.p_wal_Log [ptr g] := by
    have := hb1.le hle2
    unfold Mem.has at this ⊢
    unfold Mem.minus
    rw [if_neg fun hb => h0.full hb hbl]
    exact this
  have hsl : (segsR D fun k => decide (k < L.first)).length ≤ 64 := by
    have := h.disk.inv.len
    refine Nat.le_trans (List.length_filter_le _ _) ?_
    simpa using this
  refine (remove_okL h2.base.1 hs2 (by omega)).mono ?_
  rintro v M3 ⟨es3, rfl, h3⟩
  have hz23 := h2.z h3
  obtain ⟨r, hr⟩ : ∃ r, r = removeAll D (segsR D fun k => decide (k < L.first)) := ⟨_, rfl⟩
  have hO : openR D L = if r.2 ≠ 0 then (r.1, L, [], r.2) else
    if (openLoop (100000 - L.first).toNat r.1 L.first L.last []).2.2.2.2 ≠ 0 then ((openLoop (100000 - L.first).toNat r.1 L.first L.last []).1, { L with last := (openLoop (100000 - L.first).toNat r.1 L.first L.last []).2.2.1 }, [], (openLoop (100000 - L.first).toNat r.1 L.first L.last []).2.2.2.2)
    else ((removeAll (openLoop (100000 - L.first).toNat r.1 L.first L.last []).1 (segsR (openLoop (100000 - L.first).toNat r.1 L.first L.last []).1 fun k => decide ((openLoop (100000 - L.first).toNat r.1 L.first L.last []).2.1 ≤ k)).reverse).1,
      { L with last := (openLoop (100000 - L.first).toNat r.1 L.first L.last []).2.2.1 }, (openLoop (100000 - L.first).toNat r.1 L.first L.last []).2.2.2.1,
      (removeAll (openLoop (100000 - L.first).toNat r.1 L.first L.last []).1 (segsR (openLoop (100000 - L.first).toNat r.1 L.first L.last []).1 fun k => decide ((openLoop (100000 - L.first).toNat r.1 L.first L.last []).2.1 ≤ k)).reverse).2) := by rw [hr]; rfl
  rw [← hr] at h3 ⊢
  have hWr : NamesW r.1 := hr ▸ hW.removeAll
  replace h3 : LogAt B0 M3 g p b r.1 es3 L := h3.mono h2.base.2
  have hbl3 := hbl2.le hz23
  clear hbl2 hz23 hs2 h2 hN2 hle2 hsl
  (conv => whnf); refine brn (fun e => ?_) (fun e => ?_)
  · have e1 : r.2 ≠ 0 := by simpa using e
    refine zR ?_
    rw [hO, if_pos e1]
    exact ⟨es3, none, 0, 0, rfl, h3.mono hM0, fun h => absurd h e1⟩
  have e1 : ¬ r.2 ≠ 0 := by simpa using e
  rw [if_neg e1] at hO
  refine zR ?_
  refine on ((hbl3.le (Mem.minus_le _ _)).c1 rfl) ?_
  (conv => whnf); refine on (h3.self.c1 rfl) ?_
  (conv => whnf)
  obtain ⟨R, hR⟩ : ∃ R, R = openLoop (100000 - L.first).toNat r.1 L.first L.last [] := ⟨_, rfl⟩
  rw [← hR] at hO
  refine loopF (σ := OpS) [5] (fun y => [(5, .slice y.a y.all.length y.c)]) (fun y => [.gone bq, .live T.int [.v (.int .i64 y.next)]]) (fun y => y.M) (OpI B0 g p b bq L R) (fun y => y.f) ⟨(100000 - L.first).toNat, L.first, M3, r.1, es3, L.last, none, 0, []⟩
    ⟨⟨rfl, by dsimp only; omega, by dsimp only; omega⟩, h3, hbl3, (NewEls.nil _ _ _ _).mono h3.base.2, hWr, hR, by dsimp only [List.length_nil]; omega⟩ zS ?_
  rintro ⟨f, nx, Mc, Dc, ec, la, aa, ac, all⟩ ⟨⟨hfu, hnx1, hnx2⟩, hL, hbx, hA, hWc, hE, hlen⟩
  dsimp only at hfu hnx1 hnx2 hL hbx hA hWc hE hlen
  have hbM := hbx.le (Mem.minus_le Mc (logB g p b ec))
  refine zR ?_
  refine on (hbM.c1 rfl) ?_
  (conv => whnf); refine on (hL.self.c1 rfl) ?_
  refine zR ?_
  refine (name_ok nx).mono ?_
  rintro v M4 ⟨rfl, hle4⟩
  have hL4 := hL.to hle4
  refine zT (hle4) ?_
  refine zR ?_
  refine (readF hL4.disk (name_size nx)).mono ?_
  rintro v M5 ⟨pa, pn, pc, rfl, hpn, hpN⟩
  have hL5 := hL4.to hpN.le
  have hz5 := hL.zle (Mem.le_trans hle4 hpN.le)
  have hbx5 := hbx.le hz5
  have hA5 := hA.up hz5
  have hp5 : SrcOk (M5.minus (logB g p b ec)) 1 pa pn ((bl (readR Dc (nameB nx)).1).map byteV) := hpN.src.minus fun q hq hb => hL4.full hb (hpN.block hq).1
  have hb5 := hbx5.le (Mem.minus_le M5 (logB g p b ec))
  have hus := hL.disk.inv.used
  (conv => whnf); refine brn (fun e => ?_) (fun e => ?_)
  · have e2 : 99999 < nx := of_decide_eq_true e
    have hRe : R = (Dc, nx, la, all, 0) := by
      rw [hE]
      cases f with
      | zero => rfl
      | succ f => rw [openLoop, if_pos (.inl e2)]
    rw [if_neg (by rw [hRe]; simp)] at hO
    have hbMe := hbx5.le (Mem.minus_le M5 (logB g p b ec))
    refine zR ?_
    refine on (hbMe.c1 rfl) ?_
    refine zR ?_
    refine new (fun b2 hb2 => ?_)
    replace hb2 : M5 b2 = none := hb2
    have hle6 : M5.le (M5.setCells b2 T.int [.int .i64 nx]) := Mem.le_setCells hb2
    have hb6 : (M5.setCells b2 T.int [.int .i64 nx]).has b2 T.int [.int .i64 nx] := Mem.has_setCells
    obtain ⟨M6, hM6⟩ : ∃ M6, M6 = M5.setCells b2 T.int [.int .i64 nx] := ⟨_, rfl⟩
    rw [← hM6] at hle6 hb6
    (conv => whnf)
    erw [← hM6]
    have hL6 := hL5.to hle6
    refine (segs_ok hL6 hWc (pick2_ok hb6)).mono ?_
    rintro v M7 ⟨a7, n7, c7, rfl, hn7, hN7⟩
    have hsl7 : n7 ≤ 64 := by
      have := hL5.disk.inv.len
      rw [hn7]
      refine Nat.le_trans (List.length_filter_le _ _) ?_
      simpa using this
    refine zR ?_
    refine (reverse_okL hN7 (by omega)).mono ?_
    rintro v M8 ⟨rfl, hN8, -⟩
    have hL8 := hL6.to hN8.le
    have hs8 : SrcOk (M8.minus (logB g p b ec)) 1 a7 n7 ((segsR Dc fun k => decide (nx ≤ k)).reverse.map intV) := hN8.src.minus fun q hq hb => hL6.full hb (hN8.block hq).1
    have hz8 := hL5.zle (Mem.le_trans hle6 hN8.le)
    have hb8 := (hbx5.le hz8).le (Mem.minus_le M8 (logB g p b ec))
    refine zR ?_
    refine on (hb8.c1 rfl) ?_
    refine zR ?_
    refine (remove_okL hL8.base.1 hs8 (by omega)).mono ?_
    rintro v M9 ⟨es9, rfl, h9⟩
    refine zR ?_
    rw [hO, hRe]
    exact ⟨es9, aa, all.length, ac, rfl, h9.mono (Mem.le_trans hM0 hL8.base.2), fun _ => ((hA5.up hz8).up (hL8.z h9)).mono hM0⟩
  have e2 : ¬ 99999 < nx := of_decide_eq_false e
  refine zR ?_
  refine brn (fun e => ?_) (fun e => ?_)
  · have e3 : (readR Dc (nameB nx)).2 = 4 := of_decide_eq_true e
    have hRe : R = (Dc, nx, la, all, 0) := by
      rw [hE]
      cases f with
      | zero => rfl
      | succ f => rw [openLoop, if_pos (.inr e3)]
    rw [if_neg (by rw [hRe]; simp)] at hO
    have hbMe := hbx5.le (Mem.minus_le M5 (logB g p b ec))
    refine zR ?_
    refine on (hbMe.c1 rfl) ?_
    refine zR ?_
    refine new (fun b2 hb2 => ?_)
    replace hb2 : M5 b2 = none := hb2
    have hle6 : M5.le (M5.setCells b2 T.int [.int .i64 nx]) := Mem.le_setCells hb2
    have hb6 : (M5.setCells b2 T.int [.int .i64 nx]).has b2 T.int [.int .i64 nx] := Mem.has_setCells
    obtain ⟨M6, hM6⟩ : ∃ M6, M6 = M5.setCells b2 T.int [.int .i64 nx] := ⟨_, rfl⟩
    rw [← hM6] at hle6 hb6
    (conv => whnf)
    erw [← hM6]
    have hL6 := hL5.to hle6
    refine (segs_ok hL6 hWc (pick2_ok hb6)).mono ?_
    rintro v M7 ⟨a7, n7, c7, rfl, hn7, hN7⟩
    have hsl7 : n7 ≤ 64 := by
      have := hL5.disk.inv.len
      rw [hn7]
      refine Nat.le_trans (List.length_filter_le _ _) ?_
      simpa using this
    refine zR ?_
    refine (reverse_okL hN7 (by omega)).mono ?_
    rintro v M8 ⟨rfl, hN8, -⟩
    have hL8 := hL6.to hN8.le
    have hs8 : SrcOk (M8.minus (logB g p b ec)) 1 a7 n7 ((segsR Dc fun k => decide (nx ≤ k)).reverse.map intV) := hN8.src.minus fun q hq hb => hL6.full hb (hN8.block hq).1
    have hz8 := hL5.zle (Mem.le_trans hle6 hN8.le)
    have hb8 := (hbx5.le hz8).le (Mem.minus_le M8 (logB g p b ec))
    refine zR ?_
    refine on (hb8.c1 rfl) ?_
    refine zR ?_
    refine (remove_okL hL8.base.1 hs8 (by omega)).mono ?_
    rintro v M9 ⟨es9, rfl, h9⟩
    refine zR ?_
    rw [hO, hRe]
    exact ⟨es9, aa, all.length, ac, rfl, h9.mono (Mem.le_trans hM0 hL8.base.2), fun _ => ((hA5.up hz8).up (hL8.z h9)).mono hM0⟩
  have e3 : ¬ (readR Dc (nameB nx)).2 = 4 := of_decide_eq_false e
  obtain ⟨f', rfl⟩ : ∃ f', f = f' + 1 := ⟨f - 1, by omega⟩
  rw [openLoop, if_neg (by omega)] at hE
  refine zR ?_
  refine brn (fun e => ?_) (fun e => ?_)
  · have e4 : (readR Dc (nameB nx)).2 ≠ 0 := by simpa using e
    rw [if_pos e4] at hE
    rw [if_pos (by rw [hE]; exact e4)] at hO
    refine zR ?_
    rw [hO, hE]
    exact ⟨ec, none, 0, 0, rfl, hL5.mono hM0, fun h => absurd h e4⟩
  have e4 : ¬ (readR Dc (nameB nx)).2 ≠ 0 := by simpa using e
  rw [if_neg e4] at hE
  refine zR ?_
  refine on (hb5.c1 rfl) ?_
  refine zR ?_
  refine on hL5.self.cells ?_
  (conv => whnf); refine ob (by simp) ?_
  have hL6 := hL5.base.1.set { L with last := nx }
  obtain ⟨M6, hM6⟩ : ∃ M6, M6 = M5.setCells g T.wal_Log (logCs p { L with last := nx }) := ⟨_, rfl⟩
  rw [← hM6] at hL6
  (conv => whnf)
  erw [← hM6]
  have hz6 := hL5.z hL6
  have hb6 := hbx5.le hz6
  have hA6 := hA5.up hz6
  have hp6 := hp5.le hL6.disk.le
  refine ob (inR_i64 (by first | omega | (dsimp only; omega))) ?_
  refine zR ?_
  have hrow : (bl (readR Dc (nameB nx)).1).length ≤ 1048576 := by
    have h1 : thereE Dc (nameB nx) = 0 := by
      apply Classical.byContradiction
      intro hh
      have : (readR Dc (nameB nx)).2 = thereE Dc (nameB nx) := by unfold readR; rw [if_pos hh]
      exact e4 (by rw [this]; exact hh)
    have h2 : (readR Dc (nameB nx)).1 = (fileR Dc (nameB nx)).all := by unfold readR; rw [if_neg (by simp [h1])]
    have h3 := (without_some hL.disk.inv.sort (thereE_zero h1).2).2
    rw [h2, FileR.all_size]
    omega
  have hp6z : SrcOk (M6.minus (logB g p b ec)) 1 pa pn ((bl (readR Dc (nameB nx)).1).map byteV) := hp5.le hz6
  refine ((scan_ok hp6z (by omega) (by have := (newSl_iff.1 hpN).2.2.1; omega)).frame (Mem.minus_le _ _)).mono ?_
  rintro v M7 ⟨A7, ⟨sa, sn, sc, rfl, hsN⟩, hA7, hrest⟩
  obtain ⟨row, hrw⟩ : ∃ row, row = bl (readR Dc (nameB nx)).1 := ⟨_, rfl⟩
  rw [← hrw] at hE hrow hsN hpn ⊢
  obtain ⟨hi1, hi2, hi3⟩ := scanR_inv row.length row (Nat.le_refl _)
  have hsl := hsN.len
  have hsn : 9 * (scanR row).length ≤ lenR (scanR row) := by
    clear hsN hE hi1 hsl
    generalize scanR row = ps at *
    clear hi3
    induction ps with
    | nil => simp
    | cons q qs ih =>
      have h1 := (hi2 q (by simp)).1
      have h2 := ih fun z hz => hi2 z (by simp [hz])
      simp only [lenR, List.map_cons, List.sum_cons, List.length_cons] at h2 ⊢
      omega
  have hle7 : M6.le M7 := fun y o hy => by
    by_cases hz : (M6.minus (logB g p b ec)) y = none
    · exact (hrest y o hz hy).1
    · obtain ⟨o2, ho2⟩ := Option.ne_none_iff_exists'.1 hz
      have := Mem.minus_le _ _ y o2 ho2
      rw [hy] at this; cases this
      exact hA7 y o (hsN.le y o ho2)
  have hL7 := hL6.to hle7
  have hS1 : ∀ y, logB g p b ec y → A7 y = none := fun y hy => by
    obtain ⟨o, ho⟩ := Option.ne_none_iff_exists'.1 (hL6.full hy)
    exact (hrest y o (Mem.minus_in hy) ho).2
  (conv => whnf)
  refine (hA6.up hsN.le).app hA7 hS1 (fun y hy => hL7.full hy) hsN.elems (by omega) fun a8 c8 M8 hA8 hk8 hab hold8 => ?_
  have hL8 := (hL7.mono hL5.base.2).keepS hk8 hab
  have hb8 : (M8.minus (logB g p b ec)).has bq T.p_wal_Log [ptr g] := hold8 _ _ (hb6.le hsN.le) fun ⟨q, hq, e⟩ => by
    obtain ⟨-, cs, hh⟩ := NewEls.block hA6 hq
    rw [e] at hh
    exact absurd (hh.inj hb6).1 (by decide)
  have hbM8 := hb8.le (Mem.minus_le M8 (logB g p b ec))
  have el : all.length + sn = (all ++ scanR row).length := by rw [List.length_append, hsl]
  dsimp only
  rw [el] at hA8 ⊢
  refine zR ?_
  have hpl : ((pn : Nat) : Int) = row.length := by rw [hpn]
  refine brn (fun e => ?_) (fun e => ?_)
  · have e5 : lenR (scanR row) < row.length := by have := of_decide_eq_true e; omega
    rw [if_pos e5] at hE
    refine zR ?_
    refine on (hbM8.c1 rfl) ?_
    (conv => whnf); refine on (hL8.self.c1 rfl) ?_
    (conv => whnf); refine on (hbM8.c1 rfl) ?_
    (conv => whnf); refine on (hL8.self.c1 rfl) ?_
    refine zR ?_
    refine (name_ok nx).mono ?_
    rintro v M9 ⟨rfl, hle9⟩
    have hL9 := hL8.to hle9
    refine zT (hle9) ?_
    refine zR ?_
    refine (cutF hL9.disk.base.1 (name_size nx) (lenR (scanR row))).mono ?_
    rintro v M10 ⟨es10, rfl, h10⟩
    have hL10 := hL9.base.1.call h10
    have hz10 := Mem.le_trans (hL8.zle hle9) (hL9.z hL10)
    replace hL10 := hL10.mono hL9.base.2
    have hb10 := hb8.le hz10
    have hA10 := hA8.up hz10
    have hW10 := hWc.cut nx (lenR (scanR row))
    obtain ⟨C, hC⟩ : ∃ C, C = cutR Dc (nameB nx) (lenR (scanR row)) := ⟨_, rfl⟩
    rw [← hC] at hE hL10 hW10 ⊢
    refine zR ?_
    refine brn (fun e => ?_) (fun e => ?_)
    · have e6 : C.2 ≠ 0 := by simpa using e
      rw [if_pos e6] at hE
      rw [if_pos (by rw [hE]; exact e6)] at hO
      refine zR ?_
      rw [hO, hE]
      exact ⟨es10, none, 0, 0, rfl, hL10.mono hM0, fun h => absurd h e6⟩
    have e6 : ¬ C.2 ≠ 0 := by simpa using e
    rw [if_neg e6] at hE
    rw [if_neg (by rw [hE]; simp)] at hO
    have hbMe := hb10.le (Mem.minus_le M10 (logB g p b es10))
    refine zR ?_
    refine on (hbMe.c1 rfl) ?_
    refine zR ?_
    refine new (fun b2 hb2 => ?_)
    replace hb2 : M10 b2 = none := hb2
    have hle6 : M10.le (M10.setCells b2 T.int [.int .i64 (nx + 1)]) := Mem.le_setCells hb2
    have hb6 : (M10.setCells b2 T.int [.int .i64 (nx + 1)]).has b2 T.int [.int .i64 (nx + 1)] := Mem.has_setCells
    obtain ⟨M6, hM6⟩ : ∃ M6, M6 = M10.setCells b2 T.int [.int .i64 (nx + 1)] := ⟨_, rfl⟩
    rw [← hM6] at hle6 hb6
    (conv => whnf)
    erw [← hM6]
    have hL6 := hL10.to hle6
    refine (segs_ok hL6 hW10 (pick2_ok hb6)).mono ?_
    rintro v M7 ⟨a7, n7, c7, rfl, hn7, hN7⟩
    have hsl7 : n7 ≤ 64 := by
      have := hL10.disk.inv.len
      rw [hn7]
      refine Nat.le_trans (List.length_filter_le _ _) ?_
      simpa using this
    refine zR ?_
    refine (reverse_okL hN7 (by omega)).mono ?_
    rintro v M8 ⟨rfl, hN8, -⟩
    have hL8 := hL6.to hN8.le
    have hs8 : SrcOk (M8.minus (logB g p b es10)) 1 a7 n7 ((segsR C.1 fun k => decide ((nx + 1) ≤ k)).reverse.map intV) := hN8.src.minus fun q hq hb => hL6.full hb (hN8.block hq).1
    have hz8 := hL10.zle (Mem.le_trans hle6 hN8.le)
    have hb8 := (hb10.le hz8).le (Mem.minus_le M8 (logB g p b es10))
    refine zR ?_
    refine on (hb8.c1 rfl) ?_
    refine zR ?_
    refine (remove_okL hL8.base.1 hs8 (by omega)).mono ?_
    rintro v M9 ⟨es9, rfl, h9⟩
    refine zR ?_
    rw [hO, hE]
    exact ⟨es9, a8, (all ++ scanR row).length, c8, rfl, h9.mono (Mem.le_trans hM0 hL8.base.2), fun _ => ((hA10.up hz8).up (hL8.z h9)).mono hM0⟩
  have e5 : ¬ lenR (scanR row) < row.length := by have := of_decide_eq_false e; omega
  rw [if_neg e5] at hE
  refine zR ?_
  refine ⟨⟨f', nx + 1, M8, Dc, ec, nx, a8, c8, all ++ scanR row⟩, ⟨⟨by dsimp only; omega, by dsimp only; omega, by dsimp only; omega⟩, hL8, hb8, hA8, hWc, hE, ?_⟩, by dsimp only; omega, zS⟩
  dsimp only
  rw [List.length_append]
  omega
end
end Go.Proofs.YtpdkkbpkplhdpaaGreat
