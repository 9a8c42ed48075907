/- The log: how it lies; ready, told, length, Sync. -/
import Derived.Test.YtnlghoenbhbfhaaJoin23
namespace Go.Proofs.Ytnlghoenbhbfhaa
open Go Go.Vm
attribute [local irreducible] Brn Ob Grow CallsM inR LoopVC Mem.row Mem.cells Mem.setCells Mem.upd Go.Vm.Own AppVC SrcVC StrVC NextVC New SrcOk subA NewSl Mem.textAt Mem.mapAt Mem.iterAt entryOf kfind Wr NewEls Elems
set_option maxRecDepth 10000
variable {M M0 : Mem} {g p b : Nat} {D : DiskR} {es : FsT}
/-- a log's own words -/
structure LogR where
  first : Int
  last : Int
  size : Int
  failed : Bool
def lenL (D : DiskR) (k : Int) : Nat := if D.down = true then safeR D (nameB k) else (readR D (nameB k)).1.size
def downL (L : LogR) (e : Int) : LogR := { L with failed := L.failed || decide (e = 9) }
def syncL (D : DiskR) (L : LogR) : DiskR × LogR × Int :=
  if L.failed = true then (D, L, 7) else if D.down = true then (D, downL L 9, 9) else if lenL D L.last = safeR D (nameB L.last) then (D, L, 0)
  else ((syncR D (nameB L.last)).1, downL L (syncR D (nameB L.last)).2, (syncR D (nameB L.last)).2)
def beginL (D : DiskR) (L : LogR) : DiskR × LogR × Int × Int :=
  if (syncL D L).2.2 ≠ 0 then ((syncL D L).1, (syncL D L).2.1, 0, (syncL D L).2.2)
  else if lenL (syncL D L).1 L.last = 0 then ((syncL D L).1, (syncL D L).2.1, L.last, 0)
  else if L.last = 99999 then ((syncL D L).1, (syncL D L).2.1, 0, 1)
  else ((syncL D L).1, { (syncL D L).2.1 with last := L.last + 1 }, L.last + 1, 0)
def fullL (D : DiskR) (L : LogR) (n : Nat) : Prop := 0 < lenL D L.last ∧ L.size - lenL D L.last < n
instance (D : DiskR) (L : LogR) (n : Nat) : Decidable (fullL D L n) := inferInstanceAs (Decidable (_ ∧ _))
/-- behind a Begin where it is needed -/
def roomL (D : DiskR) (L : LogR) (n : Nat) : DiskR × LogR × Int := if fullL D L n then ((beginL D L).1, (beginL D L).2.1, (beginL D L).2.2.2) else (D, L, 0)
def appendL (D : DiskR) (L : LogR) (q : List UInt8) : DiskR × LogR × Int :=
  if L.failed = true then (D, L, 7) else if putE q ≠ 0 then (D, L, putE q) else if D.down = true then (D, downL L 9, 9)
  else if (roomL D L (putB q).length).2.2 ≠ 0 then roomL D L (putB q).length
  else ((appendR (roomL D L (putB q).length).1 (nameB (roomL D L (putB q).length).2.1.last) (putB q)).1,
    downL (roomL D L (putB q).length).2.1 (appendR (roomL D L (putB q).length).1 (nameB (roomL D L (putB q).length).2.1.last) (putB q)).2,
    (appendR (roomL D L (putB q).length).1 (nameB (roomL D L (putB q).length).2.1.last) (putB q)).2)
@[reducible] def logCs (p : Nat) (L : LogR) : List Value := [ptr p, .int .i64 L.first, .int .i64 L.last, .int .i64 L.size, .bool L.failed]
/-- a log on a disk, both of one's own -/
structure LogAt (M0 M : Mem) (g p b : Nat) (D : DiskR) (es : FsT) (L : LogR) : Prop where
  disk : FreshD M0 M p b D es
  self : M.has g T.wal_Log (logCs p L)
  fresh : M0 g = none
theorem DAt.notB (h : DAt M p b D es) {g : Nat} {l : List Value} (hg : M.has g T.wal_Log l) : ¬ diskB p b es g := by
  rintro (e | e | ⟨q, hq, e | ⟨a, ha, e⟩⟩)
  · subst e; exact absurd (h.self.inj hg).1 (by decide)
  · exact h.map.nb hg e
  · subst e; exact absurd ((h.ents q hq).self.inj hg).1 (by decide)
  · obtain ⟨cs, hh⟩ := (h.ents q hq).row.block ha
    subst e
    exact absurd (hh.inj hg).1 (by decide)
theorem FreshD.mono {M1 : Mem} (h : FreshD M1 M p b D es) (hle : M0.le M1) : FreshD M0 M p b D es := ⟨Mem.le_trans hle h.le, h.at', h.rel, h.inv, fun y hy => by
  cases e : M0 y with
  | none => rfl
  | some z => have := hle _ _ e; rw [h.fresh y hy] at this; cases this⟩
theorem LogAt.to {L : LogR} (h : LogAt M0 M g p b D es L) {M' : Mem} (hle : M.le M') : LogAt M0 M' g p b D es L := ⟨h.disk.to hle, h.self.le hle, h.fresh⟩
/-- a call of the disk's -/
theorem LogAt.call {L : LogR} (h : LogAt M0 M g p b D es L) {M' : Mem} {D' : DiskR} {es' : FsT} (h' : FreshD (M.minus (diskB p b es)) M' p b D' es') : LogAt M0 M' g p b D' es' L := by
  have hg : (M.minus (diskB p b es)).has g T.wal_Log (logCs p L) := by
    have := h.self
    unfold Mem.has at this ⊢
    unfold Mem.minus
    rw [if_neg (h.disk.at'.notB h.self)]
    exact this
  exact ⟨h'.mono h.disk.base.2, hg.le h'.le, h.fresh⟩
/-- the log's own words turn -/
theorem LogAt.set {L : LogR} (h : LogAt M0 M g p b D es L) (L' : LogR) : LogAt M0 (M.setCells g T.wal_Log (logCs p L')) g p b D es L' := by
  have hk : Mem.keep (fun y => y = g) M (M.setCells g T.wal_Log (logCs p L')) := fun y o hy ho => by
    unfold Mem.setCells; rw [Mem.upd_ne _ _ hy]; exact ho
  refine ⟨⟨hk.le h.disk.le (fun y hy => by rw [hy]; exact h.fresh), h.disk.at'.mono fun y o hy ho => hk y o (fun e => ?_) ho, h.disk.rel, h.disk.inv, h.disk.fresh⟩, Mem.has_setCells, h.fresh⟩
  rw [e] at hy
  exact h.disk.at'.notB h.self hy
theorem name_size (k : Int) : (nameB k).size ≤ 4611686018427387904 := by
  unfold nameB
  split
  · show (0 : Nat) ≤ _; decide
  · show (6 : Nat) ≤ _; decide
theorem ready_okL {L : LogR} (h : M.has g T.wal_Log (logCs p L)) : CallsM Try.prog F.wal_Log_ready [ptr g] M fun v M' => v = .int .i64 (if L.failed = true then 7 else 0) ∧ M = M' := by
  refine fo_wal_Log_ready (by simp) ?_
  obtain ⟨fi, la, sz, fl⟩ := L
  cases fl
  · repeat' ((conv => whnf); first | refine ⟨?_, True.intro⟩ | refine brn_t rfl ?_ | refine brn_f rfl ?_ | refine ob rfl ?_ | refine ob (by decide) ?_ | refine grow_same (Mem.le_refl _) ?_ | refine ob (Mem.le_refl _) ?_ | refine ⟨_, Mem.le_refl _, ?_⟩ | fail)
    refine on (h.c1 rfl) ?_
    repeat' ((conv => whnf); first | refine ⟨?_, True.intro⟩ | refine brn_t rfl ?_ | refine brn_f rfl ?_ | refine ob rfl ?_ | refine ob (by decide) ?_ | refine grow_same (Mem.le_refl _) ?_ | refine ob (Mem.le_refl _) ?_ | refine ⟨_, Mem.le_refl _, ?_⟩ | fail)
    exact ⟨rfl, rfl⟩
  · repeat' ((conv => whnf); first | refine ⟨?_, True.intro⟩ | refine brn_t rfl ?_ | refine brn_f rfl ?_ | refine ob rfl ?_ | refine ob (by decide) ?_ | refine grow_same (Mem.le_refl _) ?_ | refine ob (Mem.le_refl _) ?_ | refine ⟨_, Mem.le_refl _, ?_⟩ | fail)
    refine on (h.c1 rfl) ?_
    repeat' ((conv => whnf); first | refine ⟨?_, True.intro⟩ | refine brn_t rfl ?_ | refine brn_f rfl ?_ | refine ob rfl ?_ | refine ob (by decide) ?_ | refine grow_same (Mem.le_refl _) ?_ | refine ob (Mem.le_refl _) ?_ | refine ⟨_, Mem.le_refl _, ?_⟩ | fail)
    exact ⟨rfl, rfl⟩
theorem told_okL {L : LogR} (h : LogAt M0 M g p b D es L) (e : Int) : CallsM Try.prog F.wal_Log_told [ptr g, .int .i64 e] M fun v M' => v = .int .i64 e ∧ LogAt M0 M' g p b D es (downL L e) := by
  refine fo_wal_Log_told (by simp) ?_
  have h' := h.set (downL L e)
  have hs := h.self
  clear h
  obtain ⟨fi, la, sz, fl⟩ := L
  cases fl
  · repeat' ((conv => whnf); first | refine ⟨?_, True.intro⟩ | refine brn_t rfl ?_ | refine brn_f rfl ?_ | refine ob rfl ?_ | refine ob (by decide) ?_ | refine grow_same (Mem.le_refl _) ?_ | refine ob (Mem.le_refl _) ?_ | refine ⟨_, Mem.le_refl _, ?_⟩ | fail)
    refine on (hs.c1 rfl) ?_
    repeat' ((conv => whnf); first | refine ⟨?_, True.intro⟩ | refine brn_t rfl ?_ | refine brn_f rfl ?_ | refine ob rfl ?_ | refine ob (by decide) ?_ | refine grow_same (Mem.le_refl _) ?_ | refine ob (Mem.le_refl _) ?_ | refine ⟨_, Mem.le_refl _, ?_⟩ | fail)
    refine on hs.cells ?_
    (conv => whnf); refine ob (by simp) ?_
    repeat' ((conv => whnf); first | refine ⟨?_, True.intro⟩ | refine brn_t rfl ?_ | refine brn_f rfl ?_ | refine ob rfl ?_ | refine ob (by decide) ?_ | refine grow_same (Mem.le_refl _) ?_ | refine ob (Mem.le_refl _) ?_ | refine ⟨_, Mem.le_refl _, ?_⟩ | fail)
    exact ⟨rfl, h'⟩
  · repeat' ((conv => whnf); first | refine ⟨?_, True.intro⟩ | refine brn_t rfl ?_ | refine brn_f rfl ?_ | refine ob rfl ?_ | refine ob (by decide) ?_ | refine grow_same (Mem.le_refl _) ?_ | refine ob (Mem.le_refl _) ?_ | refine ⟨_, Mem.le_refl _, ?_⟩ | fail)
    refine on (hs.c1 rfl) ?_
    repeat' ((conv => whnf); first | refine ⟨?_, True.intro⟩ | refine brn_t rfl ?_ | refine brn_f rfl ?_ | refine ob rfl ?_ | refine ob (by decide) ?_ | refine grow_same (Mem.le_refl _) ?_ | refine ob (Mem.le_refl _) ?_ | refine ⟨_, Mem.le_refl _, ?_⟩ | fail)
    refine on hs.cells ?_
    (conv => whnf); refine ob (by simp) ?_
    repeat' ((conv => whnf); first | refine ⟨?_, True.intro⟩ | refine brn_t rfl ?_ | refine brn_f rfl ?_ | refine ob rfl ?_ | refine ob (by decide) ?_ | refine grow_same (Mem.le_refl _) ?_ | refine ob (Mem.le_refl _) ?_ | refine ⟨_, Mem.le_refl _, ?_⟩ | fail)
    exact ⟨rfl, h'⟩
theorem down_okL (h : FreshD M0 M p b D es) : CallsM Try.prog F.disk_Disk_Down [ptr p] M fun v M' => v = .bool D.down ∧ M = M' := Down_ok h.at'
theorem read_e (D : DiskR) (s : ByteArray) : ((readR D s).2 = 9 ↔ D.down = true) := by
  unfold readR thereE readyE
  cases D.down <;> simp
  repeat' split
  all_goals simp_all
theorem length_ok {L : LogR} (h : LogAt M0 M g p b D es L) (k : Int) : CallsM Try.prog F.wal_Log_length [ptr g, .int .i64 k] M fun v M' => v = .int .i64 (lenL D k) ∧ M.le M' := by
  refine fo_wal_Log_length (by simp) ?_
  repeat' ((conv => whnf); first | refine ⟨?_, True.intro⟩ | refine brn_t rfl ?_ | refine brn_f rfl ?_ | refine ob rfl ?_ | refine ob (by decide) ?_ | refine grow_same (Mem.le_refl _) ?_ | refine ob (Mem.le_refl _) ?_ | refine ⟨_, Mem.le_refl _, ?_⟩ | fail)
  refine on (h.self.c1 rfl) ?_
  repeat' ((conv => whnf); first | refine ⟨?_, True.intro⟩ | refine brn_t rfl ?_ | refine brn_f rfl ?_ | refine ob rfl ?_ | refine ob (by decide) ?_ | refine grow_same (Mem.le_refl _) ?_ | refine ob (Mem.le_refl _) ?_ | refine ⟨_, Mem.le_refl _, ?_⟩ | fail)
  refine (name_ok k).mono ?_
  rintro v M1 ⟨rfl, hle1⟩
  repeat' ((conv => whnf); first | refine ob rfl ?_ | refine grow_same hle1 ?_ | refine ob hle1 ?_ | refine ⟨?_, True.intro⟩ | fail)
  have h1 := h.to hle1
  repeat' ((conv => whnf); first | refine ⟨?_, True.intro⟩ | refine brn_t rfl ?_ | refine brn_f rfl ?_ | refine ob rfl ?_ | refine ob (by decide) ?_ | refine grow_same (Mem.le_refl _) ?_ | refine ob (Mem.le_refl _) ?_ | refine ⟨_, Mem.le_refl _, ?_⟩ | fail)
  refine (readF h1.disk (name_size k)).mono ?_
  rintro v M2 ⟨a, n, c, rfl, hn, hN⟩
  have h2 := h1.to hN.le
  repeat' ((conv => whnf); first | refine ⟨?_, True.intro⟩ | refine brn_t rfl ?_ | refine brn_f rfl ?_ | refine ob rfl ?_ | refine ob (by decide) ?_ | refine grow_same (Mem.le_refl _) ?_ | refine ob (Mem.le_refl _) ?_ | refine ⟨_, Mem.le_refl _, ?_⟩ | fail)
  refine brn (fun e => ?_) (fun e => ?_)
  · have hd := (read_e D (nameB k)).1 (of_decide_eq_true e)
    repeat' ((conv => whnf); first | refine ⟨?_, True.intro⟩ | refine brn_t rfl ?_ | refine brn_f rfl ?_ | refine ob rfl ?_ | refine ob (by decide) ?_ | refine grow_same (Mem.le_refl _) ?_ | refine ob (Mem.le_refl _) ?_ | refine ⟨_, Mem.le_refl _, ?_⟩ | fail)
    refine on (h2.self.c1 rfl) ?_
    repeat' ((conv => whnf); first | refine ⟨?_, True.intro⟩ | refine brn_t rfl ?_ | refine brn_f rfl ?_ | refine ob rfl ?_ | refine ob (by decide) ?_ | refine grow_same (Mem.le_refl _) ?_ | refine ob (Mem.le_refl _) ?_ | refine ⟨_, Mem.le_refl _, ?_⟩ | fail)
    refine (name_ok k).mono ?_
    rintro v M3 ⟨rfl, hle3⟩
    have h3 := h2.to hle3
    repeat' ((conv => whnf); first | refine ob rfl ?_ | refine grow_same hle3 ?_ | refine ob hle3 ?_ | refine ⟨?_, True.intro⟩ | fail)
    repeat' ((conv => whnf); first | refine ⟨?_, True.intro⟩ | refine brn_t rfl ?_ | refine brn_f rfl ?_ | refine ob rfl ?_ | refine ob (by decide) ?_ | refine grow_same (Mem.le_refl _) ?_ | refine ob (Mem.le_refl _) ?_ | refine ⟨_, Mem.le_refl _, ?_⟩ | fail)
    refine (safeF h3.disk (nameB k)).mono ?_
    rintro v _ ⟨rfl, rfl⟩
    repeat' ((conv => whnf); first | refine ⟨?_, True.intro⟩ | refine brn_t rfl ?_ | refine brn_f rfl ?_ | refine ob rfl ?_ | refine ob (by decide) ?_ | refine grow_same (Mem.le_refl _) ?_ | refine ob (Mem.le_refl _) ?_ | refine ⟨_, Mem.le_refl _, ?_⟩ | fail)
    refine ⟨?_, Mem.le_trans hle1 (Mem.le_trans hN.le hle3)⟩
    unfold lenL; rw [if_pos hd]
  · have hd : ¬ D.down = true := fun hd => of_decide_eq_false e ((read_e D (nameB k)).2 hd)
    repeat' ((conv => whnf); first | refine ⟨?_, True.intro⟩ | refine brn_t rfl ?_ | refine brn_f rfl ?_ | refine ob rfl ?_ | refine ob (by decide) ?_ | refine grow_same (Mem.le_refl _) ?_ | refine ob (Mem.le_refl _) ?_ | refine ⟨_, Mem.le_refl _, ?_⟩ | fail)
    refine ⟨?_, Mem.le_trans hle1 hN.le⟩
    unfold lenL; rw [if_neg hd, hn, bl_len]
theorem sync_okL {L : LogR} (h : LogAt M0 M g p b D es L) : CallsM Try.prog F.wal_Log_Sync [ptr g] M fun v M' => ∃ es', v = .int .i64 (syncL D L).2.2 ∧ LogAt M0 M' g p b (syncL D L).1 es' (syncL D L).2.1 := by
  refine fo_wal_Log_Sync (by simp) ?_
  repeat' ((conv => whnf); first | refine ⟨?_, True.intro⟩ | refine brn_t rfl ?_ | refine brn_f rfl ?_ | refine ob rfl ?_ | refine ob (by decide) ?_ | refine grow_same (Mem.le_refl _) ?_ | refine ob (Mem.le_refl _) ?_ | refine ⟨_, Mem.le_refl _, ?_⟩ | fail)
  refine (ready_okL h.self).mono ?_
  rintro v _ ⟨rfl, rfl⟩
  (conv => whnf); refine brn (fun e => ?_) (fun e => ?_)
  · have hf : L.failed = true := by
      cases hf : L.failed
      · rw [hf] at e; exact absurd e (by decide)
      · rfl
    repeat' ((conv => whnf); first | refine ⟨?_, True.intro⟩ | refine brn_t rfl ?_ | refine brn_f rfl ?_ | refine ob rfl ?_ | refine ob (by decide) ?_ | refine grow_same (Mem.le_refl _) ?_ | refine ob (Mem.le_refl _) ?_ | refine ⟨_, Mem.le_refl _, ?_⟩ | fail)
    rw [if_pos hf, show syncL D L = (D, L, 7) by simp [syncL, hf]]
    exact ⟨es, rfl, h⟩
  have hf : ¬ L.failed = true := fun hf => by rw [if_pos hf] at e; exact absurd e (by decide)
  repeat' ((conv => whnf); first | refine ⟨?_, True.intro⟩ | refine brn_t rfl ?_ | refine brn_f rfl ?_ | refine ob rfl ?_ | refine ob (by decide) ?_ | refine grow_same (Mem.le_refl _) ?_ | refine ob (Mem.le_refl _) ?_ | refine ⟨_, Mem.le_refl _, ?_⟩ | fail)
  refine on (h.self.c1 rfl) ?_
  repeat' ((conv => whnf); first | refine ⟨?_, True.intro⟩ | refine brn_t rfl ?_ | refine brn_f rfl ?_ | refine ob rfl ?_ | refine ob (by decide) ?_ | refine grow_same (Mem.le_refl _) ?_ | refine ob (Mem.le_refl _) ?_ | refine ⟨_, Mem.le_refl _, ?_⟩ | fail)
  refine (down_okL h.disk).mono ?_
  rintro v _ ⟨rfl, rfl⟩
  cases hd : D.down
  case true =>
    repeat' ((conv => whnf); first | refine ⟨?_, True.intro⟩ | refine brn_t rfl ?_ | refine brn_f rfl ?_ | refine ob rfl ?_ | refine ob (by decide) ?_ | refine grow_same (Mem.le_refl _) ?_ | refine ob (Mem.le_refl _) ?_ | refine ⟨_, Mem.le_refl _, ?_⟩ | fail)
    refine (told_okL h 9).mono ?_
    rintro v M1 ⟨rfl, h1⟩
    repeat' ((conv => whnf); first | refine ⟨?_, True.intro⟩ | refine brn_t rfl ?_ | refine brn_f rfl ?_ | refine ob rfl ?_ | refine ob (by decide) ?_ | refine grow_same (Mem.le_refl _) ?_ | refine ob (Mem.le_refl _) ?_ | refine ⟨_, Mem.le_refl _, ?_⟩ | fail)
    rw [show syncL D L = (D, downL L 9, 9) by simp [syncL, hf, hd]]
    exact ⟨es, rfl, h1⟩
  repeat' ((conv => whnf); first | refine ⟨?_, True.intro⟩ | refine brn_t rfl ?_ | refine brn_f rfl ?_ | refine ob rfl ?_ | refine ob (by decide) ?_ | refine grow_same (Mem.le_refl _) ?_ | refine ob (Mem.le_refl _) ?_ | refine ⟨_, Mem.le_refl _, ?_⟩ | fail)
  refine on (h.self.c1 rfl) ?_
  (conv => whnf); refine on (h.self.c1 rfl) ?_
  (conv => whnf); refine on (h.self.c1 rfl) ?_
  repeat' ((conv => whnf); first | refine ⟨?_, True.intro⟩ | refine brn_t rfl ?_ | refine brn_f rfl ?_ | refine ob rfl ?_ | refine ob (by decide) ?_ | refine grow_same (Mem.le_refl _) ?_ | refine ob (Mem.le_refl _) ?_ | refine ⟨_, Mem.le_refl _, ?_⟩ | fail)
  refine (length_ok h L.last).mono ?_
  rintro v M1 ⟨rfl, hle1⟩
  have h1 := h.to hle1
  repeat' ((conv => whnf); first | refine ob rfl ?_ | refine grow_same hle1 ?_ | refine ob hle1 ?_ | refine ⟨?_, True.intro⟩ | fail)
  repeat' ((conv => whnf); first | refine ⟨?_, True.intro⟩ | refine brn_t rfl ?_ | refine brn_f rfl ?_ | refine ob rfl ?_ | refine ob (by decide) ?_ | refine grow_same (Mem.le_refl _) ?_ | refine ob (Mem.le_refl _) ?_ | refine ⟨_, Mem.le_refl _, ?_⟩ | fail)
  refine (name_ok L.last).mono ?_
  rintro v M2 ⟨rfl, hle2⟩
  have h2 := h1.to hle2
  repeat' ((conv => whnf); first | refine ob rfl ?_ | refine grow_same (Mem.le_trans hle1 hle2) ?_ | refine ob (Mem.le_trans hle1 hle2) ?_ | refine ⟨?_, True.intro⟩ | fail)
  repeat' ((conv => whnf); first | refine ⟨?_, True.intro⟩ | refine brn_t rfl ?_ | refine brn_f rfl ?_ | refine ob rfl ?_ | refine ob (by decide) ?_ | refine grow_same (Mem.le_refl _) ?_ | refine ob (Mem.le_refl _) ?_ | refine ⟨_, Mem.le_refl _, ?_⟩ | fail)
  refine (safeF h2.disk (nameB L.last)).mono ?_
  rintro v _ ⟨rfl, rfl⟩
  (conv => whnf); refine brn (fun e => ?_) (fun e => ?_)
  · have e1 : lenL D L.last = safeR D (nameB L.last) := by have := of_decide_eq_true e; omega
    repeat' ((conv => whnf); first | refine ⟨?_, True.intro⟩ | refine brn_t rfl ?_ | refine brn_f rfl ?_ | refine ob rfl ?_ | refine ob (by decide) ?_ | refine grow_same (Mem.le_refl _) ?_ | refine ob (Mem.le_refl _) ?_ | refine ⟨_, Mem.le_refl _, ?_⟩ | fail)
    rw [show syncL D L = (D, L, 0) by simp [syncL, hf, hd, e1]]
    exact ⟨es, rfl, h2⟩
  have e1 : ¬ lenL D L.last = safeR D (nameB L.last) := by have := of_decide_eq_false e; omega
  repeat' ((conv => whnf); first | refine ⟨?_, True.intro⟩ | refine brn_t rfl ?_ | refine brn_f rfl ?_ | refine ob rfl ?_ | refine ob (by decide) ?_ | refine grow_same (Mem.le_refl _) ?_ | refine ob (Mem.le_refl _) ?_ | refine ⟨_, Mem.le_refl _, ?_⟩ | fail)
  refine on (h2.self.c1 rfl) ?_
  (conv => whnf); refine on (h2.self.c1 rfl) ?_
  repeat' ((conv => whnf); first | refine ⟨?_, True.intro⟩ | refine brn_t rfl ?_ | refine brn_f rfl ?_ | refine ob rfl ?_ | refine ob (by decide) ?_ | refine grow_same (Mem.le_refl _) ?_ | refine ob (Mem.le_refl _) ?_ | refine ⟨_, Mem.le_refl _, ?_⟩ | fail)
  refine (name_ok L.last).mono ?_
  rintro v M3 ⟨rfl, hle3⟩
  have h3 := h2.to hle3
  repeat' ((conv => whnf); first | refine ob rfl ?_ | refine grow_same hle3 ?_ | refine ob hle3 ?_ | refine ⟨?_, True.intro⟩ | fail)
  repeat' ((conv => whnf); first | refine ⟨?_, True.intro⟩ | refine brn_t rfl ?_ | refine brn_f rfl ?_ | refine ob rfl ?_ | refine ob (by decide) ?_ | refine grow_same (Mem.le_refl _) ?_ | refine ob (Mem.le_refl _) ?_ | refine ⟨_, Mem.le_refl _, ?_⟩ | fail)
  refine (syncF h3.disk.base.1 (name_size L.last)).mono ?_
  rintro v M4 ⟨es4, rfl, h4⟩
  have h4' := h3.call h4
  repeat' ((conv => whnf); first | refine ⟨?_, True.intro⟩ | refine brn_t rfl ?_ | refine brn_f rfl ?_ | refine ob rfl ?_ | refine ob (by decide) ?_ | refine grow_same (Mem.le_refl _) ?_ | refine ob (Mem.le_refl _) ?_ | refine ⟨_, Mem.le_refl _, ?_⟩ | fail)
  refine (told_okL h4' _).mono ?_
  rintro v M5 ⟨rfl, h5⟩
  repeat' ((conv => whnf); first | refine ⟨?_, True.intro⟩ | refine brn_t rfl ?_ | refine brn_f rfl ?_ | refine ob rfl ?_ | refine ob (by decide) ?_ | refine grow_same (Mem.le_refl _) ?_ | refine ob (Mem.le_refl _) ?_ | refine ⟨_, Mem.le_refl _, ?_⟩ | fail)
  rw [show syncL D L = ((syncR D (nameB L.last)).1, downL L (syncR D (nameB L.last)).2, (syncR D (nameB L.last)).2) by simp [syncL, hf, hd, e1]]
  exact ⟨es4, rfl, h5⟩
end Go.Proofs.Ytnlghoenbhbfhaa

