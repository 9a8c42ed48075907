/- The disk: awake; a nil disk. -/
import Derived.Test.YtdjgmhifocdelaaDiskR
namespace Go.Proofs.Ytdjgmhifocdelaa
open Go Go.Vm
attribute [local irreducible] Brn Ob Grow CallsM inR LoopVC Mem.row Mem.cells Mem.setCells Mem.upd Own AppVC SrcVC StrVC NextVC New SrcOk subA NewSl Mem.textAt Mem.mapAt Mem.iterAt entryOf kfind Wr NewEls Elems
set_option maxRecDepth 10000
variable {M : Mem}
set_option maxRecDepth 10000 in
theorem awake_ok : CallsM Try.prog F.law10_awake [] M fun v M' => v = .bool true ∧ M.le M' := by
  refine fo_law10_awake (by simp) ?_
  (conv => whnf); refine (newF 9).mono ?_
  rintro v M1 (⟨h, -⟩ | ⟨-, p, b, rfl, h1⟩)
  · omega
  repeat' ((conv => whnf); first | refine ⟨?_, True.intro⟩ | refine brn_t rfl ?_ | refine brn_f rfl ?_ | refine ob rfl ?_ | refine ob (by decide) ?_ | refine grow_same (Mem.le_refl _) ?_ | refine ob (Mem.le_refl _) ?_ | refine ⟨_, Mem.le_refl _, ?_⟩ | fail)
  refine new (fun b1 hb1 => ?_)
  replace hb1 : M1 b1 = none := hb1
  (conv => whnf); refine on Mem.textAt_setCells ?_
  (conv => whnf)
  have hle1 : M1.le ((M1.setCells b1 T.uint8 [S.u 120, S.u 121, S.u 122]).upd b1 (.cells [S.u 120, S.u 121, S.u 122].toArray T.uint8 (3, 4))) := by
    intro c o hc
    have hne : c ≠ b1 := fun e => by subst e; rw [hb1] at hc; cases hc
    unfold Mem.setCells
    rw [Mem.upd_ne _ _ hne, Mem.upd_ne _ _ hne]; exact hc
  have hs1 : SrcOk ((M1.setCells b1 T.uint8 [S.u 120, S.u 121, S.u 122]).upd b1 (.cells [S.u 120, S.u 121, S.u 122].toArray T.uint8 (3, 4))) 1 (some ⟨b1, 0, none⟩) 3 ([120, 121, 122].map byteV) :=
    by unfold SrcOk; exact ⟨rfl, .inr ⟨b1, 0, rfl, Mem.row_obj (Mem.upd_same _ _ _) (by decide)⟩⟩
  obtain ⟨M2, hM2⟩ : ∃ M2, M2 = (M1.setCells b1 T.uint8 [S.u 120, S.u 121, S.u 122]).upd b1 (.cells [S.u 120, S.u 121, S.u 122].toArray T.uint8 (3, 4)) := ⟨_, rfl⟩
  rw [← hM2] at hle1 hs1
  erw [← hM2]
  refine (appendF (h1.to hle1) (s := ⟨#[97]⟩) (by decide) hs1).mono ?_
  rw [aw1]
  rintro v M3 ⟨es3, rfl, h3⟩
  repeat' ((conv => whnf); first | refine ⟨?_, True.intro⟩ | refine brn_t rfl ?_ | refine brn_f rfl ?_ | refine ob rfl ?_ | refine ob (by decide) ?_ | refine grow_same (Mem.le_refl _) ?_ | refine ob (Mem.le_refl _) ?_ | refine ⟨_, Mem.le_refl _, ?_⟩ | fail)
  refine (syncF h3 (s := ⟨#[97]⟩) (by decide)).mono ?_
  rw [aw2]
  rintro v M4 ⟨es4, rfl, h4⟩
  repeat' ((conv => whnf); first | refine ⟨?_, True.intro⟩ | refine brn_t rfl ?_ | refine brn_f rfl ?_ | refine ob rfl ?_ | refine ob (by decide) ?_ | refine grow_same (Mem.le_refl _) ?_ | refine ob (Mem.le_refl _) ?_ | refine ⟨_, Mem.le_refl _, ?_⟩ | fail)
  refine new (fun b2 hb2 => ?_)
  replace hb2 : M4 b2 = none := hb2
  (conv => whnf); refine on Mem.textAt_setCells ?_
  (conv => whnf)
  have hle5 : M4.le ((M4.setCells b2 T.uint8 [S.u 117, S.u 118]).upd b2 (.cells [S.u 117, S.u 118].toArray T.uint8 (2, 3))) := by
    intro c o hc
    have hne : c ≠ b2 := fun e => by subst e; rw [hb2] at hc; cases hc
    unfold Mem.setCells
    rw [Mem.upd_ne _ _ hne, Mem.upd_ne _ _ hne]; exact hc
  have hs5 : SrcOk ((M4.setCells b2 T.uint8 [S.u 117, S.u 118]).upd b2 (.cells [S.u 117, S.u 118].toArray T.uint8 (2, 3))) 1 (some ⟨b2, 0, none⟩) 2 ([117, 118].map byteV) :=
    by unfold SrcOk; exact ⟨rfl, .inr ⟨b2, 0, rfl, Mem.row_obj (Mem.upd_same _ _ _) (by decide)⟩⟩
  obtain ⟨M5, hM5⟩ : ∃ M5, M5 = (M4.setCells b2 T.uint8 [S.u 117, S.u 118]).upd b2 (.cells [S.u 117, S.u 118].toArray T.uint8 (2, 3)) := ⟨_, rfl⟩
  rw [← hM5] at hle5 hs5
  erw [← hM5]
  refine (appendF (h4.to hle5) (s := ⟨#[97]⟩) (by decide) hs5).mono ?_
  rw [aw3]
  rintro v M6 ⟨es6, rfl, h6⟩
  obtain ⟨h6b, hB6⟩ := h6.base
  repeat' ((conv => whnf); first | refine ⟨?_, True.intro⟩ | refine brn_t rfl ?_ | refine brn_f rfl ?_ | refine ob rfl ?_ | refine ob (by decide) ?_ | refine grow_same (Mem.le_refl _) ?_ | refine ob (Mem.le_refl _) ?_ | refine ⟨_, Mem.le_refl _, ?_⟩ | fail)
  refine new (fun b3 hb3 => ?_)
  replace hb3 : M6 b3 = none := hb3
  have hle7 : M6.le (M6.setCells b3 T.int [intV 1]) := Mem.le_setCells hb3
  have hs7 : SrcOk (M6.setCells b3 T.int [intV 1]) 1 (some ⟨b3, 0, none⟩) 1 ([1].map intV) := SrcOk.lit rfl
  obtain ⟨M7, hM7⟩ : ∃ M7, M7 = M6.setCells b3 T.int [intV 1] := ⟨_, rfl⟩
  rw [← hM7] at hle7 hs7
  (conv => whnf)
  erw [← hM7]
  have h7 := h6.to hle7
  obtain ⟨h7b, hB7⟩ := h7.base
  have hs7b := hs7.minus (S := diskB p b es6) fun q hq hb => by
    cases hq
    exact h6.at'.full hb hb3
  refine (crashFr h7b hs7b (by omega)).mono ?_
  rw [aw4]
  rintro v M8 ⟨es8, rfl, h8⟩
  repeat' ((conv => whnf); first | refine ⟨?_, True.intro⟩ | refine brn_t rfl ?_ | refine brn_f rfl ?_ | refine ob rfl ?_ | refine ob (by decide) ?_ | refine grow_same (Mem.le_refl _) ?_ | refine ob (Mem.le_refl _) ?_ | refine ⟨_, Mem.le_refl _, ?_⟩ | fail)
  refine (readF h8 (s := ⟨#[97]⟩) (by decide)).mono ?_
  rw [aw5]
  rintro v M9 ⟨a, n, c, rfl, hn, hN⟩
  have h9 := h8.to hN.le
  repeat' ((conv => whnf); first | refine ⟨?_, True.intro⟩ | refine brn_t rfl ?_ | refine brn_f rfl ?_ | refine ob rfl ?_ | refine ob (by decide) ?_ | refine grow_same (Mem.le_refl _) ?_ | refine ob (Mem.le_refl _) ?_ | refine ⟨_, Mem.le_refl _, ?_⟩ | fail)
  refine strv hN.src ?_
  repeat' ((conv => whnf); first | refine ⟨?_, True.intro⟩ | refine brn_t rfl ?_ | refine brn_f rfl ?_ | refine ob rfl ?_ | refine ob (by decide) ?_ | refine grow_same (Mem.le_refl _) ?_ | refine ob (Mem.le_refl _) ?_ | refine ⟨_, Mem.le_refl _, ?_⟩ | fail)
  repeat' ((conv => whnf); first | refine ⟨?_, True.intro⟩ | refine brn_t rfl ?_ | refine brn_f rfl ?_ | refine ob rfl ?_ | refine ob (by decide) ?_ | refine grow_same (Mem.le_refl _) ?_ | refine ob (Mem.le_refl _) ?_ | refine ⟨_, Mem.le_refl _, ?_⟩ | fail)
  refine (safeF h9 ⟨#[97]⟩).mono ?_
  rw [aw6]
  rintro v _ ⟨rfl, rfl⟩
  repeat' ((conv => whnf); first | refine ⟨?_, True.intro⟩ | refine brn_t rfl ?_ | refine brn_f rfl ?_ | refine ob rfl ?_ | refine ob (by decide) ?_ | refine grow_same (Mem.le_refl _) ?_ | refine ob (Mem.le_refl _) ?_ | refine ⟨_, Mem.le_refl _, ?_⟩ | fail)
  exact ⟨rfl, Mem.le_trans hB7 h9.le⟩
/-! a nil disk -/
@[reducible] def np : Value := .pointer none
theorem ready_nil (a : Option Addr) (n c : Nat) : CallsM Try.prog F.disk_Disk_ready [np, .slice a n c] M fun v M' => v = .int .i64 7 ∧ M = M' := by
  refine fo_disk_Disk_ready (by simp) ?_
  repeat' ((conv => whnf); first | refine ⟨?_, True.intro⟩ | refine brn_t rfl ?_ | refine brn_f rfl ?_ | refine ob rfl ?_ | refine ob (by decide) ?_ | refine grow_same (Mem.le_refl _) ?_ | refine ob (Mem.le_refl _) ?_ | refine ⟨_, Mem.le_refl _, ?_⟩ | fail)
  exact ⟨rfl, rfl⟩
theorem there_nil (s : ByteArray) : CallsM Try.prog F.disk_Disk_there [np, .string s] M fun v M' => v = .tuple #[np, .int .i64 7] ∧ M.le M' := by
  refine fo_disk_Disk_there (by simp) ?_
  repeat' ((conv => whnf); first | refine ⟨?_, True.intro⟩ | refine brn_t rfl ?_ | refine brn_f rfl ?_ | refine ob rfl ?_ | refine ob (by decide) ?_ | refine grow_same (Mem.le_refl _) ?_ | refine ob (Mem.le_refl _) ?_ | refine ⟨_, Mem.le_refl _, ?_⟩ | fail)
  refine new (fun b1 hb1 => ?_)
  replace hb1 : M b1 = none := hb1
  (conv => whnf); refine (ready_nil _ _ _).mono ?_
  rintro v _ ⟨rfl, rfl⟩
  repeat' ((conv => whnf); first | refine ⟨?_, True.intro⟩ | refine brn_t rfl ?_ | refine brn_f rfl ?_ | refine ob rfl ?_ | refine ob (by decide) ?_ | refine grow_same (Mem.le_refl _) ?_ | refine ob (Mem.le_refl _) ?_ | refine ⟨_, Mem.le_refl _, ?_⟩ | fail)
  exact ⟨rfl, Mem.le_setCells hb1⟩
theorem nil_append (s : ByteArray) (a : Option Addr) (n c : Nat) : CallsM Try.prog F.disk_Disk_Append [np, .string s, .slice a n c] M fun v M' => v = .int .i64 7 ∧ M.le M' := by
  refine fo_disk_Disk_Append (by simp) ?_
  repeat' ((conv => whnf); first | refine ⟨?_, True.intro⟩ | refine brn_t rfl ?_ | refine brn_f rfl ?_ | refine ob rfl ?_ | refine ob (by decide) ?_ | refine grow_same (Mem.le_refl _) ?_ | refine ob (Mem.le_refl _) ?_ | refine ⟨_, Mem.le_refl _, ?_⟩ | fail)
  refine new (fun b1 hb1 => ?_)
  replace hb1 : M b1 = none := hb1
  (conv => whnf); refine (ready_nil _ _ _).mono ?_
  rintro v _ ⟨rfl, rfl⟩
  repeat' ((conv => whnf); first | refine ⟨?_, True.intro⟩ | refine brn_t rfl ?_ | refine brn_f rfl ?_ | refine ob rfl ?_ | refine ob (by decide) ?_ | refine grow_same (Mem.le_refl _) ?_ | refine ob (Mem.le_refl _) ?_ | refine ⟨_, Mem.le_refl _, ?_⟩ | fail)
  exact ⟨rfl, Mem.le_setCells hb1⟩
theorem nil_rename (s t : ByteArray) : CallsM Try.prog F.disk_Disk_Rename [np, .string s, .string t] M fun v M' => v = .int .i64 7 ∧ M.le M' := by
  refine fo_disk_Disk_Rename (by simp) ?_
  repeat' ((conv => whnf); first | refine ⟨?_, True.intro⟩ | refine brn_t rfl ?_ | refine brn_f rfl ?_ | refine ob rfl ?_ | refine ob (by decide) ?_ | refine grow_same (Mem.le_refl _) ?_ | refine ob (Mem.le_refl _) ?_ | refine ⟨_, Mem.le_refl _, ?_⟩ | fail)
  refine new (fun b1 hb1 => ?_)
  replace hb1 : M b1 = none := hb1
  (conv => whnf); refine (ready_nil _ _ _).mono ?_
  rintro v _ ⟨rfl, rfl⟩
  repeat' ((conv => whnf); first | refine ⟨?_, True.intro⟩ | refine brn_t rfl ?_ | refine brn_f rfl ?_ | refine ob rfl ?_ | refine ob (by decide) ?_ | refine grow_same (Mem.le_refl _) ?_ | refine ob (Mem.le_refl _) ?_ | refine ⟨_, Mem.le_refl _, ?_⟩ | fail)
  exact ⟨rfl, Mem.le_setCells hb1⟩
theorem nil_sync (s : ByteArray) : CallsM Try.prog F.disk_Disk_Sync [np, .string s] M fun v M' => v = .int .i64 7 ∧ M.le M' := by
  refine fo_disk_Disk_Sync (by simp) ?_
  (conv => whnf); refine (there_nil s).mono ?_
  rintro v M1 ⟨rfl, hle⟩
  repeat' ((conv => whnf); first | refine ⟨?_, True.intro⟩ | refine brn_t rfl ?_ | refine brn_f rfl ?_ | refine ob rfl ?_ | refine ob (by decide) ?_ | refine grow_same (Mem.le_refl _) ?_ | refine ob (Mem.le_refl _) ?_ | refine ⟨_, Mem.le_refl _, ?_⟩ | fail)
  exact ⟨rfl, hle⟩
theorem nil_cut (s : ByteArray) (k : Int) : CallsM Try.prog F.disk_Disk_Cut [np, .string s, .int .i64 k] M fun v M' => v = .int .i64 7 ∧ M.le M' := by
  refine fo_disk_Disk_Cut (by simp) ?_
  (conv => whnf); refine (there_nil s).mono ?_
  rintro v M1 ⟨rfl, hle⟩
  repeat' ((conv => whnf); first | refine ⟨?_, True.intro⟩ | refine brn_t rfl ?_ | refine brn_f rfl ?_ | refine ob rfl ?_ | refine ob (by decide) ?_ | refine grow_same (Mem.le_refl _) ?_ | refine ob (Mem.le_refl _) ?_ | refine ⟨_, Mem.le_refl _, ?_⟩ | fail)
  exact ⟨rfl, hle⟩
theorem nil_remove (s : ByteArray) : CallsM Try.prog F.disk_Disk_Remove [np, .string s] M fun v M' => v = .int .i64 7 ∧ M.le M' := by
  refine fo_disk_Disk_Remove (by simp) ?_
  (conv => whnf); refine (there_nil s).mono ?_
  rintro v M1 ⟨rfl, hle⟩
  repeat' ((conv => whnf); first | refine ⟨?_, True.intro⟩ | refine brn_t rfl ?_ | refine brn_f rfl ?_ | refine ob rfl ?_ | refine ob (by decide) ?_ | refine grow_same (Mem.le_refl _) ?_ | refine ob (Mem.le_refl _) ?_ | refine ⟨_, Mem.le_refl _, ?_⟩ | fail)
  exact ⟨rfl, hle⟩
theorem nil_read (s : ByteArray) : CallsM Try.prog F.disk_Disk_Read [np, .string s] M fun v M' => v = .tuple #[.slice none 0 0, .int .i64 7] ∧ M.le M' := by
  refine fo_disk_Disk_Read (by simp) ?_
  (conv => whnf); refine (there_nil s).mono ?_
  rintro v M1 ⟨rfl, hle⟩
  repeat' ((conv => whnf); first | refine ⟨?_, True.intro⟩ | refine brn_t rfl ?_ | refine brn_f rfl ?_ | refine ob rfl ?_ | refine ob (by decide) ?_ | refine grow_same (Mem.le_refl _) ?_ | refine ob (Mem.le_refl _) ?_ | refine ⟨_, Mem.le_refl _, ?_⟩ | fail)
  exact ⟨rfl, hle⟩
theorem nil_safe (s : ByteArray) : CallsM Try.prog F.disk_Disk_Safe [np, .string s] M fun v M' => v = .int .i64 0 ∧ M = M' := by
  refine fo_disk_Disk_Safe (by simp) ?_
  repeat' ((conv => whnf); first | refine ⟨?_, True.intro⟩ | refine brn_t rfl ?_ | refine brn_f rfl ?_ | refine ob rfl ?_ | refine ob (by decide) ?_ | refine grow_same (Mem.le_refl _) ?_ | refine ob (Mem.le_refl _) ?_ | refine ⟨_, Mem.le_refl _, ?_⟩ | fail)
  exact ⟨rfl, rfl⟩
theorem nil_names : CallsM Try.prog F.disk_Disk_Names [np] M fun v M' => v = .slice none 0 0 ∧ M = M' := by
  refine fo_disk_Disk_Names (by simp) ?_
  repeat' ((conv => whnf); first | refine ⟨?_, True.intro⟩ | refine brn_t rfl ?_ | refine brn_f rfl ?_ | refine ob rfl ?_ | refine ob (by decide) ?_ | refine grow_same (Mem.le_refl _) ?_ | refine ob (Mem.le_refl _) ?_ | refine ⟨_, Mem.le_refl _, ?_⟩ | fail)
  exact ⟨rfl, rfl⟩
theorem nil_used : CallsM Try.prog F.disk_Disk_Used [np] M fun v M' => v = .int .i64 0 ∧ M = M' := by
  refine fo_disk_Disk_Used (by simp) ?_
  repeat' ((conv => whnf); first | refine ⟨?_, True.intro⟩ | refine brn_t rfl ?_ | refine brn_f rfl ?_ | refine ob rfl ?_ | refine ob (by decide) ?_ | refine grow_same (Mem.le_refl _) ?_ | refine ob (Mem.le_refl _) ?_ | refine ⟨_, Mem.le_refl _, ?_⟩ | fail)
  exact ⟨rfl, rfl⟩
theorem nil_limit (k : Int) : CallsM Try.prog F.disk_Disk_Limit [np, .int .i64 k] M fun v M' => v = .int .i64 7 ∧ M = M' := by
  refine fo_disk_Disk_Limit (by simp) ?_
  repeat' ((conv => whnf); first | refine ⟨?_, True.intro⟩ | refine brn_t rfl ?_ | refine brn_f rfl ?_ | refine ob rfl ?_ | refine ob (by decide) ?_ | refine grow_same (Mem.le_refl _) ?_ | refine ob (Mem.le_refl _) ?_ | refine ⟨_, Mem.le_refl _, ?_⟩ | fail)
  exact ⟨rfl, rfl⟩
theorem nil_arm (k : Int) : CallsM Try.prog F.disk_Disk_Arm [np, .int .i64 k] M fun v M' => v = .int .i64 7 ∧ M = M' := by
  refine fo_disk_Disk_Arm (by simp) ?_
  (conv => whnf); refine (ready_nil _ _ _).mono ?_
  rintro v _ ⟨rfl, rfl⟩
  repeat' ((conv => whnf); first | refine ⟨?_, True.intro⟩ | refine brn_t rfl ?_ | refine brn_f rfl ?_ | refine ob rfl ?_ | refine ob (by decide) ?_ | refine grow_same (Mem.le_refl _) ?_ | refine ob (Mem.le_refl _) ?_ | refine ⟨_, Mem.le_refl _, ?_⟩ | fail)
  exact ⟨rfl, rfl⟩
theorem nil_down : CallsM Try.prog F.disk_Disk_Down [np] M fun v M' => v = .bool false ∧ M = M' := by
  refine fo_disk_Disk_Down (by simp) ?_
  repeat' ((conv => whnf); first | refine ⟨?_, True.intro⟩ | refine brn_t rfl ?_ | refine brn_f rfl ?_ | refine ob rfl ?_ | refine ob (by decide) ?_ | refine grow_same (Mem.le_refl _) ?_ | refine ob (Mem.le_refl _) ?_ | refine ⟨_, Mem.le_refl _, ?_⟩ | fail)
  exact ⟨rfl, rfl⟩
theorem nil_crash (a : Option Addr) (n c : Nat) : CallsM Try.prog F.disk_Disk_Crash [np, .slice a n c] M fun v M' => v = .int .i64 7 ∧ M = M' := by
  refine fo_disk_Disk_Crash (by simp) ?_
  repeat' ((conv => whnf); first | refine ⟨?_, True.intro⟩ | refine brn_t rfl ?_ | refine brn_f rfl ?_ | refine ob rfl ?_ | refine ob (by decide) ?_ | refine grow_same (Mem.le_refl _) ?_ | refine ob (Mem.le_refl _) ?_ | refine ⟨_, Mem.le_refl _, ?_⟩ | fail)
  exact ⟨rfl, rfl⟩
theorem nil_fork : CallsM Try.prog F.disk_Disk_Fork [np] M fun v M' => v = np ∧ M = M' := by
  refine fo_disk_Disk_Fork (by simp) ?_
  repeat' ((conv => whnf); first | refine ⟨?_, True.intro⟩ | refine brn_t rfl ?_ | refine brn_f rfl ?_ | refine ob rfl ?_ | refine ob (by decide) ?_ | refine grow_same (Mem.le_refl _) ?_ | refine ob (Mem.le_refl _) ?_ | refine ⟨_, Mem.le_refl _, ?_⟩ | fail)
  exact ⟨rfl, rfl⟩
end Go.Proofs.Ytdjgmhifocdelaa
