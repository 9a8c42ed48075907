/- The log: Open; what was safe is there behind a crash; a nil log. -/
import Derived.Test.YtnlghoenbhbfhaaWalO
import Derived.Test.YtnlghoenbhbfhaaBridge
namespace Go.Proofs.Ytnlghoenbhbfhaa
open Go Go.Vm
attribute [local irreducible] Brn Ob Grow CallsM inR LoopVC Mem.row Mem.cells Mem.setCells Mem.upd Go.Vm.Own AppVC SrcVC StrVC NextVC New SrcOk subA NewSl Mem.textAt Mem.mapAt Mem.iterAt entryOf kfind Wr NewEls Elems
set_option maxRecDepth 10000
variable {M M0 : Mem} {g p b : Nat} {D : DiskR} {es : FsT}
def L0 (first size : Int) : LogR := ⟨first, first, size, false⟩
/-- what Open hands back -/
def OpenOut (M0 M' : Mem) (p b : Nat) (D : DiskR) (first size : Int) (v : Value) : Prop :=
  ((first < 1 ∨ 99999 < first ∨ size < 16 ∨ 1048576 < size) ∧ v = .tuple #[.pointer none, .slice none 0 0, .int .i64 1] ∧ ∃ es', FreshD M0 M' p b D es') ∨
  (¬ (first < 1 ∨ 99999 < first ∨ size < 16 ∨ 1048576 < size) ∧ D.down = true ∧ v = .tuple #[.pointer none, .slice none 0 0, .int .i64 9] ∧ ∃ es', FreshD M0 M' p b D es') ∨
  (¬ (first < 1 ∨ 99999 < first ∨ size < 16 ∨ 1048576 < size) ∧ D.down = false ∧ (openR D (L0 first size)).2.2.2 ≠ 0 ∧ v = .tuple #[.pointer none, .slice none 0 0, .int .i64 (openR D (L0 first size)).2.2.2] ∧ ∃ es', FreshD M0 M' p b (openR D (L0 first size)).1 es') ∨
  (¬ (first < 1 ∨ 99999 < first ∨ size < 16 ∨ 1048576 < size) ∧ D.down = false ∧ (openR D (L0 first size)).2.2.2 = 0 ∧ ∃ g es' a n c, v = .tuple #[ptr g, .slice a n c, .int .i64 0] ∧
    LogAt M0 M' g p b (openR D (L0 first size)).1 es' (openR D (L0 first size)).2.1 ∧ AllAt M0 (M'.minus (logB g p b es')) a n c (openR D (L0 first size)).2.2.1)
theorem Open_ok (h : FreshD M0 M p b D es) (hW : NamesW D) (first size : Int) : CallsM Try.prog F.wal_Open [ptr p, .int .i64 first, .int .i64 size] M fun v M' => OpenOut M0 M' p b D first size v := by
  refine fo_wal_Open (by simp) ?_
  repeat' ((conv => whnf); first | refine ⟨?_, True.intro⟩ | refine brn_t rfl ?_ | refine brn_f rfl ?_ | refine ob rfl ?_ | refine ob (by decide) ?_ | refine grow_same (Mem.le_refl _) ?_ | refine ob (Mem.le_refl _) ?_ | refine ⟨_, Mem.le_refl _, ?_⟩ | fail)
  refine brn (fun e => ?_) (fun e => ?_)
  · repeat' ((conv => whnf); first | refine ⟨?_, True.intro⟩ | refine brn_t rfl ?_ | refine brn_f rfl ?_ | refine ob rfl ?_ | refine ob (by decide) ?_ | refine grow_same (Mem.le_refl _) ?_ | refine ob (Mem.le_refl _) ?_ | refine ⟨_, Mem.le_refl _, ?_⟩ | fail)
    exact .inl ⟨by first | (have := of_decide_eq_true e; omega), rfl, es, h⟩
  have e1 := of_decide_eq_false e
  repeat' ((conv => whnf); first | refine ⟨?_, True.intro⟩ | refine brn_t rfl ?_ | refine brn_f rfl ?_ | refine ob rfl ?_ | refine ob (by decide) ?_ | refine grow_same (Mem.le_refl _) ?_ | refine ob (Mem.le_refl _) ?_ | refine ⟨_, Mem.le_refl _, ?_⟩ | fail)
  refine brn (fun e => ?_) (fun e => ?_)
  · repeat' ((conv => whnf); first | refine ⟨?_, True.intro⟩ | refine brn_t rfl ?_ | refine brn_f rfl ?_ | refine ob rfl ?_ | refine ob (by decide) ?_ | refine grow_same (Mem.le_refl _) ?_ | refine ob (Mem.le_refl _) ?_ | refine ⟨_, Mem.le_refl _, ?_⟩ | fail)
    exact .inl ⟨by first | (have := of_decide_eq_true e; omega), rfl, es, h⟩
  have e2 := of_decide_eq_false e
  repeat' ((conv => whnf); first | refine ⟨?_, True.intro⟩ | refine brn_t rfl ?_ | refine brn_f rfl ?_ | refine ob rfl ?_ | refine ob (by decide) ?_ | refine grow_same (Mem.le_refl _) ?_ | refine ob (Mem.le_refl _) ?_ | refine ⟨_, Mem.le_refl _, ?_⟩ | fail)
  refine brn (fun e => ?_) (fun e => ?_)
  · repeat' ((conv => whnf); first | refine ⟨?_, True.intro⟩ | refine brn_t rfl ?_ | refine brn_f rfl ?_ | refine ob rfl ?_ | refine ob (by decide) ?_ | refine grow_same (Mem.le_refl _) ?_ | refine ob (Mem.le_refl _) ?_ | refine ⟨_, Mem.le_refl _, ?_⟩ | fail)
    exact .inl ⟨by first | (have := of_decide_eq_true e; omega), rfl, es, h⟩
  have e3 := of_decide_eq_false e
  repeat' ((conv => whnf); first | refine ⟨?_, True.intro⟩ | refine brn_t rfl ?_ | refine brn_f rfl ?_ | refine ob rfl ?_ | refine ob (by decide) ?_ | refine grow_same (Mem.le_refl _) ?_ | refine ob (Mem.le_refl _) ?_ | refine ⟨_, Mem.le_refl _, ?_⟩ | fail)
  refine brn (fun e => ?_) (fun e => ?_)
  · repeat' ((conv => whnf); first | refine ⟨?_, True.intro⟩ | refine brn_t rfl ?_ | refine brn_f rfl ?_ | refine ob rfl ?_ | refine ob (by decide) ?_ | refine grow_same (Mem.le_refl _) ?_ | refine ob (Mem.le_refl _) ?_ | refine ⟨_, Mem.le_refl _, ?_⟩ | fail)
    exact .inl ⟨by first | (have := of_decide_eq_true e; omega), rfl, es, h⟩
  have e4 := of_decide_eq_false e
  have hn : ¬ (first < 1 ∨ 99999 < first ∨ size < 16 ∨ 1048576 < size) := by omega
  repeat' ((conv => whnf); first | refine ⟨?_, True.intro⟩ | refine brn_t rfl ?_ | refine brn_f rfl ?_ | refine ob rfl ?_ | refine ob (by decide) ?_ | refine grow_same (Mem.le_refl _) ?_ | refine ob (Mem.le_refl _) ?_ | refine ⟨_, Mem.le_refl _, ?_⟩ | fail)
  refine (down_okL h).mono ?_
  rintro v _ ⟨rfl, rfl⟩
  cases hd : D.down
  case true =>
    repeat' ((conv => whnf); first | refine ⟨?_, True.intro⟩ | refine brn_t rfl ?_ | refine brn_f rfl ?_ | refine ob rfl ?_ | refine ob (by decide) ?_ | refine grow_same (Mem.le_refl _) ?_ | refine ob (Mem.le_refl _) ?_ | refine ⟨_, Mem.le_refl _, ?_⟩ | fail)
    exact .inr (.inl ⟨hn, hd, rfl, es, h⟩)
  repeat' ((conv => whnf); first | refine ⟨?_, True.intro⟩ | refine brn_t rfl ?_ | refine brn_f rfl ?_ | refine ob rfl ?_ | refine ob (by decide) ?_ | refine grow_same (Mem.le_refl _) ?_ | refine ob (Mem.le_refl _) ?_ | refine ⟨_, Mem.le_refl _, ?_⟩ | fail)
  refine new (fun g hg => ?_)
  replace hg : M g = none := hg
  have hle1 : M.le (M.setCells g T.wal_Log (logCs p (L0 first size))) := Mem.le_setCells hg
  have hs1 : (M.setCells g T.wal_Log (logCs p (L0 first size))).has g T.wal_Log (logCs p (L0 first size)) := Mem.has_setCells
  obtain ⟨M1, hM1⟩ : ∃ M1, M1 = M.setCells g T.wal_Log (logCs p (L0 first size)) := ⟨_, rfl⟩
  rw [← hM1] at hle1 hs1
  (conv => whnf)
  erw [← hM1]
  have h1 : LogAt M0 M1 g p b D es (L0 first size) := ⟨h.to hle1, hs1, by
    cases e : M0 g with
    | none => rfl
    | some o => rw [h.le _ _ e] at hg; cases hg⟩
  refine (open_okL h1 hW (by show 1 ≤ first ∧ first ≤ 99999; omega) rfl).mono ?_
  rintro v M2 ⟨es2, a, n, c, rfl, h2, hA⟩
  (conv => whnf); refine brn (fun e => ?_) (fun e => ?_)
  · have e5 : (openR D (L0 first size)).2.2.2 ≠ 0 := by simpa using e
    repeat' ((conv => whnf); first | refine ⟨?_, True.intro⟩ | refine brn_t rfl ?_ | refine brn_f rfl ?_ | refine ob rfl ?_ | refine ob (by decide) ?_ | refine grow_same (Mem.le_refl _) ?_ | refine ob (Mem.le_refl _) ?_ | refine ⟨_, Mem.le_refl _, ?_⟩ | fail)
    exact .inr (.inr (.inl ⟨hn, hd, e5, rfl, es2, h2.disk⟩))
  · have e5 : (openR D (L0 first size)).2.2.2 = 0 := by simpa using e
    repeat' ((conv => whnf); first | refine ⟨?_, True.intro⟩ | refine brn_t rfl ?_ | refine brn_f rfl ?_ | refine ob rfl ?_ | refine ob (by decide) ?_ | refine grow_same (Mem.le_refl _) ?_ | refine ob (Mem.le_refl _) ?_ | refine ⟨_, Mem.le_refl _, ?_⟩ | fail)
    exact .inr (.inr (.inr ⟨hn, hd, e5, g, es2, a, n, c, rfl, h2, hA e5⟩))
theorem wl1 : openR ⟨100, [], -1, false⟩ (L0 1 20) = (⟨100, [], -1, false⟩, L0 1 20, [], 0) := by kernel_rfl
theorem wl2 : appendL ⟨100, [], -1, false⟩ (L0 1 20) [97] = (⟨100, [⟨nameB 1, .empty, ⟨(putB [97]).toArray⟩⟩], -1, false⟩, L0 1 20, 0) := by kernel_rfl
theorem wl3 : syncL ⟨100, [⟨nameB 1, .empty, ⟨(putB [97]).toArray⟩⟩], -1, false⟩ (L0 1 20) = (⟨100, [⟨nameB 1, ⟨(putB [97]).toArray⟩, .empty⟩], -1, false⟩, L0 1 20, 0) := by kernel_rfl
theorem wl4 : appendL ⟨100, [⟨nameB 1, ⟨(putB [97]).toArray⟩, .empty⟩], -1, false⟩ (L0 1 20) [98] = (⟨100, [⟨nameB 1, ⟨(putB [97]).toArray⟩, ⟨(putB [98]).toArray⟩⟩], -1, false⟩, L0 1 20, 0) := by kernel_rfl
theorem wl5 : crashR ⟨100, [⟨nameB 1, ⟨(putB [97]).toArray⟩, ⟨(putB [98]).toArray⟩⟩], -1, false⟩ [] = ⟨100, [⟨nameB 1, ⟨(putB [97]).toArray⟩, .empty⟩], -1, false⟩ := by kernel_rfl
theorem wl6 : openR ⟨100, [⟨nameB 1, ⟨(putB [97]).toArray⟩, .empty⟩], -1, false⟩ (L0 1 20) = (⟨100, [⟨nameB 1, ⟨(putB [97]).toArray⟩, .empty⟩], -1, false⟩, L0 1 20, [[97]], 0) := by kernel_rfl
theorem wl7 : nameB 12 = ⟨#[119, 48, 48, 48, 49, 50]⟩ := by kernel_rfl
theorem wlW {a b : ByteArray} {l t : Int} {d : Bool} : NamesW ⟨l, [⟨nameB 1, a, b⟩], t, d⟩ := fun f hf => by simp at hf; subst hf; exact ⟨1, by omega, rfl⟩
theorem wlL {D : DiskR} (h : InvD D) (k : Int) : lenL D k ≤ 1048576 := by
  have hu := h.used
  have key : ∀ s, (readR D s).1.size ≤ usedR D.l := fun s => by
    unfold readR
    split
    · exact Nat.zero_le _
    · rename_i g
      have h1 := (thereE_zero (by simpa using g)).2
      have := (without_some h.sort h1).2
      rw [all_size]; omega
  unfold lenL
  split
  · unfold safeR
    split
    · rename_i f hf
      have := (without_some h.sort hf).2
      omega
    · omega
  · have := key (nameB k); omega
/-- one byte of a text, as new memory -/
theorem lit1 {M : Mem} {b1 : Nat} (hb1 : M b1 = none) (x : UInt8) : M.le ((M.setCells b1 T.uint8 [byteV x]).upd b1 (.cells [byteV x].toArray T.uint8 (1, 2))) ∧
    SrcOk ((M.setCells b1 T.uint8 [byteV x]).upd b1 (.cells [byteV x].toArray T.uint8 (1, 2))) 1 (some ⟨b1, 0, none⟩) 1 ([x].map byteV) := by
  refine ⟨fun c o hc => ?_, ?_⟩
  · have hne : c ≠ b1 := fun e => by subst e; rw [hb1] at hc; cases hc
    unfold Mem.setCells
    rw [Mem.upd_ne _ _ hne, Mem.upd_ne _ _ hne]; exact hc
  · unfold SrcOk; exact ⟨rfl, .inr ⟨b1, 0, rfl, Mem.row_obj (Mem.upd_same _ _ _) (by simp)⟩⟩
set_option maxRecDepth 10000 in
theorem awake_ok : CallsM Try.prog F.law12_awake [] M fun v M' => v = .bool true ∧ M.le M' := by
  refine fo_law12_awake (by simp) ?_
  (conv => whnf); refine (newF 100).mono ?_
  rintro v M1 (⟨h, -⟩ | ⟨-, p, b, rfl, h1⟩)
  · omega
  repeat' ((conv => whnf); first | refine ⟨?_, True.intro⟩ | refine brn_t rfl ?_ | refine brn_f rfl ?_ | refine ob rfl ?_ | refine ob (by decide) ?_ | refine grow_same (Mem.le_refl _) ?_ | refine ob (Mem.le_refl _) ?_ | refine ⟨_, Mem.le_refl _, ?_⟩ | fail)
  refine (Open_ok h1 NamesW.nil 1 20).mono ?_
  unfold OpenOut
  rw [wl1]
  rintro v M2 (⟨h, -⟩ | ⟨-, h, -⟩ | ⟨-, -, h, -⟩ | ⟨-, -, -, g, es2, a2, n2, c2, rfl, h2, -⟩)
  · omega
  · cases h
  · exact absurd rfl h
  repeat' ((conv => whnf); first | refine ⟨?_, True.intro⟩ | refine brn_t rfl ?_ | refine brn_f rfl ?_ | refine ob rfl ?_ | refine ob (by decide) ?_ | refine grow_same (Mem.le_refl _) ?_ | refine ob (Mem.le_refl _) ?_ | refine ⟨_, Mem.le_refl _, ?_⟩ | fail)
  refine new (fun b1 hb1 => ?_)
  replace hb1 : M2 b1 = none := hb1
  (conv => whnf); refine on Mem.textAt_setCells ?_
  (conv => whnf)
  obtain ⟨hle3, hs3⟩ := lit1 hb1 97
  obtain ⟨M3, hM3⟩ : ∃ M3, M3 = (M2.setCells b1 T.uint8 [byteV 97]).upd b1 (.cells [byteV 97].toArray T.uint8 (1, 2)) := ⟨_, rfl⟩
  rw [← hM3] at hle3 hs3
  erw [← hM3]
  have h3 := h2.to hle3
  refine (append_okL h3 (by decide) (by decide) (by decide) hs3 (by decide) (by decide) (wlL h3.disk.inv _)).mono ?_
  rw [wl2]
  rintro v M4 ⟨es4, rfl, h4⟩
  repeat' ((conv => whnf); first | refine ⟨?_, True.intro⟩ | refine brn_t rfl ?_ | refine brn_f rfl ?_ | refine ob rfl ?_ | refine ob (by decide) ?_ | refine grow_same (Mem.le_refl _) ?_ | refine ob (Mem.le_refl _) ?_ | refine ⟨_, Mem.le_refl _, ?_⟩ | fail)
  refine (sync_okL h4).mono ?_
  rw [wl3]
  rintro v M5 ⟨es5, rfl, h5⟩
  repeat' ((conv => whnf); first | refine ⟨?_, True.intro⟩ | refine brn_t rfl ?_ | refine brn_f rfl ?_ | refine ob rfl ?_ | refine ob (by decide) ?_ | refine grow_same (Mem.le_refl _) ?_ | refine ob (Mem.le_refl _) ?_ | refine ⟨_, Mem.le_refl _, ?_⟩ | fail)
  refine new (fun b2 hb2 => ?_)
  replace hb2 : M5 b2 = none := hb2
  (conv => whnf); refine on Mem.textAt_setCells ?_
  (conv => whnf)
  obtain ⟨hle6, hs6⟩ := lit1 hb2 98
  obtain ⟨M6, hM6⟩ : ∃ M6, M6 = (M5.setCells b2 T.uint8 [byteV 98]).upd b2 (.cells [byteV 98].toArray T.uint8 (1, 2)) := ⟨_, rfl⟩
  rw [← hM6] at hle6 hs6
  erw [← hM6]
  have h6 := h5.to hle6
  refine (append_okL h6 (by decide) (by decide) (by decide) hs6 (by decide) (by decide) (wlL h6.disk.inv _)).mono ?_
  rw [wl4]
  rintro v M7 ⟨es7, rfl, h7⟩
  repeat' ((conv => whnf); first | refine ⟨?_, True.intro⟩ | refine brn_t rfl ?_ | refine brn_f rfl ?_ | refine ob rfl ?_ | refine ob (by decide) ?_ | refine grow_same (Mem.le_refl _) ?_ | refine ob (Mem.le_refl _) ?_ | refine ⟨_, Mem.le_refl _, ?_⟩ | fail)
  refine (crashFr h7.disk (keep := []) (SrcOk.nil _ _) (by decide)).mono ?_
  rw [wl5]
  rintro v M8 ⟨es8, rfl, h8⟩
  repeat' ((conv => whnf); first | refine ⟨?_, True.intro⟩ | refine brn_t rfl ?_ | refine brn_f rfl ?_ | refine ob rfl ?_ | refine ob (by decide) ?_ | refine grow_same (Mem.le_refl _) ?_ | refine ob (Mem.le_refl _) ?_ | refine ⟨_, Mem.le_refl _, ?_⟩ | fail)
  refine (Open_ok h8 wlW 1 20).mono ?_
  unfold OpenOut
  rw [wl6]
  rintro v M9 (⟨h, -⟩ | ⟨-, h, -⟩ | ⟨-, -, h, -⟩ | ⟨-, -, -, g9, es9, a9, n9, c9, rfl, h9, hA⟩)
  · omega
  · cases h
  · exact absurd rfl h
  have hn9 : n9 = 1 := hA.len.symm
  subst hn9
  have hel := (hA.up (Mem.minus_le _ _)).elems
  obtain ⟨hl9, bb, oo, cs, ha9, -, hrow, -, xa, xn, xc, rfl, hxw⟩ := hel.at (by decide) (i := 0) (by decide)
  subst ha9
  have hx1 := hxw.src
  have hxl : xn = 1 := hx1.maplen.symm
  subst hxl
  repeat' ((conv => whnf); first | refine ⟨?_, True.intro⟩ | refine brn_t rfl ?_ | refine brn_f rfl ?_ | refine ob rfl ?_ | refine ob (by decide) ?_ | refine grow_same (Mem.le_refl _) ?_ | refine ob (Mem.le_refl _) ?_ | refine ⟨_, Mem.le_refl _, ?_⟩ | fail)
  refine on hrow ?_
  repeat' ((conv => whnf); first | refine ⟨?_, True.intro⟩ | refine brn_t rfl ?_ | refine brn_f rfl ?_ | refine ob rfl ?_ | refine ob (by decide) ?_ | refine grow_same (Mem.le_refl _) ?_ | refine ob (Mem.le_refl _) ?_ | refine ⟨_, Mem.le_refl _, ?_⟩ | fail)
  refine strv hx1 ?_
  repeat' ((conv => whnf); first | refine ⟨?_, True.intro⟩ | refine brn_t rfl ?_ | refine brn_f rfl ?_ | refine ob rfl ?_ | refine ob (by decide) ?_ | refine grow_same (Mem.le_refl _) ?_ | refine ob (Mem.le_refl _) ?_ | refine ⟨_, Mem.le_refl _, ?_⟩ | fail)
  refine (name_ok 12).mono ?_
  rintro v M10 ⟨rfl, hle10⟩
  rw [wl7]
  repeat' ((conv => whnf); first | refine ⟨?_, True.intro⟩ | refine brn_t rfl ?_ | refine brn_f rfl ?_ | refine ob rfl ?_ | refine ob (by decide) ?_ | refine grow_same (Mem.le_refl _) ?_ | refine ob (Mem.le_refl _) ?_ | refine ⟨_, Mem.le_refl _, ?_⟩ | fail)
  exact ⟨rfl, Mem.le_trans h9.disk.le hle10⟩
end Go.Proofs.Ytnlghoenbhbfhaa

/- WalNames, WalNil, as contracts. -/
namespace Go.Proofs.Ytnlghoenbhbfhaa
open Go Go.Vm
attribute [local irreducible] Brn Ob Grow CallsM inR LoopVC Mem.row Mem.cells Mem.setCells Mem.upd Go.Vm.Own AppVC SrcVC StrVC NextVC New SrcOk subA NewSl Mem.textAt Mem.mapAt Mem.iterAt entryOf kfind Wr NewEls Elems
set_option maxRecDepth 10000
variable {M : Mem}
@[reducible] def nl : Value := .pointer none
theorem lnil_ready : CallsM Try.prog F.wal_Log_ready [nl] M fun v M' => v = .int .i64 7 ∧ M = M' := by
  refine fo_wal_Log_ready (by simp) ?_
  repeat' ((conv => whnf); first | refine ⟨?_, True.intro⟩ | refine brn_t rfl ?_ | refine brn_f rfl ?_ | refine ob rfl ?_ | refine ob (by decide) ?_ | refine grow_same (Mem.le_refl _) ?_ | refine ob (Mem.le_refl _) ?_ | refine ⟨_, Mem.le_refl _, ?_⟩ | fail)
  exact ⟨rfl, rfl⟩
theorem lnil_sync : CallsM Try.prog F.wal_Log_Sync [nl] M fun v M' => v = .int .i64 7 ∧ M = M' := by
  refine fo_wal_Log_Sync (by simp) ?_
  repeat' ((conv => whnf); first | refine ⟨?_, True.intro⟩ | refine brn_t rfl ?_ | refine brn_f rfl ?_ | refine ob rfl ?_ | refine ob (by decide) ?_ | refine grow_same (Mem.le_refl _) ?_ | refine ob (Mem.le_refl _) ?_ | refine ⟨_, Mem.le_refl _, ?_⟩ | fail)
  refine lnil_ready.mono ?_
  rintro v _ ⟨rfl, rfl⟩
  repeat' ((conv => whnf); first | refine ⟨?_, True.intro⟩ | refine brn_t rfl ?_ | refine brn_f rfl ?_ | refine ob rfl ?_ | refine ob (by decide) ?_ | refine grow_same (Mem.le_refl _) ?_ | refine ob (Mem.le_refl _) ?_ | refine ⟨_, Mem.le_refl _, ?_⟩ | fail)
  exact ⟨rfl, rfl⟩
theorem lnil_begin : CallsM Try.prog F.wal_Log_Begin [nl] M fun v M' => v = .tuple #[.int .i64 0, .int .i64 7] ∧ M = M' := by
  refine fo_wal_Log_Begin (by simp) ?_
  repeat' ((conv => whnf); first | refine ⟨?_, True.intro⟩ | refine brn_t rfl ?_ | refine brn_f rfl ?_ | refine ob rfl ?_ | refine ob (by decide) ?_ | refine grow_same (Mem.le_refl _) ?_ | refine ob (Mem.le_refl _) ?_ | refine ⟨_, Mem.le_refl _, ?_⟩ | fail)
  refine lnil_sync.mono ?_
  rintro v _ ⟨rfl, rfl⟩
  repeat' ((conv => whnf); first | refine ⟨?_, True.intro⟩ | refine brn_t rfl ?_ | refine brn_f rfl ?_ | refine ob rfl ?_ | refine ob (by decide) ?_ | refine grow_same (Mem.le_refl _) ?_ | refine ob (Mem.le_refl _) ?_ | refine ⟨_, Mem.le_refl _, ?_⟩ | fail)
  exact ⟨rfl, rfl⟩
theorem lnil_append (a : Option Addr) (n c : Nat) : CallsM Try.prog F.wal_Log_Append [nl, .slice a n c] M fun v M' => v = .int .i64 7 ∧ M = M' := by
  refine fo_wal_Log_Append (by simp) ?_
  repeat' ((conv => whnf); first | refine ⟨?_, True.intro⟩ | refine brn_t rfl ?_ | refine brn_f rfl ?_ | refine ob rfl ?_ | refine ob (by decide) ?_ | refine grow_same (Mem.le_refl _) ?_ | refine ob (Mem.le_refl _) ?_ | refine ⟨_, Mem.le_refl _, ?_⟩ | fail)
  refine lnil_ready.mono ?_
  rintro v _ ⟨rfl, rfl⟩
  repeat' ((conv => whnf); first | refine ⟨?_, True.intro⟩ | refine brn_t rfl ?_ | refine brn_f rfl ?_ | refine ob rfl ?_ | refine ob (by decide) ?_ | refine grow_same (Mem.le_refl _) ?_ | refine ob (Mem.le_refl _) ?_ | refine ⟨_, Mem.le_refl _, ?_⟩ | fail)
  exact ⟨rfl, rfl⟩
theorem lnil_drop (k : Int) : CallsM Try.prog F.wal_Log_Drop [nl, .int .i64 k] M fun v M' => v = .int .i64 7 ∧ M = M' := by
  refine fo_wal_Log_Drop (by simp) ?_
  repeat' ((conv => whnf); first | refine ⟨?_, True.intro⟩ | refine brn_t rfl ?_ | refine brn_f rfl ?_ | refine ob rfl ?_ | refine ob (by decide) ?_ | refine grow_same (Mem.le_refl _) ?_ | refine ob (Mem.le_refl _) ?_ | refine ⟨_, Mem.le_refl _, ?_⟩ | fail)
  refine lnil_ready.mono ?_
  rintro v _ ⟨rfl, rfl⟩
  repeat' ((conv => whnf); first | refine ⟨?_, True.intro⟩ | refine brn_t rfl ?_ | refine brn_f rfl ?_ | refine ob rfl ?_ | refine ob (by decide) ?_ | refine grow_same (Mem.le_refl _) ?_ | refine ob (Mem.le_refl _) ?_ | refine ⟨_, Mem.le_refl _, ?_⟩ | fail)
  exact ⟨rfl, rfl⟩
theorem lnil_first : CallsM Try.prog F.wal_Log_First [nl] M fun v M' => v = .int .i64 0 ∧ M = M' := by
  refine fo_wal_Log_First (by simp) ?_
  repeat' ((conv => whnf); first | refine ⟨?_, True.intro⟩ | refine brn_t rfl ?_ | refine brn_f rfl ?_ | refine ob rfl ?_ | refine ob (by decide) ?_ | refine grow_same (Mem.le_refl _) ?_ | refine ob (Mem.le_refl _) ?_ | refine ⟨_, Mem.le_refl _, ?_⟩ | fail)
  exact ⟨rfl, rfl⟩
theorem lnil_last : CallsM Try.prog F.wal_Log_Last [nl] M fun v M' => v = .int .i64 0 ∧ M = M' := by
  refine fo_wal_Log_Last (by simp) ?_
  repeat' ((conv => whnf); first | refine ⟨?_, True.intro⟩ | refine brn_t rfl ?_ | refine brn_f rfl ?_ | refine ob rfl ?_ | refine ob (by decide) ?_ | refine grow_same (Mem.le_refl _) ?_ | refine ob (Mem.le_refl _) ?_ | refine ⟨_, Mem.le_refl _, ?_⟩ | fail)
  exact ⟨rfl, rfl⟩
theorem lnil_size : CallsM Try.prog F.wal_Log_Size [nl] M fun v M' => v = .int .i64 0 ∧ M = M' := by
  refine fo_wal_Log_Size (by simp) ?_
  repeat' ((conv => whnf); first | refine ⟨?_, True.intro⟩ | refine brn_t rfl ?_ | refine brn_f rfl ?_ | refine ob rfl ?_ | refine ob (by decide) ?_ | refine grow_same (Mem.le_refl _) ?_ | refine ob (Mem.le_refl _) ?_ | refine ⟨_, Mem.le_refl _, ?_⟩ | fail)
  exact ⟨rfl, rfl⟩
theorem open_nil (first size : Int) : CallsM Try.prog F.wal_Open [nl, .int .i64 first, .int .i64 size] M fun v M' => v = .tuple #[nl, .slice none 0 0, .int .i64 7] ∧ M = M' := by
  refine fo_wal_Open (by simp) ?_
  repeat' ((conv => whnf); first | refine ⟨?_, True.intro⟩ | refine brn_t rfl ?_ | refine brn_f rfl ?_ | refine ob rfl ?_ | refine ob (by decide) ?_ | refine grow_same (Mem.le_refl _) ?_ | refine ob (Mem.le_refl _) ?_ | refine ⟨_, Mem.le_refl _, ?_⟩ | fail)
  exact ⟨rfl, rfl⟩
/-- a call, as the laws have it -/
structure ActW where
  kind : Int
  n : Int
  p : List UInt8
  keep : List Int
@[reducible] def actC (x : ActW) (a1 : Option Addr) (n1 c1 : Nat) (a2 : Option Addr) (n2 c2 : Nat) : List Value := [.int .i64 x.kind, .int .i64 x.n, .slice a1 n1 c1, .slice a2 n2 c2]
def ActL (M : Mem) (cs : List Value) (x : ActW) : Prop := ∃ a1 n1 c1 a2 n2 c2, cs = actC x a1 n1 c1 a2 n2 c2 ∧ SrcOk M 1 a1 n1 (x.p.map byteV) ∧ n1 ≤ 1048576 ∧ n1 ≤ c1 ∧ SrcOk M 1 a2 n2 (x.keep.map intV) ∧ n2 ≤ 1048576 ∧ (-9223372036854775808 ≤ x.n ∧ x.n ≤ 9223372036854775807)
theorem ActL.le {M M' : Mem} {cs : List Value} {x : ActW} (h : ActL M cs x) (hle : M.le M') : ActL M' cs x := by
  obtain ⟨a1, n1, c1, a2, n2, c2, h1, h2, h3, h4, h5, h6⟩ := h
  exact ⟨a1, n1, c1, a2, n2, c2, h1, h2.le hle, h3, h4, h5.le hle, h6⟩
theorem names_law (k : Int) : CallsM Try.prog F.law12_WalNames [.int .i64 k] M fun v M' => v = .bool true ∧ M.le M' := by
  refine fo_law12_WalNames (by simp) ?_
  repeat' ((conv => whnf); first | refine ⟨?_, True.intro⟩ | refine brn_t rfl ?_ | refine brn_f rfl ?_ | refine ob rfl ?_ | refine ob (by decide) ?_ | refine grow_same (Mem.le_refl _) ?_ | refine ob (Mem.le_refl _) ?_ | refine ⟨_, Mem.le_refl _, ?_⟩ | fail)
  refine (name_ok k).mono ?_
  rintro v M1 ⟨rfl, hle1⟩
  repeat' ((conv => whnf); first | refine ⟨?_, True.intro⟩ | refine brn_t rfl ?_ | refine brn_f rfl ?_ | refine ob rfl ?_ | refine ob (by decide) ?_ | refine grow_same (Mem.le_refl _) ?_ | refine ob (Mem.le_refl _) ?_ | refine ⟨_, Mem.le_refl _, ?_⟩ | fail)
  refine (nameR_ok k).mono ?_
  rintro v _ ⟨rfl, rfl⟩
  (conv => whnf); refine brn_t (decide_eq_true rfl) ?_
  repeat' ((conv => whnf); first | refine ⟨?_, True.intro⟩ | refine brn_t rfl ?_ | refine brn_f rfl ?_ | refine ob rfl ?_ | refine ob (by decide) ?_ | refine grow_same (Mem.le_refl _) ?_ | refine ob (Mem.le_refl _) ?_ | refine ⟨_, Mem.le_refl _, ?_⟩ | fail)
  refine awake_ok.mono ?_
  rintro v M2 ⟨rfl, hle2⟩
  repeat' ((conv => whnf); first | refine ⟨?_, True.intro⟩ | refine brn_t rfl ?_ | refine brn_f rfl ?_ | refine ob rfl ?_ | refine ob (by decide) ?_ | refine grow_same (Mem.le_refl _) ?_ | refine ob (Mem.le_refl _) ?_ | refine ⟨_, Mem.le_refl _, ?_⟩ | fail)
  exact ⟨rfl, Mem.le_trans hle1 hle2⟩
set_option maxRecDepth 100000 in
theorem nil_law {cs : List Value} {x : ActW} (hx : ActL M cs x) : CallsM Try.prog F.law12_WalNil [.agg cs.toArray] M fun v M' => v = .bool true ∧ M.le M' := by
  obtain ⟨a1, n1, c1, a2, n2, c2, rfl, h1, hn1, h2, hn2, -⟩ := hx
  refine fo_law12_WalNil (by simp) ?_
  repeat' ((conv => whnf); first | refine ⟨?_, True.intro⟩ | refine brn_t rfl ?_ | refine brn_f rfl ?_ | refine ob rfl ?_ | refine ob (by decide) ?_ | refine grow_same (Mem.le_refl _) ?_ | refine ob (Mem.le_refl _) ?_ | refine ⟨_, Mem.le_refl _, ?_⟩ | fail)
  refine lnil_begin.mono ?_
  rintro v _ ⟨rfl, rfl⟩
  repeat' ((conv => whnf); first | refine ⟨?_, True.intro⟩ | refine brn_t rfl ?_ | refine brn_f rfl ?_ | refine ob rfl ?_ | refine ob (by decide) ?_ | refine grow_same (Mem.le_refl _) ?_ | refine ob (Mem.le_refl _) ?_ | refine ⟨_, Mem.le_refl _, ?_⟩ | fail)
  refine (open_nil x.n 20).mono ?_
  rintro v _ ⟨rfl, rfl⟩
  repeat' ((conv => whnf); first | refine ⟨?_, True.intro⟩ | refine brn_t rfl ?_ | refine brn_f rfl ?_ | refine ob rfl ?_ | refine ob (by decide) ?_ | refine grow_same (Mem.le_refl _) ?_ | refine ob (Mem.le_refl _) ?_ | refine ⟨_, Mem.le_refl _, ?_⟩ | fail)
  refine (lnil_append a1 n1 c1).mono ?_
  rintro v _ ⟨rfl, rfl⟩
  repeat' ((conv => whnf); first | refine ⟨?_, True.intro⟩ | refine brn_t rfl ?_ | refine brn_f rfl ?_ | refine ob rfl ?_ | refine ob (by decide) ?_ | refine grow_same (Mem.le_refl _) ?_ | refine ob (Mem.le_refl _) ?_ | refine ⟨_, Mem.le_refl _, ?_⟩ | fail)
  refine lnil_sync.mono ?_
  rintro v _ ⟨rfl, rfl⟩
  repeat' ((conv => whnf); first | refine ⟨?_, True.intro⟩ | refine brn_t rfl ?_ | refine brn_f rfl ?_ | refine ob rfl ?_ | refine ob (by decide) ?_ | refine grow_same (Mem.le_refl _) ?_ | refine ob (Mem.le_refl _) ?_ | refine ⟨_, Mem.le_refl _, ?_⟩ | fail)
  refine (lnil_drop x.n).mono ?_
  rintro v _ ⟨rfl, rfl⟩
  repeat' ((conv => whnf); first | refine ⟨?_, True.intro⟩ | refine brn_t rfl ?_ | refine brn_f rfl ?_ | refine ob rfl ?_ | refine ob (by decide) ?_ | refine grow_same (Mem.le_refl _) ?_ | refine ob (Mem.le_refl _) ?_ | refine ⟨_, Mem.le_refl _, ?_⟩ | fail)
  refine lnil_first.mono ?_
  rintro v _ ⟨rfl, rfl⟩
  repeat' ((conv => whnf); first | refine ⟨?_, True.intro⟩ | refine brn_t rfl ?_ | refine brn_f rfl ?_ | refine ob rfl ?_ | refine ob (by decide) ?_ | refine grow_same (Mem.le_refl _) ?_ | refine ob (Mem.le_refl _) ?_ | refine ⟨_, Mem.le_refl _, ?_⟩ | fail)
  refine lnil_last.mono ?_
  rintro v _ ⟨rfl, rfl⟩
  repeat' ((conv => whnf); first | refine ⟨?_, True.intro⟩ | refine brn_t rfl ?_ | refine brn_f rfl ?_ | refine ob rfl ?_ | refine ob (by decide) ?_ | refine grow_same (Mem.le_refl _) ?_ | refine ob (Mem.le_refl _) ?_ | refine ⟨_, Mem.le_refl _, ?_⟩ | fail)
  refine lnil_size.mono ?_
  rintro v _ ⟨rfl, rfl⟩
  repeat' ((conv => whnf); first | refine ⟨?_, True.intro⟩ | refine brn_t rfl ?_ | refine brn_f rfl ?_ | refine ob rfl ?_ | refine ob (by decide) ?_ | refine grow_same (Mem.le_refl _) ?_ | refine ob (Mem.le_refl _) ?_ | refine ⟨_, Mem.le_refl _, ?_⟩ | fail)
  refine awake_ok.mono ?_
  rintro v M7 ⟨rfl, hle7⟩
  repeat' ((conv => whnf); first | refine ⟨?_, True.intro⟩ | refine brn_t rfl ?_ | refine brn_f rfl ?_ | refine ob rfl ?_ | refine ob (by decide) ?_ | refine grow_same (Mem.le_refl _) ?_ | refine ob (Mem.le_refl _) ?_ | refine ⟨_, Mem.le_refl _, ?_⟩ | fail)
  exact ⟨rfl, hle7⟩
end Go.Proofs.Ytnlghoenbhbfhaa

/- How the arguments of this layer's laws lie in memory. -/
namespace Go.Proofs.Ytnlghoenbhbfhaa
open Go Go.Vm
attribute [local irreducible] Brn Ob Grow CallsM inR LoopVC Mem.row Mem.cells Mem.setCells Mem.upd Go.Vm.Own AppVC SrcVC StrVC NextVC New SrcOk subA NewSl Mem.textAt Mem.mapAt Mem.iterAt entryOf kfind Wr NewEls Elems
set_option maxRecDepth 10000
open Br
theorem rd_int : Reads T.int 1 fun (_ : Mem) cs (n : Int) => cs = [.int .i64 n] ∧ inKind .i64 n := Reads.int (by kernel_rfl)
theorem rd_byte : Reads T.uint8 1 fun (_ : Mem) cs (n : Int) => cs = [.int .u8 n] ∧ inKind .u8 n := Reads.int (by kernel_rfl)
theorem rd_strW : Reads T.string 1 fun (_ : Mem) cs (s : ByteArray) => cs = [.string s] ∧ s.size ≤ 1048576 := Reads.str (by kernel_rfl)
theorem elems_map {α : Type} {M : Mem} {a : Option Addr} {n : Nat} {R : List Value → α → Prop} {l : List α} {β : Type} (f : β → Value) (h : Elems M 1 a n R l) (hR : ∀ cs x, R cs x → ∃ y, cs = [f y]) : ∃ l' : List β, SrcOk M 1 a n (l'.map f) := by
  unfold Elems at h
  obtain ⟨css, h1, h2, h3, h4, h5⟩ := h
  have : ∃ l' : List β, css.flatten = l'.map f := by
    clear h1 h4
    induction css generalizing l n with
    | nil => exact ⟨[], rfl⟩
    | cons cs r ih =>
      match l, h3 with
      | [], h3 => simp at h2 h3; omega
      | x :: l, h3 =>
        obtain ⟨y, hy⟩ := hR cs x (h5 0 cs x rfl rfl)
        obtain ⟨l', hl'⟩ := ih (n := n - 1) (l := l) (by simp at h2; omega) (by simp at h3; omega) (fun i c z hi hz => h5 (i + 1) c z (by simpa using hi) (by simpa using hz))
        exact ⟨y :: l', by simp [hy, hl']⟩
  obtain ⟨l', e⟩ := this
  exact ⟨l', e ▸ h1⟩
theorem byte_of {n : Int} (h : inKind .u8 n) : Value.int .u8 n = byteV (UInt8.ofNat n.toNat) := by
  have := bounds_u8 h
  simp only [byteV]
  congr 1
  simp
  omega
theorem rd_bytes : Reads T.s_uint8 1 fun M cs (l : List UInt8) => ∃ a n c, cs = [.slice a n c] ∧ SrcOk M 1 a n (l.map byteV) ∧ n ≤ 1048576 ∧ n ≤ c := fun H enc W fuel cs d ps h hb => by
  obtain ⟨h1, l, a, n, c, h2, h3, h4⟩ := Reads.slice (t := T.s_uint8) (e := T.uint8) (by kernel_rfl) (by kernel_rfl) (by decide) rd_byte H enc W fuel cs d ps h hb
  obtain ⟨l', h5⟩ := elems_map byteV h3 (fun cs x hx => ⟨_, hx.1.trans (by rw [byte_of hx.2])⟩)
  exact ⟨h1, l', a, n, c, h2, h5, h4⟩
theorem rd_ints : Reads T.s_int 1 fun M cs (l : List Int) => ∃ a n c, cs = [.slice a n c] ∧ SrcOk M 1 a n (l.map intV) ∧ n ≤ 1048576 ∧ n ≤ c := fun H enc W fuel cs d ps h hb => by
  obtain ⟨h1, l, a, n, c, h2, h3, h4⟩ := Reads.slice (t := T.s_int) (e := T.int) (by kernel_rfl) (by kernel_rfl) (by decide) rd_int H enc W fuel cs d ps h hb
  obtain ⟨l', h5⟩ := elems_map intV h3 (fun cs x hx => ⟨x, hx.1⟩)
  exact ⟨h1, l', a, n, c, h2, h5, h4⟩
theorem rd_act : Reads T.portagelaw12_Act 4 fun M cs (x : ActW) => ActL M cs x := fun H enc W fuel cs d ps h hb => by
  obtain ⟨hl, hf⟩ := field Try.underlying34 h hb
  replace hl : cs.length = 4 := hl.trans (by kernel_rfl)
  obtain ⟨-, n0, h0, -⟩ := hf 0 _ rfl 1 rd_int (by kernel_rfl)
  obtain ⟨-, n1, h1, g1⟩ := hf 1 _ rfl 1 rd_int (by kernel_rfl)
  obtain ⟨-, l3, a3, m3, c3, h3, g3, g4, g5⟩ := hf 2 _ rfl 1 rd_bytes (by kernel_rfl)
  obtain ⟨-, l5, a5, m5, c5, h5, g6, g7, -⟩ := hf 3 _ rfl 1 rd_ints (by kernel_rfl)
  exact ⟨hl, ⟨n0, n1, l3, l5⟩, a3, m3, c3, a5, m5, c5, (show Chunks cs 0 [[_], [_], [_], [_]] from ⟨h0, h1, h3, h5, hl⟩).eq, g3, g4, g5, g6, g7, bounds_i64 g1⟩
theorem rd_acts : Reads T.s_portagelaw12_Act 1 fun M cs (l : List ActW) => ∃ a n c, cs = [.slice a n c] ∧ Elems M 4 a n (ActL M) l ∧ n ≤ 1048576 ∧ n ≤ c := fun H enc W fuel cs d ps h hb =>
  Reads.slice Try.underlying25 (by kernel_rfl) (by decide) rd_act H enc W fuel cs d ps h hb
end Go.Proofs.Ytnlghoenbhbfhaa

