/- DiskArms, as a contract. -/
import Derived.Test.YtdjgmhifocdelaaDiskU
namespace Go.Proofs.Ytdjgmhifocdelaa
open Go Go.Vm
attribute [local irreducible] Brn Ob Grow CallsM inR LoopVC Mem.row Mem.cells Mem.setCells Mem.upd Own AppVC SrcVC StrVC NextVC New SrcOk subA NewSl Mem.textAt Mem.mapAt Mem.iterAt entryOf kfind Wr NewEls Elems
set_option maxRecDepth 10000
variable {M : Mem} {D : DiskR}
/-- what a call of an armed disk does -/
def ArmStep (D : DiskR) (r : DiskR × Int) : Prop := (r.2 = 0 ∧ D.down = false ∧ ∃ l, r.1 = changedR D l) ∨ (r.2 ≠ 0 ∧ r.1 = D ∧ (D.down = true → r.2 = 9))
theorem readyE_down {s : ByteArray} (h : D.down = true) : readyE D s = 9 := by unfold readyE; rw [if_pos h]
theorem thereE_down {s : ByteArray} (h : D.down = true) : thereE D s = 9 := by unfold thereE; rw [readyE_down h]; rfl
theorem down_f {s : ByteArray} (h : ¬ readyE D s ≠ 0) : D.down = false := (readyE_zero (by simpa using h)).1
theorem down_t {s : ByteArray} (h : ¬ thereE D s ≠ 0) : D.down = false := (readyE_zero (thereE_zero (by simpa using h)).1).1
theorem ArmStep.no {e : Int} (h : e ≠ 0) (h' : D.down = true → e = 9) : ArmStep D (D, e) := .inr ⟨h, rfl, h'⟩
theorem ArmStep.yes {l : List FileR} (h : D.down = false) : ArmStep D (changedR D l, 0) := .inl ⟨rfl, h, l, rfl⟩
theorem ArmStep.ndown {e : Int} (h : e ≠ 0) (hd : D.down = false) : ArmStep D (D, e) := .no h fun h' => by rw [hd] at h'; cases h'
theorem append_arm (s : ByteArray) (p : List UInt8) : ArmStep D (appendR D s p) := by
  unfold appendR
  split
  · exact .no ‹_› readyE_down
  · rename_i h
    split
    · exact .ndown (by decide) (down_f h)
    · exact .yes (down_f h)
theorem sync_arm (s : ByteArray) : ArmStep D (syncR D s) := by
  unfold syncR
  split
  · exact .no ‹_› thereE_down
  · rename_i h; exact .yes (down_t h)
theorem cut_arm (s : ByteArray) (k : Int) : ArmStep D (cutR D s k) := by
  unfold cutR
  split
  · exact .no ‹_› thereE_down
  · rename_i h
    split
    · exact .ndown (by decide) (down_t h)
    · exact .yes (down_t h)
theorem rename_arm (s t : ByteArray) : ArmStep D (renameR D s t) := by
  unfold renameR
  split
  · exact .no ‹_› readyE_down
  · split
    · exact .no ‹_› readyE_down
    · split
      · exact .no ‹_› thereE_down
      · rename_i h
        split
        · exact .ndown (by decide) (down_t h)
        · exact .yes (down_t h)
theorem remove_arm (s : ByteArray) : ArmStep D (removeR D s) := by
  unfold removeR
  split
  · exact .no ‹_› thereE_down
  · rename_i h; exact .yes (down_t h)
theorem arms_law (limit : Int) {a : Option Addr} {n c : Nat} {l : List ActD} (hl : Elems M 6 a n (ActR M) l) (hn : n ≤ 1048576) (z : Int) :
    CallsM Try.prog F.law10_DiskArms [.int .i64 limit, .slice a n c, .int .i64 z] M fun v M' => v = .bool true ∧ M.le M' := by
  refine fo_law10_DiskArms (by simp) ?_
  repeat' ((conv => whnf); first | refine ⟨?_, True.intro⟩ | refine brn_t rfl ?_ | refine brn_f rfl ?_ | refine ob rfl ?_ | refine ob (by decide) ?_ | refine grow_same (Mem.le_refl _) ?_ | refine ob (Mem.le_refl _) ?_ | refine ⟨_, Mem.le_refl _, ?_⟩ | fail)
  refine (newF limit).mono ?_
  rintro v M1 (⟨hg, rfl, rfl⟩ | ⟨hg, p, b, rfl, h1⟩)
  · repeat' ((conv => whnf); first | refine ⟨?_, True.intro⟩ | refine brn_t rfl ?_ | refine brn_f rfl ?_ | refine ob rfl ?_ | refine ob (by decide) ?_ | refine grow_same (Mem.le_refl _) ?_ | refine ob (Mem.le_refl _) ?_ | refine ⟨_, Mem.le_refl _, ?_⟩ | fail)
    refine (may_ok limit).mono ?_
    rintro v _ ⟨rfl, rfl⟩
    (conv => whnf); refine brn_t (by simp [hg]) ?_
    repeat' ((conv => whnf); first | refine ⟨?_, True.intro⟩ | refine brn_t rfl ?_ | refine brn_f rfl ?_ | refine ob rfl ?_ | refine ob (by decide) ?_ | refine grow_same (Mem.le_refl _) ?_ | refine ob (Mem.le_refl _) ?_ | refine ⟨_, Mem.le_refl _, ?_⟩ | fail)
    refine awake_ok.mono ?_
    rintro v M2 ⟨rfl, hle⟩
    repeat' ((conv => whnf); first | refine ⟨?_, True.intro⟩ | refine brn_t rfl ?_ | refine brn_f rfl ?_ | refine ob rfl ?_ | refine ob (by decide) ?_ | refine grow_same (Mem.le_refl _) ?_ | refine ob (Mem.le_refl _) ?_ | refine ⟨_, Mem.le_refl _, ?_⟩ | fail)
    exact ⟨rfl, hle⟩
  obtain ⟨k, hk, hkv⟩ : ∃ k : Nat, k < 40 ∧ IntKind.i64.wrap ((IntKind.u64.wrap z).tmod 40) = k := by
    have h0 : 0 ≤ IntKind.u64.wrap z := by rw [IntKind.wrap_u64]; omega
    have e1 : (IntKind.u64.wrap z).tmod 40 = IntKind.u64.wrap z % 40 := by rw [Int.tmod_eq_emod_of_nonneg h0]
    refine ⟨(IntKind.u64.wrap z % 40).toNat, by omega, ?_⟩
    rw [e1, IntKind.wrap_i64]; omega
  repeat' ((conv => whnf); first | refine ⟨?_, True.intro⟩ | refine brn_t rfl ?_ | refine brn_f rfl ?_ | refine ob rfl ?_ | refine ob (by decide) ?_ | refine grow_same (Mem.le_refl _) ?_ | refine ob (Mem.le_refl _) ?_ | refine ⟨_, Mem.le_refl _, ?_⟩ | fail)
  (conv => whnf)
  erw [hkv]
  refine (armF h1 (k := k) (by omega)).mono ?_
  have hev : armR ⟨limit, [], -1, false⟩ k = (⟨limit, [], k, decide ((k : Int) = 0)⟩, 0) := by
    unfold armR; dsimp only
    rw [if_neg (by simp), if_neg (by omega)]
  rw [hev]
  rintro v M2 ⟨es2, rfl, h2⟩
  repeat' ((conv => whnf); first | refine ⟨?_, True.intro⟩ | refine brn_t rfl ?_ | refine brn_f rfl ?_ | refine ob rfl ?_ | refine ob (by decide) ?_ | refine grow_same (Mem.le_refl _) ?_ | refine ob (Mem.le_refl _) ?_ | refine ⟨_, Mem.le_refl _, ?_⟩ | fail)
  refine loopF (σ := Nat × Nat × Mem × DiskR × FsT) [10, 9, 2] (fun y => [(10, .int .i64 y.1), (9, .int .i64 y.2.1), (2, .int .i64 k)]) (fun _ => []) (fun y => y.2.2.1)
    (fun | ⟨i, ch, Mc, D, es⟩ => i ≤ n ∧ FreshD M Mc p b D es ∧ ch ≤ k ∧ D.left = (k : Int) - ch ∧ D.down = decide ((ch : Int) = k)) (fun y => n - y.1) ⟨0, 0, M2, _, es2⟩ ⟨by omega, h2, by omega, by simp, by
      dsimp only; exact decide_eq_decide.2 ⟨fun h => by omega, fun h => by omega⟩⟩ ⟨(by repeat' first | exact True.intro | refine ⟨rfl, ?_⟩), (by repeat' first | exact True.intro | refine ⟨rfl, ?_⟩), Mem.le_refl _, rfl⟩ ?_
  rintro ⟨i, ch, Mc, D, es⟩ ⟨hi, hF, hch, hle, hdn⟩
  (conv => whnf); refine brn (fun g => ?_) (fun g => ?_)
  rotate_left
  · (conv => whnf)
    repeat' ((conv => whnf); first | refine ⟨?_, True.intro⟩ | refine brn_t rfl ?_ | refine brn_f rfl ?_ | refine ob rfl ?_ | refine ob (by decide) ?_ | refine grow_same (Mem.le_refl _) ?_ | refine ob (Mem.le_refl _) ?_ | refine ⟨_, Mem.le_refl _, ?_⟩ | fail)
    refine brn_t (decide_eq_true (by dsimp only; omega)) ?_
    repeat' ((conv => whnf); first | refine ⟨?_, True.intro⟩ | refine brn_t rfl ?_ | refine brn_f rfl ?_ | refine ob rfl ?_ | refine ob (by decide) ?_ | refine grow_same (Mem.le_refl _) ?_ | refine ob (Mem.le_refl _) ?_ | refine ⟨_, Mem.le_refl _, ?_⟩ | fail)
    refine (crashFr hF (keep := []) (SrcOk.nil M 1) (by omega)).mono ?_
    rintro v M3 ⟨es3, rfl, h3⟩
    repeat' ((conv => whnf); first | refine ⟨?_, True.intro⟩ | refine brn_t rfl ?_ | refine brn_f rfl ?_ | refine ob rfl ?_ | refine ob (by decide) ?_ | refine grow_same (Mem.le_refl _) ?_ | refine ob (Mem.le_refl _) ?_ | refine ⟨_, Mem.le_refl _, ?_⟩ | fail)
    refine (Down_ok h3.at').mono ?_
    rintro v _ ⟨rfl, rfl⟩
    repeat' ((conv => whnf); first | refine ⟨?_, True.intro⟩ | refine brn_t rfl ?_ | refine brn_f rfl ?_ | refine ob rfl ?_ | refine ob (by decide) ?_ | refine grow_same (Mem.le_refl _) ?_ | refine ob (Mem.le_refl _) ?_ | refine ⟨_, Mem.le_refl _, ?_⟩ | fail)
    refine awake_ok.mono ?_
    rintro v M4 ⟨rfl, hle4⟩
    repeat' ((conv => whnf); first | refine ⟨?_, True.intro⟩ | refine brn_t rfl ?_ | refine brn_f rfl ?_ | refine ob rfl ?_ | refine ob (by decide) ?_ | refine grow_same (Mem.le_refl _) ?_ | refine ob (Mem.le_refl _) ?_ | refine ⟨_, Mem.le_refl _, ?_⟩ | fail)
    exact ⟨rfl, Mem.le_trans h3.le hle4⟩
  have hlt : i < n := by have := of_decide_eq_true g; dsimp only at this; omega
  obtain ⟨hil, bb, o, a1, n1, c1, a2, n2, c2, ha, hc, hrow, hp, hp1, hk1, hk2, hnm, hto, hnn⟩ := act_at hl hlt
  generalize l[i] = x at *
  have hc' := fun q v hv => Mem.row_le hF.le (hc q v hv)
  (conv => whnf); refine brn (fun g1 => ?_) (fun g1 => ?_)
  rotate_left
  · (conv => whnf)
    repeat' ((conv => whnf); first | refine ⟨?_, True.intro⟩ | refine brn_t rfl ?_ | refine brn_f rfl ?_ | refine ob rfl ?_ | refine ob (by decide) ?_ | refine grow_same (Mem.le_refl _) ?_ | refine ob (Mem.le_refl _) ?_ | refine ⟨_, Mem.le_refl _, ?_⟩ | fail)
    refine brn_t (decide_eq_true (by dsimp only; omega)) ?_
    repeat' ((conv => whnf); first | refine ⟨?_, True.intro⟩ | refine brn_t rfl ?_ | refine brn_f rfl ?_ | refine ob rfl ?_ | refine ob (by decide) ?_ | refine grow_same (Mem.le_refl _) ?_ | refine ob (Mem.le_refl _) ?_ | refine ⟨_, Mem.le_refl _, ?_⟩ | fail)
    refine (crashFr hF (keep := []) (SrcOk.nil M 1) (by omega)).mono ?_
    rintro v M3 ⟨es3, rfl, h3⟩
    repeat' ((conv => whnf); first | refine ⟨?_, True.intro⟩ | refine brn_t rfl ?_ | refine brn_f rfl ?_ | refine ob rfl ?_ | refine ob (by decide) ?_ | refine grow_same (Mem.le_refl _) ?_ | refine ob (Mem.le_refl _) ?_ | refine ⟨_, Mem.le_refl _, ?_⟩ | fail)
    refine (Down_ok h3.at').mono ?_
    rintro v _ ⟨rfl, rfl⟩
    repeat' ((conv => whnf); first | refine ⟨?_, True.intro⟩ | refine brn_t rfl ?_ | refine brn_f rfl ?_ | refine ob rfl ?_ | refine ob (by decide) ?_ | refine grow_same (Mem.le_refl _) ?_ | refine ob (Mem.le_refl _) ?_ | refine ⟨_, Mem.le_refl _, ?_⟩ | fail)
    refine awake_ok.mono ?_
    rintro v M4 ⟨rfl, hle4⟩
    repeat' ((conv => whnf); first | refine ⟨?_, True.intro⟩ | refine brn_t rfl ?_ | refine brn_f rfl ?_ | refine ob rfl ?_ | refine ob (by decide) ?_ | refine grow_same (Mem.le_refl _) ?_ | refine ob (Mem.le_refl _) ?_ | refine ⟨_, Mem.le_refl _, ?_⟩ | fail)
    exact ⟨rfl, Mem.le_trans h3.le hle4⟩
  repeat' ((conv => whnf); first | refine ⟨?_, True.intro⟩ | refine brn_t rfl ?_ | refine brn_f rfl ?_ | refine ob rfl ?_ | refine ob (by decide) ?_ | refine grow_same (Mem.le_refl _) ?_ | refine ob (Mem.le_refl _) ?_ | refine ⟨_, Mem.le_refl _, ?_⟩ | fail)
  (conv => whnf); refine ob (by first | omega | (dsimp only; omega)) ?_
  (conv => whnf); refine atp ha ?_
  (conv => whnf); refine on (hc' 0 _ rfl) ?_
  (conv => whnf); refine brn (fun g2 => ?_) (fun g2 => ?_)
  · (conv => whnf)
    (conv => whnf); refine ob (by first | omega | (dsimp only; omega)) ?_
    (conv => whnf); refine atp ha ?_
    (conv => whnf); refine on (hc' 1 _ rfl) ?_
    (conv => whnf); refine ob (by first | omega | (dsimp only; omega)) ?_
    (conv => whnf); refine atp ha ?_
    (conv => whnf); refine on (hc' 3 _ rfl) ?_
    (conv => whnf); refine ⟨?_, True.intro⟩
    (conv => whnf); refine (appendF hF (by omega) (hp.le hF.le)).mono ?_
    rintro v M3 ⟨es3, rfl, h3⟩
    have has := append_arm (D := D) x.name x.p
    generalize appendR D x.name x.p = r at *
    obtain ⟨E, e⟩ := r
    dsimp only at h3
    repeat' ((conv => whnf); first | refine ⟨?_, True.intro⟩ | refine brn_t rfl ?_ | refine brn_f rfl ?_ | refine ob rfl ?_ | refine ob (by decide) ?_ | refine grow_same (Mem.le_refl _) ?_ | refine ob (Mem.le_refl _) ?_ | refine ⟨_, Mem.le_refl _, ?_⟩ | fail)
    rcases has with ⟨he, hd, l', hE⟩ | ⟨he, hE, h9⟩
    · dsimp only at he hE
      subst he
      have hne : ¬ (ch : Int) = k := by
        rw [hdn] at hd; exact of_decide_eq_false hd
      have hch3 : ch + 1 ≤ k := by omega
      have hle3 : E.left = (k : Int) - (ch + 1 : Nat) := by rw [hE]; unfold changedR; dsimp only; rw [if_pos (by omega)]; omega
      have hdn3 : E.down = decide (((ch + 1 : Nat) : Int) = k) := by
        rw [hE]; unfold changedR; dsimp only
        exact decide_eq_decide.2 ⟨fun h => by omega, fun h => by omega⟩
      obtain ⟨ch3, hch3e⟩ : ∃ ch3, ch3 = ch + 1 := ⟨_, rfl⟩
      rw [← hch3e] at hch3 hle3 hdn3
      refine brn_f (decide_eq_false hne) ?_
      repeat' ((conv => whnf); first | refine ⟨?_, True.intro⟩ | refine brn_t rfl ?_ | refine brn_f rfl ?_ | refine ob rfl ?_ | refine ob (by decide) ?_ | refine grow_same (Mem.le_refl _) ?_ | refine ob (Mem.le_refl _) ?_ | refine ⟨_, Mem.le_refl _, ?_⟩ | fail)
      refine ob (inR_i64 (by first | omega | (dsimp only; omega))) ?_
      repeat' ((conv => whnf); first | refine ⟨?_, True.intro⟩ | refine brn_t rfl ?_ | refine brn_f rfl ?_ | refine ob rfl ?_ | refine ob (by decide) ?_ | refine grow_same (Mem.le_refl _) ?_ | refine ob (Mem.le_refl _) ?_ | refine ⟨_, Mem.le_refl _, ?_⟩ | fail)
      erw [show ((ch : Int) + 1) = (ch3 : Int) from by omega]
      refine (Down_ok h3.at').mono ?_
      rintro v _ ⟨rfl, rfl⟩
      rw [hdn3]
      (conv => whnf); refine brn_f (by simp) ?_
      repeat' ((conv => whnf); first | refine ⟨?_, True.intro⟩ | refine brn_t rfl ?_ | refine brn_f rfl ?_ | refine ob rfl ?_ | refine ob (by decide) ?_ | refine grow_same (Mem.le_refl _) ?_ | refine ob (Mem.le_refl _) ?_ | refine ⟨_, Mem.le_refl _, ?_⟩ | fail)
      refine ob (inR_i64 (by first | omega | (dsimp only; omega))) ?_
      (conv => whnf)
      exact ⟨⟨i + 1, _, M3, E, es3⟩, ⟨by omega, h3, hch3, hle3, hdn3⟩, by dsimp only; omega, ⟨(by repeat' first | exact True.intro | refine ⟨rfl, ?_⟩), (by repeat' first | exact True.intro | refine ⟨rfl, ?_⟩), Mem.le_refl _, rfl⟩⟩
    · dsimp only at he hE h9
      have hch3 := hch
      have hle3 : E.left = (k : Int) - ch := by rw [hE]; exact hle
      have hdn3 : E.down = decide ((ch : Int) = k) := by rw [hE]; exact hdn
      refine brn (fun gk => ?_) (fun gk => ?_)
      · have he9 := h9 (by rw [hdn]; exact gk)
        subst he9
        repeat' ((conv => whnf); first | refine ⟨?_, True.intro⟩ | refine brn_t rfl ?_ | refine brn_f rfl ?_ | refine ob rfl ?_ | refine ob (by decide) ?_ | refine grow_same (Mem.le_refl _) ?_ | refine ob (Mem.le_refl _) ?_ | refine ⟨_, Mem.le_refl _, ?_⟩ | fail)
        refine (Down_ok h3.at').mono ?_
        rintro v _ ⟨rfl, rfl⟩
        rw [hdn3]
        (conv => whnf); refine brn_f (by simp) ?_
        repeat' ((conv => whnf); first | refine ⟨?_, True.intro⟩ | refine brn_t rfl ?_ | refine brn_f rfl ?_ | refine ob rfl ?_ | refine ob (by decide) ?_ | refine grow_same (Mem.le_refl _) ?_ | refine ob (Mem.le_refl _) ?_ | refine ⟨_, Mem.le_refl _, ?_⟩ | fail)
        refine ob (inR_i64 (by first | omega | (dsimp only; omega))) ?_
        (conv => whnf)
        exact ⟨⟨i + 1, _, M3, E, es3⟩, ⟨by omega, h3, hch3, hle3, hdn3⟩, by dsimp only; omega, ⟨(by repeat' first | exact True.intro | refine ⟨rfl, ?_⟩), (by repeat' first | exact True.intro | refine ⟨rfl, ?_⟩), Mem.le_refl _, rfl⟩⟩
      · repeat' ((conv => whnf); first | refine ⟨?_, True.intro⟩ | refine brn_t rfl ?_ | refine brn_f rfl ?_ | refine ob rfl ?_ | refine ob (by decide) ?_ | refine grow_same (Mem.le_refl _) ?_ | refine ob (Mem.le_refl _) ?_ | refine ⟨_, Mem.le_refl _, ?_⟩ | fail)
        refine brn_f (by simp [he]) ?_
        repeat' ((conv => whnf); first | refine ⟨?_, True.intro⟩ | refine brn_t rfl ?_ | refine brn_f rfl ?_ | refine ob rfl ?_ | refine ob (by decide) ?_ | refine grow_same (Mem.le_refl _) ?_ | refine ob (Mem.le_refl _) ?_ | refine ⟨_, Mem.le_refl _, ?_⟩ | fail)
        refine (Down_ok h3.at').mono ?_
        rintro v _ ⟨rfl, rfl⟩
        rw [hdn3]
        (conv => whnf); refine brn_f (by simp) ?_
        repeat' ((conv => whnf); first | refine ⟨?_, True.intro⟩ | refine brn_t rfl ?_ | refine brn_f rfl ?_ | refine ob rfl ?_ | refine ob (by decide) ?_ | refine grow_same (Mem.le_refl _) ?_ | refine ob (Mem.le_refl _) ?_ | refine ⟨_, Mem.le_refl _, ?_⟩ | fail)
        refine ob (inR_i64 (by first | omega | (dsimp only; omega))) ?_
        (conv => whnf)
        exact ⟨⟨i + 1, _, M3, E, es3⟩, ⟨by omega, h3, hch3, hle3, hdn3⟩, by dsimp only; omega, ⟨(by repeat' first | exact True.intro | refine ⟨rfl, ?_⟩), (by repeat' first | exact True.intro | refine ⟨rfl, ?_⟩), Mem.le_refl _, rfl⟩⟩
  (conv => whnf); refine brn (fun g3 => ?_) (fun g3 => ?_)
  · (conv => whnf)
    (conv => whnf); refine ob (by first | omega | (dsimp only; omega)) ?_
    (conv => whnf); refine atp ha ?_
    (conv => whnf); refine on (hc' 1 _ rfl) ?_
    (conv => whnf); refine (syncF hF (by omega)).mono ?_
    rintro v M3 ⟨es3, rfl, h3⟩
    have has := sync_arm (D := D) x.name
    generalize syncR D x.name = r at *
    obtain ⟨E, e⟩ := r
    dsimp only at h3
    repeat' ((conv => whnf); first | refine ⟨?_, True.intro⟩ | refine brn_t rfl ?_ | refine brn_f rfl ?_ | refine ob rfl ?_ | refine ob (by decide) ?_ | refine grow_same (Mem.le_refl _) ?_ | refine ob (Mem.le_refl _) ?_ | refine ⟨_, Mem.le_refl _, ?_⟩ | fail)
    rcases has with ⟨he, hd, l', hE⟩ | ⟨he, hE, h9⟩
    · dsimp only at he hE
      subst he
      have hne : ¬ (ch : Int) = k := by
        rw [hdn] at hd; exact of_decide_eq_false hd
      have hch3 : ch + 1 ≤ k := by omega
      have hle3 : E.left = (k : Int) - (ch + 1 : Nat) := by rw [hE]; unfold changedR; dsimp only; rw [if_pos (by omega)]; omega
      have hdn3 : E.down = decide (((ch + 1 : Nat) : Int) = k) := by
        rw [hE]; unfold changedR; dsimp only
        exact decide_eq_decide.2 ⟨fun h => by omega, fun h => by omega⟩
      obtain ⟨ch3, hch3e⟩ : ∃ ch3, ch3 = ch + 1 := ⟨_, rfl⟩
      rw [← hch3e] at hch3 hle3 hdn3
      refine brn_f (decide_eq_false hne) ?_
      repeat' ((conv => whnf); first | refine ⟨?_, True.intro⟩ | refine brn_t rfl ?_ | refine brn_f rfl ?_ | refine ob rfl ?_ | refine ob (by decide) ?_ | refine grow_same (Mem.le_refl _) ?_ | refine ob (Mem.le_refl _) ?_ | refine ⟨_, Mem.le_refl _, ?_⟩ | fail)
      refine ob (inR_i64 (by first | omega | (dsimp only; omega))) ?_
      repeat' ((conv => whnf); first | refine ⟨?_, True.intro⟩ | refine brn_t rfl ?_ | refine brn_f rfl ?_ | refine ob rfl ?_ | refine ob (by decide) ?_ | refine grow_same (Mem.le_refl _) ?_ | refine ob (Mem.le_refl _) ?_ | refine ⟨_, Mem.le_refl _, ?_⟩ | fail)
      erw [show ((ch : Int) + 1) = (ch3 : Int) from by omega]
      refine (Down_ok h3.at').mono ?_
      rintro v _ ⟨rfl, rfl⟩
      rw [hdn3]
      (conv => whnf); refine brn_f (by simp) ?_
      repeat' ((conv => whnf); first | refine ⟨?_, True.intro⟩ | refine brn_t rfl ?_ | refine brn_f rfl ?_ | refine ob rfl ?_ | refine ob (by decide) ?_ | refine grow_same (Mem.le_refl _) ?_ | refine ob (Mem.le_refl _) ?_ | refine ⟨_, Mem.le_refl _, ?_⟩ | fail)
      refine ob (inR_i64 (by first | omega | (dsimp only; omega))) ?_
      (conv => whnf)
      exact ⟨⟨i + 1, _, M3, E, es3⟩, ⟨by omega, h3, hch3, hle3, hdn3⟩, by dsimp only; omega, ⟨(by repeat' first | exact True.intro | refine ⟨rfl, ?_⟩), (by repeat' first | exact True.intro | refine ⟨rfl, ?_⟩), Mem.le_refl _, rfl⟩⟩
    · dsimp only at he hE h9
      have hch3 := hch
      have hle3 : E.left = (k : Int) - ch := by rw [hE]; exact hle
      have hdn3 : E.down = decide ((ch : Int) = k) := by rw [hE]; exact hdn
      refine brn (fun gk => ?_) (fun gk => ?_)
      · have he9 := h9 (by rw [hdn]; exact gk)
        subst he9
        repeat' ((conv => whnf); first | refine ⟨?_, True.intro⟩ | refine brn_t rfl ?_ | refine brn_f rfl ?_ | refine ob rfl ?_ | refine ob (by decide) ?_ | refine grow_same (Mem.le_refl _) ?_ | refine ob (Mem.le_refl _) ?_ | refine ⟨_, Mem.le_refl _, ?_⟩ | fail)
        refine (Down_ok h3.at').mono ?_
        rintro v _ ⟨rfl, rfl⟩
        rw [hdn3]
        (conv => whnf); refine brn_f (by simp) ?_
        repeat' ((conv => whnf); first | refine ⟨?_, True.intro⟩ | refine brn_t rfl ?_ | refine brn_f rfl ?_ | refine ob rfl ?_ | refine ob (by decide) ?_ | refine grow_same (Mem.le_refl _) ?_ | refine ob (Mem.le_refl _) ?_ | refine ⟨_, Mem.le_refl _, ?_⟩ | fail)
        refine ob (inR_i64 (by first | omega | (dsimp only; omega))) ?_
        (conv => whnf)
        exact ⟨⟨i + 1, _, M3, E, es3⟩, ⟨by omega, h3, hch3, hle3, hdn3⟩, by dsimp only; omega, ⟨(by repeat' first | exact True.intro | refine ⟨rfl, ?_⟩), (by repeat' first | exact True.intro | refine ⟨rfl, ?_⟩), Mem.le_refl _, rfl⟩⟩
      · repeat' ((conv => whnf); first | refine ⟨?_, True.intro⟩ | refine brn_t rfl ?_ | refine brn_f rfl ?_ | refine ob rfl ?_ | refine ob (by decide) ?_ | refine grow_same (Mem.le_refl _) ?_ | refine ob (Mem.le_refl _) ?_ | refine ⟨_, Mem.le_refl _, ?_⟩ | fail)
        refine brn_f (by simp [he]) ?_
        repeat' ((conv => whnf); first | refine ⟨?_, True.intro⟩ | refine brn_t rfl ?_ | refine brn_f rfl ?_ | refine ob rfl ?_ | refine ob (by decide) ?_ | refine grow_same (Mem.le_refl _) ?_ | refine ob (Mem.le_refl _) ?_ | refine ⟨_, Mem.le_refl _, ?_⟩ | fail)
        refine (Down_ok h3.at').mono ?_
        rintro v _ ⟨rfl, rfl⟩
        rw [hdn3]
        (conv => whnf); refine brn_f (by simp) ?_
        repeat' ((conv => whnf); first | refine ⟨?_, True.intro⟩ | refine brn_t rfl ?_ | refine brn_f rfl ?_ | refine ob rfl ?_ | refine ob (by decide) ?_ | refine grow_same (Mem.le_refl _) ?_ | refine ob (Mem.le_refl _) ?_ | refine ⟨_, Mem.le_refl _, ?_⟩ | fail)
        refine ob (inR_i64 (by first | omega | (dsimp only; omega))) ?_
        (conv => whnf)
        exact ⟨⟨i + 1, _, M3, E, es3⟩, ⟨by omega, h3, hch3, hle3, hdn3⟩, by dsimp only; omega, ⟨(by repeat' first | exact True.intro | refine ⟨rfl, ?_⟩), (by repeat' first | exact True.intro | refine ⟨rfl, ?_⟩), Mem.le_refl _, rfl⟩⟩
  (conv => whnf); refine brn (fun g4 => ?_) (fun g4 => ?_)
  · (conv => whnf)
    (conv => whnf); refine ob (by first | omega | (dsimp only; omega)) ?_
    (conv => whnf); refine atp ha ?_
    (conv => whnf); refine on (hc' 1 _ rfl) ?_
    (conv => whnf); refine ob (by first | omega | (dsimp only; omega)) ?_
    (conv => whnf); refine atp ha ?_
    (conv => whnf); refine on (hc' 4 _ rfl) ?_
    (conv => whnf); refine ⟨?_, True.intro⟩
    (conv => whnf); refine (cutF hF (by omega) x.n).mono ?_
    rintro v M3 ⟨es3, rfl, h3⟩
    have has := cut_arm (D := D) x.name x.n
    generalize cutR D x.name x.n = r at *
    obtain ⟨E, e⟩ := r
    dsimp only at h3
    repeat' ((conv => whnf); first | refine ⟨?_, True.intro⟩ | refine brn_t rfl ?_ | refine brn_f rfl ?_ | refine ob rfl ?_ | refine ob (by decide) ?_ | refine grow_same (Mem.le_refl _) ?_ | refine ob (Mem.le_refl _) ?_ | refine ⟨_, Mem.le_refl _, ?_⟩ | fail)
    rcases has with ⟨he, hd, l', hE⟩ | ⟨he, hE, h9⟩
    · dsimp only at he hE
      subst he
      have hne : ¬ (ch : Int) = k := by
        rw [hdn] at hd; exact of_decide_eq_false hd
      have hch3 : ch + 1 ≤ k := by omega
      have hle3 : E.left = (k : Int) - (ch + 1 : Nat) := by rw [hE]; unfold changedR; dsimp only; rw [if_pos (by omega)]; omega
      have hdn3 : E.down = decide (((ch + 1 : Nat) : Int) = k) := by
        rw [hE]; unfold changedR; dsimp only
        exact decide_eq_decide.2 ⟨fun h => by omega, fun h => by omega⟩
      obtain ⟨ch3, hch3e⟩ : ∃ ch3, ch3 = ch + 1 := ⟨_, rfl⟩
      rw [← hch3e] at hch3 hle3 hdn3
      refine brn_f (decide_eq_false hne) ?_
      repeat' ((conv => whnf); first | refine ⟨?_, True.intro⟩ | refine brn_t rfl ?_ | refine brn_f rfl ?_ | refine ob rfl ?_ | refine ob (by decide) ?_ | refine grow_same (Mem.le_refl _) ?_ | refine ob (Mem.le_refl _) ?_ | refine ⟨_, Mem.le_refl _, ?_⟩ | fail)
      refine ob (inR_i64 (by first | omega | (dsimp only; omega))) ?_
      repeat' ((conv => whnf); first | refine ⟨?_, True.intro⟩ | refine brn_t rfl ?_ | refine brn_f rfl ?_ | refine ob rfl ?_ | refine ob (by decide) ?_ | refine grow_same (Mem.le_refl _) ?_ | refine ob (Mem.le_refl _) ?_ | refine ⟨_, Mem.le_refl _, ?_⟩ | fail)
      erw [show ((ch : Int) + 1) = (ch3 : Int) from by omega]
      refine (Down_ok h3.at').mono ?_
      rintro v _ ⟨rfl, rfl⟩
      rw [hdn3]
      (conv => whnf); refine brn_f (by simp) ?_
      repeat' ((conv => whnf); first | refine ⟨?_, True.intro⟩ | refine brn_t rfl ?_ | refine brn_f rfl ?_ | refine ob rfl ?_ | refine ob (by decide) ?_ | refine grow_same (Mem.le_refl _) ?_ | refine ob (Mem.le_refl _) ?_ | refine ⟨_, Mem.le_refl _, ?_⟩ | fail)
      refine ob (inR_i64 (by first | omega | (dsimp only; omega))) ?_
      (conv => whnf)
      exact ⟨⟨i + 1, _, M3, E, es3⟩, ⟨by omega, h3, hch3, hle3, hdn3⟩, by dsimp only; omega, ⟨(by repeat' first | exact True.intro | refine ⟨rfl, ?_⟩), (by repeat' first | exact True.intro | refine ⟨rfl, ?_⟩), Mem.le_refl _, rfl⟩⟩
    · dsimp only at he hE h9
      have hch3 := hch
      have hle3 : E.left = (k : Int) - ch := by rw [hE]; exact hle
      have hdn3 : E.down = decide ((ch : Int) = k) := by rw [hE]; exact hdn
      refine brn (fun gk => ?_) (fun gk => ?_)
      · have he9 := h9 (by rw [hdn]; exact gk)
        subst he9
        repeat' ((conv => whnf); first | refine ⟨?_, True.intro⟩ | refine brn_t rfl ?_ | refine brn_f rfl ?_ | refine ob rfl ?_ | refine ob (by decide) ?_ | refine grow_same (Mem.le_refl _) ?_ | refine ob (Mem.le_refl _) ?_ | refine ⟨_, Mem.le_refl _, ?_⟩ | fail)
        refine (Down_ok h3.at').mono ?_
        rintro v _ ⟨rfl, rfl⟩
        rw [hdn3]
        (conv => whnf); refine brn_f (by simp) ?_
        repeat' ((conv => whnf); first | refine ⟨?_, True.intro⟩ | refine brn_t rfl ?_ | refine brn_f rfl ?_ | refine ob rfl ?_ | refine ob (by decide) ?_ | refine grow_same (Mem.le_refl _) ?_ | refine ob (Mem.le_refl _) ?_ | refine ⟨_, Mem.le_refl _, ?_⟩ | fail)
        refine ob (inR_i64 (by first | omega | (dsimp only; omega))) ?_
        (conv => whnf)
        exact ⟨⟨i + 1, _, M3, E, es3⟩, ⟨by omega, h3, hch3, hle3, hdn3⟩, by dsimp only; omega, ⟨(by repeat' first | exact True.intro | refine ⟨rfl, ?_⟩), (by repeat' first | exact True.intro | refine ⟨rfl, ?_⟩), Mem.le_refl _, rfl⟩⟩
      · repeat' ((conv => whnf); first | refine ⟨?_, True.intro⟩ | refine brn_t rfl ?_ | refine brn_f rfl ?_ | refine ob rfl ?_ | refine ob (by decide) ?_ | refine grow_same (Mem.le_refl _) ?_ | refine ob (Mem.le_refl _) ?_ | refine ⟨_, Mem.le_refl _, ?_⟩ | fail)
        refine brn_f (by simp [he]) ?_
        repeat' ((conv => whnf); first | refine ⟨?_, True.intro⟩ | refine brn_t rfl ?_ | refine brn_f rfl ?_ | refine ob rfl ?_ | refine ob (by decide) ?_ | refine grow_same (Mem.le_refl _) ?_ | refine ob (Mem.le_refl _) ?_ | refine ⟨_, Mem.le_refl _, ?_⟩ | fail)
        refine (Down_ok h3.at').mono ?_
        rintro v _ ⟨rfl, rfl⟩
        rw [hdn3]
        (conv => whnf); refine brn_f (by simp) ?_
        repeat' ((conv => whnf); first | refine ⟨?_, True.intro⟩ | refine brn_t rfl ?_ | refine brn_f rfl ?_ | refine ob rfl ?_ | refine ob (by decide) ?_ | refine grow_same (Mem.le_refl _) ?_ | refine ob (Mem.le_refl _) ?_ | refine ⟨_, Mem.le_refl _, ?_⟩ | fail)
        refine ob (inR_i64 (by first | omega | (dsimp only; omega))) ?_
        (conv => whnf)
        exact ⟨⟨i + 1, _, M3, E, es3⟩, ⟨by omega, h3, hch3, hle3, hdn3⟩, by dsimp only; omega, ⟨(by repeat' first | exact True.intro | refine ⟨rfl, ?_⟩), (by repeat' first | exact True.intro | refine ⟨rfl, ?_⟩), Mem.le_refl _, rfl⟩⟩
  (conv => whnf); refine brn (fun g5 => ?_) (fun g5 => ?_)
  · (conv => whnf)
    (conv => whnf); refine ob (by first | omega | (dsimp only; omega)) ?_
    (conv => whnf); refine atp ha ?_
    (conv => whnf); refine on (hc' 1 _ rfl) ?_
    (conv => whnf); refine ob (by first | omega | (dsimp only; omega)) ?_
    (conv => whnf); refine atp ha ?_
    (conv => whnf); refine on (hc' 2 _ rfl) ?_
    (conv => whnf); refine ⟨?_, True.intro⟩
    (conv => whnf); refine (renameF hF (by omega) (by omega)).mono ?_
    rintro v M3 ⟨es3, rfl, h3⟩
    have has := rename_arm (D := D) x.name x.to
    generalize renameR D x.name x.to = r at *
    obtain ⟨E, e⟩ := r
    dsimp only at h3
    repeat' ((conv => whnf); first | refine ⟨?_, True.intro⟩ | refine brn_t rfl ?_ | refine brn_f rfl ?_ | refine ob rfl ?_ | refine ob (by decide) ?_ | refine grow_same (Mem.le_refl _) ?_ | refine ob (Mem.le_refl _) ?_ | refine ⟨_, Mem.le_refl _, ?_⟩ | fail)
    rcases has with ⟨he, hd, l', hE⟩ | ⟨he, hE, h9⟩
    · dsimp only at he hE
      subst he
      have hne : ¬ (ch : Int) = k := by
        rw [hdn] at hd; exact of_decide_eq_false hd
      have hch3 : ch + 1 ≤ k := by omega
      have hle3 : E.left = (k : Int) - (ch + 1 : Nat) := by rw [hE]; unfold changedR; dsimp only; rw [if_pos (by omega)]; omega
      have hdn3 : E.down = decide (((ch + 1 : Nat) : Int) = k) := by
        rw [hE]; unfold changedR; dsimp only
        exact decide_eq_decide.2 ⟨fun h => by omega, fun h => by omega⟩
      obtain ⟨ch3, hch3e⟩ : ∃ ch3, ch3 = ch + 1 := ⟨_, rfl⟩
      rw [← hch3e] at hch3 hle3 hdn3
      refine brn_f (decide_eq_false hne) ?_
      repeat' ((conv => whnf); first | refine ⟨?_, True.intro⟩ | refine brn_t rfl ?_ | refine brn_f rfl ?_ | refine ob rfl ?_ | refine ob (by decide) ?_ | refine grow_same (Mem.le_refl _) ?_ | refine ob (Mem.le_refl _) ?_ | refine ⟨_, Mem.le_refl _, ?_⟩ | fail)
      refine ob (inR_i64 (by first | omega | (dsimp only; omega))) ?_
      repeat' ((conv => whnf); first | refine ⟨?_, True.intro⟩ | refine brn_t rfl ?_ | refine brn_f rfl ?_ | refine ob rfl ?_ | refine ob (by decide) ?_ | refine grow_same (Mem.le_refl _) ?_ | refine ob (Mem.le_refl _) ?_ | refine ⟨_, Mem.le_refl _, ?_⟩ | fail)
      erw [show ((ch : Int) + 1) = (ch3 : Int) from by omega]
      refine (Down_ok h3.at').mono ?_
      rintro v _ ⟨rfl, rfl⟩
      rw [hdn3]
      (conv => whnf); refine brn_f (by simp) ?_
      repeat' ((conv => whnf); first | refine ⟨?_, True.intro⟩ | refine brn_t rfl ?_ | refine brn_f rfl ?_ | refine ob rfl ?_ | refine ob (by decide) ?_ | refine grow_same (Mem.le_refl _) ?_ | refine ob (Mem.le_refl _) ?_ | refine ⟨_, Mem.le_refl _, ?_⟩ | fail)
      refine ob (inR_i64 (by first | omega | (dsimp only; omega))) ?_
      (conv => whnf)
      exact ⟨⟨i + 1, _, M3, E, es3⟩, ⟨by omega, h3, hch3, hle3, hdn3⟩, by dsimp only; omega, ⟨(by repeat' first | exact True.intro | refine ⟨rfl, ?_⟩), (by repeat' first | exact True.intro | refine ⟨rfl, ?_⟩), Mem.le_refl _, rfl⟩⟩
    · dsimp only at he hE h9
      have hch3 := hch
      have hle3 : E.left = (k : Int) - ch := by rw [hE]; exact hle
      have hdn3 : E.down = decide ((ch : Int) = k) := by rw [hE]; exact hdn
      refine brn (fun gk => ?_) (fun gk => ?_)
      · have he9 := h9 (by rw [hdn]; exact gk)
        subst he9
        repeat' ((conv => whnf); first | refine ⟨?_, True.intro⟩ | refine brn_t rfl ?_ | refine brn_f rfl ?_ | refine ob rfl ?_ | refine ob (by decide) ?_ | refine grow_same (Mem.le_refl _) ?_ | refine ob (Mem.le_refl _) ?_ | refine ⟨_, Mem.le_refl _, ?_⟩ | fail)
        refine (Down_ok h3.at').mono ?_
        rintro v _ ⟨rfl, rfl⟩
        rw [hdn3]
        (conv => whnf); refine brn_f (by simp) ?_
        repeat' ((conv => whnf); first | refine ⟨?_, True.intro⟩ | refine brn_t rfl ?_ | refine brn_f rfl ?_ | refine ob rfl ?_ | refine ob (by decide) ?_ | refine grow_same (Mem.le_refl _) ?_ | refine ob (Mem.le_refl _) ?_ | refine ⟨_, Mem.le_refl _, ?_⟩ | fail)
        refine ob (inR_i64 (by first | omega | (dsimp only; omega))) ?_
        (conv => whnf)
        exact ⟨⟨i + 1, _, M3, E, es3⟩, ⟨by omega, h3, hch3, hle3, hdn3⟩, by dsimp only; omega, ⟨(by repeat' first | exact True.intro | refine ⟨rfl, ?_⟩), (by repeat' first | exact True.intro | refine ⟨rfl, ?_⟩), Mem.le_refl _, rfl⟩⟩
      · repeat' ((conv => whnf); first | refine ⟨?_, True.intro⟩ | refine brn_t rfl ?_ | refine brn_f rfl ?_ | refine ob rfl ?_ | refine ob (by decide) ?_ | refine grow_same (Mem.le_refl _) ?_ | refine ob (Mem.le_refl _) ?_ | refine ⟨_, Mem.le_refl _, ?_⟩ | fail)
        refine brn_f (by simp [he]) ?_
        repeat' ((conv => whnf); first | refine ⟨?_, True.intro⟩ | refine brn_t rfl ?_ | refine brn_f rfl ?_ | refine ob rfl ?_ | refine ob (by decide) ?_ | refine grow_same (Mem.le_refl _) ?_ | refine ob (Mem.le_refl _) ?_ | refine ⟨_, Mem.le_refl _, ?_⟩ | fail)
        refine (Down_ok h3.at').mono ?_
        rintro v _ ⟨rfl, rfl⟩
        rw [hdn3]
        (conv => whnf); refine brn_f (by simp) ?_
        repeat' ((conv => whnf); first | refine ⟨?_, True.intro⟩ | refine brn_t rfl ?_ | refine brn_f rfl ?_ | refine ob rfl ?_ | refine ob (by decide) ?_ | refine grow_same (Mem.le_refl _) ?_ | refine ob (Mem.le_refl _) ?_ | refine ⟨_, Mem.le_refl _, ?_⟩ | fail)
        refine ob (inR_i64 (by first | omega | (dsimp only; omega))) ?_
        (conv => whnf)
        exact ⟨⟨i + 1, _, M3, E, es3⟩, ⟨by omega, h3, hch3, hle3, hdn3⟩, by dsimp only; omega, ⟨(by repeat' first | exact True.intro | refine ⟨rfl, ?_⟩), (by repeat' first | exact True.intro | refine ⟨rfl, ?_⟩), Mem.le_refl _, rfl⟩⟩
  (conv => whnf); refine brn (fun g6 => ?_) (fun g6 => ?_)
  · (conv => whnf)
    (conv => whnf); refine ob (by first | omega | (dsimp only; omega)) ?_
    (conv => whnf); refine atp ha ?_
    (conv => whnf); refine on (hc' 1 _ rfl) ?_
    (conv => whnf); refine (removeF hF (by omega)).mono ?_
    rintro v M3 ⟨es3, rfl, h3⟩
    have has := remove_arm (D := D) x.name
    generalize removeR D x.name = r at *
    obtain ⟨E, e⟩ := r
    dsimp only at h3
    repeat' ((conv => whnf); first | refine ⟨?_, True.intro⟩ | refine brn_t rfl ?_ | refine brn_f rfl ?_ | refine ob rfl ?_ | refine ob (by decide) ?_ | refine grow_same (Mem.le_refl _) ?_ | refine ob (Mem.le_refl _) ?_ | refine ⟨_, Mem.le_refl _, ?_⟩ | fail)
    rcases has with ⟨he, hd, l', hE⟩ | ⟨he, hE, h9⟩
    · dsimp only at he hE
      subst he
      have hne : ¬ (ch : Int) = k := by
        rw [hdn] at hd; exact of_decide_eq_false hd
      have hch3 : ch + 1 ≤ k := by omega
      have hle3 : E.left = (k : Int) - (ch + 1 : Nat) := by rw [hE]; unfold changedR; dsimp only; rw [if_pos (by omega)]; omega
      have hdn3 : E.down = decide (((ch + 1 : Nat) : Int) = k) := by
        rw [hE]; unfold changedR; dsimp only
        exact decide_eq_decide.2 ⟨fun h => by omega, fun h => by omega⟩
      obtain ⟨ch3, hch3e⟩ : ∃ ch3, ch3 = ch + 1 := ⟨_, rfl⟩
      rw [← hch3e] at hch3 hle3 hdn3
      refine brn_f (decide_eq_false hne) ?_
      repeat' ((conv => whnf); first | refine ⟨?_, True.intro⟩ | refine brn_t rfl ?_ | refine brn_f rfl ?_ | refine ob rfl ?_ | refine ob (by decide) ?_ | refine grow_same (Mem.le_refl _) ?_ | refine ob (Mem.le_refl _) ?_ | refine ⟨_, Mem.le_refl _, ?_⟩ | fail)
      refine ob (inR_i64 (by first | omega | (dsimp only; omega))) ?_
      repeat' ((conv => whnf); first | refine ⟨?_, True.intro⟩ | refine brn_t rfl ?_ | refine brn_f rfl ?_ | refine ob rfl ?_ | refine ob (by decide) ?_ | refine grow_same (Mem.le_refl _) ?_ | refine ob (Mem.le_refl _) ?_ | refine ⟨_, Mem.le_refl _, ?_⟩ | fail)
      erw [show ((ch : Int) + 1) = (ch3 : Int) from by omega]
      refine (Down_ok h3.at').mono ?_
      rintro v _ ⟨rfl, rfl⟩
      rw [hdn3]
      (conv => whnf); refine brn_f (by simp) ?_
      repeat' ((conv => whnf); first | refine ⟨?_, True.intro⟩ | refine brn_t rfl ?_ | refine brn_f rfl ?_ | refine ob rfl ?_ | refine ob (by decide) ?_ | refine grow_same (Mem.le_refl _) ?_ | refine ob (Mem.le_refl _) ?_ | refine ⟨_, Mem.le_refl _, ?_⟩ | fail)
      refine ob (inR_i64 (by first | omega | (dsimp only; omega))) ?_
      (conv => whnf)
      exact ⟨⟨i + 1, _, M3, E, es3⟩, ⟨by omega, h3, hch3, hle3, hdn3⟩, by dsimp only; omega, ⟨(by repeat' first | exact True.intro | refine ⟨rfl, ?_⟩), (by repeat' first | exact True.intro | refine ⟨rfl, ?_⟩), Mem.le_refl _, rfl⟩⟩
    · dsimp only at he hE h9
      have hch3 := hch
      have hle3 : E.left = (k : Int) - ch := by rw [hE]; exact hle
      have hdn3 : E.down = decide ((ch : Int) = k) := by rw [hE]; exact hdn
      refine brn (fun gk => ?_) (fun gk => ?_)
      · have he9 := h9 (by rw [hdn]; exact gk)
        subst he9
        repeat' ((conv => whnf); first | refine ⟨?_, True.intro⟩ | refine brn_t rfl ?_ | refine brn_f rfl ?_ | refine ob rfl ?_ | refine ob (by decide) ?_ | refine grow_same (Mem.le_refl _) ?_ | refine ob (Mem.le_refl _) ?_ | refine ⟨_, Mem.le_refl _, ?_⟩ | fail)
        refine (Down_ok h3.at').mono ?_
        rintro v _ ⟨rfl, rfl⟩
        rw [hdn3]
        (conv => whnf); refine brn_f (by simp) ?_
        repeat' ((conv => whnf); first | refine ⟨?_, True.intro⟩ | refine brn_t rfl ?_ | refine brn_f rfl ?_ | refine ob rfl ?_ | refine ob (by decide) ?_ | refine grow_same (Mem.le_refl _) ?_ | refine ob (Mem.le_refl _) ?_ | refine ⟨_, Mem.le_refl _, ?_⟩ | fail)
        refine ob (inR_i64 (by first | omega | (dsimp only; omega))) ?_
        (conv => whnf)
        exact ⟨⟨i + 1, _, M3, E, es3⟩, ⟨by omega, h3, hch3, hle3, hdn3⟩, by dsimp only; omega, ⟨(by repeat' first | exact True.intro | refine ⟨rfl, ?_⟩), (by repeat' first | exact True.intro | refine ⟨rfl, ?_⟩), Mem.le_refl _, rfl⟩⟩
      · repeat' ((conv => whnf); first | refine ⟨?_, True.intro⟩ | refine brn_t rfl ?_ | refine brn_f rfl ?_ | refine ob rfl ?_ | refine ob (by decide) ?_ | refine grow_same (Mem.le_refl _) ?_ | refine ob (Mem.le_refl _) ?_ | refine ⟨_, Mem.le_refl _, ?_⟩ | fail)
        refine brn_f (by simp [he]) ?_
        repeat' ((conv => whnf); first | refine ⟨?_, True.intro⟩ | refine brn_t rfl ?_ | refine brn_f rfl ?_ | refine ob rfl ?_ | refine ob (by decide) ?_ | refine grow_same (Mem.le_refl _) ?_ | refine ob (Mem.le_refl _) ?_ | refine ⟨_, Mem.le_refl _, ?_⟩ | fail)
        refine (Down_ok h3.at').mono ?_
        rintro v _ ⟨rfl, rfl⟩
        rw [hdn3]
        (conv => whnf); refine brn_f (by simp) ?_
        repeat' ((conv => whnf); first | refine ⟨?_, True.intro⟩ | refine brn_t rfl ?_ | refine brn_f rfl ?_ | refine ob rfl ?_ | refine ob (by decide) ?_ | refine grow_same (Mem.le_refl _) ?_ | refine ob (Mem.le_refl _) ?_ | refine ⟨_, Mem.le_refl _, ?_⟩ | fail)
        refine ob (inR_i64 (by first | omega | (dsimp only; omega))) ?_
        (conv => whnf)
        exact ⟨⟨i + 1, _, M3, E, es3⟩, ⟨by omega, h3, hch3, hle3, hdn3⟩, by dsimp only; omega, ⟨(by repeat' first | exact True.intro | refine ⟨rfl, ?_⟩), (by repeat' first | exact True.intro | refine ⟨rfl, ?_⟩), Mem.le_refl _, rfl⟩⟩
  (conv => whnf)
  obtain ⟨E, ch3, es3, rfl, rfl, rfl⟩ : ∃ E ch3 es3, E = D ∧ ch3 = ch ∧ es3 = es := ⟨_, _, _, rfl, rfl, rfl⟩
  obtain ⟨M3, hM3⟩ : ∃ M3, M3 = Mc := ⟨_, rfl⟩
  have h3 : FreshD M M3 p b E es3 := by rw [hM3]; exact hF
  have hch3 := hch
  have hle3 := hle
  have hdn3 := hdn
  erw [← hM3]
  repeat' ((conv => whnf); first | refine ⟨?_, True.intro⟩ | refine brn_t rfl ?_ | refine brn_f rfl ?_ | refine ob rfl ?_ | refine ob (by decide) ?_ | refine grow_same (Mem.le_refl _) ?_ | refine ob (Mem.le_refl _) ?_ | refine ⟨_, Mem.le_refl _, ?_⟩ | fail)
  refine ob (inR_i64 (by first | omega | (dsimp only; omega))) ?_
  (conv => whnf)
  exact ⟨⟨i + 1, _, M3, E, es3⟩, ⟨by omega, h3, hch3, hle3, hdn3⟩, by dsimp only; omega, ⟨(by repeat' first | exact True.intro | refine ⟨rfl, ?_⟩), (by repeat' first | exact True.intro | refine ⟨rfl, ?_⟩), Mem.le_refl _, rfl⟩⟩
end Go.Proofs.Ytdjgmhifocdelaa
