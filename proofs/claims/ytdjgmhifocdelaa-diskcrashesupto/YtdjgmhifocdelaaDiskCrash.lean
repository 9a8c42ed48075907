/- DiskCrashes, as a contract. -/
import Derived.Test.YtdjgmhifocdelaaDiskV
namespace Go.Proofs.Ytdjgmhifocdelaa
open Go Go.Vm
attribute [local irreducible] Brn Ob Grow CallsM inR LoopVC Mem.row Mem.cells Mem.setCells Mem.upd Own AppVC SrcVC StrVC NextVC New SrcOk subA NewSl Mem.textAt Mem.mapAt Mem.iterAt entryOf kfind Wr NewEls Elems
set_option maxRecDepth 10000
variable {M : Mem} {D : DiskR}
theorem crash_len (keep : List Int) : (crashR D keep).l.length = D.l.length := by
  have := congrArg List.length (crashR_names (D := D) keep); simpa using this
theorem crash_lit (h : LitD D) (keep : List Int) : LitD (crashR D keep) := ⟨crashR_inv h.inv keep, rfl, fun f hf => by
  have h1 : f.name ∈ D.l.map (·.name) := crashR_names (D := D) keep ▸ List.mem_map.2 ⟨f, hf, rfl⟩
  obtain ⟨g, hg, e⟩ := List.mem_map.1 h1
  rw [← e]; exact h.names g hg⟩
theorem crashF_all (keep : List Int) (i : Nat) (f : FileR) : bl (crashF keep i f).all = bl f.safe ++ (bl f.tail).take (keptN keep i f) := by
  unfold crashF FileR.all
  dsimp only
  rw [bl_append, bl_append, bl_extract, show bl ByteArray.empty = [] from rfl, List.append_nil]
theorem crashF_safe (keep : List Int) (i : Nat) (f : FileR) : (crashF keep i f).safe.size = f.safe.size + keptN keep i f := by
  unfold crashF
  dsimp only
  have := keptN_le keep i f
  rw [← bl_len, bl_append, bl_extract, List.length_append, List.length_take, bl_len, bl_len]
  omega
theorem crashes_law (limit : Int) {a : Option Addr} {n c : Nat} {l : List ActD} (hl : Elems M 6 a n (ActR M) l) (hn : n ≤ 1048576) {ka : Option Addr} {kn kc : Nat} {keep : List Int} (hk : SrcOk M 1 ka kn (keep.map intV)) (hkn : kn ≤ 1048576) :
    CallsM Try.prog F.law10_DiskCrashes [.int .i64 limit, .slice a n c, .slice ka kn kc] M fun v M' => v = .bool true ∧ M.le M' := by
  refine fo_law10_DiskCrashes (by simp) ?_
  have hkl := hk.maplen
  repeat' ((conv => whnf); first | refine ⟨?_, True.intro⟩ | refine brn_t rfl ?_ | refine brn_f rfl ?_ | refine ob rfl ?_ | refine ob (by decide) ?_ | refine grow_same (Mem.le_refl _) ?_ | refine ob (Mem.le_refl _) ?_ | refine ⟨_, Mem.le_refl _, ?_⟩ | fail)
  refine (done_ok limit hl hn).mono ?_
  rintro v M1 (⟨hg, rfl, rfl⟩ | ⟨hg, p, b, D, es, rfl, h1, hN1⟩)
  · repeat' ((conv => whnf); first | refine ⟨?_, True.intro⟩ | refine brn_t rfl ?_ | refine brn_f rfl ?_ | refine ob rfl ?_ | refine ob (by decide) ?_ | refine grow_same (Mem.le_refl _) ?_ | refine ob (Mem.le_refl _) ?_ | refine ⟨_, Mem.le_refl _, ?_⟩ | fail)
    refine (may_ok limit).mono ?_
    rintro v _ ⟨rfl, rfl⟩
    (conv => whnf); refine brn_t (by simp [hg]) ?_
    repeat' ((conv => whnf); first | refine ⟨?_, True.intro⟩ | refine brn_t rfl ?_ | refine brn_f rfl ?_ | refine ob rfl ?_ | refine ob (by decide) ?_ | refine grow_same (Mem.le_refl _) ?_ | refine ob (Mem.le_refl _) ?_ | refine ⟨_, Mem.le_refl _, ?_⟩ | fail)
    refine awake_ok.mono ?_
    rintro v M2 ⟨rfl, hle⟩
    repeat' ((conv => whnf); first | refine ⟨?_, True.intro⟩ | refine brn_t rfl ?_ | refine brn_f rfl ?_ | refine ob rfl ?_ | refine ob (by decide) ?_ | refine grow_same (Mem.le_refl _) ?_ | refine ob (Mem.le_refl _) ?_ | refine ⟨_, Mem.le_refl _, ?_⟩ | fail)
    exact ⟨rfl, hle⟩
  have hL := hN1.lit
  have hln := h1.inv.len
  have hus := h1.inv.used
  repeat' ((conv => whnf); first | refine ⟨?_, True.intro⟩ | refine brn_t rfl ?_ | refine brn_f rfl ?_ | refine ob rfl ?_ | refine ob (by decide) ?_ | refine grow_same (Mem.le_refl _) ?_ | refine ob (Mem.le_refl _) ?_ | refine ⟨_, Mem.le_refl _, ?_⟩ | fail)
  refine (Fork_ok h1.at' h1.rel h1.inv).mono ?_
  rintro v M2 ⟨q, d, gs, rfl, hle2, h2, hr2, hfr2⟩
  have hF2 : FreshD M1 M2 q d D gs := ⟨hle2, h2, hr2, h1.inv, hfr2⟩
  repeat' ((conv => whnf); first | refine ⟨?_, True.intro⟩ | refine brn_t rfl ?_ | refine brn_f rfl ?_ | refine ob rfl ?_ | refine ob (by decide) ?_ | refine grow_same (Mem.le_refl _) ?_ | refine ob (Mem.le_refl _) ?_ | refine ⟨_, Mem.le_refl _, ?_⟩ | fail)
  refine (crashFr hF2 (hk.le h1.le) (by omega)).mono ?_
  rintro v M3 ⟨gs3, rfl, h3⟩
  have hC := crash_lit hL keep
  have hCl := crash_len (D := D) keep
  obtain ⟨C, hCe⟩ : ∃ C, C = crashR D keep := ⟨_, rfl⟩
  rw [← hCe] at h3 hC hCl
  repeat' ((conv => whnf); first | refine ⟨?_, True.intro⟩ | refine brn_t rfl ?_ | refine brn_f rfl ?_ | refine ob rfl ?_ | refine ob (by decide) ?_ | refine grow_same (Mem.le_refl _) ?_ | refine ob (Mem.le_refl _) ?_ | refine ⟨_, Mem.le_refl _, ?_⟩ | fail)
  refine (Names_ok (h1.at'.le h3.le) h1.rel h1.inv).mono ?_
  rintro v M4 ⟨na, nc, rfl, hNm⟩
  repeat' ((conv => whnf); first | refine ⟨?_, True.intro⟩ | refine brn_t rfl ?_ | refine brn_f rfl ?_ | refine ob rfl ?_ | refine ob (by decide) ?_ | refine grow_same (Mem.le_refl _) ?_ | refine ob (Mem.le_refl _) ?_ | refine ⟨_, Mem.le_refl _, ?_⟩ | fail)
  refine (Names_ok (h3.at'.le hNm.le) h3.rel h3.inv).mono ?_
  rintro v M5 ⟨nb, nd, rfl, hNc⟩
  rw [hCl]
  (conv => whnf); refine brn_f (by simp) ?_
  have hn5 := hNm.src.le hNc.le
  have hle35 := Mem.le_trans hNm.le hNc.le
  (conv => whnf)
  refine loopF (σ := Nat × Mem) [10] (fun y => [(10, .int .i64 y.1)]) (fun _ => []) (fun y => y.2) (fun | ⟨i, Mc⟩ => i ≤ D.l.length ∧ M5.le Mc) (fun y => D.l.length - y.1) ⟨0, M5⟩ ⟨by omega, Mem.le_refl _⟩ ⟨(by repeat' first | exact True.intro | refine ⟨rfl, ?_⟩), (by repeat' first | exact True.intro | refine ⟨rfl, ?_⟩), Mem.le_refl _, rfl⟩ ?_
  rintro ⟨i, Mc⟩ ⟨hi1, hle⟩
  have hle3 := Mem.le_trans hle35 hle
  (conv => whnf); refine brn (fun g => ?_) (fun g => ?_)
  · have hlt : i < D.l.length := by have := of_decide_eq_true g; dsimp only at this; omega
    obtain ⟨hk1, b1, o1, e1, hr1⟩ := (hn5.le hle).at (i := i) hlt
    have hfm : D.l[i] ∈ D.l := List.getElem_mem hlt
    have hfc : crashF keep i D.l[i] ∈ C.l := by
      rw [hCe]; unfold crashR; dsimp only
      rw [List.mem_iff_getElem?]
      exact ⟨i, by rw [List.getElem?_mapIdx, List.getElem?_eq_getElem hlt]; rfl⟩
    have hnm : (D.l.map (·.name))[i] = D.l[i].name := by simp
    rw [hnm] at hr1
    generalize D.l[i] = f at *
    have hsz := hL.size hfm
    have hd := h1.to (Mem.le_trans h3.le hle3)
    have hc := h3.to hle3
    have hkt := keptN_le keep i f
    have hca := crashF_all keep i f
    have hcs := crashF_safe keep i f
    have hrd := hL.read hfm
    have hrc : readR C f.name = ((crashF keep i f).all, 0) := hC.read hfc
    have hsd := hL.safe hfm
    have hsc : safeR C f.name = f.safe.size + keptN keep i f := (hC.safe hfc).trans hcs
    have hk0 : kn ≤ i → keptN keep i f = 0 := fun h => by unfold keptN; rw [List.getElem?_eq_none (by omega)]
    have hfu : f.safe.size + f.tail.size ≤ 1048576 := by
      have h3 := le_sum_mem (List.mem_map.2 ⟨f, hfm, rfl⟩ : f.safe.size + f.tail.size ∈ D.l.map fun f => f.safe.size + f.tail.size)
      unfold usedR at hus
      omega
    (conv => whnf); refine ob (by first | omega | (dsimp only; omega)) ?_
    (conv => whnf); refine atp e1 ?_
    (conv => whnf); refine on hr1 ?_
    (conv => whnf); refine (readF hd (by omega)).mono ?_
    rw [hrd]
    rintro v M6 ⟨a6, n6, c6, rfl, hn6, hN6⟩
    have hcap6 := (newSl_iff.1 hN6).2.2.1
    repeat' ((conv => whnf); first | refine ⟨?_, True.intro⟩ | refine brn_t rfl ?_ | refine brn_f rfl ?_ | refine ob rfl ?_ | refine ob (by decide) ?_ | refine grow_same (Mem.le_refl _) ?_ | refine ob (Mem.le_refl _) ?_ | refine ⟨_, Mem.le_refl _, ?_⟩ | fail)
    refine ob (by first | omega | (dsimp only; omega)) ?_
    (conv => whnf); refine atp e1 ?_
    (conv => whnf); refine on (Mem.row_le hN6.le hr1) ?_
    (conv => whnf); refine (readF (hc.to hN6.le) (by omega)).mono ?_
    rw [hrc]
    rintro v M7 ⟨a7, n7, c7, rfl, hn7, hN7⟩
    dsimp only at hn6 hn7 hN6 hN7
    have hle67 := Mem.le_trans hN6.le hN7.le
    rw [FileR.all_size] at hn6
    have hn7' : n7 = f.safe.size + keptN keep i f := by rw [hn7, hca, List.length_append, List.length_take, bl_len, bl_len]; omega
    repeat' ((conv => whnf); first | refine ⟨?_, True.intro⟩ | refine brn_t rfl ?_ | refine brn_f rfl ?_ | refine ob rfl ?_ | refine ob (by decide) ?_ | refine grow_same (Mem.le_refl _) ?_ | refine ob (Mem.le_refl _) ?_ | refine ⟨_, Mem.le_refl _, ?_⟩ | fail)
    refine brn_f (decide_eq_false (by omega)) ?_
    repeat' ((conv => whnf); first | refine ⟨?_, True.intro⟩ | refine brn_t rfl ?_ | refine brn_f rfl ?_ | refine ob rfl ?_ | refine ob (by decide) ?_ | refine grow_same (Mem.le_refl _) ?_ | refine ob (Mem.le_refl _) ?_ | refine ⟨_, Mem.le_refl _, ?_⟩ | fail)
    refine strv hN7.src ?_
    (conv => whnf); refine ob ⟨by decide, by omega, by omega⟩ ?_
    (conv => whnf); refine strv ((hN6.src.le hN7.le).subm (lo := 0) (hi := (n7 : Int).toNat) (by omega) (by omega) hcap6) ?_
    have hstr : (⟨(bl (crashF keep i f).all).toArray⟩ : ByteArray) = ⟨((bl f.all).drop 0 |>.take ((n7 : Int).toNat - 0)).toArray⟩ := by
      congr 2
      rw [hca, List.drop_zero, Nat.sub_zero, Int.toNat_natCast, hn7', FileR.all, bl_append, ← bl_len f.safe, List.take_length_add_append]
    rw [← hstr]
    (conv => whnf); refine brn_f (by simp) ?_
    repeat' ((conv => whnf); first | refine ⟨?_, True.intro⟩ | refine brn_t rfl ?_ | refine brn_f rfl ?_ | refine ob rfl ?_ | refine ob (by decide) ?_ | refine grow_same (Mem.le_refl _) ?_ | refine ob (Mem.le_refl _) ?_ | refine ⟨_, Mem.le_refl _, ?_⟩ | fail)
    refine ob (by first | omega | (dsimp only; omega)) ?_
    (conv => whnf); refine atp e1 ?_
    (conv => whnf); refine on (Mem.row_le hle67 hr1) ?_
    repeat' ((conv => whnf); first | refine ⟨?_, True.intro⟩ | refine brn_t rfl ?_ | refine brn_f rfl ?_ | refine ob rfl ?_ | refine ob (by decide) ?_ | refine grow_same (Mem.le_refl _) ?_ | refine ob (Mem.le_refl _) ?_ | refine ⟨_, Mem.le_refl _, ?_⟩ | fail)
    refine (safeF (hd.to hle67) f.name).mono ?_
    rw [hsd]
    rintro v _ ⟨rfl, rfl⟩
    repeat' ((conv => whnf); first | refine ⟨?_, True.intro⟩ | refine brn_t rfl ?_ | refine brn_f rfl ?_ | refine ob rfl ?_ | refine ob (by decide) ?_ | refine grow_same (Mem.le_refl _) ?_ | refine ob (Mem.le_refl _) ?_ | refine ⟨_, Mem.le_refl _, ?_⟩ | fail)
    refine brn_f (decide_eq_false (by omega)) ?_
    repeat' ((conv => whnf); first | refine ⟨?_, True.intro⟩ | refine brn_t rfl ?_ | refine brn_f rfl ?_ | refine ob rfl ?_ | refine ob (by decide) ?_ | refine grow_same (Mem.le_refl _) ?_ | refine ob (Mem.le_refl _) ?_ | refine ⟨_, Mem.le_refl _, ?_⟩ | fail)
    refine ob (by first | omega | (dsimp only; omega)) ?_
    (conv => whnf); refine atp e1 ?_
    (conv => whnf); refine on (Mem.row_le hle67 hr1) ?_
    repeat' ((conv => whnf); first | refine ⟨?_, True.intro⟩ | refine brn_t rfl ?_ | refine brn_f rfl ?_ | refine ob rfl ?_ | refine ob (by decide) ?_ | refine grow_same (Mem.le_refl _) ?_ | refine ob (Mem.le_refl _) ?_ | refine ⟨_, Mem.le_refl _, ?_⟩ | fail)
    refine (safeF (hc.to hle67) f.name).mono ?_
    rw [hsc]
    rintro v _ ⟨rfl, rfl⟩
    repeat' ((conv => whnf); first | refine ⟨?_, True.intro⟩ | refine brn_t rfl ?_ | refine brn_f rfl ?_ | refine ob rfl ?_ | refine ob (by decide) ?_ | refine grow_same (Mem.le_refl _) ?_ | refine ob (Mem.le_refl _) ?_ | refine ⟨_, Mem.le_refl _, ?_⟩ | fail)
    refine brn_f (by simp; omega) ?_
    repeat' ((conv => whnf); first | refine ⟨?_, True.intro⟩ | refine brn_t rfl ?_ | refine brn_f rfl ?_ | refine ob rfl ?_ | refine ob (by decide) ?_ | refine grow_same (Mem.le_refl _) ?_ | refine ob (Mem.le_refl _) ?_ | refine ⟨_, Mem.le_refl _, ?_⟩ | fail)
    refine brn (fun g1 => ?_) (fun g1 => ?_)
    · have h0 := hk0 (by have := of_decide_eq_true g1; dsimp only at this; omega)
      repeat' ((conv => whnf); first | refine ⟨?_, True.intro⟩ | refine brn_t rfl ?_ | refine brn_f rfl ?_ | refine ob rfl ?_ | refine ob (by decide) ?_ | refine grow_same (Mem.le_refl _) ?_ | refine ob (Mem.le_refl _) ?_ | refine ⟨_, Mem.le_refl _, ?_⟩ | fail)
      refine ob (by first | omega | (dsimp only; omega)) ?_
      (conv => whnf); refine atp e1 ?_
      (conv => whnf); refine on (Mem.row_le hle67 hr1) ?_
      repeat' ((conv => whnf); first | refine ⟨?_, True.intro⟩ | refine brn_t rfl ?_ | refine brn_f rfl ?_ | refine ob rfl ?_ | refine ob (by decide) ?_ | refine grow_same (Mem.le_refl _) ?_ | refine ob (Mem.le_refl _) ?_ | refine ⟨_, Mem.le_refl _, ?_⟩ | fail)
      refine (safeF (hd.to hle67) f.name).mono ?_
      rw [hsd]
      rintro v _ ⟨rfl, rfl⟩
      (conv => whnf); refine brn_f (by simp; omega) ?_
      repeat' ((conv => whnf); first | refine ⟨?_, True.intro⟩ | refine brn_t rfl ?_ | refine brn_f rfl ?_ | refine ob rfl ?_ | refine ob (by decide) ?_ | refine grow_same (Mem.le_refl _) ?_ | refine ob (Mem.le_refl _) ?_ | refine ⟨_, Mem.le_refl _, ?_⟩ | fail)
      refine ob (inR_i64 (by first | omega | (dsimp only; omega))) ?_
      (conv => whnf)
      exact ⟨⟨i + 1, M7⟩, ⟨by omega, Mem.le_trans hle hle67⟩, by dsimp only; omega, ⟨(by repeat' first | exact True.intro | refine ⟨rfl, ?_⟩), (by repeat' first | exact True.intro | refine ⟨rfl, ?_⟩), Mem.le_refl _, rfl⟩⟩
    · (conv => whnf)
      repeat' ((conv => whnf); first | refine ⟨?_, True.intro⟩ | refine brn_t rfl ?_ | refine brn_f rfl ?_ | refine ob rfl ?_ | refine ob (by decide) ?_ | refine grow_same (Mem.le_refl _) ?_ | refine ob (Mem.le_refl _) ?_ | refine ⟨_, Mem.le_refl _, ?_⟩ | fail)
      refine ob (inR_i64 (by first | omega | (dsimp only; omega))) ?_
      (conv => whnf)
      exact ⟨⟨i + 1, M7⟩, ⟨by omega, Mem.le_trans hle hle67⟩, by dsimp only; omega, ⟨(by repeat' first | exact True.intro | refine ⟨rfl, ?_⟩), (by repeat' first | exact True.intro | refine ⟨rfl, ?_⟩), Mem.le_refl _, rfl⟩⟩
  repeat' ((conv => whnf); first | refine ⟨?_, True.intro⟩ | refine brn_t rfl ?_ | refine brn_f rfl ?_ | refine ob rfl ?_ | refine ob (by decide) ?_ | refine grow_same (Mem.le_refl _) ?_ | refine ob (Mem.le_refl _) ?_ | refine ⟨_, Mem.le_refl _, ?_⟩ | fail)
  refine (Down_ok (h3.at'.le hle3)).mono ?_
  rintro v _ ⟨rfl, rfl⟩
  rw [hC.down]
  repeat' ((conv => whnf); first | refine ⟨?_, True.intro⟩ | refine brn_t rfl ?_ | refine brn_f rfl ?_ | refine ob rfl ?_ | refine ob (by decide) ?_ | refine grow_same (Mem.le_refl _) ?_ | refine ob (Mem.le_refl _) ?_ | refine ⟨_, Mem.le_refl _, ?_⟩ | fail)
  refine awake_ok.mono ?_
  rintro v M9 ⟨rfl, hle9⟩
  repeat' ((conv => whnf); first | refine ⟨?_, True.intro⟩ | refine brn_t rfl ?_ | refine brn_f rfl ?_ | refine ob rfl ?_ | refine ob (by decide) ?_ | refine grow_same (Mem.le_refl _) ?_ | refine ob (Mem.le_refl _) ?_ | refine ⟨_, Mem.le_refl _, ?_⟩ | fail)
  exact ⟨rfl, Mem.le_trans h1.le (Mem.le_trans h3.le (Mem.le_trans hle3 hle9))⟩
end Go.Proofs.Ytdjgmhifocdelaa
