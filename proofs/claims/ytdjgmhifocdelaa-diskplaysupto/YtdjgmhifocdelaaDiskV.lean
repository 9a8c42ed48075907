/- The disk: two disks that have the same files. -/
import Derived.Test.YtdjgmhifocdelaaDiskU
namespace Go.Proofs.Ytdjgmhifocdelaa
open Go Go.Vm
attribute [local irreducible] Brn Ob Grow CallsM inR LoopVC Mem.row Mem.cells Mem.setCells Mem.upd Own AppVC SrcVC StrVC NextVC New SrcOk subA NewSl Mem.textAt Mem.mapAt Mem.iterAt entryOf kfind Wr NewEls Elems
set_option maxRecDepth 10000
variable {M : Mem} {p q b d : Nat} {D E : DiskR} {es fs : FsT}
/-- with power, and with names that are right -/
structure LitD (D : DiskR) : Prop where
  inv : InvD D
  down : D.down = false
  names : ∀ f ∈ D.l, okName f.name = true
theorem LitD.there (h : LitD D) {f : FileR} (hf : f ∈ D.l) : thereE D f.name = 0 ∧ fileR D f.name = f ∧ findR D.l f.name = some f := by
  have h1 := (findR_some h.inv.sort).2 ⟨hf, rfl⟩
  refine ⟨?_, by unfold fileR; rw [h1]; rfl, h1⟩
  unfold thereE readyE
  rw [h.down, h.names f hf, h1]
  simp
theorem LitD.read (h : LitD D) {f : FileR} (hf : f ∈ D.l) : readR D f.name = (f.all, 0) := by
  obtain ⟨h1, h2, -⟩ := h.there hf
  unfold readR; rw [if_neg (by simp [h1]), h2]
theorem LitD.safe (h : LitD D) {f : FileR} (hf : f ∈ D.l) : safeR D f.name = f.safe.size := by
  unfold safeR; rw [(h.there hf).2.2]
theorem LitD.size (h : LitD D) {f : FileR} (hf : f ∈ D.l) : f.name.size ≤ 12 := by
  have := h.names f hf
  unfold okName at this
  rw [Bool.and_eq_true] at this
  exact (of_decide_eq_true this.1).2
theorem InvN.lit {limit : Int} (h : InvN limit D) : LitD D := ⟨h.inv, h.down, h.names⟩
theorem same_ok (h : DAt M p b D es) (hr : RelD es D.l) (hD : LitD D) (h' : DAt M q d E fs) (hr' : RelD fs E.l) (hE : LitD E) (hl : D.l = E.l) :
    CallsM Try.prog F.law10_same [ptr p, ptr q] M fun v M' => v = .bool true ∧ M.le M' := by
  refine fo_law10_same (by simp) ?_
  have hu1 := hr.used
  have hu2 := hr'.used
  have hi := hD.inv.used
  have hlen := hD.inv.len
  repeat' ((conv => whnf); first | refine ⟨?_, True.intro⟩ | refine brn_t rfl ?_ | refine brn_f rfl ?_ | refine ob rfl ?_ | refine ob (by decide) ?_ | refine grow_same (Mem.le_refl _) ?_ | refine ob (Mem.le_refl _) ?_ | refine ⟨_, Mem.le_refl _, ?_⟩ | fail)
  refine (Names_ok h hr hD.inv).mono ?_
  rintro v M1 ⟨a1, c1, rfl, hN1⟩
  repeat' ((conv => whnf); first | refine ⟨?_, True.intro⟩ | refine brn_t rfl ?_ | refine brn_f rfl ?_ | refine ob rfl ?_ | refine ob (by decide) ?_ | refine grow_same (Mem.le_refl _) ?_ | refine ob (Mem.le_refl _) ?_ | refine ⟨_, Mem.le_refl _, ?_⟩ | fail)
  refine (Names_ok (h'.le hN1.le) hr' hE.inv).mono ?_
  rintro v M2 ⟨a2, c2, rfl, hN2⟩
  rw [← hl] at hN2 hr' hu2 ⊢
  have hle2 := Mem.le_trans hN1.le hN2.le
  (conv => whnf); refine brn_f (by simp) ?_
  repeat' ((conv => whnf); first | refine ⟨?_, True.intro⟩ | refine brn_t rfl ?_ | refine brn_f rfl ?_ | refine ob rfl ?_ | refine ob (by decide) ?_ | refine grow_same (Mem.le_refl _) ?_ | refine ob (Mem.le_refl _) ?_ | refine ⟨_, Mem.le_refl _, ?_⟩ | fail)
  refine (Used_ok (h.le hle2) (by omega)).mono ?_
  rintro v M3 ⟨rfl, hle3⟩
  repeat' ((conv => whnf); first | refine ⟨?_, True.intro⟩ | refine brn_t rfl ?_ | refine brn_f rfl ?_ | refine ob rfl ?_ | refine ob (by decide) ?_ | refine grow_same (Mem.le_refl _) ?_ | refine ob (Mem.le_refl _) ?_ | refine ⟨_, Mem.le_refl _, ?_⟩ | fail)
  refine (Used_ok (h'.le (Mem.le_trans hle2 hle3)) (by omega)).mono ?_
  rintro v M4 ⟨rfl, hle4⟩
  rw [hu1, hu2]
  have hle24 := Mem.le_trans hle3 hle4
  have hs1 := (hN1.up hN2.le).src.le hle24
  have hs2 := hN2.src.le hle24
  have hleM := Mem.le_trans hle2 hle24
  (conv => whnf); refine brn_f (by simp) ?_
  (conv => whnf)
  refine loopF (σ := Nat × Mem) [7] (fun y => [(7, .int .i64 y.1)]) (fun _ => []) (fun y => y.2) (fun | ⟨i, Mc⟩ => i ≤ D.l.length ∧ M4.le Mc) (fun y => D.l.length - y.1) ⟨0, M4⟩ ⟨by omega, Mem.le_refl _⟩ ⟨(by repeat' first | exact True.intro | refine ⟨rfl, ?_⟩), (by repeat' first | exact True.intro | refine ⟨rfl, ?_⟩), Mem.le_refl _, rfl⟩ ?_
  rintro ⟨i, Mc⟩ ⟨hi1, hle⟩
  (conv => whnf); refine brn (fun g => ?_) (fun g => ?_)
  · have hlt : i < D.l.length := by have := of_decide_eq_true g; dsimp only at this; omega
    have hleMc := Mem.le_trans hleM hle
    obtain ⟨hk1, b1, o1, e1, hr1⟩ := (hs1.le hle).at (i := i) hlt
    obtain ⟨hk2, b2, o2, e2, hr2⟩ := (hs2.le hle).at (i := i) hlt
    have hfm : D.l[i] ∈ D.l := List.getElem_mem hlt
    have hnm : (D.l.map (·.name))[i] = D.l[i].name := by simp
    rw [hnm] at hr1 hr2
    generalize D.l[i] = f at *
    have hsz := hD.size hfm
    have hfm' : f ∈ E.l := hl ▸ hfm
    (conv => whnf); refine ob (by first | omega | (dsimp only; omega)) ?_
    (conv => whnf); refine atp e1 ?_
    (conv => whnf); refine on hr1 ?_
    (conv => whnf); refine (Read_ok (h.le hleMc) hr hD.inv f.name (by omega)).mono ?_
    rw [hD.read hfm]
    rintro v M5 ⟨a5, n5, c5, rfl, hn5, hN5⟩
    repeat' ((conv => whnf); first | refine ⟨?_, True.intro⟩ | refine brn_t rfl ?_ | refine brn_f rfl ?_ | refine ob rfl ?_ | refine ob (by decide) ?_ | refine grow_same (Mem.le_refl _) ?_ | refine ob (Mem.le_refl _) ?_ | refine ⟨_, Mem.le_refl _, ?_⟩ | fail)
    refine ob (by first | omega | (dsimp only; omega)) ?_
    (conv => whnf); refine atp e2 ?_
    (conv => whnf); refine on (Mem.row_le hN5.le hr2) ?_
    (conv => whnf); refine (Read_ok (h'.le (Mem.le_trans hleMc hN5.le)) (hl ▸ hr') hE.inv f.name (by omega)).mono ?_
    rw [hE.read hfm']
    rintro v M6 ⟨a6, n6, c6, rfl, hn6, hN6⟩
    have hle56 := Mem.le_trans hN5.le hN6.le
    repeat' ((conv => whnf); first | refine ⟨?_, True.intro⟩ | refine brn_t rfl ?_ | refine brn_f rfl ?_ | refine ob rfl ?_ | refine ob (by decide) ?_ | refine grow_same (Mem.le_refl _) ?_ | refine ob (Mem.le_refl _) ?_ | refine ⟨_, Mem.le_refl _, ?_⟩ | fail)
    refine ob (by first | omega | (dsimp only; omega)) ?_
    (conv => whnf); refine atp e1 ?_
    (conv => whnf); refine on (Mem.row_le hle56 hr1) ?_
    (conv => whnf); refine ob (by first | omega | (dsimp only; omega)) ?_
    (conv => whnf); refine atp e2 ?_
    (conv => whnf); refine on (Mem.row_le hle56 hr2) ?_
    (conv => whnf); refine brn_f (by simp) ?_
    repeat' ((conv => whnf); first | refine ⟨?_, True.intro⟩ | refine brn_t rfl ?_ | refine brn_f rfl ?_ | refine ob rfl ?_ | refine ob (by decide) ?_ | refine grow_same (Mem.le_refl _) ?_ | refine ob (Mem.le_refl _) ?_ | refine ⟨_, Mem.le_refl _, ?_⟩ | fail)
    refine strv (hN5.up hN6.le).src ?_
    (conv => whnf); refine strv hN6.src ?_
    (conv => whnf); refine brn_f (by simp) ?_
    repeat' ((conv => whnf); first | refine ⟨?_, True.intro⟩ | refine brn_t rfl ?_ | refine brn_f rfl ?_ | refine ob rfl ?_ | refine ob (by decide) ?_ | refine grow_same (Mem.le_refl _) ?_ | refine ob (Mem.le_refl _) ?_ | refine ⟨_, Mem.le_refl _, ?_⟩ | fail)
    refine ob (by first | omega | (dsimp only; omega)) ?_
    (conv => whnf); refine atp e1 ?_
    (conv => whnf); refine on (Mem.row_le hle56 hr1) ?_
    (conv => whnf); refine ob (by first | omega | (dsimp only; omega)) ?_
    (conv => whnf); refine atp e2 ?_
    (conv => whnf); refine on (Mem.row_le hle56 hr2) ?_
    repeat' ((conv => whnf); first | refine ⟨?_, True.intro⟩ | refine brn_t rfl ?_ | refine brn_f rfl ?_ | refine ob rfl ?_ | refine ob (by decide) ?_ | refine grow_same (Mem.le_refl _) ?_ | refine ob (Mem.le_refl _) ?_ | refine ⟨_, Mem.le_refl _, ?_⟩ | fail)
    refine (Safe_ok (h.le (Mem.le_trans hleMc hle56)) hr f.name).mono ?_
    rintro v _ ⟨rfl, rfl⟩
    repeat' ((conv => whnf); first | refine ⟨?_, True.intro⟩ | refine brn_t rfl ?_ | refine brn_f rfl ?_ | refine ob rfl ?_ | refine ob (by decide) ?_ | refine grow_same (Mem.le_refl _) ?_ | refine ob (Mem.le_refl _) ?_ | refine ⟨_, Mem.le_refl _, ?_⟩ | fail)
    refine (Safe_ok (h'.le (Mem.le_trans hleMc hle56)) (hl ▸ hr') f.name).mono ?_
    rintro v _ ⟨rfl, rfl⟩
    rw [← hl]
    (conv => whnf); refine brn_f (by simp) ?_
    repeat' ((conv => whnf); first | refine ⟨?_, True.intro⟩ | refine brn_t rfl ?_ | refine brn_f rfl ?_ | refine ob rfl ?_ | refine ob (by decide) ?_ | refine grow_same (Mem.le_refl _) ?_ | refine ob (Mem.le_refl _) ?_ | refine ⟨_, Mem.le_refl _, ?_⟩ | fail)
    refine ob (inR_i64 (by first | omega | (dsimp only; omega))) ?_
    (conv => whnf)
    exact ⟨⟨i + 1, M6⟩, ⟨by omega, Mem.le_trans hle hle56⟩, by dsimp only; omega, ⟨(by repeat' first | exact True.intro | refine ⟨rfl, ?_⟩), (by repeat' first | exact True.intro | refine ⟨rfl, ?_⟩), Mem.le_refl _, rfl⟩⟩
  repeat' ((conv => whnf); first | refine ⟨?_, True.intro⟩ | refine brn_t rfl ?_ | refine brn_f rfl ?_ | refine ob rfl ?_ | refine ob (by decide) ?_ | refine grow_same (Mem.le_refl _) ?_ | refine ob (Mem.le_refl _) ?_ | refine ⟨_, Mem.le_refl _, ?_⟩ | fail)
  exact ⟨rfl, Mem.le_trans hleM hle⟩
end Go.Proofs.Ytdjgmhifocdelaa
