/- DiskPlays, as a contract. -/
import Derived.Test.YtdjgmhifocdelaaRefDiskD
import Derived.Test.YtdjgmhifocdelaaDiskRoom
namespace Go.Proofs.Ytdjgmhifocdelaa
open Go Go.Vm
attribute [local irreducible] Brn Ob Grow CallsM inR LoopVC Mem.row Mem.cells Mem.setCells Mem.upd Own AppVC SrcVC StrVC NextVC New SrcOk subA NewSl Mem.textAt Mem.mapAt Mem.iterAt entryOf kfind Wr NewEls Elems
set_option maxRecDepth 10000
variable {B M : Mem} {p b : Nat} {D : DiskR} {es : FsT}
theorem as_ok {a : Option Addr} {c : Nat} (h : Both B M p b es D a) (hnk : NamesOk D) : CallsM Try.prog F.law10_as [ptr p, refV D a c] M fun v M' => v = .bool true ∧ M.le M' := by
  refine fo_law10_as (by simp) ?_
  have hI := h.own.inv
  have hln := hI.len
  have hus := hI.used
  have hue := h.own.rel.used
  have hsM := h.ref.le h.own.le
  repeat' ((conv => whnf); first | refine ⟨?_, True.intro⟩ | refine brn_t rfl ?_ | refine brn_f rfl ?_ | refine ob rfl ?_ | refine ob (by decide) ?_ | refine grow_same (Mem.le_refl _) ?_ | refine ob (Mem.le_refl _) ?_ | refine ⟨_, Mem.le_refl _, ?_⟩ | fail)
  refine (Names_ok h.own.at' h.own.rel hI).mono ?_
  rintro v M1 ⟨na, nc, rfl, hN⟩
  have h1 := h.own.to hN.le
  have hs1 := hsM.le hN.le
  repeat' ((conv => whnf); first | refine ⟨?_, True.intro⟩ | refine brn_t rfl ?_ | refine brn_f rfl ?_ | refine ob rfl ?_ | refine ob (by decide) ?_ | refine grow_same (Mem.le_refl _) ?_ | refine ob (Mem.le_refl _) ?_ | refine ⟨_, Mem.le_refl _, ?_⟩ | fail)
  refine brn_f (by simp) ?_
  repeat' ((conv => whnf); first | refine ⟨?_, True.intro⟩ | refine brn_t rfl ?_ | refine brn_f rfl ?_ | refine ob rfl ?_ | refine ob (by decide) ?_ | refine grow_same (Mem.le_refl _) ?_ | refine ob (Mem.le_refl _) ?_ | refine ⟨_, Mem.le_refl _, ?_⟩ | fail)
  refine (Used_ok h1.at' (by omega)).mono ?_
  rintro v M2 ⟨rfl, hle2⟩
  have h2 := h1.to hle2
  rw [hue]
  repeat' ((conv => whnf); first | refine ob rfl ?_ | refine grow_same hle2 ?_ | refine ob hle2 ?_ | refine ⟨?_, True.intro⟩ | fail)
  repeat' ((conv => whnf); first | refine ⟨?_, True.intro⟩ | refine brn_t rfl ?_ | refine brn_f rfl ?_ | refine ob rfl ?_ | refine ob (by decide) ?_ | refine grow_same (Mem.le_refl _) ?_ | refine ob (Mem.le_refl _) ?_ | refine ⟨_, Mem.le_refl _, ?_⟩ | fail)
  refine (usedR_ok (c := c) (hs1.le hle2) hI).mono ?_
  rintro v _ ⟨rfl, rfl⟩
  repeat' ((conv => whnf); first | refine ob rfl ?_ | refine grow_same hle2 ?_ | refine ob hle2 ?_ | refine ⟨?_, True.intro⟩ | fail)
  refine brn_f (by simp) ?_
  repeat' ((conv => whnf); first | refine ⟨?_, True.intro⟩ | refine brn_t rfl ?_ | refine brn_f rfl ?_ | refine ob rfl ?_ | refine ob (by decide) ?_ | refine grow_same (Mem.le_refl _) ?_ | refine ob (Mem.le_refl _) ?_ | refine ⟨_, Mem.le_refl _, ?_⟩ | fail)
  refine (Down_ok h2.at').mono ?_
  rintro v _ ⟨rfl, rfl⟩
  repeat' ((conv => whnf); first | refine ob rfl ?_ | refine grow_same hle2 ?_ | refine ob hle2 ?_ | refine ⟨?_, True.intro⟩ | fail)
  refine brn_f (by simp) ?_
  have hsN := hN.src.le hle2
  have hs2 := hs1.le hle2
  (conv => whnf)
  refine loopF (σ := Nat × Mem) [6] (fun y => [(6, .int .i64 y.1)]) (fun _ => [.live T.portageref10_Disk [.v (.int .i64 D.limit), .v (.slice a D.l.length c), .v (.int .i64 D.left), .v (.bool D.down)]]) (fun y => y.2) (fun | ⟨i, Mc⟩ => i ≤ D.l.length ∧ M2.le Mc) (fun y => D.l.length - y.1) ⟨0, M2⟩ ⟨by omega, Mem.le_refl _⟩ ⟨(by repeat' first | exact True.intro | refine ⟨rfl, ?_⟩), (by repeat' first | exact True.intro | refine ⟨rfl, ?_⟩), Mem.le_refl _, rfl⟩ ?_
  rintro ⟨i, Mc⟩ ⟨hi, hle⟩
  (conv => whnf); refine brn (fun g => ?_) (fun g => ?_)
  · have hlt : i < D.l.length := by have := of_decide_eq_true g; dsimp only at this; omega
    have hx : D.l[i]? = some D.l[i] := List.getElem?_eq_getElem hlt
    have hfm : D.l[i] ∈ D.l := List.getElem_mem hlt
    obtain ⟨hk1, b1, o1, e1, hr1⟩ := (hsN.le hle).at (i := i) hlt
    have hnm : (D.l.map (·.name))[i] = D.l[i].name := by simp
    rw [hnm] at hr1
    generalize D.l[i] = f at *
    obtain ⟨b2, o2, e2, hc⟩ := (hs2.le hle).fcells encF_len (by decide) hx
    have hff : findR D.l f.name = some f := (findR_some hI.sort).2 ⟨hfm, rfl⟩
    have hok := hnk f hfm
    have hsz : f.name.size ≤ 12 := by
      unfold okName at hok
      rw [Bool.and_eq_true] at hok
      exact (of_decide_eq_true hok.1).2
    have hfl : f.safe.size + f.tail.size ≤ 1048576 := by
      have := file_le hI f.name
      have e : fileR D f.name = f := by unfold fileR; rw [hff]; rfl
      rw [e] at this; exact this
    have h2c := h2.to hle
    repeat' ((conv => whnf); first | refine ⟨?_, True.intro⟩ | refine brn_t rfl ?_ | refine brn_f rfl ?_ | refine ob rfl ?_ | refine ob (by decide) ?_ | refine grow_same (Mem.le_refl _) ?_ | refine ob (Mem.le_refl _) ?_ | refine ⟨_, Mem.le_refl _, ?_⟩ | fail)
    refine ob (by first | omega | (dsimp only; omega)) ?_
    (conv => whnf); refine atp e1 ?_
    (conv => whnf); refine on hr1 ?_
    (conv => whnf); refine ob (by first | omega | (dsimp only; omega)) ?_
    (conv => whnf); refine atp e2 ?_
    (conv => whnf); refine on (hc 0 _ rfl) ?_
    (conv => whnf); refine brn_f (by simp) ?_
    repeat' ((conv => whnf); first | refine ⟨?_, True.intro⟩ | refine brn_t rfl ?_ | refine brn_f rfl ?_ | refine ob rfl ?_ | refine ob (by decide) ?_ | refine grow_same (Mem.le_refl _) ?_ | refine ob (Mem.le_refl _) ?_ | refine ⟨_, Mem.le_refl _, ?_⟩ | fail)
    refine ob (by first | omega | (dsimp only; omega)) ?_
    (conv => whnf); refine atp e1 ?_
    (conv => whnf); refine on hr1 ?_
    (conv => whnf); refine ob (by first | omega | (dsimp only; omega)) ?_
    (conv => whnf); refine atp e2 ?_
    (conv => whnf); refine on (hc 1 _ rfl) ?_
    repeat' ((conv => whnf); first | refine ⟨?_, True.intro⟩ | refine brn_t rfl ?_ | refine brn_f rfl ?_ | refine ob rfl ?_ | refine ob (by decide) ?_ | refine grow_same (Mem.le_refl _) ?_ | refine ob (Mem.le_refl _) ?_ | refine ⟨_, Mem.le_refl _, ?_⟩ | fail)
    refine (safeF h2c f.name).mono ?_
    have hsf : safeR D f.name = f.safe.size := by unfold safeR; rw [hff]
    rw [hsf]
    rintro v _ ⟨rfl, rfl⟩
    repeat' ((conv => whnf); first | refine ⟨?_, True.intro⟩ | refine brn_t rfl ?_ | refine brn_f rfl ?_ | refine ob rfl ?_ | refine ob (by decide) ?_ | refine grow_same (Mem.le_refl _) ?_ | refine ob (Mem.le_refl _) ?_ | refine ⟨_, Mem.le_refl _, ?_⟩ | fail)
    refine brn_f (by simp) ?_
    repeat' ((conv => whnf); first | refine ⟨?_, True.intro⟩ | refine brn_t rfl ?_ | refine brn_f rfl ?_ | refine ob rfl ?_ | refine ob (by decide) ?_ | refine grow_same (Mem.le_refl _) ?_ | refine ob (Mem.le_refl _) ?_ | refine ⟨_, Mem.le_refl _, ?_⟩ | fail)
    refine ob (by first | omega | (dsimp only; omega)) ?_
    (conv => whnf); refine atp e1 ?_
    (conv => whnf); refine on hr1 ?_
    (conv => whnf); refine (readF h2c (by omega)).mono ?_
    have hrd : readR D f.name = if D.down = true then (ByteArray.empty, 9) else (f.all, 0) := by
      unfold readR thereE readyE fileR
      rw [hok, hff]
      by_cases hd : D.down = true <;> simp [hd]
    rw [hrd]
    by_cases hd : D.down = true
    · rw [if_pos hd, hd]
      rintro v M3 ⟨a3, n3, c3, rfl, hn3, hN3⟩
      dsimp only at hn3 hN3 ⊢
      repeat' ((conv => whnf); first | refine ⟨?_, True.intro⟩ | refine brn_t rfl ?_ | refine brn_f rfl ?_ | refine ob rfl ?_ | refine ob (by decide) ?_ | refine grow_same (Mem.le_refl _) ?_ | refine ob (Mem.le_refl _) ?_ | refine ⟨_, Mem.le_refl _, ?_⟩ | fail)
      refine ob (inR_i64 (by first | omega | (dsimp only; omega))) ?_
      (conv => whnf)
      exact ⟨⟨i + 1, M3⟩, ⟨by omega, Mem.le_trans hle hN3.le⟩, by dsimp only; omega, ⟨(by repeat' first | exact True.intro | refine ⟨rfl, ?_⟩), (by repeat' first | exact True.intro | refine ⟨rfl, ?_⟩), Mem.le_refl _, rfl⟩⟩
    · have hd' : D.down = false := by simpa using hd
      rw [if_neg hd, hd']
      rintro v M3 ⟨a3, n3, c3, rfl, hn3, hN3⟩
      dsimp only at hn3 hN3 ⊢
      repeat' ((conv => whnf); first | refine ⟨?_, True.intro⟩ | refine brn_t rfl ?_ | refine brn_f rfl ?_ | refine ob rfl ?_ | refine ob (by decide) ?_ | refine grow_same (Mem.le_refl _) ?_ | refine ob (Mem.le_refl _) ?_ | refine ⟨_, Mem.le_refl _, ?_⟩ | fail)
      refine strv hN3.src ?_
      (conv => whnf); refine ob (by first | omega | (dsimp only; omega)) ?_
      (conv => whnf); refine atp e2 ?_
      (conv => whnf); refine on (Mem.row_le hN3.le (hc 1 _ rfl)) ?_
      (conv => whnf); refine ob (by first | omega | (dsimp only; omega)) ?_
      (conv => whnf); refine atp e2 ?_
      (conv => whnf); refine on (Mem.row_le hN3.le (hc 2 _ rfl)) ?_
      (conv => whnf); refine ob (by first | omega | (dsimp only; omega)) ?_
      (conv => whnf); refine brn_f ?_ ?_
      · rw [mk_bl]
        simp [FileR.all]
      repeat' ((conv => whnf); first | refine ⟨?_, True.intro⟩ | refine brn_t rfl ?_ | refine brn_f rfl ?_ | refine ob rfl ?_ | refine ob (by decide) ?_ | refine grow_same (Mem.le_refl _) ?_ | refine ob (Mem.le_refl _) ?_ | refine ⟨_, Mem.le_refl _, ?_⟩ | fail)
      refine ob (inR_i64 (by first | omega | (dsimp only; omega))) ?_
      (conv => whnf)
      exact ⟨⟨i + 1, M3⟩, ⟨by omega, Mem.le_trans hle hN3.le⟩, by dsimp only; omega, ⟨(by repeat' first | exact True.intro | refine ⟨rfl, ?_⟩), (by repeat' first | exact True.intro | refine ⟨rfl, ?_⟩), Mem.le_refl _, rfl⟩⟩
  repeat' ((conv => whnf); first | refine ⟨?_, True.intro⟩ | refine brn_t rfl ?_ | refine brn_f rfl ?_ | refine ob rfl ?_ | refine ob (by decide) ?_ | refine grow_same (Mem.le_refl _) ?_ | refine ob (Mem.le_refl _) ?_ | refine ⟨_, Mem.le_refl _, ?_⟩ | fail)
  exact ⟨rfl, Mem.le_trans hN.le (Mem.le_trans hle2 hle)⟩
end Go.Proofs.Ytdjgmhifocdelaa
