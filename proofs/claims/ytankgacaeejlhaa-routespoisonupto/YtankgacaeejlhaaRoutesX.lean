/- Tables of ways: nothing is said to a neighbour of what would come back. -/
import Derived.Test.YtankgacaeejlhaaRoutesW
namespace Go.Proofs.Ytankgacaeejlhaa
open Go Go.Vm
attribute [local irreducible] Brn Ob CallsM inR LoopVC Mem.row Mem.cells Mem.setCells Mem.upd Own AppVC SrcVC StrVC NextVC New SrcOk subA NewSl Mem.textAt Mem.mapAt Mem.iterAt entryOf kfind Wr NewEls Elems
set_option maxRecDepth 10000
variable {M : Mem}
theorem vecL_at {me : Int} {nb : List Int} {st : List (Int × Int)} {m : List (Int × Hd)} {to : Int} (h : to ∈ nb) {d : Nat} (hd : d < 64) : (vecL me nb st m to)[d]? = some (vecOf me nb st m to d) := by
  rw [vecL, if_pos h, List.getElem?_map, List.getElem?_range hd]; rfl
theorem poison_ok (me age to : Int) {a : Option Addr} {n c : Nat} {nb : List Int} (hs : SrcOk M 1 a n (nb.map intV)) (hn : n ≤ 1048576) {a2 : Option Addr} {n2 c2 : Nat} {l : List Act} (hl : Elems M 4 a2 n2 (ActR M) l) (hn2 : n2 ≤ 1048576) :
    CallsM Try.prog F.law18_RoutesPoison [setV me age a n c, .slice a2 n2 c2, .int .i64 to] M fun v M' => v = .bool true ∧ M.le M' := by
  refine fo_law18_RoutesPoison (by simp) ?_
  repeat' ((conv => whnf); first | refine ⟨?_, True.intro⟩ | refine brn_t rfl ?_ | refine brn_f rfl ?_ | refine ob rfl ?_ | refine ob (by decide) ?_ | refine ob (Mem.le_refl _) ?_ | refine ⟨_, Mem.le_refl _, ?_⟩ | fail)
  refine (done_ok me age hs hn hl hn2).mono ?_
  rintro v M1 (⟨rfl, hle⟩ | ⟨p, b1, b2, a', c', q, k, st, m, sr, lr, rfl, hle, hk, hme, hJ⟩)
  · repeat' ((conv => whnf); first | refine ⟨?_, True.intro⟩ | refine brn_t rfl ?_ | refine brn_f rfl ?_ | refine ob rfl ?_ | refine ob (by decide) ?_ | refine ob (Mem.le_refl _) ?_ | refine ⟨_, Mem.le_refl _, ?_⟩ | fail)
    refine awake_ok.mono ?_
    rintro v M2 ⟨rfl, hle2⟩
    repeat' ((conv => whnf); first | refine ⟨?_, True.intro⟩ | refine brn_t rfl ?_ | refine brn_f rfl ?_ | refine ob rfl ?_ | refine ob (by decide) ?_ | refine ob (Mem.le_refl _) ?_ | refine ⟨_, Mem.le_refl _, ?_⟩ | fail)
    exact ⟨rfl, Mem.le_trans hle hle2⟩
  repeat' ((conv => whnf); first | refine ⟨?_, True.intro⟩ | refine brn_t rfl ?_ | refine brn_f rfl ?_ | refine ob rfl ?_ | refine ob (by decide) ?_ | refine ob (Mem.le_refl _) ?_ | refine ⟨_, Mem.le_refl _, ?_⟩ | fail)
  refine (hJ.vec to).mono ?_
  rintro v M2 ⟨av, nv, cv, rfl, hnv, hN⟩
  repeat' ((conv => whnf); first | refine ⟨?_, True.intro⟩ | refine brn_t rfl ?_ | refine brn_f rfl ?_ | refine ob rfl ?_ | refine ob (by decide) ?_ | refine ob (Mem.le_refl _) ?_ | refine ⟨_, Mem.le_refl _, ?_⟩ | fail)
  refine (hasR_ok (hJ.le hN.le).ref.nb hJ.ref.s1 to).mono ?_
  rintro v _ ⟨rfl, rfl⟩
  (conv => whnf); refine brn (fun g => ?_) (fun g => ?_)
  · have hno : to ∉ nb := by simpa using g
    have h0 : nv = 0 := by rw [hnv]; simp [vecL, hno]
    subst h0
    repeat' ((conv => whnf); first | refine ⟨?_, True.intro⟩ | refine brn_t rfl ?_ | refine brn_f rfl ?_ | refine ob rfl ?_ | refine ob (by decide) ?_ | refine ob (Mem.le_refl _) ?_ | refine ⟨_, Mem.le_refl _, ?_⟩ | fail)
    refine awake_ok.mono ?_
    rintro v M3 ⟨rfl, hle3⟩
    repeat' ((conv => whnf); first | refine ⟨?_, True.intro⟩ | refine brn_t rfl ?_ | refine brn_f rfl ?_ | refine ob rfl ?_ | refine ob (by decide) ?_ | refine ob (Mem.le_refl _) ?_ | refine ⟨_, Mem.le_refl _, ?_⟩ | fail)
    exact ⟨rfl, Mem.le_trans hle (Mem.le_trans hN.le hle3)⟩
  have hin : to ∈ nb := by simpa using g
  have h64 : nv = 64 := by rw [hnv]; simp [vecL, hin]
  subst h64
  (conv => whnf)
  refine loopF (σ := Nat × Mem) [11] (fun y => [(11, .int .i64 y.1)]) (fun _ => [.live T.portagelaw18_Set [.v (.int .i64 me), .v (.slice a n c), .v (.int .i64 age)], .live T.portageref18_Table [.v (.int .i64 me), .v (.int .i64 age), .v (.slice q.a q.n q.c), .v (.slice q.a2 q.n2 q.c2), .v (.slice q.a3 q.n3 q.c3)]]) (fun y => y.2)
    (fun | ⟨i, Mc⟩ => i ≤ 64 ∧ M2.le Mc) (fun y => 64 - y.1) ⟨0, M2⟩ ⟨by omega, Mem.le_refl _⟩ ⟨(by repeat' first | exact True.intro | refine ⟨rfl, ?_⟩), (by repeat' first | exact True.intro | refine ⟨rfl, ?_⟩), Mem.le_refl _, rfl⟩ ?_
  rintro ⟨i, Mc⟩ ⟨hi, hleC⟩
  have hsv := hN.src.le hleC
  have hJc := hJ.le (Mem.le_trans hN.le hleC)
  (conv => whnf); refine brn (fun g => ?_) (fun g => ?_)
  · have hi' : i < 64 := by have := of_decide_eq_true g; dsimp only at this; omega
    obtain ⟨b, o, rfl, hrow⟩ := hsv.get (j := i) (v := intV (vecOf me nb st m to i)) (by rw [List.getElem?_map, vecL_at hin hi']; rfl)
    repeat' ((conv => whnf); first | refine ⟨?_, True.intro⟩ | refine brn_t rfl ?_ | refine brn_f rfl ?_ | refine ob rfl ?_ | refine ob (by decide) ?_ | refine ob (Mem.le_refl _) ?_ | refine ⟨_, Mem.le_refl _, ?_⟩ | fail)
    refine (Next_ok hJc.tab hJc.same.good hJc.n i).mono ?_
    rintro v M4 ⟨rfl, hle4⟩
    have hrow4 := Mem.row_le hle4 hrow
    have hJ4 := hJc.le hle4
    cases hnx : nextOf me nb st m i with
    | none =>
      have hv : vecOf me nb st m to i = costOf me st m i := by simp [vecOf, hnx]
      rw [hv] at hrow4
      repeat' ((conv => whnf); first | refine ⟨?_, True.intro⟩ | refine brn_t rfl ?_ | refine brn_f rfl ?_ | refine ob rfl ?_ | refine ob (by decide) ?_ | refine ob (Mem.le_refl _) ?_ | refine ⟨_, Mem.le_refl _, ?_⟩ | fail)
      refine ob (by first | omega | (dsimp only; omega)) ?_
      (conv => whnf); refine on hrow4 ?_
      repeat' ((conv => whnf); first | refine ⟨?_, True.intro⟩ | refine brn_t rfl ?_ | refine brn_f rfl ?_ | refine ob rfl ?_ | refine ob (by decide) ?_ | refine ob (Mem.le_refl _) ?_ | refine ⟨_, Mem.le_refl _, ?_⟩ | fail)
      refine (Cost_ok hJ4.tab hJ4.same.good i).mono ?_
      rintro v M5 ⟨rfl, hle5⟩
      repeat' ((conv => whnf); first | refine ob rfl ?_ | refine ob hle5 ?_ | refine ⟨?_, True.intro⟩ | fail)
      refine brn_f (by simp) ?_
      (conv => whnf); refine ob (inR_i64 (by first | omega | (dsimp only; omega))) ?_
      (conv => whnf)
      exact ⟨⟨i + 1, M5⟩, ⟨by omega, Mem.le_trans hleC (Mem.le_trans hle4 hle5)⟩, by dsimp only; omega, ⟨(by repeat' first | exact True.intro | refine ⟨rfl, ?_⟩), (by repeat' first | exact True.intro | refine ⟨rfl, ?_⟩), Mem.le_refl _, rfl⟩⟩
    | some kk =>
      repeat' ((conv => whnf); first | refine ⟨?_, True.intro⟩ | refine brn_t rfl ?_ | refine brn_f rfl ?_ | refine ob rfl ?_ | refine ob (by decide) ?_ | refine ob (Mem.le_refl _) ?_ | refine ⟨_, Mem.le_refl _, ?_⟩ | fail)
      refine brn (fun g1 => ?_) (fun g1 => ?_)
      · have e : kk = to := of_decide_eq_true g1
        subst e
        have hv : vecOf me nb st m kk i = 16 := by simp [vecOf, hnx]
        rw [hv] at hrow4
        (conv => whnf); refine ob (by first | omega | (dsimp only; omega)) ?_
        (conv => whnf); refine on hrow4 ?_
        repeat' ((conv => whnf); first | refine ⟨?_, True.intro⟩ | refine brn_t rfl ?_ | refine brn_f rfl ?_ | refine ob rfl ?_ | refine ob (by decide) ?_ | refine ob (Mem.le_refl _) ?_ | refine ⟨_, Mem.le_refl _, ?_⟩ | fail)
        refine brn_f (by simp) ?_
        repeat' ((conv => whnf); first | refine ob rfl ?_ | refine ob (Mem.le_refl _) ?_ | refine ⟨?_, True.intro⟩ | fail)
        (conv => whnf); refine ob (inR_i64 (by first | omega | (dsimp only; omega))) ?_
        (conv => whnf)
        exact ⟨⟨i + 1, M4⟩, ⟨by omega, Mem.le_trans hleC hle4⟩, by dsimp only; omega, ⟨(by repeat' first | exact True.intro | refine ⟨rfl, ?_⟩), (by repeat' first | exact True.intro | refine ⟨rfl, ?_⟩), Mem.le_refl _, rfl⟩⟩
      · have e : kk ≠ to := of_decide_eq_false g1
        have hv : vecOf me nb st m to i = costOf me st m i := by simp [vecOf, hnx, e]
        rw [hv] at hrow4
        repeat' ((conv => whnf); first | refine ⟨?_, True.intro⟩ | refine brn_t rfl ?_ | refine brn_f rfl ?_ | refine ob rfl ?_ | refine ob (by decide) ?_ | refine ob (Mem.le_refl _) ?_ | refine ⟨_, Mem.le_refl _, ?_⟩ | fail)
        refine brn_t (by simpa using e) ?_
        (conv => whnf); refine ob (by first | omega | (dsimp only; omega)) ?_
        (conv => whnf); refine on hrow4 ?_
        repeat' ((conv => whnf); first | refine ⟨?_, True.intro⟩ | refine brn_t rfl ?_ | refine brn_f rfl ?_ | refine ob rfl ?_ | refine ob (by decide) ?_ | refine ob (Mem.le_refl _) ?_ | refine ⟨_, Mem.le_refl _, ?_⟩ | fail)
        refine (Cost_ok hJ4.tab hJ4.same.good i).mono ?_
        rintro v M5 ⟨rfl, hle5⟩
        repeat' ((conv => whnf); first | refine ob rfl ?_ | refine ob hle5 ?_ | refine ⟨?_, True.intro⟩ | fail)
        refine brn_f (by simp) ?_
        (conv => whnf); refine ob (inR_i64 (by first | omega | (dsimp only; omega))) ?_
        (conv => whnf)
        exact ⟨⟨i + 1, M5⟩, ⟨by omega, Mem.le_trans hleC (Mem.le_trans hle4 hle5)⟩, by dsimp only; omega, ⟨(by repeat' first | exact True.intro | refine ⟨rfl, ?_⟩), (by repeat' first | exact True.intro | refine ⟨rfl, ?_⟩), Mem.le_refl _, rfl⟩⟩
  · have hi' : i = 64 := by have := of_decide_eq_false g; first | omega | (dsimp only at this; omega)
    subst hi'
    have hme' : 0 ≤ me ∧ me < 64 := by simpa [isNode] using hme
    obtain ⟨j, hj⟩ : ∃ j : Nat, me = j := ⟨me.toNat, by omega⟩
    have hv : vecOf me nb st m to me = 0 := by simp [vecOf, nextOf, costOf, hme]
    obtain ⟨b, o, rfl, hrow⟩ := hsv.get (j := j) (v := intV 0) (by rw [List.getElem?_map, vecL_at hin (by omega), ← hj, hv]; rfl)
    (conv => whnf); refine brn_t rfl ?_
    (conv => whnf)
    rw [hj]
    refine ob (by omega) ?_
    (conv => whnf); refine on hrow ?_
    repeat' ((conv => whnf); first | refine ⟨?_, True.intro⟩ | refine brn_t rfl ?_ | refine brn_f rfl ?_ | refine ob rfl ?_ | refine ob (by decide) ?_ | refine ob (Mem.le_refl _) ?_ | refine ⟨_, Mem.le_refl _, ?_⟩ | fail)
    refine awake_ok.mono ?_
    rintro v M3 ⟨rfl, hle3⟩
    repeat' ((conv => whnf); first | refine ⟨?_, True.intro⟩ | refine brn_t rfl ?_ | refine brn_f rfl ?_ | refine ob rfl ?_ | refine ob (by decide) ?_ | refine ob (Mem.le_refl _) ?_ | refine ⟨_, Mem.le_refl _, ?_⟩ | fail)
    exact ⟨rfl, Mem.le_trans hle (Mem.le_trans hN.le (Mem.le_trans hleC hle3))⟩
end Go.Proofs.Ytankgacaeejlhaa
