/- The document's desk: lists of what is known, by ids in order. -/
import Derived.Test.YthlleljdahkgpaaHopL
namespace Go.Proofs.Ythlleljdahkgpaa
open Go Go.Vm
attribute [local irreducible] Brn Ob Grow CallsM inR LoopVC Mem.row Mem.cells Mem.setCells Mem.upd Own AppVC SrcVC StrVC NextVC New SrcOk subA NewSl Mem.textAt Mem.mapAt Mem.iterAt entryOf kfind Wr NewEls Elems
set_option maxRecDepth 10000
theorem numbers_ok (a : Id) (M : Mem) : CallsM Try.prog F.ref13_Numbers [a.v] M fun v M' => ∃ b, v = .slice (some ⟨b, 0, none⟩) 4 4 ∧ M b = none ∧ M' = M.setCells b T.int [intV a.o, intV a.d, intV a.e, intV a.c] := by
  refine fo_ref13_Numbers (by simp) ?_
  (conv => whnf); refine new (fun b hb => ?_)
  replace hb : M b = none := hb
  (conv => whnf)
  exact ⟨b, rfl, hb, rfl⟩
theorem lessR_ok (a b : Id) (M : Mem) : CallsM Try.prog F.ref13_Less [a.v, b.v] M fun v M' => v = .bool (ltId a b) ∧ M.le M' := by
  refine fo_ref13_Less (by simp) ?_
  (conv => whnf); refine (numbers_ok a M).mono ?_
  rintro v M' ⟨x, rfl, hx, rfl⟩
  (conv => whnf); refine (numbers_ok b _).mono ?_
  rintro v M' ⟨y, rfl, hy, rfl⟩
  have hle1 : (M.setCells x T.int [intV a.o, intV a.d, intV a.e, intV a.c]).le _ := Mem.le_setCells (E := T.int) (l := [intV b.o, intV b.d, intV b.e, intV b.c]) hy
  have hle : M.le _ := Mem.le_trans (Mem.le_setCells hx) hle1
  have hX := hle1 _ _ (Mem.has_setCells (M := M) (b := x) (E := T.int) (l := [intV a.o, intV a.d, intV a.e, intV a.c]))
  have hY := Mem.has_setCells (M := M.setCells x T.int [intV a.o, intV a.d, intV a.e, intV a.c]) (b := y) (E := T.int) (l := [intV b.o, intV b.d, intV b.e, intV b.c])
  obtain ⟨M2, hM2⟩ : ∃ M2, M2 = (M.setCells x T.int [intV a.o, intV a.d, intV a.e, intV a.c]).setCells y T.int [intV b.o, intV b.d, intV b.e, intV b.c] := ⟨_, rfl⟩
  rw [← hM2] at hX hY hle
  replace hX : M2.has x T.int [intV a.o, intV a.d, intV a.e, intV a.c] := hX
  (conv => whnf)
  erw [← hM2]
  refine loopQ (σ := Nat) [7] (fun i => [(7, .int .i64 i)]) (fun i => i ≤ 4 ∧ (0 < i → a.o = b.o) ∧ (1 < i → a.d = b.d) ∧ (2 < i → a.e = b.e) ∧ (3 < i → a.c = b.c)) (fun i => 4 - i) 0 ⟨by omega, by omega, by omega, by omega, by omega⟩ ⟨(by repeat' first | exact True.intro | refine ⟨rfl, ?_⟩), (by repeat' first | exact True.intro | refine ⟨rfl, ?_⟩), Mem.le_refl _, rfl⟩ ?_
  rintro i ⟨hi, h0, h1, h2, h3⟩
  (conv => whnf); refine brn (fun g => ?_) (fun g => ?_)
  · have g' : i < 4 := by have := of_decide_eq_true g; omega
    match i, g' with
    | 0, _ =>
      (conv => whnf); refine ob (by decide) ?_
      (conv => whnf); refine on (hX.c1 rfl) ?_
      (conv => whnf); refine ob (by decide) ?_
      (conv => whnf); refine on (hY.c1 rfl) ?_
      (conv => whnf); refine brn (fun k => ?_) (fun k => ?_)
      · (conv => whnf); refine ob (by decide) ?_
        (conv => whnf); refine on (hX.c1 rfl) ?_
        (conv => whnf); refine ob (by decide) ?_
        (conv => whnf); refine on (hY.c1 rfl) ?_
        (conv => whnf)
        exact ⟨by simp at k; simp [ltId, k], hle⟩
      · (conv => whnf); refine ob (inR_i64 (by decide)) ?_
        (conv => whnf)
        exact ⟨1, ⟨by omega, fun _ => by simpa using k, by omega, by omega, by omega⟩, by omega, ⟨(by repeat' first | exact True.intro | refine ⟨rfl, ?_⟩), (by repeat' first | exact True.intro | refine ⟨rfl, ?_⟩), Mem.le_refl _, rfl⟩⟩
    | 1, _ =>
      (conv => whnf); refine ob (by decide) ?_
      (conv => whnf); refine on (hX.c1 rfl) ?_
      (conv => whnf); refine ob (by decide) ?_
      (conv => whnf); refine on (hY.c1 rfl) ?_
      (conv => whnf); refine brn (fun k => ?_) (fun k => ?_)
      · (conv => whnf); refine ob (by decide) ?_
        (conv => whnf); refine on (hX.c1 rfl) ?_
        (conv => whnf); refine ob (by decide) ?_
        (conv => whnf); refine on (hY.c1 rfl) ?_
        (conv => whnf)
        exact ⟨by simp at k; simp [ltId, h0 (by omega), k], hle⟩
      · (conv => whnf); refine ob (inR_i64 (by decide)) ?_
        (conv => whnf)
        exact ⟨2, ⟨by omega, fun _ => h0 (by omega), fun _ => by simpa using k, by omega, by omega⟩, by omega, ⟨(by repeat' first | exact True.intro | refine ⟨rfl, ?_⟩), (by repeat' first | exact True.intro | refine ⟨rfl, ?_⟩), Mem.le_refl _, rfl⟩⟩
    | 2, _ =>
      (conv => whnf); refine ob (by decide) ?_
      (conv => whnf); refine on (hX.c1 rfl) ?_
      (conv => whnf); refine ob (by decide) ?_
      (conv => whnf); refine on (hY.c1 rfl) ?_
      (conv => whnf); refine brn (fun k => ?_) (fun k => ?_)
      · (conv => whnf); refine ob (by decide) ?_
        (conv => whnf); refine on (hX.c1 rfl) ?_
        (conv => whnf); refine ob (by decide) ?_
        (conv => whnf); refine on (hY.c1 rfl) ?_
        (conv => whnf)
        exact ⟨by simp at k; simp [ltId, h0 (by omega), h1 (by omega), k], hle⟩
      · (conv => whnf); refine ob (inR_i64 (by decide)) ?_
        (conv => whnf)
        exact ⟨3, ⟨by omega, fun _ => h0 (by omega), fun _ => h1 (by omega), fun _ => by simpa using k, by omega⟩, by omega, ⟨(by repeat' first | exact True.intro | refine ⟨rfl, ?_⟩), (by repeat' first | exact True.intro | refine ⟨rfl, ?_⟩), Mem.le_refl _, rfl⟩⟩
    | 3, _ =>
      (conv => whnf); refine ob (by decide) ?_
      (conv => whnf); refine on (hX.c1 rfl) ?_
      (conv => whnf); refine ob (by decide) ?_
      (conv => whnf); refine on (hY.c1 rfl) ?_
      (conv => whnf); refine brn (fun k => ?_) (fun k => ?_)
      · (conv => whnf); refine ob (by decide) ?_
        (conv => whnf); refine on (hX.c1 rfl) ?_
        (conv => whnf); refine ob (by decide) ?_
        (conv => whnf); refine on (hY.c1 rfl) ?_
        (conv => whnf)
        exact ⟨by simp at k; simp [ltId, h0 (by omega), h1 (by omega), h2 (by omega)], hle⟩
      · (conv => whnf); refine ob (inR_i64 (by decide)) ?_
        (conv => whnf)
        exact ⟨4, ⟨by omega, fun _ => h0 (by omega), fun _ => h1 (by omega), fun _ => h2 (by omega), fun _ => by simpa using k⟩, by omega, ⟨(by repeat' first | exact True.intro | refine ⟨rfl, ?_⟩), (by repeat' first | exact True.intro | refine ⟨rfl, ?_⟩), Mem.le_refl _, rfl⟩⟩
  · have g' : i = 4 := by have := of_decide_eq_false g; omega
    subst g'
    (conv => whnf)
    exact ⟨by simp [ltId, h0 (by omega), h1 (by omega), h2 (by omega), h3 (by omega)], hle⟩
end Go.Proofs.Ythlleljdahkgpaa
