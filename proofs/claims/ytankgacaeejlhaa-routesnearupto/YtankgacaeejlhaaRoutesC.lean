/- Tables of ways: what is said to a neighbour. -/
import Derived.Test.YtankgacaeejlhaaRoutesB
namespace Go.Proofs.Ytankgacaeejlhaa
open Go Go.Vm
attribute [local irreducible] Brn Ob CallsM inR LoopVC Mem.row Mem.cells Mem.setCells Mem.upd Own AppVC SrcVC StrVC NextVC New SrcOk subA NewSl Mem.textAt Mem.mapAt Mem.iterAt entryOf kfind Wr NewEls Elems
set_option maxRecDepth 10000
variable {M : Mem} {p b1 b2 : Nat} {a : Option Addr} {n c : Nat} {me age : Int} {nb : List Int} {st : List (Int × Int)} {m : List (Int × Hd)}
def vecOf (me : Int) (nb : List Int) (st : List (Int × Int)) (m : List (Int × Hd)) (to d : Int) : Int := if nextOf me nb st m d = some to then 16 else costOf me st m d
theorem set_ok {f : Nat → Int} {L : List Int} {i : Nat} (hL : L.length = 64) (hi : i < 64) (h : ∀ j, j < i → L[j]? = some (f j)) (x : Int) (hx : x = f i) : ∀ j, j < i + 1 → (L.set i x)[j]? = some (f j) := fun j hj => by
  rw [List.getElem?_set]
  by_cases e : i = j
  · subst e; rw [if_pos rfl, if_pos (by omega), hx]
  · rw [if_neg e]; exact h j (by omega)
theorem Vector_ok (ht : TabAt M p b1 b2 a n c me age nb st m) (hg : GoodM m) (hn : n ≤ 4194304) (to : Int) : CallsM Try.prog F.routes_Table_Vector [ptr p, .int .i64 to] M fun v M' =>
    (to ∉ nb ∧ v = .slice none 0 0 ∧ M' = M) ∨ (to ∈ nb ∧ ∃ b L, v = .slice (some ⟨b, 0, none⟩) 64 64 ∧ NewSl M T.int 1 (some ⟨b, 0, none⟩) 64 64 (L.map intV) M' ∧ L = (List.range 64).map fun (d : Nat) => vecOf me nb st m to d) := by
  refine fo_routes_Table_Vector (by simp) ?_
  (conv => whnf); refine brn_f rfl ?_
  (conv => whnf); refine (near_ok ht hn to).mono ?_
  rintro v _ ⟨rfl, rfl⟩
  (conv => whnf); refine brn (fun h => ?_) (fun h => ?_)
  · (conv => whnf)
    exact .inl ⟨by simpa using h, rfl, rfl⟩
  have hto : to ∈ nb := by simpa using h
  (conv => whnf); refine ob (by decide) ?_
  (conv => whnf); refine new (fun b hb => ?_)
  replace hb : M b = none := hb
  have hN : NewSl M T.int 1 (some ⟨b, 0, none⟩) 64 64 ((List.replicate 64 (0 : Int)).map intV) _ := NewSl.lit hb T.int 1 64 ((List.replicate 64 (0 : Int)).map intV) rfl
  obtain ⟨M0, hM0⟩ : ∃ M0, M0 = M.setCells b T.int ((List.replicate 64 (0 : Int)).map intV) := ⟨_, rfl⟩
  rw [← hM0] at hN
  have hM0' : M.setCells b 3 (List.replicate (Int.toNat 64) [Value.int .i64 0]).flatten = M0 := by rw [hM0]; rfl
  (conv => whnf)
  rw [hM0']
  refine loopF (σ := Nat × Mem × List Int) [20] (fun x => [(20, .int .i64 x.1)]) (fun _ => []) (fun x => x.2.1)
    (fun | ⟨i, M1, L⟩ => i ≤ 64 ∧ NewSl M T.int 1 (some ⟨b, 0, none⟩) 64 64 (L.map intV) M1 ∧ ∀ j, j < i → L[j]? = some (vecOf me nb st m to j)) (fun x => 64 - x.1) ⟨0, M0, List.replicate 64 0⟩
    ⟨by omega, hN, fun j hj => by omega⟩ ⟨(by repeat' first | exact True.intro | refine ⟨rfl, ?_⟩), (by repeat' first | exact True.intro | refine ⟨rfl, ?_⟩), Mem.le_refl _, rfl⟩ ?_
  rintro ⟨i, M1, L⟩ ⟨hi, hN1, hL⟩
  have hll : L.length = 64 := hN1.src.maplen
  (conv => whnf); refine brn (fun g => ?_) (fun g => ?_)
  · have hi' : i < 64 := by have := of_decide_eq_true g; omega
    (conv => whnf); refine (Cost_ok (ht.le hN1.le) hg i).mono ?_
    rintro v M2 ⟨rfl, hle2⟩
    have hN2 := hN1.up hle2
    obtain ⟨b', cs, hbb, _, hcells, hlen, hst⟩ := hN2.store1 (j := i) (by omega)
    cases hbb
    (conv => whnf); refine ob (by omega) ?_
    (conv => whnf); refine on hcells ?_
    (conv => whnf); refine ob hlen ?_
    have hN3 := (hst (costOf me st m i)).1
    obtain ⟨M3, hM3⟩ : ∃ M3, M3 = M2.setCells b T.int (splice cs (0 + i * 1) [intV (costOf me st m i)]) := ⟨_, rfl⟩
    rw [← hM3] at hN3
    (conv => whnf)
    erw [← hM3]
    (conv => whnf); refine (Next_ok (ht.le hN3.le) hg hn i).mono ?_
    rintro v M4 ⟨rfl, hle4⟩
    have hN4 := hN3.up hle4
    have done : ∀ (M5 : Mem) (x : Int), x = vecOf me nb st m to i → NewSl M T.int 1 (some ⟨b, 0, none⟩) 64 64 ((L.set i x).map intV) M5 →
        (i + 1 ≤ 64 ∧ NewSl M T.int 1 (some ⟨b, 0, none⟩) 64 64 ((L.set i x).map intV) M5 ∧ ∀ j, j < i + 1 → (L.set i x)[j]? = some (vecOf me nb st m to j)) := fun M5 x hx hM5 => ⟨by omega, hM5, set_ok (f := fun (j : Nat) => vecOf me nb st m to j) hll hi' hL x hx⟩
    cases hnx : nextOf me nb st m i with
    | none =>
      repeat' ((conv => whnf); first | refine ⟨?_, True.intro⟩ | refine brn_t rfl ?_ | refine brn_f rfl ?_ | refine ob rfl ?_ | refine ob (by decide) ?_ | refine ob (Mem.le_refl _) ?_ | refine ⟨_, Mem.le_refl _, ?_⟩ | fail)
      refine ob (inR_i64 (by omega)) ?_
      (conv => whnf)
      exact ⟨⟨i + 1, M4, _⟩, done M4 _ (by simp [vecOf, hnx]) hN4, by dsimp only; omega, ⟨(by repeat' first | exact True.intro | refine ⟨rfl, ?_⟩), (by repeat' first | exact True.intro | refine ⟨rfl, ?_⟩), Mem.le_refl _, rfl⟩⟩
    | some k =>
      repeat' ((conv => whnf); first | refine ⟨?_, True.intro⟩ | refine brn_t rfl ?_ | refine brn_f rfl ?_ | refine ob rfl ?_ | refine ob (by decide) ?_ | refine ob (Mem.le_refl _) ?_ | refine ⟨_, Mem.le_refl _, ?_⟩ | fail)
      refine brn (fun g1 => ?_) (fun g1 => ?_)
      · have e : k = to := of_decide_eq_true g1
        subst e
        obtain ⟨b', cs4, hbb, _, hcells4, hlen4, hst4⟩ := hN4.store1 (j := i) (by omega)
        cases hbb
        (conv => whnf); refine ob (by omega) ?_
        (conv => whnf); refine on hcells4 ?_
        (conv => whnf); refine ob hlen4 ?_
        have hN5 := (hst4 16).1
        rw [List.set_set] at hN5
        (conv => whnf); refine ob (inR_i64 (by omega)) ?_
        (conv => whnf)
        exact ⟨⟨i + 1, _, _⟩, done _ _ (by simp [vecOf, hnx]) hN5, by dsimp only; omega, ⟨(by repeat' first | exact True.intro | refine ⟨rfl, ?_⟩), (by repeat' first | exact True.intro | refine ⟨rfl, ?_⟩), Mem.le_refl _, rfl⟩⟩
      · have e : k ≠ to := of_decide_eq_false g1
        (conv => whnf); refine ob (inR_i64 (by omega)) ?_
        (conv => whnf)
        exact ⟨⟨i + 1, M4, _⟩, done M4 _ (by simp [vecOf, hnx, e]) hN4, by dsimp only; omega, ⟨(by repeat' first | exact True.intro | refine ⟨rfl, ?_⟩), (by repeat' first | exact True.intro | refine ⟨rfl, ?_⟩), Mem.le_refl _, rfl⟩⟩
  · have hi' : i = 64 := by have := of_decide_eq_false g; omega
    subst hi'
    (conv => whnf)
    refine .inr ⟨hto, b, L, rfl, hN1, ?_⟩
    apply List.ext_getElem?
    intro j
    by_cases hj : j < 64
    · rw [hL j hj]; simp [hj]
    · rw [List.getElem?_eq_none (by omega), List.getElem?_eq_none (by simp; omega)]
end Go.Proofs.Ytankgacaeejlhaa
