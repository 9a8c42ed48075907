/- Tables of ways: links of a net; the probe. -/
import Derived.Test.YtankgacaeejlhaaRoutesD
namespace Go.Proofs.Ytankgacaeejlhaa
open Go Go.Vm
attribute [local irreducible] Brn Ob CallsM inR LoopVC Mem.row Mem.cells Mem.setCells Mem.upd Own AppVC SrcVC StrVC NextVC New SrcOk subA NewSl Mem.textAt Mem.mapAt Mem.iterAt entryOf kfind Wr NewEls Elems
set_option maxRecDepth 10000
variable {M : Mem}
def bitOf (links a b : Int) : Bool := decide (bitsOp .and .u64 (links.fdiv (2 ^ (min (IntKind.u64.wrap (8 * a + b)).toNat IntKind.u64.bits))) 1 = 1)
def lk (links a b : Int) : Bool := decide (b = a + 1) || (decide (a ≠ b) && bitOf links a b)
def lnkOf (links a b : Int) : Bool := if b < a then lk links b a else lk links a b
theorem lnkOf_symm (links a b : Int) : lnkOf links a b = lnkOf links b a := by
  unfold lnkOf
  by_cases h : b < a
  · rw [if_pos h, if_neg (by omega)]
  · by_cases h' : a < b
    · rw [if_neg h, if_pos h']
    · have : a = b := by omega
      subst this; rfl
theorem lnkOf_self (links a : Int) : lnkOf links a a = false := by
  have : ¬ a = a + 1 := by omega
  simp [lnkOf, lk, this]
theorem lnkOf_next (links a : Int) : lnkOf links a (a + 1) = true := by
  unfold lnkOf
  rw [if_neg (by omega)]; simp [lk]
theorem linked_ok (N links a b : Int) (ha : 0 ≤ a ∧ a < 64) (hb : 0 ≤ b ∧ b < 64) : CallsM Try.prog F.law18_linked [.agg #[.int .i64 N, .int .u64 links], .int .i64 a, .int .i64 b] M fun v M' => v = .bool (lnkOf links a b) ∧ M = M' := by
  refine fo_law18_linked (by simp) ?_
  have main : ∀ x y : Int, 0 ≤ x ∧ x < 64 → 0 ≤ y ∧ y < 64 → lk links x y = (decide (y = x + 1) || ((!decide (x = y)) && bitOf links x y)) := fun x y _ _ => by simp [lk]
  have hw : ∀ x y : Int, 0 ≤ IntKind.u64.wrap (8 * x + y) := fun x y => by
    unfold IntKind.wrap
    simp [IntKind.signed, IntKind.bits]
    omega
  (conv => whnf); refine brn (fun h => ?_) (fun h => ?_)
  · have h' : b < a := by simpa using h
    (conv => whnf); refine ob (inR_i64 (by omega)) ?_
    (conv => whnf); refine brn (fun g => ?_) (fun g => ?_)
    · (conv => whnf)
      have g' : a = b + 1 := by simpa using g
      subst g'
      have h2 : b < b + 1 := by omega
      exact ⟨by simp [lnkOf, h2, lk], rfl⟩
    have g' : a ≠ b + 1 := by simpa using g
    (conv => whnf); refine brn (fun k => ?_) (fun k => ?_)
    · (conv => whnf); refine ob (inR_i64 (by omega)) ?_
      (conv => whnf); refine ob (inR_i64 (by omega)) ?_
      (conv => whnf); refine ob (hw b a) ?_
      (conv => whnf)
      have k' : b ≠ a := by simpa using k
      exact ⟨by simp [lnkOf, h', lk, g', k', bitOf], rfl⟩
    · have k' : b = a := by simpa using k
      omega
  · have h' : ¬ b < a := by simpa using h
    (conv => whnf); refine ob (inR_i64 (by omega)) ?_
    (conv => whnf); refine brn (fun g => ?_) (fun g => ?_)
    · (conv => whnf)
      have g' : b = a + 1 := by simpa using g
      exact ⟨by simp [lnkOf, lk, g']; omega, rfl⟩
    have g' : b ≠ a + 1 := by simpa using g
    (conv => whnf); refine brn (fun k => ?_) (fun k => ?_)
    · (conv => whnf); refine ob (inR_i64 (by omega)) ?_
      (conv => whnf); refine ob (inR_i64 (by omega)) ?_
      (conv => whnf); refine ob (hw a b) ?_
      (conv => whnf)
      have k' : a ≠ b := by simpa using k
      exact ⟨by simp [lnkOf, h', lk, g', k', bitOf], rfl⟩
    · have k' : a = b := by simpa using k
      (conv => whnf)
      subst k'
      exact ⟨by rw [lnkOf_self], rfl⟩
theorem flat_ok (d x : Int) (hd : 0 ≤ d ∧ d < 64) : CallsM Try.prog F.law18_flat [.int .i64 d, .int .i64 x] M fun v M' => ∃ b, v = .slice (some ⟨b, 0, none⟩) 64 64 ∧ NewSl M T.int 1 (some ⟨b, 0, none⟩) 64 64 (((List.replicate 64 (16 : Int)).set d.toNat x).map intV) M' := by
  refine fo_law18_flat (by simp) ?_
  (conv => whnf); refine ob (by decide) ?_
  (conv => whnf); refine new (fun b hb => ?_)
  replace hb : M b = none := hb
  have hN : NewSl M T.int 1 (some ⟨b, 0, none⟩) 64 64 ((List.replicate 64 (0 : Int)).map intV) _ := NewSl.lit hb T.int 1 64 ((List.replicate 64 (0 : Int)).map intV) rfl
  obtain ⟨M0, hM0⟩ : ∃ M0, M0 = M.setCells b T.int ((List.replicate 64 (0 : Int)).map intV) := ⟨_, rfl⟩
  rw [← hM0] at hN
  have hM0' : M.setCells b 3 (List.replicate (Int.toNat 64) [Value.int .i64 0]).flatten = M0 := by rw [hM0]; rfl
  (conv => whnf)
  rw [hM0']
  refine loopF (σ := Nat × Mem × List Int) [6] (fun x => [(6, .int .i64 x.1)]) (fun _ => []) (fun x => x.2.1)
    (fun | ⟨i, M1, L⟩ => i ≤ 64 ∧ NewSl M T.int 1 (some ⟨b, 0, none⟩) 64 64 (L.map intV) M1 ∧ ∀ j, j < i → L[j]? = some ((fun _ => (16 : Int)) j)) (fun x => 64 - x.1) ⟨0, M0, List.replicate 64 0⟩
    ⟨by omega, hN, fun j hj => by omega⟩ ⟨(by repeat' first | exact True.intro | refine ⟨rfl, ?_⟩), (by repeat' first | exact True.intro | refine ⟨rfl, ?_⟩), Mem.le_refl _, rfl⟩ ?_
  rintro ⟨i, M1, L⟩ ⟨hi, hN1, hL⟩
  have hll : L.length = 64 := hN1.src.maplen
  (conv => whnf); refine brn (fun g => ?_) (fun g => ?_)
  · have hi' : i < 64 := by have := of_decide_eq_true g; dsimp only at this; omega
    obtain ⟨b', cs, hbb, _, hcells, hlen, hst⟩ := hN1.store1 (j := i) (by omega)
    cases hbb
    (conv => whnf); refine ob (by dsimp only; omega) ?_
    (conv => whnf); refine on hcells ?_
    (conv => whnf); refine ob hlen ?_
    have hN3 := (hst 16).1
    (conv => whnf); refine ob (inR_i64 (by dsimp only; omega)) ?_
    (conv => whnf)
    exact ⟨⟨i + 1, _, _⟩, ⟨by omega, hN3, set_ok (f := fun _ => 16) hll hi' hL 16 rfl⟩, by dsimp only; omega, ⟨(by repeat' first | exact True.intro | refine ⟨rfl, ?_⟩), (by repeat' first | exact True.intro | refine ⟨rfl, ?_⟩), Mem.le_refl _, rfl⟩⟩
  · have hi' : i = 64 := by have := of_decide_eq_false g; dsimp only at this; omega
    subst hi'
    have hLe : L = List.replicate 64 16 := by
      apply List.ext_getElem?
      intro j
      by_cases hj : j < 64
      · rw [hL j hj, List.getElem?_replicate, if_pos hj]
      · rw [List.getElem?_eq_none (by omega), List.getElem?_eq_none (by simp; omega)]
    subst hLe
    obtain ⟨b', cs, hbb, _, hcells, hlen, hst⟩ := hN1.store1 (j := d.toNat) (by omega)
    cases hbb
    (conv => whnf); refine ob (by omega) ?_
    (conv => whnf); refine on hcells ?_
    (conv => whnf); refine ob hlen ?_
    (conv => whnf)
    exact ⟨b, rfl, (hst x).1⟩
end Go.Proofs.Ytankgacaeejlhaa
