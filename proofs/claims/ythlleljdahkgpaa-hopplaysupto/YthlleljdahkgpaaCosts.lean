/- Words between neighbours: what may be. -/
import Derived.Test.YthlleljdahkgpaaMsg
namespace Go.Proofs.Ythlleljdahkgpaa
open Go Go.Vm
attribute [local irreducible] Brn Ob Grow CallsM inR LoopVC Mem.row Mem.cells Mem.setCells Mem.upd Own AppVC SrcVC StrVC NextVC New SrcOk subA
@[reducible] def intV (n : Int) : Value := .int .i64 n
def cost (c : Int) : Bool := decide (0 ≤ c ∧ c ≤ 16)
set_option maxRecDepth 10000 in
theorem right_ok (p : Option Addr) (n k : Nat) (M : Mem) (l : List Int) (h : SrcOk M 1 p n (l.map intV)) (hn : n ≤ 4194304) : CallsM Try.prog F.ref18_Right [.slice p n k] M fun v M' => v = .bool (l.all cost && decide (n = 64)) ∧ M = M' := by
  refine fo_ref18_Right (by simp) ?_
  have hl : l.length = n := by have := (show SrcOk M 1 p n (l.map intV) from h); unfold SrcOk at this; simpa using this.1
  (conv => whnf)
  refine loop (σ := Nat) (fun i => ⟨[(3, .int .i64 i), (0, .slice p n k)], [], M⟩) (fun i => i ≤ n ∧ (l.take i).all cost = true) (fun i => n - i) 0 ⟨by omega, by simp⟩ ⟨⟨rfl, rfl, trivial⟩, trivial, Mem.le_refl _, rfl⟩ ?_
  intro i ⟨hi, hall⟩
  (conv => whnf)
  refine brn (fun h1 => ?_) (fun h1 => ?_)
  · simp only [decide_eq_true_eq] at h1
    have hin : i < n := by omega
    have hget : (l.map intV)[i]? = some (intV l[i]) := by simp [List.getElem?_eq_getElem (show i < l.length by omega)]
    obtain ⟨b, o, rfl, hrow⟩ := h.get hget
    have hrow' : M.row b (o + (i : Int).toNat * 1) 1 = some [intV l[i]] := by simpa using hrow
    have hfail : cost l[i] = false → l.all cost = false := fun hc => by
      rw [List.all_eq_false]
      exact ⟨l[i], by simp, by simp [hc]⟩
    (conv => whnf)
    refine ob (by omega) ?_
    (conv => whnf)
    refine on hrow' ?_
    (conv => whnf)
    refine brn (fun h2 => ?_) (fun h2 => ?_)
    · (conv => whnf)
      refine ⟨?_, rfl⟩
      simp only [decide_eq_true_eq] at h2
      rw [hfail (by simp [cost]; omega)]
      rfl
    (conv => whnf)
    refine ob (by omega) ?_
    (conv => whnf)
    refine on hrow' ?_
    (conv => whnf)
    refine brn (fun h3 => ?_) (fun h3 => ?_)
    · (conv => whnf)
      refine ⟨?_, rfl⟩
      simp only [decide_eq_true_eq] at h3
      rw [hfail (by simp [cost]; omega)]
      rfl
    (conv => whnf)
    refine ob (inR_i64 (by omega)) ?_
    (conv => whnf)
    simp only [decide_eq_false_iff_not] at h2 h3
    refine ⟨i + 1, ⟨by omega, ?_⟩, by omega, ⟨rfl, rfl, trivial⟩, trivial, Mem.le_refl _, rfl⟩
    rw [List.take_add_one, List.all_append, hall, List.getElem?_eq_getElem (by omega)]
    simp [cost]
    omega
  · (conv => whnf)
    simp only [decide_eq_false_iff_not] at h1
    have : i = n := by omega
    subst this
    rw [List.take_of_length_le (by omega)] at hall
    refine ⟨?_, rfl⟩
    rw [hall]
    simp
    omega
end Go.Proofs.Ythlleljdahkgpaa
