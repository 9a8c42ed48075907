/- The set of what was seen: an id is added. -/
import Derived.Test.YtmifjilknojkaaaSeenB
namespace Go.Proofs.Ytmifjilknojkaaa
open Go Go.Vm
attribute [local irreducible] Brn Ob Grow CallsM inR LoopVC Mem.row Mem.cells Mem.setCells Mem.upd Own AppVC SrcVC StrVC NextVC New SrcOk subA NewSl Mem.textAt Mem.mapAt Mem.iterAt entryOf kfind Wr NewEls Elems
set_option maxRecDepth 10000
variable {M : Mem}
theorem isNaN_ok (x : Int) : CallsM Try.prog F.cmp_isNaN_int [.int .i64 x] M fun v M' => v = .bool false ∧ M = M' := by
  refine fo_cmp_isNaN_int (by simp) ?_
  repeat' ((conv => whnf); first | refine ⟨?_, True.intro⟩ | refine brn_t rfl ?_ | refine brn_f rfl ?_ | refine ob rfl ?_ | refine ob (by decide) ?_ | refine grow_same (Mem.le_refl _) ?_ | refine ob (Mem.le_refl _) ?_ | refine ⟨_, Mem.le_refl _, ?_⟩ | fail)
  exact ⟨by simp, rfl⟩
theorem nan_ok (x : Int) : CallsM Try.prog F.slices_isNaN_int [.int .i64 x] M fun v M' => v = .bool false ∧ M = M' := by
  refine fo_slices_isNaN_int (by simp) ?_
  repeat' ((conv => whnf); first | refine ⟨?_, True.intro⟩ | refine brn_t rfl ?_ | refine brn_f rfl ?_ | refine ob rfl ?_ | refine ob (by decide) ?_ | refine grow_same (Mem.le_refl _) ?_ | refine ob (Mem.le_refl _) ?_ | refine ⟨_, Mem.le_refl _, ?_⟩ | fail)
  exact ⟨by simp, rfl⟩
theorem less_ok (x y : Int) : CallsM Try.prog F.cmp_Less_int [.int .i64 x, .int .i64 y] M fun v M' => v = .bool (decide (x < y)) ∧ M = M' := by
  refine fo_cmp_Less_int (by simp) ?_
  (conv => whnf); refine (isNaN_ok x).mono ?_
  rintro v _ ⟨rfl, rfl⟩
  repeat' ((conv => whnf); first | refine ⟨?_, True.intro⟩ | refine brn_t rfl ?_ | refine brn_f rfl ?_ | refine ob rfl ?_ | refine ob (by decide) ?_ | refine grow_same (Mem.le_refl _) ?_ | refine ob (Mem.le_refl _) ?_ | refine ⟨_, Mem.le_refl _, ?_⟩ | fail)
  exact ⟨rfl, rfl⟩
theorem bsearch_ok {a : Option Addr} {n c : Nat} {l : List Int} (hs : SrcOk M 1 a n (l.map intV)) (hn : n ≤ 4194304) (hl : l.Pairwise (· < ·)) (x : Int) :
    CallsM Try.prog F.slices_BinarySearch_int_int [.slice a n c, .int .i64 x] M fun v M' => ∃ (i : Nat) (f : Bool), v = .tuple #[.int .i64 i, .bool f] ∧ i ≤ n ∧ (∀ k y, k < i → l[k]? = some y → y < x) ∧ (∀ k y, i ≤ k → l[k]? = some y → x ≤ y) ∧ M = M' := by
  refine fo_slices_BinarySearch_int_int (by simp) ?_
  have hll := hs.maplen
  have hmono : ∀ k k' y y', k ≤ k' → l[k]? = some y → l[k']? = some y' → y ≤ y' := fun k k' y y' hk h1 h2 => by
    rcases Nat.lt_or_ge k k' with h | h
    · have hk' := (List.getElem?_eq_some_iff.1 h2).1
      have := List.pairwise_iff_getElem.1 hl k k' (by omega) hk' h
      rw [List.getElem?_eq_getElem (by omega)] at h1
      rw [List.getElem?_eq_getElem hk'] at h2
      cases h1; cases h2; omega
    · have : k = k' := Nat.le_antisymm hk h
      subst this; rw [h1] at h2; cases h2; omega
  (conv => whnf)
  refine loopQ (σ := Nat × Nat) [7, 8] (fun q => [(7, .int .i64 q.1), (8, .int .i64 q.2)]) (fun | ⟨i, j⟩ => i ≤ j ∧ j ≤ n ∧ (∀ k y, k < i → l[k]? = some y → y < x) ∧ (∀ k y, j ≤ k → l[k]? = some y → x ≤ y)) (fun q => q.2 - q.1) ⟨0, n⟩
    ⟨by omega, by omega, fun k y hk => by omega, fun k y hk hy => by rw [List.getElem?_eq_none (by omega)] at hy; cases hy⟩ ⟨(by repeat' first | exact True.intro | refine ⟨rfl, ?_⟩), (by repeat' first | exact True.intro | refine ⟨rfl, ?_⟩), Mem.le_refl _, rfl⟩ ?_
  rintro ⟨i, j⟩ ⟨hij, hj, h1, h2⟩
  (conv => whnf); refine brn (fun g => ?_) (fun g => ?_)
  · have hlt : i < j := by have := of_decide_eq_true g; dsimp only at this; omega
    (conv => whnf); refine ob (inR_i64 (by first | omega | (dsimp only; omega))) ?_
    (conv => whnf); refine ob (by decide) ?_
    (conv => whnf)
    have hmid : IntKind.i64.wrap ((IntKind.u64.wrap ((i : Int) + j)).fdiv (2 ^ min (Int.toNat 1) IntKind.u64.bits)) = (((i + j) / 2 : Nat) : Int) := by
      have e1 : IntKind.u64.wrap ((i : Int) + j) = ((i + j : Nat) : Int) := by rw [IntKind.wrap_u64]; omega
      have e2 : (2 : Int) ^ min (Int.toNat 1) IntKind.u64.bits = 2 := by decide
      have e3 : ((i + j : Nat) : Int).fdiv 2 = (((i + j) / 2 : Nat) : Int) := by rw [Int.fdiv_eq_ediv_of_nonneg _ (by decide)]; omega
      rw [e1, e2, e3, IntKind.wrap_i64]
      omega
    rw [hmid]
    obtain ⟨m, hm⟩ : ∃ m, m = (i + j) / 2 := ⟨_, rfl⟩
    rw [← hm]
    obtain ⟨hlm, b, o, rfl, hrow⟩ := hs.at (i := m) (by omega)
    have hgm : l[m]? = some l[m] := List.getElem?_eq_getElem hlm
    refine ob (by omega) ?_
    (conv => whnf); refine on hrow ?_
    (conv => whnf); refine (less_ok _ _).mono ?_
    rintro v _ ⟨rfl, rfl⟩
    (conv => whnf); refine brn (fun g1 => ?_) (fun g1 => ?_)
    · have hx : l[m] < x := of_decide_eq_true g1
      (conv => whnf); refine ob (inR_i64 (by omega)) ?_
      (conv => whnf)
      refine ⟨⟨m + 1, j⟩, ⟨by omega, by omega, fun k y hk hy => ?_, h2⟩, by dsimp only; omega, ⟨(by repeat' first | exact True.intro | refine ⟨rfl, ?_⟩), (by repeat' first | exact True.intro | refine ⟨rfl, ?_⟩), Mem.le_refl _, rfl⟩⟩
      have := hmono k m y l[m] (by omega) hy hgm
      omega
    · have hx : ¬ l[m] < x := of_decide_eq_false g1
      (conv => whnf)
      refine ⟨⟨i, m⟩, ⟨by omega, by omega, h1, fun k y hk hy => ?_⟩, by dsimp only; omega, ⟨(by repeat' first | exact True.intro | refine ⟨rfl, ?_⟩), (by repeat' first | exact True.intro | refine ⟨rfl, ?_⟩), Mem.le_refl _, rfl⟩⟩
      have := hmono m k l[m] y hk hgm hy
      omega
  · have he : i = j := by have := of_decide_eq_false g; dsimp only at this; omega
    subst he
    (conv => whnf); refine brn (fun g => ?_) (fun g => ?_)
    · have hlt : i < n := by have := of_decide_eq_true g; dsimp only at this; omega
      obtain ⟨_, b, o, rfl, hrow⟩ := hs.at (i := i) hlt
      (conv => whnf); refine ob (by first | omega | (dsimp only; omega)) ?_
      (conv => whnf); refine on hrow ?_
      (conv => whnf); refine brn (fun g1 => ?_) (fun g1 => ?_)
      · repeat' ((conv => whnf); first | refine ⟨?_, True.intro⟩ | refine brn_t rfl ?_ | refine brn_f rfl ?_ | refine ob rfl ?_ | refine ob (by decide) ?_ | refine grow_same (Mem.le_refl _) ?_ | refine ob (Mem.le_refl _) ?_ | refine ⟨_, Mem.le_refl _, ?_⟩ | fail)
        exact ⟨i, _, rfl, hj, h1, h2, rfl⟩
      · (conv => whnf); refine ob (by first | omega | (dsimp only; omega)) ?_
        (conv => whnf); refine on hrow ?_
        (conv => whnf); refine (nan_ok _).mono ?_
        rintro v _ ⟨rfl, rfl⟩
        repeat' ((conv => whnf); first | refine ⟨?_, True.intro⟩ | refine brn_t rfl ?_ | refine brn_f rfl ?_ | refine ob rfl ?_ | refine ob (by decide) ?_ | refine grow_same (Mem.le_refl _) ?_ | refine ob (Mem.le_refl _) ?_ | refine ⟨_, Mem.le_refl _, ?_⟩ | fail)
        exact ⟨i, _, rfl, hj, h1, h2, rfl⟩
    · repeat' ((conv => whnf); first | refine ⟨?_, True.intro⟩ | refine brn_t rfl ?_ | refine brn_f rfl ?_ | refine ob rfl ?_ | refine ob (by decide) ?_ | refine grow_same (Mem.le_refl _) ?_ | refine ob (Mem.le_refl _) ?_ | refine ⟨_, Mem.le_refl _, ?_⟩ | fail)
      exact ⟨i, _, rfl, hj, h1, h2, rfl⟩
end Go.Proofs.Ytmifjilknojkaaa
