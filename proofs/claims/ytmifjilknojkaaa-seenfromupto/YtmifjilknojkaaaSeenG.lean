/- Marks in order: how two are compared. -/
import Derived.Test.YtmifjilknojkaaaSeenF
namespace Go.Proofs.Ytmifjilknojkaaa
open Go Go.Vm
attribute [local irreducible] Brn Ob Grow CallsM inR LoopVC Mem.row Mem.cells Mem.setCells Mem.upd Own AppVC SrcVC StrVC NextVC New SrcOk subA NewSl Mem.textAt Mem.mapAt Mem.iterAt entryOf kfind Wr NewEls Elems
set_option maxRecDepth 10000
variable {M : Mem}
def cmpI (x y : Int) : Int := if x < y then -1 else if y < x then 1 else 0
theorem cmp_ok (x y : Int) : CallsM Try.prog F.cmp_Compare_int [.int .i64 x, .int .i64 y] M fun v M' => v = .int .i64 (cmpI x y) ∧ M = M' := by
  refine fo_cmp_Compare_int (by simp) ?_
  (conv => whnf); refine (isNaN_ok x).mono ?_
  rintro v _ ⟨rfl, rfl⟩
  repeat' ((conv => whnf); first | refine ⟨?_, True.intro⟩ | refine brn_t rfl ?_ | refine brn_f rfl ?_ | refine ob rfl ?_ | refine ob (by decide) ?_ | refine grow_same (Mem.le_refl _) ?_ | refine ob (Mem.le_refl _) ?_ | refine ⟨_, Mem.le_refl _, ?_⟩ | fail)
  refine (isNaN_ok y).mono ?_
  rintro v _ ⟨rfl, rfl⟩
  repeat' ((conv => whnf); first | refine ⟨?_, True.intro⟩ | refine brn_t rfl ?_ | refine brn_f rfl ?_ | refine ob rfl ?_ | refine ob (by decide) ?_ | refine grow_same (Mem.le_refl _) ?_ | refine ob (Mem.le_refl _) ?_ | refine ⟨_, Mem.le_refl _, ?_⟩ | fail)
  refine brn (fun h => ?_) (fun h => ?_)
  · repeat' ((conv => whnf); first | refine ⟨?_, True.intro⟩ | refine brn_t rfl ?_ | refine brn_f rfl ?_ | refine ob rfl ?_ | refine ob (by decide) ?_ | refine grow_same (Mem.le_refl _) ?_ | refine ob (Mem.le_refl _) ?_ | refine ⟨_, Mem.le_refl _, ?_⟩ | fail)
    exact ⟨by simp [cmpI, of_decide_eq_true h], rfl⟩
  · have h1 := of_decide_eq_false h
    (conv => whnf); refine brn (fun g => ?_) (fun g => ?_)
    · repeat' ((conv => whnf); first | refine ⟨?_, True.intro⟩ | refine brn_t rfl ?_ | refine brn_f rfl ?_ | refine ob rfl ?_ | refine ob (by decide) ?_ | refine grow_same (Mem.le_refl _) ?_ | refine ob (Mem.le_refl _) ?_ | refine ⟨_, Mem.le_refl _, ?_⟩ | fail)
      exact ⟨by simp [cmpI, h1, of_decide_eq_true g], rfl⟩
    · repeat' ((conv => whnf); first | refine ⟨?_, True.intro⟩ | refine brn_t rfl ?_ | refine brn_f rfl ?_ | refine ob rfl ?_ | refine ob (by decide) ?_ | refine grow_same (Mem.le_refl _) ?_ | refine ob (Mem.le_refl _) ?_ | refine ⟨_, Mem.le_refl _, ?_⟩ | fail)
      have g1 := of_decide_eq_false g
      refine ⟨?_, rfl⟩
      unfold cmpI
      rw [if_neg h1, if_neg g1]
def cmpL : List Int → List Int → Int
  | [], [] => 0
  | [], _ :: _ => -1
  | _ :: _, [] => 1
  | x :: r, y :: s => if cmpI x y ≠ 0 then cmpI x y else cmpL r s
theorem compare_ok {a b : Option Addr} {n m c d : Nat} {X Y : List Int} (hx : SrcOk M 1 a n (X.map intV)) (hy : SrcOk M 1 b m (Y.map intV)) (hn : n ≤ 4194304) (hm : m ≤ 4194304) :
    CallsM Try.prog F.slices_Compare_int_int [.slice a n c, .slice b m d] M fun v M' => v = .int .i64 (cmpL X Y) ∧ M = M' := by
  refine fo_slices_Compare_int_int (by simp) ?_
  have hX := hx.maplen
  have hY := hy.maplen
  (conv => whnf)
  refine loopQ [11] (fun (i : Nat) => [(11, .int .i64 i)]) (fun i => i ≤ n ∧ i ≤ m ∧ cmpL X Y = cmpL (X.drop i) (Y.drop i)) (fun i => n - i) 0 ⟨by omega, by omega, rfl⟩ ⟨(by repeat' first | exact True.intro | refine ⟨rfl, ?_⟩), (by repeat' first | exact True.intro | refine ⟨rfl, ?_⟩), Mem.le_refl _, rfl⟩ ?_
  rintro i ⟨hi, hj, he⟩
  (conv => whnf); refine brn (fun h => ?_) (fun h => ?_)
  · have hlt : i < n := by have := of_decide_eq_true h; omega
    obtain ⟨h1, b1, o1, rfl, hrow1⟩ := hx.at (i := i) hlt
    (conv => whnf); refine ob (by omega) ?_
    (conv => whnf); refine on hrow1 ?_
    (conv => whnf); refine brn (fun g => ?_) (fun g => ?_)
    · have hge : m ≤ i := by have := of_decide_eq_true g; omega
      repeat' ((conv => whnf); first | refine ⟨?_, True.intro⟩ | refine brn_t rfl ?_ | refine brn_f rfl ?_ | refine ob rfl ?_ | refine ob (by decide) ?_ | refine grow_same (Mem.le_refl _) ?_ | refine ob (Mem.le_refl _) ?_ | refine ⟨_, Mem.le_refl _, ?_⟩ | fail)
      refine ⟨?_, rfl⟩
      rw [he, List.drop_eq_getElem_cons h1, List.drop_of_length_le (l := Y) (by omega)]; rfl
    · have hlt2 : i < m := by have := of_decide_eq_false g; omega
      obtain ⟨h2, b2, o2, rfl, hrow2⟩ := hy.at (i := i) hlt2
      (conv => whnf); refine ob (by omega) ?_
      (conv => whnf); refine on hrow2 ?_
      (conv => whnf); refine (cmp_ok _ _).mono ?_
      rintro v _ ⟨rfl, rfl⟩
      have he2 : cmpL X Y = if cmpI X[i] Y[i] ≠ 0 then cmpI X[i] Y[i] else cmpL (X.drop (i + 1)) (Y.drop (i + 1)) := by
        rw [he, List.drop_eq_getElem_cons h1, List.drop_eq_getElem_cons h2]; rfl
      (conv => whnf); refine brn (fun k => ?_) (fun k => ?_)
      · have hk : cmpI X[i] Y[i] ≠ 0 := by simpa using k
        repeat' ((conv => whnf); first | refine ⟨?_, True.intro⟩ | refine brn_t rfl ?_ | refine brn_f rfl ?_ | refine ob rfl ?_ | refine ob (by decide) ?_ | refine grow_same (Mem.le_refl _) ?_ | refine ob (Mem.le_refl _) ?_ | refine ⟨_, Mem.le_refl _, ?_⟩ | fail)
        refine ⟨?_, rfl⟩
        rw [he2, if_pos hk]
      · have hk : ¬ cmpI X[i] Y[i] ≠ 0 := by simpa using k
        (conv => whnf); refine ob (inR_i64 (by omega)) ?_
        (conv => whnf)
        refine ⟨i + 1, ⟨by omega, by omega, ?_⟩, by omega, ⟨(by repeat' first | exact True.intro | refine ⟨rfl, ?_⟩), (by repeat' first | exact True.intro | refine ⟨rfl, ?_⟩), Mem.le_refl _, rfl⟩⟩
        rw [he2, if_neg hk]
  · have hge : n ≤ i := by have := of_decide_eq_false h; omega
    have hdx : X.drop i = [] := List.drop_of_length_le (by omega)
    (conv => whnf); refine brn (fun g => ?_) (fun g => ?_)
    · have hlt2 : i < m := by have := of_decide_eq_true g; omega
      repeat' ((conv => whnf); first | refine ⟨?_, True.intro⟩ | refine brn_t rfl ?_ | refine brn_f rfl ?_ | refine ob rfl ?_ | refine ob (by decide) ?_ | refine grow_same (Mem.le_refl _) ?_ | refine ob (Mem.le_refl _) ?_ | refine ⟨_, Mem.le_refl _, ?_⟩ | fail)
      refine ⟨?_, rfl⟩
      rw [he, hdx, List.drop_eq_getElem_cons (l := Y) (by omega)]; rfl
    · have hge2 : m ≤ i := by have := of_decide_eq_false g; omega
      repeat' ((conv => whnf); first | refine ⟨?_, True.intro⟩ | refine brn_t rfl ?_ | refine brn_f rfl ?_ | refine ob rfl ?_ | refine ob (by decide) ?_ | refine grow_same (Mem.le_refl _) ?_ | refine ob (Mem.le_refl _) ?_ | refine ⟨_, Mem.le_refl _, ?_⟩ | fail)
      refine ⟨?_, rfl⟩
      rw [he, hdx, List.drop_of_length_le (l := Y) (by omega)]; rfl
/-- a mark as it lies in a row -/
structure MkC where
  o : Int
  e : Int
  up : Int
  a : Option Addr
  c : Nat
  more : List Int
deriving Inhabited
@[reducible] def encM (m : MkC) : List Value := [.int .i64 m.o, .int .i64 m.e, .int .i64 m.up, .slice m.a m.more.length m.c]
theorem encM_len (m : MkC) : (encM m).length = 4 := rfl
def cmpM (x y : MkC) : Int := cmpL [x.o, x.e] [y.o, y.e]
theorem cmpM_ok (x y : MkC) : CallsM Try.prog F.seen_Set_Marks_1 [.agg (encM x).toArray, .agg (encM y).toArray] M fun v _ => v = .int .i64 (cmpM x y) := by
  refine fo_seen_Set_Marks_1 (by simp) ?_
  repeat' ((conv => whnf); first | refine ⟨?_, True.intro⟩ | refine brn_t rfl ?_ | refine brn_f rfl ?_ | refine ob rfl ?_ | refine ob (by decide) ?_ | refine grow_same (Mem.le_refl _) ?_ | refine ob (Mem.le_refl _) ?_ | refine ⟨_, Mem.le_refl _, ?_⟩ | fail)
  refine new (fun b1 hb1 => ?_)
  replace hb1 : M b1 = none := hb1
  repeat' ((conv => whnf); first | refine ⟨?_, True.intro⟩ | refine brn_t rfl ?_ | refine brn_f rfl ?_ | refine ob rfl ?_ | refine ob (by decide) ?_ | refine grow_same (Mem.le_refl _) ?_ | refine ob (Mem.le_refl _) ?_ | refine ⟨_, Mem.le_refl _, ?_⟩ | fail)
  refine new (fun b2 hb2 => ?_)
  replace hb2 : (M.setCells b1 T.int [.int .i64 x.o, .int .i64 x.e]) b2 = none := hb2
  repeat' ((conv => whnf); first | refine ⟨?_, True.intro⟩ | refine brn_t rfl ?_ | refine brn_f rfl ?_ | refine ob rfl ?_ | refine ob (by decide) ?_ | refine grow_same (Mem.le_refl _) ?_ | refine ob (Mem.le_refl _) ?_ | refine ⟨_, Mem.le_refl _, ?_⟩ | fail)
  refine (compare_ok (X := [x.o, x.e]) (Y := [y.o, y.e]) ?_ ?_ (by omega) (by omega)).mono ?_
  · exact ((Mem.has_setCells (M := M)).src rfl).le (Mem.le_setCells hb2)
  · exact Mem.has_setCells.src rfl
  rintro v _ ⟨rfl, rfl⟩
  repeat' ((conv => whnf); first | refine ⟨?_, True.intro⟩ | refine brn_t rfl ?_ | refine brn_f rfl ?_ | refine ob rfl ?_ | refine ob (by decide) ?_ | refine grow_same (Mem.le_refl _) ?_ | refine ob (Mem.le_refl _) ?_ | refine ⟨_, Mem.le_refl _, ?_⟩ | fail)
  rfl
theorem cmpM_lt (x y : MkC) : cmpM x y < 0 ↔ x.o < y.o ∨ (x.o = y.o ∧ x.e < y.e) := by
  unfold cmpM cmpL cmpL cmpL cmpI
  repeat' split
  all_goals omega
theorem cmpM_swo : Go.Sort.SWO (Go.Proofs.ltOf cmpM) := by
  have h : ∀ x y : MkC, Go.Proofs.ltOf cmpM x y = decide (x.o < y.o ∨ (x.o = y.o ∧ x.e < y.e)) := fun x y => by
    unfold Go.Proofs.ltOf
    simp only [cmpM_lt]
  refine ⟨fun x => ?_, fun x y z => ?_, fun x y z => ?_⟩ <;> simp only [h, decide_eq_true_eq, decide_eq_false_iff_not] <;> omega
end Go.Proofs.Ytmifjilknojkaaa
