/- Tables of ways: how they lie, and what a neighbour costs. -/
import Derived.Test.YtankgacaeejlhaaCodeA
import Derived.Test.YtankgacaeejlhaaVmO
namespace Go.Proofs.Ytankgacaeejlhaa
open Go Go.Vm
attribute [local irreducible] Brn Ob CallsM inR LoopVC Mem.row Mem.cells Mem.setCells Mem.upd Own AppVC SrcVC StrVC NextVC New SrcOk subA NewSl Mem.textAt Mem.mapAt Mem.iterAt entryOf kfind Wr NewEls Elems
set_option maxRecDepth 10000
@[reducible] def intV (n : Int) : Value := .int .i64 n
@[reducible] def ptr (p : Nat) : Value := .pointer (some ⟨p, 0, none⟩)
theorem intKey : KeyOk intV := by
  intro a b
  simp [intV, sameV]
set_option maxRecDepth 10000 in
theorem index_ok (a : Option Addr) (n c : Nat) (x : Int) (M : Mem) (l : List Int) (hs : SrcOk M 1 a n (l.map intV)) (hn : n ≤ 4194304) :
    CallsM Try.prog F.slices_Index_int_int [.slice a n c, .int .i64 x] M fun v M' => (∃ i : Int, v = .int .i64 i ∧ (0 ≤ i ↔ x ∈ l)) ∧ M = M' := by
  refine fo_slices_Index_int_int (by simp) ?_
  have hl := hs.maplen
  (conv => whnf)
  refine loopQ [8] (fun (i : Nat) => [(8, .int .i64 i)]) (fun i => i ≤ n ∧ x ∉ l.take i) (fun i => n - i) 0 ⟨by omega, by simp⟩ ⟨(by repeat' first | exact True.intro | refine ⟨rfl, ?_⟩), (by repeat' first | exact True.intro | refine ⟨rfl, ?_⟩), Mem.le_refl _, rfl⟩ ?_
  intro i ⟨hi, hnot⟩
  (conv => whnf); refine brn (fun h => ?_) (fun h => ?_)
  · simp only [decide_eq_true_eq] at h
    obtain ⟨hlt, b, o, rfl, hrow⟩ := hs.at (i := i) (by omega)
    (conv => whnf); refine ob (by omega) ?_
    (conv => whnf); refine on hrow ?_
    (conv => whnf); refine brn (fun g => ?_) (fun g => ?_)
    · (conv => whnf)
      refine ⟨⟨i, rfl, ?_⟩, rfl⟩
      simp only [decide_eq_true_eq] at g
      subst g
      exact ⟨fun _ => List.getElem_mem _, fun _ => by omega⟩
    · (conv => whnf); refine ob (inR_i64 (by omega)) ?_
      (conv => whnf)
      refine ⟨i + 1, ⟨by omega, ?_⟩, by omega, ⟨(by repeat' first | exact True.intro | refine ⟨rfl, ?_⟩), (by repeat' first | exact True.intro | refine ⟨rfl, ?_⟩), Mem.le_refl _, rfl⟩⟩
      simp only [decide_eq_false_iff_not] at g
      rw [List.take_add_one, List.getElem?_eq_getElem hlt]
      simp only [Option.toList_some, List.mem_append, List.mem_singleton, not_or]
      exact ⟨hnot, g⟩
  · (conv => whnf)
    simp only [decide_eq_false_iff_not] at h
    refine ⟨⟨-1, rfl, ?_⟩, rfl⟩
    rw [List.take_of_length_le (by omega)] at hnot
    simp [hnot]
theorem contains_ok (a : Option Addr) (n c : Nat) (x : Int) (M : Mem) (l : List Int) (hs : SrcOk M 1 a n (l.map intV)) (hn : n ≤ 4194304) :
    CallsM Try.prog F.slices_Contains_int_int [.slice a n c, .int .i64 x] M fun v M' => v = .bool (decide (x ∈ l)) ∧ M = M' := by
  refine fo_slices_Contains_int_int (by simp) ?_
  (conv => whnf); refine (index_ok a n c x M l hs hn).mono ?_
  rintro v M' ⟨⟨i, rfl, hi⟩, rfl⟩
  (conv => whnf)
  exact ⟨by simp [hi], rfl⟩
/-- what a neighbour said, and how long it stays -/
structure Hd where
  c : Nat → Int
  left : Int
@[reducible] def Hd.vs (h : Hd) : List Value := [.int .i64 (h.c 0), .int .i64 (h.c 1), .int .i64 (h.c 2), .int .i64 (h.c 3), .int .i64 (h.c 4), .int .i64 (h.c 5), .int .i64 (h.c 6), .int .i64 (h.c 7), .int .i64 (h.c 8), .int .i64 (h.c 9), .int .i64 (h.c 10), .int .i64 (h.c 11), .int .i64 (h.c 12), .int .i64 (h.c 13), .int .i64 (h.c 14), .int .i64 (h.c 15), .int .i64 (h.c 16), .int .i64 (h.c 17), .int .i64 (h.c 18), .int .i64 (h.c 19), .int .i64 (h.c 20), .int .i64 (h.c 21), .int .i64 (h.c 22), .int .i64 (h.c 23), .int .i64 (h.c 24), .int .i64 (h.c 25), .int .i64 (h.c 26), .int .i64 (h.c 27), .int .i64 (h.c 28), .int .i64 (h.c 29), .int .i64 (h.c 30), .int .i64 (h.c 31), .int .i64 (h.c 32), .int .i64 (h.c 33), .int .i64 (h.c 34), .int .i64 (h.c 35), .int .i64 (h.c 36), .int .i64 (h.c 37), .int .i64 (h.c 38), .int .i64 (h.c 39), .int .i64 (h.c 40), .int .i64 (h.c 41), .int .i64 (h.c 42), .int .i64 (h.c 43), .int .i64 (h.c 44), .int .i64 (h.c 45), .int .i64 (h.c 46), .int .i64 (h.c 47), .int .i64 (h.c 48), .int .i64 (h.c 49), .int .i64 (h.c 50), .int .i64 (h.c 51), .int .i64 (h.c 52), .int .i64 (h.c 53), .int .i64 (h.c 54), .int .i64 (h.c 55), .int .i64 (h.c 56), .int .i64 (h.c 57), .int .i64 (h.c 58), .int .i64 (h.c 59), .int .i64 (h.c 60), .int .i64 (h.c 61), .int .i64 (h.c 62), .int .i64 (h.c 63), .int .i64 h.left]
@[reducible] def Hd.v (h : Hd) : Value := .agg #[.int .i64 (h.c 0), .int .i64 (h.c 1), .int .i64 (h.c 2), .int .i64 (h.c 3), .int .i64 (h.c 4), .int .i64 (h.c 5), .int .i64 (h.c 6), .int .i64 (h.c 7), .int .i64 (h.c 8), .int .i64 (h.c 9), .int .i64 (h.c 10), .int .i64 (h.c 11), .int .i64 (h.c 12), .int .i64 (h.c 13), .int .i64 (h.c 14), .int .i64 (h.c 15), .int .i64 (h.c 16), .int .i64 (h.c 17), .int .i64 (h.c 18), .int .i64 (h.c 19), .int .i64 (h.c 20), .int .i64 (h.c 21), .int .i64 (h.c 22), .int .i64 (h.c 23), .int .i64 (h.c 24), .int .i64 (h.c 25), .int .i64 (h.c 26), .int .i64 (h.c 27), .int .i64 (h.c 28), .int .i64 (h.c 29), .int .i64 (h.c 30), .int .i64 (h.c 31), .int .i64 (h.c 32), .int .i64 (h.c 33), .int .i64 (h.c 34), .int .i64 (h.c 35), .int .i64 (h.c 36), .int .i64 (h.c 37), .int .i64 (h.c 38), .int .i64 (h.c 39), .int .i64 (h.c 40), .int .i64 (h.c 41), .int .i64 (h.c 42), .int .i64 (h.c 43), .int .i64 (h.c 44), .int .i64 (h.c 45), .int .i64 (h.c 46), .int .i64 (h.c 47), .int .i64 (h.c 48), .int .i64 (h.c 49), .int .i64 (h.c 50), .int .i64 (h.c 51), .int .i64 (h.c 52), .int .i64 (h.c 53), .int .i64 (h.c 54), .int .i64 (h.c 55), .int .i64 (h.c 56), .int .i64 (h.c 57), .int .i64 (h.c 58), .int .i64 (h.c 59), .int .i64 (h.c 60), .int .i64 (h.c 61), .int .i64 (h.c 62), .int .i64 (h.c 63), .int .i64 h.left]
@[reducible] def Hd.cs (h : Hd) : List SC := [.v (.int .i64 (h.c 0)), .v (.int .i64 (h.c 1)), .v (.int .i64 (h.c 2)), .v (.int .i64 (h.c 3)), .v (.int .i64 (h.c 4)), .v (.int .i64 (h.c 5)), .v (.int .i64 (h.c 6)), .v (.int .i64 (h.c 7)), .v (.int .i64 (h.c 8)), .v (.int .i64 (h.c 9)), .v (.int .i64 (h.c 10)), .v (.int .i64 (h.c 11)), .v (.int .i64 (h.c 12)), .v (.int .i64 (h.c 13)), .v (.int .i64 (h.c 14)), .v (.int .i64 (h.c 15)), .v (.int .i64 (h.c 16)), .v (.int .i64 (h.c 17)), .v (.int .i64 (h.c 18)), .v (.int .i64 (h.c 19)), .v (.int .i64 (h.c 20)), .v (.int .i64 (h.c 21)), .v (.int .i64 (h.c 22)), .v (.int .i64 (h.c 23)), .v (.int .i64 (h.c 24)), .v (.int .i64 (h.c 25)), .v (.int .i64 (h.c 26)), .v (.int .i64 (h.c 27)), .v (.int .i64 (h.c 28)), .v (.int .i64 (h.c 29)), .v (.int .i64 (h.c 30)), .v (.int .i64 (h.c 31)), .v (.int .i64 (h.c 32)), .v (.int .i64 (h.c 33)), .v (.int .i64 (h.c 34)), .v (.int .i64 (h.c 35)), .v (.int .i64 (h.c 36)), .v (.int .i64 (h.c 37)), .v (.int .i64 (h.c 38)), .v (.int .i64 (h.c 39)), .v (.int .i64 (h.c 40)), .v (.int .i64 (h.c 41)), .v (.int .i64 (h.c 42)), .v (.int .i64 (h.c 43)), .v (.int .i64 (h.c 44)), .v (.int .i64 (h.c 45)), .v (.int .i64 (h.c 46)), .v (.int .i64 (h.c 47)), .v (.int .i64 (h.c 48)), .v (.int .i64 (h.c 49)), .v (.int .i64 (h.c 50)), .v (.int .i64 (h.c 51)), .v (.int .i64 (h.c 52)), .v (.int .i64 (h.c 53)), .v (.int .i64 (h.c 54)), .v (.int .i64 (h.c 55)), .v (.int .i64 (h.c 56)), .v (.int .i64 (h.c 57)), .v (.int .i64 (h.c 58)), .v (.int .i64 (h.c 59)), .v (.int .i64 (h.c 60)), .v (.int .i64 (h.c 61)), .v (.int .i64 (h.c 62)), .v (.int .i64 (h.c 63)), .v (.int .i64 h.left)]
def Hd.set (h : Hd) (i : Nat) (x : Int) : Hd := ⟨fun k => if k = i then x else h.c k, h.left⟩
theorem Hd.cs_eq (h : Hd) : h.cs = (List.range 64).map (fun i => SC.v (.int .i64 (h.c i))) ++ [.v (.int .i64 h.left)] := rfl
theorem Hd.take1 (h : Hd) {i : Nat} (hi : i < 64) : takeC h.cs (0 + i * 1) 1 = some [.v (.int .i64 (h.c i))] := by
  have hl : h.cs.length = 65 := rfl
  unfold takeC
  rw [if_pos (by rw [hl]; omega), Hd.cs_eq]
  rw [List.drop_append_of_le_length (by simp; omega), List.take_append_of_le_length (by simp; omega)]
  rw [List.drop_eq_getElem_cons (by simp; omega)]
  simp
theorem Hd.fit1 (h : Hd) {i : Nat} (hi : i < 64) (x : Int) : fitC [SC.v (.int .i64 x)] (0 + i * 1) 1 h.cs = some (h.set i x).cs := by
  have hl : h.cs.length = 65 := rfl
  unfold fitC
  rw [if_pos ⟨rfl, by rw [hl]; omega⟩]
  congr 1
  rw [splice_one _ _ _ (by rw [hl]; omega), Hd.cs_eq, Hd.cs_eq]
  rw [List.set_append_left _ _ (by simp; omega)]
  congr 1
  apply List.ext_getElem
  · simp
  · intro j h1 h2
    simp only [List.getElem_set, List.getElem_map, List.getElem_range, Hd.set]
    by_cases hj : j = i
    · subst hj; simp
    · rw [if_neg (by omega), if_neg hj]
/-- where a table lies: its words at p, its maps at b1 and b2, its neighbours at a -/
structure TabAt (M : Mem) (p b1 b2 : Nat) (a : Option Addr) (n c : Nat) (me age : Int) (nb : List Int) (st : List (Int × Int)) (m : List (Int × Hd)) : Prop where
  self : M.has p T.routes_Table [.int .i64 me, .int .i64 age, .slice a n c, .map (some b1), .map (some b2)]
  n1 : p ≠ b1
  n2 : p ≠ b2
  n12 : b1 ≠ b2
  nbs : SrcOk M 1 a n (nb.map intV)
  na : ∀ q, a = some q → q.block ≠ b1 ∧ q.block ≠ b2
  set : MapAt intV intV M b1 st
  hrd : MapAt intV Hd.v M b2 m
/-- what was said are costs -/
def GoodM (m : List (Int × Hd)) : Prop := ∀ k h, aget m k = some h → ∀ i, i < 64 → 0 ≤ h.c i ∧ h.c i ≤ 16
def byC (m : List (Int × Hd)) (dest n : Int) : Int := match aget m n with | some h => min 16 (h.c dest.toNat + 1) | none => 16
def isNode (n : Int) : Bool := decide (0 ≤ n) && decide (n < 64)
theorem node_ok (n : Int) (M : Mem) : CallsM Try.prog F.routes_node [.int .i64 n] M fun v M' => v = .bool (isNode n) ∧ M = M' := by
  refine fo_routes_node (by simp) ?_
  (conv => whnf); refine brn (fun h => ?_) (fun h => ?_)
  · (conv => whnf)
    exact ⟨by first | (simp_all [isNode]; done) | (simp_all [isNode]; omega), rfl⟩
  · (conv => whnf)
    exact ⟨by first | (simp_all [isNode]; done) | (simp_all [isNode]; omega), rfl⟩
variable {M : Mem} {p b1 b2 : Nat} {a : Option Addr} {n c : Nat} {me age : Int} {nb : List Int} {st : List (Int × Int)} {m : List (Int × Hd)}
theorem near_ok (ht : TabAt M p b1 b2 a n c me age nb st m) (hn : n ≤ 4194304) (x : Int) : CallsM Try.prog F.routes_Table_near [ptr p, .int .i64 x] M fun v M' => v = .bool (decide (x ∈ nb)) ∧ M = M' := by
  refine fo_routes_Table_near (by simp) ?_
  (conv => whnf); refine on (ht.self.c1 rfl) ?_
  (conv => whnf); refine (contains_ok a n c x M nb ht.nbs hn).mono ?_
  rintro v M' ⟨rfl, rfl⟩
  (conv => whnf)
  exact ⟨rfl, rfl⟩
set_option maxRecDepth 20000 in
theorem cost_ok (ht : TabAt M p b1 b2 a n c me age nb st m) (hg : GoodM m) (dest x : Int) (hd : 0 ≤ dest ∧ dest < 64) : CallsM Try.prog F.routes_Table_cost [ptr p, .int .i64 dest, .int .i64 x] M fun v M' => v = .int .i64 (byC m dest x) ∧ M = M' := by
  refine fo_routes_Table_cost (by simp) ?_
  (conv => whnf); refine on (ht.self.c1 rfl) ?_
  (conv => whnf)
  refine ht.hrd.get intKey x (fun h => ?_) (fun h j hh => ?_)
  · repeat' ((conv => whnf); first | refine ⟨?_, True.intro⟩ | refine brn_t rfl ?_ | refine brn_f rfl ?_ | refine ob rfl ?_ | refine ob (by decide) ?_ | refine ob (Mem.le_refl _) ?_ | refine ⟨_, Mem.le_refl _, ?_⟩ | fail)
    exact ⟨by simp [byC, h], rfl⟩
  · have hgd := hg x h hh dest.toNat (by omega)
    repeat' ((conv => whnf); first | refine ⟨?_, True.intro⟩ | refine brn_t rfl ?_ | refine brn_f rfl ?_ | refine ob rfl ?_ | refine ob (by decide) ?_ | refine ob (Mem.le_refl _) ?_ | refine ⟨_, Mem.le_refl _, ?_⟩ | fail)
    refine ob hd ?_
    (conv => whnf); refine on (h.take1 (i := dest.toNat) (by omega)) ?_
    (conv => whnf); refine ob (inR_i64 (by omega)) ?_
    (conv => whnf)
    exact ⟨by simp [byC, hh], rfl⟩
end Go.Proofs.Ytankgacaeejlhaa
