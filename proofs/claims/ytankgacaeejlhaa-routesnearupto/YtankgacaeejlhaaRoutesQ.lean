/- Tables of ways: the document's table: what is read of it. -/
import Derived.Test.YtankgacaeejlhaaRoutesA
namespace Go.Proofs.Ytankgacaeejlhaa
open Go Go.Vm
attribute [local irreducible] Brn Ob CallsM inR LoopVC Mem.row Mem.cells Mem.setCells Mem.upd Own AppVC SrcVC StrVC NextVC New SrcOk subA NewSl Mem.textAt Mem.mapAt Mem.iterAt entryOf kfind Wr NewEls Elems
set_option maxRecDepth 10000
variable {M : Mem}
/-- where the document's table lies -/
structure Ref where
  a : Option Addr
  n : Nat
  c : Nat
  a2 : Option Addr
  n2 : Nat
  c2 : Nat
  a3 : Option Addr
  n3 : Nat
  c3 : Nat
@[reducible] def Ref.v (q : Ref) (me age : Int) : Value := .agg #[.int .i64 me, .int .i64 age, .slice q.a q.n q.c, .slice q.a2 q.n2 q.c2, .slice q.a3 q.n3 q.c3]
@[reducible] def RouteR (_ : Mem) (cs : List Value) (x : Int × Int) : Prop := cs = [.int .i64 x.1, .int .i64 x.2]
def HrdR (M : Mem) (cs : List Value) (x : Int × Hd) : Prop := ∃ a c, cs = [.int .i64 x.1, .slice a 64 c, .int .i64 x.2.left] ∧ SrcOk M 1 a 64 ((List.range 64).map fun (i : Nat) => intV (x.2.c i))
structure RefAt (M : Mem) (q : Ref) (nb : List Int) (st : List (Int × Int)) (l : List (Int × Hd)) : Prop where
  nb : SrcOk M 1 q.a q.n (nb.map intV)
  st : Elems M 2 q.a2 q.n2 (RouteR M) st
  l : Elems M 3 q.a3 q.n3 (HrdR M) l
  s1 : q.n ≤ 4194304
  s2 : q.n2 ≤ 4194304
  s3 : q.n3 ≤ 4194304
theorem nodeR_ok (n : Int) : CallsM Try.prog F.ref18_Node [.int .i64 n] M fun v M' => v = .bool (isNode n) ∧ M = M' := by
  refine fo_ref18_Node (by simp) ?_
  (conv => whnf); refine brn (fun h => ?_) (fun h => ?_)
  · (conv => whnf)
    exact ⟨by first | (simp_all [isNode]; done) | (simp_all [isNode]; omega), rfl⟩
  · (conv => whnf)
    exact ⟨by first | (simp_all [isNode]; done) | (simp_all [isNode]; omega), rfl⟩
theorem hasR_ok {a : Option Addr} {n c : Nat} {l : List Int} (hs : SrcOk M 1 a n (l.map intV)) (hn : n ≤ 4194304) (x : Int) : CallsM Try.prog F.ref18_Has [.slice a n c, .int .i64 x] M fun v M' => v = .bool (decide (x ∈ l)) ∧ M = M' := by
  refine fo_ref18_Has (by simp) ?_
  have hl := hs.maplen
  (conv => whnf)
  refine loopQ [5] (fun (i : Nat) => [(5, .int .i64 i)]) (fun i => i ≤ n ∧ x ∉ l.take i) (fun i => n - i) 0 ⟨by omega, by simp⟩ ⟨(by repeat' first | exact True.intro | refine ⟨rfl, ?_⟩), (by repeat' first | exact True.intro | refine ⟨rfl, ?_⟩), Mem.le_refl _, rfl⟩ ?_
  intro i ⟨hi, hnot⟩
  (conv => whnf); refine brn (fun h => ?_) (fun h => ?_)
  · simp only [decide_eq_true_eq] at h
    obtain ⟨hlt, b, o, rfl, hrow⟩ := hs.at (i := i) (by omega)
    (conv => whnf); refine ob (by omega) ?_
    (conv => whnf); refine on hrow ?_
    (conv => whnf); refine brn (fun g => ?_) (fun g => ?_)
    · (conv => whnf)
      simp only [decide_eq_true_eq] at g
      subst g
      exact ⟨by simp [List.getElem_mem], rfl⟩
    · (conv => whnf); refine ob (inR_i64 (by omega)) ?_
      (conv => whnf)
      refine ⟨i + 1, ⟨by omega, ?_⟩, by omega, ⟨(by repeat' first | exact True.intro | refine ⟨rfl, ?_⟩), (by repeat' first | exact True.intro | refine ⟨rfl, ?_⟩), Mem.le_refl _, rfl⟩⟩
      simp only [decide_eq_false_iff_not] at g
      rw [List.take_add_one, List.getElem?_eq_getElem hlt]
      simp only [Option.toList_some, List.mem_append, List.mem_singleton, not_or]
      exact ⟨hnot, fun e => g e.symm⟩
  · (conv => whnf)
    simp only [decide_eq_false_iff_not] at h
    rw [List.take_of_length_le (by omega)] at hnot
    exact ⟨by simp [hnot], rfl⟩
variable {q : Ref} {nb : List Int} {st : List (Int × Int)} {l : List (Int × Hd)}
def viaR (st : List (Int × Int)) (d : Int) : Int := (aget st d).getD (-1)
theorem aget_drop {α : Type} {l : List (Int × α)} {i : Nat} (hi : i < l.length) (d : Int) : aget (l.drop i) d = if l[i].1 = d then some l[i].2 else aget (l.drop (i + 1)) d := by
  rw [List.drop_eq_getElem_cons hi]
  rfl
theorem via_ok (h : RefAt M q nb st l) (me age d : Int) : CallsM Try.prog F.ref18_via [q.v me age, .int .i64 d] M fun v M' => v = .int .i64 (viaR st d) ∧ M = M' := by
  refine fo_ref18_via (by simp) ?_
  have hl := h.st.len
  have hs2 := h.s2
  (conv => whnf)
  refine loopQ (σ := Nat) [5] (fun i => [(5, .int .i64 i)]) (fun i => i ≤ q.n2 ∧ aget st d = aget (st.drop i) d) (fun i => q.n2 - i) 0 ⟨by omega, rfl⟩ ⟨(by repeat' first | exact True.intro | refine ⟨rfl, ?_⟩), (by repeat' first | exact True.intro | refine ⟨rfl, ?_⟩), Mem.le_refl _, rfl⟩ ?_
  intro i ⟨hi, he⟩
  (conv => whnf); refine brn (fun g => ?_) (fun g => ?_)
  · have hi' : i < q.n2 := by have := of_decide_eq_true g; omega
    obtain ⟨hlt, b, o, cs, ha, hrows, hrow, hcl, rfl⟩ := h.st.at (by decide) (i := i) hi'
    rw [aget_drop hlt] at he
    (conv => whnf); refine ob (by omega) ?_
    (conv => whnf); refine atp ha ?_
    (conv => whnf); refine on (hrows 0 1 (by decide)) ?_
    (conv => whnf); refine brn (fun g1 => ?_) (fun g1 => ?_)
    · rw [if_pos (of_decide_eq_true g1)] at he
      (conv => whnf); refine ob (by omega) ?_
      (conv => whnf); refine atp ha ?_
      (conv => whnf); refine on (hrows 1 1 (by decide)) ?_
      (conv => whnf)
      exact ⟨by simp [viaR, he], rfl⟩
    · rw [if_neg (of_decide_eq_false g1)] at he
      (conv => whnf); refine ob (inR_i64 (by omega)) ?_
      (conv => whnf)
      exact ⟨i + 1, ⟨by omega, he⟩, by omega, ⟨(by repeat' first | exact True.intro | refine ⟨rfl, ?_⟩), (by repeat' first | exact True.intro | refine ⟨rfl, ?_⟩), Mem.le_refl _, rfl⟩⟩
  · have hi' : i = q.n2 := by have := of_decide_eq_false g; omega
    rw [List.drop_of_length_le (by omega)] at he
    (conv => whnf)
    exact ⟨by simp [viaR, he, aget], rfl⟩
theorem by_ok (h : RefAt M q nb st l) (hg : GoodM l) (me age : Int) {d : Int} (hd : 0 ≤ d ∧ d < 64) (x : Int) : CallsM Try.prog F.ref18_By [q.v me age, .int .i64 d, .int .i64 x] M fun v M' => v = .int .i64 (byC l d x) ∧ M = M' := by
  refine fo_ref18_By (by simp) ?_
  have hl := h.l.len
  have hs3 := h.s3
  (conv => whnf)
  refine loopQ (σ := Nat) [7] (fun i => [(7, .int .i64 i)]) (fun i => i ≤ q.n3 ∧ aget l x = aget (l.drop i) x) (fun i => q.n3 - i) 0 ⟨by omega, rfl⟩ ⟨(by repeat' first | exact True.intro | refine ⟨rfl, ?_⟩), (by repeat' first | exact True.intro | refine ⟨rfl, ?_⟩), Mem.le_refl _, rfl⟩ ?_
  intro i ⟨hi, he⟩
  (conv => whnf); refine brn (fun g => ?_) (fun g => ?_)
  · have hi' : i < q.n3 := by have := of_decide_eq_true g; omega
    obtain ⟨hlt, b, o, cs, ha, hrows, hrow, hcl, a4, c4, rfl, hc4⟩ := h.l.at (by decide) (i := i) hi'
    rw [aget_drop hlt] at he
    (conv => whnf); refine ob (by omega) ?_
    (conv => whnf); refine atp ha ?_
    (conv => whnf); refine on (hrows 0 1 (by decide)) ?_
    (conv => whnf); refine brn (fun g1 => ?_) (fun g1 => ?_)
    · rw [if_pos (of_decide_eq_true g1)] at he
      have hb := hg x _ he d.toNat (by omega)
      obtain ⟨b5, o5, rfl, hr5⟩ := hc4.get (j := d.toNat) (v := intV (l[i].2.c d.toNat)) (by rw [List.getElem?_map, List.getElem?_range (by omega)]; rfl)
      (conv => whnf); refine ob (by omega) ?_
      (conv => whnf); refine atp ha ?_
      (conv => whnf); refine on (hrows 1 1 (by decide)) ?_
      (conv => whnf); refine ob (by omega) ?_
      (conv => whnf); refine on hr5 ?_
      (conv => whnf); refine ob (inR_i64 (by omega)) ?_
      (conv => whnf)
      exact ⟨by simp [byC, he], rfl⟩
    · rw [if_neg (of_decide_eq_false g1)] at he
      (conv => whnf); refine ob (inR_i64 (by omega)) ?_
      (conv => whnf)
      exact ⟨i + 1, ⟨by omega, he⟩, by omega, ⟨(by repeat' first | exact True.intro | refine ⟨rfl, ?_⟩), (by repeat' first | exact True.intro | refine ⟨rfl, ?_⟩), Mem.le_refl _, rfl⟩⟩
  · have hi' : i = q.n3 := by have := of_decide_eq_false g; omega
    rw [List.drop_of_length_le (by omega)] at he
    (conv => whnf)
    exact ⟨by simp [byC, he, aget], rfl⟩
/-- the least over all neighbours -/
def lstN (l : List (Int × Hd)) (d : Int) (nb : List Int) : Int := nb.foldl (fun x k => min x (byC l d k)) 16
theorem byC_range {l : List (Int × Hd)} (hg : GoodM l) {d : Int} (hd : 0 ≤ d ∧ d < 64) (x : Int) : 0 ≤ byC l d x ∧ byC l d x ≤ 16 := by
  unfold byC
  cases e : aget l x with
  | none => dsimp only; omega
  | some h => have := hg x h e d.toNat (by omega); dsimp only; omega
def costR (me : Int) (nb : List Int) (st : List (Int × Int)) (l : List (Int × Hd)) (d : Int) : Int :=
  if isNode d then (if d = me then 0 else if 0 ≤ viaR st d then byC l d (viaR st d) else lstN l d nb) else 16
theorem costR_ok (h : RefAt M q nb st l) (hg : GoodM l) (me age d : Int) : CallsM Try.prog F.ref18_Cost [q.v me age, .int .i64 d] M fun v M' => v = .int .i64 (costR me nb st l d) ∧ M = M' := by
  refine fo_ref18_Cost (by simp) ?_
  have hl := h.nb.maplen
  have hs1 := h.s1
  (conv => whnf); refine (nodeR_ok d).mono ?_
  rintro v _ ⟨rfl, rfl⟩
  (conv => whnf); refine brn (fun g => ?_) (fun g => ?_)
  · (conv => whnf)
    exact ⟨by simp at g; simp [costR, g], rfl⟩
  have hd : isNode d = true := by simpa using g
  have hd' : 0 ≤ d ∧ d < 64 := by simpa [isNode] using hd
  (conv => whnf); refine brn (fun g => ?_) (fun g => ?_)
  · (conv => whnf)
    exact ⟨by simp at g; subst g; simp [costR, hd], rfl⟩
  have hne : d ≠ me := by simpa using g
  (conv => whnf); refine (via_ok h me age d).mono ?_
  rintro v _ ⟨rfl, rfl⟩
  (conv => whnf); refine brn (fun g => ?_) (fun g => ?_)
  · (conv => whnf); refine ⟨M, Mem.le_refl _, ?_⟩
    repeat' ((conv => whnf); first | refine ob rfl ?_ | refine ob (Mem.le_refl _) ?_ | refine ⟨?_, True.intro⟩ | fail)
    refine (via_ok h me age d).mono ?_
    rintro v _ ⟨rfl, rfl⟩
    repeat' ((conv => whnf); first | refine ob rfl ?_ | refine ob (Mem.le_refl _) ?_ | refine ⟨?_, True.intro⟩ | fail)
    refine (by_ok h hg me age hd' _).mono ?_
    rintro v _ ⟨rfl, rfl⟩
    have g' : 0 ≤ viaR st d := of_decide_eq_true g
    (conv => whnf)
    exact ⟨by simp [costR, hd, hne, g'], rfl⟩
  · have g' : ¬ 0 ≤ viaR st d := of_decide_eq_false g
    (conv => whnf)
    refine loopQ (σ := Nat) [6, 5] (fun i => [(6, .int .i64 i), (5, .int .i64 (lstN l d (nb.take i)))]) (fun i => i ≤ q.n) (fun i => q.n - i) 0 (by omega) ⟨(by repeat' first | exact True.intro | refine ⟨rfl, ?_⟩), (by repeat' first | exact True.intro | refine ⟨rfl, ?_⟩), Mem.le_refl _, rfl⟩ ?_
    intro i hi
    (conv => whnf); refine brn (fun g => ?_) (fun g => ?_)
    · have hi' : i < q.n := by have := of_decide_eq_true g; omega
      obtain ⟨hlt, b, o, ha, hrow⟩ := h.nb.at (i := i) hi'
      have e : lstN l d (nb.take (i + 1)) = min (lstN l d (nb.take i)) (byC l d nb[i]) := by
        unfold lstN
        rw [List.take_add_one, List.getElem?_eq_getElem hlt, List.foldl_append]; rfl
      (conv => whnf); refine ob (by omega) ?_
      (conv => whnf); refine atp ha ?_
      (conv => whnf); refine on hrow ?_
      repeat' ((conv => whnf); first | refine ob rfl ?_ | refine ob (Mem.le_refl _) ?_ | refine ⟨?_, True.intro⟩ | fail)
      refine (by_ok h hg me age hd' _).mono ?_
      rintro v _ ⟨rfl, rfl⟩
      (conv => whnf); refine ob (inR_i64 (by omega)) ?_
      (conv => whnf)
      refine ⟨i + 1, by omega, by omega, ?_⟩
      rw [e]
      exact ⟨(by repeat' first | exact True.intro | refine ⟨rfl, ?_⟩), (by repeat' first | exact True.intro | refine ⟨rfl, ?_⟩), Mem.le_refl _, rfl⟩
    · have hi' : i = q.n := by have := of_decide_eq_false g; omega
      (conv => whnf)
      rw [List.take_of_length_le (by omega)]
      exact ⟨by simp [costR, hd, hne, g'], rfl⟩
def nextR (me : Int) (nb : List Int) (st : List (Int × Int)) (l : List (Int × Hd)) (d : Int) : Option Int :=
  if isNode d && decide (d ≠ me) then (if 0 ≤ viaR st d then some (viaR st d) else nb.find? fun k => decide (byC l d k < 16) && decide (byC l d k = costR me nb st l d)) else none
@[reducible] def optT' (o : Option Int) : Value := .tuple #[.int .i64 (o.getD 0), .bool o.isSome]
theorem nextR_ok (h : RefAt M q nb st l) (hg : GoodM l) (me age d : Int) : CallsM Try.prog F.ref18_Next [q.v me age, .int .i64 d] M fun v M' => v = optT' (nextR me nb st l d) ∧ M = M' := by
  refine fo_ref18_Next (by simp) ?_
  have hl := h.nb.maplen
  have hs1 := h.s1
  (conv => whnf); refine (nodeR_ok d).mono ?_
  rintro v _ ⟨rfl, rfl⟩
  (conv => whnf); refine brn (fun g => ?_) (fun g => ?_)
  · have e : isNode d = false := by simpa using g
    repeat' ((conv => whnf); first | refine ⟨?_, True.intro⟩ | refine brn_t rfl ?_ | refine brn_f rfl ?_ | refine ob rfl ?_ | refine ob (by decide) ?_ | refine ob (Mem.le_refl _) ?_ | refine ⟨_, Mem.le_refl _, ?_⟩ | fail)
    exact ⟨by simp [nextR, e, optT'], rfl⟩
  have hd : isNode d = true := by simpa using g
  have hd' : 0 ≤ d ∧ d < 64 := by simpa [isNode] using hd
  (conv => whnf); refine brn (fun g => ?_) (fun g => ?_)
  · have e : d = me := of_decide_eq_true g
    (conv => whnf)
    exact ⟨by simp [nextR, e, optT'], rfl⟩
  have hne : d ≠ me := of_decide_eq_false g
  (conv => whnf); refine (via_ok h me age d).mono ?_
  rintro v _ ⟨rfl, rfl⟩
  (conv => whnf); refine brn (fun g => ?_) (fun g => ?_)
  · have g' : 0 ≤ viaR st d := of_decide_eq_true g
    (conv => whnf); refine (via_ok h me age d).mono ?_
    rintro v _ ⟨rfl, rfl⟩
    (conv => whnf)
    exact ⟨by simp [nextR, hd, hne, g', optT'], rfl⟩
  · have g' : ¬ 0 ≤ viaR st d := of_decide_eq_false g
    obtain ⟨f, hf⟩ : ∃ f : Int → Bool, f = fun k => decide (byC l d k < 16) && decide (byC l d k = costR me nb st l d) := ⟨_, rfl⟩
    have hres : nextR me nb st l d = nb.find? f := by simp [nextR, hd, hne, g', hf]
    (conv => whnf)
    refine loopQ (σ := Nat) [6] (fun i => [(6, .int .i64 i)]) (fun i => i ≤ q.n ∧ nb.find? f = (nb.drop i).find? f) (fun i => q.n - i) 0 ⟨by omega, rfl⟩ ⟨(by repeat' first | exact True.intro | refine ⟨rfl, ?_⟩), (by repeat' first | exact True.intro | refine ⟨rfl, ?_⟩), Mem.le_refl _, rfl⟩ ?_
    intro i ⟨hi, he⟩
    (conv => whnf); refine brn (fun g => ?_) (fun g => ?_)
    · have hi' : i < q.n := by have := of_decide_eq_true g; omega
      obtain ⟨hlt, b, o, ha, hrow⟩ := h.nb.at (i := i) hi'
      rw [List.drop_eq_getElem_cons hlt, List.find?_cons] at he
      have hfe : f nb[i] = (decide (byC l d nb[i] < 16) && decide (byC l d nb[i] = costR me nb st l d)) := by rw [hf]
      generalize nb[i] = y at *
      (conv => whnf); refine ob (by omega) ?_
      (conv => whnf); refine atp ha ?_
      (conv => whnf); refine on hrow ?_
      (conv => whnf); refine ⟨M, Mem.le_refl _, ?_⟩
      repeat' ((conv => whnf); first | refine ob rfl ?_ | refine ob (Mem.le_refl _) ?_ | refine ⟨?_, True.intro⟩ | fail)
      refine (by_ok h hg me age hd' _).mono ?_
      rintro v _ ⟨rfl, rfl⟩
      repeat' ((conv => whnf); first | refine ob rfl ?_ | refine ob (Mem.le_refl _) ?_ | refine ⟨?_, True.intro⟩ | fail)
      refine brn (fun g1 => ?_) (fun g1 => ?_)
      · repeat' ((conv => whnf); first | refine ob rfl ?_ | refine ob (Mem.le_refl _) ?_ | refine ⟨?_, True.intro⟩ | fail)
        refine (by_ok h hg me age hd' _).mono ?_
        rintro v _ ⟨rfl, rfl⟩
        repeat' ((conv => whnf); first | refine ob rfl ?_ | refine ob (Mem.le_refl _) ?_ | refine ⟨?_, True.intro⟩ | fail)
        refine (costR_ok h hg me age d).mono ?_
        rintro v _ ⟨rfl, rfl⟩
        (conv => whnf); refine brn (fun g2 => ?_) (fun g2 => ?_)
        · rw [hfe, g1, g2] at he
          (conv => whnf)
          exact ⟨by rw [hres, he]; simp [optT'], rfl⟩
        · rw [hfe, g1, g2] at he
          (conv => whnf); refine ob (inR_i64 (by omega)) ?_
          (conv => whnf)
          exact ⟨i + 1, ⟨by omega, he⟩, by omega, ⟨(by repeat' first | exact True.intro | refine ⟨rfl, ?_⟩), (by repeat' first | exact True.intro | refine ⟨rfl, ?_⟩), Mem.le_refl _, rfl⟩⟩
      · rw [hfe, g1] at he
        repeat' ((conv => whnf); first | refine ob rfl ?_ | refine ob (Mem.le_refl _) ?_ | refine ⟨?_, True.intro⟩ | fail)
        (conv => whnf); refine ob (inR_i64 (by omega)) ?_
        (conv => whnf)
        exact ⟨i + 1, ⟨by omega, he⟩, by omega, ⟨(by repeat' first | exact True.intro | refine ⟨rfl, ?_⟩), (by repeat' first | exact True.intro | refine ⟨rfl, ?_⟩), Mem.le_refl _, rfl⟩⟩
    · have hi' : i = q.n := by have := of_decide_eq_false g; omega
      rw [List.drop_of_length_le (by omega)] at he
      (conv => whnf)
      exact ⟨by rw [hres, he]; simp [optT'], rfl⟩
end Go.Proofs.Ytankgacaeejlhaa
