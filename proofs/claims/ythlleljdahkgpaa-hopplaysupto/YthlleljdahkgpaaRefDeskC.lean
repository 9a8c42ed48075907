/- The document's desk: its calls, but for Plan. -/
import Derived.Test.YthlleljdahkgpaaRefDeskB
import Derived.Test.YthlleljdahkgpaaHopN
namespace Go.Proofs.Ythlleljdahkgpaa
open Go Go.Vm
attribute [local irreducible] Brn Ob Grow CallsM inR LoopVC Mem.row Mem.cells Mem.setCells Mem.upd Own AppVC SrcVC StrVC NextVC New SrcOk subA NewSl Mem.textAt Mem.mapAt Mem.iterAt entryOf kfind Wr NewEls Elems
set_option maxRecDepth 10000
variable {M : Mem} {L : KL} {a : Option Addr} {n c : Nat} {wait next : Int}
theorem toR_ok (hL : SrcOk M 8 a n (L.flatMap encK)) (hn : n ≤ 99999999) (w : Int) (i : Id) : CallsM Try.prog F.ref20_To [RD wait next a n c, .int .i64 w, i.v] M fun v M' => v = .bool (isTo L w i) ∧ M = M' := by
  refine fo_ref20_To (by simp) ?_
  have hl := hL.flen encK_len (by decide)
  repeat' ((conv => whnf); first | refine ⟨?_, True.intro⟩ | refine brn_t rfl ?_ | refine brn_f rfl ?_ | refine ob rfl ?_ | refine ob (by decide) ?_ | refine grow_same (Mem.le_refl _) ?_ | refine ob (Mem.le_refl _) ?_ | refine ⟨_, Mem.le_refl _, ?_⟩ | fail)
  refine (place_ok hL (by omega) i).mono ?_
  rintro v _ ⟨rfl, rfl⟩
  cases hg : aget L i with
  | none =>
    rw [place_none hg]
    (conv => whnf); refine brn_f (by decide) ?_
    repeat' ((conv => whnf); first | refine ⟨?_, True.intro⟩ | refine brn_t rfl ?_ | refine brn_f rfl ?_ | refine ob rfl ?_ | refine ob (by decide) ?_ | refine grow_same (Mem.le_refl _) ?_ | refine ob (Mem.le_refl _) ?_ | refine ⟨_, Mem.le_refl _, ?_⟩ | fail)
    exact ⟨by simp [isTo, hg], rfl⟩
  | some y =>
    obtain ⟨j, hj, hx⟩ := place_some (k := 0) hg
    rw [Nat.zero_add] at hj
    rw [hj]
    have hjl := (List.getElem?_eq_some_iff.1 hx).1
    obtain ⟨b1, o1, ha1, hc1⟩ := hL.fcells encK_len (by decide) hx
    (conv => whnf); refine brn_t (decide_eq_true (by omega)) ?_
    (conv => whnf); refine ob (by first | omega | (dsimp only; omega)) ?_
    (conv => whnf); refine atp ha1 ?_
    (conv => whnf); refine on (hc1 7 _ rfl) ?_
    (conv => whnf); refine brn (fun g => ?_) (fun g => ?_)
    · have g' := of_decide_eq_true g
      (conv => whnf); refine ob (by first | omega | (dsimp only; omega)) ?_
      (conv => whnf); refine atp ha1 ?_
      (conv => whnf); refine on (hc1 4 _ rfl) ?_
      repeat' ((conv => whnf); first | refine ⟨?_, True.intro⟩ | refine brn_t rfl ?_ | refine brn_f rfl ?_ | refine ob rfl ?_ | refine ob (by decide) ?_ | refine grow_same (Mem.le_refl _) ?_ | refine ob (Mem.le_refl _) ?_ | refine ⟨_, Mem.le_refl _, ?_⟩ | fail)
      exact ⟨by simp [isTo, hg]; simp at g'; simp [g'], rfl⟩
    · have g' := of_decide_eq_false g
      repeat' ((conv => whnf); first | refine ⟨?_, True.intro⟩ | refine brn_t rfl ?_ | refine brn_f rfl ?_ | refine ob rfl ?_ | refine ob (by decide) ?_ | refine grow_same (Mem.le_refl _) ?_ | refine ob (Mem.le_refl _) ?_ | refine ⟨_, Mem.le_refl _, ?_⟩ | fail)
      exact ⟨by simp [isTo, hg]; simp at g'; simp [g'], rfl⟩
theorem isR_ok (hL : SrcOk M 8 a n (L.flatMap encK)) (hn : n ≤ 99999999) (i : Id) : CallsM Try.prog F.ref20_Is [RD wait next a n c, i.v] M fun v M' => v = .bool (isIs L i) ∧ M = M' := by
  refine fo_ref20_Is (by simp) ?_
  have hl := hL.flen encK_len (by decide)
  repeat' ((conv => whnf); first | refine ⟨?_, True.intro⟩ | refine brn_t rfl ?_ | refine brn_f rfl ?_ | refine ob rfl ?_ | refine ob (by decide) ?_ | refine grow_same (Mem.le_refl _) ?_ | refine ob (Mem.le_refl _) ?_ | refine ⟨_, Mem.le_refl _, ?_⟩ | fail)
  refine (place_ok hL (by omega) i).mono ?_
  rintro v _ ⟨rfl, rfl⟩
  cases hg : aget L i with
  | none =>
    rw [place_none hg]
    (conv => whnf); refine brn_f (by decide) ?_
    repeat' ((conv => whnf); first | refine ⟨?_, True.intro⟩ | refine brn_t rfl ?_ | refine brn_f rfl ?_ | refine ob rfl ?_ | refine ob (by decide) ?_ | refine grow_same (Mem.le_refl _) ?_ | refine ob (Mem.le_refl _) ?_ | refine ⟨_, Mem.le_refl _, ?_⟩ | fail)
    exact ⟨by simp [isIs, hg], rfl⟩
  | some y =>
    obtain ⟨j, hj, hx⟩ := place_some (k := 0) hg
    rw [Nat.zero_add] at hj
    rw [hj]
    have hjl := (List.getElem?_eq_some_iff.1 hx).1
    obtain ⟨b1, o1, ha1, hc1⟩ := hL.fcells encK_len (by decide) hx
    (conv => whnf); refine brn_t (decide_eq_true (by omega)) ?_
    (conv => whnf); refine ob (by first | omega | (dsimp only; omega)) ?_
    (conv => whnf); refine atp ha1 ?_
    (conv => whnf); refine on (hc1 7 _ rfl) ?_
    repeat' ((conv => whnf); first | refine ⟨?_, True.intro⟩ | refine brn_t rfl ?_ | refine brn_f rfl ?_ | refine ob rfl ?_ | refine ob (by decide) ?_ | refine grow_same (Mem.le_refl _) ?_ | refine ob (Mem.le_refl _) ?_ | refine ⟨_, Mem.le_refl _, ?_⟩ | fail)
    exact ⟨by simp [isIs, hg], rfl⟩
theorem waitsR_ok (hL : SrcOk M 8 a n (L.flatMap encK)) (hn : n ≤ 99999999) (i : Id) : CallsM Try.prog F.ref20_Waits [RD wait next a n c, i.v] M fun v M' => v = .int .i64 (waitsOf L i) ∧ M = M' := by
  refine fo_ref20_Waits (by simp) ?_
  have hl := hL.flen encK_len (by decide)
  repeat' ((conv => whnf); first | refine ⟨?_, True.intro⟩ | refine brn_t rfl ?_ | refine brn_f rfl ?_ | refine ob rfl ?_ | refine ob (by decide) ?_ | refine grow_same (Mem.le_refl _) ?_ | refine ob (Mem.le_refl _) ?_ | refine ⟨_, Mem.le_refl _, ?_⟩ | fail)
  refine (place_ok hL (by omega) i).mono ?_
  rintro v _ ⟨rfl, rfl⟩
  cases hg : aget L i with
  | none =>
    rw [place_none hg]
    (conv => whnf); refine brn_t (by decide) ?_
    repeat' ((conv => whnf); first | refine ⟨?_, True.intro⟩ | refine brn_t rfl ?_ | refine brn_f rfl ?_ | refine ob rfl ?_ | refine ob (by decide) ?_ | refine grow_same (Mem.le_refl _) ?_ | refine ob (Mem.le_refl _) ?_ | refine ⟨_, Mem.le_refl _, ?_⟩ | fail)
    exact ⟨by simp [waitsOf, hg], rfl⟩
  | some y =>
    obtain ⟨j, hj, hx⟩ := place_some (k := 0) hg
    rw [Nat.zero_add] at hj
    rw [hj]
    have hjl := (List.getElem?_eq_some_iff.1 hx).1
    obtain ⟨b1, o1, ha1, hc1⟩ := hL.fcells encK_len (by decide) hx
    (conv => whnf); refine brn_f (decide_eq_false (by omega)) ?_
    (conv => whnf); refine ob (by first | omega | (dsimp only; omega)) ?_
    (conv => whnf); refine atp ha1 ?_
    (conv => whnf); refine on (hc1 7 _ rfl) ?_
    repeat' ((conv => whnf); first | refine ⟨?_, True.intro⟩ | refine brn_t rfl ?_ | refine brn_f rfl ?_ | refine ob rfl ?_ | refine ob (by decide) ?_ | refine grow_same (Mem.le_refl _) ?_ | refine ob (Mem.le_refl _) ?_ | refine ⟨_, Mem.le_refl _, ?_⟩ | fail)
    exact ⟨by simp [waitsOf, hg], rfl⟩
/-- a desk as an answer -/
def DeskV (wait next : Int) (L : KL) (M' : Mem) (v : Value) : Prop := ∃ a c, v = RD wait next a L.length c ∧ SrcOk M' 8 a L.length (L.flatMap encK)
theorem DeskV.here (hL : SrcOk M 8 a n (L.flatMap encK)) (hl : L.length = n) (c : Nat) : DeskV wait next L M (RD wait next a n c) := ⟨a, c, by rw [hl], by rw [hl]; exact hL⟩
theorem ackR_ok (hL : SrcOk M 8 a n (L.flatMap encK)) (hn : n ≤ 99999999) (w k : Int) (i : Id) : CallsM Try.prog F.ref20_Ack [RD wait next a n c, .int .i64 w, .int .i64 k, i.v] M fun v M' =>
    ∃ d, v = .tuple #[d, .bool (ackOk L w k i)] ∧ M.le M' ∧ DeskV wait next (if ackOk L w k i then withoutL L i else L) M' d := by
  refine fo_ref20_Ack (by simp) ?_
  have hl := hL.flen encK_len (by decide)
  repeat' ((conv => whnf); first | refine ⟨?_, True.intro⟩ | refine brn_t rfl ?_ | refine brn_f rfl ?_ | refine ob rfl ?_ | refine ob (by decide) ?_ | refine grow_same (Mem.le_refl _) ?_ | refine ob (Mem.le_refl _) ?_ | refine ⟨_, Mem.le_refl _, ?_⟩ | fail)
  refine (toR_ok (c := c) hL hn w i).mono ?_
  rintro v _ ⟨rfl, rfl⟩
  have hno : ackOk L w k i = false → ∃ d, Value.tuple #[RD wait next a n c, .bool false] = .tuple #[d, .bool (ackOk L w k i)] ∧ M.le M ∧ DeskV wait next (if ackOk L w k i then withoutL L i else L) M d := fun h => by
    rw [h]; exact ⟨_, rfl, Mem.le_refl _, DeskV.here hL hl c⟩
  repeat' ((conv => whnf); first | refine ob rfl ?_ | refine grow_same (Mem.le_refl _) ?_ | refine ob (Mem.le_refl _) ?_ | refine ⟨?_, True.intro⟩ | fail)
  (conv => whnf); refine brn (fun g => ?_) (fun g => ?_)
  · have g' : isTo L w i = false := by simpa using g
    have hk : ackOk L w k i = false := by
      unfold isTo at g'; unfold ackOk
      cases hg : aget L i <;> rw [hg] at g' <;> simp_all
    repeat' ((conv => whnf); first | refine ⟨?_, True.intro⟩ | refine brn_t rfl ?_ | refine brn_f rfl ?_ | refine ob rfl ?_ | refine ob (by decide) ?_ | refine grow_same (Mem.le_refl _) ?_ | refine ob (Mem.le_refl _) ?_ | refine ⟨_, Mem.le_refl _, ?_⟩ | fail)
    exact hno hk
  · have g' : isTo L w i = true := by simpa using g
    obtain ⟨y, hg, hy⟩ := isTo_iff.1 g'
    have hk : ackOk L w k i = decide (y.n = k) := by
      unfold ackOk; rw [hg]; unfold toK at hy; simp_all
    obtain ⟨j, hj, hx⟩ := place_some (k := 0) hg
    rw [Nat.zero_add] at hj
    have hjl := (List.getElem?_eq_some_iff.1 hx).1
    obtain ⟨b1, o1, ha1, hc1⟩ := hL.fcells encK_len (by decide) hx
    repeat' ((conv => whnf); first | refine ⟨?_, True.intro⟩ | refine brn_t rfl ?_ | refine brn_f rfl ?_ | refine ob rfl ?_ | refine ob (by decide) ?_ | refine grow_same (Mem.le_refl _) ?_ | refine ob (Mem.le_refl _) ?_ | refine ⟨_, Mem.le_refl _, ?_⟩ | fail)
    refine (place_ok (c := c) hL (by omega) i).mono ?_
    rintro v _ ⟨rfl, rfl⟩
    rw [hj]
    repeat' ((conv => whnf); first | refine ob rfl ?_ | refine grow_same (Mem.le_refl _) ?_ | refine ob (Mem.le_refl _) ?_ | refine ⟨?_, True.intro⟩ | fail)
    (conv => whnf); refine ob (by first | omega | (dsimp only; omega)) ?_
    (conv => whnf); refine atp ha1 ?_
    (conv => whnf); refine on (hc1 5 _ rfl) ?_
    (conv => whnf); refine brn (fun g1 => ?_) (fun g1 => ?_)
    · repeat' ((conv => whnf); first | refine ⟨?_, True.intro⟩ | refine brn_t rfl ?_ | refine brn_f rfl ?_ | refine ob rfl ?_ | refine ob (by decide) ?_ | refine grow_same (Mem.le_refl _) ?_ | refine ob (Mem.le_refl _) ?_ | refine ⟨_, Mem.le_refl _, ?_⟩ | fail)
      refine hno ?_
      rw [hk]
      simpa using g1
    · repeat' ((conv => whnf); first | refine ⟨?_, True.intro⟩ | refine brn_t rfl ?_ | refine brn_f rfl ?_ | refine ob rfl ?_ | refine ob (by decide) ?_ | refine grow_same (Mem.le_refl _) ?_ | refine ob (Mem.le_refl _) ?_ | refine ⟨_, Mem.le_refl _, ?_⟩ | fail)
      refine (without_ok (c := c) hL (by omega) i).mono ?_
      rintro v M3 ⟨a3, c3, rfl, hN3⟩
      have hk' : ackOk L w k i = true := by rw [hk]; simpa using g1
      repeat' ((conv => whnf); first | refine ⟨?_, True.intro⟩ | refine brn_t rfl ?_ | refine brn_f rfl ?_ | refine ob rfl ?_ | refine ob (by decide) ?_ | refine grow_same (Mem.le_refl _) ?_ | refine ob (Mem.le_refl _) ?_ | refine ⟨_, Mem.le_refl _, ?_⟩ | fail)
      exact ⟨_, by rw [hk'], hN3.le, a3, c3, by rw [hk']; rfl, by rw [hk']; exact hN3.src⟩
theorem refuseR_ok (hL : SrcOk M 8 a n (L.flatMap encK)) (hn : n ≤ 99999999) (w k : Int) (i : Id) : CallsM Try.prog F.ref20_Refuse [RD wait next a n c, .int .i64 w, .int .i64 k, i.v] M fun v M' =>
    ∃ d, v = .tuple #[d, .bool (ackOk L w k i)] ∧ M.le M' ∧ DeskV wait next (if ackOk L w k i then withL L (i, ⟨-1, 0, 0, wait⟩) else L) M' d := by
  refine fo_ref20_Refuse (by simp) ?_
  have hl := hL.flen encK_len (by decide)
  repeat' ((conv => whnf); first | refine ⟨?_, True.intro⟩ | refine brn_t rfl ?_ | refine brn_f rfl ?_ | refine ob rfl ?_ | refine ob (by decide) ?_ | refine grow_same (Mem.le_refl _) ?_ | refine ob (Mem.le_refl _) ?_ | refine ⟨_, Mem.le_refl _, ?_⟩ | fail)
  refine (toR_ok (c := c) hL hn w i).mono ?_
  rintro v _ ⟨rfl, rfl⟩
  have hno : ackOk L w k i = false → ∃ d, Value.tuple #[RD wait next a n c, .bool false] = .tuple #[d, .bool (ackOk L w k i)] ∧ M.le M ∧ DeskV wait next (if ackOk L w k i then withL L (i, ⟨-1, 0, 0, wait⟩) else L) M d := fun h => by
    rw [h]; exact ⟨_, rfl, Mem.le_refl _, DeskV.here hL hl c⟩
  repeat' ((conv => whnf); first | refine ob rfl ?_ | refine grow_same (Mem.le_refl _) ?_ | refine ob (Mem.le_refl _) ?_ | refine ⟨?_, True.intro⟩ | fail)
  (conv => whnf); refine brn (fun g => ?_) (fun g => ?_)
  · have g' : isTo L w i = false := by simpa using g
    have hk : ackOk L w k i = false := by
      unfold isTo at g'; unfold ackOk
      cases hg : aget L i <;> rw [hg] at g' <;> simp_all
    repeat' ((conv => whnf); first | refine ⟨?_, True.intro⟩ | refine brn_t rfl ?_ | refine brn_f rfl ?_ | refine ob rfl ?_ | refine ob (by decide) ?_ | refine grow_same (Mem.le_refl _) ?_ | refine ob (Mem.le_refl _) ?_ | refine ⟨_, Mem.le_refl _, ?_⟩ | fail)
    exact hno hk
  · have g' : isTo L w i = true := by simpa using g
    obtain ⟨y, hg, hy⟩ := isTo_iff.1 g'
    have hk : ackOk L w k i = decide (y.n = k) := by
      unfold ackOk; rw [hg]; unfold toK at hy; simp_all
    obtain ⟨j, hj, hx⟩ := place_some (k := 0) hg
    rw [Nat.zero_add] at hj
    have hjl := (List.getElem?_eq_some_iff.1 hx).1
    obtain ⟨b1, o1, ha1, hc1⟩ := hL.fcells encK_len (by decide) hx
    repeat' ((conv => whnf); first | refine ⟨?_, True.intro⟩ | refine brn_t rfl ?_ | refine brn_f rfl ?_ | refine ob rfl ?_ | refine ob (by decide) ?_ | refine grow_same (Mem.le_refl _) ?_ | refine ob (Mem.le_refl _) ?_ | refine ⟨_, Mem.le_refl _, ?_⟩ | fail)
    refine (place_ok (c := c) hL (by omega) i).mono ?_
    rintro v _ ⟨rfl, rfl⟩
    rw [hj]
    repeat' ((conv => whnf); first | refine ob rfl ?_ | refine grow_same (Mem.le_refl _) ?_ | refine ob (Mem.le_refl _) ?_ | refine ⟨?_, True.intro⟩ | fail)
    (conv => whnf); refine ob (by first | omega | (dsimp only; omega)) ?_
    (conv => whnf); refine atp ha1 ?_
    (conv => whnf); refine on (hc1 5 _ rfl) ?_
    (conv => whnf); refine brn (fun g1 => ?_) (fun g1 => ?_)
    · repeat' ((conv => whnf); first | refine ⟨?_, True.intro⟩ | refine brn_t rfl ?_ | refine brn_f rfl ?_ | refine ob rfl ?_ | refine ob (by decide) ?_ | refine grow_same (Mem.le_refl _) ?_ | refine ob (Mem.le_refl _) ?_ | refine ⟨_, Mem.le_refl _, ?_⟩ | fail)
      refine hno ?_
      rw [hk]
      simpa using g1
    · repeat' ((conv => whnf); first | refine ⟨?_, True.intro⟩ | refine brn_t rfl ?_ | refine brn_f rfl ?_ | refine ob rfl ?_ | refine ob (by decide) ?_ | refine grow_same (Mem.le_refl _) ?_ | refine ob (Mem.le_refl _) ?_ | refine ⟨_, Mem.le_refl _, ?_⟩ | fail)
      refine (with_ok (c := c) hL hn (i, ⟨-1, 0, 0, wait⟩)).mono ?_
      rintro v M3 ⟨a3, c3, rfl, hN3⟩
      have hk' : ackOk L w k i = true := by rw [hk]; simpa using g1
      repeat' ((conv => whnf); first | refine ⟨?_, True.intro⟩ | refine brn_t rfl ?_ | refine brn_f rfl ?_ | refine ob rfl ?_ | refine ob (by decide) ?_ | refine grow_same (Mem.le_refl _) ?_ | refine ob (Mem.le_refl _) ?_ | refine ⟨_, Mem.le_refl _, ?_⟩ | fail)
      exact ⟨_, by rw [hk'], hN3.le, a3, c3, by rw [hk']; rfl, by rw [hk']; exact hN3.src⟩
theorem backR_ok (hL : SrcOk M 8 a n (L.flatMap encK)) (hn : n ≤ 99999999) (hW : ∀ i k, aget L i = some k → 0 ≤ k.waits) (i : Id) : CallsM Try.prog F.ref20_Back [RD wait next a n c, i.v] M fun v M' =>
    ∃ d, v = .tuple #[d, .bool (isIs L i)] ∧ M.le M' ∧ DeskV wait next (if isIs L i then withoutL L i else L) M' d := by
  refine fo_ref20_Back (by simp) ?_
  have hl := hL.flen encK_len (by decide)
  have hno : isIs L i = false → ∃ d, Value.tuple #[RD wait next a n c, .bool false] = .tuple #[d, .bool (isIs L i)] ∧ M.le M ∧ DeskV wait next (if isIs L i then withoutL L i else L) M d := fun h => by
    rw [h]; exact ⟨_, rfl, Mem.le_refl _, DeskV.here hL hl c⟩
  repeat' ((conv => whnf); first | refine ⟨?_, True.intro⟩ | refine brn_t rfl ?_ | refine brn_f rfl ?_ | refine ob rfl ?_ | refine ob (by decide) ?_ | refine grow_same (Mem.le_refl _) ?_ | refine ob (Mem.le_refl _) ?_ | refine ⟨_, Mem.le_refl _, ?_⟩ | fail)
  refine (place_ok (c := c) hL (by omega) i).mono ?_
  rintro v _ ⟨rfl, rfl⟩
  cases hg : aget L i with
  | none =>
    rw [place_none hg]
    (conv => whnf); refine brn_t (by decide) ?_
    repeat' ((conv => whnf); first | refine ⟨?_, True.intro⟩ | refine brn_t rfl ?_ | refine brn_f rfl ?_ | refine ob rfl ?_ | refine ob (by decide) ?_ | refine grow_same (Mem.le_refl _) ?_ | refine ob (Mem.le_refl _) ?_ | refine ⟨_, Mem.le_refl _, ?_⟩ | fail)
    exact hno (by simp [isIs, hg])
  | some y =>
    obtain ⟨j, hj, hx⟩ := place_some (k := 0) hg
    rw [Nat.zero_add] at hj
    rw [hj]
    have hjl := (List.getElem?_eq_some_iff.1 hx).1
    have hw0 := hW i y hg
    have hk : isIs L i = decide (y.waits = 0) := by simp [isIs, hg]
    obtain ⟨b1, o1, ha1, hc1⟩ := hL.fcells encK_len (by decide) hx
    (conv => whnf); refine brn_f (decide_eq_false (by omega)) ?_
    (conv => whnf); refine ob (by first | omega | (dsimp only; omega)) ?_
    (conv => whnf); refine atp ha1 ?_
    (conv => whnf); refine on (hc1 7 _ rfl) ?_
    (conv => whnf); refine brn (fun g1 => ?_) (fun g1 => ?_)
    · have g2 : (0 : Int) < y.waits := of_decide_eq_true g1
      repeat' ((conv => whnf); first | refine ⟨?_, True.intro⟩ | refine brn_t rfl ?_ | refine brn_f rfl ?_ | refine ob rfl ?_ | refine ob (by decide) ?_ | refine grow_same (Mem.le_refl _) ?_ | refine ob (Mem.le_refl _) ?_ | refine ⟨_, Mem.le_refl _, ?_⟩ | fail)
      exact hno (by rw [hk]; exact decide_eq_false (by omega))
    · have g2 : ¬ (0 : Int) < y.waits := of_decide_eq_false g1
      have hk' : isIs L i = true := by rw [hk]; exact decide_eq_true (by omega)
      repeat' ((conv => whnf); first | refine ⟨?_, True.intro⟩ | refine brn_t rfl ?_ | refine brn_f rfl ?_ | refine ob rfl ?_ | refine ob (by decide) ?_ | refine grow_same (Mem.le_refl _) ?_ | refine ob (Mem.le_refl _) ?_ | refine ⟨_, Mem.le_refl _, ?_⟩ | fail)
      refine (without_ok (c := c) hL (by omega) i).mono ?_
      rintro v M3 ⟨a3, c3, rfl, hN3⟩
      repeat' ((conv => whnf); first | refine ⟨?_, True.intro⟩ | refine brn_t rfl ?_ | refine brn_f rfl ?_ | refine ob rfl ?_ | refine ob (by decide) ?_ | refine grow_same (Mem.le_refl _) ?_ | refine ob (Mem.le_refl _) ?_ | refine ⟨_, Mem.le_refl _, ?_⟩ | fail)
      exact ⟨_, by rw [hk'], hN3.le, a3, c3, by rw [hk']; rfl, by rw [hk']; exact hN3.src⟩
theorem offered_take (L : KL) (w : Int) {k : Nat} (hk : k < L.length) : offeredL (L.take (k + 1)) w = if toK w L[k].2 = true then offeredL (L.take k) w ++ [L[k].1] else offeredL (L.take k) w := by
  rw [List.take_add_one, List.getElem?_eq_getElem hk, offeredL, offeredL, List.filter_append, List.map_append]
  by_cases h : toK w L[k].2 = true
  · rw [if_pos h]; simp [h]
  · rw [if_neg h]; simp [h]
theorem offeredR_ok (hL : SrcOk M 8 a n (L.flatMap encK)) (hn : n ≤ 99999999) (w : Int) : CallsM Try.prog F.ref20_Offered [RD wait next a n c, .int .i64 w] M fun v M' => ∃ a' c', v = .slice a' (offeredL L w).length c' ∧ NewSl M T.api_Id 4 a' (offeredL L w).length c' ((offeredL L w).flatMap encI) M' := by
  refine fo_ref20_Offered (by simp) ?_
  have hl := hL.flen encK_len (by decide)
  repeat' ((conv => whnf); first | refine ⟨?_, True.intro⟩ | refine brn_t rfl ?_ | refine brn_f rfl ?_ | refine ob rfl ?_ | refine ob (by decide) ?_ | refine grow_same (Mem.le_refl _) ?_ | refine ob (Mem.le_refl _) ?_ | refine ⟨_, Mem.le_refl _, ?_⟩ | fail)
  refine new (fun b1 hb1 => ?_)
  replace hb1 : M b1 = none := hb1
  obtain ⟨M1, hM1⟩ : ∃ M1, M1 = M.setCells b1 T.api_Id [] := ⟨_, rfl⟩
  have hN1 : NewSl M T.api_Id 4 (some ⟨b1, 0, none⟩) 0 0 (([] : List Id).flatMap encI) M1 := hM1 ▸ NewSl.lit hb1 T.api_Id 4 0 [] rfl
  (conv => whnf)
  erw [← hM1]
  refine loopF (σ := Nat × Mem × (Option Addr × Nat × Nat)) [6, 5] (fun y => [(6, .int .i64 y.1), (5, .slice y.2.2.1 y.2.2.2.1 y.2.2.2.2)]) (fun _ => [.live T.portageref20_Desk [.v (.int .i64 wait), .v (.int .i64 next), .v (.slice a n c)]]) (fun y => y.2.1)
    (fun | ⟨k, M2, (a2, n2, c2)⟩ => k ≤ n ∧ n2 = (offeredL (L.take k) w).length ∧ NewSl M T.api_Id 4 a2 n2 c2 ((offeredL (L.take k) w).flatMap encI) M2) (fun y => n - y.1) ⟨0, M1, (some ⟨b1, 0, none⟩, 0, 0)⟩ ⟨by omega, rfl, hN1⟩ ⟨(by repeat' first | exact True.intro | refine ⟨rfl, ?_⟩), (by repeat' first | exact True.intro | refine ⟨rfl, ?_⟩), Mem.le_refl _, rfl⟩ ?_
  rintro ⟨k, M2, ⟨a2, n2, c2⟩⟩ ⟨hk, hn2, hN⟩
  have hlen : (offeredL (L.take k) w).length ≤ k := by
    have h9 : (offeredL (L.take k) w).length ≤ (L.take k).length := by unfold offeredL; rw [List.length_map]; exact List.length_filter_le _ _
    rw [List.length_take] at h9; omega
  (conv => whnf); refine brn (fun g => ?_) (fun g => ?_)
  rotate_left
  · have hge : k = n := by have := of_decide_eq_false g; dsimp only at this; omega
    subst hge
    rw [List.take_of_length_le (by omega)] at hN hn2
    subst hn2
    repeat' ((conv => whnf); first | refine ⟨?_, True.intro⟩ | refine brn_t rfl ?_ | refine brn_f rfl ?_ | refine ob rfl ?_ | refine ob (by decide) ?_ | refine grow_same (Mem.le_refl _) ?_ | refine ob (Mem.le_refl _) ?_ | refine ⟨_, Mem.le_refl _, ?_⟩ | fail)
    exact ⟨a2, c2, rfl, hN⟩
  have hlt : k < L.length := by have := of_decide_eq_true g; dsimp only at this; omega
  have hx : L[k]? = some L[k] := List.getElem?_eq_getElem hlt
  have htk := offered_take L w hlt
  obtain ⟨b2, o2, ha2, hc2⟩ := (hL.le hN.le).fcells encK_len (by decide) hx
  obtain ⟨b3, o3, ha3, hc3⟩ := (hL.le hN.le).fparts encK_len (by decide) hx
  generalize L[k] = x at *
  (conv => whnf); refine ob (by first | omega | (dsimp only; omega)) ?_
  (conv => whnf); refine atp ha2 ?_
  (conv => whnf); refine on (hc2 7 _ rfl) ?_
  (conv => whnf); refine brn (fun g1 => ?_) (fun g1 => ?_)
  · have g1' : x.2.waits = 0 := of_decide_eq_true g1
    (conv => whnf); refine ob (by first | omega | (dsimp only; omega)) ?_
    (conv => whnf); refine atp ha2 ?_
    (conv => whnf); refine on (hc2 4 _ rfl) ?_
    (conv => whnf); refine brn (fun g2 => ?_) (fun g2 => ?_)
    · have g2' : x.2.to = w := of_decide_eq_true g2
      have h' : toK w x.2 = true := by simp [toK, g1', g2']
      rw [if_pos h'] at htk
      (conv => whnf); refine ob (by first | omega | (dsimp only; omega)) ?_
      (conv => whnf); refine atp ha3 ?_
      (conv => whnf); refine on (hc3 0 4 (by decide)) ?_
      repeat' ((conv => whnf); first | refine ⟨?_, True.intro⟩ | refine brn_t rfl ?_ | refine brn_f rfl ?_ | refine ob rfl ?_ | refine ob (by decide) ?_ | refine grow_same (Mem.le_refl _) ?_ | refine ob (Mem.le_refl _) ?_ | refine ⟨_, Mem.le_refl _, ?_⟩ | fail)
      refine appF M hN x.1 (by simp) (by dsimp only; omega) (by dsimp only; simp [maxLen]; omega) (encI_one x.1) fun a4 c4 M4 hN4 hk4 => ?_
      repeat' ((conv => whnf); first | refine ⟨?_, True.intro⟩ | refine brn_t rfl ?_ | refine brn_f rfl ?_ | refine ob rfl ?_ | refine ob (by decide) ?_ | refine grow_same (Mem.le_refl _) ?_ | refine ob (Mem.le_refl _) ?_ | refine ⟨_, Mem.le_refl _, ?_⟩ | fail)
      refine ob (inR_i64 (by first | omega | (dsimp only; omega))) ?_
      (conv => whnf)
      exact ⟨⟨k + 1, M4, (a4, n2 + 1, c4)⟩, ⟨by omega, by rw [htk, hn2]; simp, htk ▸ hN4⟩, by dsimp only; omega, ⟨(by repeat' first | exact True.intro | refine ⟨rfl, ?_⟩), (by repeat' first | exact True.intro | refine ⟨rfl, ?_⟩), Mem.le_refl _, rfl⟩⟩
    · have g2' : ¬ x.2.to = w := of_decide_eq_false g2
      have h' : ¬ toK w x.2 = true := by simp [toK, g2']
      rw [if_neg h'] at htk
      repeat' ((conv => whnf); first | refine ⟨?_, True.intro⟩ | refine brn_t rfl ?_ | refine brn_f rfl ?_ | refine ob rfl ?_ | refine ob (by decide) ?_ | refine grow_same (Mem.le_refl _) ?_ | refine ob (Mem.le_refl _) ?_ | refine ⟨_, Mem.le_refl _, ?_⟩ | fail)
      refine ob (inR_i64 (by first | omega | (dsimp only; omega))) ?_
      (conv => whnf)
      exact ⟨⟨k + 1, M2, (a2, n2, c2)⟩, ⟨by omega, by rw [htk]; exact hn2, htk ▸ hN⟩, by dsimp only; omega, ⟨(by repeat' first | exact True.intro | refine ⟨rfl, ?_⟩), (by repeat' first | exact True.intro | refine ⟨rfl, ?_⟩), Mem.le_refl _, rfl⟩⟩
  · have g1' : ¬ x.2.waits = 0 := of_decide_eq_false g1
    have h' : ¬ toK w x.2 = true := by simp [toK, g1']
    rw [if_neg h'] at htk
    repeat' ((conv => whnf); first | refine ⟨?_, True.intro⟩ | refine brn_t rfl ?_ | refine brn_f rfl ?_ | refine ob rfl ?_ | refine ob (by decide) ?_ | refine grow_same (Mem.le_refl _) ?_ | refine ob (Mem.le_refl _) ?_ | refine ⟨_, Mem.le_refl _, ?_⟩ | fail)
    refine ob (inR_i64 (by first | omega | (dsimp only; omega))) ?_
    (conv => whnf)
    exact ⟨⟨k + 1, M2, (a2, n2, c2)⟩, ⟨by omega, by rw [htk]; exact hn2, htk ▸ hN⟩, by dsimp only; omega, ⟨(by repeat' first | exact True.intro | refine ⟨rfl, ?_⟩), (by repeat' first | exact True.intro | refine ⟨rfl, ?_⟩), Mem.le_refl _, rfl⟩⟩
theorem without_len (L : KL) (i : Id) : (withoutL L i).length ≤ L.length := List.length_filter_le _ _
theorem resetR_ok (hL : SrcOk M 8 a n (L.flatMap encK)) (hn : n ≤ 99999999) (w : Int) : CallsM Try.prog F.ref20_Reset [RD wait next a n c, .int .i64 w] M fun v M' =>
    ∃ d, v = .tuple #[d, .int .i64 (offeredL L w).length] ∧ M.le M' ∧ DeskV wait next ((offeredL L w).foldl withoutL L) M' d := by
  refine fo_ref20_Reset (by simp) ?_
  have hl := hL.flen encK_len (by decide)
  repeat' ((conv => whnf); first | refine ⟨?_, True.intro⟩ | refine brn_t rfl ?_ | refine brn_f rfl ?_ | refine ob rfl ?_ | refine ob (by decide) ?_ | refine grow_same (Mem.le_refl _) ?_ | refine ob (Mem.le_refl _) ?_ | refine ⟨_, Mem.le_refl _, ?_⟩ | fail)
  refine (offeredR_ok (c := c) hL hn w).mono ?_
  rintro v M1 ⟨a1, c1, rfl, hN1⟩
  obtain ⟨l, hll⟩ : ∃ l, l = offeredL L w := ⟨_, rfl⟩
  rw [← hll] at hN1 ⊢
  have hol : l.length ≤ n := by
    rw [hll, ← hl]; unfold offeredL; rw [List.length_map]; exact List.length_filter_le _ _
  (conv => whnf)
  refine loopF (σ := Nat × Mem × (Option Addr × Nat)) [7] (fun y => [(7, .int .i64 y.1)]) (fun y => [.live T.portageref20_Desk [.v (.int .i64 wait), .v (.int .i64 next), .v (.slice y.2.2.1 ((l.take y.1).foldl withoutL L).length y.2.2.2)], .live T.portageref20_Desk [.v (.int .i64 0), .v (.int .i64 0), .v (.slice none 0 0)]]) (fun y => y.2.1)
    (fun | ⟨k, M2, (a2, c2)⟩ => k ≤ l.length ∧ M1.le M2 ∧ SrcOk M2 8 a2 ((l.take k).foldl withoutL L).length (((l.take k).foldl withoutL L).flatMap encK) ∧ ((l.take k).foldl withoutL L).length ≤ n) (fun y => l.length - y.1) ⟨0, M1, (a, c)⟩ ⟨by omega, Mem.le_refl _, by rw [List.take_zero, List.foldl_nil, hl]; exact hL.le hN1.le, by rw [List.take_zero, List.foldl_nil, hl]; exact Nat.le_refl _⟩ (by rw [List.take_zero, List.foldl_nil, hl]; exact ⟨(by repeat' first | exact True.intro | refine ⟨rfl, ?_⟩), (by repeat' first | exact True.intro | refine ⟨rfl, ?_⟩), Mem.le_refl _, rfl⟩) ?_
  rintro ⟨k, M2, ⟨a2, c2⟩⟩ ⟨hk, hle2, hL2, hln2⟩
  (conv => whnf); refine brn (fun g => ?_) (fun g => ?_)
  rotate_left
  · have hge : k = l.length := by have := of_decide_eq_false g; dsimp only at this; omega
    subst hge
    repeat' ((conv => whnf); first | refine ⟨?_, True.intro⟩ | refine brn_t rfl ?_ | refine brn_f rfl ?_ | refine ob rfl ?_ | refine ob (by decide) ?_ | refine grow_same (Mem.le_refl _) ?_ | refine ob (Mem.le_refl _) ?_ | refine ⟨_, Mem.le_refl _, ?_⟩ | fail)
    refine ⟨_, rfl, Mem.le_trans hN1.le hle2, ?_⟩
    rw [List.take_length] at hL2 ⊢
    exact ⟨a2, c2, rfl, hL2⟩
  have hlt : k < l.length := by have := of_decide_eq_true g; dsimp only at this; omega
  have hx : l[k]? = some l[k] := List.getElem?_eq_getElem hlt
  have htk : (l.take (k + 1)).foldl withoutL L = withoutL ((l.take k).foldl withoutL L) l[k] := by
    rw [List.take_add_one, hx, Option.toList_some, List.foldl_append]; rfl
  generalize l[k] = i at *
  obtain ⟨b1, o1, ha1, hc1⟩ := (hN1.src.le hle2).fparts encI_len (by decide) hx
  have hwl := without_len ((l.take k).foldl withoutL L) i
  (conv => whnf); refine ob (by first | omega | (dsimp only; omega)) ?_
  (conv => whnf); refine atp ha1 ?_
  (conv => whnf); refine on (hc1 0 4 (by decide)) ?_
  repeat' ((conv => whnf); first | refine ⟨?_, True.intro⟩ | refine brn_t rfl ?_ | refine brn_f rfl ?_ | refine ob rfl ?_ | refine ob (by decide) ?_ | refine grow_same (Mem.le_refl _) ?_ | refine ob (Mem.le_refl _) ?_ | refine ⟨_, Mem.le_refl _, ?_⟩ | fail)
  refine (without_ok (c := c2) hL2 (by omega) i).mono ?_
  rintro v M3 ⟨a3, c3, rfl, hN3⟩
  repeat' ((conv => whnf); first | refine ⟨?_, True.intro⟩ | refine brn_t rfl ?_ | refine brn_f rfl ?_ | refine ob rfl ?_ | refine ob (by decide) ?_ | refine grow_same (Mem.le_refl _) ?_ | refine ob (Mem.le_refl _) ?_ | refine ⟨_, Mem.le_refl _, ?_⟩ | fail)
  refine ob (inR_i64 (by first | omega | (dsimp only; omega))) ?_
  (conv => whnf)
  refine ⟨⟨k + 1, M3, (a3, c3)⟩, ⟨by omega, Mem.le_trans hle2 hN3.le, by rw [htk]; exact hN3.src, by rw [htk]; omega⟩, by dsimp only; omega, ?_⟩
  dsimp only
  rw [htk]
  exact ⟨(by repeat' first | exact True.intro | refine ⟨rfl, ?_⟩), (by repeat' first | exact True.intro | refine ⟨rfl, ?_⟩), Mem.le_refl _, rfl⟩
end Go.Proofs.Ythlleljdahkgpaa
