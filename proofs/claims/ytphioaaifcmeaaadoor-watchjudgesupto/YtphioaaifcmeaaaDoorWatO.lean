/- The document's twice, given, again. -/
import Derived.Test.YtphioaaifcmeaaaDoorWatN
namespace Go.Proofs.YtphioaaifcmeaaaDoor
open Go Go.Vm
attribute [local irreducible] Brn Ob Grow CallsM inR LoopVC LoopVC0 Mem.row Mem.cells Mem.setCells Mem.upd Go.Vm.Own AppVC SrcVC StrVC NextVC New SrcOk subA NewSl Mem.textAt Mem.mapAt Mem.iterAt entryOf kfind Wr NewEls Elems
set_option maxRecDepth 10000
variable {M : Mem}
theorem twiceR_ok {a : Option Addr} {n c : Nat} {l : List TdR} (hl : Elems M 9 a n (TdL M) l) (hn : n ≤ 1048576) {at' : Nat} (hat : at' < n) {t : TdR} (ht : l[at']? = some t) :
    CallsM Tryd.prog F.ref24_twice [.slice a n c, .int .i64 at'] M fun v M' => v = .bool ((l.take at').any (twP t.id)) ∧ M = M' := by
  refine fo_ref24_twice (by simp) ?_
  (conv => whnf)
  refine loopQ (σ := Nat) [5] (fun i => [(5, .int .i64 i)]) (fun i => i ≤ at' ∧ (l.take i).any (twP t.id) = false) (fun i => at' - i) 0 ⟨by omega, by simp⟩ ⟨(by repeat' first | exact True.intro | refine ⟨rfl, ?_⟩), (by repeat' first | exact True.intro | refine ⟨rfl, ?_⟩), Mem.le_refl _, rfl⟩ ?_
  rintro i ⟨hi, hall⟩
  obtain ⟨hk0, b0, o0, cs0, e0, hr0, -, -, x0, x1, x2, rfl, -, -⟩ := hl.at (by decide) hat
  have ht' : l[at'] = t := by rw [List.getElem?_eq_getElem hk0] at ht; exact Option.some.inj ht
  rw [ht'] at hr0
  (conv => whnf); refine brn (fun e => ?_) (fun e => ?_)
  · have hlt : i < at' := by have := of_decide_eq_true e; omega
    obtain ⟨hk1, b1, o1, cs, e1, hr1, -, -, xa, xn, xc, rfl, -, -⟩ := hl.at (by decide) (show i < n by omega)
    have htk : (l.take (i + 1)).any (twP t.id) = ((l.take i).any (twP t.id) || twP t.id l[i]) := by
      rw [List.take_add_one, List.getElem?_eq_getElem hk1, List.any_append]; simp
    rw [hall, Bool.false_or] at htk
    have hmore : ∀ j, j ≤ at' → (l.take j).any (twP t.id) = true → (l.take at').any (twP t.id) = true := fun j hj h => by
      rw [List.any_eq_true] at h ⊢
      obtain ⟨x, hx, hp⟩ := h
      exact ⟨x, List.mem_of_mem_take (i := j) (by rw [List.take_take, Nat.min_eq_left hj]; exact hx), hp⟩
    generalize l[i] = x at *
    (conv => whnf); refine ob (by first | omega | (dsimp only; omega)) ?_
    (conv => whnf); refine atp e1 ?_
    (conv => whnf); refine on (hr1 8 1 (by decide)) ?_
    obtain ⟨st, nd, xo, xd, xe, xcc, er, da, out⟩ := x
    cases out
    · repeat' ((conv => whnf); first | refine ⟨?_, True.intro⟩ | refine brn_t rfl ?_ | refine brn_f rfl ?_ | refine ob rfl ?_ | refine ob (by decide) ?_ | refine grow_same (Mem.le_refl _) ?_ | refine ob (Mem.le_refl _) ?_ | refine ⟨_, Mem.le_refl _, ?_⟩ | fail)
      refine ob (inR_i64 (by first | omega | (dsimp only; omega))) ?_
      (conv => whnf)
      exact ⟨i + 1, ⟨by omega, by rw [htk]; rfl⟩, by omega, ⟨(by repeat' first | exact True.intro | refine ⟨rfl, ?_⟩), (by repeat' first | exact True.intro | refine ⟨rfl, ?_⟩), Mem.le_refl _, rfl⟩⟩
    · (conv => whnf); refine ob (by first | omega | (dsimp only; omega)) ?_
      (conv => whnf); refine atp e1 ?_
      (conv => whnf); refine on (hr1 2 4 (by decide)) ?_
      (conv => whnf); refine ob (by first | omega | (dsimp only; omega)) ?_
      (conv => whnf); refine atp e0 ?_
      (conv => whnf); refine on (hr0 2 4 (by decide)) ?_
      (conv => whnf); refine brn (fun g => ?_) (fun g => ?_)
      · repeat' ((conv => whnf); first | refine ⟨?_, True.intro⟩ | refine brn_t rfl ?_ | refine brn_f rfl ?_ | refine ob rfl ?_ | refine ob (by decide) ?_ | refine grow_same (Mem.le_refl _) ?_ | refine ob (Mem.le_refl _) ?_ | refine ⟨_, Mem.le_refl _, ?_⟩ | fail)
        refine ⟨?_, rfl⟩
        rw [hmore (i + 1) (by omega)]
        rw [htk, twP]
        simp only [Bool.true_and]
        simp only [Bool.and_true] at g
        rw [← Bool.decide_and, ← Bool.decide_and, ← Bool.decide_and] at g
        exact g
      · repeat' ((conv => whnf); first | refine ⟨?_, True.intro⟩ | refine brn_t rfl ?_ | refine brn_f rfl ?_ | refine ob rfl ?_ | refine ob (by decide) ?_ | refine grow_same (Mem.le_refl _) ?_ | refine ob (Mem.le_refl _) ?_ | refine ⟨_, Mem.le_refl _, ?_⟩ | fail)
        refine ob (inR_i64 (by first | omega | (dsimp only; omega))) ?_
        (conv => whnf)
        refine ⟨i + 1, ⟨by omega, ?_⟩, by omega, ⟨(by repeat' first | exact True.intro | refine ⟨rfl, ?_⟩), (by repeat' first | exact True.intro | refine ⟨rfl, ?_⟩), Mem.le_refl _, rfl⟩⟩
        rw [htk, twP]
        simp only [Bool.true_and]
        simp only [Bool.and_true] at g
        rw [← Bool.decide_and, ← Bool.decide_and, ← Bool.decide_and] at g
        exact g
  · have hge : i = at' := by have := of_decide_eq_false e; omega
    subst hge
    repeat' ((conv => whnf); first | refine ⟨?_, True.intro⟩ | refine brn_t rfl ?_ | refine brn_f rfl ?_ | refine ob rfl ?_ | refine ob (by decide) ?_ | refine grow_same (Mem.le_refl _) ?_ | refine ob (Mem.le_refl _) ?_ | refine ⟨_, Mem.le_refl _, ?_⟩ | fail)
    exact ⟨by rw [hall], rfl⟩
theorem numbers_ok (a : Id4) : CallsM Tryd.prog F.ref13_Numbers [idV a] M fun v M' => ∃ b, v = .slice (some ⟨b, 0, none⟩) 4 4 ∧ M b = none ∧ M' = M.setCells b T.int [intV a.o, intV a.d, intV a.e, intV a.c] := by
  refine fo_ref13_Numbers (by simp) ?_
  (conv => whnf); refine new (fun b hb => ?_)
  replace hb : M b = none := hb
  (conv => whnf)
  exact ⟨b, rfl, hb, rfl⟩
theorem lessR_ok (a b : Id4) : CallsM Tryd.prog F.ref13_Less [idV a, idV b] M fun v M' => v = .bool (ltW a b) ∧ M.le M' := by
  refine fo_ref13_Less (by simp) ?_
  (conv => whnf); refine (numbers_ok a).mono ?_
  rintro v M' ⟨x, rfl, hx, rfl⟩
  (conv => whnf); refine (numbers_ok b).mono ?_
  rintro v M' ⟨y, rfl, hy, rfl⟩
  have hle1 : (M.setCells x T.int [intV a.o, intV a.d, intV a.e, intV a.c]).le _ := Mem.le_setCells (E := T.int) (l := [intV b.o, intV b.d, intV b.e, intV b.c]) hy
  have hle : M.le _ := Mem.le_trans (Mem.le_setCells hx) hle1
  have hX := hle1 _ _ (Mem.has_setCells (M := M) (b := x) (E := T.int) (l := [intV a.o, intV a.d, intV a.e, intV a.c]))
  have hY := Mem.has_setCells (M := M.setCells x T.int [intV a.o, intV a.d, intV a.e, intV a.c]) (b := y) (E := T.int) (l := [intV b.o, intV b.d, intV b.e, intV b.c])
  obtain ⟨M2, hM2⟩ : ∃ M2, M2 = (M.setCells x T.int [intV a.o, intV a.d, intV a.e, intV a.c]).setCells y T.int [intV b.o, intV b.d, intV b.e, intV b.c] := ⟨_, rfl⟩
  rw [← hM2] at hX hY hle
  replace hX : M2.has x T.int [intV a.o, intV a.d, intV a.e, intV a.c] := hX
  (conv => whnf)
  erw [← hM2]
  refine loopQ (σ := Nat) [7] (fun i => [(7, .int .i64 i)]) (fun i => i ≤ 4 ∧ (0 < i → a.o = b.o) ∧ (1 < i → a.d = b.d) ∧ (2 < i → a.e = b.e) ∧ (3 < i → a.c = b.c)) (fun i => 4 - i) 0 ⟨by omega, by omega, by omega, by omega, by omega⟩ ⟨(by repeat' first | exact True.intro | refine ⟨rfl, ?_⟩), (by repeat' first | exact True.intro | refine ⟨rfl, ?_⟩), Mem.le_refl _, rfl⟩ ?_
  rintro i ⟨hi, h0, h1, h2, h3⟩
  (conv => whnf); refine brn (fun g => ?_) (fun g => ?_)
  · have g' : i < 4 := by have := of_decide_eq_true g; omega
    match i, g' with
    | 0, _ =>
      (conv => whnf); refine ob (by decide) ?_
      (conv => whnf); refine on (hX.c1 rfl) ?_
      (conv => whnf); refine ob (by decide) ?_
      (conv => whnf); refine on (hY.c1 rfl) ?_
      (conv => whnf); refine brn (fun k => ?_) (fun k => ?_)
      · (conv => whnf); refine ob (by decide) ?_
        (conv => whnf); refine on (hX.c1 rfl) ?_
        (conv => whnf); refine ob (by decide) ?_
        (conv => whnf); refine on (hY.c1 rfl) ?_
        (conv => whnf)
        exact ⟨by simp at k; simp [ltW, k], hle⟩
      · (conv => whnf); refine ob (inR_i64 (by decide)) ?_
        (conv => whnf)
        exact ⟨1, ⟨by omega, fun _ => by simpa using k, by omega, by omega, by omega⟩, by omega, ⟨(by repeat' first | exact True.intro | refine ⟨rfl, ?_⟩), (by repeat' first | exact True.intro | refine ⟨rfl, ?_⟩), Mem.le_refl _, rfl⟩⟩
    | 1, _ =>
      (conv => whnf); refine ob (by decide) ?_
      (conv => whnf); refine on (hX.c1 rfl) ?_
      (conv => whnf); refine ob (by decide) ?_
      (conv => whnf); refine on (hY.c1 rfl) ?_
      (conv => whnf); refine brn (fun k => ?_) (fun k => ?_)
      · (conv => whnf); refine ob (by decide) ?_
        (conv => whnf); refine on (hX.c1 rfl) ?_
        (conv => whnf); refine ob (by decide) ?_
        (conv => whnf); refine on (hY.c1 rfl) ?_
        (conv => whnf)
        exact ⟨by simp at k; simp [ltW, h0 (by omega), k], hle⟩
      · (conv => whnf); refine ob (inR_i64 (by decide)) ?_
        (conv => whnf)
        exact ⟨2, ⟨by omega, fun _ => h0 (by omega), fun _ => by simpa using k, by omega, by omega⟩, by omega, ⟨(by repeat' first | exact True.intro | refine ⟨rfl, ?_⟩), (by repeat' first | exact True.intro | refine ⟨rfl, ?_⟩), Mem.le_refl _, rfl⟩⟩
    | 2, _ =>
      (conv => whnf); refine ob (by decide) ?_
      (conv => whnf); refine on (hX.c1 rfl) ?_
      (conv => whnf); refine ob (by decide) ?_
      (conv => whnf); refine on (hY.c1 rfl) ?_
      (conv => whnf); refine brn (fun k => ?_) (fun k => ?_)
      · (conv => whnf); refine ob (by decide) ?_
        (conv => whnf); refine on (hX.c1 rfl) ?_
        (conv => whnf); refine ob (by decide) ?_
        (conv => whnf); refine on (hY.c1 rfl) ?_
        (conv => whnf)
        exact ⟨by simp at k; simp [ltW, h0 (by omega), h1 (by omega), k], hle⟩
      · (conv => whnf); refine ob (inR_i64 (by decide)) ?_
        (conv => whnf)
        exact ⟨3, ⟨by omega, fun _ => h0 (by omega), fun _ => h1 (by omega), fun _ => by simpa using k, by omega⟩, by omega, ⟨(by repeat' first | exact True.intro | refine ⟨rfl, ?_⟩), (by repeat' first | exact True.intro | refine ⟨rfl, ?_⟩), Mem.le_refl _, rfl⟩⟩
    | 3, _ =>
      (conv => whnf); refine ob (by decide) ?_
      (conv => whnf); refine on (hX.c1 rfl) ?_
      (conv => whnf); refine ob (by decide) ?_
      (conv => whnf); refine on (hY.c1 rfl) ?_
      (conv => whnf); refine brn (fun k => ?_) (fun k => ?_)
      · (conv => whnf); refine ob (by decide) ?_
        (conv => whnf); refine on (hX.c1 rfl) ?_
        (conv => whnf); refine ob (by decide) ?_
        (conv => whnf); refine on (hY.c1 rfl) ?_
        (conv => whnf)
        exact ⟨by simp at k; simp [ltW, h0 (by omega), h1 (by omega), h2 (by omega)], hle⟩
      · (conv => whnf); refine ob (inR_i64 (by decide)) ?_
        (conv => whnf)
        exact ⟨4, ⟨by omega, fun _ => h0 (by omega), fun _ => h1 (by omega), fun _ => h2 (by omega), fun _ => by simpa using k⟩, by omega, ⟨(by repeat' first | exact True.intro | refine ⟨rfl, ?_⟩), (by repeat' first | exact True.intro | refine ⟨rfl, ?_⟩), Mem.le_refl _, rfl⟩⟩
  · have g' : i = 4 := by have := of_decide_eq_false g; omega
    subst g'
    (conv => whnf)
    exact ⟨by simp [ltW, h0 (by omega), h1 (by omega), h2 (by omega), h3 (by omega)], hle⟩
theorem givenR_ok {a : Option Addr} {n c : Nat} {l : List StR} (hl : Elems M 5 a n (StL M) l) (hn : n ≤ 1048576) {t : TdR} {ta : Option Addr} {tn tc : Nat} (ht : SrcOk M 1 ta tn (t.data.map byteV)) :
    CallsM Tryd.prog F.ref24_given [.slice a n c, .agg (tdC t ta tn tc).toArray] M fun v M' => v = .bool ((stepsB l t).any (gvP t)) ∧ M = M' := by
  refine fo_ref24_given (by simp) ?_
  have hll := hl.len
  have hpre : ∀ j, j ≤ n → (t.step < n → (j : Int) ≤ t.step + 1 ∨ j = 0) → (l.take j).any (gvP t) = true → (stepsB l t).any (gvP t) = true := fun j hj h1 h => by
    rw [List.any_eq_true] at h ⊢
    obtain ⟨x, hx, hp⟩ := h
    refine ⟨x, ?_, hp⟩
    unfold stepsB
    split
    · refine List.mem_of_mem_take (i := j) ?_
      rw [List.take_take, Nat.min_eq_left]
      · exact hx
      · have := h1 (by omega); omega
    · exact List.mem_of_mem_take hx
  (conv => whnf)
  refine loopQ (σ := Nat) [5] (fun i => [(5, .int .i64 i)]) (fun i => i ≤ n ∧ (t.step < n → (i : Int) ≤ t.step + 1 ∨ i = 0) ∧ (l.take i).any (gvP t) = false) (fun i => n - i) 0 ⟨by omega, by omega, by simp⟩ ⟨(by repeat' first | exact True.intro | refine ⟨rfl, ?_⟩), (by repeat' first | exact True.intro | refine ⟨rfl, ?_⟩), Mem.le_refl _, rfl⟩ ?_
  rintro i ⟨hi, his, hall⟩
  have hend : (i = n ∨ t.step < i) → (stepsB l t).any (gvP t) = false := fun h => by
    rw [← Bool.not_eq_true]
    intro h2
    rw [← Bool.not_eq_true] at hall
    refine hall ?_
    rw [List.any_eq_true] at h2 ⊢
    obtain ⟨x, hx, hp⟩ := h2
    refine ⟨x, ?_, hp⟩
    unfold stepsB at hx
    split at hx
    · refine List.mem_of_mem_take (i := (max t.step (-1) + 1).toNat) ?_
      rw [List.take_take]
      rw [Nat.min_eq_left (by omega)]
      exact hx
    · rw [List.take_of_length_le (by omega)]; exact hx
  (conv => whnf); refine brn (fun e => ?_) (fun e => ?_)
  · have hlt : i < n := by have := of_decide_eq_true e; omega
    (conv => whnf); refine brn (fun e => ?_) (fun e => ?_)
    · have hst : (i : Int) ≤ t.step := of_decide_eq_true e
      obtain ⟨hk1, b1, o1, cs, e1, -, hr1, -, xa, xn, xc, rfl, hxs⟩ := hl.at (by decide) hlt
      have htk : (l.take (i + 1)).any (gvP t) = ((l.take i).any (gvP t) || gvP t l[i]) := by
        rw [List.take_add_one, List.getElem?_eq_getElem hk1, List.any_append]; simp
      rw [hall, Bool.false_or] at htk
      generalize l[i] = x at *
      (conv => whnf); refine ob (by first | omega | (dsimp only; omega)) ?_
      (conv => whnf); refine atp e1 ?_
      (conv => whnf); refine on hr1 ?_
      (conv => whnf); refine brn (fun g => ?_) (fun g => ?_)
      · (conv => whnf); refine brn (fun g2 => ?_) (fun g2 => ?_)
        · (conv => whnf); refine brn (fun g3 => ?_) (fun g3 => ?_)
          · (conv => whnf); refine strv hxs ?_
            (conv => whnf); refine strv ht ?_
            (conv => whnf); refine brn (fun g4 => ?_) (fun g4 => ?_)
            · have hg : gvP t x = true := by unfold gvP; rw [g, g2, g3]; simpa using g4
              repeat' ((conv => whnf); first | refine ⟨?_, True.intro⟩ | refine brn_t rfl ?_ | refine brn_f rfl ?_ | refine ob rfl ?_ | refine ob (by decide) ?_ | refine grow_same (Mem.le_refl _) ?_ | refine ob (Mem.le_refl _) ?_ | refine ⟨_, Mem.le_refl _, ?_⟩ | fail)
              exact ⟨by rw [hpre (i + 1) (by omega) (fun _ => by omega) (by rw [htk]; exact hg)], rfl⟩
            · have hg : gvP t x = false := by unfold gvP; rw [g, g2, g3]; simpa using g4
              repeat' ((conv => whnf); first | refine ⟨?_, True.intro⟩ | refine brn_t rfl ?_ | refine brn_f rfl ?_ | refine ob rfl ?_ | refine ob (by decide) ?_ | refine grow_same (Mem.le_refl _) ?_ | refine ob (Mem.le_refl _) ?_ | refine ⟨_, Mem.le_refl _, ?_⟩ | fail)
              refine ob (inR_i64 (by first | omega | (dsimp only; omega))) ?_
              (conv => whnf)
              exact ⟨i + 1, ⟨by omega, fun _ => by omega, by rw [htk]; exact hg⟩, by omega, ⟨(by repeat' first | exact True.intro | refine ⟨rfl, ?_⟩), (by repeat' first | exact True.intro | refine ⟨rfl, ?_⟩), Mem.le_refl _, rfl⟩⟩
          · have hg : gvP t x = false := by unfold gvP; rw [g, g2, g3]; rfl
            repeat' ((conv => whnf); first | refine ⟨?_, True.intro⟩ | refine brn_t rfl ?_ | refine brn_f rfl ?_ | refine ob rfl ?_ | refine ob (by decide) ?_ | refine grow_same (Mem.le_refl _) ?_ | refine ob (Mem.le_refl _) ?_ | refine ⟨_, Mem.le_refl _, ?_⟩ | fail)
            refine ob (inR_i64 (by first | omega | (dsimp only; omega))) ?_
            (conv => whnf)
            exact ⟨i + 1, ⟨by omega, fun _ => by omega, by rw [htk]; exact hg⟩, by omega, ⟨(by repeat' first | exact True.intro | refine ⟨rfl, ?_⟩), (by repeat' first | exact True.intro | refine ⟨rfl, ?_⟩), Mem.le_refl _, rfl⟩⟩
        · have hg : gvP t x = false := by unfold gvP; rw [g, g2]; rfl
          repeat' ((conv => whnf); first | refine ⟨?_, True.intro⟩ | refine brn_t rfl ?_ | refine brn_f rfl ?_ | refine ob rfl ?_ | refine ob (by decide) ?_ | refine grow_same (Mem.le_refl _) ?_ | refine ob (Mem.le_refl _) ?_ | refine ⟨_, Mem.le_refl _, ?_⟩ | fail)
          refine ob (inR_i64 (by first | omega | (dsimp only; omega))) ?_
          (conv => whnf)
          exact ⟨i + 1, ⟨by omega, fun _ => by omega, by rw [htk]; exact hg⟩, by omega, ⟨(by repeat' first | exact True.intro | refine ⟨rfl, ?_⟩), (by repeat' first | exact True.intro | refine ⟨rfl, ?_⟩), Mem.le_refl _, rfl⟩⟩
      · have hg : gvP t x = false := by unfold gvP; rw [g]; rfl
        repeat' ((conv => whnf); first | refine ⟨?_, True.intro⟩ | refine brn_t rfl ?_ | refine brn_f rfl ?_ | refine ob rfl ?_ | refine ob (by decide) ?_ | refine grow_same (Mem.le_refl _) ?_ | refine ob (Mem.le_refl _) ?_ | refine ⟨_, Mem.le_refl _, ?_⟩ | fail)
        refine ob (inR_i64 (by first | omega | (dsimp only; omega))) ?_
        (conv => whnf)
        exact ⟨i + 1, ⟨by omega, fun _ => by omega, by rw [htk]; exact hg⟩, by omega, ⟨(by repeat' first | exact True.intro | refine ⟨rfl, ?_⟩), (by repeat' first | exact True.intro | refine ⟨rfl, ?_⟩), Mem.le_refl _, rfl⟩⟩
    · have hst : ¬ (i : Int) ≤ t.step := of_decide_eq_false e
      repeat' ((conv => whnf); first | refine ⟨?_, True.intro⟩ | refine brn_t rfl ?_ | refine brn_f rfl ?_ | refine ob rfl ?_ | refine ob (by decide) ?_ | refine grow_same (Mem.le_refl _) ?_ | refine ob (Mem.le_refl _) ?_ | refine ⟨_, Mem.le_refl _, ?_⟩ | fail)
      exact ⟨by rw [hend (.inr (by omega))], rfl⟩
  · have hge : i = n := by have := of_decide_eq_false e; omega
    repeat' ((conv => whnf); first | refine ⟨?_, True.intro⟩ | refine brn_t rfl ?_ | refine brn_f rfl ?_ | refine ob rfl ?_ | refine ob (by decide) ?_ | refine grow_same (Mem.le_refl _) ?_ | refine ob (Mem.le_refl _) ?_ | refine ⟨_, Mem.le_refl _, ?_⟩ | fail)
    exact ⟨by rw [hend (.inl hge)], rfl⟩
theorem againR_ok {a : Option Addr} {n c : Nat} {l : List TdR} (hl : Elems M 9 a n (TdL M) l) (hn : n ≤ 1048576) {at' : Nat} (hat : at' < n) {t : TdR} (ht : l[at']? = some t) :
    CallsM Tryd.prog F.ref24_again [.slice a n c, .int .i64 at'] M fun v M' => v = .bool (againB (l.take at') t.id) ∧ M.le M' := by
  refine fo_ref24_again (by simp) ?_
  (conv => whnf)
  refine loopQ (σ := Nat × Int) [6, 5] (fun y => [(6, .int .i64 y.1), (5, .int .i64 y.2)]) (fun y => y.1 ≤ at' ∧ ((y.2 = -1 ∧ (l.take y.1).filter (agP t.id) = []) ∨ ∃ (j : Nat) (x : TdR), y.2 = j ∧ j < y.1 ∧ l[j]? = some x ∧ ((l.take y.1).filter (agP t.id)).getLast? = some x)) (fun y => at' - y.1) ⟨0, -1⟩ ⟨by omega, .inl ⟨rfl, by simp⟩⟩ ⟨(by repeat' first | exact True.intro | refine ⟨rfl, ?_⟩), (by repeat' first | exact True.intro | refine ⟨rfl, ?_⟩), Mem.le_refl _, rfl⟩ ?_
  rintro ⟨i, la⟩ ⟨hi, hla⟩
  dsimp only at hi hla
  obtain ⟨hk0, b0, o0, cs0, e0, hr0, -, -, x0, x1, x2, rfl, -, -⟩ := hl.at (by decide) hat
  have ht' : l[at'] = t := by rw [List.getElem?_eq_getElem hk0] at ht; exact Option.some.inj ht
  rw [ht'] at hr0
  (conv => whnf); refine brn (fun e => ?_) (fun e => ?_)
  · have hlt : i < at' := by have := of_decide_eq_true e; omega
    obtain ⟨hk1, b1, o1, cs, e1, hr1, -, -, xa, xn, xc, rfl, -, -⟩ := hl.at (by decide) (show i < n by omega)
    have hxi : l[i]? = some l[i] := List.getElem?_eq_getElem hk1
    have htk : (l.take (i + 1)).filter (agP t.id) = (l.take i).filter (agP t.id) ++ (if agP t.id l[i] = true then [l[i]] else []) := by
      rw [List.take_add_one, hxi, List.filter_append]
      congr 1
      cases hpx : agP t.id l[i] <;> simp [hpx]
    generalize l[i] = x at *
    (conv => whnf); refine ob (by first | omega | (dsimp only; omega)) ?_
    (conv => whnf); refine atp e1 ?_
    (conv => whnf); refine on (hr1 8 1 (by decide)) ?_
    obtain ⟨st, nd, xo, xd, xe, xcc, er, da, out⟩ := x
    cases out
    · (conv => whnf); refine ob (by first | omega | (dsimp only; omega)) ?_
      (conv => whnf); refine atp e1 ?_
      (conv => whnf); refine on (hr1 6 1 (by decide)) ?_
      (conv => whnf); refine brn (fun g => ?_) (fun g => ?_)
      · (conv => whnf); refine ob (by first | omega | (dsimp only; omega)) ?_
        (conv => whnf); refine atp e1 ?_
        (conv => whnf); refine on (hr1 2 1 (by decide)) ?_
        (conv => whnf); refine ob (by first | omega | (dsimp only; omega)) ?_
        (conv => whnf); refine atp e0 ?_
        (conv => whnf); refine on (hr0 2 1 (by decide)) ?_
        (conv => whnf); refine brn (fun g2 => ?_) (fun g2 => ?_)
        · (conv => whnf); refine ob (by first | omega | (dsimp only; omega)) ?_
          (conv => whnf); refine atp e1 ?_
          (conv => whnf); refine on (hr1 3 1 (by decide)) ?_
          (conv => whnf); refine ob (by first | omega | (dsimp only; omega)) ?_
          (conv => whnf); refine atp e0 ?_
          (conv => whnf); refine on (hr0 3 1 (by decide)) ?_
          (conv => whnf); refine brn (fun g3 => ?_) (fun g3 => ?_)
          · have hg : agP t.id ⟨st, nd, xo, xd, xe, xcc, er, da, false⟩ = true := by
              unfold agP
              have g' : decide (er = 0) = true := g
              have g2' : decide (xo = t.id.o) = true := g2
              have g3' : decide (xd = t.id.d) = true := g3
              rw [g', g2', g3']; rfl
            repeat' ((conv => whnf); first | refine ⟨?_, True.intro⟩ | refine brn_t rfl ?_ | refine brn_f rfl ?_ | refine ob rfl ?_ | refine ob (by decide) ?_ | refine grow_same (Mem.le_refl _) ?_ | refine ob (Mem.le_refl _) ?_ | refine ⟨_, Mem.le_refl _, ?_⟩ | fail)
            refine ob (inR_i64 (by first | omega | (dsimp only; omega))) ?_
            (conv => whnf)
            rw [hg, if_pos rfl] at htk
            exact ⟨⟨i + 1, i⟩, ⟨by dsimp only; omega, .inr ⟨i, _, rfl, by dsimp only; omega, hxi, by dsimp only; rw [htk]; simp⟩⟩, by dsimp only; omega, ⟨(by repeat' first | exact True.intro | refine ⟨rfl, ?_⟩), (by repeat' first | exact True.intro | refine ⟨rfl, ?_⟩), Mem.le_refl _, rfl⟩⟩
          · have hg : agP t.id ⟨st, nd, xo, xd, xe, xcc, er, da, false⟩ = false := by
              unfold agP
              have g' : decide (er = 0) = true := g
              have g2' : decide (xo = t.id.o) = true := g2
              have g3' : decide (xd = t.id.d) = false := g3
              rw [g', g2', g3']; rfl
            repeat' ((conv => whnf); first | refine ⟨?_, True.intro⟩ | refine brn_t rfl ?_ | refine brn_f rfl ?_ | refine ob rfl ?_ | refine ob (by decide) ?_ | refine grow_same (Mem.le_refl _) ?_ | refine ob (Mem.le_refl _) ?_ | refine ⟨_, Mem.le_refl _, ?_⟩ | fail)
            refine ob (inR_i64 (by first | omega | (dsimp only; omega))) ?_
            (conv => whnf)
            rw [hg, if_neg (by decide), List.append_nil] at htk
            refine ⟨⟨i + 1, la⟩, ⟨by dsimp only; omega, ?_⟩, by dsimp only; omega, ⟨(by repeat' first | exact True.intro | refine ⟨rfl, ?_⟩), (by repeat' first | exact True.intro | refine ⟨rfl, ?_⟩), Mem.le_refl _, rfl⟩⟩
            dsimp only
            rw [htk]
            rcases hla with h | ⟨j, z, h1, h2, h3, h4⟩
            · exact .inl h
            · exact .inr ⟨j, z, h1, by omega, h3, h4⟩
        · have hg : agP t.id ⟨st, nd, xo, xd, xe, xcc, er, da, false⟩ = false := by
            unfold agP
            have g' : decide (er = 0) = true := g
            have g2' : decide (xo = t.id.o) = false := g2
            rw [g', g2']; rfl
          repeat' ((conv => whnf); first | refine ⟨?_, True.intro⟩ | refine brn_t rfl ?_ | refine brn_f rfl ?_ | refine ob rfl ?_ | refine ob (by decide) ?_ | refine grow_same (Mem.le_refl _) ?_ | refine ob (Mem.le_refl _) ?_ | refine ⟨_, Mem.le_refl _, ?_⟩ | fail)
          refine ob (inR_i64 (by first | omega | (dsimp only; omega))) ?_
          (conv => whnf)
          rw [hg, if_neg (by decide), List.append_nil] at htk
          refine ⟨⟨i + 1, la⟩, ⟨by dsimp only; omega, ?_⟩, by dsimp only; omega, ⟨(by repeat' first | exact True.intro | refine ⟨rfl, ?_⟩), (by repeat' first | exact True.intro | refine ⟨rfl, ?_⟩), Mem.le_refl _, rfl⟩⟩
          dsimp only
          rw [htk]
          rcases hla with h | ⟨j, z, h1, h2, h3, h4⟩
          · exact .inl h
          · exact .inr ⟨j, z, h1, by omega, h3, h4⟩
      · have hg : agP t.id ⟨st, nd, xo, xd, xe, xcc, er, da, false⟩ = false := by
          unfold agP
          have g' : decide (er = 0) = false := g
          rw [g']; rfl
        repeat' ((conv => whnf); first | refine ⟨?_, True.intro⟩ | refine brn_t rfl ?_ | refine brn_f rfl ?_ | refine ob rfl ?_ | refine ob (by decide) ?_ | refine grow_same (Mem.le_refl _) ?_ | refine ob (Mem.le_refl _) ?_ | refine ⟨_, Mem.le_refl _, ?_⟩ | fail)
        refine ob (inR_i64 (by first | omega | (dsimp only; omega))) ?_
        (conv => whnf)
        rw [hg, if_neg (by decide), List.append_nil] at htk
        refine ⟨⟨i + 1, la⟩, ⟨by dsimp only; omega, ?_⟩, by dsimp only; omega, ⟨(by repeat' first | exact True.intro | refine ⟨rfl, ?_⟩), (by repeat' first | exact True.intro | refine ⟨rfl, ?_⟩), Mem.le_refl _, rfl⟩⟩
        dsimp only
        rw [htk]
        rcases hla with h | ⟨j, z, h1, h2, h3, h4⟩
        · exact .inl h
        · exact .inr ⟨j, z, h1, by omega, h3, h4⟩
    · have hg : agP t.id ⟨st, nd, xo, xd, xe, xcc, er, da, true⟩ = false := by unfold agP; rfl
      repeat' ((conv => whnf); first | refine ⟨?_, True.intro⟩ | refine brn_t rfl ?_ | refine brn_f rfl ?_ | refine ob rfl ?_ | refine ob (by decide) ?_ | refine grow_same (Mem.le_refl _) ?_ | refine ob (Mem.le_refl _) ?_ | refine ⟨_, Mem.le_refl _, ?_⟩ | fail)
      refine ob (inR_i64 (by first | omega | (dsimp only; omega))) ?_
      (conv => whnf)
      rw [hg, if_neg (by decide), List.append_nil] at htk
      refine ⟨⟨i + 1, la⟩, ⟨by dsimp only; omega, ?_⟩, by dsimp only; omega, ⟨(by repeat' first | exact True.intro | refine ⟨rfl, ?_⟩), (by repeat' first | exact True.intro | refine ⟨rfl, ?_⟩), Mem.le_refl _, rfl⟩⟩
      dsimp only
      rw [htk]
      rcases hla with h | ⟨j, z, h1, h2, h3, h4⟩
      · exact .inl h
      · exact .inr ⟨j, z, h1, by omega, h3, h4⟩
  · have hge : i = at' := by have := of_decide_eq_false e; omega
    subst hge
    have hB : againB (l.take i) t.id = match ((l.take i).filter (agP t.id)).getLast? with | some x => !ltW x.id t.id | none => false := rfl
    rcases hla with ⟨rfl, h⟩ | ⟨j, z, rfl, h2, h3, h4⟩
    · rw [h] at hB
      repeat' ((conv => whnf); first | refine ⟨?_, True.intro⟩ | refine brn_t rfl ?_ | refine brn_f rfl ?_ | refine ob rfl ?_ | refine ob (by decide) ?_ | refine grow_same (Mem.le_refl _) ?_ | refine ob (Mem.le_refl _) ?_ | refine ⟨_, Mem.le_refl _, ?_⟩ | fail)
      exact ⟨by rw [hB]; rfl, Mem.le_refl _⟩
    · rw [h4] at hB
      obtain ⟨hk1, b1, o1, cs, e1, hr1, -, -, xa, xn, xc, rfl, -, -⟩ := hl.at (by decide) (show j < n by omega)
      have hz : l[j] = z := by rw [List.getElem?_eq_getElem hk1] at h3; exact Option.some.inj h3
      rw [hz] at hr1
      (conv => whnf); refine brn_t (decide_eq_true (by omega)) ?_
      (conv => whnf); refine ob (by first | omega | (dsimp only; omega)) ?_
      (conv => whnf); refine atp e1 ?_
      (conv => whnf); refine on (hr1 2 4 (by decide)) ?_
      (conv => whnf); refine ob (by first | omega | (dsimp only; omega)) ?_
      (conv => whnf); refine atp e0 ?_
      (conv => whnf); refine on (hr0 2 4 (by decide)) ?_
      repeat' ((conv => whnf); first | refine ⟨?_, True.intro⟩ | refine brn_t rfl ?_ | refine brn_f rfl ?_ | refine ob rfl ?_ | refine ob (by decide) ?_ | refine grow_same (Mem.le_refl _) ?_ | refine ob (Mem.le_refl _) ?_ | refine ⟨_, Mem.le_refl _, ?_⟩ | fail)
      refine (lessR_ok z.id t.id).mono ?_
      rintro v M2 ⟨rfl, hle⟩
      repeat' ((conv => whnf); first | refine ⟨?_, True.intro⟩ | refine brn_t rfl ?_ | refine brn_f rfl ?_ | refine ob rfl ?_ | refine ob (by decide) ?_ | refine grow_same (Mem.le_refl _) ?_ | refine ob (Mem.le_refl _) ?_ | refine ⟨_, Mem.le_refl _, ?_⟩ | fail)
      exact ⟨by rw [hB], hle⟩
end Go.Proofs.YtphioaaifcmeaaaDoor
