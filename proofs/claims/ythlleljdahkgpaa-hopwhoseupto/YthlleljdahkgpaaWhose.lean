/- The law HopWhose, as a contract. -/
import Derived.Test.YthlleljdahkgpaaDeskE
import Derived.Test.YthlleljdahkgpaaAwake
namespace Go.Proofs.Ythlleljdahkgpaa
open Go Go.Vm
attribute [local irreducible] Brn Ob CallsM inR LoopVC Mem.row Mem.cells Mem.setCells Mem.upd Own AppVC SrcVC StrVC NextVC New SrcOk subA NewSl Mem.textAt Mem.mapAt Mem.iterAt entryOf kfind Wr NewEls Elems
set_option maxRecDepth 10000
/-- what the law holds in its hands: the argument's memory, a desk, one message in a row -/
structure Hand (A : Mem) (p b bO : Nat) (cs : List Value) (wait next : Int) (m : List (Id × Known)) (M : Mem) : Prop where
  arg : A.le M
  desk : DeskAt M p b wait next m
  one : M.has bO T.api_Msg cs
  nO : bO ≠ p ∧ bO ≠ b
  fp : A p = none
  fb : A b = none
variable {A : Mem} {p b bO : Nat} {cs : List Value} {wait next : Int} {m : List (Id × Known)} {M : Mem}
theorem Hand.two (h : Hand A p b bO cs wait next m M) : ∀ x, two' p b x → A x = none := fun x hx => by rcases hx with rfl | rfl; exact h.fp; exact h.fb
theorem Hand.le {M' : Mem} (h : Hand A p b bO cs wait next m M) (hle : M.le M') : Hand A p b bO cs wait next m M' :=
  ⟨Mem.le_trans h.arg hle, h.desk.le hle, h.one.le hle, h.nO, h.fp, h.fb⟩
theorem Hand.step {M' : Mem} {next' : Int} {m' : List (Id × Known)} (h : Hand A p b bO cs wait next m M) (hd : DeskAt M' p b wait next' m') (hk : Mem.keep (two' p b) M M') : Hand A p b bO cs wait next' m' M' :=
  ⟨hk.le h.arg h.two, hd, hk _ _ (fun e => e.elim h.nO.1 h.nO.2) h.one, h.nO, h.fp, h.fb⟩
theorem Hand.step1 {M' : Mem} {next' : Int} {m' : List (Id × Known)} (h : Hand A p b bO cs wait next m M) (hd : DeskAt M' p b wait next' m') (hk : Mem.keep (Go.Proofs.Ythlleljdahkgpaa.one b) M M') : Hand A p b bO cs wait next' m' M' :=
  h.step hd (Mem.keep_mono hk fun x hx => .inr hx)
/-- the one message is planned -/
theorem Hand.plan (h : Hand A p b bO cs wait next m M) (hn : 0 ≤ next ∧ next ≤ 65535) {x : Msg} (hx : MsgR A cs x) (f : Int) (ups : List Int) {bV bU : Nat} {lV lU : List Value} (hV : M.has bV T.int lV) (hV' : lV = (List.replicate 64 f).map intV) (hU : M.has bU T.int lU) (hU' : lU = ups.map intV) (hnU : ups.length ≤ 2097152)
    (nV : bV ≠ p ∧ bV ≠ b) (nU : bU ≠ p ∧ bU ≠ b) {n : Nat} (hnl : n = ups.length) :
    CallsM Try.prog F.hop_Desk_Plan [ptr p, .slice (some ⟨bO, 0, none⟩) 1 1, .slice (some ⟨bV, 0, none⟩) 64 64, .slice (some ⟨bU, 0, none⟩) n n] M fun v M' => ∃ a c, v = .slice a (planOf m next [x] (List.replicate 64 f) ups).out.length c ∧
      Hand A p b bO cs wait (planOf m next [x] (List.replicate 64 f) ups).next (planOf m next [x] (List.replicate 64 f) ups).m M' ∧ Elems M' 7 a (planOf m next [x] (List.replicate 64 f) ups).out.length (OfferR M M') (planOf m next [x] (List.replicate 64 f) ups).out := by
  subst hV' hU' hnl
  have h1 := h.one.minus (S := two' p b) (fun e => e.elim h.nO.1 h.nO.2)
  have h2 := hV.minus (S := two' p b) (fun e => e.elim nV.1 nV.2)
  have h3 := hU.minus (S := two' p b) (fun e => e.elim nU.1 nU.2)
  have hx' := hx.le (Mem.le_minus h.arg h.two)
  have hlen : cs.length = 5 := by obtain ⟨_, _, _, e, _⟩ := hx; rw [e]; rfl
  have hel : Elems (M.minus (two' p b)) 5 (some ⟨bO, 0, none⟩) 1 (MsgR (M.minus (two' p b))) [x] := by
    unfold Elems
    exact ⟨[cs], by simpa using h1.src (size := 5) (n := 1) (by simp [hlen]), rfl, rfl, by simp [hlen], fun i c y hi hy => by
      match i, hi, hy with
      | 0, hi, hy => simp at hi hy; subst hi; subst hy; exact hx'⟩
  refine (plan_ok (M.minus (two' p b)) h.desk hn (Mem.minus_in (.inl rfl)) (Mem.minus_in (.inr rfl)) (Mem.minus_le _ _) (some ⟨bO, 0, none⟩) (some ⟨bV, 0, none⟩) (some ⟨bU, 0, none⟩) 1 64 ups.length 1 64 ups.length
    [x] (List.replicate 64 f) ups hel (h2.src (by simp)) (h3.src (by simp)) rfl (by decide) (by omega)).mono ?_
  rintro v M' ⟨a, c, rfl, h6, h7, h8⟩
  exact ⟨a, c, rfl, h.step h6 h7, h8⟩
/-- via and a row of numbers, in either order -/
theorem pair1 {bV bU : Nat} {lV lU : List Value} (hV : M bV = none) (hU : (M.setCells bV T.int lV) bU = none) : M.le ((M.setCells bV T.int lV).setCells bU T.int lU) ∧ ((M.setCells bV T.int lV).setCells bU T.int lU).has bV T.int lV ∧
    ((M.setCells bV T.int lV).setCells bU T.int lU).has bU T.int lU ∧ M bV = none ∧ M bU = none := by
  have h1 : (M.setCells bV T.int lV).le _ := Mem.le_setCells (E := T.int) (l := lU) hU
  have h0 : M.le _ := Mem.le_setCells (E := T.int) (l := lV) hV
  refine ⟨Mem.le_trans h0 h1, h1 _ _ Mem.has_setCells, Mem.has_setCells, hV, ?_⟩
  cases e : M bU with
  | none => rfl
  | some o => rw [h0 bU o e] at hU; cases hU
theorem planOne_take {x : Msg} {f : Int} {ups : List Int} (hd : 0 ≤ x.id.d ∧ x.id.d < 64) (hf : f ∈ ups) (hm : aget m x.id = none) :
    planOf m next [x] (List.replicate 64 f) ups = ⟨aput m x.id ⟨f, next, 0, 0⟩, (next + 1) % 65536, [⟨f, next, x⟩]⟩ := by
  have : toOf (List.replicate 64 f) x.id = f := by
    simp only [toOf]
    rw [List.getD_eq_getElem?_getD, List.getElem?_replicate, if_pos (by omega)]; rfl
  simp only [planOf, List.foldl, planStep, this]
  rw [if_pos ⟨hd, hf, hm⟩]
  rfl
theorem planOne_skip {x : Msg} {f : Int} {ups : List Int} (hm : aget m x.id ≠ none) : planOf m next [x] (List.replicate 64 f) ups = ⟨m, next, []⟩ := by
  simp only [planOf, List.foldl, planStep]
  rw [if_neg (fun h => hm h.2.2)]
theorem ackOf_no {n k : Int} {i : Id} (h : ackOk m n k i = false) : ackOf m n k i = m := by rw [ackOf, h]; rfl
theorem refuseOf_no {n k : Int} {i : Id} (h : ackOk m n k i = false) : refuseOf m wait n k i = m := by rw [refuseOf, h]; rfl
theorem refuseOf_yes {n k : Int} {i : Id} (h : ackOk m n k i = true) : refuseOf m wait n k i = aput m i ⟨-1, 0, 0, wait⟩ := by rw [refuseOf, h]; rfl
theorem whose_ok (wait : Int) (x : Msg) (f0 f1 : Int) (cs : List Value) (q : Option Addr) (n k : Nat) (A0 : Mem) (hcs : cs = [.int .i64 x.id.o, .int .i64 x.id.d, .int .i64 x.id.e, .int .i64 x.id.c, .slice q n k]) (hx : MsgR A0 cs x) :
    CallsM Try.prog F.law20_HopWhose [.int .i64 wait, .agg #[.int .i64 x.id.o, .int .i64 x.id.d, .int .i64 x.id.e, .int .i64 x.id.c, .slice q n k], .agg #[.int .i64 f0, .int .i64 f1]] A0 fun v M' => v = .bool true ∧ A0.le M' := by
  refine fo_law20_HopWhose (by simp) ?_
  (conv => whnf); refine (new_ok wait A0).mono ?_
  rintro v M1 (⟨hw, rfl, rfl⟩ | ⟨hw, p, b, rfl, hp, hb, hle, hd⟩)
  · rcases hw with hw | hw
    · repeat' ((conv => whnf); first | refine ⟨?_, True.intro⟩ | refine brn_t rfl ?_ | refine brn_f rfl ?_ | refine ob rfl ?_ | refine ob (by decide) ?_ | refine ob (Mem.le_refl _) ?_ | refine ⟨_, Mem.le_refl _, ?_⟩ | fail)
      refine brn_t (by simpa using hw) ?_
      repeat' ((conv => whnf); first | refine ⟨?_, True.intro⟩ | refine brn_t rfl ?_ | refine brn_f rfl ?_ | refine ob rfl ?_ | refine ob (by decide) ?_ | refine ob (Mem.le_refl _) ?_ | refine ⟨_, Mem.le_refl _, ?_⟩ | fail)
      refine (awake_ok _).mono ?_
      rintro v M2 ⟨rfl, h2⟩
      (conv => whnf)
      exact ⟨rfl, h2⟩
    · repeat' ((conv => whnf); first | refine ⟨?_, True.intro⟩ | refine brn_t rfl ?_ | refine brn_f rfl ?_ | refine ob rfl ?_ | refine ob (by decide) ?_ | refine ob (Mem.le_refl _) ?_ | refine ⟨_, Mem.le_refl _, ?_⟩ | fail)
      refine brn_f (by simp; omega) ?_
      repeat' ((conv => whnf); first | refine ⟨?_, True.intro⟩ | refine brn_t rfl ?_ | refine brn_f rfl ?_ | refine ob rfl ?_ | refine ob (by decide) ?_ | refine ob (Mem.le_refl _) ?_ | refine ⟨_, Mem.le_refl _, ?_⟩ | fail)
      refine brn_t (by simpa using hw) ?_
      repeat' ((conv => whnf); first | refine ⟨?_, True.intro⟩ | refine brn_t rfl ?_ | refine brn_f rfl ?_ | refine ob rfl ?_ | refine ob (by decide) ?_ | refine ob (Mem.le_refl _) ?_ | refine ⟨_, Mem.le_refl _, ?_⟩ | fail)
      refine (awake_ok _).mono ?_
      rintro v M2 ⟨rfl, h2⟩
      (conv => whnf)
      exact ⟨rfl, h2⟩
  repeat' ((conv => whnf); first | refine ⟨?_, True.intro⟩ | refine brn_t rfl ?_ | refine brn_f rfl ?_ | refine ob rfl ?_ | refine ob (by decide) ?_ | refine ob (Mem.le_refl _) ?_ | refine ⟨_, Mem.le_refl _, ?_⟩ | fail)
  refine brn (fun g => ?_) (fun g => ?_)
  · (conv => whnf); refine (awake_ok _).mono ?_
    rintro v M2 ⟨rfl, h2⟩
    (conv => whnf)
    exact ⟨rfl, Mem.le_trans hle h2⟩
  (conv => whnf); refine brn (fun g2 => ?_) (fun g2 => ?_)
  · (conv => whnf); refine (awake_ok _).mono ?_
    rintro v M2 ⟨rfl, h2⟩
    (conv => whnf)
    exact ⟨rfl, Mem.le_trans hle h2⟩
  repeat' ((conv => whnf); first | refine ⟨?_, True.intro⟩ | refine brn_t rfl ?_ | refine brn_f rfl ?_ | refine ob rfl ?_ | refine ob (by decide) ?_ | refine ob (Mem.le_refl _) ?_ | refine ⟨_, Mem.le_refl _, ?_⟩ | fail)
  refine brn (fun g3 => ?_) (fun g3 => ?_)
  · (conv => whnf); refine (awake_ok _).mono ?_
    rintro v M2 ⟨rfl, h2⟩
    (conv => whnf)
    exact ⟨rfl, Mem.le_trans hle h2⟩
  simp only [decide_eq_false_iff_not] at g g2 g3
  (conv => whnf); refine new (fun bO hO => ?_)
  replace hO : M1 bO = none := hO
  have hH0 : Hand A0 p b bO cs wait 0 [] (M1.setCells bO T.api_Msg cs) := ⟨Mem.le_trans hle (Mem.le_setCells hO), hd.le (Mem.le_setCells hO), Mem.has_setCells, hd.here hO, hp, hb⟩
  have hpl0 : planOf [] 0 [x] (List.replicate 64 f0) [f0, f1] = ⟨[(x.id, ⟨f0, 0, 0, 0⟩)], 1, [⟨f0, 0, x⟩]⟩ := planOne_take (by omega) (by simp) rfl
  rw [hcs] at hH0
  obtain ⟨M2, hM2⟩ : ∃ M2, M2 = M1.setCells bO T.api_Msg [.int .i64 x.id.o, .int .i64 x.id.d, .int .i64 x.id.e, .int .i64 x.id.c, .slice q n k] := ⟨_, rfl⟩
  rw [← hM2] at hH0
  (conv => whnf)
  erw [← hM2]
  rw [hcs] at hx
  repeat' ((conv => whnf); first | refine ⟨?_, True.intro⟩ | refine brn_t rfl ?_ | refine brn_f rfl ?_ | refine ob rfl ?_ | refine ob (by decide) ?_ | refine ob (Mem.le_refl _) ?_ | refine ⟨_, Mem.le_refl _, ?_⟩ | fail)
  have tail1 : ∀ M3 bV bU, M2.le M3 → M3.has bV T.int ((List.replicate 64 f0).map intV) → M3.has bU T.int [intV f0, intV f1] → M2 bV = none → M2 bU = none →
      CallsM Try.prog F.hop_Desk_Plan [ptr p, .slice (some ⟨bO, 0, none⟩) 1 1, .slice (some ⟨bV, 0, none⟩) 64 64, .slice (some ⟨bU, 0, none⟩) 2 2] M3 fun v M' => ∃ a c, v = .slice a 1 c ∧
      Hand A0 p b bO [.int .i64 x.id.o, .int .i64 x.id.d, .int .i64 x.id.e, .int .i64 x.id.c, .slice q n k] wait 1 [(x.id, ⟨f0, 0, 0, 0⟩)] M' ∧ Elems M' 7 a 1 (OfferR M3 M') [⟨f0, 0, x⟩] := by
    intro M3 bV bU h1 h2 h3 h4 h5
    refine ((hH0.le h1).plan ⟨by decide, by decide⟩ hx f0 [f0, f1] h2 rfl h3 rfl (by simp) (hH0.desk.here h4) (hH0.desk.here h5) rfl).mono ?_
    rw [hpl0]
    rintro v M' ⟨a, c, rfl, h6, h7⟩
    exact ⟨a, c, rfl, h6, h7⟩
  (conv => whnf)
  refine ⟨?_, ?_, trivial⟩
  · (conv => whnf); refine (via_ok f0 _).mono ?_
    rintro v M' ⟨bV, rfl, hV, rfl⟩
    repeat' ((conv => whnf); first | refine ob rfl ?_ | refine ob (Mem.le_setCells hV) ?_ | fail)
    refine ⟨?_, trivial⟩
    (conv => whnf); refine new (fun bU hU => ?_)
    obtain ⟨k1, k2, k3, k4, k5⟩ := pair1 (lU := [intV f0, intV f1]) hV hU
    (conv => whnf)
    refine ⟨?_, trivial⟩
    (conv => whnf); refine (tail1 _ bV bU k1 k2 k3 k4 k5).mono ?_
    rintro v M3 ⟨a, c, rfl, hH3, hel⟩
    obtain ⟨hlt, bo, oo, cs3, rfl, hrows, hrow, hcs3, q3, nq3, kq3, rfl, -⟩ := hel.at (i := 0) (by decide) (by decide)
    have hn1 : f0 ≠ f1 := by simpa using g3
    have hA1 : aget [(x.id, (⟨f0, 0, 0, 0⟩ : Known))] x.id = some ⟨f0, 0, 0, 0⟩ := by simp [aget]
    have e1 : ackOk [(x.id, ⟨f0, 0, 0, 0⟩)] f1 0 x.id = false := by simp [ackOk, hA1, hn1]
    have e2 : ackOk [(x.id, ⟨f0, 0, 0, 0⟩)] f0 1 x.id = false := by simp [ackOk, hA1]
    have e3 : ackOk [(x.id, ⟨f0, 0, 0, 0⟩)] f0 0 x.id = true := by simp [ackOk, hA1]
    have e4 : isIs [(x.id, ⟨f0, 0, 0, 0⟩)] x.id = true := by simp [isIs, hA1]
    repeat' ((conv => whnf); first | refine ⟨?_, True.intro⟩ | refine brn_t rfl ?_ | refine brn_f rfl ?_ | refine ob rfl ?_ | refine ob (by decide) ?_ | refine ob (Mem.le_refl _) ?_ | refine ⟨_, Mem.le_refl _, ?_⟩ | fail)
    refine on (hrows 1 1 (by decide)) ?_
    repeat' ((conv => whnf); first | refine ⟨?_, True.intro⟩ | refine brn_t rfl ?_ | refine brn_f rfl ?_ | refine ob rfl ?_ | refine ob (by decide) ?_ | refine ob (Mem.le_refl _) ?_ | refine ⟨_, Mem.le_refl _, ?_⟩ | fail)
    refine (ack_ok hH3.desk f1 0 x.id).mono ?_
    rintro v M4 ⟨rfl, hd4, hk4⟩
    rw [e1]
    replace hH4 := hH3.step1 hd4 hk4
    rw [ackOf_no e1] at hH4
    repeat' ((conv => whnf); first | refine ⟨?_, True.intro⟩ | refine brn_t rfl ?_ | refine brn_f rfl ?_ | refine ob rfl ?_ | refine ob (by decide) ?_ | refine ob (Mem.le_refl _) ?_ | refine ⟨_, Mem.le_refl _, ?_⟩ | fail)
    refine (refuse_ok hH4.desk f1 0 x.id).mono ?_
    rintro v M5 ⟨rfl, hd5, hk5⟩
    rw [e1]
    have hH5 := hH4.step1 hd5 hk5
    rw [refuseOf_no e1] at hH5
    repeat' ((conv => whnf); first | refine ⟨?_, True.intro⟩ | refine brn_t rfl ?_ | refine brn_f rfl ?_ | refine ob rfl ?_ | refine ob (by decide) ?_ | refine ob (Mem.le_refl _) ?_ | refine ⟨_, Mem.le_refl _, ?_⟩ | fail)
    refine (ack_ok hH5.desk f0 1 x.id).mono ?_
    rintro v M6 ⟨rfl, hd6, hk6⟩
    have hH6 := hH5.step1 hd6 hk6
    rw [e2]
    rw [ackOf_no e2] at hH6
    repeat' ((conv => whnf); first | refine ⟨?_, True.intro⟩ | refine brn_t rfl ?_ | refine brn_f rfl ?_ | refine ob rfl ?_ | refine ob (by decide) ?_ | refine ob (Mem.le_refl _) ?_ | refine ⟨_, Mem.le_refl _, ?_⟩ | fail)
    refine (is_ok hH6.desk x.id).mono ?_
    rintro v M' ⟨rfl, rfl⟩
    rw [e4]
    repeat' ((conv => whnf); first | refine ⟨?_, True.intro⟩ | refine brn_t rfl ?_ | refine brn_f rfl ?_ | refine ob rfl ?_ | refine ob (by decide) ?_ | refine ob (Mem.le_refl _) ?_ | refine ⟨_, Mem.le_refl _, ?_⟩ | fail)
    refine (refuse_ok hH6.desk f0 0 x.id).mono ?_
    rintro v M7 ⟨rfl, hd7, hk7⟩
    rw [e3]
    have hH7 := hH6.step1 hd7 hk7
    rw [refuseOf_yes e3] at hH7
    have hA2 : ∀ j, aget (aput [(x.id, (⟨f0, 0, 0, 0⟩ : Known))] x.id ⟨-1, 0, 0, wait⟩) j = if j = x.id then some ⟨-1, 0, 0, wait⟩ else none := fun j => by
      rw [aget_aput]
      by_cases hj : j = x.id
      · rw [if_pos hj, if_pos hj]
      · rw [if_neg hj, if_neg hj]; simp only [aget]; rw [if_neg (fun e => hj e.symm)]
    generalize aput [(x.id, (⟨f0, 0, 0, 0⟩ : Known))] x.id ⟨-1, 0, 0, wait⟩ = m2 at hH7 hA2
    have hA3 : aget m2 x.id = some ⟨-1, 0, 0, wait⟩ := by rw [hA2, if_pos rfl]
    have e5 : ackOk m2 f0 0 x.id = false := by simp [ackOk, hA3]; omega
    have e6 : isIs m2 x.id = false := by simp [isIs, hA3]; omega
    repeat' ((conv => whnf); first | refine ⟨?_, True.intro⟩ | refine brn_t rfl ?_ | refine brn_f rfl ?_ | refine ob rfl ?_ | refine ob (by decide) ?_ | refine ob (Mem.le_refl _) ?_ | refine ⟨_, Mem.le_refl _, ?_⟩ | fail)
    refine (ack_ok hH7.desk f0 0 x.id).mono ?_
    rintro v M8 ⟨rfl, hd8, hk8⟩
    rw [e5]
    have hH8 := hH7.step1 hd8 hk8
    rw [ackOf_no e5] at hH8
    repeat' ((conv => whnf); first | refine ⟨?_, True.intro⟩ | refine brn_t rfl ?_ | refine brn_f rfl ?_ | refine ob rfl ?_ | refine ob (by decide) ?_ | refine ob (Mem.le_refl _) ?_ | refine ⟨_, Mem.le_refl _, ?_⟩ | fail)
    refine (is_ok hH8.desk x.id).mono ?_
    rintro v M' ⟨rfl, rfl⟩
    rw [e6]
    repeat' ((conv => whnf); first | refine ⟨?_, True.intro⟩ | refine brn_t rfl ?_ | refine brn_f rfl ?_ | refine ob rfl ?_ | refine ob (by decide) ?_ | refine ob (Mem.le_refl _) ?_ | refine ⟨_, Mem.le_refl _, ?_⟩ | fail)
    (conv => whnf)
    have hKA2 : KAll m2 := fun j kk hj => by
      rw [hA2] at hj
      split at hj
      · cases hj; exact ⟨by simp only; omega, by simp only; omega, by simp only; omega, by simp only; omega⟩
      · cases hj
    have hA4 : aget m2 x.id = if 0 < wait.toNat then some ⟨-1, 0, 0, wait - ((0 : Nat) : Int)⟩ else none := by rw [hA3, if_pos (by omega)]; simp
    refine loopF (σ := Nat × List (Id × Known) × Mem) [11] (fun y => [(11, .int .i64 y.1)]) (fun _ => [.live T.api_Msg [.v (.int .i64 x.id.o), .v (.int .i64 x.id.d), .v (.int .i64 x.id.e), .v (.int .i64 x.id.c), .v (.slice q n k)], .live T.a2_int [.v (.int .i64 f0), .v (.int .i64 f1)], .gone bO]) (fun y => y.2.2)
      (fun | ⟨i, m, M⟩ => i ≤ wait.toNat ∧ Hand A0 p b bO [.int .i64 x.id.o, .int .i64 x.id.d, .int .i64 x.id.e, .int .i64 x.id.c, .slice q n k] wait 1 m M ∧ KAll m ∧ aget m x.id = if i < wait.toNat then some ⟨-1, 0, 0, wait - i⟩ else none) (fun y => wait.toNat - y.1)
      ⟨0, m2, M8⟩ ⟨by omega, hH8, hKA2, hA4⟩ ⟨(by repeat' first | exact True.intro | refine ⟨rfl, ?_⟩), (by repeat' first | exact True.intro | refine ⟨rfl, ?_⟩), Mem.le_refl _, rfl⟩ ?_
    rintro ⟨i, m, M⟩ ⟨hi, hH, hKA, hAi⟩
    (conv => whnf); refine brn (fun h => ?_) (fun h => ?_)
    · have h' : (i : Int) < wait := by simpa using h
      rw [if_pos (by omega)] at hAi
      repeat' ((conv => whnf); first | refine ⟨?_, True.intro⟩ | refine brn_t rfl ?_ | refine brn_f rfl ?_ | refine ob rfl ?_ | refine ob (by decide) ?_ | refine ob (Mem.le_refl _) ?_ | refine ⟨_, Mem.le_refl _, ?_⟩ | fail)
      refine ob (inR_i64 (by first | omega | (dsimp only; omega))) ?_
      repeat' ((conv => whnf); first | refine ⟨?_, True.intro⟩ | refine brn_t rfl ?_ | refine brn_f rfl ?_ | refine ob rfl ?_ | refine ob (by decide) ?_ | refine ob (Mem.le_refl _) ?_ | refine ⟨_, Mem.le_refl _, ?_⟩ | fail)
      refine (waits_ok hH.desk x.id).mono ?_
      rintro v M' ⟨rfl, rfl⟩
      have e7 : waitsOf m x.id = wait - i := by simp [waitsOf, hAi]
      rw [e7]
      have hpl1 : planOf m 1 [x] (List.replicate 64 f1) [f1] = ⟨m, 1, []⟩ := planOne_skip (by rw [hAi]; simp)
      have tail2 : ∀ M3 bV bU, M.le M3 → M3.has bV T.int ((List.replicate 64 f1).map intV) → M3.has bU T.int [intV f1] → M bV = none → M bU = none →
          CallsM Try.prog F.hop_Desk_Plan [ptr p, .slice (some ⟨bO, 0, none⟩) 1 1, .slice (some ⟨bV, 0, none⟩) 64 64, .slice (some ⟨bU, 0, none⟩) 1 1] M3 fun v M' => ∃ a c, v = .slice a 0 c ∧
          Hand A0 p b bO [.int .i64 x.id.o, .int .i64 x.id.d, .int .i64 x.id.e, .int .i64 x.id.c, .slice q n k] wait 1 m M' := by
        intro M3 bV bU h1 h2 h3 h4 h5
        refine ((hH.le h1).plan ⟨by decide, by decide⟩ hx f1 [f1] h2 rfl h3 rfl (by simp) (hH.desk.here h4) (hH.desk.here h5) rfl).mono ?_
        rw [hpl1]
        rintro v M' ⟨a, c, rfl, h6, h7⟩
        exact ⟨a, c, rfl, h6⟩
      repeat' ((conv => whnf); first | refine ⟨?_, True.intro⟩ | refine brn_t rfl ?_ | refine brn_f rfl ?_ | refine ob rfl ?_ | refine ob (by decide) ?_ | refine ob (Mem.le_refl _) ?_ | refine ⟨_, Mem.le_refl _, ?_⟩ | fail)
      refine brn_f (by simp) ?_
      repeat' ((conv => whnf); first | refine ⟨?_, True.intro⟩ | refine brn_t rfl ?_ | refine brn_f rfl ?_ | refine ob rfl ?_ | refine ob (by decide) ?_ | refine ob (Mem.le_refl _) ?_ | refine ⟨_, Mem.le_refl _, ?_⟩ | fail)
      refine ⟨?_, ?_, trivial⟩
      · (conv => whnf); refine (via_ok f1 _).mono ?_
        rintro v M' ⟨bV, rfl, hV, rfl⟩
        repeat' ((conv => whnf); first | refine ob rfl ?_ | refine ob (Mem.le_setCells hV) ?_ | fail)
        refine ⟨?_, trivial⟩
        (conv => whnf); refine new (fun bU hU => ?_)
        obtain ⟨k1, k2, k3, k4, k5⟩ := pair1 (lU := [intV f1]) hV hU
        (conv => whnf)
        refine ⟨?_, trivial⟩
        (conv => whnf); refine (tail2 _ bV bU k1 k2 k3 k4 k5).mono ?_
        rintro v M3 ⟨a, c, rfl, hH3⟩
        repeat' ((conv => whnf); first | refine ⟨?_, True.intro⟩ | refine brn_t rfl ?_ | refine brn_f rfl ?_ | refine ob rfl ?_ | refine ob (by decide) ?_ | refine ob (Mem.le_refl _) ?_ | refine ⟨_, Mem.le_refl _, ?_⟩ | fail)
        refine (tick_ok hH3.desk hKA).mono ?_
        rintro v M4 ⟨rfl, hk4, m4, hd4, hm4⟩
        (conv => whnf); refine ob (inR_i64 (by first | omega | (dsimp only; omega))) ?_
        (conv => whnf)
        refine ⟨⟨i + 1, m4, M4⟩, ⟨by omega, hH3.step1 hd4 hk4, fun j kk hj => ?_, ?_⟩, by show wait.toNat - (i + 1) < wait.toNat - i; omega, ⟨(by repeat' first | exact True.intro | refine ⟨rfl, ?_⟩), (by repeat' first | exact True.intro | refine ⟨rfl, ?_⟩), Mem.le_refl _, rfl⟩⟩
        · rw [hm4] at hj
          cases h9 : aget m j with
          | none => rw [h9] at hj; cases hj
          | some k9 => rw [h9] at hj; exact tickK_ok (hKA j k9 h9) hj
        · rw [hm4, hAi]
          simp only [Option.bind_some, tickK]
          rw [if_pos (by omega)]
          by_cases hlast : i + 1 < wait.toNat
          · rw [if_neg (by intro hh; have := hh.1; omega), if_pos hlast]
            congr 2
            push_cast
            omega
          · rw [if_pos ⟨by omega, by simp⟩, if_neg hlast]
      · (conv => whnf); refine new (fun bU hU => ?_)
        (conv => whnf)
        refine ⟨?_, trivial⟩
        (conv => whnf); refine (via_ok f1 _).mono ?_
        rintro v M' ⟨bV, rfl, hV, rfl⟩
        obtain ⟨k1, k3, k2, k5, k4⟩ := pair1 (lU := (List.replicate 64 f1).map intV) (lV := [intV f1]) hU hV
        repeat' ((conv => whnf); first | refine ob rfl ?_ | refine ob k1 ?_ | fail)
        refine ⟨?_, trivial⟩
        (conv => whnf); refine (tail2 _ bV bU k1 k2 k3 k4 k5).mono ?_
        rintro v M3 ⟨a, c, rfl, hH3⟩
        repeat' ((conv => whnf); first | refine ⟨?_, True.intro⟩ | refine brn_t rfl ?_ | refine brn_f rfl ?_ | refine ob rfl ?_ | refine ob (by decide) ?_ | refine ob (Mem.le_refl _) ?_ | refine ⟨_, Mem.le_refl _, ?_⟩ | fail)
        refine (tick_ok hH3.desk hKA).mono ?_
        rintro v M4 ⟨rfl, hk4, m4, hd4, hm4⟩
        (conv => whnf); refine ob (inR_i64 (by first | omega | (dsimp only; omega))) ?_
        (conv => whnf)
        refine ⟨⟨i + 1, m4, M4⟩, ⟨by omega, hH3.step1 hd4 hk4, fun j kk hj => ?_, ?_⟩, by show wait.toNat - (i + 1) < wait.toNat - i; omega, ⟨(by repeat' first | exact True.intro | refine ⟨rfl, ?_⟩), (by repeat' first | exact True.intro | refine ⟨rfl, ?_⟩), Mem.le_refl _, rfl⟩⟩
        · rw [hm4] at hj
          cases h9 : aget m j with
          | none => rw [h9] at hj; cases hj
          | some k9 => rw [h9] at hj; exact tickK_ok (hKA j k9 h9) hj
        · rw [hm4, hAi]
          simp only [Option.bind_some, tickK]
          rw [if_pos (by omega)]
          by_cases hlast : i + 1 < wait.toNat
          · rw [if_neg (by intro hh; have := hh.1; omega), if_pos hlast]
            congr 2
            push_cast
            omega
          · rw [if_pos ⟨by omega, by simp⟩, if_neg hlast]
    · have h' : ¬ (i : Int) < wait := by simpa using h
      rw [if_neg (by omega)] at hAi
      have hpl2 : planOf m 1 [x] (List.replicate 64 f0) [f0] = ⟨aput m x.id ⟨f0, 1, 0, 0⟩, 2, [⟨f0, 1, x⟩]⟩ := planOne_take (by omega) (by simp) hAi
      have hA9 : aget (aput m x.id ⟨f0, 1, 0, 0⟩) x.id = some ⟨f0, 1, 0, 0⟩ := by rw [aget_aput, if_pos rfl]
      generalize aput m x.id ⟨f0, 1, 0, 0⟩ = m9 at hpl2 hA9
      have e7 : ackOk m9 f0 0 x.id = false := by simp [ackOk, hA9]
      have e8 : ackOk m9 f0 1 x.id = true := by simp [ackOk, hA9]
      have tail3 : ∀ M3 bV bU, M.le M3 → M3.has bV T.int ((List.replicate 64 f0).map intV) → M3.has bU T.int [intV f0] → M bV = none → M bU = none →
          CallsM Try.prog F.hop_Desk_Plan [ptr p, .slice (some ⟨bO, 0, none⟩) 1 1, .slice (some ⟨bV, 0, none⟩) 64 64, .slice (some ⟨bU, 0, none⟩) 1 1] M3 fun v M' => ∃ a c, v = .slice a 1 c ∧
          Hand A0 p b bO [.int .i64 x.id.o, .int .i64 x.id.d, .int .i64 x.id.e, .int .i64 x.id.c, .slice q n k] wait 2 m9 M' ∧ Elems M' 7 a 1 (OfferR M3 M') [⟨f0, 1, x⟩] := by
        intro M3 bV bU h1 h2 h3 h4 h5
        refine ((hH.le h1).plan ⟨by decide, by decide⟩ hx f0 [f0] h2 rfl h3 rfl (by simp) (hH.desk.here h4) (hH.desk.here h5) rfl).mono ?_
        rw [hpl2]
        rintro v M' ⟨a, c, rfl, h6, h7⟩
        exact ⟨a, c, rfl, h6, h7⟩
      repeat' ((conv => whnf); first | refine ⟨?_, True.intro⟩ | refine brn_t rfl ?_ | refine brn_f rfl ?_ | refine ob rfl ?_ | refine ob (by decide) ?_ | refine ob (Mem.le_refl _) ?_ | refine ⟨_, Mem.le_refl _, ?_⟩ | fail)
      refine ⟨?_, ?_, trivial⟩
      · (conv => whnf); refine (via_ok f0 _).mono ?_
        rintro v M' ⟨bV, rfl, hV, rfl⟩
        repeat' ((conv => whnf); first | refine ob rfl ?_ | refine ob (Mem.le_setCells hV) ?_ | fail)
        refine ⟨?_, trivial⟩
        (conv => whnf); refine new (fun bU hU => ?_)
        obtain ⟨k1, k2, k3, k4, k5⟩ := pair1 (lU := [intV f0]) hV hU
        (conv => whnf)
        refine ⟨?_, trivial⟩
        (conv => whnf); refine (tail3 _ bV bU k1 k2 k3 k4 k5).mono ?_
        rintro v M3 ⟨a, c, rfl, hH3, hel⟩
        obtain ⟨hlt, bo, oo, cs3, rfl, hrows, hrow, hcs3, q3, nq3, kq3, rfl, -⟩ := hel.at (i := 0) (by decide) (by decide)
        repeat' ((conv => whnf); first | refine ⟨?_, True.intro⟩ | refine brn_t rfl ?_ | refine brn_f rfl ?_ | refine ob rfl ?_ | refine ob (by decide) ?_ | refine ob (Mem.le_refl _) ?_ | refine ⟨_, Mem.le_refl _, ?_⟩ | fail)
        refine on (hrows 1 1 (by decide)) ?_
        repeat' ((conv => whnf); first | refine ⟨?_, True.intro⟩ | refine brn_t rfl ?_ | refine brn_f rfl ?_ | refine ob rfl ?_ | refine ob (by decide) ?_ | refine ob (Mem.le_refl _) ?_ | refine ⟨_, Mem.le_refl _, ?_⟩ | fail)
        refine (ack_ok hH3.desk f0 0 x.id).mono ?_
        rintro v M4 ⟨rfl, hd4, hk4⟩
        rw [e7]
        have hH4 := hH3.step1 hd4 hk4
        rw [ackOf_no e7] at hH4
        repeat' ((conv => whnf); first | refine ⟨?_, True.intro⟩ | refine brn_t rfl ?_ | refine brn_f rfl ?_ | refine ob rfl ?_ | refine ob (by decide) ?_ | refine ob (Mem.le_refl _) ?_ | refine ⟨_, Mem.le_refl _, ?_⟩ | fail)
        refine (refuse_ok hH4.desk f0 0 x.id).mono ?_
        rintro v M5 ⟨rfl, hd5, hk5⟩
        rw [e7]
        have hH5 := hH4.step1 hd5 hk5
        rw [refuseOf_no e7] at hH5
        repeat' ((conv => whnf); first | refine ⟨?_, True.intro⟩ | refine brn_t rfl ?_ | refine brn_f rfl ?_ | refine ob rfl ?_ | refine ob (by decide) ?_ | refine ob (Mem.le_refl _) ?_ | refine ⟨_, Mem.le_refl _, ?_⟩ | fail)
        refine (ack_ok hH5.desk f0 1 x.id).mono ?_
        rintro v M6 ⟨rfl, hd6, hk6⟩
        rw [e8]
        have hH6 := hH5.step1 hd6 hk6
        repeat' ((conv => whnf); first | refine ⟨?_, True.intro⟩ | refine brn_t rfl ?_ | refine brn_f rfl ?_ | refine ob rfl ?_ | refine ob (by decide) ?_ | refine ob (Mem.le_refl _) ?_ | refine ⟨_, Mem.le_refl _, ?_⟩ | fail)
        refine (awake_ok _).mono ?_
        rintro v M7 ⟨rfl, h7⟩
        (conv => whnf)
        exact ⟨rfl, Mem.le_trans hH6.arg h7⟩
      · (conv => whnf); refine new (fun bU hU => ?_)
        (conv => whnf)
        refine ⟨?_, trivial⟩
        (conv => whnf); refine (via_ok f0 _).mono ?_
        rintro v M' ⟨bV, rfl, hV, rfl⟩
        obtain ⟨k1, k3, k2, k5, k4⟩ := pair1 (lU := (List.replicate 64 f0).map intV) (lV := [intV f0]) hU hV
        repeat' ((conv => whnf); first | refine ob rfl ?_ | refine ob k1 ?_ | fail)
        refine ⟨?_, trivial⟩
        (conv => whnf); refine (tail3 _ bV bU k1 k2 k3 k4 k5).mono ?_
        rintro v M3 ⟨a, c, rfl, hH3, hel⟩
        obtain ⟨hlt, bo, oo, cs3, rfl, hrows, hrow, hcs3, q3, nq3, kq3, rfl, -⟩ := hel.at (i := 0) (by decide) (by decide)
        repeat' ((conv => whnf); first | refine ⟨?_, True.intro⟩ | refine brn_t rfl ?_ | refine brn_f rfl ?_ | refine ob rfl ?_ | refine ob (by decide) ?_ | refine ob (Mem.le_refl _) ?_ | refine ⟨_, Mem.le_refl _, ?_⟩ | fail)
        refine on (hrows 1 1 (by decide)) ?_
        repeat' ((conv => whnf); first | refine ⟨?_, True.intro⟩ | refine brn_t rfl ?_ | refine brn_f rfl ?_ | refine ob rfl ?_ | refine ob (by decide) ?_ | refine ob (Mem.le_refl _) ?_ | refine ⟨_, Mem.le_refl _, ?_⟩ | fail)
        refine (ack_ok hH3.desk f0 0 x.id).mono ?_
        rintro v M4 ⟨rfl, hd4, hk4⟩
        rw [e7]
        have hH4 := hH3.step1 hd4 hk4
        rw [ackOf_no e7] at hH4
        repeat' ((conv => whnf); first | refine ⟨?_, True.intro⟩ | refine brn_t rfl ?_ | refine brn_f rfl ?_ | refine ob rfl ?_ | refine ob (by decide) ?_ | refine ob (Mem.le_refl _) ?_ | refine ⟨_, Mem.le_refl _, ?_⟩ | fail)
        refine (refuse_ok hH4.desk f0 0 x.id).mono ?_
        rintro v M5 ⟨rfl, hd5, hk5⟩
        rw [e7]
        have hH5 := hH4.step1 hd5 hk5
        rw [refuseOf_no e7] at hH5
        repeat' ((conv => whnf); first | refine ⟨?_, True.intro⟩ | refine brn_t rfl ?_ | refine brn_f rfl ?_ | refine ob rfl ?_ | refine ob (by decide) ?_ | refine ob (Mem.le_refl _) ?_ | refine ⟨_, Mem.le_refl _, ?_⟩ | fail)
        refine (ack_ok hH5.desk f0 1 x.id).mono ?_
        rintro v M6 ⟨rfl, hd6, hk6⟩
        rw [e8]
        have hH6 := hH5.step1 hd6 hk6
        repeat' ((conv => whnf); first | refine ⟨?_, True.intro⟩ | refine brn_t rfl ?_ | refine brn_f rfl ?_ | refine ob rfl ?_ | refine ob (by decide) ?_ | refine ob (Mem.le_refl _) ?_ | refine ⟨_, Mem.le_refl _, ?_⟩ | fail)
        refine (awake_ok _).mono ?_
        rintro v M7 ⟨rfl, h7⟩
        (conv => whnf)
        exact ⟨rfl, Mem.le_trans hH6.arg h7⟩
  · (conv => whnf); refine new (fun bU hU => ?_)
    (conv => whnf)
    refine ⟨?_, trivial⟩
    (conv => whnf); refine (via_ok f0 _).mono ?_
    rintro v M' ⟨bV, rfl, hV, rfl⟩
    obtain ⟨k1, k3, k2, k5, k4⟩ := pair1 (lU := (List.replicate 64 f0).map intV) (lV := [intV f0, intV f1]) hU hV
    repeat' ((conv => whnf); first | refine ob rfl ?_ | refine ob k1 ?_ | fail)
    refine ⟨?_, trivial⟩
    (conv => whnf); refine (tail1 _ bV bU k1 k2 k3 k4 k5).mono ?_
    rintro v M3 ⟨a, c, rfl, hH3, hel⟩
    obtain ⟨hlt, bo, oo, cs3, rfl, hrows, hrow, hcs3, q3, nq3, kq3, rfl, -⟩ := hel.at (i := 0) (by decide) (by decide)
    have hn1 : f0 ≠ f1 := by simpa using g3
    have hA1 : aget [(x.id, (⟨f0, 0, 0, 0⟩ : Known))] x.id = some ⟨f0, 0, 0, 0⟩ := by simp [aget]
    have e1 : ackOk [(x.id, ⟨f0, 0, 0, 0⟩)] f1 0 x.id = false := by simp [ackOk, hA1, hn1]
    have e2 : ackOk [(x.id, ⟨f0, 0, 0, 0⟩)] f0 1 x.id = false := by simp [ackOk, hA1]
    have e3 : ackOk [(x.id, ⟨f0, 0, 0, 0⟩)] f0 0 x.id = true := by simp [ackOk, hA1]
    have e4 : isIs [(x.id, ⟨f0, 0, 0, 0⟩)] x.id = true := by simp [isIs, hA1]
    repeat' ((conv => whnf); first | refine ⟨?_, True.intro⟩ | refine brn_t rfl ?_ | refine brn_f rfl ?_ | refine ob rfl ?_ | refine ob (by decide) ?_ | refine ob (Mem.le_refl _) ?_ | refine ⟨_, Mem.le_refl _, ?_⟩ | fail)
    refine on (hrows 1 1 (by decide)) ?_
    repeat' ((conv => whnf); first | refine ⟨?_, True.intro⟩ | refine brn_t rfl ?_ | refine brn_f rfl ?_ | refine ob rfl ?_ | refine ob (by decide) ?_ | refine ob (Mem.le_refl _) ?_ | refine ⟨_, Mem.le_refl _, ?_⟩ | fail)
    refine (ack_ok hH3.desk f1 0 x.id).mono ?_
    rintro v M4 ⟨rfl, hd4, hk4⟩
    rw [e1]
    replace hH4 := hH3.step1 hd4 hk4
    rw [ackOf_no e1] at hH4
    repeat' ((conv => whnf); first | refine ⟨?_, True.intro⟩ | refine brn_t rfl ?_ | refine brn_f rfl ?_ | refine ob rfl ?_ | refine ob (by decide) ?_ | refine ob (Mem.le_refl _) ?_ | refine ⟨_, Mem.le_refl _, ?_⟩ | fail)
    refine (refuse_ok hH4.desk f1 0 x.id).mono ?_
    rintro v M5 ⟨rfl, hd5, hk5⟩
    rw [e1]
    have hH5 := hH4.step1 hd5 hk5
    rw [refuseOf_no e1] at hH5
    repeat' ((conv => whnf); first | refine ⟨?_, True.intro⟩ | refine brn_t rfl ?_ | refine brn_f rfl ?_ | refine ob rfl ?_ | refine ob (by decide) ?_ | refine ob (Mem.le_refl _) ?_ | refine ⟨_, Mem.le_refl _, ?_⟩ | fail)
    refine (ack_ok hH5.desk f0 1 x.id).mono ?_
    rintro v M6 ⟨rfl, hd6, hk6⟩
    have hH6 := hH5.step1 hd6 hk6
    rw [e2]
    rw [ackOf_no e2] at hH6
    repeat' ((conv => whnf); first | refine ⟨?_, True.intro⟩ | refine brn_t rfl ?_ | refine brn_f rfl ?_ | refine ob rfl ?_ | refine ob (by decide) ?_ | refine ob (Mem.le_refl _) ?_ | refine ⟨_, Mem.le_refl _, ?_⟩ | fail)
    refine (is_ok hH6.desk x.id).mono ?_
    rintro v M' ⟨rfl, rfl⟩
    rw [e4]
    repeat' ((conv => whnf); first | refine ⟨?_, True.intro⟩ | refine brn_t rfl ?_ | refine brn_f rfl ?_ | refine ob rfl ?_ | refine ob (by decide) ?_ | refine ob (Mem.le_refl _) ?_ | refine ⟨_, Mem.le_refl _, ?_⟩ | fail)
    refine (refuse_ok hH6.desk f0 0 x.id).mono ?_
    rintro v M7 ⟨rfl, hd7, hk7⟩
    rw [e3]
    have hH7 := hH6.step1 hd7 hk7
    rw [refuseOf_yes e3] at hH7
    have hA2 : ∀ j, aget (aput [(x.id, (⟨f0, 0, 0, 0⟩ : Known))] x.id ⟨-1, 0, 0, wait⟩) j = if j = x.id then some ⟨-1, 0, 0, wait⟩ else none := fun j => by
      rw [aget_aput]
      by_cases hj : j = x.id
      · rw [if_pos hj, if_pos hj]
      · rw [if_neg hj, if_neg hj]; simp only [aget]; rw [if_neg (fun e => hj e.symm)]
    generalize aput [(x.id, (⟨f0, 0, 0, 0⟩ : Known))] x.id ⟨-1, 0, 0, wait⟩ = m2 at hH7 hA2
    have hA3 : aget m2 x.id = some ⟨-1, 0, 0, wait⟩ := by rw [hA2, if_pos rfl]
    have e5 : ackOk m2 f0 0 x.id = false := by simp [ackOk, hA3]; omega
    have e6 : isIs m2 x.id = false := by simp [isIs, hA3]; omega
    repeat' ((conv => whnf); first | refine ⟨?_, True.intro⟩ | refine brn_t rfl ?_ | refine brn_f rfl ?_ | refine ob rfl ?_ | refine ob (by decide) ?_ | refine ob (Mem.le_refl _) ?_ | refine ⟨_, Mem.le_refl _, ?_⟩ | fail)
    refine (ack_ok hH7.desk f0 0 x.id).mono ?_
    rintro v M8 ⟨rfl, hd8, hk8⟩
    rw [e5]
    have hH8 := hH7.step1 hd8 hk8
    rw [ackOf_no e5] at hH8
    repeat' ((conv => whnf); first | refine ⟨?_, True.intro⟩ | refine brn_t rfl ?_ | refine brn_f rfl ?_ | refine ob rfl ?_ | refine ob (by decide) ?_ | refine ob (Mem.le_refl _) ?_ | refine ⟨_, Mem.le_refl _, ?_⟩ | fail)
    refine (is_ok hH8.desk x.id).mono ?_
    rintro v M' ⟨rfl, rfl⟩
    rw [e6]
    repeat' ((conv => whnf); first | refine ⟨?_, True.intro⟩ | refine brn_t rfl ?_ | refine brn_f rfl ?_ | refine ob rfl ?_ | refine ob (by decide) ?_ | refine ob (Mem.le_refl _) ?_ | refine ⟨_, Mem.le_refl _, ?_⟩ | fail)
    (conv => whnf)
    have hKA2 : KAll m2 := fun j kk hj => by
      rw [hA2] at hj
      split at hj
      · cases hj; exact ⟨by simp only; omega, by simp only; omega, by simp only; omega, by simp only; omega⟩
      · cases hj
    have hA4 : aget m2 x.id = if 0 < wait.toNat then some ⟨-1, 0, 0, wait - ((0 : Nat) : Int)⟩ else none := by rw [hA3, if_pos (by omega)]; simp
    refine loopF (σ := Nat × List (Id × Known) × Mem) [11] (fun y => [(11, .int .i64 y.1)]) (fun _ => [.live T.api_Msg [.v (.int .i64 x.id.o), .v (.int .i64 x.id.d), .v (.int .i64 x.id.e), .v (.int .i64 x.id.c), .v (.slice q n k)], .live T.a2_int [.v (.int .i64 f0), .v (.int .i64 f1)], .gone bO]) (fun y => y.2.2)
      (fun | ⟨i, m, M⟩ => i ≤ wait.toNat ∧ Hand A0 p b bO [.int .i64 x.id.o, .int .i64 x.id.d, .int .i64 x.id.e, .int .i64 x.id.c, .slice q n k] wait 1 m M ∧ KAll m ∧ aget m x.id = if i < wait.toNat then some ⟨-1, 0, 0, wait - i⟩ else none) (fun y => wait.toNat - y.1)
      ⟨0, m2, M8⟩ ⟨by omega, hH8, hKA2, hA4⟩ ⟨(by repeat' first | exact True.intro | refine ⟨rfl, ?_⟩), (by repeat' first | exact True.intro | refine ⟨rfl, ?_⟩), Mem.le_refl _, rfl⟩ ?_
    rintro ⟨i, m, M⟩ ⟨hi, hH, hKA, hAi⟩
    (conv => whnf); refine brn (fun h => ?_) (fun h => ?_)
    · have h' : (i : Int) < wait := by simpa using h
      rw [if_pos (by omega)] at hAi
      repeat' ((conv => whnf); first | refine ⟨?_, True.intro⟩ | refine brn_t rfl ?_ | refine brn_f rfl ?_ | refine ob rfl ?_ | refine ob (by decide) ?_ | refine ob (Mem.le_refl _) ?_ | refine ⟨_, Mem.le_refl _, ?_⟩ | fail)
      refine ob (inR_i64 (by first | omega | (dsimp only; omega))) ?_
      repeat' ((conv => whnf); first | refine ⟨?_, True.intro⟩ | refine brn_t rfl ?_ | refine brn_f rfl ?_ | refine ob rfl ?_ | refine ob (by decide) ?_ | refine ob (Mem.le_refl _) ?_ | refine ⟨_, Mem.le_refl _, ?_⟩ | fail)
      refine (waits_ok hH.desk x.id).mono ?_
      rintro v M' ⟨rfl, rfl⟩
      have e7 : waitsOf m x.id = wait - i := by simp [waitsOf, hAi]
      rw [e7]
      have hpl1 : planOf m 1 [x] (List.replicate 64 f1) [f1] = ⟨m, 1, []⟩ := planOne_skip (by rw [hAi]; simp)
      have tail2 : ∀ M3 bV bU, M.le M3 → M3.has bV T.int ((List.replicate 64 f1).map intV) → M3.has bU T.int [intV f1] → M bV = none → M bU = none →
          CallsM Try.prog F.hop_Desk_Plan [ptr p, .slice (some ⟨bO, 0, none⟩) 1 1, .slice (some ⟨bV, 0, none⟩) 64 64, .slice (some ⟨bU, 0, none⟩) 1 1] M3 fun v M' => ∃ a c, v = .slice a 0 c ∧
          Hand A0 p b bO [.int .i64 x.id.o, .int .i64 x.id.d, .int .i64 x.id.e, .int .i64 x.id.c, .slice q n k] wait 1 m M' := by
        intro M3 bV bU h1 h2 h3 h4 h5
        refine ((hH.le h1).plan ⟨by decide, by decide⟩ hx f1 [f1] h2 rfl h3 rfl (by simp) (hH.desk.here h4) (hH.desk.here h5) rfl).mono ?_
        rw [hpl1]
        rintro v M' ⟨a, c, rfl, h6, h7⟩
        exact ⟨a, c, rfl, h6⟩
      repeat' ((conv => whnf); first | refine ⟨?_, True.intro⟩ | refine brn_t rfl ?_ | refine brn_f rfl ?_ | refine ob rfl ?_ | refine ob (by decide) ?_ | refine ob (Mem.le_refl _) ?_ | refine ⟨_, Mem.le_refl _, ?_⟩ | fail)
      refine brn_f (by simp) ?_
      repeat' ((conv => whnf); first | refine ⟨?_, True.intro⟩ | refine brn_t rfl ?_ | refine brn_f rfl ?_ | refine ob rfl ?_ | refine ob (by decide) ?_ | refine ob (Mem.le_refl _) ?_ | refine ⟨_, Mem.le_refl _, ?_⟩ | fail)
      refine ⟨?_, ?_, trivial⟩
      · (conv => whnf); refine (via_ok f1 _).mono ?_
        rintro v M' ⟨bV, rfl, hV, rfl⟩
        repeat' ((conv => whnf); first | refine ob rfl ?_ | refine ob (Mem.le_setCells hV) ?_ | fail)
        refine ⟨?_, trivial⟩
        (conv => whnf); refine new (fun bU hU => ?_)
        obtain ⟨k1, k2, k3, k4, k5⟩ := pair1 (lU := [intV f1]) hV hU
        (conv => whnf)
        refine ⟨?_, trivial⟩
        (conv => whnf); refine (tail2 _ bV bU k1 k2 k3 k4 k5).mono ?_
        rintro v M3 ⟨a, c, rfl, hH3⟩
        repeat' ((conv => whnf); first | refine ⟨?_, True.intro⟩ | refine brn_t rfl ?_ | refine brn_f rfl ?_ | refine ob rfl ?_ | refine ob (by decide) ?_ | refine ob (Mem.le_refl _) ?_ | refine ⟨_, Mem.le_refl _, ?_⟩ | fail)
        refine (tick_ok hH3.desk hKA).mono ?_
        rintro v M4 ⟨rfl, hk4, m4, hd4, hm4⟩
        (conv => whnf); refine ob (inR_i64 (by first | omega | (dsimp only; omega))) ?_
        (conv => whnf)
        refine ⟨⟨i + 1, m4, M4⟩, ⟨by omega, hH3.step1 hd4 hk4, fun j kk hj => ?_, ?_⟩, by show wait.toNat - (i + 1) < wait.toNat - i; omega, ⟨(by repeat' first | exact True.intro | refine ⟨rfl, ?_⟩), (by repeat' first | exact True.intro | refine ⟨rfl, ?_⟩), Mem.le_refl _, rfl⟩⟩
        · rw [hm4] at hj
          cases h9 : aget m j with
          | none => rw [h9] at hj; cases hj
          | some k9 => rw [h9] at hj; exact tickK_ok (hKA j k9 h9) hj
        · rw [hm4, hAi]
          simp only [Option.bind_some, tickK]
          rw [if_pos (by omega)]
          by_cases hlast : i + 1 < wait.toNat
          · rw [if_neg (by intro hh; have := hh.1; omega), if_pos hlast]
            congr 2
            push_cast
            omega
          · rw [if_pos ⟨by omega, by simp⟩, if_neg hlast]
      · (conv => whnf); refine new (fun bU hU => ?_)
        (conv => whnf)
        refine ⟨?_, trivial⟩
        (conv => whnf); refine (via_ok f1 _).mono ?_
        rintro v M' ⟨bV, rfl, hV, rfl⟩
        obtain ⟨k1, k3, k2, k5, k4⟩ := pair1 (lU := (List.replicate 64 f1).map intV) (lV := [intV f1]) hU hV
        repeat' ((conv => whnf); first | refine ob rfl ?_ | refine ob k1 ?_ | fail)
        refine ⟨?_, trivial⟩
        (conv => whnf); refine (tail2 _ bV bU k1 k2 k3 k4 k5).mono ?_
        rintro v M3 ⟨a, c, rfl, hH3⟩
        repeat' ((conv => whnf); first | refine ⟨?_, True.intro⟩ | refine brn_t rfl ?_ | refine brn_f rfl ?_ | refine ob rfl ?_ | refine ob (by decide) ?_ | refine ob (Mem.le_refl _) ?_ | refine ⟨_, Mem.le_refl _, ?_⟩ | fail)
        refine (tick_ok hH3.desk hKA).mono ?_
        rintro v M4 ⟨rfl, hk4, m4, hd4, hm4⟩
        (conv => whnf); refine ob (inR_i64 (by first | omega | (dsimp only; omega))) ?_
        (conv => whnf)
        refine ⟨⟨i + 1, m4, M4⟩, ⟨by omega, hH3.step1 hd4 hk4, fun j kk hj => ?_, ?_⟩, by show wait.toNat - (i + 1) < wait.toNat - i; omega, ⟨(by repeat' first | exact True.intro | refine ⟨rfl, ?_⟩), (by repeat' first | exact True.intro | refine ⟨rfl, ?_⟩), Mem.le_refl _, rfl⟩⟩
        · rw [hm4] at hj
          cases h9 : aget m j with
          | none => rw [h9] at hj; cases hj
          | some k9 => rw [h9] at hj; exact tickK_ok (hKA j k9 h9) hj
        · rw [hm4, hAi]
          simp only [Option.bind_some, tickK]
          rw [if_pos (by omega)]
          by_cases hlast : i + 1 < wait.toNat
          · rw [if_neg (by intro hh; have := hh.1; omega), if_pos hlast]
            congr 2
            push_cast
            omega
          · rw [if_pos ⟨by omega, by simp⟩, if_neg hlast]
    · have h' : ¬ (i : Int) < wait := by simpa using h
      rw [if_neg (by omega)] at hAi
      have hpl2 : planOf m 1 [x] (List.replicate 64 f0) [f0] = ⟨aput m x.id ⟨f0, 1, 0, 0⟩, 2, [⟨f0, 1, x⟩]⟩ := planOne_take (by omega) (by simp) hAi
      have hA9 : aget (aput m x.id ⟨f0, 1, 0, 0⟩) x.id = some ⟨f0, 1, 0, 0⟩ := by rw [aget_aput, if_pos rfl]
      generalize aput m x.id ⟨f0, 1, 0, 0⟩ = m9 at hpl2 hA9
      have e7 : ackOk m9 f0 0 x.id = false := by simp [ackOk, hA9]
      have e8 : ackOk m9 f0 1 x.id = true := by simp [ackOk, hA9]
      have tail3 : ∀ M3 bV bU, M.le M3 → M3.has bV T.int ((List.replicate 64 f0).map intV) → M3.has bU T.int [intV f0] → M bV = none → M bU = none →
          CallsM Try.prog F.hop_Desk_Plan [ptr p, .slice (some ⟨bO, 0, none⟩) 1 1, .slice (some ⟨bV, 0, none⟩) 64 64, .slice (some ⟨bU, 0, none⟩) 1 1] M3 fun v M' => ∃ a c, v = .slice a 1 c ∧
          Hand A0 p b bO [.int .i64 x.id.o, .int .i64 x.id.d, .int .i64 x.id.e, .int .i64 x.id.c, .slice q n k] wait 2 m9 M' ∧ Elems M' 7 a 1 (OfferR M3 M') [⟨f0, 1, x⟩] := by
        intro M3 bV bU h1 h2 h3 h4 h5
        refine ((hH.le h1).plan ⟨by decide, by decide⟩ hx f0 [f0] h2 rfl h3 rfl (by simp) (hH.desk.here h4) (hH.desk.here h5) rfl).mono ?_
        rw [hpl2]
        rintro v M' ⟨a, c, rfl, h6, h7⟩
        exact ⟨a, c, rfl, h6, h7⟩
      repeat' ((conv => whnf); first | refine ⟨?_, True.intro⟩ | refine brn_t rfl ?_ | refine brn_f rfl ?_ | refine ob rfl ?_ | refine ob (by decide) ?_ | refine ob (Mem.le_refl _) ?_ | refine ⟨_, Mem.le_refl _, ?_⟩ | fail)
      refine ⟨?_, ?_, trivial⟩
      · (conv => whnf); refine (via_ok f0 _).mono ?_
        rintro v M' ⟨bV, rfl, hV, rfl⟩
        repeat' ((conv => whnf); first | refine ob rfl ?_ | refine ob (Mem.le_setCells hV) ?_ | fail)
        refine ⟨?_, trivial⟩
        (conv => whnf); refine new (fun bU hU => ?_)
        obtain ⟨k1, k2, k3, k4, k5⟩ := pair1 (lU := [intV f0]) hV hU
        (conv => whnf)
        refine ⟨?_, trivial⟩
        (conv => whnf); refine (tail3 _ bV bU k1 k2 k3 k4 k5).mono ?_
        rintro v M3 ⟨a, c, rfl, hH3, hel⟩
        obtain ⟨hlt, bo, oo, cs3, rfl, hrows, hrow, hcs3, q3, nq3, kq3, rfl, -⟩ := hel.at (i := 0) (by decide) (by decide)
        repeat' ((conv => whnf); first | refine ⟨?_, True.intro⟩ | refine brn_t rfl ?_ | refine brn_f rfl ?_ | refine ob rfl ?_ | refine ob (by decide) ?_ | refine ob (Mem.le_refl _) ?_ | refine ⟨_, Mem.le_refl _, ?_⟩ | fail)
        refine on (hrows 1 1 (by decide)) ?_
        repeat' ((conv => whnf); first | refine ⟨?_, True.intro⟩ | refine brn_t rfl ?_ | refine brn_f rfl ?_ | refine ob rfl ?_ | refine ob (by decide) ?_ | refine ob (Mem.le_refl _) ?_ | refine ⟨_, Mem.le_refl _, ?_⟩ | fail)
        refine (ack_ok hH3.desk f0 0 x.id).mono ?_
        rintro v M4 ⟨rfl, hd4, hk4⟩
        rw [e7]
        have hH4 := hH3.step1 hd4 hk4
        rw [ackOf_no e7] at hH4
        repeat' ((conv => whnf); first | refine ⟨?_, True.intro⟩ | refine brn_t rfl ?_ | refine brn_f rfl ?_ | refine ob rfl ?_ | refine ob (by decide) ?_ | refine ob (Mem.le_refl _) ?_ | refine ⟨_, Mem.le_refl _, ?_⟩ | fail)
        refine (refuse_ok hH4.desk f0 0 x.id).mono ?_
        rintro v M5 ⟨rfl, hd5, hk5⟩
        rw [e7]
        have hH5 := hH4.step1 hd5 hk5
        rw [refuseOf_no e7] at hH5
        repeat' ((conv => whnf); first | refine ⟨?_, True.intro⟩ | refine brn_t rfl ?_ | refine brn_f rfl ?_ | refine ob rfl ?_ | refine ob (by decide) ?_ | refine ob (Mem.le_refl _) ?_ | refine ⟨_, Mem.le_refl _, ?_⟩ | fail)
        refine (ack_ok hH5.desk f0 1 x.id).mono ?_
        rintro v M6 ⟨rfl, hd6, hk6⟩
        rw [e8]
        have hH6 := hH5.step1 hd6 hk6
        repeat' ((conv => whnf); first | refine ⟨?_, True.intro⟩ | refine brn_t rfl ?_ | refine brn_f rfl ?_ | refine ob rfl ?_ | refine ob (by decide) ?_ | refine ob (Mem.le_refl _) ?_ | refine ⟨_, Mem.le_refl _, ?_⟩ | fail)
        refine (awake_ok _).mono ?_
        rintro v M7 ⟨rfl, h7⟩
        (conv => whnf)
        exact ⟨rfl, Mem.le_trans hH6.arg h7⟩
      · (conv => whnf); refine new (fun bU hU => ?_)
        (conv => whnf)
        refine ⟨?_, trivial⟩
        (conv => whnf); refine (via_ok f0 _).mono ?_
        rintro v M' ⟨bV, rfl, hV, rfl⟩
        obtain ⟨k1, k3, k2, k5, k4⟩ := pair1 (lU := (List.replicate 64 f0).map intV) (lV := [intV f0]) hU hV
        repeat' ((conv => whnf); first | refine ob rfl ?_ | refine ob k1 ?_ | fail)
        refine ⟨?_, trivial⟩
        (conv => whnf); refine (tail3 _ bV bU k1 k2 k3 k4 k5).mono ?_
        rintro v M3 ⟨a, c, rfl, hH3, hel⟩
        obtain ⟨hlt, bo, oo, cs3, rfl, hrows, hrow, hcs3, q3, nq3, kq3, rfl, -⟩ := hel.at (i := 0) (by decide) (by decide)
        repeat' ((conv => whnf); first | refine ⟨?_, True.intro⟩ | refine brn_t rfl ?_ | refine brn_f rfl ?_ | refine ob rfl ?_ | refine ob (by decide) ?_ | refine ob (Mem.le_refl _) ?_ | refine ⟨_, Mem.le_refl _, ?_⟩ | fail)
        refine on (hrows 1 1 (by decide)) ?_
        repeat' ((conv => whnf); first | refine ⟨?_, True.intro⟩ | refine brn_t rfl ?_ | refine brn_f rfl ?_ | refine ob rfl ?_ | refine ob (by decide) ?_ | refine ob (Mem.le_refl _) ?_ | refine ⟨_, Mem.le_refl _, ?_⟩ | fail)
        refine (ack_ok hH3.desk f0 0 x.id).mono ?_
        rintro v M4 ⟨rfl, hd4, hk4⟩
        rw [e7]
        have hH4 := hH3.step1 hd4 hk4
        rw [ackOf_no e7] at hH4
        repeat' ((conv => whnf); first | refine ⟨?_, True.intro⟩ | refine brn_t rfl ?_ | refine brn_f rfl ?_ | refine ob rfl ?_ | refine ob (by decide) ?_ | refine ob (Mem.le_refl _) ?_ | refine ⟨_, Mem.le_refl _, ?_⟩ | fail)
        refine (refuse_ok hH4.desk f0 0 x.id).mono ?_
        rintro v M5 ⟨rfl, hd5, hk5⟩
        rw [e7]
        have hH5 := hH4.step1 hd5 hk5
        rw [refuseOf_no e7] at hH5
        repeat' ((conv => whnf); first | refine ⟨?_, True.intro⟩ | refine brn_t rfl ?_ | refine brn_f rfl ?_ | refine ob rfl ?_ | refine ob (by decide) ?_ | refine ob (Mem.le_refl _) ?_ | refine ⟨_, Mem.le_refl _, ?_⟩ | fail)
        refine (ack_ok hH5.desk f0 1 x.id).mono ?_
        rintro v M6 ⟨rfl, hd6, hk6⟩
        rw [e8]
        have hH6 := hH5.step1 hd6 hk6
        repeat' ((conv => whnf); first | refine ⟨?_, True.intro⟩ | refine brn_t rfl ?_ | refine brn_f rfl ?_ | refine ob rfl ?_ | refine ob (by decide) ?_ | refine ob (Mem.le_refl _) ?_ | refine ⟨_, Mem.le_refl _, ?_⟩ | fail)
        refine (awake_ok _).mono ?_
        rintro v M7 ⟨rfl, h7⟩
        (conv => whnf)
        exact ⟨rfl, Mem.le_trans hH6.arg h7⟩
end Go.Proofs.Ythlleljdahkgpaa
