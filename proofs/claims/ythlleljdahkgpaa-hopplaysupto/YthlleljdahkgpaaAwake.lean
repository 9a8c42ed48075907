/- What every law of this layer says at its end. -/
import Derived.Test.YthlleljdahkgpaaDeskD
namespace Go.Proofs.Ythlleljdahkgpaa
open Go Go.Vm
attribute [local irreducible] Brn Ob Grow CallsM inR LoopVC Mem.row Mem.cells Mem.setCells Mem.upd Own AppVC SrcVC StrVC NextVC New SrcOk subA NewSl Mem.textAt Mem.mapAt Mem.iterAt entryOf kfind Wr NewEls Elems
set_option maxRecDepth 10000
set_option maxRecDepth 10000 in
theorem via_ok (x : Int) (M : Mem) : CallsM Try.prog F.law20_via [.int .i64 x] M fun v M' => ∃ b, v = .slice (some ⟨b, 0, none⟩) 64 64 ∧ M b = none ∧ M' = M.setCells b T.int ((List.replicate 64 x).map intV) := by
  refine fo_law20_via (by simp) ?_
  (conv => whnf); refine ob (by decide) ?_
  (conv => whnf); refine new (fun b hb => ?_)
  replace hb : M b = none := hb
  (conv => whnf)
  refine loopF (σ := Nat) [4] (fun i => [(4, .int .i64 i)]) (fun _ => []) (fun i => M.setCells b T.int ((List.replicate i x ++ List.replicate (64 - i) 0).map intV)) (fun i => i ≤ 64) (fun i => 64 - i) 0 (by omega) ⟨(by repeat' first | exact True.intro | refine ⟨rfl, ?_⟩), (by repeat' first | exact True.intro | refine ⟨rfl, ?_⟩), Mem.le_refl _, rfl⟩ ?_
  intro i hi
  (conv => whnf); refine brn (fun h => ?_) (fun h => ?_)
  · have h' : i < 64 := by simp at h; omega
    (conv => whnf); refine ob (by simp; omega) ?_
    (conv => whnf); refine on Mem.cells_setCells ?_
    (conv => whnf); refine ob (by simp; omega) ?_
    (conv => whnf); refine ob (inR_i64 (by omega)) ?_
    (conv => whnf)
    refine ⟨i + 1, by omega, by omega, (by repeat' first | exact True.intro | refine ⟨rfl, ?_⟩), trivial, ?_, rfl⟩
    show Mem.le _ (Mem.setCells _ _ _ _)
    rw [Mem.setCells_setCells]
    have : splice ((List.replicate i x ++ List.replicate (64 - i) 0).map intV) (0 + (i : Int).toNat * 1) [.int .i64 x] = (List.replicate (i + 1) x ++ List.replicate (64 - (i + 1)) 0).map intV := by
      rw [show (0 + (i : Int).toNat * 1) = i by simp, splice_one _ _ _ (by simp; omega)]
      apply List.ext_getElem (by simp; omega)
      intro j h1 h2
      simp only [List.getElem_set, List.getElem_map, List.getElem_append, List.length_replicate, List.getElem_replicate]
      by_cases hj : i = j
      · subst hj; simp
      · simp only [if_neg hj]
        by_cases hlt : j < i
        · simp [hlt, show j < i + 1 by omega]
        · simp [hlt, show ¬ j < i + 1 by omega]
    erw [this]
    exact Mem.le_refl _
  · have h' : i = 64 := by simp at h; omega
    subst h'
    (conv => whnf)
    exact ⟨b, rfl, hb, by simp⟩
set_option maxRecDepth 10000 in
theorem awake_ok (M : Mem) : CallsM Try.prog F.law20_awake [] M fun v M' => v = .bool true ∧ M.le M' := by
  refine fo_law20_awake (by simp) ?_
  (conv => whnf); refine (new_ok 2 M).mono ?_
  rintro v M' (⟨h, -⟩ | ⟨-, p, b, rfl, hp, hb, hle, hd⟩)
  · omega
  (conv => whnf); refine new (fun b1 hb1 => ?_)
  replace hb1 : M' b1 = none := hb1
  (conv => whnf); refine on Mem.textAt_setCells ?_
  (conv => whnf)
  have hle1 : M'.le ((M'.setCells b1 T.uint8 [S.u 97]).upd b1 (.cells [S.u 97].toArray T.uint8 (1, 2))) := by
    intro c o hc
    have hne : c ≠ b1 := fun e => by subst e; rw [hb1] at hc; cases hc
    unfold Mem.setCells
    rw [Mem.upd_ne _ _ hne, Mem.upd_ne _ _ hne]; exact hc
  have hs1 : SrcOk ((M'.setCells b1 T.uint8 [S.u 97]).upd b1 (.cells [S.u 97].toArray T.uint8 (1, 2))) 1 (some ⟨b1, 0, none⟩) 1 ([97].map byteV) :=
    by unfold SrcOk; exact ⟨rfl, .inr ⟨b1, 0, rfl, Mem.row_obj (Mem.upd_same _ _ _) (by decide)⟩⟩
  obtain ⟨M1, hM1⟩ : ∃ M1, M1 = (M'.setCells b1 T.uint8 [S.u 97]).upd b1 (.cells [S.u 97].toArray T.uint8 (1, 2)) := ⟨_, rfl⟩
  rw [← hM1] at hle1 hs1
  erw [← hM1]
  have hd1 := hd.le hle1
  have hb1' : b1 ≠ p ∧ b1 ≠ b := hd.here hb1
  repeat' ((conv => whnf); first | refine ⟨?_, True.intro⟩ | refine brn_t rfl ?_ | refine brn_f rfl ?_ | refine ob rfl ?_ | refine ob (by decide) ?_ | refine grow_same (Mem.le_refl _) ?_ | refine ob (Mem.le_refl _) ?_ | refine ⟨_, Mem.le_refl _, ?_⟩ | fail)
  have hfin : ∀ M5 bA bB bC, M1.le M5 → M5.has bA T.api_Msg [.int .i64 1, .int .i64 3, .int .i64 1, .int .i64 1, .slice (some ⟨b1, 0, none⟩) 1 1] → M5.has bB T.int ((List.replicate 64 (2 : Int)).map intV) → M5.has bC T.int [intV 2] →
      M1 bA = none → M1 bB = none → M1 bC = none → CallsM Try.prog F.hop_Desk_Plan [ptr p, .slice (some ⟨bA, 0, none⟩) 1 1, .slice (some ⟨bB, 0, none⟩) 64 64, .slice (some ⟨bC, 0, none⟩) 1 1] M5 fun v M' => ∃ a c, v = .slice a 1 c ∧
      DeskAt M' p b 2 1 [(⟨1, 3, 1, 1⟩, ⟨2, 0, 0, 0⟩)] ∧ M.le M' ∧ Elems M' 7 a 1 (OfferR M5 M') [⟨2, 0, ⟨⟨1, 3, 1, 1⟩, [97]⟩⟩] := by
    intro M5 bA bB bC h5 hA hB hC nA nB nC
    have nA' := hd1.here nA
    have nB' := hd1.here nB
    have nC' := hd1.here nC
    have e : planOf [] 0 [⟨⟨1, 3, 1, 1⟩, [97]⟩] (List.replicate 64 2) [2] = ⟨[(⟨1, 3, 1, 1⟩, ⟨2, 0, 0, 0⟩)], 1, [⟨2, 0, ⟨⟨1, 3, 1, 1⟩, [97]⟩⟩]⟩ := by rfl
    have h1 := hA.minus (S := two' p b) (fun h => h.elim nA'.1 nA'.2)
    have h2 := hB.minus (S := two' p b) (fun h => h.elim nB'.1 nB'.2)
    have h3 := hC.minus (S := two' p b) (fun h => h.elim nC'.1 nC'.2)
    have hm : MsgR (M5.minus (two' p b)) [.int .i64 1, .int .i64 3, .int .i64 1, .int .i64 1, .slice (some ⟨b1, 0, none⟩) 1 1] ⟨⟨1, 3, 1, 1⟩, [97]⟩ :=
      ⟨_, _, _, rfl, (hs1.le h5).minus (fun q hq h => by cases hq; exact h.elim hb1'.1 hb1'.2), by decide⟩
    have hel : Elems (M5.minus (two' p b)) 5 (some ⟨bA, 0, none⟩) 1 (MsgR (M5.minus (two' p b))) [⟨⟨1, 3, 1, 1⟩, [97]⟩] :=
      by unfold Elems; exact ⟨[[.int .i64 1, .int .i64 3, .int .i64 1, .int .i64 1, .slice (some ⟨b1, 0, none⟩) 1 1]], h1.src rfl, rfl, rfl, by simp, fun i cs x hi hx => by
        match i, hi, hx with
        | 0, hi, hx => simp at hi hx; subst hi; subst hx; exact hm⟩
    refine (plan_ok (M5.minus (two' p b)) (hd1.le h5) ⟨by decide, by decide⟩ (Mem.minus_in (.inl rfl)) (Mem.minus_in (.inr rfl)) (Mem.minus_le _ _) (some ⟨bA, 0, none⟩) (some ⟨bB, 0, none⟩) (some ⟨bC, 0, none⟩) 1 64 1 1 64 1
      [⟨⟨1, 3, 1, 1⟩, [97]⟩] (List.replicate 64 2) [2] hel (h2.src (by simp)) (h3.src rfl) rfl (by decide) (by decide)).mono ?_
    rintro v M' ⟨a, c, rfl, h6, h7, h8⟩
    rw [e] at h6 h8 ⊢
    exact ⟨a, c, rfl, h6, h7.le (Mem.le_trans hle (Mem.le_trans hle1 h5)) (fun x hx => by rcases hx with rfl | rfl <;> assumption), h8⟩
  (conv => whnf)
  refine ⟨?_, ?_, ?_, trivial⟩
  · (conv => whnf); refine new (fun bA hA => ?_)
    (conv => whnf)
    (try (conv => whnf))
    refine ⟨?_, ?_, trivial⟩
    · (conv => whnf); refine (via_ok 2 _).mono ?_
      rintro v M' ⟨bB, rfl, hB, rfl⟩
      repeat' ((conv => whnf); first | refine ob rfl ?_ | refine ob (Mem.le_trans (Mem.le_setCells hA) (Mem.le_setCells hB)) ?_ | refine grow_same (Mem.le_trans (Mem.le_setCells hA) (Mem.le_setCells hB)) ?_ | fail)
      (conv => whnf)
      refine ⟨?_, trivial⟩
      (conv => whnf); refine new (fun bC hC => ?_)
      (conv => whnf)
      obtain ⟨h5, kA, kB, kC, nA, nB, nC⟩ := three hA hB hC
      (conv => whnf)
      refine ⟨?_, trivial⟩
      (conv => whnf)
      refine (hfin _ bA bB bC h5 kA kB kC nA nB nC).mono ?_
      clear hfin h5 kA kB kC
      rintro v M6 ⟨a, c, rfl, hd6, hle6, hel⟩
      have hw : W.Ok ⟨2, 0, 1, 3, 1, 1, none, 0, 0, none, 0, 0, [], []⟩ M6 := ⟨SrcOk.nil _ _, SrcOk.nil _ _, by decide, by decide⟩
      have he : W.err ⟨2, 0, 1, 3, 1, 1, none, 0, 0, none, 0, 0, [], []⟩ = 0 := by decide
      (conv => whnf); refine (put_ok _ _ hw).mono ?_
      rintro v M7 (⟨h, -⟩ | ⟨-, a7, c7, rfl, h7⟩)
      · exact absurd he h
      (conv => whnf); refine brn_t rfl ?_
      obtain ⟨hlt, bo, oo, cs, rfl, hrows, hrow, hcs, q, nq, kq, rfl, hq, hnq, hfr⟩ := hel.at (i := 0) (by decide) (by decide)
      (conv => whnf); refine ob (by decide) ?_
      (conv => whnf); refine on (Mem.row_le h7.le (hrows 0 1 (by decide))) ?_
      (conv => whnf); refine brn_t rfl ?_
      have hd7 := hd6.le h7.le
      (conv => whnf); refine (ack_ok hd7 1 0 ⟨1, 3, 1, 1⟩).mono ?_
      rintro v M8 ⟨rfl, hd8, hk8⟩
      (conv => whnf); refine brn_t rfl ?_
      (conv => whnf); refine (ack_ok hd8 2 0 ⟨1, 3, 1, 1⟩).mono ?_
      rintro v M9 ⟨rfl, hd9, hk9⟩
      have hw9 := h7.wr.mono (M' := M9) fun q o hq ho => have hne := (hd6.here (h7.block hq).1).2; hk9 _ _ hne (hk8 _ _ hne ho)
      (conv => whnf); refine brn_t rfl ?_
      (conv => whnf); refine brn_t rfl ?_
      (conv => whnf); refine strv hw9.src ?_
      (conv => whnf)
      refine ⟨rfl, ?_⟩
      have k0 : M.le M7 := Mem.le_trans hle6 h7.le
      have hS : ∀ x, one b x → M x = none := fun x hx => by cases hx; exact hb
      exact hk9.le (hk8.le k0 hS) hS
    · (conv => whnf); refine new (fun bC hC => ?_)
      (conv => whnf)
      (conv => whnf)
      refine ⟨?_, trivial⟩
      (conv => whnf); refine (via_ok 2 _).mono ?_
      rintro v M' ⟨bB, rfl, hB, rfl⟩
      repeat' ((conv => whnf); first | refine ob rfl ?_ | refine ob (Mem.le_trans (Mem.le_trans (Mem.le_setCells hA) (Mem.le_setCells hC)) (Mem.le_setCells hB)) ?_ | refine grow_same (Mem.le_trans (Mem.le_trans (Mem.le_setCells hA) (Mem.le_setCells hC)) (Mem.le_setCells hB)) ?_ | fail)
      obtain ⟨h5, kA, kC, kB, nA, nC, nB⟩ := three hA hC hB
      (conv => whnf)
      refine ⟨?_, trivial⟩
      (conv => whnf)
      refine (hfin _ bA bB bC h5 kA kB kC nA nB nC).mono ?_
      clear hfin h5 kA kB kC
      rintro v M6 ⟨a, c, rfl, hd6, hle6, hel⟩
      have hw : W.Ok ⟨2, 0, 1, 3, 1, 1, none, 0, 0, none, 0, 0, [], []⟩ M6 := ⟨SrcOk.nil _ _, SrcOk.nil _ _, by decide, by decide⟩
      have he : W.err ⟨2, 0, 1, 3, 1, 1, none, 0, 0, none, 0, 0, [], []⟩ = 0 := by decide
      (conv => whnf); refine (put_ok _ _ hw).mono ?_
      rintro v M7 (⟨h, -⟩ | ⟨-, a7, c7, rfl, h7⟩)
      · exact absurd he h
      (conv => whnf); refine brn_t rfl ?_
      obtain ⟨hlt, bo, oo, cs, rfl, hrows, hrow, hcs, q, nq, kq, rfl, hq, hnq, hfr⟩ := hel.at (i := 0) (by decide) (by decide)
      (conv => whnf); refine ob (by decide) ?_
      (conv => whnf); refine on (Mem.row_le h7.le (hrows 0 1 (by decide))) ?_
      (conv => whnf); refine brn_t rfl ?_
      have hd7 := hd6.le h7.le
      (conv => whnf); refine (ack_ok hd7 1 0 ⟨1, 3, 1, 1⟩).mono ?_
      rintro v M8 ⟨rfl, hd8, hk8⟩
      (conv => whnf); refine brn_t rfl ?_
      (conv => whnf); refine (ack_ok hd8 2 0 ⟨1, 3, 1, 1⟩).mono ?_
      rintro v M9 ⟨rfl, hd9, hk9⟩
      have hw9 := h7.wr.mono (M' := M9) fun q o hq ho => have hne := (hd6.here (h7.block hq).1).2; hk9 _ _ hne (hk8 _ _ hne ho)
      (conv => whnf); refine brn_t rfl ?_
      (conv => whnf); refine brn_t rfl ?_
      (conv => whnf); refine strv hw9.src ?_
      (conv => whnf)
      refine ⟨rfl, ?_⟩
      have k0 : M.le M7 := Mem.le_trans hle6 h7.le
      have hS : ∀ x, one b x → M x = none := fun x hx => by cases hx; exact hb
      exact hk9.le (hk8.le k0 hS) hS
  · (conv => whnf); refine (via_ok 2 _).mono ?_
    rintro v M' ⟨bB, rfl, hB, rfl⟩
    repeat' ((conv => whnf); first | refine ob rfl ?_ | refine ob (Mem.le_setCells hB) ?_ | refine grow_same (Mem.le_setCells hB) ?_ | fail)
    (try (conv => whnf))
    refine ⟨?_, ?_, trivial⟩
    · (conv => whnf); refine new (fun bA hA => ?_)
      (conv => whnf)
      (conv => whnf)
      refine ⟨?_, trivial⟩
      (conv => whnf); refine new (fun bC hC => ?_)
      (conv => whnf)
      obtain ⟨h5, kB, kA, kC, nB, nA, nC⟩ := three hB hA hC
      (conv => whnf)
      refine ⟨?_, trivial⟩
      (conv => whnf)
      refine (hfin _ bA bB bC h5 kA kB kC nA nB nC).mono ?_
      clear hfin h5 kA kB kC
      rintro v M6 ⟨a, c, rfl, hd6, hle6, hel⟩
      have hw : W.Ok ⟨2, 0, 1, 3, 1, 1, none, 0, 0, none, 0, 0, [], []⟩ M6 := ⟨SrcOk.nil _ _, SrcOk.nil _ _, by decide, by decide⟩
      have he : W.err ⟨2, 0, 1, 3, 1, 1, none, 0, 0, none, 0, 0, [], []⟩ = 0 := by decide
      (conv => whnf); refine (put_ok _ _ hw).mono ?_
      rintro v M7 (⟨h, -⟩ | ⟨-, a7, c7, rfl, h7⟩)
      · exact absurd he h
      (conv => whnf); refine brn_t rfl ?_
      obtain ⟨hlt, bo, oo, cs, rfl, hrows, hrow, hcs, q, nq, kq, rfl, hq, hnq, hfr⟩ := hel.at (i := 0) (by decide) (by decide)
      (conv => whnf); refine ob (by decide) ?_
      (conv => whnf); refine on (Mem.row_le h7.le (hrows 0 1 (by decide))) ?_
      (conv => whnf); refine brn_t rfl ?_
      have hd7 := hd6.le h7.le
      (conv => whnf); refine (ack_ok hd7 1 0 ⟨1, 3, 1, 1⟩).mono ?_
      rintro v M8 ⟨rfl, hd8, hk8⟩
      (conv => whnf); refine brn_t rfl ?_
      (conv => whnf); refine (ack_ok hd8 2 0 ⟨1, 3, 1, 1⟩).mono ?_
      rintro v M9 ⟨rfl, hd9, hk9⟩
      have hw9 := h7.wr.mono (M' := M9) fun q o hq ho => have hne := (hd6.here (h7.block hq).1).2; hk9 _ _ hne (hk8 _ _ hne ho)
      (conv => whnf); refine brn_t rfl ?_
      (conv => whnf); refine brn_t rfl ?_
      (conv => whnf); refine strv hw9.src ?_
      (conv => whnf)
      refine ⟨rfl, ?_⟩
      have k0 : M.le M7 := Mem.le_trans hle6 h7.le
      have hS : ∀ x, one b x → M x = none := fun x hx => by cases hx; exact hb
      exact hk9.le (hk8.le k0 hS) hS
    · (conv => whnf); refine new (fun bC hC => ?_)
      (conv => whnf)
      (conv => whnf)
      refine ⟨?_, trivial⟩
      (conv => whnf); refine new (fun bA hA => ?_)
      (conv => whnf)
      obtain ⟨h5, kB, kC, kA, nB, nC, nA⟩ := three hB hC hA
      (conv => whnf)
      refine ⟨?_, trivial⟩
      (conv => whnf)
      refine (hfin _ bA bB bC h5 kA kB kC nA nB nC).mono ?_
      clear hfin h5 kA kB kC
      rintro v M6 ⟨a, c, rfl, hd6, hle6, hel⟩
      have hw : W.Ok ⟨2, 0, 1, 3, 1, 1, none, 0, 0, none, 0, 0, [], []⟩ M6 := ⟨SrcOk.nil _ _, SrcOk.nil _ _, by decide, by decide⟩
      have he : W.err ⟨2, 0, 1, 3, 1, 1, none, 0, 0, none, 0, 0, [], []⟩ = 0 := by decide
      (conv => whnf); refine (put_ok _ _ hw).mono ?_
      rintro v M7 (⟨h, -⟩ | ⟨-, a7, c7, rfl, h7⟩)
      · exact absurd he h
      (conv => whnf); refine brn_t rfl ?_
      obtain ⟨hlt, bo, oo, cs, rfl, hrows, hrow, hcs, q, nq, kq, rfl, hq, hnq, hfr⟩ := hel.at (i := 0) (by decide) (by decide)
      (conv => whnf); refine ob (by decide) ?_
      (conv => whnf); refine on (Mem.row_le h7.le (hrows 0 1 (by decide))) ?_
      (conv => whnf); refine brn_t rfl ?_
      have hd7 := hd6.le h7.le
      (conv => whnf); refine (ack_ok hd7 1 0 ⟨1, 3, 1, 1⟩).mono ?_
      rintro v M8 ⟨rfl, hd8, hk8⟩
      (conv => whnf); refine brn_t rfl ?_
      (conv => whnf); refine (ack_ok hd8 2 0 ⟨1, 3, 1, 1⟩).mono ?_
      rintro v M9 ⟨rfl, hd9, hk9⟩
      have hw9 := h7.wr.mono (M' := M9) fun q o hq ho => have hne := (hd6.here (h7.block hq).1).2; hk9 _ _ hne (hk8 _ _ hne ho)
      (conv => whnf); refine brn_t rfl ?_
      (conv => whnf); refine brn_t rfl ?_
      (conv => whnf); refine strv hw9.src ?_
      (conv => whnf)
      refine ⟨rfl, ?_⟩
      have k0 : M.le M7 := Mem.le_trans hle6 h7.le
      have hS : ∀ x, one b x → M x = none := fun x hx => by cases hx; exact hb
      exact hk9.le (hk8.le k0 hS) hS
  · (conv => whnf); refine new (fun bC hC => ?_)
    (conv => whnf)
    (try (conv => whnf))
    refine ⟨?_, ?_, trivial⟩
    · (conv => whnf); refine new (fun bA hA => ?_)
      (conv => whnf)
      (conv => whnf)
      refine ⟨?_, trivial⟩
      (conv => whnf); refine (via_ok 2 _).mono ?_
      rintro v M' ⟨bB, rfl, hB, rfl⟩
      repeat' ((conv => whnf); first | refine ob rfl ?_ | refine ob (Mem.le_trans (Mem.le_trans (Mem.le_setCells hC) (Mem.le_setCells hA)) (Mem.le_setCells hB)) ?_ | refine grow_same (Mem.le_trans (Mem.le_trans (Mem.le_setCells hC) (Mem.le_setCells hA)) (Mem.le_setCells hB)) ?_ | fail)
      obtain ⟨h5, kC, kA, kB, nC, nA, nB⟩ := three hC hA hB
      (conv => whnf)
      refine ⟨?_, trivial⟩
      (conv => whnf)
      refine (hfin _ bA bB bC h5 kA kB kC nA nB nC).mono ?_
      clear hfin h5 kA kB kC
      rintro v M6 ⟨a, c, rfl, hd6, hle6, hel⟩
      have hw : W.Ok ⟨2, 0, 1, 3, 1, 1, none, 0, 0, none, 0, 0, [], []⟩ M6 := ⟨SrcOk.nil _ _, SrcOk.nil _ _, by decide, by decide⟩
      have he : W.err ⟨2, 0, 1, 3, 1, 1, none, 0, 0, none, 0, 0, [], []⟩ = 0 := by decide
      (conv => whnf); refine (put_ok _ _ hw).mono ?_
      rintro v M7 (⟨h, -⟩ | ⟨-, a7, c7, rfl, h7⟩)
      · exact absurd he h
      (conv => whnf); refine brn_t rfl ?_
      obtain ⟨hlt, bo, oo, cs, rfl, hrows, hrow, hcs, q, nq, kq, rfl, hq, hnq, hfr⟩ := hel.at (i := 0) (by decide) (by decide)
      (conv => whnf); refine ob (by decide) ?_
      (conv => whnf); refine on (Mem.row_le h7.le (hrows 0 1 (by decide))) ?_
      (conv => whnf); refine brn_t rfl ?_
      have hd7 := hd6.le h7.le
      (conv => whnf); refine (ack_ok hd7 1 0 ⟨1, 3, 1, 1⟩).mono ?_
      rintro v M8 ⟨rfl, hd8, hk8⟩
      (conv => whnf); refine brn_t rfl ?_
      (conv => whnf); refine (ack_ok hd8 2 0 ⟨1, 3, 1, 1⟩).mono ?_
      rintro v M9 ⟨rfl, hd9, hk9⟩
      have hw9 := h7.wr.mono (M' := M9) fun q o hq ho => have hne := (hd6.here (h7.block hq).1).2; hk9 _ _ hne (hk8 _ _ hne ho)
      (conv => whnf); refine brn_t rfl ?_
      (conv => whnf); refine brn_t rfl ?_
      (conv => whnf); refine strv hw9.src ?_
      (conv => whnf)
      refine ⟨rfl, ?_⟩
      have k0 : M.le M7 := Mem.le_trans hle6 h7.le
      have hS : ∀ x, one b x → M x = none := fun x hx => by cases hx; exact hb
      exact hk9.le (hk8.le k0 hS) hS
    · (conv => whnf); refine (via_ok 2 _).mono ?_
      rintro v M' ⟨bB, rfl, hB, rfl⟩
      repeat' ((conv => whnf); first | refine ob rfl ?_ | refine ob (Mem.le_trans (Mem.le_setCells hC) (Mem.le_setCells hB)) ?_ | refine grow_same (Mem.le_trans (Mem.le_setCells hC) (Mem.le_setCells hB)) ?_ | fail)
      (conv => whnf)
      refine ⟨?_, trivial⟩
      (conv => whnf); refine new (fun bA hA => ?_)
      (conv => whnf)
      obtain ⟨h5, kC, kB, kA, nC, nB, nA⟩ := three hC hB hA
      (conv => whnf)
      refine ⟨?_, trivial⟩
      (conv => whnf)
      refine (hfin _ bA bB bC h5 kA kB kC nA nB nC).mono ?_
      clear hfin h5 kA kB kC
      rintro v M6 ⟨a, c, rfl, hd6, hle6, hel⟩
      have hw : W.Ok ⟨2, 0, 1, 3, 1, 1, none, 0, 0, none, 0, 0, [], []⟩ M6 := ⟨SrcOk.nil _ _, SrcOk.nil _ _, by decide, by decide⟩
      have he : W.err ⟨2, 0, 1, 3, 1, 1, none, 0, 0, none, 0, 0, [], []⟩ = 0 := by decide
      (conv => whnf); refine (put_ok _ _ hw).mono ?_
      rintro v M7 (⟨h, -⟩ | ⟨-, a7, c7, rfl, h7⟩)
      · exact absurd he h
      (conv => whnf); refine brn_t rfl ?_
      obtain ⟨hlt, bo, oo, cs, rfl, hrows, hrow, hcs, q, nq, kq, rfl, hq, hnq, hfr⟩ := hel.at (i := 0) (by decide) (by decide)
      (conv => whnf); refine ob (by decide) ?_
      (conv => whnf); refine on (Mem.row_le h7.le (hrows 0 1 (by decide))) ?_
      (conv => whnf); refine brn_t rfl ?_
      have hd7 := hd6.le h7.le
      (conv => whnf); refine (ack_ok hd7 1 0 ⟨1, 3, 1, 1⟩).mono ?_
      rintro v M8 ⟨rfl, hd8, hk8⟩
      (conv => whnf); refine brn_t rfl ?_
      (conv => whnf); refine (ack_ok hd8 2 0 ⟨1, 3, 1, 1⟩).mono ?_
      rintro v M9 ⟨rfl, hd9, hk9⟩
      have hw9 := h7.wr.mono (M' := M9) fun q o hq ho => have hne := (hd6.here (h7.block hq).1).2; hk9 _ _ hne (hk8 _ _ hne ho)
      (conv => whnf); refine brn_t rfl ?_
      (conv => whnf); refine brn_t rfl ?_
      (conv => whnf); refine strv hw9.src ?_
      (conv => whnf)
      refine ⟨rfl, ?_⟩
      have k0 : M.le M7 := Mem.le_trans hle6 h7.le
      have hS : ∀ x, one b x → M x = none := fun x hx => by cases hx; exact hb
      exact hk9.le (hk8.le k0 hS) hS
end Go.Proofs.Ythlleljdahkgpaa
