/- Tables of ways: a net's tables are made. -/
import Derived.Test.YtankgacaeejlhaaRoutesJ
namespace Go.Proofs.Ytankgacaeejlhaa
open Go Go.Vm
attribute [local irreducible] Brn Ob CallsM inR LoopVC Mem.row Mem.cells Mem.setCells Mem.upd Own AppVC SrcVC StrVC NextVC New SrcOk subA NewSl Mem.textAt Mem.mapAt Mem.iterAt entryOf kfind Wr NewEls Elems
set_option maxRecDepth 10000
variable {M : Mem}
theorem nn_val (N : Int) : (1 : Int) + IntKind.i64.wrap ((IntKind.u64.wrap N).tmod 8) = nn N := by
  have h : 0 ≤ IntKind.u64.wrap N := by
    unfold IntKind.wrap
    simp [IntKind.signed, IntKind.bits]
    omega
  have h1 := Int.tmod_lt_of_pos (IntKind.u64.wrap N) (b := 8) (by omega)
  have h2 := Int.tmod_nonneg 8 h
  have h3 : IntKind.i64.wrap ((IntKind.u64.wrap N).tmod 8) = (IntKind.u64.wrap N).tmod 8 := by
    rw [IntKind.wrap_i64]; omega
  rw [h3]
  unfold nn
  omega
theorem tables_ok (N links : Int) : CallsM Try.prog F.law18_tables [.agg #[.int .i64 N, .int .u64 links]] M fun v M' =>
    ∃ a c ts, v = .slice a (nn N) c ∧ ts.length = nn N ∧ M.le M' ∧ SrcOk M' 1 a (nn N) (ts.map fun t => ptr t.p) ∧ All M' ts (fun _ => []) ∧ nbOk links (nn N) ts ∧ ∀ t ∈ ts, M t.b2 = none := by
  refine fo_law18_tables (by simp) ?_
  repeat' ((conv => whnf); first | refine ⟨?_, True.intro⟩ | refine brn_t rfl ?_ | refine brn_f rfl ?_ | refine ob rfl ?_ | refine ob (by decide) ?_ | refine ob (Mem.le_refl _) ?_ | refine ⟨_, Mem.le_refl _, ?_⟩ | fail)
  have hn := nn_le N
  refine ob (inR_i64 (by have := nn_val N; omega)) ?_
  (conv => whnf); refine new (fun b0 hb0 => ?_)
  replace hb0 : M b0 = none := hb0
  have hN : NewSl M T.p_routes_Table 1 (some ⟨b0, 0, none⟩) 0 0 (([] : List Tab).map fun t => ptr t.p) _ := NewSl.lit hb0 T.p_routes_Table 1 0 [] rfl
  obtain ⟨M1, hM1⟩ : ∃ M1, M1 = M.setCells b0 T.p_routes_Table [] := ⟨_, rfl⟩
  replace hN : NewSl M T.p_routes_Table 1 (some ⟨b0, 0, none⟩) 0 0 (([] : List Tab).map fun t => ptr t.p) M1 := hM1 ▸ hN
  (conv => whnf)
  erw [← hM1]
  rw [nn_val]
  generalize nn N = n at *
  refine loopF (σ := Mem × Mem × Option Addr × Nat × List Tab) [5, 4] (fun | ⟨_, _, a, c, ts⟩ => [(5, .int .i64 ts.length), (4, .slice a ts.length c)]) (fun _ => [.live T.portagelaw18_Net [.v (.int .i64 N), .v (.int .u64 links)], .gone b0]) (fun x => x.2.1)
    (fun | ⟨M0, M2, a, c, ts⟩ => ts.length ≤ n ∧ M.le M0 ∧ NewSl M0 T.p_routes_Table 1 a ts.length c (ts.map fun t => ptr t.p) M2 ∧ All M0 ts (fun _ => []) ∧ nbOk links n ts ∧ ∀ t ∈ ts, M t.b2 = none) (fun x => n - x.2.2.2.2.length) ⟨M, M1, some ⟨b0, 0, none⟩, 0, []⟩
    ⟨by simp, Mem.le_refl _, hN, ⟨fun i t h => by simp at h, fun i j t u h => by simp at h⟩, fun i t h => by simp at h, fun t h => by simp at h⟩ ⟨(by repeat' first | exact True.intro | refine ⟨rfl, ?_⟩), (by repeat' first | exact True.intro | refine ⟨rfl, ?_⟩), Mem.le_refl _, rfl⟩ ?_
  rintro ⟨M0, M2, a, c, ts⟩ ⟨hl, hle, hN2, hall, hnb, hfr⟩
  (conv => whnf); refine brn (fun g => ?_) (fun g => ?_)
  · have hi : ts.length < n := by have := of_decide_eq_true g; omega
    (conv => whnf); refine new (fun b3 hb3 => ?_)
    replace hb3 : M2 b3 = none := hb3
    have hN3 : NewSl M2 T.int 1 (some ⟨b3, 0, none⟩) 0 0 (([] : List Int).map intV) _ := NewSl.lit hb3 T.int 1 0 [] rfl
    obtain ⟨M3, hM3⟩ : ∃ M3, M3 = M2.setCells b3 T.int [] := ⟨_, rfl⟩
    replace hN3 : NewSl M2 T.int 1 (some ⟨b3, 0, none⟩) 0 0 (([] : List Int).map intV) M3 := hM3 ▸ hN3
    (conv => whnf)
    erw [← hM3]
    refine loopF (σ := Nat × Mem × Option Addr × Nat) [7, 6] (fun | ⟨k, _, a2, c2⟩ => [(7, .int .i64 k), (6, .slice a2 (nbOf links k ts.length).length c2)]) (fun _ => [.live T.portagelaw18_Net [.v (.int .i64 N), .v (.int .u64 links)], .gone b0, .gone b3]) (fun x => x.2.1)
      (fun | ⟨k, M4, a2, c2⟩ => k ≤ n ∧ NewSl M2 T.int 1 a2 (nbOf links k ts.length).length c2 ((nbOf links k ts.length).map intV) M4) (fun x => n - x.1) ⟨0, M3, some ⟨b3, 0, none⟩, 0⟩
      ⟨by omega, hN3⟩ ⟨(by repeat' first | exact True.intro | refine ⟨rfl, ?_⟩), (by repeat' first | exact True.intro | refine ⟨rfl, ?_⟩), Mem.le_refl _, rfl⟩ ?_
    rintro ⟨k, M4, a2, c2⟩ ⟨hk, hN4⟩
    have hlen4 := nbOf_len links k ts.length
    (conv => whnf); refine brn (fun g => ?_) (fun g => ?_)
    · have hk' : k < n := by have := of_decide_eq_true g; omega
      (conv => whnf); refine brn (fun h => ?_) (fun h => ?_)
      · (conv => whnf); refine (linked_ok N links ts.length k (by omega) (by omega)).mono ?_
        rintro v _ ⟨rfl, rfl⟩
        (conv => whnf); refine brn (fun h2 => ?_) (fun h2 => ?_)
        · have e : nbOf links (k + 1) ts.length = nbOf links k ts.length ++ [(k : Int)] := by rw [nbOf_succ, if_pos h2]
          (conv => whnf); refine appN M2 _ hN4 (by omega) (by simp [maxLen]; omega) (by simp [Value.oneCell']) fun a5 c5 M5 hN5 => ?_
          (conv => whnf); refine ob (inR_i64 (by omega)) ?_
          (conv => whnf)
          refine ⟨⟨k + 1, M5, a5, c5⟩, ⟨by omega, ?_⟩, by dsimp only; omega, ?_⟩
          · rw [e]
            simpa using hN5
          · simp only [e, List.length_append, List.length_cons, List.length_nil]
            exact ⟨(by repeat' first | exact True.intro | refine ⟨rfl, ?_⟩), (by repeat' first | exact True.intro | refine ⟨rfl, ?_⟩), Mem.le_refl _, rfl⟩
        · have e : nbOf links (k + 1) ts.length = nbOf links k ts.length := by rw [nbOf_succ, if_neg (by simp [h2])]
          (conv => whnf); refine ob (inR_i64 (by omega)) ?_
          (conv => whnf)
          refine ⟨⟨k + 1, M4, a2, c2⟩, ⟨by omega, ?_⟩, by dsimp only; omega, ?_⟩
          · rw [e]; exact hN4
          · simp only [e]
            exact ⟨(by repeat' first | exact True.intro | refine ⟨rfl, ?_⟩), (by repeat' first | exact True.intro | refine ⟨rfl, ?_⟩), Mem.le_refl _, rfl⟩
      · have hkt : k = ts.length := by simp at h; omega
        have e : nbOf links (k + 1) ts.length = nbOf links k ts.length := by rw [nbOf_succ, if_neg (by rw [hkt, lnkOf_self]; simp)]
        (conv => whnf); refine ob (inR_i64 (by omega)) ?_
        (conv => whnf)
        refine ⟨⟨k + 1, M4, a2, c2⟩, ⟨by omega, ?_⟩, by dsimp only; omega, ?_⟩
        · rw [e]; exact hN4
        · simp only [e]
          exact ⟨(by repeat' first | exact True.intro | refine ⟨rfl, ?_⟩), (by repeat' first | exact True.intro | refine ⟨rfl, ?_⟩), Mem.le_refl _, rfl⟩
    · have hk' : k = n := by have := of_decide_eq_false g; omega
      subst hk'
      (conv => whnf); refine (New_ok (M := M4) ts.length 64 a2 _ c2 (nbOf links k ts.length) hN4.src (by omega)).mono ?_
      have h0 : newE ts.length (nbOf links k ts.length) 64 = 0 := by
        have e1 : isNode (ts.length : Int) = true := by simp [isNode]; omega
        simp [newE, e1, okNb_nbOf links (n := k) (i := ts.length) (by omega)]
      rintro v M5 (⟨hne, _⟩ | ⟨_, p, b1, b2, a', c', rfl, hp, h1, h2, ha, hle5, ht⟩)
      · exact absurd h0 hne
      have hle25 : M2.le M5 := Mem.le_trans hN4.le hle5
      repeat' ((conv => whnf); first | refine ⟨?_, True.intro⟩ | refine brn_t rfl ?_ | refine brn_f rfl ?_ | refine ob rfl ?_ | refine ob (by decide) ?_ | refine ob (Mem.le_refl _) ?_ | refine ⟨_, Mem.le_refl _, ?_⟩ | fail)
      have hM0 : M0.le (M5.minus (blk a)) := Mem.le_minus (Mem.le_trans hN2.le hle25) fun x hx => by obtain ⟨q, hq, e⟩ := hx; subst e; exact (hN2.block hq).1
      have hX : ∀ x, M2 x = none → ¬ blk a x := fun x hx hb => by
        obtain ⟨q, hq, e⟩ := hb
        obtain ⟨_, cs, hh⟩ := hN2.block hq
        subst e
        unfold Mem.has at hh
        rw [hx] at hh; cases hh
      have h4 : ∀ x, M4 x = none → M2 x = none := fun x hx => by
        cases hM : M2 x with
        | none => rfl
        | some o => rw [hN4.le _ _ hM] at hx; cases hx
      have ht' := ht.minus (X := blk a) (hX _ (h4 _ hp)) (hX _ (h4 _ h1)) (hX _ (h4 _ h2)) fun q hq => hX _ (h4 _ (ha q hq))
      refine appN (M5.minus (blk a)) _ (hN2.rebase hle25) (by omega) (by simp [maxLen]; omega) (by simp [Value.oneCell']) fun a6 c6 M6 hN6 => ?_
      (conv => whnf); refine ob (inR_i64 (by omega)) ?_
      (conv => whnf)
      have hall' := hall.le hM0
      refine ⟨⟨M5.minus (blk a), M6, a6, c6, ts ++ [⟨p, b1, b2, a', c', nbOf links k ts.length⟩]⟩, ⟨by simp; omega, Mem.le_trans hle hM0, by simpa using hN6, ⟨fun i t hi => ?_, fun i j t u hi hj hne => ?_⟩, fun i t hi => ?_, fun t ht => ?_⟩, by simp; omega, by simp only [List.length_append, List.length_cons, List.length_nil]; exact ⟨(by repeat' first | exact True.intro | refine ⟨rfl, ?_⟩), (by repeat' first | exact True.intro | refine ⟨rfl, ?_⟩), Mem.le_refl _, rfl⟩⟩
      · by_cases e : i < ts.length
        · rw [List.getElem?_append_left e] at hi
          exact hall'.lies i t hi
        · have : i = ts.length := by have := (List.getElem?_eq_some_iff.1 hi).1; simp at this; omega
          subst this
          simp at hi; subst hi
          exact ht'
      · have fresh : ∀ (i : Nat) (t : Tab), ts[i]? = some t → t.b2 ≠ b2 ∧ t.b2 ≠ b1 ∧ t.b1 ≠ b2 := fun i t hi => by
          have hm := (hall.lies i t hi)
          have q2 : M2 t.b2 ≠ none := by
            obtain ⟨l, cc, hh, _⟩ := hm.hrd
            rw [hN2.le _ _ hh]; simp
          have q1 : M2 t.b1 ≠ none := by
            obtain ⟨l, cc, hh, _⟩ := hm.set
            rw [hN2.le _ _ hh]; simp
          exact ⟨fun e => q2 (e ▸ h4 _ h2), fun e => q2 (e ▸ h4 _ h1), fun e => q1 (e ▸ h4 _ h2)⟩
        by_cases ei : i < ts.length
        · rw [List.getElem?_append_left ei] at hi
          by_cases ej : j < ts.length
          · rw [List.getElem?_append_left ej] at hj
            exact hall.apart i j t u hi hj hne
          · have : j = ts.length := by have := (List.getElem?_eq_some_iff.1 hj).1; simp at this; omega
            subst this
            simp at hj; subst hj
            exact ⟨(fresh i t hi).1, (fresh i t hi).2.1⟩
        · have : i = ts.length := by have := (List.getElem?_eq_some_iff.1 hi).1; simp at this; omega
          subst this
          simp at hi; subst hi
          have ej : j < ts.length := by have := (List.getElem?_eq_some_iff.1 hj).1; simp at this; omega
          rw [List.getElem?_append_left ej] at hj
          exact ⟨Ne.symm (fresh j u hj).1, Ne.symm (fresh j u hj).2.2⟩
      · by_cases e : i < ts.length
        · rw [List.getElem?_append_left e] at hi
          exact hnb i t hi
        · have : i = ts.length := by have := (List.getElem?_eq_some_iff.1 hi).1; simp at this; omega
          subst this
          simp at hi; subst hi
          rfl
      · rcases List.mem_append.1 ht with h | h
        · exact hfr t h
        · simp at h; subst h
          have := h4 _ h2
          cases hM : M b2 with
          | none => rfl
          | some o => rw [hN2.le _ _ (hle _ _ hM)] at this; cases this
  · have hi : ts.length = n := by have := of_decide_eq_false g; omega
    subst hi
    (conv => whnf)
    exact ⟨a, c, ts, rfl, rfl, Mem.le_trans hle hN2.le, hN2.src, hall.le hN2.le, hnb, hfr⟩
end Go.Proofs.Ytankgacaeejlhaa
