/- The document's desk: its plan. -/
import Derived.Test.YthlleljdahkgpaaRefDeskD
namespace Go.Proofs.Ythlleljdahkgpaa
open Go Go.Vm
attribute [local irreducible] Brn Ob Grow CallsM inR LoopVC Mem.row Mem.cells Mem.setCells Mem.upd Own AppVC SrcVC StrVC NextVC New SrcOk subA NewSl Mem.textAt Mem.mapAt Mem.iterAt entryOf kfind Wr NewEls Elems
set_option maxRecDepth 10000
variable {M : Mem} {L : KL} {a : Option Addr} {n c : Nat} {wait next : Int}
def planStepL (via up : List Int) (s : PlanSt) (x : Msg) : PlanSt :=
  if (0 ≤ x.id.d ∧ x.id.d < 64) ∧ toOf via x.id ∈ up ∧ aget s.m x.id = none then
    ⟨withL s.m (x.id, ⟨toOf via x.id, s.next, 0, 0⟩), (s.next + 1) % 65536, s.out ++ [⟨toOf via x.id, s.next, x⟩]⟩ else s
def planL (L : KL) (next : Int) (held : List Msg) (via up : List Int) : PlanSt := held.foldl (planStepL via up) ⟨L, next, []⟩
theorem plan_rel (via up : List Int) : ∀ (held : List Msg) (s t : PlanSt), RelD s.m t.m → s.next = t.next → s.out = t.out →
    RelD (held.foldl (planStep via up) s).m (held.foldl (planStepL via up) t).m ∧ (held.foldl (planStep via up) s).next = (held.foldl (planStepL via up) t).next ∧ (held.foldl (planStep via up) s).out = (held.foldl (planStepL via up) t).out
  | [], _, _, h1, h2, h3 => ⟨h1, h2, h3⟩
  | x :: r, s, t, h1, h2, h3 => by
    rw [List.foldl_cons, List.foldl_cons]
    have e := h1.same x.id
    by_cases hc : (0 ≤ x.id.d ∧ x.id.d < 64) ∧ toOf via x.id ∈ up ∧ aget s.m x.id = none
    · have hc' : (0 ≤ x.id.d ∧ x.id.d < 64) ∧ toOf via x.id ∈ up ∧ aget t.m x.id = none := ⟨hc.1, hc.2.1, by rw [← e]; exact hc.2.2⟩
      rw [planStep, if_pos hc, planStepL, if_pos hc']
      refine plan_rel via up r _ _ ?_ ?_ ?_
      · dsimp only; rw [← h2]; exact h1.with (x.id, _)
      · dsimp only; rw [h2]
      · dsimp only; rw [h2, h3]
    · have hc' : ¬ ((0 ≤ x.id.d ∧ x.id.d < 64) ∧ toOf via x.id ∈ up ∧ aget t.m x.id = none) := fun h => hc ⟨h.1, h.2.1, by rw [e]; exact h.2.2⟩
      rw [planStep, if_neg hc, planStepL, if_neg hc']
      exact plan_rel via up r s t h1 h2 h3
theorem withL_len (L : KL) (x : Id × Known) : (withL L x).length ≤ L.length + 1 := by
  have h : ∀ (W : KL) (dn : Bool), (insL x dn W).length ≤ W.length + 1 := fun W => by
    induction W with
    | nil => intro dn; cases dn <;> simp [insL]
    | cons y r ih =>
      intro dn
      rw [insL]
      split
      · rw [insL_true]; simp
      · have := ih dn; simp; omega
  have h1 := h (withoutL L x.1) false
  have h2 := without_len L x.1
  unfold withL
  omega
/-- an offer of the document: the message's bytes are the held one's -/
def DocOffR (S : Mem) (cs : List Value) (x : Offer) : Prop := ∃ p n k, cs = [.int .i64 x.to, .int .i64 x.n, .int .i64 x.msg.id.o, .int .i64 x.msg.id.d, .int .i64 x.msg.id.e, .int .i64 x.msg.id.c, .slice p n k] ∧ SrcOk S 1 p n (x.msg.data.map byteV) ∧ n ≤ 2097152
theorem planLstep {via up : List Int} {held : List Msg} {s : PlanSt} : ∀ i (hi : i < held.length), (held.take (i + 1)).foldl (planStepL via up) s = planStepL via up ((held.take i).foldl (planStepL via up) s) held[i] := fun i hi => by
  simp only [List.take_add_one, List.getElem?_eq_getElem hi, List.foldl_append]
  rfl
theorem planR_ok (hL : SrcOk M 8 a n (L.flatMap encK)) (hln : n ≤ 90000000) (hnx : 0 ≤ next ∧ next ≤ 65535) (a1 a2 a3 : Option Addr) (n1 n2 n3 c1 c2 c3 : Nat) (held : List Msg) (via up : List Int)
    (h1 : Elems M 5 a1 n1 (MsgR M) held) (h2 : SrcOk M 1 a2 n2 (via.map intV)) (h3 : SrcOk M 1 a3 n3 (up.map intV)) (hn1 : n1 ≤ 1048576) (hn3 : n3 ≤ 1048576) :
    CallsM Try.prog F.ref20_Plan [RD wait next a n c, .slice a1 n1 c1, .slice a2 n2 c2, .slice a3 n3 c3] M fun v M' => ∃ (d : Value) (P : PlanSt) (ao : Option Addr) (co : Nat), v = .tuple #[d, .slice ao P.out.length co] ∧ M.le M' ∧ P = (if n2 = 64 then planL L next held via up else ⟨L, next, []⟩) ∧
      DeskV wait P.next P.m M' d ∧ Elems M' 7 ao P.out.length (DocOffR M) P.out := by
  refine fo_ref20_Plan (by simp) ?_
  have hl := hL.flen encK_len (by decide)
  have hhl := h1.len
  repeat' ((conv => whnf); first | refine ⟨?_, True.intro⟩ | refine brn_t rfl ?_ | refine brn_f rfl ?_ | refine ob rfl ?_ | refine ob (by decide) ?_ | refine grow_same (Mem.le_refl _) ?_ | refine ob (Mem.le_refl _) ?_ | refine ⟨_, Mem.le_refl _, ?_⟩ | fail)
  refine new (fun b1 hb1 => ?_)
  replace hb1 : M b1 = none := hb1
  obtain ⟨M1, hM1⟩ : ∃ M1, M1 = M.setCells b1 T.api_Offer [] := ⟨_, rfl⟩
  have hN1 : NewEls M T.api_Offer 7 (some ⟨b1, 0, none⟩) 0 0 (DocOffR M) [] M1 := hM1 ▸ NewEls.new0 hb1 T.api_Offer 7 (DocOffR M)
  (conv => whnf)
  erw [← hM1]
  (conv => whnf); refine brn (fun g => ?_) (fun g => ?_)
  · have g' : ¬ n2 = 64 := by simp at g; omega
    repeat' ((conv => whnf); first | refine ⟨?_, True.intro⟩ | refine brn_t rfl ?_ | refine brn_f rfl ?_ | refine ob rfl ?_ | refine ob (by decide) ?_ | refine grow_same (Mem.le_refl _) ?_ | refine ob (Mem.le_refl _) ?_ | refine ⟨_, Mem.le_refl _, ?_⟩ | fail)
    refine ⟨_, ⟨L, next, []⟩, some ⟨b1, 0, none⟩, 0, rfl, hN1.le, by rw [if_neg g'], DeskV.here (hL.le hN1.le) hl c, hN1.elems⟩
  have g' : n2 = 64 := by simp at g; omega
  subst g'
  have hvl := h2.maplen
  obtain ⟨st, hst⟩ : ∃ st : Nat → PlanSt, st = fun i => (held.take i).foldl (planStepL via up) ⟨L, next, []⟩ := ⟨_, rfl⟩
  have hst0 : st 0 = ⟨L, next, []⟩ := by rw [hst]; rfl
  have hstep : ∀ i (hi : i < held.length), st (i + 1) = planStepL via up (st i) held[i] := fun i hi => by rw [hst]; exact planLstep i hi
  have hfin : st n1 = planL L next held via up := by rw [hst]; dsimp only; rw [planL, List.take_of_length_le (by omega)]
  clear hst
  (conv => whnf)
  refine loopF (σ := Nat × Mem × (Option Addr × Nat) × (Option Addr × Nat × Nat)) [11, 10] (fun y => [(11, .int .i64 y.1), (10, .slice y.2.2.2.1 y.2.2.2.2.1 y.2.2.2.2.2)]) (fun y => [.live T.portageref20_Desk [.v (.int .i64 wait), .v (.int .i64 (st y.1).next), .v (.slice y.2.2.1.1 (st y.1).m.length y.2.2.1.2)], .live T.portageref20_Desk [.v (.int .i64 0), .v (.int .i64 0), .v (.slice none 0 0)]]) (fun y => y.2.1)
    (fun | ⟨k, M2, (aD, cD), (aO, nO, cO)⟩ => k ≤ n1 ∧ nO = (st k).out.length ∧ nO ≤ k ∧ (0 ≤ (st k).next ∧ (st k).next ≤ 65535) ∧ (st k).m.length ≤ n + k ∧ SrcOk M2 8 aD (st k).m.length ((st k).m.flatMap encK) ∧ NewEls M T.api_Offer 7 aO nO cO (DocOffR M) (st k).out M2) (fun y => n1 - y.1)
    ⟨0, M1, (a, c), (some ⟨b1, 0, none⟩, 0, 0)⟩ ⟨by omega, by rw [hst0]; rfl, by omega, by rw [hst0]; exact hnx, by rw [hst0]; dsimp only; omega, by rw [hst0]; dsimp only; rw [hl]; exact hL.le hN1.le, by rw [hst0]; exact hN1⟩ (by dsimp only; rw [hst0]; dsimp only; rw [hl]; exact ⟨(by repeat' first | exact True.intro | refine ⟨rfl, ?_⟩), (by repeat' first | exact True.intro | refine ⟨rfl, ?_⟩), Mem.le_refl _, rfl⟩) ?_
  rintro ⟨k, M2, ⟨aD, cD⟩, ⟨aO, nO, cO⟩⟩ ⟨hk, hnO, hnO2, hnx2, hml, hLD, hEO⟩
  (conv => whnf); refine brn (fun g => ?_) (fun g => ?_)
  rotate_left
  · have hge : k = n1 := by have := of_decide_eq_false g; dsimp only at this; omega
    subst hge
    repeat' ((conv => whnf); first | refine ⟨?_, True.intro⟩ | refine brn_t rfl ?_ | refine brn_f rfl ?_ | refine ob rfl ?_ | refine ob (by decide) ?_ | refine grow_same (Mem.le_refl _) ?_ | refine ob (Mem.le_refl _) ?_ | refine ⟨_, Mem.le_refl _, ?_⟩ | fail)
    subst hnO
    exact ⟨_, st k, aO, cO, rfl, hEO.le, by rw [if_pos rfl, hfin], ⟨aD, cD, rfl, hLD⟩, hEO.elems⟩
  have hlt : k < n1 := by have := of_decide_eq_true g; dsimp only at this; omega
  obtain ⟨hil, bb, oo, cs, ha1, _, hrow, _, q, nq, kq, rfl, hq, hnq⟩ := h1.at (by decide) hlt
  have hst1 := hstep k hil
  generalize held[k] = x at *
  have hleO := hEO.le
  have hskip : ¬ ((0 ≤ x.id.d ∧ x.id.d < 64) ∧ toOf via x.id ∈ up ∧ aget (st k).m x.id = none) → st (k + 1) = st k := fun h => by rw [hst1, planStepL, if_neg h]
  (conv => whnf); refine ob (by first | omega | (dsimp only; omega)) ?_
  (conv => whnf); refine atp ha1 ?_
  (conv => whnf); refine on (Mem.row_le hleO hrow) ?_
  repeat' ((conv => whnf); first | refine ⟨?_, True.intro⟩ | refine brn_t rfl ?_ | refine brn_f rfl ?_ | refine ob rfl ?_ | refine ob (by decide) ?_ | refine grow_same (Mem.le_refl _) ?_ | refine ob (Mem.le_refl _) ?_ | refine ⟨_, Mem.le_refl _, ?_⟩ | fail)
  refine (nodeR_ok x.id.d).mono ?_
  rintro v _ ⟨rfl, rfl⟩
  (conv => whnf); refine brn (fun gn => ?_) (fun gn => ?_)
  · have hno : ¬ ((0 ≤ x.id.d ∧ x.id.d < 64) ∧ toOf via x.id ∈ up ∧ aget (st k).m x.id = none) := fun h => by simp at gn; omega
    have hs := hskip hno
    repeat' ((conv => whnf); first | refine ⟨?_, True.intro⟩ | refine brn_t rfl ?_ | refine brn_f rfl ?_ | refine ob rfl ?_ | refine ob (by decide) ?_ | refine grow_same (Mem.le_refl _) ?_ | refine ob (Mem.le_refl _) ?_ | refine ⟨_, Mem.le_refl _, ?_⟩ | fail)
    refine ob (inR_i64 (by first | omega | (dsimp only; omega))) ?_
    (conv => whnf)
    refine ⟨⟨k + 1, M2, (aD, cD), (aO, nO, cO)⟩, ⟨by omega, by rw [hs]; exact hnO, by omega, by rw [hs]; exact hnx2, by rw [hs]; omega, by rw [hs]; exact hLD, by rw [hs]; exact hEO⟩, by dsimp only; omega, ?_⟩
    dsimp only
    rw [hs]
    exact ⟨(by repeat' first | exact True.intro | refine ⟨rfl, ?_⟩), (by repeat' first | exact True.intro | refine ⟨rfl, ?_⟩), Mem.le_refl _, rfl⟩
  have hd : 0 ≤ x.id.d ∧ x.id.d < 64 := by simpa using gn
  repeat' ((conv => whnf); first | refine ⟨?_, True.intro⟩ | refine brn_t rfl ?_ | refine brn_f rfl ?_ | refine ob rfl ?_ | refine ob (by decide) ?_ | refine grow_same (Mem.le_refl _) ?_ | refine ob (Mem.le_refl _) ?_ | refine ⟨_, Mem.le_refl _, ?_⟩ | fail)
  refine (place_ok (c := cD) hLD (by omega) x.id).mono ?_
  rintro v _ ⟨rfl, rfl⟩
  cases hg : aget (st k).m x.id with
  | some y =>
    obtain ⟨j, hj, -⟩ := place_some (k := 0) hg
    rw [hj]
    have hno : ¬ ((0 ≤ x.id.d ∧ x.id.d < 64) ∧ toOf via x.id ∈ up ∧ aget (st k).m x.id = none) := fun h => by rw [hg] at h; cases h.2.2
    (conv => whnf); refine brn_t (decide_eq_true (by omega)) ?_
    have hs := hskip hno
    repeat' ((conv => whnf); first | refine ⟨?_, True.intro⟩ | refine brn_t rfl ?_ | refine brn_f rfl ?_ | refine ob rfl ?_ | refine ob (by decide) ?_ | refine grow_same (Mem.le_refl _) ?_ | refine ob (Mem.le_refl _) ?_ | refine ⟨_, Mem.le_refl _, ?_⟩ | fail)
    refine ob (inR_i64 (by first | omega | (dsimp only; omega))) ?_
    (conv => whnf)
    refine ⟨⟨k + 1, M2, (aD, cD), (aO, nO, cO)⟩, ⟨by omega, by rw [hs]; exact hnO, by omega, by rw [hs]; exact hnx2, by rw [hs]; omega, by rw [hs]; exact hLD, by rw [hs]; exact hEO⟩, by dsimp only; omega, ?_⟩
    dsimp only
    rw [hs]
    exact ⟨(by repeat' first | exact True.intro | refine ⟨rfl, ?_⟩), (by repeat' first | exact True.intro | refine ⟨rfl, ?_⟩), Mem.le_refl _, rfl⟩
  | none =>
    rw [place_none hg]
    (conv => whnf); refine brn_f (by decide) ?_
    obtain ⟨hlt2, b2, o2, ha2, hrow2⟩ := (h2.le hleO).at (i := x.id.d.toNat) (by omega)
    have hto : via[x.id.d.toNat] = toOf via x.id := by simp [toOf, hlt2]
    rw [hto] at hrow2
    (conv => whnf); refine ob (by first | omega | (dsimp only; omega)) ?_
    (conv => whnf); refine atp ha2 ?_
    (conv => whnf); refine on hrow2 ?_
    repeat' ((conv => whnf); first | refine ⟨?_, True.intro⟩ | refine brn_t rfl ?_ | refine brn_f rfl ?_ | refine ob rfl ?_ | refine ob (by decide) ?_ | refine grow_same (Mem.le_refl _) ?_ | refine ob (Mem.le_refl _) ?_ | refine ⟨_, Mem.le_refl _, ?_⟩ | fail)
    refine (hasR_ok (c := c3) (h3.le hleO) (by omega) (toOf via x.id)).mono ?_
    rintro v _ ⟨rfl, rfl⟩
    (conv => whnf); refine brn (fun gh => ?_) (fun gh => ?_)
    · have hno : ¬ ((0 ≤ x.id.d ∧ x.id.d < 64) ∧ toOf via x.id ∈ up ∧ aget (st k).m x.id = none) := fun h => by simp [h.2.1] at gh
      have hs := hskip hno
      repeat' ((conv => whnf); first | refine ⟨?_, True.intro⟩ | refine brn_t rfl ?_ | refine brn_f rfl ?_ | refine ob rfl ?_ | refine ob (by decide) ?_ | refine grow_same (Mem.le_refl _) ?_ | refine ob (Mem.le_refl _) ?_ | refine ⟨_, Mem.le_refl _, ?_⟩ | fail)
      refine ob (inR_i64 (by first | omega | (dsimp only; omega))) ?_
      (conv => whnf)
      refine ⟨⟨k + 1, M2, (aD, cD), (aO, nO, cO)⟩, ⟨by omega, by rw [hs]; exact hnO, by omega, by rw [hs]; exact hnx2, by rw [hs]; omega, by rw [hs]; exact hLD, by rw [hs]; exact hEO⟩, by dsimp only; omega, ?_⟩
      dsimp only
      rw [hs]
      exact ⟨(by repeat' first | exact True.intro | refine ⟨rfl, ?_⟩), (by repeat' first | exact True.intro | refine ⟨rfl, ?_⟩), Mem.le_refl _, rfl⟩
    have hin : toOf via x.id ∈ up := by simpa using gh
    have hgo : st (k + 1) = ⟨withL (st k).m (x.id, ⟨toOf via x.id, (st k).next, 0, 0⟩), ((st k).next + 1) % 65536, (st k).out ++ [⟨toOf via x.id, (st k).next, x⟩]⟩ := by
      rw [hst1, planStepL, if_pos ⟨hd, hin, hg⟩]
    clear hskip
    have hwl := withL_len (st k).m (x.id, ⟨toOf via x.id, (st k).next, 0, 0⟩)
    (conv => whnf); refine ob (by first | omega | (dsimp only; omega)) ?_
    (conv => whnf); refine atp ha2 ?_
    (conv => whnf); refine on hrow2 ?_
    repeat' ((conv => whnf); first | refine ⟨?_, True.intro⟩ | refine brn_t rfl ?_ | refine brn_f rfl ?_ | refine ob rfl ?_ | refine ob (by decide) ?_ | refine grow_same (Mem.le_refl _) ?_ | refine ob (Mem.le_refl _) ?_ | refine ⟨_, Mem.le_refl _, ?_⟩ | fail)
    refine (with_ok (c := cD) hLD (by omega) (x.id, ⟨toOf via x.id, (st k).next, 0, 0⟩)).mono ?_
    rintro v M3 ⟨aD3, cD3, rfl, hN3⟩
    repeat' ((conv => whnf); first | refine ob rfl ?_ | refine grow_same hN3.le ?_ | refine ob hN3.le ?_ | refine ⟨?_, True.intro⟩ | fail)
    (conv => whnf); refine ob (by first | omega | (dsimp only; omega)) ?_
    (conv => whnf); refine atp ha2 ?_
    (conv => whnf); refine on (Mem.row_le hN3.le hrow2) ?_
    repeat' ((conv => whnf); first | refine ⟨?_, True.intro⟩ | refine brn_t rfl ?_ | refine brn_f rfl ?_ | refine ob rfl ?_ | refine ob (by decide) ?_ | refine grow_same (Mem.le_refl _) ?_ | refine ob (Mem.le_refl _) ?_ | refine ⟨_, Mem.le_refl _, ?_⟩ | fail)
    refine appE M (hEO.up hN3.le) ⟨toOf via x.id, (st k).next, x⟩ ⟨q, nq, kq, rfl, hq, hnq⟩ rfl (by dsimp only; omega) (by dsimp only; simp [maxLen]; omega) (by simp [Value.oneCell']) fun a4 c4 M4 hE4 hk4 => ?_
    have hLD4 : SrcOk M4 8 aD3 (withL (st k).m (x.id, ⟨toOf via x.id, (st k).next, 0, 0⟩)).length ((withL (st k).m (x.id, ⟨toOf via x.id, (st k).next, 0, 0⟩)).flatMap encK) := by
      refine (hN3.wr.mono fun q' o' hq' ho => hk4 _ o' (fun ⟨q2, hq2, e2⟩ => ?_) ho).src
      obtain ⟨cs1, hh1⟩ := hN3.wr.block hq'
      obtain ⟨_, cs2, hh2⟩ := (hEO.up hN3.le).block hq2
      rw [e2] at hh2
      exact absurd (hh1.inj hh2).1 (by decide)
    repeat' ((conv => whnf); first | refine ⟨?_, True.intro⟩ | refine brn_t rfl ?_ | refine brn_f rfl ?_ | refine ob rfl ?_ | refine ob (by decide) ?_ | refine grow_same (Mem.le_refl _) ?_ | refine ob (Mem.le_refl _) ?_ | refine ⟨_, Mem.le_refl _, ?_⟩ | fail)
    refine ob (inR_i64 (by first | omega | (dsimp only; omega))) ?_
    (conv => whnf); refine brn (fun gx => ?_) (fun gx => ?_)
    · have gx' : 65535 < (st k).next + 1 := of_decide_eq_true gx
      have hmod : ((st k).next + 1) % 65536 = 0 := by omega
      repeat' ((conv => whnf); first | refine ⟨?_, True.intro⟩ | refine brn_t rfl ?_ | refine brn_f rfl ?_ | refine ob rfl ?_ | refine ob (by decide) ?_ | refine grow_same (Mem.le_refl _) ?_ | refine ob (Mem.le_refl _) ?_ | refine ⟨_, Mem.le_refl _, ?_⟩ | fail)
      refine ob (inR_i64 (by first | omega | (dsimp only; omega))) ?_
      (conv => whnf)
      refine ⟨⟨k + 1, M4, (aD3, cD3), (a4, nO + 1, c4)⟩, ⟨by omega, by rw [hgo, hnO]; simp, by omega, by rw [hgo]; dsimp only; omega, by rw [hgo]; dsimp only; omega, by rw [hgo]; exact hLD4, by rw [hgo]; exact hE4⟩, by dsimp only; omega, ?_⟩
      dsimp only
      rw [hgo]
      dsimp only
      rw [hmod]
      exact ⟨(by repeat' first | exact True.intro | refine ⟨rfl, ?_⟩), (by repeat' first | exact True.intro | refine ⟨rfl, ?_⟩), Mem.le_refl _, rfl⟩
    · have gx' : ¬ 65535 < (st k).next + 1 := of_decide_eq_false gx
      have hmod : ((st k).next + 1) % 65536 = (st k).next + 1 := by omega
      repeat' ((conv => whnf); first | refine ⟨?_, True.intro⟩ | refine brn_t rfl ?_ | refine brn_f rfl ?_ | refine ob rfl ?_ | refine ob (by decide) ?_ | refine grow_same (Mem.le_refl _) ?_ | refine ob (Mem.le_refl _) ?_ | refine ⟨_, Mem.le_refl _, ?_⟩ | fail)
      refine ob (inR_i64 (by first | omega | (dsimp only; omega))) ?_
      (conv => whnf)
      refine ⟨⟨k + 1, M4, (aD3, cD3), (a4, nO + 1, c4)⟩, ⟨by omega, by rw [hgo, hnO]; simp, by omega, by rw [hgo]; dsimp only; omega, by rw [hgo]; dsimp only; omega, by rw [hgo]; exact hLD4, by rw [hgo]; exact hE4⟩, by dsimp only; omega, ?_⟩
      dsimp only
      rw [hgo]
      dsimp only
      rw [hmod]
      exact ⟨(by repeat' first | exact True.intro | refine ⟨rfl, ?_⟩), (by repeat' first | exact True.intro | refine ⟨rfl, ?_⟩), Mem.le_refl _, rfl⟩
end Go.Proofs.Ythlleljdahkgpaa
