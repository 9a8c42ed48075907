/- A desk: what is offered now. -/
import Derived.Test.YthlleljdahkgpaaDeskC
namespace Go.Proofs.Ythlleljdahkgpaa
open Go Go.Vm
attribute [local irreducible] Brn Ob Grow CallsM inR LoopVC Mem.row Mem.cells Mem.setCells Mem.upd Own AppVC SrcVC StrVC NextVC New SrcOk subA NewSl Mem.textAt Mem.mapAt Mem.iterAt entryOf kfind Wr NewEls Elems
set_option maxRecDepth 10000
structure Msg where
  id : Id
  data : List UInt8
deriving DecidableEq
/-- how a message lies in memory -/
def MsgR (M : Mem) (cs : List Value) (m : Msg) : Prop := ∃ p n k, cs = [.int .i64 m.id.o, .int .i64 m.id.d, .int .i64 m.id.e, .int .i64 m.id.c, .slice p n k] ∧ SrcOk M 1 p n (m.data.map byteV) ∧ n ≤ 2097152
theorem MsgR.le {M M' : Mem} {cs : List Value} {m : Msg} (h : MsgR M cs m) (hle : M.le M') : MsgR M' cs m := by
  obtain ⟨p, n, k, h1, h2, h3⟩ := h; exact ⟨p, n, k, h1, h2.le hle, h3⟩
structure Offer where
  to : Int
  n : Int
  msg : Msg
deriving DecidableEq
/-- how an offer lies, its data in memory that may be written -/
def OfferR (S : Mem) (M : Mem) (cs : List Value) (x : Offer) : Prop := ∃ p n k, cs = [.int .i64 x.to, .int .i64 x.n, .int .i64 x.msg.id.o, .int .i64 x.msg.id.d, .int .i64 x.msg.id.e, .int .i64 x.msg.id.c, .slice p n k] ∧
  Wr M T.uint8 1 p n k (x.msg.data.map byteV) ∧ n ≤ 2097152 ∧ ∀ a, p = some a → S a.block = none
theorem OfferR.le {S M M' : Mem} {cs : List Value} {m : Offer} (h : OfferR S M cs m) (hle : M.le M') : OfferR S M' cs m := by
  obtain ⟨p, n, k, h1, h2, h3, h4⟩ := h; exact ⟨p, n, k, h1, h2.le hle, h3, h4⟩
structure PlanSt where
  m : List (Id × Known)
  next : Int
  out : List Offer
def toOf (via : List Int) (i : Id) : Int := via.getD i.d.toNat 0
def planStep (via up : List Int) (s : PlanSt) (x : Msg) : PlanSt :=
  if (0 ≤ x.id.d ∧ x.id.d < 64) ∧ toOf via x.id ∈ up ∧ aget s.m x.id = none then
    ⟨aput s.m x.id ⟨toOf via x.id, s.next, 0, 0⟩, (s.next + 1) % 65536, s.out ++ [⟨toOf via x.id, s.next, x⟩]⟩ else s
def planOf (m : List (Id × Known)) (next : Int) (held : List Msg) (via up : List Int) : PlanSt := held.foldl (planStep via up) ⟨m, next, []⟩
theorem planStep_next {via up : List Int} {s : PlanSt} {x : Msg} (h : 0 ≤ s.next ∧ s.next ≤ 65535) : 0 ≤ (planStep via up s x).next ∧ (planStep via up s x).next ≤ 65535 := by
  unfold planStep; split
  · simp only; omega
  · exact h
variable {p b : Nat} {wait next : Int} {m : List (Id × Known)} {M : Mem}
theorem DeskAt.setNext (h : DeskAt M p b wait next m) (next' : Int) : DeskAt (M.setCells p T.hop_Desk [.int .i64 wait, .int .i64 next', .map (some b)]) p b wait next' m :=
  ⟨Mem.has_setCells, h.ne, h.map.mono fun o ho => by unfold Mem.setCells; rw [Mem.upd_ne _ _ (Ne.symm h.ne)]; exact ho⟩
theorem DeskAt.here (h : DeskAt M p b wait next m) {x : Nat} (hx : M x = none) : x ≠ p ∧ x ≠ b := by
  constructor
  · rintro rfl; have := h.self; unfold Mem.has at this; rw [hx] at this; cases this
  · rintro rfl; obtain ⟨_, _, h1, _⟩ := h.map; rw [hx] at h1; cases h1
@[reducible] def two' (p b : Nat) : Nat → Prop := fun x => x = p ∨ x = b
set_option maxRecDepth 10000 in
theorem planN_ok (M0 : Mem) (hd : DeskAt M p b wait next m) (hn : 0 ≤ next ∧ next ≤ 65535) (hp0 : M0 p = none) (hb0 : M0 b = none) (hM0 : M0.le M) (a1 a2 a3 : Option Addr) (n1 n2 n3 c1 c2 c3 : Nat) (held : List Msg) (via up : List Int)
    (h1 : Elems M0 5 a1 n1 (MsgR M0) held) (h2 : SrcOk M0 1 a2 n2 (via.map intV)) (h3 : SrcOk M0 1 a3 n3 (up.map intV)) (hv : n2 = 64) (hn1 : n1 ≤ 2097152) (hn3 : n3 ≤ 2097152) :
    CallsM Try.prog F.hop_Desk_Plan [ptr p, .slice a1 n1 c1, .slice a2 n2 c2, .slice a3 n3 c3] M fun v M' => ∃ a c, v = .slice a (planOf m next held via up).out.length c ∧
      DeskAt M' p b wait (planOf m next held via up).next (planOf m next held via up).m ∧ NewEls (M.minus (two' p b)) T.api_Offer 7 a (planOf m next held via up).out.length c (OfferR M M') (planOf m next held via up).out M' := by
  refine fo_hop_Desk_Plan (by simp) ?_
  subst hv
  have hl := h1.len
  repeat' ((conv => whnf); first | refine ⟨?_, True.intro⟩ | refine brn_t rfl ?_ | refine brn_f rfl ?_ | refine ob rfl ?_ | refine ob (by decide) ?_ | refine grow_same (Mem.le_refl _) ?_ | refine ob (Mem.le_refl _) ?_ | refine ⟨_, Mem.le_refl _, ?_⟩ | fail)
  have hMb : M b ≠ none := by obtain ⟨_, _, h, _⟩ := hd.map; rw [h]; simp
  have hMp : M p ≠ none := by have := hd.self; unfold Mem.has at this; rw [this]; simp
  let st (i : Nat) : PlanSt := (held.take i).foldl (planStep via up) ⟨m, next, []⟩
  have hst : ∀ i (hi : i < held.length), st (i + 1) = planStep via up (st i) held[i] := fun i hi => by
    simp only [st, List.take_add_one, List.getElem?_eq_getElem hi, List.foldl_append]
    rfl
  have hfin : st n1 = planOf m next held via up := by simp only [st, planOf]; rw [List.take_of_length_le (by omega)]
  have hout' : ∀ i, (st i).out.length ≤ i := by
    intro i
    induction i with
    | zero => simp [st]
    | succ i ih =>
      by_cases h : i < held.length
      · rw [hst i h]; unfold planStep; split
        · simp; omega
        · omega
      · have : st (i + 1) = st i := by simp only [st]; rw [List.take_of_length_le (by omega), List.take_of_length_le (by omega)]
        rw [this]; omega
  refine loopF (σ := Nat × Option Addr × Nat × Nat × Mem) [24, 9] (fun | ⟨i, a, N, c, _⟩ => [(24, .int .i64 i), (9, .slice a N c)]) (fun _ => []) (fun x => x.2.2.2.2)
    (fun | ⟨i, a, N, c, M1⟩ => i ≤ n1 ∧ (0 ≤ (st i).next ∧ (st i).next ≤ 65535) ∧ DeskAt M1 p b wait (st i).next (st i).m ∧ 
      NewEls (M.minus (two' p b)) T.api_Offer 7 a N c (OfferR M M1) (st i).out M1 ∧ (∀ x, a = some x → x.block ≠ p ∧ x.block ≠ b)) (fun x => n1 - x.1)
    ⟨0, none, 0, 0, M⟩ ⟨by omega, hn, hd, ?_, by simp⟩ ⟨(by repeat' first | exact True.intro | refine ⟨rfl, ?_⟩), (by repeat' first | exact True.intro | refine ⟨rfl, ?_⟩), Mem.le_refl _, rfl⟩ ?_
  · exact (NewEls.nil M _ _ _).mono (Mem.minus_le _ _)
  rintro ⟨i, a, N, c, M1⟩ ⟨hi, hnx, hd1, hout, hab⟩
  have hS : ∀ x, two' p b x → M0 x = none := fun x hx => by rcases hx with rfl | rfl <;> assumption
  have hle1 : M0.le M1 := Mem.le_trans (Mem.le_minus hM0 hS) hout.le
  have hk1 : Mem.keep (two' p b) M M1 := Mem.keep_minus.2 hout.le
  (conv => whnf); refine brn (fun h => ?_) (fun h => ?_)
  · simp only [decide_eq_true_eq] at h
    obtain ⟨hlt, b0, o0, cs, rfl, hrows, hrow, hcs, q, nq, kq, rfl, hq, hnq⟩ := h1.at (i := i) (by decide) (by omega)
    have hrow' := Mem.row_le hle1 hrow
    have hst1 := hst i hlt
    generalize hx : held[i] = x at *
    (conv => whnf); refine ob (by omega) ?_
    (conv => whnf); refine on hrow' ?_
    have hskip : ¬ ((0 ≤ x.id.d ∧ x.id.d < 64) ∧ toOf via x.id ∈ up ∧ aget (st i).m x.id = none) → st (i + 1) = st i := fun h => by rw [hst1, planStep, if_neg h]
    have hinv : st (i + 1) = st i → i + 1 ≤ n1 ∧ (0 ≤ (st (i + 1)).next ∧ (st (i + 1)).next ≤ 65535) ∧ DeskAt M1 p b wait (st (i + 1)).next (st (i + 1)).m ∧ 
        NewEls (M.minus (two' p b)) T.api_Offer 7 a N c (OfferR M M1) (st (i + 1)).out M1 ∧ (∀ x, a = some x → x.block ≠ p ∧ x.block ≠ b) := fun e => by rw [e]; exact ⟨by omega, hnx, hd1, hout, hab⟩
    (conv => whnf); refine brn (fun g1 => ?_) (fun g1 => ?_)
    · simp only [decide_eq_true_eq] at g1
      have e := hskip (by omega)
      (conv => whnf); refine ob (inR_i64 (by omega)) ?_
      (conv => whnf)
      exact ⟨⟨i + 1, a, N, c, M1⟩, hinv e, by show n1 - (i + 1) < n1 - i; omega, ⟨(by repeat' first | exact True.intro | refine ⟨rfl, ?_⟩), (by repeat' first | exact True.intro | refine ⟨rfl, ?_⟩), Mem.le_refl _, rfl⟩⟩
    simp only [decide_eq_false_iff_not] at g1
    (conv => whnf); refine brn (fun g2 => ?_) (fun g2 => ?_)
    · simp only [decide_eq_true_eq] at g2
      have e := hskip (by omega)
      (conv => whnf); refine ob (inR_i64 (by omega)) ?_
      (conv => whnf)
      exact ⟨⟨i + 1, a, N, c, M1⟩, hinv e, by show n1 - (i + 1) < n1 - i; omega, ⟨(by repeat' first | exact True.intro | refine ⟨rfl, ?_⟩), (by repeat' first | exact True.intro | refine ⟨rfl, ?_⟩), Mem.le_refl _, rfl⟩⟩
    simp only [decide_eq_false_iff_not] at g2
    obtain ⟨hlt2, b2, o2, rfl, hrow2⟩ := (h2.le hle1).at (i := x.id.d.toNat) (by omega)
    have hto : via[x.id.d.toNat] = toOf via x.id := by simp [toOf, hlt2]
    (conv => whnf); refine ob (by omega) ?_
    (conv => whnf); refine on hrow2 ?_
    (conv => whnf)
    rw [hto]
    refine (contains_ok _ _ _ _ _ up (h3.le hle1) (by omega)).mono ?_
    rintro v M' ⟨rfl, rfl⟩
    (conv => whnf); refine brn (fun g3 => ?_) (fun g3 => ?_)
    · have e := hskip (fun hh => by simp [hh.2.1] at g3)
      (conv => whnf); refine ob (inR_i64 (by omega)) ?_
      (conv => whnf)
      exact ⟨⟨i + 1, a, N, c, M1⟩, hinv e, by show n1 - (i + 1) < n1 - i; omega, ⟨(by repeat' first | exact True.intro | refine ⟨rfl, ?_⟩), (by repeat' first | exact True.intro | refine ⟨rfl, ?_⟩), Mem.le_refl _, rfl⟩⟩
    have g3' : toOf via x.id ∈ up := by simpa using g3
    (conv => whnf); refine on (hd1.self.c1 rfl) ?_
    (conv => whnf)
    refine hd1.map.get idKey x.id (fun g4 => ?_) (fun y j g4 => ?_)
    rotate_left
    · repeat' ((conv => whnf); first | refine ⟨?_, True.intro⟩ | refine brn_t rfl ?_ | refine brn_f rfl ?_ | refine ob rfl ?_ | refine ob (by decide) ?_ | refine grow_same (Mem.le_refl _) ?_ | refine ob (Mem.le_refl _) ?_ | refine ⟨_, Mem.le_refl _, ?_⟩ | fail)
      have e := hskip (fun hh => by rw [hh.2.2] at g4; cases g4)
      refine ob (inR_i64 (by omega)) ?_
      (conv => whnf)
      exact ⟨⟨i + 1, a, N, c, M1⟩, hinv e, by show n1 - (i + 1) < n1 - i; omega, ⟨(by repeat' first | exact True.intro | refine ⟨rfl, ?_⟩), (by repeat' first | exact True.intro | refine ⟨rfl, ?_⟩), Mem.le_refl _, rfl⟩⟩
    have hgo : st (i + 1) = ⟨aput (st i).m x.id ⟨toOf via x.id, (st i).next, 0, 0⟩, ((st i).next + 1) % 65536, (st i).out ++ [⟨toOf via x.id, (st i).next, x⟩]⟩ := by
      rw [hst1, planStep, if_pos ⟨by omega, g3', g4⟩]
    clear hskip hinv
    repeat' ((conv => whnf); first | refine ⟨?_, True.intro⟩ | refine brn_t rfl ?_ | refine brn_f rfl ?_ | refine ob rfl ?_ | refine ob (by decide) ?_ | refine grow_same (Mem.le_refl _) ?_ | refine ob (Mem.le_refl _) ?_ | refine ⟨_, Mem.le_refl _, ?_⟩ | fail)
    refine ob (by omega) ?_
    (conv => whnf); refine on hrow2 ?_
    repeat' ((conv => whnf); first | refine ⟨?_, True.intro⟩ | refine brn_t rfl ?_ | refine brn_f rfl ?_ | refine ob rfl ?_ | refine ob (by decide) ?_ | refine grow_same (Mem.le_refl _) ?_ | refine ob (Mem.le_refl _) ?_ | refine ⟨_, Mem.le_refl _, ?_⟩ | fail)
    rw [hto]
    refine on (hd1.self.c1 rfl) ?_
    (conv => whnf); refine on (hd1.self.c1 rfl) ?_
    repeat' ((conv => whnf); first | refine ⟨?_, True.intro⟩ | refine brn_t rfl ?_ | refine brn_f rfl ?_ | refine ob rfl ?_ | refine ob (by decide) ?_ | refine grow_same (Mem.le_refl _) ?_ | refine ob (Mem.le_refl _) ?_ | refine ⟨_, Mem.le_refl _, ?_⟩ | fail)
    refine hd1.map.put idKey x.id ⟨toOf via x.id, (st i).next, 0, 0⟩ fun p' f hm => ?_
    have hd2 := hd1.upd (hm M1)
    have hk2 : Mem.keep (one b) M1 (M1.upd b (mput p' f x.id.v (Known.v ⟨toOf via x.id, (st i).next, 0, 0⟩))) := Mem.keep_upd _ _ rfl
    obtain ⟨M2, hM2⟩ : ∃ M2, M2 = M1.upd b (mput p' f x.id.v (Known.v ⟨toOf via x.id, (st i).next, 0, 0⟩)) := ⟨_, rfl⟩
    rw [← hM2] at hd2 hk2
    (conv => whnf)
    erw [← hM2]
    have hle2 : M0.le M2 := hk2.le hle1 (fun x hx => by cases hx; exact hb0)
    have hout2 := (hout.keep hk2 (fun x hx => by cases hx; exact Mem.minus_in (.inr rfl)) (fun q hq e => (hab q hq).2 e)).imp (R' := OfferR M M2) (fun cs y _ ⟨p1, n1, k1, e1, e2, e3, e4⟩ => ⟨p1, n1, k1, e1, e2.mono fun q o hq ho => hk2 _ _ (fun e => by cases e; exact hMb (e4 q hq)) ho, e3, e4⟩)
    repeat' ((conv => whnf); first | refine ⟨?_, True.intro⟩ | refine brn_t rfl ?_ | refine brn_f rfl ?_ | refine ob rfl ?_ | refine ob (by decide) ?_ | refine grow_same (Mem.le_refl _) ?_ | refine ob (Mem.le_refl _) ?_ | refine ⟨_, Mem.le_refl _, ?_⟩ | fail)
    refine on (hd2.self.c1 rfl) ?_
    repeat' ((conv => whnf); first | refine ⟨?_, True.intro⟩ | refine brn_t rfl ?_ | refine brn_f rfl ?_ | refine ob rfl ?_ | refine ob (by decide) ?_ | refine grow_same (Mem.le_refl _) ?_ | refine ob (Mem.le_refl _) ?_ | refine ⟨_, Mem.le_refl _, ?_⟩ | fail)
    refine new (fun b3 hb3 => ?_)
    replace hb3 : M2 b3 = none := hb3
    repeat' ((conv => whnf); first | refine ⟨?_, True.intro⟩ | refine brn_t rfl ?_ | refine brn_f rfl ?_ | refine ob rfl ?_ | refine ob (by decide) ?_ | refine grow_same (Mem.le_refl _) ?_ | refine ob (Mem.le_refl _) ?_ | refine ⟨_, Mem.le_refl _, ?_⟩ | fail)
    have hN3 := NewSl.lit hb3 T.uint8 1 0 [] rfl
    refine srcv (hq.le (Mem.le_trans hle2 hN3.le)) ?_
    (conv => whnf)
    refine appN M2 _ hN3 (by omega) (by simp [maxLen]; omega) (by simp [byteV, Value.oneCell']) fun a4 c4 M4 hN4 => ?_
    repeat' ((conv => whnf); first | refine ⟨?_, True.intro⟩ | refine brn_t rfl ?_ | refine brn_f rfl ?_ | refine ob rfl ?_ | refine ob (by decide) ?_ | refine grow_same (Mem.le_refl _) ?_ | refine ob (Mem.le_refl _) ?_ | refine ⟨_, Mem.le_refl _, ?_⟩ | fail)
    first | refine ob hN4.le ?_ | refine grow_same hN4.le ?_
    repeat' ((conv => whnf); first | refine ⟨?_, True.intro⟩ | refine brn_t rfl ?_ | refine brn_f rfl ?_ | refine ob rfl ?_ | refine ob (by decide) ?_ | refine grow_same (Mem.le_refl _) ?_ | refine ob (Mem.le_refl _) ?_ | refine ⟨_, Mem.le_refl _, ?_⟩ | fail)
    have hd4 := hd2.le hN4.le
    have hout4 := (hout2.up hN4.le).imp (R' := OfferR M M4) (fun cs y _ h => h.le hN4.le)
    have hofR : OfferR M M4 [.int .i64 (toOf via x.id), .int .i64 (st i).next, .int .i64 x.id.o, .int .i64 x.id.d, .int .i64 x.id.e, .int .i64 x.id.c, .slice a4 (0 + nq) c4] ⟨toOf via x.id, (st i).next, x⟩ :=
      ⟨_, _, _, rfl, by simpa using hN4.wr, by omega, fun q hq => (by
        have hq4 := (hN4.block hq).1
        have hne := hd2.here hq4
        cases hMq : M q.block with
        | none => rfl
        | some o => have := hk2 _ _ hne.2 (hk1 _ _ (fun e => e.elim hne.1 hne.2) hMq); rw [hq4] at this; cases this)⟩
    refine appE _ hout4 ⟨toOf via x.id, (st i).next, x⟩ hofR rfl (by have := hout' i; have := hout.len; omega) (by have := hout' i; have := hout.len; simp [maxLen]; omega) (by simp [Value.oneCell']) fun a5 c5 M5 hN5 hk5 => ?_
    have hd5 : DeskAt M5 p b wait (st i).next (aput (st i).m x.id ⟨toOf via x.id, (st i).next, 0, 0⟩) := hd4.mono fun c' o hc ho => hk5 _ _ (fun ⟨q, hq, e⟩ => by have := hab q hq; rw [e] at this; rcases hc with rfl | rfl; exact this.1 rfl; exact this.2 rfl) ho
    repeat' ((conv => whnf); first | refine ⟨?_, True.intro⟩ | refine brn_t rfl ?_ | refine brn_f rfl ?_ | refine ob rfl ?_ | refine ob (by decide) ?_ | refine grow_same (Mem.le_refl _) ?_ | refine ob (Mem.le_refl _) ?_ | refine ⟨_, Mem.le_refl _, ?_⟩ | fail)
    refine on (hd5.self.c1 rfl) ?_
    (conv => whnf); refine ob (inR_i64 (by omega)) ?_
    (conv => whnf); refine ob (by decide) ?_
    (conv => whnf); refine on hd5.self.cells ?_
    (conv => whnf); refine ob (by simp) ?_
    (conv => whnf); refine ob (inR_i64 (by omega)) ?_
    (conv => whnf)
    have hmod : ((st i).next + 1).tmod 65536 = ((st i).next + 1) % 65536 := Int.tmod_eq_emod_of_nonneg (by omega)
    have hd6 := hd5.setNext (((st i).next + 1) % 65536)
    have hab5 : ∀ q, a5 = some q → q.block ≠ p ∧ q.block ≠ b := fun q hq => by
      obtain ⟨_, cs5, hcs5⟩ := hN5.block hq
      constructor
      · intro e; rw [e] at hcs5; have := (hcs5.inj hd5.self).1; revert this; decide
      · intro e; rw [e] at hcs5; obtain ⟨_, _, h1, _⟩ := hd5.map; unfold Mem.has at hcs5; rw [hcs5] at h1; simp [mapObj] at h1
    refine ⟨⟨i + 1, a5, N + 1, c5, M5.setCells p T.hop_Desk [.int .i64 wait, .int .i64 (((st i).next + 1) % 65536), .map (some b)]⟩, ⟨by omega, ?_, ?_, ?_, ?_⟩, by show n1 - (i + 1) < n1 - i; omega, (by repeat' first | exact True.intro | refine ⟨rfl, ?_⟩), trivial, ?_, rfl⟩
    · rw [hgo]; simp only; omega
    · rw [hgo]; exact hd6
    · rw [hgo]
      have hk6 : Mem.keep (one p) M5 (M5.setCells p T.hop_Desk [.int .i64 wait, .int .i64 (((st i).next + 1) % 65536), .map (some b)]) := by unfold Mem.setCells; exact Mem.keep_upd (S := one p) _ _ rfl
      refine (hN5.keep hk6 (fun x hx => by cases hx; exact Mem.minus_in (.inl rfl)) (fun q hq e => (hab5 q hq).1 e)).imp fun cs y _ ⟨p1, n1, k1, e1, e2, e3, e4⟩ => ⟨p1, n1, k1, e1, e2.mono fun q o hq ho => ?_, e3, e4⟩
      refine hk6 _ _ (fun e => hMp (by cases e; exact e4 q hq)) (hk5 _ _ (fun ⟨q', hq', e'⟩ => ?_) ho)
      obtain ⟨_, cs', h'⟩ := hout4.block hq'
      obtain ⟨cs'', h''⟩ := e2.block hq
      rw [e'] at h'
      have := (h'.inj h'').1
      revert this; decide
    · exact hab5
    · rw [hmod]; exact Mem.le_refl _
  · simp only [decide_eq_false_iff_not] at h
    have hin : i = n1 := by omega
    subst hin
    (conv => whnf)
    rw [hfin] at hout hd1
    have hlen := hout.len
    refine ⟨a, c, by rw [hlen], hd1, ?_⟩
    rw [hlen]
    exact hout
set_option maxRecDepth 10000 in
theorem plan_ok (M0 : Mem) (hd : DeskAt M p b wait next m) (hn : 0 ≤ next ∧ next ≤ 65535) (hp0 : M0 p = none) (hb0 : M0 b = none) (hM0 : M0.le M) (a1 a2 a3 : Option Addr) (n1 n2 n3 c1 c2 c3 : Nat) (held : List Msg) (via up : List Int)
    (h1 : Elems M0 5 a1 n1 (MsgR M0) held) (h2 : SrcOk M0 1 a2 n2 (via.map intV)) (h3 : SrcOk M0 1 a3 n3 (up.map intV)) (hv : n2 = 64) (hn1 : n1 ≤ 2097152) (hn3 : n3 ≤ 2097152) :
    CallsM Try.prog F.hop_Desk_Plan [ptr p, .slice a1 n1 c1, .slice a2 n2 c2, .slice a3 n3 c3] M fun v M' => ∃ a c, v = .slice a (planOf m next held via up).out.length c ∧
      DeskAt M' p b wait (planOf m next held via up).next (planOf m next held via up).m ∧ Mem.keep (two' p b) M M' ∧ Elems M' 7 a (planOf m next held via up).out.length (OfferR M M') (planOf m next held via up).out :=
  (planN_ok M0 hd hn hp0 hb0 hM0 a1 a2 a3 n1 n2 n3 c1 c2 c3 held via up h1 h2 h3 hv hn1 hn3).mono fun _ _ ⟨a, c, h1, h2, h3⟩ => ⟨a, c, h1, h2, Mem.keep_minus.2 h3.le, h3.elems⟩
theorem plan_no {a1 a2 a3 : Option Addr} {n1 n2 n3 c1 c2 c3 : Nat} (hv : n2 ≠ 64) : CallsM Try.prog F.hop_Desk_Plan [ptr p, .slice a1 n1 c1, .slice a2 n2 c2, .slice a3 n3 c3] M fun v M' => v = .slice none 0 0 ∧ M = M' := by
  refine fo_hop_Desk_Plan (by simp) ?_
  repeat' ((conv => whnf); first | refine ⟨?_, True.intro⟩ | refine brn_t rfl ?_ | refine brn_f rfl ?_ | refine ob rfl ?_ | refine ob (by decide) ?_ | refine grow_same (Mem.le_refl _) ?_ | refine ob (Mem.le_refl _) ?_ | refine ⟨_, Mem.le_refl _, ?_⟩ | fail)
  refine brn_t (by simp; omega) ?_
  repeat' ((conv => whnf); first | refine ⟨?_, True.intro⟩ | refine brn_t rfl ?_ | refine brn_f rfl ?_ | refine ob rfl ?_ | refine ob (by decide) ?_ | refine grow_same (Mem.le_refl _) ?_ | refine ob (Mem.le_refl _) ?_ | refine ⟨_, Mem.le_refl _, ?_⟩ | fail)
  exact ⟨rfl, rfl⟩
end Go.Proofs.Ythlleljdahkgpaa
