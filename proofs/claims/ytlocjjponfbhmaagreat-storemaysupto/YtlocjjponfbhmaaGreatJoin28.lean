/- States: are two the same? -/
import Derived.Test.YtlocjjponfbhmaaGreatJoin27
namespace Go.Proofs.YtlocjjponfbhmaaGreat
open Go Go.Vm
attribute [local irreducible] Brn Ob Grow CallsM inR LoopVC Mem.row Mem.cells Mem.setCells Mem.upd Own AppVC SrcVC StrVC NextVC New SrcOk subA NewSl Mem.textAt Mem.mapAt Mem.iterAt entryOf kfind Wr NewEls Elems
set_option maxRecDepth 10000
variable {M : Mem}
/-- a state that can be read -/
structure StatR (M : Mem) (ua : Option Addr) (un : Nat) (ha : Option Addr) (hn : Nat) (ma : Option Addr) (mn : Nat) (ul : List (Int × Int)) (ms : List MX) (mk : List MkC) : Prop where
  used : SrcOk M 2 ua un (ul.flatMap encN)
  held : MsgsR M ha hn ms
  seen : MarksR M ma mn mk
  few : FewM mk
  short : un ≤ 4194000 ∧ hn ≤ 4194000 ∧ mn ≤ 4194000
theorem StatR.le {ua : Option Addr} {un : Nat} {ha : Option Addr} {hn : Nat} {ma : Option Addr} {mn : Nat} {ul : List (Int × Int)} {ms : List MX} {mk : List MkC} (h : StatR M ua un ha hn ma mn ul ms mk) {M' : Mem} (hle : M.le M') : StatR M' ua un ha hn ma mn ul ms mk :=
  ⟨h.used.le hle, h.held.le hle, h.seen.le hle, h.few, h.short⟩
theorem sameAllR_ok {a b : Option Addr} {n m c d : Nat} {l r : List MX} (ha : MsgsR M a n l) (hb : MsgsR M b m r) (hn : n ≤ 4194304) (hm : m ≤ 4194304) :
    CallsM Tryz.prog F.ref13_SameAll [.slice a n c, .slice b m d] M fun v M' => v = .bool (decide (l.map MX.msg = r.map MX.msg)) ∧ M = M' := by
  refine fo_ref13_SameAll (by simp) ?_
  have hl := ha.len
  have hr := hb.len
  (conv => whnf); refine brn (fun h => ?_) (fun h => ?_)
  · repeat' ((conv => whnf); first | refine ⟨?_, True.intro⟩ | refine brn_t rfl ?_ | refine brn_f rfl ?_ | refine ob rfl ?_ | refine ob (by decide) ?_ | refine grow_same (Mem.le_refl _) ?_ | refine ob (Mem.le_refl _) ?_ | refine ⟨_, Mem.le_refl _, ?_⟩ | fail)
    have h' : ¬ (n : Int) = m := by simpa using h
    refine ⟨?_, rfl⟩
    have : ¬ l.map MX.msg = r.map MX.msg := fun e => h' (by have := congrArg List.length e; simp at this; omega)
    rw [decide_eq_false this]
  have hnm : n = m := by have h' : (n : Int) = m := by simpa using h
                         omega
  subst hnm
  (conv => whnf)
  refine loopQ [5] (fun (i : Nat) => [(5, .int .i64 i)]) (fun i => i ≤ n ∧ (l.map MX.msg).take i = (r.map MX.msg).take i) (fun i => n - i) 0 ⟨by omega, by simp⟩ ⟨(by repeat' first | exact True.intro | refine ⟨rfl, ?_⟩), (by repeat' first | exact True.intro | refine ⟨rfl, ?_⟩), Mem.le_refl _, rfl⟩ ?_
  intro i ⟨hi, hsame⟩
  (conv => whnf); refine brn (fun g => ?_) (fun g => ?_)
  · have hlt : i < n := by have := of_decide_eq_true g; omega
    have hx : l[i]? = some (l[i]'(by omega)) := List.getElem?_eq_getElem (by omega)
    have hy : r[i]? = some (r[i]'(by omega)) := List.getElem?_eq_getElem (by omega)
    generalize l[i]'(by omega) = x at *
    generalize r[i]'(by omega) = y at *
    obtain ⟨b1, o1, ha1, hc1⟩ := ha.row.fparts encX_len (by decide) hx
    obtain ⟨b2, o2, ha2, hc2⟩ := hb.row.fparts encX_len (by decide) hy
    have hxm := ha.data x (List.mem_of_getElem? hx)
    have hym := hb.data y (List.mem_of_getElem? hy)
    (conv => whnf); refine ob (by first | omega | (dsimp only; omega)) ?_
    (conv => whnf); refine atp ha1 ?_
    (conv => whnf); refine on (hc1 0 5 (by decide)) ?_
    (conv => whnf); refine ob (by first | omega | (dsimp only; omega)) ?_
    (conv => whnf); refine atp ha2 ?_
    (conv => whnf); refine on (hc2 0 5 (by decide)) ?_
    repeat' ((conv => whnf); first | refine ⟨?_, True.intro⟩ | refine brn_t rfl ?_ | refine brn_f rfl ?_ | refine ob rfl ?_ | refine ob (by decide) ?_ | refine grow_same (Mem.le_refl _) ?_ | refine ob (Mem.le_refl _) ?_ | refine ⟨_, Mem.le_refl _, ?_⟩ | fail)
    refine (sameMsgR_ok _ _ _ _ _ _ _ _ _ _ _ _ _ _ _ _ _ hxm hym).mono ?_
    rintro v _ ⟨rfl, rfl⟩
    repeat' ((conv => whnf); first | refine ob rfl ?_ | refine grow_same (Mem.le_refl _) ?_ | refine ob (Mem.le_refl _) ?_ | refine ⟨?_, True.intro⟩ | fail)
    (conv => whnf); refine brn (fun g1 => ?_) (fun g1 => ?_)
    · repeat' ((conv => whnf); first | refine ⟨?_, True.intro⟩ | refine brn_t rfl ?_ | refine brn_f rfl ?_ | refine ob rfl ?_ | refine ob (by decide) ?_ | refine grow_same (Mem.le_refl _) ?_ | refine ob (Mem.le_refl _) ?_ | refine ⟨_, Mem.le_refl _, ?_⟩ | fail)
      refine ⟨?_, rfl⟩
      have : ¬ l.map MX.msg = r.map MX.msg := fun e => by
        have := congrArg (·[i]?) e
        simp [hx, hy] at this
        obtain ⟨e1, e2⟩ := this
        rw [e1, e2] at g1
        simp at g1
      rw [decide_eq_false this]
    · (conv => whnf); refine ob (inR_i64 (by first | omega | (dsimp only; omega))) ?_
      (conv => whnf)
      refine ⟨i + 1, ⟨by omega, ?_⟩, by omega, ⟨(by repeat' first | exact True.intro | refine ⟨rfl, ?_⟩), (by repeat' first | exact True.intro | refine ⟨rfl, ?_⟩), Mem.le_refl _, rfl⟩⟩
      rw [List.take_add_one, List.take_add_one, hsame]
      obtain ⟨⟨x1, x2, x3, x4⟩, xa, xc, xp⟩ := x
      obtain ⟨⟨y1, y2, y3, y4⟩, ya, yc, yp⟩ := y
      simp at g1
      obtain ⟨⟨rfl, rfl, rfl, rfl⟩, rfl⟩ := g1
      simp [hx, hy]
  · have hge : i = n := by have := of_decide_eq_false g; omega
    subst hge
    repeat' ((conv => whnf); first | refine ⟨?_, True.intro⟩ | refine brn_t rfl ?_ | refine brn_f rfl ?_ | refine ob rfl ?_ | refine ob (by decide) ?_ | refine grow_same (Mem.le_refl _) ?_ | refine ob (Mem.le_refl _) ?_ | refine ⟨_, Mem.le_refl _, ?_⟩ | fail)
    refine ⟨?_, rfl⟩
    rw [List.take_of_length_le (by simp; omega), List.take_of_length_le (by simp; omega)] at hsame
    rw [decide_eq_true hsame]
@[reducible] def statV (self epoch : Int) (ua : Option Addr) (un uc : Nat) (ha : Option Addr) (hn hc : Nat) (ma : Option Addr) (mn mc : Nat) : Value := .agg #[.int .i64 self, .int .i64 epoch, .slice ua un uc, .slice ha hn hc, .slice ma mn mc]
/-- two states that say the same -/
theorem sameState_ok (self epoch : Int) {ua ua' ha ha' ma ma' : Option Addr} {un un' hn hn' mn mn' : Nat} {ul : List (Int × Int)} {ms ms' : List MX} {mk mk' : List MkC} (h : StatR M ua un ha hn ma mn ul ms mk) (h' : StatR M ua' un' ha' hn' ma' mn' ul ms' mk') (hm : ms.map MX.msg = ms'.map MX.msg) (hk : mk.map MkC.mk' = mk'.map MkC.mk') (uc uc' hc hc' mc mc' : Nat) :
    CallsM Tryz.prog F.ref15_SameState [statV self epoch ua un uc ha hn hc ma mn mc, statV self epoch ua' un' uc' ha' hn' hc' ma' mn' mc'] M fun v M' => v = .bool true ∧ M = M' := by
  refine fo_ref15_SameState (by simp) ?_
  have hu := h.used.flen encN_len (by decide)
  have hu' := h'.used.flen encN_len (by decide)
  have hun : un = un' := by omega
  subst hun
  have hs := h.short
  have hs' := h'.short
  (conv => whnf); refine brn_f (by simp) ?_
  (conv => whnf); refine brn_f (by simp) ?_
  (conv => whnf); refine brn_f (by simp) ?_
  (conv => whnf)
  refine loopQ [5] (fun (i : Nat) => [(5, .int .i64 i)]) (fun i => i ≤ un) (fun i => un - i) 0 (by omega) ⟨(by repeat' first | exact True.intro | refine ⟨rfl, ?_⟩), (by repeat' first | exact True.intro | refine ⟨rfl, ?_⟩), Mem.le_refl _, rfl⟩ ?_
  intro i hi
  (conv => whnf); refine brn (fun g => ?_) (fun g => ?_)
  · have hlt : i < un := by have := of_decide_eq_true g; omega
    have hx : ul[i]? = some (ul[i]'(by omega)) := List.getElem?_eq_getElem (by omega)
    obtain ⟨b1, o1, ha1, hc1⟩ := h.used.fparts encN_len (by decide) hx
    obtain ⟨b2, o2, ha2, hc2⟩ := h'.used.fparts encN_len (by decide) hx
    generalize ul[i]'(by omega) = x at *
    (conv => whnf); refine ob (by first | omega | (dsimp only; omega)) ?_
    (conv => whnf); refine atp ha1 ?_
    (conv => whnf); refine on (hc1 0 2 (by decide)) ?_
    (conv => whnf); refine ob (by first | omega | (dsimp only; omega)) ?_
    (conv => whnf); refine atp ha2 ?_
    (conv => whnf); refine on (hc2 0 2 (by decide)) ?_
    (conv => whnf); refine brn_f (by simp) ?_
    (conv => whnf); refine ob (inR_i64 (by first | omega | (dsimp only; omega))) ?_
    (conv => whnf)
    exact ⟨i + 1, by omega, by omega, ⟨(by repeat' first | exact True.intro | refine ⟨rfl, ?_⟩), (by repeat' first | exact True.intro | refine ⟨rfl, ?_⟩), Mem.le_refl _, rfl⟩⟩
  repeat' ((conv => whnf); first | refine ⟨?_, True.intro⟩ | refine brn_t rfl ?_ | refine brn_f rfl ?_ | refine ob rfl ?_ | refine ob (by decide) ?_ | refine grow_same (Mem.le_refl _) ?_ | refine ob (Mem.le_refl _) ?_ | refine ⟨_, Mem.le_refl _, ?_⟩ | fail)
  refine (sameAllR_ok h.held h'.held (by omega) (by omega)).mono ?_
  rintro v _ ⟨rfl, rfl⟩
  rw [decide_eq_true hm]
  (conv => whnf); refine brn_t rfl ?_
  repeat' ((conv => whnf); first | refine ⟨?_, True.intro⟩ | refine brn_t rfl ?_ | refine brn_f rfl ?_ | refine ob rfl ?_ | refine ob (by decide) ?_ | refine grow_same (Mem.le_refl _) ?_ | refine ob (Mem.le_refl _) ?_ | refine ⟨_, Mem.le_refl _, ?_⟩ | fail)
  refine (same_ok h.seen h'.seen h.few (by omega) (by omega)).mono ?_
  rintro v _ ⟨rfl, rfl⟩
  rw [decide_eq_true hk]
  repeat' ((conv => whnf); first | refine ⟨?_, True.intro⟩ | refine brn_t rfl ?_ | refine brn_f rfl ?_ | refine ob rfl ?_ | refine ob (by decide) ?_ | refine grow_same (Mem.le_refl _) ?_ | refine ob (Mem.le_refl _) ?_ | refine ⟨_, Mem.le_refl _, ?_⟩ | fail)
  exact ⟨rfl, rfl⟩
end Go.Proofs.YtlocjjponfbhmaaGreat

/- Both stores tell the same. -/
namespace Go.Proofs.YtlocjjponfbhmaaGreat
open Go Go.Vm
attribute [local irreducible] Brn Ob Grow CallsM inR LoopVC Mem.row Mem.cells Mem.setCells Mem.upd Own AppVC SrcVC StrVC NextVC New SrcOk subA NewSl Mem.textAt Mem.mapAt Mem.iterAt entryOf kfind Wr NewEls Elems
set_option maxRecDepth 10000
variable {M B : Mem} {p b sp sb : Nat} {S : StR} {came : Int} {xs : HsT} {es : EsT} {L : List K} {D : DocV} {ms : List MX}
theorem Epoch_ok (h : FreshSt B M p b sp sb S came xs es) : CallsM Tryz.prog F.store_Store_Epoch [ptr p] M fun v M' => v = .int .i64 S.epoch ∧ M = M' := by
  refine fo_store_Store_Epoch (by simp) ?_
  (conv => whnf); refine brn_f rfl ?_
  (conv => whnf); refine on (h.at'.self.c1 rfl) ?_
  repeat' ((conv => whnf); first | refine ⟨?_, True.intro⟩ | refine brn_t rfl ?_ | refine brn_f rfl ?_ | refine ob rfl ?_ | refine ob (by decide) ?_ | refine grow_same (Mem.le_refl _) ?_ | refine ob (Mem.le_refl _) ?_ | refine ⟨_, Mem.le_refl _, ?_⟩ | fail)
  exact ⟨rfl, rfl⟩
theorem state15R_ok (h : DocAt M S L D ms) : CallsM Tryz.prog F.ref15_State [docV S D] M fun v M' => ∃ a c mk, v = statV S.self S.epoch D.ua D.un D.uc D.la D.ln D.lc a mk.length c ∧ M.le M' ∧ MarksR M' a mk.length mk ∧ FewM mk ∧ mk.map MkC.mk' = marksK L ∧ mk.length ≤ D.kn := by
  refine fo_ref15_State (by simp) ?_
  repeat' ((conv => whnf); first | refine ⟨?_, True.intro⟩ | refine brn_t rfl ?_ | refine brn_f rfl ?_ | refine ob rfl ?_ | refine ob (by decide) ?_ | refine grow_same (Mem.le_refl _) ?_ | refine ob (Mem.le_refl _) ?_ | refine ⟨_, Mem.le_refl _, ?_⟩ | fail)
  refine (marksR_ok h.keys (by have := h.few; omega) S.qg).mono ?_
  rintro v M1 ⟨a1, c1, l, rfl, hW, hl, hln, hfew⟩
  repeat' ((conv => whnf); first | refine ob rfl ?_ | refine grow_same hW.row.le ?_ | refine ob hW.row.le ?_ | refine ⟨?_, True.intro⟩ | fail)
  repeat' ((conv => whnf); first | refine ⟨?_, True.intro⟩ | refine brn_t rfl ?_ | refine brn_f rfl ?_ | refine ob rfl ?_ | refine ob (by decide) ?_ | refine grow_same (Mem.le_refl _) ?_ | refine ob (Mem.le_refl _) ?_ | refine ⟨_, Mem.le_refl _, ?_⟩ | fail)
  exact ⟨a1, c1, l, rfl, hW.row.le, ⟨hW.row.src, fun m hm => (hW.more m hm).src⟩, fun m hm => by have := (hfew m hm).2; have := h.few; omega, hl, hln⟩
theorem told_ok (h : Both B M p b sp sb S came xs es L D ms) (hcm : came ≤ 4611686018427387904) (hes : es.length ≤ 4194000) (hkn : D.kn ≤ 4194000) : CallsM Tryz.prog F.law15_told [ptr p, docV S D] M fun v M' => v = .bool true ∧ M.le M' := by
  refine fo_law15_told (by simp) ?_
  have hI := h.own.inv
  have hqh := hI.qh
  have hD := h.doc.le h.own.le
  repeat' ((conv => whnf); first | refine ⟨?_, True.intro⟩ | refine brn_t rfl ?_ | refine brn_f rfl ?_ | refine ob rfl ?_ | refine ob (by decide) ?_ | refine grow_same (Mem.le_refl _) ?_ | refine ob (Mem.le_refl _) ?_ | refine ⟨_, Mem.le_refl _, ?_⟩ | fail)
  refine (State_ok h.own hcm hes).mono ?_
  rintro v M1 ⟨ua, uc, ha, hc, ms1, ma, mc, mk, rfl, hle1, hN, hH, hmsg, hMk, hperm, hcan⟩
  have h1 := h.own.to hle1
  repeat' ((conv => whnf); first | refine ob rfl ?_ | refine grow_same hle1 ?_ | refine ob hle1 ?_ | refine ⟨?_, True.intro⟩ | fail)
  repeat' ((conv => whnf); first | refine ⟨?_, True.intro⟩ | refine brn_t rfl ?_ | refine brn_f rfl ?_ | refine ob rfl ?_ | refine ob (by decide) ?_ | refine grow_same (Mem.le_refl _) ?_ | refine ob (Mem.le_refl _) ?_ | refine ⟨_, Mem.le_refl _, ?_⟩ | fail)
  refine (state15R_ok (hD.le hle1)).mono ?_
  rintro v M2 ⟨a2, c2, mk2, rfl, hle2, hMr, hfew, hmk2, hln2⟩
  have hle12 := Mem.le_trans hle1 hle2
  repeat' ((conv => whnf); first | refine ob rfl ?_ | refine grow_same hle12 ?_ | refine ob hle12 ?_ | refine ⟨?_, True.intro⟩ | fail)
  repeat' ((conv => whnf); first | refine ⟨?_, True.intro⟩ | refine brn_t rfl ?_ | refine brn_f rfl ?_ | refine ob rfl ?_ | refine ob (by decide) ?_ | refine grow_same (Mem.le_refl _) ?_ | refine ob (Mem.le_refl _) ?_ | refine ⟨_, Mem.le_refl _, ?_⟩ | fail)
  have hmkl : mk.length = es.length := by have := hperm.length_eq; simpa using this
  have hml : ms1.length = S.l.length := by rw [← hmsg, List.length_map]
  have hus : (usedD S.used).length ≤ 64 := by have h9 : (usedD S.used).length ≤ S.used.length := usedF_len _ 0; have := hI.ulen; omega
  have hun := h.doc.un
  have hln := h.doc.ln
  have hfm : FewM mk := by
    have hF : FreshS (M.minus (setB sp sb es)) M sp sb S.qg es := ⟨Mem.minus_le _ _, h.own.at'.set, h.own.invE, h.own.room, fun _ hy => Mem.minus_in hy⟩
    exact hF.fewM hperm
  have s1 : StatR M2 ua (usedD S.used).length ha ms1.length ma mk.length (usedD S.used) ms1 mk := ⟨hN.src.le hle2, hH.msgs.le hle2, hMk.r.le hle2, hfm, by omega⟩
  have s2 : StatR M2 D.ua D.un D.la D.ln a2 mk2.length (usedD S.used) ms mk2 := ⟨hD.used.le hle12, hD.row.le hle12, hMr, hfew, by omega⟩
  refine (sameState_ok S.self S.epoch s1 s2 (hmsg.trans h.doc.msgs.symm) ((h.rel.marks hcan).trans hmk2.symm) _ _ _ _ _ _).mono ?_
  rintro v _ ⟨rfl, rfl⟩
  repeat' ((conv => whnf); first | refine ob rfl ?_ | refine grow_same hle12 ?_ | refine ob hle12 ?_ | refine ⟨?_, True.intro⟩ | fail)
  repeat' ((conv => whnf); first | refine ⟨?_, True.intro⟩ | refine brn_t rfl ?_ | refine brn_f rfl ?_ | refine ob rfl ?_ | refine ob (by decide) ?_ | refine grow_same (Mem.le_refl _) ?_ | refine ob (Mem.le_refl _) ?_ | refine ⟨_, Mem.le_refl _, ?_⟩ | fail)
  refine (Held_ok (h1.to hle2) hcm).mono ?_
  rintro v M3 ⟨a3, n3, c3, ms3, rfl, hH3, hmsg3⟩
  have hle3 := Mem.le_trans hle12 hH3.row.le
  have hn3 := hH3.len
  have hn3l : ms3.length = S.l.length := by rw [← hmsg3, List.length_map]
  repeat' ((conv => whnf); first | refine ob rfl ?_ | refine grow_same hle3 ?_ | refine ob hle3 ?_ | refine ⟨?_, True.intro⟩ | fail)
  repeat' ((conv => whnf); first | refine ⟨?_, True.intro⟩ | refine brn_t rfl ?_ | refine brn_f rfl ?_ | refine ob rfl ?_ | refine ob (by decide) ?_ | refine grow_same (Mem.le_refl _) ?_ | refine ob (Mem.le_refl _) ?_ | refine ⟨_, Mem.le_refl _, ?_⟩ | fail)
  refine (sameAllR_ok hH3.msgs (hD.row.le hle3) (by omega) (by omega)).mono ?_
  rintro v _ ⟨rfl, rfl⟩
  rw [decide_eq_true (hmsg3.trans h.doc.msgs.symm)]
  repeat' ((conv => whnf); first | refine ob rfl ?_ | refine grow_same hle3 ?_ | refine ob hle3 ?_ | refine ⟨?_, True.intro⟩ | fail)
  repeat' ((conv => whnf); first | refine ⟨?_, True.intro⟩ | refine brn_t rfl ?_ | refine brn_f rfl ?_ | refine ob rfl ?_ | refine ob (by decide) ?_ | refine grow_same (Mem.le_refl _) ?_ | refine ob (Mem.le_refl _) ?_ | refine ⟨_, Mem.le_refl _, ?_⟩ | fail)
  have h3 := h.own.to hle3
  refine (Bytes_ok h3).mono ?_
  rintro v _ ⟨rfl, rfl⟩
  repeat' ((conv => whnf); first | refine ob rfl ?_ | refine grow_same hle3 ?_ | refine ob hle3 ?_ | refine ⟨?_, True.intro⟩ | fail)
  repeat' ((conv => whnf); first | refine ⟨?_, True.intro⟩ | refine brn_t rfl ?_ | refine brn_f rfl ?_ | refine ob rfl ?_ | refine ob (by decide) ?_ | refine grow_same (Mem.le_refl _) ?_ | refine ob (Mem.le_refl _) ?_ | refine ⟨_, Mem.le_refl _, ?_⟩ | fail)
  refine (bytesR_ok (hD.le hle3) hI).mono ?_
  rintro v _ ⟨rfl, rfl⟩
  repeat' ((conv => whnf); first | refine ob rfl ?_ | refine grow_same hle3 ?_ | refine ob hle3 ?_ | refine ⟨?_, True.intro⟩ | fail)
  repeat' ((conv => whnf); first | refine ⟨?_, True.intro⟩ | refine brn_t rfl ?_ | refine brn_f rfl ?_ | refine ob rfl ?_ | refine ob (by decide) ?_ | refine grow_same (Mem.le_refl _) ?_ | refine ob (Mem.le_refl _) ?_ | refine ⟨_, Mem.le_refl _, ?_⟩ | fail)
  (conv => whnf); refine brn_t (by simp) ?_
  repeat' ((conv => whnf); first | refine ⟨?_, True.intro⟩ | refine brn_t rfl ?_ | refine brn_f rfl ?_ | refine ob rfl ?_ | refine ob (by decide) ?_ | refine grow_same (Mem.le_refl _) ?_ | refine ob (Mem.le_refl _) ?_ | refine ⟨_, Mem.le_refl _, ?_⟩ | fail)
  refine (Epoch_ok h3).mono ?_
  rintro v _ ⟨rfl, rfl⟩
  repeat' ((conv => whnf); first | refine ob rfl ?_ | refine grow_same hle3 ?_ | refine ob hle3 ?_ | refine ⟨?_, True.intro⟩ | fail)
  repeat' ((conv => whnf); first | refine ⟨?_, True.intro⟩ | refine brn_t rfl ?_ | refine brn_f rfl ?_ | refine ob rfl ?_ | refine ob (by decide) ?_ | refine grow_same (Mem.le_refl _) ?_ | refine ob (Mem.le_refl _) ?_ | refine ⟨_, Mem.le_refl _, ?_⟩ | fail)
  exact ⟨by simp, hle3⟩
end Go.Proofs.YtlocjjponfbhmaaGreat

