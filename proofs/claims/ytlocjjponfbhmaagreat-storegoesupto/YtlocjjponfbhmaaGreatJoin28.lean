/- States: are two the same? -/
import Derived.Test.YtlocjjponfbhmaaGreatJoin27
import Derived.Test.YtlocjjponfbhmaaGreatJoin18
namespace Go.Proofs.YtlocjjponfbhmaaGreat
open Go Go.Vm
attribute [local irreducible] Brn Ob Grow CallsM inR LoopVC Mem.row Mem.cells Mem.setCells Mem.upd Own AppVC SrcVC StrVC NextVC New SrcOk subA NewSl Mem.textAt Mem.mapAt Mem.iterAt entryOf kfind Wr NewEls Elems
set_option maxRecDepth 10000
variable {M : Mem}
/-- a state that can be read -/
structure StatR (M : Mem) (ua : Option Addr) (un : Nat) (ha : Option Addr) (hn : Nat) (ma : Option Addr) (mn : Nat) (ul : List (Int × Int)) (ms : List MX) (mk : List MkC) : Prop where
  used : SrcOk M 2 ua un (ul.flatMap encN)
  held : MsgsR M ha hn ms
  seen : MarksR M ma mn mk
  few : FewM mk
  short : un ≤ 4194000 ∧ hn ≤ 4194000 ∧ mn ≤ 4194000
theorem StatR.le {ua : Option Addr} {un : Nat} {ha : Option Addr} {hn : Nat} {ma : Option Addr} {mn : Nat} {ul : List (Int × Int)} {ms : List MX} {mk : List MkC} (h : StatR M ua un ha hn ma mn ul ms mk) {M' : Mem} (hle : M.le M') : StatR M' ua un ha hn ma mn ul ms mk :=
  ⟨h.used.le hle, h.held.le hle, h.seen.le hle, h.few, h.short⟩
theorem sameAllR_ok {a b : Option Addr} {n m c d : Nat} {l r : List MX} (ha : MsgsR M a n l) (hb : MsgsR M b m r) (hn : n ≤ 4194304) (hm : m ≤ 4194304) :
    CallsM Tryz.prog F.ref13_SameAll [.slice a n c, .slice b m d] M fun v M' => v = .bool (decide (l.map MX.msg = r.map MX.msg)) ∧ M = M' := by
  refine fo_ref13_SameAll (by simp) ?_
  have hl := ha.len
  have hr := hb.len
  (conv => whnf); refine brn (fun h => ?_) (fun h => ?_)
  · repeat' ((conv => whnf); first | refine ⟨?_, True.intro⟩ | refine brn_t rfl ?_ | refine brn_f rfl ?_ | refine ob rfl ?_ | refine ob (by decide) ?_ | refine grow_same (Mem.le_refl _) ?_ | refine ob (Mem.le_refl _) ?_ | refine ⟨_, Mem.le_refl _, ?_⟩ | fail)
    have h' : ¬ (n : Int) = m := by simpa using h
    refine ⟨?_, rfl⟩
    have : ¬ l.map MX.msg = r.map MX.msg := fun e => h' (by have := congrArg List.length e; simp at this; omega)
    rw [decide_eq_false this]
  have hnm : n = m := by have h' : (n : Int) = m := by simpa using h
                         omega
  subst hnm
  (conv => whnf)
  refine loopQ [5] (fun (i : Nat) => [(5, .int .i64 i)]) (fun i => i ≤ n ∧ (l.map MX.msg).take i = (r.map MX.msg).take i) (fun i => n - i) 0 ⟨by omega, by simp⟩ ⟨(by repeat' first | exact True.intro | refine ⟨rfl, ?_⟩), (by repeat' first | exact True.intro | refine ⟨rfl, ?_⟩), Mem.le_refl _, rfl⟩ ?_
  intro i ⟨hi, hsame⟩
  (conv => whnf); refine brn (fun g => ?_) (fun g => ?_)
  · have hlt : i < n := by have := of_decide_eq_true g; omega
    have hx : l[i]? = some (l[i]'(by omega)) := List.getElem?_eq_getElem (by omega)
    have hy : r[i]? = some (r[i]'(by omega)) := List.getElem?_eq_getElem (by omega)
    generalize l[i]'(by omega) = x at *
    generalize r[i]'(by omega) = y at *
    obtain ⟨b1, o1, ha1, hc1⟩ := ha.row.fparts encX_len (by decide) hx
    obtain ⟨b2, o2, ha2, hc2⟩ := hb.row.fparts encX_len (by decide) hy
    have hxm := ha.data x (List.mem_of_getElem? hx)
    have hym := hb.data y (List.mem_of_getElem? hy)
    (conv => whnf); refine ob (by first | omega | (dsimp only; omega)) ?_
    (conv => whnf); refine atp ha1 ?_
    (conv => whnf); refine on (hc1 0 5 (by decide)) ?_
    (conv => whnf); refine ob (by first | omega | (dsimp only; omega)) ?_
    (conv => whnf); refine atp ha2 ?_
    (conv => whnf); refine on (hc2 0 5 (by decide)) ?_
    repeat' ((conv => whnf); first | refine ⟨?_, True.intro⟩ | refine brn_t rfl ?_ | refine brn_f rfl ?_ | refine ob rfl ?_ | refine ob (by decide) ?_ | refine grow_same (Mem.le_refl _) ?_ | refine ob (Mem.le_refl _) ?_ | refine ⟨_, Mem.le_refl _, ?_⟩ | fail)
    refine (sameMsgR_ok _ _ _ _ _ _ _ _ _ _ _ _ _ _ _ _ _ hxm hym).mono ?_
    rintro v _ ⟨rfl, rfl⟩
    repeat' ((conv => whnf); first | refine ob rfl ?_ | refine grow_same (Mem.le_refl _) ?_ | refine ob (Mem.le_refl _) ?_ | refine ⟨?_, True.intro⟩ | fail)
    (conv => whnf); refine brn (fun g1 => ?_) (fun g1 => ?_)
    · repeat' ((conv => whnf); first | refine ⟨?_, True.intro⟩ | refine brn_t rfl ?_ | refine brn_f rfl ?_ | refine ob rfl ?_ | refine ob (by decide) ?_ | refine grow_same (Mem.le_refl _) ?_ | refine ob (Mem.le_refl _) ?_ | refine ⟨_, Mem.le_refl _, ?_⟩ | fail)
      refine ⟨?_, rfl⟩
      have : ¬ l.map MX.msg = r.map MX.msg := fun e => by
        have := congrArg (·[i]?) e
        simp [hx, hy] at this
        obtain ⟨e1, e2⟩ := this
        rw [e1, e2] at g1
        simp at g1
      rw [decide_eq_false this]
    · (conv => whnf); refine ob (inR_i64 (by first | omega | (dsimp only; omega))) ?_
      (conv => whnf)
      refine ⟨i + 1, ⟨by omega, ?_⟩, by omega, ⟨(by repeat' first | exact True.intro | refine ⟨rfl, ?_⟩), (by repeat' first | exact True.intro | refine ⟨rfl, ?_⟩), Mem.le_refl _, rfl⟩⟩
      rw [List.take_add_one, List.take_add_one, hsame]
      obtain ⟨⟨x1, x2, x3, x4⟩, xa, xc, xp⟩ := x
      obtain ⟨⟨y1, y2, y3, y4⟩, ya, yc, yp⟩ := y
      simp at g1
      obtain ⟨⟨rfl, rfl, rfl, rfl⟩, rfl⟩ := g1
      simp [hx, hy]
  · have hge : i = n := by have := of_decide_eq_false g; omega
    subst hge
    repeat' ((conv => whnf); first | refine ⟨?_, True.intro⟩ | refine brn_t rfl ?_ | refine brn_f rfl ?_ | refine ob rfl ?_ | refine ob (by decide) ?_ | refine grow_same (Mem.le_refl _) ?_ | refine ob (Mem.le_refl _) ?_ | refine ⟨_, Mem.le_refl _, ?_⟩ | fail)
    refine ⟨?_, rfl⟩
    rw [List.take_of_length_le (by simp; omega), List.take_of_length_le (by simp; omega)] at hsame
    rw [decide_eq_true hsame]
@[reducible] def statV (self epoch : Int) (ua : Option Addr) (un uc : Nat) (ha : Option Addr) (hn hc : Nat) (ma : Option Addr) (mn mc : Nat) : Value := .agg #[.int .i64 self, .int .i64 epoch, .slice ua un uc, .slice ha hn hc, .slice ma mn mc]
/-- two states that say the same -/
theorem sameState_ok (self epoch : Int) {ua ua' ha ha' ma ma' : Option Addr} {un un' hn hn' mn mn' : Nat} {ul : List (Int × Int)} {ms ms' : List MX} {mk mk' : List MkC} (h : StatR M ua un ha hn ma mn ul ms mk) (h' : StatR M ua' un' ha' hn' ma' mn' ul ms' mk') (hm : ms.map MX.msg = ms'.map MX.msg) (hk : mk.map MkC.mk' = mk'.map MkC.mk') (uc uc' hc hc' mc mc' : Nat) :
    CallsM Tryz.prog F.ref15_SameState [statV self epoch ua un uc ha hn hc ma mn mc, statV self epoch ua' un' uc' ha' hn' hc' ma' mn' mc'] M fun v M' => v = .bool true ∧ M = M' := by
  refine fo_ref15_SameState (by simp) ?_
  have hu := h.used.flen encN_len (by decide)
  have hu' := h'.used.flen encN_len (by decide)
  have hun : un = un' := by omega
  subst hun
  have hs := h.short
  have hs' := h'.short
  (conv => whnf); refine brn_f (by simp) ?_
  (conv => whnf); refine brn_f (by simp) ?_
  (conv => whnf); refine brn_f (by simp) ?_
  (conv => whnf)
  refine loopQ [5] (fun (i : Nat) => [(5, .int .i64 i)]) (fun i => i ≤ un) (fun i => un - i) 0 (by omega) ⟨(by repeat' first | exact True.intro | refine ⟨rfl, ?_⟩), (by repeat' first | exact True.intro | refine ⟨rfl, ?_⟩), Mem.le_refl _, rfl⟩ ?_
  intro i hi
  (conv => whnf); refine brn (fun g => ?_) (fun g => ?_)
  · have hlt : i < un := by have := of_decide_eq_true g; omega
    have hx : ul[i]? = some (ul[i]'(by omega)) := List.getElem?_eq_getElem (by omega)
    obtain ⟨b1, o1, ha1, hc1⟩ := h.used.fparts encN_len (by decide) hx
    obtain ⟨b2, o2, ha2, hc2⟩ := h'.used.fparts encN_len (by decide) hx
    generalize ul[i]'(by omega) = x at *
    (conv => whnf); refine ob (by first | omega | (dsimp only; omega)) ?_
    (conv => whnf); refine atp ha1 ?_
    (conv => whnf); refine on (hc1 0 2 (by decide)) ?_
    (conv => whnf); refine ob (by first | omega | (dsimp only; omega)) ?_
    (conv => whnf); refine atp ha2 ?_
    (conv => whnf); refine on (hc2 0 2 (by decide)) ?_
    (conv => whnf); refine brn_f (by simp) ?_
    (conv => whnf); refine ob (inR_i64 (by first | omega | (dsimp only; omega))) ?_
    (conv => whnf)
    exact ⟨i + 1, by omega, by omega, ⟨(by repeat' first | exact True.intro | refine ⟨rfl, ?_⟩), (by repeat' first | exact True.intro | refine ⟨rfl, ?_⟩), Mem.le_refl _, rfl⟩⟩
  repeat' ((conv => whnf); first | refine ⟨?_, True.intro⟩ | refine brn_t rfl ?_ | refine brn_f rfl ?_ | refine ob rfl ?_ | refine ob (by decide) ?_ | refine grow_same (Mem.le_refl _) ?_ | refine ob (Mem.le_refl _) ?_ | refine ⟨_, Mem.le_refl _, ?_⟩ | fail)
  refine (sameAllR_ok h.held h'.held (by omega) (by omega)).mono ?_
  rintro v _ ⟨rfl, rfl⟩
  rw [decide_eq_true hm]
  (conv => whnf); refine brn_t rfl ?_
  repeat' ((conv => whnf); first | refine ⟨?_, True.intro⟩ | refine brn_t rfl ?_ | refine brn_f rfl ?_ | refine ob rfl ?_ | refine ob (by decide) ?_ | refine grow_same (Mem.le_refl _) ?_ | refine ob (Mem.le_refl _) ?_ | refine ⟨_, Mem.le_refl _, ?_⟩ | fail)
  refine (same_ok h.seen h'.seen h.few (by omega) (by omega)).mono ?_
  rintro v _ ⟨rfl, rfl⟩
  rw [decide_eq_true hk]
  repeat' ((conv => whnf); first | refine ⟨?_, True.intro⟩ | refine brn_t rfl ?_ | refine brn_f rfl ?_ | refine ob rfl ?_ | refine ob (by decide) ?_ | refine grow_same (Mem.le_refl _) ?_ | refine ob (Mem.le_refl _) ?_ | refine ⟨_, Mem.le_refl _, ?_⟩ | fail)
  exact ⟨rfl, rfl⟩
end Go.Proofs.YtlocjjponfbhmaaGreat

/- The set of marks: which marks are right; the document's check. -/
namespace Go.Proofs.YtlocjjponfbhmaaGreat
open Go Go.Vm
attribute [local irreducible] Brn Ob Grow CallsM inR LoopVC Mem.row Mem.cells Mem.setCells Mem.upd Own AppVC SrcVC StrVC NextVC New SrcOk subA NewSl Mem.textAt Mem.mapAt Mem.iterAt entryOf kfind Wr NewEls Elems
set_option maxRecDepth 10000
variable {M : Mem}
def Chain : Int → List Int → Prop
  | _, [] => True
  | last, n :: r => last < n ∧ n ≤ 65535 ∧ Chain n r
def RightM (m : Mk) : Prop := (0 ≤ m.o ∧ m.o < 64 ∧ 1 ≤ m.e ∧ m.e ≤ 65535 ∧ 0 ≤ m.up ∧ m.up ≤ 65535) ∧ (0 < m.up ∨ 0 < m.more.length) ∧ Chain (m.up + 1) m.more
theorem Chain.can : ∀ {l : List Int} {last : Int}, Chain last l → l.Pairwise (· < ·) ∧ ∀ c ∈ l, last < c ∧ c ≤ 65535
  | [], _, _ => ⟨.nil, by simp⟩
  | x :: r, last, ⟨h1, h2, h3⟩ => by
    obtain ⟨h4, h5⟩ := Chain.can h3
    refine ⟨List.pairwise_cons.2 ⟨fun y hy => (h5 y hy).1, h4⟩, fun c hc => ?_⟩
    rcases List.mem_cons.1 hc with rfl | hc
    · exact ⟨h1, h2⟩
    · have := h5 c hc; omega
theorem right_ok {m : MkC} (hs : SrcOk M 1 m.a m.more.length (m.more.map intV)) (hn : m.more.length ≤ 4194304) :
    CallsM Tryz.prog F.seen_right [.agg (encM m).toArray] M fun v M' => ∃ r, v = .bool r ∧ (r = true ↔ RightM m.mk') ∧ M = M' := by
  refine fo_seen_right (by simp) ?_
  have no : ¬ RightM m.mk' → (false = true ↔ RightM m.mk') := fun h => ⟨fun h => (by cases h), fun h' => absurd h' h⟩
  (conv => whnf); refine brn (fun g => ?_) (fun g => ?_)
  · repeat' ((conv => whnf); first | refine ⟨?_, True.intro⟩ | refine brn_t rfl ?_ | refine brn_f rfl ?_ | refine ob rfl ?_ | refine ob (by decide) ?_ | refine grow_same (Mem.le_refl _) ?_ | refine ob (Mem.le_refl _) ?_ | refine ⟨_, Mem.le_refl _, ?_⟩ | fail)
    refine ⟨false, rfl, no fun hr => ?_, rfl⟩
    have g' := of_decide_eq_true g
    have h1 := hr.1
    simp only [MkC.mk'] at h1
    omega
  replace g := of_decide_eq_false g
  (conv => whnf); refine brn (fun g => ?_) (fun g => ?_)
  · repeat' ((conv => whnf); first | refine ⟨?_, True.intro⟩ | refine brn_t rfl ?_ | refine brn_f rfl ?_ | refine ob rfl ?_ | refine ob (by decide) ?_ | refine grow_same (Mem.le_refl _) ?_ | refine ob (Mem.le_refl _) ?_ | refine ⟨_, Mem.le_refl _, ?_⟩ | fail)
    refine ⟨false, rfl, no fun hr => ?_, rfl⟩
    have g' := of_decide_eq_true g
    have h1 := hr.1
    simp only [MkC.mk'] at h1
    omega
  replace g := of_decide_eq_false g
  (conv => whnf); refine brn (fun g => ?_) (fun g => ?_)
  · repeat' ((conv => whnf); first | refine ⟨?_, True.intro⟩ | refine brn_t rfl ?_ | refine brn_f rfl ?_ | refine ob rfl ?_ | refine ob (by decide) ?_ | refine grow_same (Mem.le_refl _) ?_ | refine ob (Mem.le_refl _) ?_ | refine ⟨_, Mem.le_refl _, ?_⟩ | fail)
    refine ⟨false, rfl, no fun hr => ?_, rfl⟩
    have g' := of_decide_eq_true g
    have h1 := hr.1
    simp only [MkC.mk'] at h1
    omega
  replace g := of_decide_eq_false g
  (conv => whnf); refine brn (fun g => ?_) (fun g => ?_)
  · repeat' ((conv => whnf); first | refine ⟨?_, True.intro⟩ | refine brn_t rfl ?_ | refine brn_f rfl ?_ | refine ob rfl ?_ | refine ob (by decide) ?_ | refine grow_same (Mem.le_refl _) ?_ | refine ob (Mem.le_refl _) ?_ | refine ⟨_, Mem.le_refl _, ?_⟩ | fail)
    refine ⟨false, rfl, no fun hr => ?_, rfl⟩
    have g' := of_decide_eq_true g
    have h1 := hr.1
    simp only [MkC.mk'] at h1
    omega
  replace g := of_decide_eq_false g
  (conv => whnf); refine brn (fun g => ?_) (fun g => ?_)
  · repeat' ((conv => whnf); first | refine ⟨?_, True.intro⟩ | refine brn_t rfl ?_ | refine brn_f rfl ?_ | refine ob rfl ?_ | refine ob (by decide) ?_ | refine grow_same (Mem.le_refl _) ?_ | refine ob (Mem.le_refl _) ?_ | refine ⟨_, Mem.le_refl _, ?_⟩ | fail)
    refine ⟨false, rfl, no fun hr => ?_, rfl⟩
    have g' := of_decide_eq_true g
    have h1 := hr.1
    simp only [MkC.mk'] at h1
    omega
  replace g := of_decide_eq_false g
  (conv => whnf); refine brn (fun g => ?_) (fun g => ?_)
  · repeat' ((conv => whnf); first | refine ⟨?_, True.intro⟩ | refine brn_t rfl ?_ | refine brn_f rfl ?_ | refine ob rfl ?_ | refine ob (by decide) ?_ | refine grow_same (Mem.le_refl _) ?_ | refine ob (Mem.le_refl _) ?_ | refine ⟨_, Mem.le_refl _, ?_⟩ | fail)
    refine ⟨false, rfl, no fun hr => ?_, rfl⟩
    have g' := of_decide_eq_true g
    have h1 := hr.1
    simp only [MkC.mk'] at h1
    omega
  replace g := of_decide_eq_false g
  have hb : 0 ≤ m.o ∧ m.o < 64 ∧ 1 ≤ m.e ∧ m.e ≤ 65535 ∧ 0 ≤ m.up ∧ m.up ≤ 65535 := by omega
  (conv => whnf); refine ob (inR_i64 (by omega)) ?_
  (conv => whnf)
  refine loopQ [40, 3] (fun (y : Nat × Int) => [(40, .int .i64 y.1), (3, .int .i64 y.2)]) (fun y => y.1 ≤ m.more.length ∧ (Chain (m.up + 1) m.more ↔ Chain y.2 (m.more.drop y.1))) (fun y => m.more.length - y.1) ⟨0, m.up + 1⟩ ⟨by omega, by simp⟩ ⟨(by repeat' first | exact True.intro | refine ⟨rfl, ?_⟩), (by repeat' first | exact True.intro | refine ⟨rfl, ?_⟩), Mem.le_refl _, rfl⟩ ?_
  rintro ⟨i, last⟩ ⟨hi, hch⟩
  (conv => whnf); refine brn (fun g => ?_) (fun g => ?_)
  · have hlt : i < m.more.length := by have := of_decide_eq_true g; dsimp only at this; omega
    obtain ⟨hkx, bx, ox, hax, hrx⟩ := hs.at (i := i) hlt
    dsimp only at hch
    rw [List.drop_eq_getElem_cons hlt] at hch
    generalize m.more[i] = x at *
    (conv => whnf); refine ob (by first | omega | (dsimp only; omega)) ?_
    (conv => whnf); refine atp hax ?_
    (conv => whnf); refine on hrx ?_
    (conv => whnf); refine brn (fun g1 => ?_) (fun g1 => ?_)
    · repeat' ((conv => whnf); first | refine ⟨?_, True.intro⟩ | refine brn_t rfl ?_ | refine brn_f rfl ?_ | refine ob rfl ?_ | refine ob (by decide) ?_ | refine grow_same (Mem.le_refl _) ?_ | refine ob (Mem.le_refl _) ?_ | refine ⟨_, Mem.le_refl _, ?_⟩ | fail)
      refine ⟨false, rfl, no fun hr => ?_, rfl⟩
      have := (hch.1 hr.2.2).1
      have := of_decide_eq_true g1
      omega
    (conv => whnf); refine brn (fun g2 => ?_) (fun g2 => ?_)
    · repeat' ((conv => whnf); first | refine ⟨?_, True.intro⟩ | refine brn_t rfl ?_ | refine brn_f rfl ?_ | refine ob rfl ?_ | refine ob (by decide) ?_ | refine grow_same (Mem.le_refl _) ?_ | refine ob (Mem.le_refl _) ?_ | refine ⟨_, Mem.le_refl _, ?_⟩ | fail)
      refine ⟨false, rfl, no fun hr => ?_, rfl⟩
      have := (hch.1 hr.2.2).2.1
      have := of_decide_eq_true g2
      omega
    (conv => whnf); refine ob (inR_i64 (by first | omega | (dsimp only; omega))) ?_
    (conv => whnf)
    refine ⟨⟨i + 1, x⟩, ⟨by omega, hch.trans ⟨fun h => h.2.2, fun h => ⟨?_, ?_, h⟩⟩⟩, by dsimp only; omega, ⟨(by repeat' first | exact True.intro | refine ⟨rfl, ?_⟩), (by repeat' first | exact True.intro | refine ⟨rfl, ?_⟩), Mem.le_refl _, rfl⟩⟩
    · have := of_decide_eq_false g1; omega
    · have := of_decide_eq_false g2; omega
  have hge : i = m.more.length := by have := of_decide_eq_false g; dsimp only at this; omega
  subst hge
  have hc : Chain (m.up + 1) m.more := hch.2 (by rw [List.drop_length]; exact True.intro)
  (conv => whnf); refine brn (fun g => ?_) (fun g => ?_)
  · repeat' ((conv => whnf); first | refine ⟨?_, True.intro⟩ | refine brn_t rfl ?_ | refine brn_f rfl ?_ | refine ob rfl ?_ | refine ob (by decide) ?_ | refine grow_same (Mem.le_refl _) ?_ | refine ob (Mem.le_refl _) ?_ | refine ⟨_, Mem.le_refl _, ?_⟩ | fail)
    exact ⟨true, rfl, ⟨fun _ => ⟨hb, .inl (of_decide_eq_true g), hc⟩, fun _ => rfl⟩, rfl⟩
  · repeat' ((conv => whnf); first | refine ⟨?_, True.intro⟩ | refine brn_t rfl ?_ | refine brn_f rfl ?_ | refine ob rfl ?_ | refine ob (by decide) ?_ | refine grow_same (Mem.le_refl _) ?_ | refine ob (Mem.le_refl _) ?_ | refine ⟨_, Mem.le_refl _, ?_⟩ | fail)
    refine ⟨_, rfl, ⟨fun h => ⟨hb, .inr ?_, hc⟩, fun h => ?_⟩, rfl⟩
    · have h3 := of_decide_eq_true h
      show 0 < m.more.length
      omega
    · have h2 := h.2.1
      have := of_decide_eq_false g
      simp only [MkC.mk'] at h2
      exact decide_eq_true (by omega)
end Go.Proofs.YtlocjjponfbhmaaGreat

/- The document's check of marks. -/
namespace Go.Proofs.YtlocjjponfbhmaaGreat
open Go Go.Vm
attribute [local irreducible] Brn Ob Grow CallsM inR LoopVC Mem.row Mem.cells Mem.setCells Mem.upd Own AppVC SrcVC StrVC NextVC New SrcOk subA NewSl Mem.textAt Mem.mapAt Mem.iterAt entryOf kfind Wr NewEls Elems
set_option maxRecDepth 10000
variable {M : Mem}
def FormP (l : List Mk) : Prop := (∀ m ∈ l, RightM m) ∧ l.Pairwise ltMk
theorem FormP.snoc {l : List Mk} {x : Mk} (h : FormP l) (hr : RightM x) (hl : ∀ y, l.getLast? = some y → ltMk y x) : FormP (l ++ [x]) := by
  refine ⟨fun m hm => ?_, ?_⟩
  · rcases List.mem_append.1 hm with h1 | h1
    · exact h.1 m h1
    · simp only [List.mem_singleton] at h1
      subst h1; exact hr
  · rw [List.pairwise_append]
    refine ⟨h.2, by simp, fun z hz y hy => ?_⟩
    simp only [List.mem_singleton] at hy
    subst hy
    by_cases hne : l = []
    · subst hne; cases hz
    · have hl1 := hl (l.getLast hne) (List.getLast?_eq_some_getLast hne)
      rw [← List.dropLast_concat_getLast hne] at hz
      have hp := h.2
      rw [← List.dropLast_concat_getLast hne, List.pairwise_append] at hp
      rcases List.mem_append.1 hz with h2 | h2
      · have := hp.2.2 z h2 (l.getLast hne) (by simp)
        unfold ltMk at this hl1 ⊢; omega
      · simp only [List.mem_singleton] at h2
        subst h2; exact hl1
theorem FormP.lt {l : List Mk} (h : FormP l) {i : Nat} {x y : Mk} (hx : l[i]? = some x) (hy : l[i + 1]? = some y) : ltMk x y := by
  obtain ⟨h1, rfl⟩ := List.getElem?_eq_some_iff.1 hx
  obtain ⟨h2, rfl⟩ := List.getElem?_eq_some_iff.1 hy
  exact List.pairwise_iff_getElem.1 h.2 i (i + 1) h1 h2 (by omega)
def sumM (l : List Mk) : Nat := (l.map fun m => m.more.length).sum
/-- what the document says of marks -/
def CheckP (gaps : Int) (l : List Mk) (k : Int) : Prop :=
  ((gaps < 0 ∨ 256 < gaps) ∧ k = 1) ∨ (¬ (gaps < 0 ∨ 256 < gaps) ∧ ¬ FormP l ∧ k = 2) ∨ (¬ (gaps < 0 ∨ 256 < gaps) ∧ FormP l ∧ gaps < sumM l ∧ k = 6) ∨ (¬ (gaps < 0 ∨ 256 < gaps) ∧ FormP l ∧ (sumM l : Int) ≤ gaps ∧ k = 0)
theorem CheckP.uniq {gaps : Int} {l : List Mk} {k k' : Int} (h : CheckP gaps l k) (h' : CheckP gaps l k') : k = k' := by
  rcases h with ⟨h1, h2⟩ | ⟨h1, h2, h3⟩ | ⟨h1, h2, h3, h4⟩ | ⟨h1, h2, h3, h4⟩ <;> rcases h' with ⟨g1, g2⟩ | ⟨g1, g2, g3⟩ | ⟨g1, g2, g3, g4⟩ | ⟨g1, g2, g3, g4⟩ <;> first | omega | exact absurd h2 g2 | exact absurd g2 h2
end Go.Proofs.YtlocjjponfbhmaaGreat

