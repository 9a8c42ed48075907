/- Events of bytes: what both sides' functions say; same events. -/
import Derived.Test.YtlocjjponfbhmaaEvE
namespace Go.Proofs.Ytlocjjponfbhmaa
open Go Go.Vm
attribute [local irreducible] Brn Ob Grow CallsM inR LoopVC Mem.row Mem.cells Mem.setCells Mem.upd Own AppVC SrcVC StrVC NextVC New SrcOk subA NewSl Mem.textAt Mem.mapAt Mem.iterAt entryOf kfind Wr NewEls Elems
set_option maxRecDepth 10000
variable {M : Mem}
/-- what is got -/
def GetOut (l : List UInt8) (M : Mem) (v : Value) (M' : Mem) : Prop :=
  (parseEv l = none ∧ v = .tuple #[evV 0 zeroI none 0 0, .int .i64 2] ∧ M.le M') ∨
  (∃ x a c, parseEv l = some x ∧ v = .tuple #[evV x.kind x.id a x.p.length c, .int .i64 0] ∧ M.le M' ∧ SrcOk M' 1 a x.p.length (x.p.map byteV) ∧ x.p.length ≤ 4194304)
theorem getMsgR_ok (a : Option Addr) (n c : Nat) (M : Mem) (l : List UInt8) (hs : SrcOk M 1 a n (l.map byteV)) (hn : n ≤ 4194304) (hc : n ≤ c) :
    CallsM Try.prog F.ref13_Get [.slice a n c] M fun v M' => ∃ p m k, v = .tuple #[.agg #[.int .i64 (getMsg l).id.o, .int .i64 (getMsg l).id.d, .int .i64 (getMsg l).id.e, .int .i64 (getMsg l).id.c, .slice p m k], .int .i64 (getMsgErr l)] ∧
      M.le M' ∧ SrcOk M' 1 p m ((getMsg l).p.map byteV) ∧ m ≤ 4194304 := by
  have hl := hs.maplen
  refine fo_ref13_Get (by simp) ?_
  have em : l.length < 7 ∨ 54 < l.length → getMsgErr l = 2 := fun h => by
    unfold getMsgErr
    split
    · rfl
    · split
      · rfl
      · rw [if_pos (by omega)]
  (conv => whnf); refine brn (fun h => ?_) (fun h => ?_)
  · have e : getMsgErr l = 2 := em (by have := of_decide_eq_true h; omega)
    (conv => whnf)
    repeat' ((conv => whnf); first | refine ⟨?_, True.intro⟩ | refine brn_t rfl ?_ | refine brn_f rfl ?_ | refine ob rfl ?_ | refine ob (by decide) ?_ | refine grow_same (Mem.le_refl _) ?_ | refine ob (Mem.le_refl _) ?_ | refine ⟨_, Mem.le_refl _, ?_⟩ | fail)
    refine ⟨none, 0, 0, ?_, Mem.le_refl _, ?_, by decide⟩
    · rw [getMsg, e]; rfl
    · rw [getMsg, e]; exact SrcOk.nil _ _
  replace h := of_decide_eq_false h
  (conv => whnf); refine brn (fun h2 => ?_) (fun h2 => ?_)
  · have e : getMsgErr l = 2 := em (by have := of_decide_eq_true h2; omega)
    (conv => whnf)
    repeat' ((conv => whnf); first | refine ⟨?_, True.intro⟩ | refine brn_t rfl ?_ | refine brn_f rfl ?_ | refine ob rfl ?_ | refine ob (by decide) ?_ | refine grow_same (Mem.le_refl _) ?_ | refine ob (Mem.le_refl _) ?_ | refine ⟨_, Mem.le_refl _, ?_⟩ | fail)
    refine ⟨none, 0, 0, ?_, Mem.le_refl _, ?_, by decide⟩
    · rw [getMsg, e]; rfl
    · rw [getMsg, e]; exact SrcOk.nil _ _
  replace h2 := of_decide_eq_false h2
  have hsub := hs.subm (lo := 0) (hi := 6) (by omega) (by omega) hc
  have hsub2 := hs.subm (lo := 6) (hi := n) (by omega) (by omega) hc
  (conv => whnf); refine ob (by omega) ?_
  (conv => whnf); refine (getIdR_ok _ _ _ _ (l.take 6) (by simpa using hsub) (by decide) (by omega)).mono ?_
  rintro v M' ⟨rfl, rfl⟩
  (conv => whnf); refine brn (fun g => ?_) (fun g => ?_)
  · have g' : getIdErr (l.take 6) ≠ 0 := by simpa using g
    have e : getMsgErr l = 2 := by rw [getMsgErr, if_neg (by omega), if_pos g']
    (conv => whnf)
    repeat' ((conv => whnf); first | refine ⟨?_, True.intro⟩ | refine brn_t rfl ?_ | refine brn_f rfl ?_ | refine ob rfl ?_ | refine ob (by decide) ?_ | refine grow_same (Mem.le_refl _) ?_ | refine ob (Mem.le_refl _) ?_ | refine ⟨_, Mem.le_refl _, ?_⟩ | fail)
    refine ⟨none, 0, 0, ?_, Mem.le_refl _, ?_, by decide⟩
    · rw [getMsg, e]; rfl
    · rw [getMsg, e]; exact SrcOk.nil _ _
  have g' : getIdErr (l.take 6) = 0 := by simpa using g
  have hgi : getId (l.take 6) = idOf (l.take 6) := by rw [getId, if_pos g']
  have e0 : getMsgErr l = 0 := by rw [getMsgErr, if_neg (by omega), if_neg (by simp [g']), if_neg (by omega)]
  rw [hgi]
  have hsub3 : SrcOk M 1 (subA a 6 c 1) (n - 6) ((l.drop 6).map byteV) := by
    rw [List.take_of_length_le (by simp; omega)] at hsub2; exact hsub2
  repeat' ((conv => whnf); first | refine ⟨?_, True.intro⟩ | refine brn_t rfl ?_ | refine brn_f rfl ?_ | refine ob rfl ?_ | refine ob (by decide) ?_ | refine grow_same (Mem.le_refl _) ?_ | refine ob (Mem.le_refl _) ?_ | refine ⟨_, Mem.le_refl _, ?_⟩ | fail)
  refine ob (by omega) ?_
  repeat' ((conv => whnf); first | refine ⟨?_, True.intro⟩ | refine brn_t rfl ?_ | refine brn_f rfl ?_ | refine ob rfl ?_ | refine ob (by decide) ?_ | refine grow_same (Mem.le_refl _) ?_ | refine ob (Mem.le_refl _) ?_ | refine ⟨_, Mem.le_refl _, ?_⟩ | fail)
  refine new (fun b hb => ?_)
  replace hb : M b = none := hb
  have hN : NewSl M T.uint8 1 (some ⟨b, 0, none⟩) 0 0 (([] : List UInt8).map byteV) _ := NewSl.lit hb T.uint8 1 0 [] rfl
  obtain ⟨M3, hM3⟩ : ∃ M3, M3 = M.setCells b T.uint8 [] := ⟨_, rfl⟩
  rw [← hM3] at hN
  (conv => whnf)
  erw [← hM3]
  repeat' ((conv => whnf); first | refine ⟨?_, True.intro⟩ | refine brn_t rfl ?_ | refine brn_f rfl ?_ | refine ob rfl ?_ | refine ob (by decide) ?_ | refine grow_same (Mem.le_refl _) ?_ | refine ob (Mem.le_refl _) ?_ | refine ⟨_, Mem.le_refl _, ?_⟩ | fail)
  refine srcv (hsub3.le hN.le) ?_
  (conv => whnf); refine appN M _ hN (by first | omega | (dsimp only; omega)) (by simp [maxLen] <;> omega) (bytes_one _) fun a1 c1 M1 hN1 => ?_
  repeat' ((conv => whnf); first | refine ob rfl ?_ | refine grow_same hN1.le ?_ | refine ob hN1.le ?_ | refine ⟨?_, True.intro⟩ | fail)
  repeat' ((conv => whnf); first | refine ⟨?_, True.intro⟩ | refine brn_t rfl ?_ | refine brn_f rfl ?_ | refine ob rfl ?_ | refine ob (by decide) ?_ | refine grow_same (Mem.le_refl _) ?_ | refine ob (Mem.le_refl _) ?_ | refine ⟨_, Mem.le_refl _, ?_⟩ | fail)
  refine ⟨a1, n - 6, c1, ?_, hN1.le, ?_, by omega⟩
  · rw [getMsg, e0, if_pos rfl]
    have hz : 0 + ((n : Int).toNat - Int.toNat 6) = n - 6 := by
      have : Int.toNat 6 = 6 := rfl
      omega
    rw [← hz]
  · rw [getMsg, e0, if_pos rfl]
    have hz : 0 + ((n : Int).toNat - Int.toNat 6) = n - 6 := by
      have : Int.toNat 6 = 6 := rfl
      omega
    rw [hz] at hN1
    simpa using hN1.src
theorem sameEvR_ok (x y : EvX) {a b : Option Addr} {c d : Nat} (hx : SrcOk M 1 a x.p.length (x.p.map byteV)) (hy : SrcOk M 1 b y.p.length (y.p.map byteV)) :
    CallsM Try.prog F.ref15_SameEv [evV x.kind x.id a x.p.length c, evV y.kind y.id b y.p.length d] M fun v M' => v = .bool (decide (x.kind = y.kind ∧ x.id = y.id ∧ x.p = y.p)) ∧ M = M' := by
  refine fo_ref15_SameEv (by simp) ?_
  (conv => whnf); refine brn (fun g => ?_) (fun g => ?_)
  · have g1 : x.kind = y.kind := of_decide_eq_true g
    repeat' ((conv => whnf); first | refine ⟨?_, True.intro⟩ | refine brn_t rfl ?_ | refine brn_f rfl ?_ | refine ob rfl ?_ | refine ob (by decide) ?_ | refine grow_same (Mem.le_refl _) ?_ | refine ob (Mem.le_refl _) ?_ | refine ⟨_, Mem.le_refl _, ?_⟩ | fail)
    refine (sameMsgR_ok _ _ _ _ _ _ _ _ _ _ _ _ _ _ _ _ _ hx hy).mono ?_
    rintro v _ ⟨rfl, rfl⟩
    repeat' ((conv => whnf); first | refine ⟨?_, True.intro⟩ | refine brn_t rfl ?_ | refine brn_f rfl ?_ | refine ob rfl ?_ | refine ob (by decide) ?_ | refine grow_same (Mem.le_refl _) ?_ | refine ob (Mem.le_refl _) ?_ | refine ⟨_, Mem.le_refl _, ?_⟩ | fail)
    refine ⟨?_, rfl⟩
    congr 1
    obtain ⟨k, ⟨i1, i2, i3, i4⟩, p⟩ := x
    obtain ⟨k', ⟨j1, j2, j3, j4⟩, p'⟩ := y
    dsimp only at g1
    subst g1
    simp [and_assoc]
  · have g1 : ¬ x.kind = y.kind := of_decide_eq_false g
    repeat' ((conv => whnf); first | refine ⟨?_, True.intro⟩ | refine brn_t rfl ?_ | refine brn_f rfl ?_ | refine ob rfl ?_ | refine ob (by decide) ?_ | refine grow_same (Mem.le_refl _) ?_ | refine ob (Mem.le_refl _) ?_ | refine ⟨_, Mem.le_refl _, ?_⟩ | fail)
    exact ⟨by simp [g1], rfl⟩
theorem getEv_ok {a : Option Addr} {n c : Nat} {l : List UInt8} (hs : SrcOk M 1 a n (l.map byteV)) (hn : n ≤ 4194304) (hc : n ≤ c) : CallsM Try.prog F.store_GetEv [.slice a n c] M (GetOut l M) := by
  refine fo_store_GetEv (by simp) ?_
  have hl := hs.maplen
  repeat' ((conv => whnf); first | refine ⟨?_, True.intro⟩ | refine brn_t rfl ?_ | refine brn_f rfl ?_ | refine ob rfl ?_ | refine ob (by decide) ?_ | refine grow_same (Mem.le_refl _) ?_ | refine ob (Mem.le_refl _) ?_ | refine ⟨_, Mem.le_refl _, ?_⟩ | fail)
  refine brn (fun g => ?_) (fun g => ?_)
  · have hn0 : l = [] := List.eq_nil_of_length_eq_zero (by have := of_decide_eq_true g; omega)
    subst hn0
    repeat' ((conv => whnf); first | refine ⟨?_, True.intro⟩ | refine brn_t rfl ?_ | refine brn_f rfl ?_ | refine ob rfl ?_ | refine ob (by decide) ?_ | refine grow_same (Mem.le_refl _) ?_ | refine ob (Mem.le_refl _) ?_ | refine ⟨_, Mem.le_refl _, ?_⟩ | fail)
    exact .inl ⟨rfl, rfl, Mem.le_refl _⟩
  have hn1 : 0 < n := by have := of_decide_eq_false g; omega
  obtain ⟨b, r, rfl⟩ : ∃ b r, l = b :: r := by
    cases l with
    | nil => simp at hl; omega
    | cons b r => exact ⟨b, r, rfl⟩
  obtain ⟨h0, bb, o, ha, hrow⟩ := hs.at (i := 0) hn1
  replace hrow : M.row bb (o + 0 * 1) 1 = some [byteV b] := hrow
  have hrl : r.length = n - 1 := by simp at hl; omega
  have hsub : SrcOk M 1 (subA a 1 c 1) (n - 1) (r.map byteV) := by
    have := hs.subm (lo := 1) (hi := n) (by omega) (by omega) hc
    rw [List.drop_succ_cons, List.drop_zero, List.take_of_length_le (by omega)] at this
    exact this
  have hb := UInt8.toNat_lt b
  have hw : IntKind.i64.wrap (b.toNat : Int) = b.toNat := wrap_i64 (by omega)
  (conv => whnf); refine ob (by omega) ?_
  (conv => whnf); refine atp ha ?_
  (conv => whnf); refine on hrow ?_
  (conv => whnf)
  rw [hw]
  refine brn (fun g1 => ?_) (fun g1 => ?_)
  · have k1 : b.toNat = 1 := by have := of_decide_eq_true g1; omega
    (conv => whnf); refine brn (fun g2 => ?_) (fun g2 => ?_)
    · have hp : parseEv (b :: r) = none := by
        rw [parseEv_cons, if_pos k1, if_neg]
        intro e; subst e
        have := of_decide_eq_true g2
        simp at hrl; omega
      (conv => whnf)
      repeat' ((conv => whnf); first | refine ⟨?_, True.intro⟩ | refine brn_t rfl ?_ | refine brn_f rfl ?_ | refine ob rfl ?_ | refine ob (by decide) ?_ | refine grow_same (Mem.le_refl _) ?_ | refine ob (Mem.le_refl _) ?_ | refine ⟨_, Mem.le_refl _, ?_⟩ | fail)
      exact .inl ⟨hp, rfl, by first | exact Mem.le_refl _ | exact hle⟩
    · have hr : r = [] := List.eq_nil_of_length_eq_zero (by have := of_decide_eq_false g2; omega)
      have hp : parseEv (b :: r) = some ⟨1, zeroI, []⟩ := by rw [parseEv_cons, if_pos k1, if_pos hr]
      rw [k1]
      repeat' ((conv => whnf); first | refine ⟨?_, True.intro⟩ | refine brn_t rfl ?_ | refine brn_f rfl ?_ | refine ob rfl ?_ | refine ob (by decide) ?_ | refine grow_same (Mem.le_refl _) ?_ | refine ob (Mem.le_refl _) ?_ | refine ⟨_, Mem.le_refl _, ?_⟩ | fail)
      exact .inr ⟨_, none, 0, hp, rfl, Mem.le_refl _, SrcOk.nil _ _, by simp⟩
  have k1 : ¬ b.toNat = 1 := by have := of_decide_eq_false g1; omega
  (conv => whnf); refine brn (fun g2 => ?_) (fun g2 => ?_)
  · have k2 : b.toNat = 2 := by have := of_decide_eq_true g2; omega
    repeat' ((conv => whnf); first | refine ⟨?_, True.intro⟩ | refine brn_t rfl ?_ | refine brn_f rfl ?_ | refine ob rfl ?_ | refine ob (by decide) ?_ | refine grow_same (Mem.le_refl _) ?_ | refine ob (Mem.le_refl _) ?_ | refine ⟨_, Mem.le_refl _, ?_⟩ | fail)
    refine ob (by omega) ?_
    repeat' ((conv => whnf); first | refine ⟨?_, True.intro⟩ | refine brn_t rfl ?_ | refine brn_f rfl ?_ | refine ob rfl ?_ | refine ob (by decide) ?_ | refine grow_same (Mem.le_refl _) ?_ | refine ob (Mem.le_refl _) ?_ | refine ⟨_, Mem.le_refl _, ?_⟩ | fail)
    refine (getMsg_ok _ _ _ _ r hsub (by omega) (by omega)).mono ?_
    rintro v M1 ⟨p, m, k, rfl, hle, hps, hm, -⟩
    (conv => whnf); refine brn (fun g3 => ?_) (fun g3 => ?_)
    · have e : ¬ getMsgErr r = 0 := by simpa using g3
      have hp : parseEv (b :: r) = none := by rw [parseEv_cons, if_neg k1, if_pos k2, if_neg e]
      (conv => whnf)
      repeat' ((conv => whnf); first | refine ⟨?_, True.intro⟩ | refine brn_t rfl ?_ | refine brn_f rfl ?_ | refine ob rfl ?_ | refine ob (by decide) ?_ | refine grow_same (Mem.le_refl _) ?_ | refine ob (Mem.le_refl _) ?_ | refine ⟨_, Mem.le_refl _, ?_⟩ | fail)
      exact .inl ⟨hp, rfl, by first | exact Mem.le_refl _ | exact hle⟩
    · have e : getMsgErr r = 0 := by simpa using g3
      have hp : parseEv (b :: r) = some ⟨2, (getMsg r).id, (getMsg r).p⟩ := by rw [parseEv_cons, if_neg k1, if_pos k2, if_pos e]
      obtain rfl := hps.maplen
      rw [k2]
      repeat' ((conv => whnf); first | refine ⟨?_, True.intro⟩ | refine brn_t rfl ?_ | refine brn_f rfl ?_ | refine ob rfl ?_ | refine ob (by decide) ?_ | refine grow_same (Mem.le_refl _) ?_ | refine ob (Mem.le_refl _) ?_ | refine ⟨_, Mem.le_refl _, ?_⟩ | fail)
      exact .inr ⟨_, p, k, hp, rfl, hle, hps, hm⟩
  have k2 : ¬ b.toNat = 2 := by have := of_decide_eq_false g2; omega
  (conv => whnf); refine brn (fun g3 => ?_) (fun g3 => ?_)
  · have k3 : b.toNat = 3 ∨ b.toNat = 4 := by have := of_decide_eq_true g3; omega
    (conv => whnf); refine brn_t g3 ?_
    repeat' ((conv => whnf); first | refine ⟨?_, True.intro⟩ | refine brn_t rfl ?_ | refine brn_f rfl ?_ | refine ob rfl ?_ | refine ob (by decide) ?_ | refine grow_same (Mem.le_refl _) ?_ | refine ob (Mem.le_refl _) ?_ | refine ⟨_, Mem.le_refl _, ?_⟩ | fail)
    refine ob (by omega) ?_
    repeat' ((conv => whnf); first | refine ⟨?_, True.intro⟩ | refine brn_t rfl ?_ | refine brn_f rfl ?_ | refine ob rfl ?_ | refine ob (by decide) ?_ | refine grow_same (Mem.le_refl _) ?_ | refine ob (Mem.le_refl _) ?_ | refine ⟨_, Mem.le_refl _, ?_⟩ | fail)
    refine (getId_ok _ _ _ _ r hsub (by omega) (by omega)).mono ?_
    rintro v _ ⟨rfl, rfl⟩
    (conv => whnf); refine brn (fun g5 => ?_) (fun g5 => ?_)
    · have e : ¬ getIdErr r = 0 := by simpa using g5
      have hp : parseEv (b :: r) = none := by rw [parseEv_cons, if_neg k1, if_neg k2, if_pos k3, if_neg e]
      (conv => whnf)
      repeat' ((conv => whnf); first | refine ⟨?_, True.intro⟩ | refine brn_t rfl ?_ | refine brn_f rfl ?_ | refine ob rfl ?_ | refine ob (by decide) ?_ | refine grow_same (Mem.le_refl _) ?_ | refine ob (Mem.le_refl _) ?_ | refine ⟨_, Mem.le_refl _, ?_⟩ | fail)
      exact .inl ⟨hp, rfl, by first | exact Mem.le_refl _ | exact hle⟩
    · have e : getIdErr r = 0 := by simpa using g5
      have hp : parseEv (b :: r) = some ⟨b.toNat, getId r, []⟩ := by rw [parseEv_cons, if_neg k1, if_neg k2, if_pos k3, if_pos e]
      repeat' ((conv => whnf); first | refine ⟨?_, True.intro⟩ | refine brn_t rfl ?_ | refine brn_f rfl ?_ | refine ob rfl ?_ | refine ob (by decide) ?_ | refine grow_same (Mem.le_refl _) ?_ | refine ob (Mem.le_refl _) ?_ | refine ⟨_, Mem.le_refl _, ?_⟩ | fail)
      exact .inr ⟨_, none, 0, hp, rfl, Mem.le_refl _, SrcOk.nil _ _, by simp⟩
  (conv => whnf); refine brn (fun g4 => ?_) (fun g4 => ?_)
  · have k3 : b.toNat = 3 ∨ b.toNat = 4 := by have := of_decide_eq_true g4; omega
    repeat' ((conv => whnf); first | refine ⟨?_, True.intro⟩ | refine brn_t rfl ?_ | refine brn_f rfl ?_ | refine ob rfl ?_ | refine ob (by decide) ?_ | refine grow_same (Mem.le_refl _) ?_ | refine ob (Mem.le_refl _) ?_ | refine ⟨_, Mem.le_refl _, ?_⟩ | fail)
    refine ob (by omega) ?_
    repeat' ((conv => whnf); first | refine ⟨?_, True.intro⟩ | refine brn_t rfl ?_ | refine brn_f rfl ?_ | refine ob rfl ?_ | refine ob (by decide) ?_ | refine grow_same (Mem.le_refl _) ?_ | refine ob (Mem.le_refl _) ?_ | refine ⟨_, Mem.le_refl _, ?_⟩ | fail)
    refine (getId_ok _ _ _ _ r hsub (by omega) (by omega)).mono ?_
    rintro v _ ⟨rfl, rfl⟩
    (conv => whnf); refine brn (fun g5 => ?_) (fun g5 => ?_)
    · have e : ¬ getIdErr r = 0 := by simpa using g5
      have hp : parseEv (b :: r) = none := by rw [parseEv_cons, if_neg k1, if_neg k2, if_pos k3, if_neg e]
      (conv => whnf)
      repeat' ((conv => whnf); first | refine ⟨?_, True.intro⟩ | refine brn_t rfl ?_ | refine brn_f rfl ?_ | refine ob rfl ?_ | refine ob (by decide) ?_ | refine grow_same (Mem.le_refl _) ?_ | refine ob (Mem.le_refl _) ?_ | refine ⟨_, Mem.le_refl _, ?_⟩ | fail)
      exact .inl ⟨hp, rfl, by first | exact Mem.le_refl _ | exact hle⟩
    · have e : getIdErr r = 0 := by simpa using g5
      have hp : parseEv (b :: r) = some ⟨b.toNat, getId r, []⟩ := by rw [parseEv_cons, if_neg k1, if_neg k2, if_pos k3, if_pos e]
      repeat' ((conv => whnf); first | refine ⟨?_, True.intro⟩ | refine brn_t rfl ?_ | refine brn_f rfl ?_ | refine ob rfl ?_ | refine ob (by decide) ?_ | refine grow_same (Mem.le_refl _) ?_ | refine ob (Mem.le_refl _) ?_ | refine ⟨_, Mem.le_refl _, ?_⟩ | fail)
      exact .inr ⟨_, none, 0, hp, rfl, Mem.le_refl _, SrcOk.nil _ _, by simp⟩
  · have k3 : ¬ (b.toNat = 3 ∨ b.toNat = 4) := by have := of_decide_eq_false g3; have := of_decide_eq_false g4; omega
    have hp : parseEv (b :: r) = none := by rw [parseEv_cons, if_neg k1, if_neg k2, if_neg k3]
    (conv => whnf)
    repeat' ((conv => whnf); first | refine ⟨?_, True.intro⟩ | refine brn_t rfl ?_ | refine brn_f rfl ?_ | refine ob rfl ?_ | refine ob (by decide) ?_ | refine grow_same (Mem.le_refl _) ?_ | refine ob (Mem.le_refl _) ?_ | refine ⟨_, Mem.le_refl _, ?_⟩ | fail)
    exact .inl ⟨hp, rfl, by first | exact Mem.le_refl _ | exact hle⟩
theorem getEvR_ok {a : Option Addr} {n c : Nat} {l : List UInt8} (hs : SrcOk M 1 a n (l.map byteV)) (hn : n ≤ 4194304) (hc : n ≤ c) : CallsM Try.prog F.ref15_GetEv [.slice a n c] M (GetOut l M) := by
  refine fo_ref15_GetEv (by simp) ?_
  have hl := hs.maplen
  repeat' ((conv => whnf); first | refine ⟨?_, True.intro⟩ | refine brn_t rfl ?_ | refine brn_f rfl ?_ | refine ob rfl ?_ | refine ob (by decide) ?_ | refine grow_same (Mem.le_refl _) ?_ | refine ob (Mem.le_refl _) ?_ | refine ⟨_, Mem.le_refl _, ?_⟩ | fail)
  refine brn (fun g => ?_) (fun g => ?_)
  · have hn0 : l = [] := List.eq_nil_of_length_eq_zero (by have := of_decide_eq_true g; omega)
    subst hn0
    repeat' ((conv => whnf); first | refine ⟨?_, True.intro⟩ | refine brn_t rfl ?_ | refine brn_f rfl ?_ | refine ob rfl ?_ | refine ob (by decide) ?_ | refine grow_same (Mem.le_refl _) ?_ | refine ob (Mem.le_refl _) ?_ | refine ⟨_, Mem.le_refl _, ?_⟩ | fail)
    exact .inl ⟨rfl, rfl, Mem.le_refl _⟩
  have hn1 : 0 < n := by have := of_decide_eq_false g; omega
  obtain ⟨b, r, rfl⟩ : ∃ b r, l = b :: r := by
    cases l with
    | nil => simp at hl; omega
    | cons b r => exact ⟨b, r, rfl⟩
  obtain ⟨h0, bb, o, ha, hrow⟩ := hs.at (i := 0) hn1
  replace hrow : M.row bb (o + 0 * 1) 1 = some [byteV b] := hrow
  have hrl : r.length = n - 1 := by simp at hl; omega
  have hsub : SrcOk M 1 (subA a 1 c 1) (n - 1) (r.map byteV) := by
    have := hs.subm (lo := 1) (hi := n) (by omega) (by omega) hc
    rw [List.drop_succ_cons, List.drop_zero, List.take_of_length_le (by omega)] at this
    exact this
  have hb := UInt8.toNat_lt b
  have hw : IntKind.i64.wrap (b.toNat : Int) = b.toNat := wrap_i64 (by omega)
  (conv => whnf); refine ob (by omega) ?_
  (conv => whnf); refine atp ha ?_
  (conv => whnf); refine on hrow ?_
  (conv => whnf)
  rw [hw]
  have hgp := guess_parse b r
  refine brn (fun g2 => ?_) (fun g2 => ?_)
  · have k2 : b.toNat = 2 := by have := of_decide_eq_true g2; omega
    have hx : (⟨(b.toNat : Int), (getMsg r).id, (getMsg r).p⟩ : EvX) = guessEv (b :: r) := by rw [guessEv_cons, if_pos k2, k2]; rfl
    repeat' ((conv => whnf); first | refine ⟨?_, True.intro⟩ | refine brn_t rfl ?_ | refine brn_f rfl ?_ | refine ob rfl ?_ | refine ob (by decide) ?_ | refine grow_same (Mem.le_refl _) ?_ | refine ob (Mem.le_refl _) ?_ | refine ⟨_, Mem.le_refl _, ?_⟩ | fail)
    refine ob (by omega) ?_
    repeat' ((conv => whnf); first | refine ⟨?_, True.intro⟩ | refine brn_t rfl ?_ | refine brn_f rfl ?_ | refine ob rfl ?_ | refine ob (by decide) ?_ | refine grow_same (Mem.le_refl _) ?_ | refine ob (Mem.le_refl _) ?_ | refine ⟨_, Mem.le_refl _, ?_⟩ | fail)
    refine (getMsgR_ok _ _ _ _ r hsub (by omega) (by omega)).mono ?_
    rintro v M1 ⟨p, m, k, rfl, hle, hps, hm⟩
    obtain rfl := hps.maplen
    have hxs := hps
    have hxl := hm
    repeat' ((conv => whnf); first | refine ⟨?_, True.intro⟩ | refine brn_t rfl ?_ | refine brn_f rfl ?_ | refine ob rfl ?_ | refine ob (by decide) ?_ | refine grow_same (Mem.le_refl _) ?_ | refine ob (Mem.le_refl _) ?_ | refine ⟨_, Mem.le_refl _, ?_⟩ | fail)
    refine (putEvR_ok (⟨(b.toNat : Int), (getMsg r).id, (getMsg r).p⟩ : EvX) hps).mono ?_
    rintro v M2 ⟨a3, c3, rfl, hN3⟩
    rw [← hx] at hgp
    (conv => whnf); refine brn (fun g5 => ?_) (fun g5 => ?_)
    · have e : evErr (⟨(b.toNat : Int), (getMsg r).id, (getMsg r).p⟩ : EvX) ≠ 0 := by simpa using g5
      rw [if_pos (.inl e)] at hgp
      repeat' ((conv => whnf); first | refine ⟨?_, True.intro⟩ | refine brn_t rfl ?_ | refine brn_f rfl ?_ | refine ob rfl ?_ | refine ob (by decide) ?_ | refine grow_same (Mem.le_refl _) ?_ | refine ob (Mem.le_refl _) ?_ | refine ⟨_, Mem.le_refl _, ?_⟩ | fail)
      exact .inl ⟨hgp, rfl, Mem.le_trans hle hN3.le⟩
    have e : evErr (⟨(b.toNat : Int), (getMsg r).id, (getMsg r).p⟩ : EvX) = 0 := by simpa using g5
    repeat' ((conv => whnf); first | refine ⟨?_, True.intro⟩ | refine brn_t rfl ?_ | refine brn_f rfl ?_ | refine ob rfl ?_ | refine ob (by decide) ?_ | refine grow_same (Mem.le_refl _) ?_ | refine ob (Mem.le_refl _) ?_ | refine ⟨_, Mem.le_refl _, ?_⟩ | fail)
    refine strv hN3.src ?_
    repeat' ((conv => whnf); first | refine ⟨?_, True.intro⟩ | refine brn_t rfl ?_ | refine brn_f rfl ?_ | refine ob rfl ?_ | refine ob (by decide) ?_ | refine grow_same (Mem.le_refl _) ?_ | refine ob (Mem.le_refl _) ?_ | refine ⟨_, Mem.le_refl _, ?_⟩ | fail)
    refine strv (hs.le (Mem.le_trans hle hN3.le)) ?_
    (conv => whnf); refine brn (fun g6 => ?_) (fun g6 => ?_)
    · have e2 : putEvD (⟨(b.toNat : Int), (getMsg r).id, (getMsg r).p⟩ : EvX) ≠ b :: r := by
        intro e3
        rw [e3] at g6
        simp at g6
      rw [if_pos (.inr e2)] at hgp
      repeat' ((conv => whnf); first | refine ⟨?_, True.intro⟩ | refine brn_t rfl ?_ | refine brn_f rfl ?_ | refine ob rfl ?_ | refine ob (by decide) ?_ | refine grow_same (Mem.le_refl _) ?_ | refine ob (Mem.le_refl _) ?_ | refine ⟨_, Mem.le_refl _, ?_⟩ | fail)
      exact .inl ⟨hgp, rfl, Mem.le_trans hle hN3.le⟩
    have e2 : putEvD (⟨(b.toNat : Int), (getMsg r).id, (getMsg r).p⟩ : EvX) = b :: r := by simpa using g6
    rw [if_neg (by simp [e, e2])] at hgp
    repeat' ((conv => whnf); first | refine ⟨?_, True.intro⟩ | refine brn_t rfl ?_ | refine brn_f rfl ?_ | refine ob rfl ?_ | refine ob (by decide) ?_ | refine grow_same (Mem.le_refl _) ?_ | refine ob (Mem.le_refl _) ?_ | refine ⟨_, Mem.le_refl _, ?_⟩ | fail)
    exact .inr ⟨_, _, _, hgp, rfl, Mem.le_trans hle hN3.le, hxs.le hN3.le, hxl⟩
  have k2 : ¬ b.toNat = 2 := by have := of_decide_eq_false g2; omega
  have hx : (⟨(b.toNat : Int), getId r, []⟩ : EvX) = guessEv (b :: r) := by rw [guessEv_cons, if_neg k2]
  repeat' ((conv => whnf); first | refine ⟨?_, True.intro⟩ | refine brn_t rfl ?_ | refine brn_f rfl ?_ | refine ob rfl ?_ | refine ob (by decide) ?_ | refine grow_same (Mem.le_refl _) ?_ | refine ob (Mem.le_refl _) ?_ | refine ⟨_, Mem.le_refl _, ?_⟩ | fail)
  refine ob (by omega) ?_
  repeat' ((conv => whnf); first | refine ⟨?_, True.intro⟩ | refine brn_t rfl ?_ | refine brn_f rfl ?_ | refine ob rfl ?_ | refine ob (by decide) ?_ | refine grow_same (Mem.le_refl _) ?_ | refine ob (Mem.le_refl _) ?_ | refine ⟨_, Mem.le_refl _, ?_⟩ | fail)
  refine (getIdR_ok _ _ _ _ r hsub (by omega) (by omega)).mono ?_
  rintro v _ ⟨rfl, rfl⟩
  have hle := Mem.le_refl M
  have hxs : SrcOk M 1 none 0 (([] : List UInt8).map byteV) := SrcOk.nil _ _
  have hxl : ([] : List UInt8).length ≤ 4194304 := by simp
  repeat' ((conv => whnf); first | refine ⟨?_, True.intro⟩ | refine brn_t rfl ?_ | refine brn_f rfl ?_ | refine ob rfl ?_ | refine ob (by decide) ?_ | refine grow_same (Mem.le_refl _) ?_ | refine ob (Mem.le_refl _) ?_ | refine ⟨_, Mem.le_refl _, ?_⟩ | fail)
  refine (putEvR_ok (c := 0) (⟨(b.toNat : Int), getId r, []⟩ : EvX) hxs).mono ?_
  rintro v M2 ⟨a3, c3, rfl, hN3⟩
  rw [← hx] at hgp
  (conv => whnf); refine brn (fun g5 => ?_) (fun g5 => ?_)
  · have e : evErr (⟨(b.toNat : Int), getId r, []⟩ : EvX) ≠ 0 := by simpa using g5
    rw [if_pos (.inl e)] at hgp
    repeat' ((conv => whnf); first | refine ⟨?_, True.intro⟩ | refine brn_t rfl ?_ | refine brn_f rfl ?_ | refine ob rfl ?_ | refine ob (by decide) ?_ | refine grow_same (Mem.le_refl _) ?_ | refine ob (Mem.le_refl _) ?_ | refine ⟨_, Mem.le_refl _, ?_⟩ | fail)
    exact .inl ⟨hgp, rfl, Mem.le_trans hle hN3.le⟩
  have e : evErr (⟨(b.toNat : Int), getId r, []⟩ : EvX) = 0 := by simpa using g5
  repeat' ((conv => whnf); first | refine ⟨?_, True.intro⟩ | refine brn_t rfl ?_ | refine brn_f rfl ?_ | refine ob rfl ?_ | refine ob (by decide) ?_ | refine grow_same (Mem.le_refl _) ?_ | refine ob (Mem.le_refl _) ?_ | refine ⟨_, Mem.le_refl _, ?_⟩ | fail)
  refine strv hN3.src ?_
  repeat' ((conv => whnf); first | refine ⟨?_, True.intro⟩ | refine brn_t rfl ?_ | refine brn_f rfl ?_ | refine ob rfl ?_ | refine ob (by decide) ?_ | refine grow_same (Mem.le_refl _) ?_ | refine ob (Mem.le_refl _) ?_ | refine ⟨_, Mem.le_refl _, ?_⟩ | fail)
  refine strv (hs.le (Mem.le_trans hle hN3.le)) ?_
  (conv => whnf); refine brn (fun g6 => ?_) (fun g6 => ?_)
  · have e2 : putEvD (⟨(b.toNat : Int), getId r, []⟩ : EvX) ≠ b :: r := by
      intro e3
      rw [e3] at g6
      simp at g6
    rw [if_pos (.inr e2)] at hgp
    repeat' ((conv => whnf); first | refine ⟨?_, True.intro⟩ | refine brn_t rfl ?_ | refine brn_f rfl ?_ | refine ob rfl ?_ | refine ob (by decide) ?_ | refine grow_same (Mem.le_refl _) ?_ | refine ob (Mem.le_refl _) ?_ | refine ⟨_, Mem.le_refl _, ?_⟩ | fail)
    exact .inl ⟨hgp, rfl, Mem.le_trans hle hN3.le⟩
  have e2 : putEvD (⟨(b.toNat : Int), getId r, []⟩ : EvX) = b :: r := by simpa using g6
  rw [if_neg (by simp [e, e2])] at hgp
  repeat' ((conv => whnf); first | refine ⟨?_, True.intro⟩ | refine brn_t rfl ?_ | refine brn_f rfl ?_ | refine ob rfl ?_ | refine ob (by decide) ?_ | refine grow_same (Mem.le_refl _) ?_ | refine ob (Mem.le_refl _) ?_ | refine ⟨_, Mem.le_refl _, ?_⟩ | fail)
  exact .inr ⟨_, _, _, hgp, rfl, Mem.le_trans hle hN3.le, hxs.le hN3.le, hxl⟩
end Go.Proofs.Ytlocjjponfbhmaa

/- StoreEvs, as a contract. -/
namespace Go.Proofs.Ytlocjjponfbhmaa
open Go Go.Vm
attribute [local irreducible] Brn Ob Grow CallsM inR LoopVC Mem.row Mem.cells Mem.setCells Mem.upd Own AppVC SrcVC StrVC NextVC New SrcOk subA NewSl Mem.textAt Mem.mapAt Mem.iterAt entryOf kfind Wr NewEls Elems
set_option maxRecDepth 10000
variable {M : Mem}
def gotEv (l : List UInt8) : EvX := (parseEv l).getD ⟨0, zeroI, []⟩
def gotErr (l : List UInt8) : Int := if parseEv l = none then 2 else 0
theorem GetOut.all {l : List UInt8} {v : Value} {M' : Mem} (h : GetOut l M v M') : ∃ a c, v = .tuple #[evV (gotEv l).kind (gotEv l).id a (gotEv l).p.length c, .int .i64 (gotErr l)] ∧ M.le M' ∧ SrcOk M' 1 a (gotEv l).p.length ((gotEv l).p.map byteV) := by
  unfold gotEv gotErr
  rcases h with ⟨h1, rfl, h2⟩ | ⟨x, a, c, h1, rfl, h2, h3, h4⟩
  · rw [h1]
    exact ⟨none, 0, rfl, h2, SrcOk.nil _ _⟩
  · rw [h1]
    exact ⟨a, c, rfl, h2, h3⟩
theorem gotErr_zero {l : List UInt8} (h : gotErr l = 0) : parseEv l = some (gotEv l) := by
  unfold gotErr at h
  unfold gotEv
  cases e : parseEv l with
  | none => rw [e] at h; simp at h
  | some x => rfl
theorem putEvD_len (x : EvX) : (putEvD x).length ≤ 60 := by
  unfold putEvD
  split
  · rename_i h
    unfold evBytes
    rw [List.length_cons]
    split
    · simp
    · split
      · rename_i hk
        have := (evErr_two h hk).2.2
        rw [List.length_append, idBytes_len]; omega
      · rw [idBytes_len]; omega
  · simp
theorem back {x : EvX} (h : evErr x = 0) : gotEv (putEvD x) = x ∧ gotErr (putEvD x) = 0 := by
  have e : putEvD x = evBytes x := by unfold putEvD; rw [if_pos h]
  have := parse_bytes h
  unfold gotEv gotErr
  rw [e, this]
  exact ⟨rfl, rfl⟩
theorem forth {l : List UInt8} (h : gotErr l = 0) : evErr (gotEv l) = 0 ∧ putEvD (gotEv l) = l := by
  obtain ⟨h1, h2⟩ := bytes_parse (gotErr_zero h)
  exact ⟨h1, by unfold putEvD; rw [if_pos h1, h2]⟩
theorem evs_law (x : EvX) {a : Option Addr} {c : Nat} (hx : SrcOk M 1 a x.p.length (x.p.map byteV)) {pa : Option Addr} {n pc : Nat} {l : List UInt8} (hl : SrcOk M 1 pa n (l.map byteV)) (hn : n ≤ 1048576) (hc : n ≤ pc) :
    CallsM Try.prog F.law15_StoreEvs [evV x.kind x.id a x.p.length c, .slice pa n pc] M fun v M' => v = .bool true ∧ M.le M' := by
  refine fo_law15_StoreEvs (by simp) ?_
  repeat' ((conv => whnf); first | refine ⟨?_, True.intro⟩ | refine brn_t rfl ?_ | refine brn_f rfl ?_ | refine ob rfl ?_ | refine ob (by decide) ?_ | refine grow_same (Mem.le_refl _) ?_ | refine ob (Mem.le_refl _) ?_ | refine ⟨_, Mem.le_refl _, ?_⟩ | fail)
  refine (putEv_ok x hx).mono ?_
  rintro v M1 ⟨a1, c1, rfl, hN1⟩
  repeat' ((conv => whnf); first | refine ⟨?_, True.intro⟩ | refine brn_t rfl ?_ | refine brn_f rfl ?_ | refine ob rfl ?_ | refine ob (by decide) ?_ | refine grow_same (Mem.le_refl _) ?_ | refine ob (Mem.le_refl _) ?_ | refine ⟨_, Mem.le_refl _, ?_⟩ | fail)
  refine (putEvR_ok x (hx.le hN1.le)).mono ?_
  rintro v M2 ⟨a2, c2, rfl, hN2⟩
  have hle2 := Mem.le_trans hN1.le hN2.le
  repeat' ((conv => whnf); first | refine ⟨?_, True.intro⟩ | refine brn_t rfl ?_ | refine brn_f rfl ?_ | refine ob rfl ?_ | refine ob (by decide) ?_ | refine grow_same (Mem.le_refl _) ?_ | refine ob (Mem.le_refl _) ?_ | refine ⟨_, Mem.le_refl _, ?_⟩ | fail)
  refine (getEv_ok (hl.le hle2) (by omega) hc).mono ?_
  intro v M3 hv3
  obtain ⟨a3, c3, rfl, hle3, hs3⟩ := hv3.all
  have hle3' := Mem.le_trans hle2 hle3
  repeat' ((conv => whnf); first | refine ⟨?_, True.intro⟩ | refine brn_t rfl ?_ | refine brn_f rfl ?_ | refine ob rfl ?_ | refine ob (by decide) ?_ | refine grow_same (Mem.le_refl _) ?_ | refine ob (Mem.le_refl _) ?_ | refine ⟨_, Mem.le_refl _, ?_⟩ | fail)
  refine (getEvR_ok (hl.le hle3') (by omega) hc).mono ?_
  intro v M4 hv4
  obtain ⟨a4, c4, rfl, hle4, hs4⟩ := hv4.all
  have hle4' := Mem.le_trans hle3' hle4
  repeat' ((conv => whnf); first | refine ⟨?_, True.intro⟩ | refine brn_t rfl ?_ | refine brn_f rfl ?_ | refine ob rfl ?_ | refine ob (by decide) ?_ | refine grow_same (Mem.le_refl _) ?_ | refine ob (Mem.le_refl _) ?_ | refine ⟨_, Mem.le_refl _, ?_⟩ | fail)
  refine strv (hN1.src.le (Mem.le_trans hN2.le (Mem.le_trans hle3 hle4))) ?_
  repeat' ((conv => whnf); first | refine ⟨?_, True.intro⟩ | refine brn_t rfl ?_ | refine brn_f rfl ?_ | refine ob rfl ?_ | refine ob (by decide) ?_ | refine grow_same (Mem.le_refl _) ?_ | refine ob (Mem.le_refl _) ?_ | refine ⟨_, Mem.le_refl _, ?_⟩ | fail)
  refine strv (hN2.src.le (Mem.le_trans hle3 hle4)) ?_
  (conv => whnf); refine brn_f (by simp) ?_
  (conv => whnf); refine brn_f (by simp) ?_
  repeat' ((conv => whnf); first | refine ⟨?_, True.intro⟩ | refine brn_t rfl ?_ | refine brn_f rfl ?_ | refine ob rfl ?_ | refine ob (by decide) ?_ | refine grow_same (Mem.le_refl _) ?_ | refine ob (Mem.le_refl _) ?_ | refine ⟨_, Mem.le_refl _, ?_⟩ | fail)
  refine (sameEvR_ok (gotEv l) (gotEv l) (hs3.le hle4) hs4).mono ?_
  rintro v _ ⟨rfl, rfl⟩
  (conv => whnf); refine brn_f (by simp) ?_
  (conv => whnf); refine brn_f (by simp) ?_
  have h1 : SrcOk M4 1 a1 (putEvD x).length ((putEvD x).map byteV) := hN1.src.le (Mem.le_trans hN2.le (Mem.le_trans hle3 hle4))
  have hcap : (putEvD x).length ≤ c1 := (newSl_iff.1 hN1).2.2.1
  (conv => whnf); refine brn (fun g1 => ?_) (fun g1 => ?_)
  · have e1 : evErr x = 0 := by simpa using g1
    obtain ⟨b1, b2⟩ := back e1
    repeat' ((conv => whnf); first | refine ⟨?_, True.intro⟩ | refine brn_t rfl ?_ | refine brn_f rfl ?_ | refine ob rfl ?_ | refine ob (by decide) ?_ | refine grow_same (Mem.le_refl _) ?_ | refine ob (Mem.le_refl _) ?_ | refine ⟨_, Mem.le_refl _, ?_⟩ | fail)
    refine (getEv_ok h1 (by have := putEvD_len x; omega) hcap).mono ?_
    intro v M5 hv5
    obtain ⟨a5, c5, rfl, hle5, hs5⟩ := hv5.all
    rw [b1] at hs5 ⊢
    rw [b2]
    repeat' ((conv => whnf); first | refine ⟨?_, True.intro⟩ | refine brn_t rfl ?_ | refine brn_f rfl ?_ | refine ob rfl ?_ | refine ob (by decide) ?_ | refine grow_same (Mem.le_refl _) ?_ | refine ob (Mem.le_refl _) ?_ | refine ⟨_, Mem.le_refl _, ?_⟩ | fail)
    refine (sameEvR_ok x x hs5 (hx.le (Mem.le_trans hle4' hle5))).mono ?_
    rintro v _ ⟨rfl, rfl⟩
    (conv => whnf); refine brn_f (by simp) ?_
    (conv => whnf)
    (conv => whnf); refine brn (fun g3 => ?_) (fun g3 => ?_)
    · have e3 : gotErr l = 0 := by simpa using g3
      obtain ⟨f1, f2⟩ := forth e3
      repeat' ((conv => whnf); first | refine ⟨?_, True.intro⟩ | refine brn_t rfl ?_ | refine brn_f rfl ?_ | refine ob rfl ?_ | refine ob (by decide) ?_ | refine grow_same (Mem.le_refl _) ?_ | refine ob (Mem.le_refl _) ?_ | refine ⟨_, Mem.le_refl _, ?_⟩ | fail)
      refine (putEv_ok (gotEv l) ((hs3.le hle4).le hle5)).mono ?_
      rintro v M6 ⟨a6, c6, rfl, hN6⟩
      have hle6 := hN6.le
      (conv => whnf); refine brn_f (by rw [f1]; rfl) ?_
      repeat' ((conv => whnf); first | refine ⟨?_, True.intro⟩ | refine brn_t rfl ?_ | refine brn_f rfl ?_ | refine ob rfl ?_ | refine ob (by decide) ?_ | refine grow_same (Mem.le_refl _) ?_ | refine ob (Mem.le_refl _) ?_ | refine ⟨_, Mem.le_refl _, ?_⟩ | fail)
      refine strv hN6.src ?_
      repeat' ((conv => whnf); first | refine ⟨?_, True.intro⟩ | refine brn_t rfl ?_ | refine brn_f rfl ?_ | refine ob rfl ?_ | refine ob (by decide) ?_ | refine grow_same (Mem.le_refl _) ?_ | refine ob (Mem.le_refl _) ?_ | refine ⟨_, Mem.le_refl _, ?_⟩ | fail)
      refine strv (hl.le (Mem.le_trans hle4' (Mem.le_trans hle5 hle6))) ?_
      (conv => whnf); refine brn_f (by rw [f2]; simp) ?_
      repeat' ((conv => whnf); first | refine ⟨?_, True.intro⟩ | refine brn_t rfl ?_ | refine brn_f rfl ?_ | refine ob rfl ?_ | refine ob (by decide) ?_ | refine grow_same (Mem.le_refl _) ?_ | refine ob (Mem.le_refl _) ?_ | refine ⟨_, Mem.le_refl _, ?_⟩ | fail)
      refine awake_ok.mono ?_
      rintro v M8 ⟨rfl, hle8⟩
      repeat' ((conv => whnf); first | refine ⟨?_, True.intro⟩ | refine brn_t rfl ?_ | refine brn_f rfl ?_ | refine ob rfl ?_ | refine ob (by decide) ?_ | refine grow_same (Mem.le_refl _) ?_ | refine ob (Mem.le_refl _) ?_ | refine ⟨_, Mem.le_refl _, ?_⟩ | fail)
      exact ⟨rfl, Mem.le_trans hle4' (Mem.le_trans hle5 (Mem.le_trans hle6 hle8))⟩
    · have hle6 := Mem.le_refl M5
      (conv => whnf)
      repeat' ((conv => whnf); first | refine ⟨?_, True.intro⟩ | refine brn_t rfl ?_ | refine brn_f rfl ?_ | refine ob rfl ?_ | refine ob (by decide) ?_ | refine grow_same (Mem.le_refl _) ?_ | refine ob (Mem.le_refl _) ?_ | refine ⟨_, Mem.le_refl _, ?_⟩ | fail)
      refine awake_ok.mono ?_
      rintro v M8 ⟨rfl, hle8⟩
      repeat' ((conv => whnf); first | refine ⟨?_, True.intro⟩ | refine brn_t rfl ?_ | refine brn_f rfl ?_ | refine ob rfl ?_ | refine ob (by decide) ?_ | refine grow_same (Mem.le_refl _) ?_ | refine ob (Mem.le_refl _) ?_ | refine ⟨_, Mem.le_refl _, ?_⟩ | fail)
      exact ⟨rfl, Mem.le_trans hle4' (Mem.le_trans hle5 (Mem.le_trans hle6 hle8))⟩
  · obtain ⟨M5, hM5⟩ : ∃ M5, M5 = M4 := ⟨_, rfl⟩
    subst hM5
    have hle5 := Mem.le_refl M5
    (conv => whnf)
    (conv => whnf); refine brn (fun g3 => ?_) (fun g3 => ?_)
    · have e3 : gotErr l = 0 := by simpa using g3
      obtain ⟨f1, f2⟩ := forth e3
      repeat' ((conv => whnf); first | refine ⟨?_, True.intro⟩ | refine brn_t rfl ?_ | refine brn_f rfl ?_ | refine ob rfl ?_ | refine ob (by decide) ?_ | refine grow_same (Mem.le_refl _) ?_ | refine ob (Mem.le_refl _) ?_ | refine ⟨_, Mem.le_refl _, ?_⟩ | fail)
      refine (putEv_ok (gotEv l) ((hs3.le hle4).le hle5)).mono ?_
      rintro v M6 ⟨a6, c6, rfl, hN6⟩
      have hle6 := hN6.le
      (conv => whnf); refine brn_f (by rw [f1]; rfl) ?_
      repeat' ((conv => whnf); first | refine ⟨?_, True.intro⟩ | refine brn_t rfl ?_ | refine brn_f rfl ?_ | refine ob rfl ?_ | refine ob (by decide) ?_ | refine grow_same (Mem.le_refl _) ?_ | refine ob (Mem.le_refl _) ?_ | refine ⟨_, Mem.le_refl _, ?_⟩ | fail)
      refine strv hN6.src ?_
      repeat' ((conv => whnf); first | refine ⟨?_, True.intro⟩ | refine brn_t rfl ?_ | refine brn_f rfl ?_ | refine ob rfl ?_ | refine ob (by decide) ?_ | refine grow_same (Mem.le_refl _) ?_ | refine ob (Mem.le_refl _) ?_ | refine ⟨_, Mem.le_refl _, ?_⟩ | fail)
      refine strv (hl.le (Mem.le_trans hle4' (Mem.le_trans hle5 hle6))) ?_
      (conv => whnf); refine brn_f (by rw [f2]; simp) ?_
      repeat' ((conv => whnf); first | refine ⟨?_, True.intro⟩ | refine brn_t rfl ?_ | refine brn_f rfl ?_ | refine ob rfl ?_ | refine ob (by decide) ?_ | refine grow_same (Mem.le_refl _) ?_ | refine ob (Mem.le_refl _) ?_ | refine ⟨_, Mem.le_refl _, ?_⟩ | fail)
      refine awake_ok.mono ?_
      rintro v M8 ⟨rfl, hle8⟩
      repeat' ((conv => whnf); first | refine ⟨?_, True.intro⟩ | refine brn_t rfl ?_ | refine brn_f rfl ?_ | refine ob rfl ?_ | refine ob (by decide) ?_ | refine grow_same (Mem.le_refl _) ?_ | refine ob (Mem.le_refl _) ?_ | refine ⟨_, Mem.le_refl _, ?_⟩ | fail)
      exact ⟨rfl, Mem.le_trans hle4' (Mem.le_trans hle5 (Mem.le_trans hle6 hle8))⟩
    · have hle6 := Mem.le_refl M5
      (conv => whnf)
      repeat' ((conv => whnf); first | refine ⟨?_, True.intro⟩ | refine brn_t rfl ?_ | refine brn_f rfl ?_ | refine ob rfl ?_ | refine ob (by decide) ?_ | refine grow_same (Mem.le_refl _) ?_ | refine ob (Mem.le_refl _) ?_ | refine ⟨_, Mem.le_refl _, ?_⟩ | fail)
      refine awake_ok.mono ?_
      rintro v M8 ⟨rfl, hle8⟩
      repeat' ((conv => whnf); first | refine ⟨?_, True.intro⟩ | refine brn_t rfl ?_ | refine brn_f rfl ?_ | refine ob rfl ?_ | refine ob (by decide) ?_ | refine grow_same (Mem.le_refl _) ?_ | refine ob (Mem.le_refl _) ?_ | refine ⟨_, Mem.le_refl _, ?_⟩ | fail)
      exact ⟨rfl, Mem.le_trans hle4' (Mem.le_trans hle5 (Mem.le_trans hle6 hle8))⟩
end Go.Proofs.Ytlocjjponfbhmaa

