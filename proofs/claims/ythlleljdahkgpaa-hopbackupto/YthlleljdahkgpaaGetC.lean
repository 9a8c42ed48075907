/- The word of bytes, as the program finds it. -/
import Derived.Test.YthlleljdahkgpaaGetB
namespace Go.Proofs.Ythlleljdahkgpaa
open Go Go.Vm
attribute [local irreducible] Brn Ob CallsM inR LoopVC Mem.row Mem.cells Mem.setCells Mem.upd Own AppVC SrcVC StrVC NextVC New SrcOk subA NewSl Mem.textAt Mem.mapAt Mem.iterAt entryOf kfind Wr NewEls Elems
set_option maxRecDepth 10000
structure Word where
  kind : Int
  n : Int
  id : Id
  data : List UInt8
  costs : List Int
def Word.w (x : Word) (pD : Option Addr) (kD : Nat) (pC : Option Addr) (kC : Nat) : W := ⟨x.kind, x.n, x.id.o, x.id.d, x.id.e, x.id.c, pD, x.data.length, kD, pC, x.costs.length, kC, x.data, x.costs⟩
def Word.err (x : Word) : Int := (x.w none 0 none 0).err
def Word.bytes (x : Word) : List UInt8 := (x.w none 0 none 0).bytes
def zeroW : Word := ⟨0, 0, zeroId, [], []⟩
/-- what the bytes say, if they say anything, and whether they do -/
def said (l : List UInt8) : Word × Int :=
  let k : Int := (l.getD 0 0).toNat
  if k = 4 then (⟨4, 0, zeroId, [], (l.drop 1).map fun b => (b.toNat : Int)⟩, 0)
  else if l.length < 3 then (zeroW, 2)
  else if k = 1 then (⟨1, getNum l 1 2, (getMsg (l.drop 3)).id, (getMsg (l.drop 3)).data, []⟩, getMsgErr (l.drop 3))
  else (⟨k, getNum l 1 2, getId (l.drop 3), [], []⟩, getIdErr (l.drop 3))
def parse (l : List UInt8) : Option Word := if l = [] ∨ (said l).2 ≠ 0 ∨ (said l).1.err ≠ 0 then none else some (said l).1
def GetPost (x : Option Word) (M : Mem) (v : Value) (M' : Mem) : Prop := M.le M' ∧ match x with
  | none => v = .tuple #[(zeroW.w none 0 none 0).v, .int .i64 2]
  | some x => ∃ pD kD pC kC, v = .tuple #[(x.w pD kD pC kC).v, .int .i64 0] ∧ (x.w pD kD pC kC).Ok M' ∧ ∀ q, pD = some q ∨ pC = some q → M q.block = none
theorem bitsGet_any (a : Option Addr) (n c : Nat) (M : Mem) (l : List UInt8) (hs : SrcOk M 1 a n (l.map byteV)) (hn : n ≤ 4194304) (hc : n ≤ c) (at' size : Int) :
    CallsM Try.prog F.bits_Get [.slice a n c, .int .i64 at', .int .i64 size] M fun v M' => (∃ N : Nat, v = .tuple #[.int .u64 N, .int .i64 (getErr n at' size)] ∧ (getErr n at' size = 0 → N = getNum l at' size)) ∧ M = M' := by
  by_cases he : getErr n at' size = 0
  · refine (bitsGet_ok a n c M l hs hn hc at' size he).mono ?_
    rintro v M' ⟨rfl, rfl⟩
    exact ⟨⟨_, by rw [he], fun _ => rfl⟩, rfl⟩
  · refine (bitsGet_no a n c M at' size he hn).mono ?_
    rintro v M' ⟨rfl, rfl⟩
    exact ⟨⟨0, rfl, fun h => absurd h he⟩, rfl⟩
theorem Word.werr (x : Word) (pD kD pC kC) : (x.w pD kD pC kC).err = x.err := rfl
theorem get_ok (a : Option Addr) (n c : Nat) (M : Mem) (l : List UInt8) (hs : SrcOk M 1 a n (l.map byteV)) (hn : n ≤ 2097152) (hc : n ≤ c) : CallsM Try.prog F.hop_Get [.slice a n c] M (GetPost (parse l) M) := by
  have hl := hs.maplen
  refine fo_hop_Get (by simp) ?_
  (conv => whnf); refine brn (fun h => ?_) (fun h => ?_)
  · have hnil : l = [] := by have := of_decide_eq_true h; exact List.eq_nil_of_length_eq_zero (by omega)
    have e : parse l = none := by rw [parse, if_pos (.inl hnil)]
    (conv => whnf)
    rw [e]
    exact ⟨Mem.le_refl _, rfl⟩
  have h1 : 1 ≤ n := by have := of_decide_eq_false h; omega
  have hne : l ≠ [] := by intro e; subst e; simp at hl; omega
  obtain ⟨h0, b, o, rfl, hr0⟩ := hs.at (i := 0) (by omega)
  have hk : (l.getD 0 0) = l[0] := by simp [List.getD_eq_getElem?_getD, List.getElem?_eq_getElem h0]
  have hb0 := UInt8.toNat_lt l[0]
  (conv => whnf); refine ob (by omega) ?_
  (conv => whnf); refine on hr0 ?_
  (conv => whnf)
  rw [wrap_i64 (by omega)]
  refine (bitsGet_any _ _ _ _ l hs (by omega) hc 1 2).mono ?_
  rintro v M' ⟨⟨N, rfl, hN⟩, rfl⟩
  have hge : getErr n 1 2 = if n < 3 then 2 else 0 := by
    rw [getErr, if_neg (by omega)]
    by_cases h : n < 3
    · rw [if_pos (by omega), if_pos h]
    · rw [if_neg (by omega), if_neg h]
  (conv => whnf); refine brn (fun g => ?_) (fun g => ?_)
  · have hk4 : ((l.getD 0 0).toNat : Int) = 4 := by rw [hk]; exact of_decide_eq_true g
    have hsaid : said l = (⟨4, 0, zeroId, [], (l.drop 1).map fun b => (b.toNat : Int)⟩, 0) := by rw [said]; simp only [hk4, if_true]
    have hsub := hs.subm (lo := 1) (hi := n) (by omega) (by omega) hc
    rw [List.take_of_length_le (by simp; omega)] at hsub
    have hdl : (l.drop 1).length = n - 1 := by simp; omega
    (conv => whnf); refine ob (by omega) ?_
    (conv => whnf)
    have hz : (n : Int).toNat - Int.toNat 1 = n - 1 := by have : Int.toNat 1 = 1 := rfl; omega
    rw [hz]
    refine loopF (σ := Nat × Option Addr × Nat × Mem) [41] (fun x => [(41, .int .i64 x.1)]) (fun x => [.live T.api_Hop [.v (.int .i64 0), .v (.int .i64 0), .v (.int .i64 0), .v (.int .i64 0), .v (.int .i64 0), .v (.int .i64 0), .v (.slice none 0 0), .v (.slice none 0 0)],
        .live T.api_Hop [.v (.int .i64 l[0].toNat), .v (.int .i64 0), .v (.int .i64 0), .v (.int .i64 0), .v (.int .i64 0), .v (.int .i64 0), .v (.slice none 0 0), .v (.slice x.2.1 x.1 x.2.2.1)]]) (fun x => x.2.2.2)
      (fun x => x.1 ≤ n - 1 ∧ NewSl M T.int 1 x.2.1 x.1 x.2.2.1 ((((l.drop 1).map fun b => (b.toNat : Int)).take x.1).map intV) x.2.2.2) (fun x => n - 1 - x.1) ⟨0, none, 0, M⟩ ⟨by simp, NewSl.none _ _ _⟩ ⟨(by repeat' first | exact True.intro | refine ⟨rfl, ?_⟩), (by repeat' first | exact True.intro | refine ⟨rfl, ?_⟩), Mem.le_refl _, rfl⟩ ?_
    rintro ⟨i, a1, c1, M1⟩ ⟨hi, hN1⟩
    (conv => whnf); refine brn (fun g1 => ?_) (fun g1 => ?_)
    · have hi' : i < n - 1 := by have := of_decide_eq_true g1; simp only at this hi; omega
      obtain ⟨hlt, b', o', hp, hrow⟩ := (hsub.le hN1.le).at (i := i) hi'
      have hbi := UInt8.toNat_lt (l.drop 1)[i]
      (conv => whnf); refine ob (by dsimp only; omega) ?_
      (conv => whnf); refine atp hp ?_
      (conv => whnf); refine on hrow ?_
      (conv => whnf)
      refine appN M _ hN1 (by dsimp only; omega) (by simp [maxLen]; omega) (by simp [Value.oneCell']) fun a2 c2 M2 hN2 => ?_
      rw [wrap_i64 (by omega)] at hN2
      (conv => whnf); refine ob (inR_i64 (by dsimp only; omega)) ?_
      (conv => whnf)
      refine ⟨⟨i + 1, a2, c2, M2⟩, ⟨by dsimp only; omega, ?_⟩, by show n - 1 - (i + 1) < n - 1 - i; omega, ⟨(by repeat' first | exact True.intro | refine ⟨rfl, ?_⟩), (by repeat' first | exact True.intro | refine ⟨rfl, ?_⟩), Mem.le_refl _, rfl⟩⟩
      show NewSl M T.int 1 a2 (i + 1) c2 _ M2
      rw [take_succ_map (by simpa using hlt)]
      simpa using hN2
    · have hi' : i = n - 1 := by have := of_decide_eq_false g1; simp only at this hi; omega
      subst hi'
      rw [List.take_of_length_le (by simp; omega)] at hN1
      let x : Word := ⟨l[0].toNat, 0, zeroId, [], (l.drop 1).map fun b => (b.toNat : Int)⟩
      have hxl : x.costs.length = n - 1 := by simp [x]; omega
      have hw : (x.w none 0 a1 c1).Ok M1 := ⟨SrcOk.nil _ _, by show SrcOk M1 1 a1 x.costs.length _; rw [hxl]; exact hN1.src, Nat.zero_le _, by show x.costs.length ≤ _; omega⟩
      have hx : (said l).1 = x := by rw [hsaid]; simp only [x]; rw [← hk, hk4]
      have hv : (x.w none 0 a1 c1).v = .agg #[.int .i64 l[0].toNat, .int .i64 0, .int .i64 0, .int .i64 0, .int .i64 0, .int .i64 0, .slice none 0 0, .slice a1 (n - 1) c1] := by
        show W.v _ = _
        unfold W.v Word.w
        rw [hxl]
        rfl
      have hcheck := wcheck_ok _ _ hw
      rw [hv] at hcheck
      (conv => whnf); refine brn_f rfl ?_
      (conv => whnf); refine hcheck.mono ?_
      rintro v M' ⟨rfl, rfl⟩
      (conv => whnf); refine brn (fun g2 => ?_) (fun g2 => ?_) <;> rw [Word.werr] at g2
      · have e : parse l = none := by rw [parse, if_pos (.inr (.inr (by rw [hx]; simpa using g2)))]
        (conv => whnf)
        rw [e]
        exact ⟨hN1.le, rfl⟩
      · have e : parse l = some x := by rw [parse, if_neg, hx]; rw [hsaid]; rw [hsaid] at hx; simp only at hx; rw [hx]; have : x.err = 0 := by simpa using g2
                                        simp [hne, this]
        (conv => whnf)
        rw [e]
        exact ⟨hN1.le, none, 0, a1, c1, by rw [hv], hw, fun q hq => hq.elim (fun h => by cases h) (fun h => (hN1.block h).1)⟩
  · have hk4 : ¬ ((l.getD 0 0).toNat : Int) = 4 := by rw [hk]; exact of_decide_eq_false g
    (conv => whnf); refine brn (fun g1 => ?_) (fun g1 => ?_)
    · have h3 : n < 3 := by
        have : getErr n 1 2 ≠ 0 := by simpa using g1
        rw [hge] at this
        by_cases h : n < 3
        · exact h
        · rw [if_neg h] at this; exact absurd rfl this
      have hsaid : said l = (zeroW, 2) := by rw [said]; simp only [hk4, if_false]; rw [if_pos (by omega)]
      have e : parse l = none := by rw [parse, if_pos (.inr (.inl (by rw [hsaid]; decide)))]
      (conv => whnf); refine brn_t g1 ?_
      (conv => whnf)
      rw [e]
      exact ⟨Mem.le_refl _, rfl⟩
    have h3 : ¬ n < 3 := fun h => by
      rw [hge, if_pos h] at g1; simp at g1
    have hg0 : getErr n 1 2 = 0 := by rw [hge, if_neg h3]
    have hN' := hN hg0
    subst hN'
    have hlt : getNum l 1 2 < 65536 := getNum_two_lt l 1 (by omega)
    have hsub := hs.subm (lo := 3) (hi := n) (by omega) (by omega) hc
    rw [List.take_of_length_le (by simp; omega)] at hsub
    have hdl : (l.drop 3).length = n - 3 := by simp; omega
    have hz : (n : Int).toNat - Int.toNat 3 = n - 3 := by have : Int.toNat 3 = 3 := rfl; omega
    (conv => whnf); refine brn (fun g2 => ?_) (fun g2 => ?_)
    · have hk1 : ((l.getD 0 0).toNat : Int) = 1 := by rw [hk]; exact of_decide_eq_true g2
      have hsaid : said l = (⟨1, getNum l 1 2, (getMsg (l.drop 3)).id, (getMsg (l.drop 3)).data, []⟩, getMsgErr (l.drop 3)) := by
        rw [said]; simp only [hk1]; rw [if_neg (by decide), if_neg (by omega)]; rfl
      (conv => whnf); refine ob (by omega) ?_
      (conv => whnf)
      rw [hz, wrap_i64 (by omega)]
      refine (getMsg_ok _ _ _ _ (l.drop 3) hsub (by omega) (by have : Int.toNat 3 = 3 := rfl; omega)).mono ?_
      rintro v M1 ⟨p, m, k, rfl, hle, hsrc, hm, hf1⟩
      have hfresh : ∀ q, p = some q ∨ (none : Option Addr) = some q → M q.block = none := fun q hq => hq.elim (hf1 q) (fun h => by cases h)
      have hml := hsrc.maplen
      have hm' : m ≤ 2097152 := by
        have : (getMsg (l.drop 3)).data.length ≤ n := by
          rw [getMsg]; split
          · simp; omega
          · simp
        omega
      let x : Word := ⟨l[0].toNat, getNum l 1 2, (getMsg (l.drop 3)).id, (getMsg (l.drop 3)).data, []⟩
      have hx : (said l).1 = x := by rw [hsaid]; simp only [x]; rw [← hk, hk1]
      have hw : (x.w p k none 0).Ok M1 := ⟨by show SrcOk M1 1 p x.data.length _; rw [show x.data.length = m from hml]; exact hsrc, SrcOk.nil _ _, by show x.data.length ≤ _; rw [show x.data.length = m from hml]; exact hm', Nat.zero_le _⟩
      have hv : (x.w p k none 0).v = .agg #[.int .i64 l[0].toNat, .int .i64 (getNum l 1 2), .int .i64 (getMsg (l.drop 3)).id.o, .int .i64 (getMsg (l.drop 3)).id.d, .int .i64 (getMsg (l.drop 3)).id.e, .int .i64 (getMsg (l.drop 3)).id.c, .slice p m k, .slice none 0 0] := by
        show W.v _ = _
        unfold W.v Word.w
        rw [show x.data.length = m from hml]
        rfl
      have hcheck := wcheck_ok _ _ hw
      rw [hv] at hcheck
      (conv => whnf); refine brn (fun g3 => ?_) (fun g3 => ?_)
      · have e : parse l = none := by rw [parse, if_pos (.inr (.inl (by rw [hsaid]; simpa using g3)))]
        (conv => whnf)
        rw [e]
        exact ⟨hle, rfl⟩
      (conv => whnf); refine hcheck.mono ?_
      rintro v M' ⟨rfl, rfl⟩
      (conv => whnf); refine brn (fun g4 => ?_) (fun g4 => ?_) <;> rw [Word.werr] at g4
      · have e : parse l = none := by rw [parse, if_pos (.inr (.inr (by rw [hx]; simpa using g4)))]
        (conv => whnf)
        rw [e]
        exact ⟨hle, rfl⟩
      · have hz2 : (said l).2 = 0 := by rw [hsaid]; simpa using g3
        have hz3 : x.err = 0 := by simpa using g4
        have e : parse l = some x := by rw [parse, if_neg (by rw [hx, hz2, hz3]; simp [hne]), hx]
        (conv => whnf)
        rw [e]
        exact ⟨hle, _, _, _, _, by rw [hv], hw, hfresh⟩
    · have hk1 : ¬ ((l.getD 0 0).toNat : Int) = 1 := by rw [hk]; exact of_decide_eq_false g2
      have hsaid : said l = (⟨l[0].toNat, getNum l 1 2, getId (l.drop 3), [], []⟩, getIdErr (l.drop 3)) := by
        rw [said]; simp only [if_neg hk4, if_neg hk1]; rw [if_neg (by omega), hk]
      (conv => whnf); refine ob (by omega) ?_
      (conv => whnf)
      rw [hz, wrap_i64 (by omega)]
      refine (getId_ok _ _ _ _ (l.drop 3) hsub (by omega) (by have : Int.toNat 3 = 3 := rfl; omega)).mono ?_
      rintro v M1 ⟨rfl, rfl⟩
      let x : Word := ⟨l[0].toNat, getNum l 1 2, getId (l.drop 3), [], []⟩
      have hx : (said l).1 = x := by rw [hsaid]
      have hw : (x.w none 0 none 0).Ok M := ⟨SrcOk.nil _ _, SrcOk.nil _ _, Nat.zero_le _, Nat.zero_le _⟩
      have hv : (x.w none 0 none 0).v = .agg #[.int .i64 l[0].toNat, .int .i64 (getNum l 1 2), .int .i64 (getId (l.drop 3)).o, .int .i64 (getId (l.drop 3)).d, .int .i64 (getId (l.drop 3)).e, .int .i64 (getId (l.drop 3)).c, .slice none 0 0, .slice none 0 0] := rfl
      have hcheck := wcheck_ok _ _ hw
      rw [hv] at hcheck
      have hle := Mem.le_refl M
      have hfresh : ∀ q, (none : Option Addr) = some q ∨ (none : Option Addr) = some q → M q.block = none := fun q hq => hq.elim (fun h => by cases h) (fun h => by cases h)
      (conv => whnf); refine brn (fun g3 => ?_) (fun g3 => ?_)
      · have e : parse l = none := by rw [parse, if_pos (.inr (.inl (by rw [hsaid]; simpa using g3)))]
        (conv => whnf)
        rw [e]
        exact ⟨hle, rfl⟩
      (conv => whnf); refine hcheck.mono ?_
      rintro v M' ⟨rfl, rfl⟩
      (conv => whnf); refine brn (fun g4 => ?_) (fun g4 => ?_) <;> rw [Word.werr] at g4
      · have e : parse l = none := by rw [parse, if_pos (.inr (.inr (by rw [hx]; simpa using g4)))]
        (conv => whnf)
        rw [e]
        exact ⟨hle, rfl⟩
      · have hz2 : (said l).2 = 0 := by rw [hsaid]; simpa using g3
        have hz3 : x.err = 0 := by simpa using g4
        have e : parse l = some x := by rw [parse, if_neg (by rw [hx, hz2, hz3]; simp [hne]), hx]
        (conv => whnf)
        rw [e]
        exact ⟨hle, _, _, _, _, by rw [hv], hw, hfresh⟩
end Go.Proofs.Ythlleljdahkgpaa
