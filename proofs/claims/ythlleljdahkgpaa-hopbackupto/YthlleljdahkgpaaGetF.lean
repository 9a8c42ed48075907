/- The word of bytes, as the document finds it. -/
import Derived.Test.YthlleljdahkgpaaGetE
namespace Go.Proofs.Ythlleljdahkgpaa
open Go Go.Vm
attribute [local irreducible] Brn Ob CallsM inR LoopVC Mem.row Mem.cells Mem.setCells Mem.upd Own AppVC SrcVC StrVC NextVC New SrcOk subA NewSl Mem.textAt Mem.mapAt Mem.iterAt entryOf kfind Wr NewEls Elems
set_option maxRecDepth 10000
/-- the word of a kind that bytes can be -/
def guess (l : List UInt8) (k : Int) : Word :=
  if k = 4 then ⟨4, 0, zeroId, [], (l.drop 1).map fun b => (b.toNat : Int)⟩
  else if l.length < 9 then ⟨k, 0, zeroId, [], []⟩
  else ⟨k, getNum l 1 2, getId ((l.drop 3).take 6), l.drop 9, []⟩
theorem guess_ok (a : Option Addr) (n c : Nat) (M : Mem) (l : List UInt8) (hs : SrcOk M 1 a n (l.map byteV)) (hn : n ≤ 2097152) (hc : n ≤ c) (k : Int) : CallsM Try.prog F.ref20_guess [.slice a n c, .int .i64 k] M fun v M' =>
    M.le M' ∧ ∃ pD kD pC kC, v = ((guess l k).w pD kD pC kC).v ∧ ((guess l k).w pD kD pC kC).Ok M' ∧ ∀ q, pD = some q ∨ pC = some q → M q.block = none := by
  have hl := hs.maplen
  refine fo_ref20_guess (by simp) ?_
  (conv => whnf); refine brn (fun g => ?_) (fun g => ?_)
  · have hk : k = 4 := of_decide_eq_true g
    subst hk
    have hg : guess l 4 = ⟨4, 0, zeroId, [], (l.drop 1).map fun b => (b.toNat : Int)⟩ := by rw [guess, if_pos rfl]
    rw [hg]
    (conv => whnf)
    refine loopF (σ := Nat × Nat × Option Addr × Nat × Mem) [6] (fun x => [(6, .int .i64 x.1)]) (fun x => [.live T.api_Hop [.v (.int .i64 0), .v (.int .i64 0), .v (.int .i64 0), .v (.int .i64 0), .v (.int .i64 0), .v (.int .i64 0), .v (.slice none 0 0), .v (.slice none 0 0)],
        .live T.api_Hop [.v (.int .i64 4), .v (.int .i64 0), .v (.int .i64 0), .v (.int .i64 0), .v (.int .i64 0), .v (.int .i64 0), .v (.slice none 0 0), .v (.slice x.2.2.1 x.2.1 x.2.2.2.1)]]) (fun x => x.2.2.2.2)
      (fun x => x.1 = x.2.1 + 1 ∧ x.2.1 ≤ n - 1 ∧ NewSl M T.int 1 x.2.2.1 x.2.1 x.2.2.2.1 ((((l.drop 1).map fun b => (b.toNat : Int)).take x.2.1).map intV) x.2.2.2.2) (fun x => n - 1 - x.2.1) ⟨1, 0, none, 0, M⟩ ⟨rfl, by simp, NewSl.none _ _ _⟩ ⟨(by repeat' first | exact True.intro | refine ⟨rfl, ?_⟩), (by repeat' first | exact True.intro | refine ⟨rfl, ?_⟩), Mem.le_refl _, rfl⟩ ?_
    rintro ⟨j, i, a1, c1, M1⟩ ⟨hj, hi, hN1⟩
    simp only at hj hi
    subst hj
    (conv => whnf); refine brn (fun g1 => ?_) (fun g1 => ?_)
    · have hi' : i + 1 < n := by have := of_decide_eq_true g1; simp only at this; omega
      obtain ⟨hlt, b', o', hp, hrow⟩ := (hs.le hN1.le).at (i := i + 1) hi'
      have hbi := UInt8.toNat_lt l[i + 1]
      repeat' ((conv => whnf); first | refine ⟨?_, True.intro⟩ | refine brn_t rfl ?_ | refine brn_f rfl ?_ | refine ob rfl ?_ | refine ob (by decide) ?_ | refine ob (Mem.le_refl _) ?_ | refine ⟨_, Mem.le_refl _, ?_⟩ | fail)
      refine ob (by dsimp only; omega) ?_
      (conv => whnf); refine atp hp ?_
      (conv => whnf); refine on hrow ?_
      repeat' ((conv => whnf); first | refine ⟨?_, True.intro⟩ | refine brn_t rfl ?_ | refine brn_f rfl ?_ | refine ob rfl ?_ | refine ob (by decide) ?_ | refine ob (Mem.le_refl _) ?_ | refine ⟨_, Mem.le_refl _, ?_⟩ | fail)
      refine appN M _ hN1 (by dsimp only; omega) (by simp [maxLen]; omega) (by simp [Value.oneCell']) fun a2 c2 M2 hN2 => ?_
      rw [wrap_i64 (by omega)] at hN2
      repeat' ((conv => whnf); first | refine ⟨?_, True.intro⟩ | refine brn_t rfl ?_ | refine brn_f rfl ?_ | refine ob rfl ?_ | refine ob (by decide) ?_ | refine ob (Mem.le_refl _) ?_ | refine ⟨_, Mem.le_refl _, ?_⟩ | fail)
      refine ob (inR_i64 (by dsimp only; omega)) ?_
      (conv => whnf)
      refine ⟨⟨i + 1 + 1, i + 1, a2, c2, M2⟩, ⟨rfl, by dsimp only; omega, ?_⟩, by show n - 1 - (i + 1) < n - 1 - i; omega, ⟨(by repeat' first | exact True.intro | refine ⟨rfl, ?_⟩), (by repeat' first | exact True.intro | refine ⟨rfl, ?_⟩), Mem.le_refl _, rfl⟩⟩
      show NewSl M T.int 1 a2 (i + 1) c2 _ M2
      rw [take_succ_map (by simp; omega)]
      have e : ((l.drop 1).map fun b => (b.toNat : Int))[i]'(by simp; omega) = (l[i + 1].toNat : Int) := by simp [Nat.add_comm]
      rw [e]
      exact hN2
    · have hi' : i = n - 1 := by have := of_decide_eq_false g1; simp only at this; omega
      subst hi'
      rw [List.take_of_length_le (by simp; omega)] at hN1
      (conv => whnf)
      refine ⟨hN1.le, none, 0, a1, c1, ?_, ⟨SrcOk.nil _ _, ?_, Nat.zero_le _, ?_⟩, fun q hq => hq.elim (fun h => by cases h) (fun h => (hN1.block h).1)⟩
      · show _ = W.v _
        unfold W.v Word.w
        simp only [List.length_map, List.length_drop, hl]
        rfl
      · show SrcOk M1 1 a1 ((l.drop 1).map fun b => (b.toNat : Int)).length _
        rw [show ((l.drop 1).map fun b => (b.toNat : Int)).length = n - 1 by simp; omega]
        exact hN1.src
      · show ((l.drop 1).map fun b => (b.toNat : Int)).length ≤ _
        simp; omega
  have hk : k ≠ 4 := of_decide_eq_false g
  (conv => whnf); refine brn (fun g1 => ?_) (fun g1 => ?_)
  · have h9 : 9 ≤ n := by have := of_decide_eq_true g1; omega
    have hg : guess l k = ⟨k, getNum l 1 2, getId ((l.drop 3).take 6), l.drop 9, []⟩ := by rw [guess, if_neg hk, if_neg (by omega)]
    rw [hg]
    have hge : getErr n 1 2 = 0 := by rw [getErr, if_neg (by omega), if_neg (by omega)]
    have hlt : getNum l 1 2 < 65536 := getNum_two_lt l 1 (by omega)
    have hsub := hs.subm (lo := 3) (hi := 9) (by omega) (by omega) hc
    have hsub9 := hs.subm (lo := 9) (hi := n) (by omega) (by omega) hc
    rw [List.take_of_length_le (by simp; omega)] at hsub9
    (conv => whnf); refine (refGet_ok _ _ _ _ l hs (by omega) 1 2 hge).mono ?_
    rintro v M' ⟨rfl, rfl⟩
    (conv => whnf); refine ob (by have : Int.toNat 3 = 3 := rfl; have : Int.toNat 9 = 9 := rfl; omega) ?_
    (conv => whnf)
    rw [wrap_i64 (by omega)]
    refine (getIdR_ok _ _ _ _ ((l.drop 3).take 6) hsub (by decide) (by have : Int.toNat 9 = 9 := rfl; have : Int.toNat 3 = 3 := rfl; omega)).mono ?_
    rintro v M' ⟨rfl, rfl⟩
    (conv => whnf); refine new (fun b hb => ?_)
    replace hb : M b = none := hb
    have hN := NewSl.lit hb T.uint8 1 0 [] rfl
    (conv => whnf); refine ob (by omega) ?_
    have hz : (n : Int).toNat - Int.toNat 9 = n - 9 := by have : Int.toNat 9 = 9 := rfl; omega
    (conv => whnf)
    rw [hz]
    refine srcv (hsub9.le hN.le) ?_
    (conv => whnf)
    refine appN M _ hN (by omega) (by simp [maxLen]; omega) (bytes_one _) fun a1 c1 M1 hN1 => ?_
    (conv => whnf)
    rw [show 0 + (n - 9) = n - 9 by omega] at hN1 ⊢
    refine ⟨hN1.le, a1, c1, none, 0, ?_, ⟨?_, SrcOk.nil _ _, ?_, Nat.zero_le _⟩, fun q hq => hq.elim (fun h => (hN1.block h).1) (fun h => by cases h)⟩
    · show _ = W.v _
      unfold W.v Word.w
      simp only [List.length_drop, hl]
      rfl
    · show SrcOk M1 1 a1 (l.drop 9).length _
      rw [show (l.drop 9).length = n - 9 by simp; omega]
      have h10 := hN1.src
      rw [List.nil_append] at h10
      exact h10
    · show (l.drop 9).length ≤ _
      simp; omega
  · have h9 : n < 9 := by have := of_decide_eq_false g1; omega
    have hg : guess l k = ⟨k, 0, zeroId, [], []⟩ := by rw [guess, if_neg hk, if_pos (by omega)]
    rw [hg]
    (conv => whnf)
    exact ⟨Mem.le_refl _, none, 0, none, 0, rfl, ⟨SrcOk.nil _ _, SrcOk.nil _ _, Nat.zero_le _, Nat.zero_le _⟩, fun q hq => hq.elim (fun h => by cases h) (fun h => by cases h)⟩
end Go.Proofs.Ythlleljdahkgpaa
