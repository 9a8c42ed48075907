/- The document's set: keys in order. -/
import Derived.Test.YtmifjilknojkaaaSeenF
namespace Go.Proofs.Ytmifjilknojkaaa
open Go Go.Vm
attribute [local irreducible] Brn Ob Grow CallsM inR LoopVC Mem.row Mem.cells Mem.setCells Mem.upd Own AppVC SrcVC StrVC NextVC New SrcOk subA NewSl Mem.textAt Mem.mapAt Mem.iterAt entryOf kfind Wr NewEls Elems
set_option maxRecDepth 10000
variable {M : Mem}
structure K where
  o : Int
  e : Int
  c : Int
deriving DecidableEq, Inhabited
@[reducible] def encK (k : K) : List Value := [.int .i64 k.o, .int .i64 k.e, .int .i64 k.c]
@[reducible] def keyR (k : K) : Value := .agg #[.int .i64 k.o, .int .i64 k.e, .int .i64 k.c]
theorem encK_len (k : K) : (encK k).length = 3 := rfl
def lessK (a b : K) : Bool := if a.o ≠ b.o then decide (a.o < b.o) else if a.e ≠ b.e then decide (a.e < b.e) else decide (a.c < b.c)
theorem lessR_ok (a b : K) : CallsM Try.prog F.ref14_less [keyR a, keyR b] M fun v M' => v = .bool (lessK a b) ∧ M = M' := by
  refine fo_ref14_less (by simp) ?_
  (conv => whnf); refine brn (fun h => ?_) (fun h => ?_)
  · repeat' ((conv => whnf); first | refine ⟨?_, True.intro⟩ | refine brn_t rfl ?_ | refine brn_f rfl ?_ | refine ob rfl ?_ | refine ob (by decide) ?_ | refine grow_same (Mem.le_refl _) ?_ | refine ob (Mem.le_refl _) ?_ | refine ⟨_, Mem.le_refl _, ?_⟩ | fail)
    have h1 : a.o ≠ b.o := by simpa using h
    refine ⟨?_, rfl⟩
    unfold lessK
    rw [if_pos h1]
  · have h1 : ¬ a.o ≠ b.o := by simpa using h
    (conv => whnf); refine brn (fun g => ?_) (fun g => ?_)
    · repeat' ((conv => whnf); first | refine ⟨?_, True.intro⟩ | refine brn_t rfl ?_ | refine brn_f rfl ?_ | refine ob rfl ?_ | refine ob (by decide) ?_ | refine grow_same (Mem.le_refl _) ?_ | refine ob (Mem.le_refl _) ?_ | refine ⟨_, Mem.le_refl _, ?_⟩ | fail)
      have h2 : a.e ≠ b.e := by simpa using g
      refine ⟨?_, rfl⟩
      unfold lessK
      rw [if_neg h1, if_pos h2]
    · repeat' ((conv => whnf); first | refine ⟨?_, True.intro⟩ | refine brn_t rfl ?_ | refine brn_f rfl ?_ | refine ob rfl ?_ | refine ob (by decide) ?_ | refine grow_same (Mem.le_refl _) ?_ | refine ob (Mem.le_refl _) ?_ | refine ⟨_, Mem.le_refl _, ?_⟩ | fail)
      have h2 : ¬ a.e ≠ b.e := by simpa using g
      refine ⟨?_, rfl⟩
      unfold lessK
      rw [if_neg h1, if_neg h2]
@[reducible] def refV (room : Int) (a : Option Addr) (n c : Nat) : Value := .agg #[.int .i64 room, .slice a n c]
theorem thereR_ok {a : Option Addr} {n c : Nat} {L : List K} (hs : SrcOk M 3 a n (L.flatMap encK)) (hn : n ≤ 4194304) (room : Int) (k : K) :
    CallsM Try.prog F.ref14_There [refV room a n c, keyR k] M fun v M' => v = .bool (decide (k ∈ L)) ∧ M = M' := by
  refine fo_ref14_There (by simp) ?_
  have hl := hs.flen encK_len (by decide)
  (conv => whnf)
  refine loopQ [5] (fun (i : Nat) => [(5, .int .i64 i)]) (fun i => i ≤ n ∧ k ∉ L.take i) (fun i => n - i) 0 ⟨by omega, by simp⟩ ⟨(by repeat' first | exact True.intro | refine ⟨rfl, ?_⟩), (by repeat' first | exact True.intro | refine ⟨rfl, ?_⟩), Mem.le_refl _, rfl⟩ ?_
  intro i ⟨hi, hnot⟩
  (conv => whnf); refine brn (fun h => ?_) (fun h => ?_)
  · have hlt : i < L.length := by have := of_decide_eq_true h; omega
    have hx : L[i]? = some L[i] := List.getElem?_eq_getElem hlt
    obtain ⟨b, o, rfl, hrow⟩ := hs.fall encK_len (by decide) hx
    have hin : L[i] ∈ L := List.getElem_mem _
    have htk : L.take (i + 1) = L.take i ++ [L[i]] := by rw [List.take_add_one, hx]; rfl
    generalize L[i] = x at *
    (conv => whnf); refine ob (by omega) ?_
    (conv => whnf); refine on hrow ?_
    (conv => whnf); refine brn (fun g => ?_) (fun g => ?_)
    · repeat' ((conv => whnf); first | refine ⟨?_, True.intro⟩ | refine brn_t rfl ?_ | refine brn_f rfl ?_ | refine ob rfl ?_ | refine ob (by decide) ?_ | refine grow_same (Mem.le_refl _) ?_ | refine ob (Mem.le_refl _) ?_ | refine ⟨_, Mem.le_refl _, ?_⟩ | fail)
      refine ⟨?_, rfl⟩
      have : x = k := by
        obtain ⟨x1, x2, x3⟩ := x
        obtain ⟨k1, k2, k3⟩ := k
        simpa [and_assoc] using g
      subst this
      simp [hin]
    · (conv => whnf); refine ob (inR_i64 (by omega)) ?_
      (conv => whnf)
      refine ⟨i + 1, ⟨by omega, ?_⟩, by omega, ⟨(by repeat' first | exact True.intro | refine ⟨rfl, ?_⟩), (by repeat' first | exact True.intro | refine ⟨rfl, ?_⟩), Mem.le_refl _, rfl⟩⟩
      rw [htk]
      simp only [List.mem_append, List.mem_singleton, not_or]
      refine ⟨hnot, fun e => ?_⟩
      subst e
      simp at g
  · (conv => whnf)
    simp only [decide_eq_false_iff_not] at h
    refine ⟨?_, rfl⟩
    rw [List.take_of_length_le (by omega)] at hnot
    simp [hnot]
/-- a key at its place -/
def putK (k : K) : List K → List K
  | [] => [k]
  | x :: r => if lessK k x then k :: x :: r else x :: putK k r
theorem putK_len (k : K) : ∀ l : List K, (putK k l).length = l.length + 1
  | [] => rfl
  | x :: r => by
    simp only [putK]
    split
    · simp
    · simp [putK_len k r]
def restK (dn : Bool) (k : K) (r : List K) : List K := if dn then r else putK k r
theorem putR_ok {a : Option Addr} {n c : Nat} {L : List K} (hs : SrcOk M 3 a n (L.flatMap encK)) (hn : n ≤ 4194000) (k : K) :
    CallsM Try.prog F.ref14_put [.slice a n c, keyR k] M fun v M' => ∃ a' c', v = .slice a' (n + 1) c' ∧ NewSl M T.portageref14_Key 3 a' (n + 1) c' ((putK k L).flatMap encK) M' := by
  refine fo_ref14_put (by simp) ?_
  have hl := hs.flen encK_len (by decide)
  (conv => whnf); refine new (fun b9 hb9 => ?_)
  replace hb9 : M b9 = none := hb9
  have hN : NewSl M T.portageref14_Key 3 (some ⟨b9, 0, none⟩) 0 0 (([] : List K).flatMap encK) _ := NewSl.lit hb9 T.portageref14_Key 3 0 [] rfl
  obtain ⟨M3, hM3⟩ : ∃ M3, M3 = M.setCells b9 T.portageref14_Key [] := ⟨_, rfl⟩
  rw [← hM3] at hN
  (conv => whnf)
  erw [← hM3]
  refine loopF (σ := Nat × Mem × Option Addr × Nat × Bool × List K) [7, 6, 5] (fun y => [(7, .int .i64 y.1), (6, .c (.v (.bool y.2.2.2.2.1))), (5, .slice y.2.2.1 y.2.2.2.2.2.length y.2.2.2.1)]) (fun _ => [.live T.portageref14_Key [.v (.int .i64 k.o), .v (.int .i64 k.e), .v (.int .i64 k.c)], .gone b9]) (fun y => y.2.1)
    (fun | ⟨i, M4, a4, c4, dn, out⟩ => i ≤ n ∧ out.length = i + dn.toNat ∧ NewSl M T.portageref14_Key 3 a4 out.length c4 (out.flatMap encK) M4 ∧ putK k L = out ++ restK dn k (L.drop i)) (fun y => n - y.1) ⟨0, M3, _, _, false, []⟩ ⟨by omega, by simp, hN, rfl⟩ ⟨(by repeat' first | exact True.intro | refine ⟨rfl, ?_⟩), (by repeat' first | exact True.intro | refine ⟨rfl, ?_⟩), Mem.le_refl _, rfl⟩ ?_
  rintro ⟨i, M4, a4, c4, dn, out⟩ ⟨hi, hol, hN4, hins⟩
  have hol1 : out.length ≤ i + 1 := by rw [hol]; cases dn <;> simp
  (conv => whnf); refine brn (fun g => ?_) (fun g => ?_)
  · have hi' : i < n := by have := of_decide_eq_true g; dsimp only at this; omega
    have hx : L[i]? = some (L[i]'(by omega)) := List.getElem?_eq_getElem (by omega)
    obtain ⟨b, o, ha, hrow⟩ := hs.fall encK_len (by decide) hx
    have hrow4 := Mem.row_le hN4.le hrow
    rw [List.drop_eq_getElem_cons (by omega)] at hins
    generalize L[i]'(by omega) = x at *
    have fin : ∀ (dn' : Bool) (out' : List K) M6 a6 c6, out'.length = i + dn'.toNat → putK k L = out' ++ x :: restK dn' k (L.drop (i + 1)) → NewSl M T.portageref14_Key 3 a6 (out'.length + 1) c6 ((out' ++ [x]).flatMap encK) M6 →
        (i + 1 ≤ n ∧ (out' ++ [x]).length = i + 1 + dn'.toNat ∧ NewSl M T.portageref14_Key 3 a6 (out' ++ [x]).length c6 ((out' ++ [x]).flatMap encK) M6 ∧ putK k L = (out' ++ [x]) ++ restK dn' k (L.drop (i + 1))) := fun dn' out' M6 a6 c6 h1 h2 h3 =>
      ⟨by omega, by simp; omega, by simpa using h3, by rw [h2]; simp⟩
    cases dn with
    | true =>
      have hrow5 := hrow4
      have hN5 := hN4
      repeat' ((conv => whnf); first | refine ⟨?_, True.intro⟩ | refine brn_t rfl ?_ | refine brn_f rfl ?_ | refine ob rfl ?_ | refine ob (by decide) ?_ | refine grow_same (Mem.le_refl _) ?_ | refine ob (Mem.le_refl _) ?_ | refine ⟨_, Mem.le_refl _, ?_⟩ | fail)
      refine ob (by first | omega | (dsimp only; omega)) ?_
      (conv => whnf); refine atp ha ?_
      (conv => whnf); refine on hrow5 ?_
      repeat' ((conv => whnf); first | refine ⟨?_, True.intro⟩ | refine brn_t rfl ?_ | refine brn_f rfl ?_ | refine ob rfl ?_ | refine ob (by decide) ?_ | refine grow_same (Mem.le_refl _) ?_ | refine ob (Mem.le_refl _) ?_ | refine ⟨_, Mem.le_refl _, ?_⟩ | fail)
      refine appF M hN5 x rfl (by first | omega | (dsimp only; omega)) (by simp [maxLen]; omega) (by simp [Value.oneCell']) fun a6 c6 M6 hN6 _ => ?_
      (conv => whnf); refine ob (inR_i64 (by first | omega | (dsimp only; omega))) ?_
      (conv => whnf)
      refine ⟨⟨i + 1, M6, a6, c6, true, out ++ [x]⟩, fin true out _ _ _ hol hins hN6, by dsimp only; omega, ?_⟩
      simp only [List.length_append, List.length_cons, List.length_nil]
      exact ⟨(by repeat' first | exact True.intro | refine ⟨rfl, ?_⟩), (by repeat' first | exact True.intro | refine ⟨rfl, ?_⟩), Mem.le_refl _, rfl⟩
    | false =>
      repeat' ((conv => whnf); first | refine ⟨?_, True.intro⟩ | refine brn_t rfl ?_ | refine brn_f rfl ?_ | refine ob rfl ?_ | refine ob (by decide) ?_ | refine grow_same (Mem.le_refl _) ?_ | refine ob (Mem.le_refl _) ?_ | refine ⟨_, Mem.le_refl _, ?_⟩ | fail)
      refine ob (by first | omega | (dsimp only; omega)) ?_
      (conv => whnf); refine atp ha ?_
      (conv => whnf); refine on hrow4 ?_
      (conv => whnf); refine ⟨?_, True.intro⟩
      (conv => whnf); refine (lessR_ok k x).mono ?_
      rintro v _ ⟨rfl, rfl⟩
      repeat' ((conv => whnf); first | refine ob rfl ?_ | refine grow_same (Mem.le_refl _) ?_ | refine ob (Mem.le_refl _) ?_ | refine ⟨?_, True.intro⟩ | fail)
      refine brn (fun g1 => ?_) (fun g1 => ?_)
      · have g1' : lessK k x = true := g1
        have hins' : putK k L = (out ++ [k]) ++ x :: restK true k (L.drop (i + 1)) := by
          rw [hins]; simp [restK, putK, g1']
        repeat' ((conv => whnf); first | refine ⟨?_, True.intro⟩ | refine brn_t rfl ?_ | refine brn_f rfl ?_ | refine ob rfl ?_ | refine ob (by decide) ?_ | refine grow_same (Mem.le_refl _) ?_ | refine ob (Mem.le_refl _) ?_ | refine ⟨_, Mem.le_refl _, ?_⟩ | fail)
        refine appF M hN4 k rfl (by first | omega | (dsimp only; omega)) (by simp [maxLen]; omega) (by simp [Value.oneCell']) fun a5 c5 M5 hN5' _ => ?_
        have hrow5 := Mem.row_le hN5'.le hrow
        have hN5 : NewSl M T.portageref14_Key 3 a5 (out ++ [k]).length c5 ((out ++ [k]).flatMap encK) M5 := by simpa using hN5'
        have hol5 : (out ++ [k]).length = i + true.toNat := by simp at hol ⊢; omega
        (conv => whnf)
        have ho1 : out.length = i := by simpa using hol
        have hlen5 : (out ++ [k]).length = out.length + 1 := by simp
        rw [hlen5] at hN5
        repeat' ((conv => whnf); first | refine ⟨?_, True.intro⟩ | refine brn_t rfl ?_ | refine brn_f rfl ?_ | refine ob rfl ?_ | refine ob (by decide) ?_ | refine grow_same (Mem.le_refl _) ?_ | refine ob (Mem.le_refl _) ?_ | refine ⟨_, Mem.le_refl _, ?_⟩ | fail)
        refine ob (by first | omega | (dsimp only; omega)) ?_
        (conv => whnf); refine atp ha ?_
        (conv => whnf); refine on hrow5 ?_
        repeat' ((conv => whnf); first | refine ⟨?_, True.intro⟩ | refine brn_t rfl ?_ | refine brn_f rfl ?_ | refine ob rfl ?_ | refine ob (by decide) ?_ | refine grow_same (Mem.le_refl _) ?_ | refine ob (Mem.le_refl _) ?_ | refine ⟨_, Mem.le_refl _, ?_⟩ | fail)
        refine appF M hN5 x rfl (by first | omega | (dsimp only; omega)) (by simp [maxLen]; omega) (by simp [Value.oneCell']) fun a6 c6 M6 hN6 _ => ?_
        (conv => whnf); refine ob (inR_i64 (by first | omega | (dsimp only; omega))) ?_
        (conv => whnf)
        refine ⟨⟨i + 1, M6, a6, c6, true, (out ++ [k]) ++ [x]⟩, fin true (out ++ [k]) _ _ _ hol5 hins' (by simpa using hN6), by dsimp only; omega, ?_⟩
        simp only [List.length_append, List.length_cons, List.length_nil]
        exact ⟨(by repeat' first | exact True.intro | refine ⟨rfl, ?_⟩), (by repeat' first | exact True.intro | refine ⟨rfl, ?_⟩), Mem.le_refl _, rfl⟩
      · have g1' : lessK k x = false := g1
        have hins' : putK k L = out ++ x :: restK false k (L.drop (i + 1)) := by
          rw [hins]; simp [restK, putK, g1']
        have hrow5 := hrow4
        have hN5 := hN4
        repeat' ((conv => whnf); first | refine ⟨?_, True.intro⟩ | refine brn_t rfl ?_ | refine brn_f rfl ?_ | refine ob rfl ?_ | refine ob (by decide) ?_ | refine grow_same (Mem.le_refl _) ?_ | refine ob (Mem.le_refl _) ?_ | refine ⟨_, Mem.le_refl _, ?_⟩ | fail)
        refine ob (by first | omega | (dsimp only; omega)) ?_
        (conv => whnf); refine atp ha ?_
        (conv => whnf); refine on hrow5 ?_
        repeat' ((conv => whnf); first | refine ⟨?_, True.intro⟩ | refine brn_t rfl ?_ | refine brn_f rfl ?_ | refine ob rfl ?_ | refine ob (by decide) ?_ | refine grow_same (Mem.le_refl _) ?_ | refine ob (Mem.le_refl _) ?_ | refine ⟨_, Mem.le_refl _, ?_⟩ | fail)
        refine appF M hN5 x rfl (by first | omega | (dsimp only; omega)) (by simp [maxLen]; omega) (by simp [Value.oneCell']) fun a6 c6 M6 hN6 _ => ?_
        (conv => whnf); refine ob (inR_i64 (by first | omega | (dsimp only; omega))) ?_
        (conv => whnf)
        refine ⟨⟨i + 1, M6, a6, c6, false, out ++ [x]⟩, fin false out _ _ _ hol hins' hN6, by dsimp only; omega, ?_⟩
        simp only [List.length_append, List.length_cons, List.length_nil]
        exact ⟨(by repeat' first | exact True.intro | refine ⟨rfl, ?_⟩), (by repeat' first | exact True.intro | refine ⟨rfl, ?_⟩), Mem.le_refl _, rfl⟩
  · have hi' : i = n := by have := of_decide_eq_false g; dsimp only at this; omega
    subst hi'
    have hdr : L.drop i = [] := List.drop_of_length_le (by omega)
    rw [hdr] at hins
    cases dn with
    | true =>
      have ho1 : out.length = i + 1 := by simpa using hol
      simp only [restK, if_true, List.append_nil] at hins
      repeat' ((conv => whnf); first | refine ⟨?_, True.intro⟩ | refine brn_t rfl ?_ | refine brn_f rfl ?_ | refine ob rfl ?_ | refine ob (by decide) ?_ | refine grow_same (Mem.le_refl _) ?_ | refine ob (Mem.le_refl _) ?_ | refine ⟨_, Mem.le_refl _, ?_⟩ | fail)
      rw [hins]
      exact ⟨a4, c4, by rw [ho1], ho1 ▸ hN4⟩
    | false =>
      have ho1 : out.length = i := by simpa using hol
      have e : restK false k [] = [k] := rfl
      rw [e] at hins
      repeat' ((conv => whnf); first | refine ⟨?_, True.intro⟩ | refine brn_t rfl ?_ | refine brn_f rfl ?_ | refine ob rfl ?_ | refine ob (by decide) ?_ | refine grow_same (Mem.le_refl _) ?_ | refine ob (Mem.le_refl _) ?_ | refine ⟨_, Mem.le_refl _, ?_⟩ | fail)
      refine appF M hN4 k rfl (by first | omega | (dsimp only; omega)) (by simp [maxLen]; omega) (by simp [Value.oneCell']) fun a6 c6 M6 hN6 _ => ?_
      repeat' ((conv => whnf); first | refine ⟨?_, True.intro⟩ | refine brn_t rfl ?_ | refine brn_f rfl ?_ | refine ob rfl ?_ | refine ob (by decide) ?_ | refine grow_same (Mem.le_refl _) ?_ | refine ob (Mem.le_refl _) ?_ | refine ⟨_, Mem.le_refl _, ?_⟩ | fail)
      rw [hins]
      exact ⟨a6, c6, by rw [ho1], ho1 ▸ hN6⟩
end Go.Proofs.Ytmifjilknojkaaa
