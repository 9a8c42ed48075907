/- The document's set: keys in order. -/
import Derived.Test.YtlocjjponfbhmaaGreatJoin16
namespace Go.Proofs.YtlocjjponfbhmaaGreat
open Go Go.Vm
attribute [local irreducible] Brn Ob Grow CallsM inR LoopVC Mem.row Mem.cells Mem.setCells Mem.upd Own AppVC SrcVC StrVC NextVC New SrcOk subA NewSl Mem.textAt Mem.mapAt Mem.iterAt entryOf kfind Wr NewEls Elems
set_option maxRecDepth 10000
variable {M : Mem}
structure K where
  o : Int
  e : Int
  c : Int
deriving DecidableEq, Inhabited
@[reducible] def encK (k : K) : List Value := [.int .i64 k.o, .int .i64 k.e, .int .i64 k.c]
@[reducible] def keyR (k : K) : Value := .agg #[.int .i64 k.o, .int .i64 k.e, .int .i64 k.c]
theorem encK_len (k : K) : (encK k).length = 3 := rfl
def lessK (a b : K) : Bool := if a.o ≠ b.o then decide (a.o < b.o) else if a.e ≠ b.e then decide (a.e < b.e) else decide (a.c < b.c)
theorem lessR_ok (a b : K) : CallsM Tryz.prog F.ref14_less [keyR a, keyR b] M fun v M' => v = .bool (lessK a b) ∧ M = M' := by
  refine fo_ref14_less (by simp) ?_
  (conv => whnf); refine brn (fun h => ?_) (fun h => ?_)
  · repeat' ((conv => whnf); first | refine ⟨?_, True.intro⟩ | refine brn_t rfl ?_ | refine brn_f rfl ?_ | refine ob rfl ?_ | refine ob (by decide) ?_ | refine grow_same (Mem.le_refl _) ?_ | refine ob (Mem.le_refl _) ?_ | refine ⟨_, Mem.le_refl _, ?_⟩ | fail)
    have h1 : a.o ≠ b.o := by simpa using h
    refine ⟨?_, rfl⟩
    unfold lessK
    rw [if_pos h1]
  · have h1 : ¬ a.o ≠ b.o := by simpa using h
    (conv => whnf); refine brn (fun g => ?_) (fun g => ?_)
    · repeat' ((conv => whnf); first | refine ⟨?_, True.intro⟩ | refine brn_t rfl ?_ | refine brn_f rfl ?_ | refine ob rfl ?_ | refine ob (by decide) ?_ | refine grow_same (Mem.le_refl _) ?_ | refine ob (Mem.le_refl _) ?_ | refine ⟨_, Mem.le_refl _, ?_⟩ | fail)
      have h2 : a.e ≠ b.e := by simpa using g
      refine ⟨?_, rfl⟩
      unfold lessK
      rw [if_neg h1, if_pos h2]
    · repeat' ((conv => whnf); first | refine ⟨?_, True.intro⟩ | refine brn_t rfl ?_ | refine brn_f rfl ?_ | refine ob rfl ?_ | refine ob (by decide) ?_ | refine grow_same (Mem.le_refl _) ?_ | refine ob (Mem.le_refl _) ?_ | refine ⟨_, Mem.le_refl _, ?_⟩ | fail)
      have h2 : ¬ a.e ≠ b.e := by simpa using g
      refine ⟨?_, rfl⟩
      unfold lessK
      rw [if_neg h1, if_neg h2]
@[reducible] def refV (room : Int) (a : Option Addr) (n c : Nat) : Value := .agg #[.int .i64 room, .slice a n c]
theorem thereR_ok {a : Option Addr} {n c : Nat} {L : List K} (hs : SrcOk M 3 a n (L.flatMap encK)) (hn : n ≤ 4194304) (room : Int) (k : K) :
    CallsM Tryz.prog F.ref14_There [refV room a n c, keyR k] M fun v M' => v = .bool (decide (k ∈ L)) ∧ M = M' := by
  refine fo_ref14_There (by simp) ?_
  have hl := hs.flen encK_len (by decide)
  (conv => whnf)
  refine loopQ [5] (fun (i : Nat) => [(5, .int .i64 i)]) (fun i => i ≤ n ∧ k ∉ L.take i) (fun i => n - i) 0 ⟨by omega, by simp⟩ ⟨(by repeat' first | exact True.intro | refine ⟨rfl, ?_⟩), (by repeat' first | exact True.intro | refine ⟨rfl, ?_⟩), Mem.le_refl _, rfl⟩ ?_
  intro i ⟨hi, hnot⟩
  (conv => whnf); refine brn (fun h => ?_) (fun h => ?_)
  · have hlt : i < L.length := by have := of_decide_eq_true h; omega
    have hx : L[i]? = some L[i] := List.getElem?_eq_getElem hlt
    obtain ⟨b, o, rfl, hrow⟩ := hs.fall encK_len (by decide) hx
    have hin : L[i] ∈ L := List.getElem_mem _
    have htk : L.take (i + 1) = L.take i ++ [L[i]] := by rw [List.take_add_one, hx]; rfl
    generalize L[i] = x at *
    (conv => whnf); refine ob (by omega) ?_
    (conv => whnf); refine on hrow ?_
    (conv => whnf); refine brn (fun g => ?_) (fun g => ?_)
    · repeat' ((conv => whnf); first | refine ⟨?_, True.intro⟩ | refine brn_t rfl ?_ | refine brn_f rfl ?_ | refine ob rfl ?_ | refine ob (by decide) ?_ | refine grow_same (Mem.le_refl _) ?_ | refine ob (Mem.le_refl _) ?_ | refine ⟨_, Mem.le_refl _, ?_⟩ | fail)
      refine ⟨?_, rfl⟩
      have : x = k := by
        obtain ⟨x1, x2, x3⟩ := x
        obtain ⟨k1, k2, k3⟩ := k
        simpa [and_assoc] using g
      subst this
      simp [hin]
    · (conv => whnf); refine ob (inR_i64 (by omega)) ?_
      (conv => whnf)
      refine ⟨i + 1, ⟨by omega, ?_⟩, by omega, ⟨(by repeat' first | exact True.intro | refine ⟨rfl, ?_⟩), (by repeat' first | exact True.intro | refine ⟨rfl, ?_⟩), Mem.le_refl _, rfl⟩⟩
      rw [htk]
      simp only [List.mem_append, List.mem_singleton, not_or]
      refine ⟨hnot, fun e => ?_⟩
      subst e
      simp at g
  · (conv => whnf)
    simp only [decide_eq_false_iff_not] at h
    refine ⟨?_, rfl⟩
    rw [List.take_of_length_le (by omega)] at hnot
    simp [hnot]
/-- a key at its place -/
def putK (k : K) : List K → List K
  | [] => [k]
  | x :: r => if lessK k x then k :: x :: r else x :: putK k r
theorem putK_len (k : K) : ∀ l : List K, (putK k l).length = l.length + 1
  | [] => rfl
  | x :: r => by
    simp only [putK]
    split
    · simp
    · simp [putK_len k r]
def restK (dn : Bool) (k : K) (r : List K) : List K := if dn then r else putK k r
theorem putR_ok {a : Option Addr} {n c : Nat} {L : List K} (hs : SrcOk M 3 a n (L.flatMap encK)) (hn : n ≤ 4194000) (k : K) :
    CallsM Tryz.prog F.ref14_put [.slice a n c, keyR k] M fun v M' => ∃ a' c', v = .slice a' (n + 1) c' ∧ NewSl M T.portageref14_Key 3 a' (n + 1) c' ((putK k L).flatMap encK) M' := by
  refine fo_ref14_put (by simp) ?_
  have hl := hs.flen encK_len (by decide)
  (conv => whnf); refine new (fun b9 hb9 => ?_)
  replace hb9 : M b9 = none := hb9
  have hN : NewSl M T.portageref14_Key 3 (some ⟨b9, 0, none⟩) 0 0 (([] : List K).flatMap encK) _ := NewSl.lit hb9 T.portageref14_Key 3 0 [] rfl
  obtain ⟨M3, hM3⟩ : ∃ M3, M3 = M.setCells b9 T.portageref14_Key [] := ⟨_, rfl⟩
  rw [← hM3] at hN
  (conv => whnf)
  erw [← hM3]
  refine loopF (σ := Nat × Mem × Option Addr × Nat × Bool × List K) [7, 6, 5] (fun y => [(7, .int .i64 y.1), (6, .c (.v (.bool y.2.2.2.2.1))), (5, .slice y.2.2.1 y.2.2.2.2.2.length y.2.2.2.1)]) (fun _ => [.live T.portageref14_Key [.v (.int .i64 k.o), .v (.int .i64 k.e), .v (.int .i64 k.c)], .gone b9]) (fun y => y.2.1)
    (fun | ⟨i, M4, a4, c4, dn, out⟩ => i ≤ n ∧ out.length = i + dn.toNat ∧ NewSl M T.portageref14_Key 3 a4 out.length c4 (out.flatMap encK) M4 ∧ putK k L = out ++ restK dn k (L.drop i)) (fun y => n - y.1) ⟨0, M3, _, _, false, []⟩ ⟨by omega, by simp, hN, rfl⟩ ⟨(by repeat' first | exact True.intro | refine ⟨rfl, ?_⟩), (by repeat' first | exact True.intro | refine ⟨rfl, ?_⟩), Mem.le_refl _, rfl⟩ ?_
  rintro ⟨i, M4, a4, c4, dn, out⟩ ⟨hi, hol, hN4, hins⟩
  have hol1 : out.length ≤ i + 1 := by rw [hol]; cases dn <;> simp
  (conv => whnf); refine brn (fun g => ?_) (fun g => ?_)
  · have hi' : i < n := by have := of_decide_eq_true g; dsimp only at this; omega
    have hx : L[i]? = some (L[i]'(by omega)) := List.getElem?_eq_getElem (by omega)
    obtain ⟨b, o, ha, hrow⟩ := hs.fall encK_len (by decide) hx
    have hrow4 := Mem.row_le hN4.le hrow
    rw [List.drop_eq_getElem_cons (by omega)] at hins
    generalize L[i]'(by omega) = x at *
    have fin : ∀ (dn' : Bool) (out' : List K) M6 a6 c6, out'.length = i + dn'.toNat → putK k L = out' ++ x :: restK dn' k (L.drop (i + 1)) → NewSl M T.portageref14_Key 3 a6 (out'.length + 1) c6 ((out' ++ [x]).flatMap encK) M6 →
        (i + 1 ≤ n ∧ (out' ++ [x]).length = i + 1 + dn'.toNat ∧ NewSl M T.portageref14_Key 3 a6 (out' ++ [x]).length c6 ((out' ++ [x]).flatMap encK) M6 ∧ putK k L = (out' ++ [x]) ++ restK dn' k (L.drop (i + 1))) := fun dn' out' M6 a6 c6 h1 h2 h3 =>
      ⟨by omega, by simp; omega, by simpa using h3, by rw [h2]; simp⟩
    cases dn with
    | true =>
      have hrow5 := hrow4
      have hN5 := hN4
      repeat' ((conv => whnf); first | refine ⟨?_, True.intro⟩ | refine brn_t rfl ?_ | refine brn_f rfl ?_ | refine ob rfl ?_ | refine ob (by decide) ?_ | refine grow_same (Mem.le_refl _) ?_ | refine ob (Mem.le_refl _) ?_ | refine ⟨_, Mem.le_refl _, ?_⟩ | fail)
      refine ob (by first | omega | (dsimp only; omega)) ?_
      (conv => whnf); refine atp ha ?_
      (conv => whnf); refine on hrow5 ?_
      repeat' ((conv => whnf); first | refine ⟨?_, True.intro⟩ | refine brn_t rfl ?_ | refine brn_f rfl ?_ | refine ob rfl ?_ | refine ob (by decide) ?_ | refine grow_same (Mem.le_refl _) ?_ | refine ob (Mem.le_refl _) ?_ | refine ⟨_, Mem.le_refl _, ?_⟩ | fail)
      refine appF M hN5 x rfl (by first | omega | (dsimp only; omega)) (by simp [maxLen]; omega) (by simp [Value.oneCell']) fun a6 c6 M6 hN6 _ => ?_
      (conv => whnf); refine ob (inR_i64 (by first | omega | (dsimp only; omega))) ?_
      (conv => whnf)
      refine ⟨⟨i + 1, M6, a6, c6, true, out ++ [x]⟩, fin true out _ _ _ hol hins hN6, by dsimp only; omega, ?_⟩
      simp only [List.length_append, List.length_cons, List.length_nil]
      exact ⟨(by repeat' first | exact True.intro | refine ⟨rfl, ?_⟩), (by repeat' first | exact True.intro | refine ⟨rfl, ?_⟩), Mem.le_refl _, rfl⟩
    | false =>
      repeat' ((conv => whnf); first | refine ⟨?_, True.intro⟩ | refine brn_t rfl ?_ | refine brn_f rfl ?_ | refine ob rfl ?_ | refine ob (by decide) ?_ | refine grow_same (Mem.le_refl _) ?_ | refine ob (Mem.le_refl _) ?_ | refine ⟨_, Mem.le_refl _, ?_⟩ | fail)
      refine ob (by first | omega | (dsimp only; omega)) ?_
      (conv => whnf); refine atp ha ?_
      (conv => whnf); refine on hrow4 ?_
      (conv => whnf); refine ⟨?_, True.intro⟩
      (conv => whnf); refine (lessR_ok k x).mono ?_
      rintro v _ ⟨rfl, rfl⟩
      repeat' ((conv => whnf); first | refine ob rfl ?_ | refine grow_same (Mem.le_refl _) ?_ | refine ob (Mem.le_refl _) ?_ | refine ⟨?_, True.intro⟩ | fail)
      refine brn (fun g1 => ?_) (fun g1 => ?_)
      · have g1' : lessK k x = true := g1
        have hins' : putK k L = (out ++ [k]) ++ x :: restK true k (L.drop (i + 1)) := by
          rw [hins]; simp [restK, putK, g1']
        repeat' ((conv => whnf); first | refine ⟨?_, True.intro⟩ | refine brn_t rfl ?_ | refine brn_f rfl ?_ | refine ob rfl ?_ | refine ob (by decide) ?_ | refine grow_same (Mem.le_refl _) ?_ | refine ob (Mem.le_refl _) ?_ | refine ⟨_, Mem.le_refl _, ?_⟩ | fail)
        refine appF M hN4 k rfl (by first | omega | (dsimp only; omega)) (by simp [maxLen]; omega) (by simp [Value.oneCell']) fun a5 c5 M5 hN5' _ => ?_
        have hrow5 := Mem.row_le hN5'.le hrow
        have hN5 : NewSl M T.portageref14_Key 3 a5 (out ++ [k]).length c5 ((out ++ [k]).flatMap encK) M5 := by simpa using hN5'
        have hol5 : (out ++ [k]).length = i + true.toNat := by simp at hol ⊢; omega
        (conv => whnf)
        have ho1 : out.length = i := by simpa using hol
        have hlen5 : (out ++ [k]).length = out.length + 1 := by simp
        rw [hlen5] at hN5
        repeat' ((conv => whnf); first | refine ⟨?_, True.intro⟩ | refine brn_t rfl ?_ | refine brn_f rfl ?_ | refine ob rfl ?_ | refine ob (by decide) ?_ | refine grow_same (Mem.le_refl _) ?_ | refine ob (Mem.le_refl _) ?_ | refine ⟨_, Mem.le_refl _, ?_⟩ | fail)
        refine ob (by first | omega | (dsimp only; omega)) ?_
        (conv => whnf); refine atp ha ?_
        (conv => whnf); refine on hrow5 ?_
        repeat' ((conv => whnf); first | refine ⟨?_, True.intro⟩ | refine brn_t rfl ?_ | refine brn_f rfl ?_ | refine ob rfl ?_ | refine ob (by decide) ?_ | refine grow_same (Mem.le_refl _) ?_ | refine ob (Mem.le_refl _) ?_ | refine ⟨_, Mem.le_refl _, ?_⟩ | fail)
        refine appF M hN5 x rfl (by first | omega | (dsimp only; omega)) (by simp [maxLen]; omega) (by simp [Value.oneCell']) fun a6 c6 M6 hN6 _ => ?_
        (conv => whnf); refine ob (inR_i64 (by first | omega | (dsimp only; omega))) ?_
        (conv => whnf)
        refine ⟨⟨i + 1, M6, a6, c6, true, (out ++ [k]) ++ [x]⟩, fin true (out ++ [k]) _ _ _ hol5 hins' (by simpa using hN6), by dsimp only; omega, ?_⟩
        simp only [List.length_append, List.length_cons, List.length_nil]
        exact ⟨(by repeat' first | exact True.intro | refine ⟨rfl, ?_⟩), (by repeat' first | exact True.intro | refine ⟨rfl, ?_⟩), Mem.le_refl _, rfl⟩
      · have g1' : lessK k x = false := g1
        have hins' : putK k L = out ++ x :: restK false k (L.drop (i + 1)) := by
          rw [hins]; simp [restK, putK, g1']
        have hrow5 := hrow4
        have hN5 := hN4
        repeat' ((conv => whnf); first | refine ⟨?_, True.intro⟩ | refine brn_t rfl ?_ | refine brn_f rfl ?_ | refine ob rfl ?_ | refine ob (by decide) ?_ | refine grow_same (Mem.le_refl _) ?_ | refine ob (Mem.le_refl _) ?_ | refine ⟨_, Mem.le_refl _, ?_⟩ | fail)
        refine ob (by first | omega | (dsimp only; omega)) ?_
        (conv => whnf); refine atp ha ?_
        (conv => whnf); refine on hrow5 ?_
        repeat' ((conv => whnf); first | refine ⟨?_, True.intro⟩ | refine brn_t rfl ?_ | refine brn_f rfl ?_ | refine ob rfl ?_ | refine ob (by decide) ?_ | refine grow_same (Mem.le_refl _) ?_ | refine ob (Mem.le_refl _) ?_ | refine ⟨_, Mem.le_refl _, ?_⟩ | fail)
        refine appF M hN5 x rfl (by first | omega | (dsimp only; omega)) (by simp [maxLen]; omega) (by simp [Value.oneCell']) fun a6 c6 M6 hN6 _ => ?_
        (conv => whnf); refine ob (inR_i64 (by first | omega | (dsimp only; omega))) ?_
        (conv => whnf)
        refine ⟨⟨i + 1, M6, a6, c6, false, out ++ [x]⟩, fin false out _ _ _ hol hins' hN6, by dsimp only; omega, ?_⟩
        simp only [List.length_append, List.length_cons, List.length_nil]
        exact ⟨(by repeat' first | exact True.intro | refine ⟨rfl, ?_⟩), (by repeat' first | exact True.intro | refine ⟨rfl, ?_⟩), Mem.le_refl _, rfl⟩
  · have hi' : i = n := by have := of_decide_eq_false g; dsimp only at this; omega
    subst hi'
    have hdr : L.drop i = [] := List.drop_of_length_le (by omega)
    rw [hdr] at hins
    cases dn with
    | true =>
      have ho1 : out.length = i + 1 := by simpa using hol
      simp only [restK, if_true, List.append_nil] at hins
      repeat' ((conv => whnf); first | refine ⟨?_, True.intro⟩ | refine brn_t rfl ?_ | refine brn_f rfl ?_ | refine ob rfl ?_ | refine ob (by decide) ?_ | refine grow_same (Mem.le_refl _) ?_ | refine ob (Mem.le_refl _) ?_ | refine ⟨_, Mem.le_refl _, ?_⟩ | fail)
      rw [hins]
      exact ⟨a4, c4, by rw [ho1], ho1 ▸ hN4⟩
    | false =>
      have ho1 : out.length = i := by simpa using hol
      have e : restK false k [] = [k] := rfl
      rw [e] at hins
      repeat' ((conv => whnf); first | refine ⟨?_, True.intro⟩ | refine brn_t rfl ?_ | refine brn_f rfl ?_ | refine ob rfl ?_ | refine ob (by decide) ?_ | refine grow_same (Mem.le_refl _) ?_ | refine ob (Mem.le_refl _) ?_ | refine ⟨_, Mem.le_refl _, ?_⟩ | fail)
      refine appF M hN4 k rfl (by first | omega | (dsimp only; omega)) (by simp [maxLen]; omega) (by simp [Value.oneCell']) fun a6 c6 M6 hN6 _ => ?_
      repeat' ((conv => whnf); first | refine ⟨?_, True.intro⟩ | refine brn_t rfl ?_ | refine brn_f rfl ?_ | refine ob rfl ?_ | refine ob (by decide) ?_ | refine grow_same (Mem.le_refl _) ?_ | refine ob (Mem.le_refl _) ?_ | refine ⟨_, Mem.le_refl _, ?_⟩ | fail)
      rw [hins]
      exact ⟨a6, c6, by rw [ho1], ho1 ▸ hN6⟩
end Go.Proofs.YtlocjjponfbhmaaGreat

/- Marks in order: how two are compared. -/
namespace Go.Proofs.YtlocjjponfbhmaaGreat
open Go Go.Vm
attribute [local irreducible] Brn Ob Grow CallsM inR LoopVC Mem.row Mem.cells Mem.setCells Mem.upd Own AppVC SrcVC StrVC NextVC New SrcOk subA NewSl Mem.textAt Mem.mapAt Mem.iterAt entryOf kfind Wr NewEls Elems
set_option maxRecDepth 10000
variable {M : Mem}
def cmpI (x y : Int) : Int := if x < y then -1 else if y < x then 1 else 0
theorem cmp_ok (x y : Int) : CallsM Tryz.prog F.cmp_Compare_int [.int .i64 x, .int .i64 y] M fun v M' => v = .int .i64 (cmpI x y) ∧ M = M' := by
  refine fo_cmp_Compare_int (by simp) ?_
  (conv => whnf); refine (isNaN_ok x).mono ?_
  rintro v _ ⟨rfl, rfl⟩
  repeat' ((conv => whnf); first | refine ⟨?_, True.intro⟩ | refine brn_t rfl ?_ | refine brn_f rfl ?_ | refine ob rfl ?_ | refine ob (by decide) ?_ | refine grow_same (Mem.le_refl _) ?_ | refine ob (Mem.le_refl _) ?_ | refine ⟨_, Mem.le_refl _, ?_⟩ | fail)
  refine (isNaN_ok y).mono ?_
  rintro v _ ⟨rfl, rfl⟩
  repeat' ((conv => whnf); first | refine ⟨?_, True.intro⟩ | refine brn_t rfl ?_ | refine brn_f rfl ?_ | refine ob rfl ?_ | refine ob (by decide) ?_ | refine grow_same (Mem.le_refl _) ?_ | refine ob (Mem.le_refl _) ?_ | refine ⟨_, Mem.le_refl _, ?_⟩ | fail)
  refine brn (fun h => ?_) (fun h => ?_)
  · repeat' ((conv => whnf); first | refine ⟨?_, True.intro⟩ | refine brn_t rfl ?_ | refine brn_f rfl ?_ | refine ob rfl ?_ | refine ob (by decide) ?_ | refine grow_same (Mem.le_refl _) ?_ | refine ob (Mem.le_refl _) ?_ | refine ⟨_, Mem.le_refl _, ?_⟩ | fail)
    exact ⟨by simp [cmpI, of_decide_eq_true h], rfl⟩
  · have h1 := of_decide_eq_false h
    (conv => whnf); refine brn (fun g => ?_) (fun g => ?_)
    · repeat' ((conv => whnf); first | refine ⟨?_, True.intro⟩ | refine brn_t rfl ?_ | refine brn_f rfl ?_ | refine ob rfl ?_ | refine ob (by decide) ?_ | refine grow_same (Mem.le_refl _) ?_ | refine ob (Mem.le_refl _) ?_ | refine ⟨_, Mem.le_refl _, ?_⟩ | fail)
      exact ⟨by simp [cmpI, h1, of_decide_eq_true g], rfl⟩
    · repeat' ((conv => whnf); first | refine ⟨?_, True.intro⟩ | refine brn_t rfl ?_ | refine brn_f rfl ?_ | refine ob rfl ?_ | refine ob (by decide) ?_ | refine grow_same (Mem.le_refl _) ?_ | refine ob (Mem.le_refl _) ?_ | refine ⟨_, Mem.le_refl _, ?_⟩ | fail)
      have g1 := of_decide_eq_false g
      refine ⟨?_, rfl⟩
      unfold cmpI
      rw [if_neg h1, if_neg g1]
def cmpL : List Int → List Int → Int
  | [], [] => 0
  | [], _ :: _ => -1
  | _ :: _, [] => 1
  | x :: r, y :: s => if cmpI x y ≠ 0 then cmpI x y else cmpL r s
theorem compare_ok {a b : Option Addr} {n m c d : Nat} {X Y : List Int} (hx : SrcOk M 1 a n (X.map intV)) (hy : SrcOk M 1 b m (Y.map intV)) (hn : n ≤ 4194304) (hm : m ≤ 4194304) :
    CallsM Tryz.prog F.slices_Compare_int_int [.slice a n c, .slice b m d] M fun v M' => v = .int .i64 (cmpL X Y) ∧ M = M' := by
  refine fo_slices_Compare_int_int (by simp) ?_
  have hX := hx.maplen
  have hY := hy.maplen
  (conv => whnf)
  refine loopQ [11] (fun (i : Nat) => [(11, .int .i64 i)]) (fun i => i ≤ n ∧ i ≤ m ∧ cmpL X Y = cmpL (X.drop i) (Y.drop i)) (fun i => n - i) 0 ⟨by omega, by omega, rfl⟩ ⟨(by repeat' first | exact True.intro | refine ⟨rfl, ?_⟩), (by repeat' first | exact True.intro | refine ⟨rfl, ?_⟩), Mem.le_refl _, rfl⟩ ?_
  rintro i ⟨hi, hj, he⟩
  (conv => whnf); refine brn (fun h => ?_) (fun h => ?_)
  · have hlt : i < n := by have := of_decide_eq_true h; omega
    obtain ⟨h1, b1, o1, rfl, hrow1⟩ := hx.at (i := i) hlt
    (conv => whnf); refine ob (by omega) ?_
    (conv => whnf); refine on hrow1 ?_
    (conv => whnf); refine brn (fun g => ?_) (fun g => ?_)
    · have hge : m ≤ i := by have := of_decide_eq_true g; omega
      repeat' ((conv => whnf); first | refine ⟨?_, True.intro⟩ | refine brn_t rfl ?_ | refine brn_f rfl ?_ | refine ob rfl ?_ | refine ob (by decide) ?_ | refine grow_same (Mem.le_refl _) ?_ | refine ob (Mem.le_refl _) ?_ | refine ⟨_, Mem.le_refl _, ?_⟩ | fail)
      refine ⟨?_, rfl⟩
      rw [he, List.drop_eq_getElem_cons h1, List.drop_of_length_le (l := Y) (by omega)]; rfl
    · have hlt2 : i < m := by have := of_decide_eq_false g; omega
      obtain ⟨h2, b2, o2, rfl, hrow2⟩ := hy.at (i := i) hlt2
      (conv => whnf); refine ob (by omega) ?_
      (conv => whnf); refine on hrow2 ?_
      (conv => whnf); refine (cmp_ok _ _).mono ?_
      rintro v _ ⟨rfl, rfl⟩
      have he2 : cmpL X Y = if cmpI X[i] Y[i] ≠ 0 then cmpI X[i] Y[i] else cmpL (X.drop (i + 1)) (Y.drop (i + 1)) := by
        rw [he, List.drop_eq_getElem_cons h1, List.drop_eq_getElem_cons h2]; rfl
      (conv => whnf); refine brn (fun k => ?_) (fun k => ?_)
      · have hk : cmpI X[i] Y[i] ≠ 0 := by simpa using k
        repeat' ((conv => whnf); first | refine ⟨?_, True.intro⟩ | refine brn_t rfl ?_ | refine brn_f rfl ?_ | refine ob rfl ?_ | refine ob (by decide) ?_ | refine grow_same (Mem.le_refl _) ?_ | refine ob (Mem.le_refl _) ?_ | refine ⟨_, Mem.le_refl _, ?_⟩ | fail)
        refine ⟨?_, rfl⟩
        rw [he2, if_pos hk]
      · have hk : ¬ cmpI X[i] Y[i] ≠ 0 := by simpa using k
        (conv => whnf); refine ob (inR_i64 (by omega)) ?_
        (conv => whnf)
        refine ⟨i + 1, ⟨by omega, by omega, ?_⟩, by omega, ⟨(by repeat' first | exact True.intro | refine ⟨rfl, ?_⟩), (by repeat' first | exact True.intro | refine ⟨rfl, ?_⟩), Mem.le_refl _, rfl⟩⟩
        rw [he2, if_neg hk]
  · have hge : n ≤ i := by have := of_decide_eq_false h; omega
    have hdx : X.drop i = [] := List.drop_of_length_le (by omega)
    (conv => whnf); refine brn (fun g => ?_) (fun g => ?_)
    · have hlt2 : i < m := by have := of_decide_eq_true g; omega
      repeat' ((conv => whnf); first | refine ⟨?_, True.intro⟩ | refine brn_t rfl ?_ | refine brn_f rfl ?_ | refine ob rfl ?_ | refine ob (by decide) ?_ | refine grow_same (Mem.le_refl _) ?_ | refine ob (Mem.le_refl _) ?_ | refine ⟨_, Mem.le_refl _, ?_⟩ | fail)
      refine ⟨?_, rfl⟩
      rw [he, hdx, List.drop_eq_getElem_cons (l := Y) (by omega)]; rfl
    · have hge2 : m ≤ i := by have := of_decide_eq_false g; omega
      repeat' ((conv => whnf); first | refine ⟨?_, True.intro⟩ | refine brn_t rfl ?_ | refine brn_f rfl ?_ | refine ob rfl ?_ | refine ob (by decide) ?_ | refine grow_same (Mem.le_refl _) ?_ | refine ob (Mem.le_refl _) ?_ | refine ⟨_, Mem.le_refl _, ?_⟩ | fail)
      refine ⟨?_, rfl⟩
      rw [he, hdx, List.drop_of_length_le (l := Y) (by omega)]; rfl
/-- a mark as it lies in a row -/
structure MkC where
  o : Int
  e : Int
  up : Int
  a : Option Addr
  c : Nat
  more : List Int
deriving Inhabited
@[reducible] def encM (m : MkC) : List Value := [.int .i64 m.o, .int .i64 m.e, .int .i64 m.up, .slice m.a m.more.length m.c]
theorem encM_len (m : MkC) : (encM m).length = 4 := rfl
def cmpM (x y : MkC) : Int := cmpL [x.o, x.e] [y.o, y.e]
theorem cmpM_ok (x y : MkC) : CallsM Tryz.prog F.seen_Set_Marks_1 [.agg (encM x).toArray, .agg (encM y).toArray] M fun v _ => v = .int .i64 (cmpM x y) := by
  refine fo_seen_Set_Marks_1 (by simp) ?_
  repeat' ((conv => whnf); first | refine ⟨?_, True.intro⟩ | refine brn_t rfl ?_ | refine brn_f rfl ?_ | refine ob rfl ?_ | refine ob (by decide) ?_ | refine grow_same (Mem.le_refl _) ?_ | refine ob (Mem.le_refl _) ?_ | refine ⟨_, Mem.le_refl _, ?_⟩ | fail)
  refine new (fun b1 hb1 => ?_)
  replace hb1 : M b1 = none := hb1
  repeat' ((conv => whnf); first | refine ⟨?_, True.intro⟩ | refine brn_t rfl ?_ | refine brn_f rfl ?_ | refine ob rfl ?_ | refine ob (by decide) ?_ | refine grow_same (Mem.le_refl _) ?_ | refine ob (Mem.le_refl _) ?_ | refine ⟨_, Mem.le_refl _, ?_⟩ | fail)
  refine new (fun b2 hb2 => ?_)
  replace hb2 : (M.setCells b1 T.int [.int .i64 x.o, .int .i64 x.e]) b2 = none := hb2
  repeat' ((conv => whnf); first | refine ⟨?_, True.intro⟩ | refine brn_t rfl ?_ | refine brn_f rfl ?_ | refine ob rfl ?_ | refine ob (by decide) ?_ | refine grow_same (Mem.le_refl _) ?_ | refine ob (Mem.le_refl _) ?_ | refine ⟨_, Mem.le_refl _, ?_⟩ | fail)
  refine (compare_ok (X := [x.o, x.e]) (Y := [y.o, y.e]) ?_ ?_ (by omega) (by omega)).mono ?_
  · exact ((Mem.has_setCells (M := M)).src rfl).le (Mem.le_setCells hb2)
  · exact Mem.has_setCells.src rfl
  rintro v _ ⟨rfl, rfl⟩
  repeat' ((conv => whnf); first | refine ⟨?_, True.intro⟩ | refine brn_t rfl ?_ | refine brn_f rfl ?_ | refine ob rfl ?_ | refine ob (by decide) ?_ | refine grow_same (Mem.le_refl _) ?_ | refine ob (Mem.le_refl _) ?_ | refine ⟨_, Mem.le_refl _, ?_⟩ | fail)
  rfl
theorem cmpM_lt (x y : MkC) : cmpM x y < 0 ↔ x.o < y.o ∨ (x.o = y.o ∧ x.e < y.e) := by
  unfold cmpM cmpL cmpL cmpL cmpI
  repeat' split
  all_goals omega
theorem cmpM_swo : Go.Sort.SWO (Go.Proofs.ltOf cmpM) := by
  have h : ∀ x y : MkC, Go.Proofs.ltOf cmpM x y = decide (x.o < y.o ∨ (x.o = y.o ∧ x.e < y.e)) := fun x y => by
    unfold Go.Proofs.ltOf
    simp only [cmpM_lt]
  refine ⟨fun x => ?_, fun x y z => ?_, fun x y z => ?_⟩ <;> simp only [h, decide_eq_true_eq, decide_eq_false_iff_not] <;> omega
end Go.Proofs.YtlocjjponfbhmaaGreat

/- The set of what was seen: its marks. -/
namespace Go.Proofs.YtlocjjponfbhmaaGreat
open Go Go.Vm
attribute [local irreducible] Brn Ob Grow CallsM inR LoopVC Mem.row Mem.cells Mem.setCells Mem.upd Own AppVC SrcVC StrVC NextVC New SrcOk subA NewSl Mem.textAt Mem.mapAt Mem.iterAt entryOf kfind Wr NewEls Elems
set_option maxRecDepth 10000
variable {M : Mem} {p b : Nat} {gaps : Int} {es : List ((Int × Int) × Ent)}
structure Mk where
  o : Int
  e : Int
  up : Int
  more : List Int
deriving DecidableEq
def MkC.mk' (m : MkC) : Mk := ⟨m.o, m.e, m.up, m.more⟩
def mkOf (q : (Int × Int) × Ent) : Mk := ⟨q.1.1, q.1.2, q.2.up, q.2.more⟩
/-- marks in new memory -/
structure MarksAt (M0 : Mem) (a : Option Addr) (n c : Nat) (l : List MkC) (M' : Mem) : Prop where
  row : NewSl M0 T.api_Mark 4 a n c (l.flatMap encM) M'
  more : ∀ m ∈ l, NewSl M0 T.int 1 m.a m.more.length m.c (m.more.map intV) M'
theorem MarksAt.len {M0 M' : Mem} {a : Option Addr} {n c : Nat} {l : List MkC} (h : MarksAt M0 a n c l M') : l.length = n := h.row.src.flen encM_len (by decide)
theorem encM_one (x : MkC) : ∀ v ∈ encM x, v.oneCell' = true := by
  intro v hv
  simp only [encM, List.mem_cons, List.not_mem_nil, or_false] at hv
  rcases hv with rfl | rfl | rfl | rfl <;> rfl
theorem Marks_ok (h : SetAt M p b gaps es) (hg : gapsE es ≤ 4194304) (hn : es.length ≤ 4194000) : CallsM Tryz.prog F.seen_Set_Marks [ptr p] M fun v M' =>
    ∃ a n c l, v = .slice a n c ∧ MarksAt M a n c l M' ∧ (l.map MkC.mk').Perm (es.map mkOf) ∧ l.Pairwise (fun x y => ¬ cmpM y x < 0) := by
  refine fo_seen_Set_Marks (by simp) ?_
  (conv => whnf); refine brn_f rfl ?_
  (conv => whnf); refine on (h.self.c1 rfl) ?_
  (conv => whnf)
  refine h.map.range fun q bi hbi hI => ?_
  replace hbi : M bi = none := hbi
  (conv => whnf)
  refine loopF (σ := Mem × (Option Addr × Nat × Nat) × List MkC × List ((Int × Int) × Ent)) [3] (fun x => [(3, .slice x.2.1.1 x.2.1.2.1 x.2.1.2.2)]) (fun _ => []) (fun x => x.1)
    (fun | ⟨M1, (a, n, c), l, todo⟩ => MarksAt M a n c l M1 ∧ Iter keyV entV M1 bi b es todo ∧ (l.map MkC.mk' ++ todo.map mkOf).Perm (es.map mkOf)) (fun x => x.2.2.2.length) ⟨_, (none, 0, 0), [], es⟩
    ⟨⟨(NewSl.none M _ _).up (Mem.le_upd hbi), by simp⟩, hI, .refl _⟩ ⟨(by repeat' first | exact True.intro | refine ⟨rfl, ?_⟩), (by repeat' first | exact True.intro | refine ⟨rfl, ?_⟩), Mem.le_refl _, rfl⟩ ?_
  rintro ⟨M1, ⟨a, n, c⟩, l, todo⟩ ⟨hMk, hI1, hperm⟩
  (conv => whnf)
  refine hI1.next (fun h0 => ?_) (fun i k todo' o' hperm2 hI2 hent => ?_)
  · subst h0
    repeat' ((conv => whnf); first | refine ⟨?_, True.intro⟩ | refine brn_t rfl ?_ | refine brn_f rfl ?_ | refine ob rfl ?_ | refine ob (by decide) ?_ | refine grow_same (Mem.le_refl _) ?_ | refine ob (Mem.le_refl _) ?_ | refine ⟨_, Mem.le_refl _, ?_⟩ | fail)
    have hlen := hMk.len
    refine (sortF_ok Tryz.laysF (by kernel_rfl) (k := 4) (by decide) Tryz.isAgg101 Tryz.sizeOf101 encM_len encM_one cmpM_swo (g := F.seen_Set_Marks_1) (fun args w => enters_run (by kernel_rfl) args w) (fun x y => cmpM_ok x y) hMk.row.wr (by have := hperm.length_eq; simp at this; omega)).mono ?_
    rintro v M5 ⟨rfl, l', hp', hs', hw', hk'⟩
    (conv => whnf)
    refine ⟨a, n, c, l', rfl, ⟨hMk.row.ofWr hw' hk' rfl, fun m hm => (hMk.more m (hp'.mem_iff.1 hm)).keep hk' (fun y ⟨q, hq, e⟩ => e ▸ (hMk.row.block hq).1) fun q hq ⟨q', hq', e⟩ => ?_⟩, ?_, hs'⟩
    · exact hMk.row.ne (hMk.more m (hp'.mem_iff.1 hm)) (by decide) hq' hq e
    · simpa using (hp'.map MkC.mk').trans (by simpa using hperm)
  · have hk2 : Mem.keep (fun y => y = bi) M1 (M1.upd bi o') := Mem.keep_upd _ _ rfl
    have hle2 : M.le (M1.upd bi o') := fun y o hb => by
      rw [Mem.upd_ne _ _ (fun e => by subst e; rw [hbi] at hb; cases hb)]; exact hMk.row.le _ _ hb
    have hMk2 : MarksAt M a n c l (M1.upd bi o') := ⟨hMk.row.keep hk2 (fun y e => e ▸ hbi) (fun q hq e => by
        obtain ⟨_, cs, hh⟩ := hMk.row.block hq
        exact (hI1.nb hh).1 e), fun m hm => (hMk.more m hm).keep hk2 (fun y e => e ▸ hbi) (fun q hq e => by
        obtain ⟨_, cs, hh⟩ := (hMk.more m hm).block hq
        exact (hI1.nb hh).1 e)⟩
    obtain ⟨M2, hM2⟩ : ∃ M2, M2 = M1.upd bi o' := ⟨_, rfl⟩
    rw [← hM2] at hI2 hent hle2 hMk2
    have hmem : (i, k) ∈ es := hI1.todo_sub _ (hperm2.mem_iff.2 (by simp))
    have hke := (h.le hle2).ents _ hmem
    have hkl : k.more.length ≤ 4194304 := Nat.le_trans (gapsE_le hmem) hg
    (conv => whnf)
    erw [← hM2]
    repeat' ((conv => whnf); first | refine ⟨?_, True.intro⟩ | refine brn_t rfl ?_ | refine brn_f rfl ?_ | refine ob rfl ?_ | refine ob (by decide) ?_ | refine grow_same (Mem.le_refl _) ?_ | refine ob (Mem.le_refl _) ?_ | refine ⟨_, Mem.le_refl _, ?_⟩ | fail)
    refine on hent ?_
    repeat' ((conv => whnf); first | refine ⟨?_, True.intro⟩ | refine brn_t rfl ?_ | refine brn_f rfl ?_ | refine ob rfl ?_ | refine ob (by decide) ?_ | refine grow_same (Mem.le_refl _) ?_ | refine ob (Mem.le_refl _) ?_ | refine ⟨_, Mem.le_refl _, ?_⟩ | fail)
    refine on (hke.self.c1 rfl) ?_
    repeat' ((conv => whnf); first | refine ⟨?_, True.intro⟩ | refine brn_t rfl ?_ | refine brn_f rfl ?_ | refine ob rfl ?_ | refine ob (by decide) ?_ | refine grow_same (Mem.le_refl _) ?_ | refine ob (Mem.le_refl _) ?_ | refine ⟨_, Mem.le_refl _, ?_⟩ | fail)
    refine on (hke.self.c1 rfl) ?_
    repeat' ((conv => whnf); first | refine ⟨?_, True.intro⟩ | refine brn_t rfl ?_ | refine brn_f rfl ?_ | refine ob rfl ?_ | refine ob (by decide) ?_ | refine grow_same (Mem.le_refl _) ?_ | refine ob (Mem.le_refl _) ?_ | refine ⟨_, Mem.le_refl _, ?_⟩ | fail)
    refine new (fun b1 hb1 => ?_)
    replace hb1 : M2 b1 = none := hb1
    have hN1 : NewSl M2 T.int 1 (some ⟨b1, 0, none⟩) 0 0 (([] : List Int).map intV) _ := NewSl.lit hb1 T.int 1 0 [] rfl
    obtain ⟨M3, hM3⟩ : ∃ M3, M3 = M2.setCells b1 T.int [] := ⟨_, rfl⟩
    rw [← hM3] at hN1
    (conv => whnf)
    erw [← hM3]
    repeat' ((conv => whnf); first | refine ob rfl ?_ | refine grow_same hN1.le ?_ | refine ob hN1.le ?_ | refine ⟨?_, True.intro⟩ | fail)
    (conv => whnf)
    refine srcv (hke.more.src.le hN1.le) ?_
    (conv => whnf); refine appN M2 _ hN1 (by dsimp only; omega) (by dsimp only; simp [maxLen]; omega) (by simp [Value.oneCell']) fun a5 c5 M4 hN4 => ?_
    have hMk4 : MarksAt M a n c l M4 := ⟨hMk2.row.up hN4.le, fun m hm => (hMk2.more m hm).up hN4.le⟩
    have hnew : NewSl M T.int 1 a5 k.more.length c5 (k.more.map intV) M4 := by
      have := hN4.mono hle2
      simpa using this
    have hlen := hMk.len
    have hlt : l.length < es.length := by have := hperm.length_eq; have := hperm2.length_eq; simp at *; omega
    repeat' ((conv => whnf); first | refine ob rfl ?_ | refine grow_same hN4.le ?_ | refine ob hN4.le ?_ | refine ⟨?_, True.intro⟩ | fail)
    (conv => whnf)
    refine appF M hMk4.row ⟨i.1, i.2, k.up, a5, c5, k.more⟩ (by simp) (by dsimp only; omega) (by dsimp only; simp [maxLen]; omega) (by simp [Value.oneCell']) fun a6 c6 M6 hN6 hk6 => ?_
    (conv => whnf)
    have hfr : ∀ y, blk a y → M y = none := fun y ⟨q, hq, e⟩ => e ▸ (hMk4.row.block hq).1
    have hI4 := hI2.le hN4.le
    have hnb : ∀ y, blk a y → y ≠ bi ∧ y ≠ b := fun y ⟨q, hq, e⟩ => by
      obtain ⟨_, cs, hh⟩ := hMk4.row.block hq
      exact e ▸ hI4.nb hh
    have hI6 := hI4.keep hk6 (fun hb => (hnb _ hb).1 rfl) (fun hb => (hnb _ hb).2 rfl)
    refine ⟨⟨M6, (a6, n + 1, c6), l ++ [⟨i.1, i.2, k.up, a5, c5, k.more⟩], todo'⟩, ⟨⟨hN6, fun m hm => ?_⟩, hI6, ?_⟩, by have := hperm2.length_eq; simp at this ⊢; omega, ⟨(by repeat' first | exact True.intro | refine ⟨rfl, ?_⟩), (by repeat' first | exact True.intro | refine ⟨rfl, ?_⟩), Mem.le_refl _, rfl⟩⟩
    · rcases List.mem_append.1 hm with hm | hm
      · exact (hMk4.more m hm).keep hk6 hfr fun q hq ⟨q', hq', e⟩ => hMk4.row.ne (hMk4.more m hm) (by decide) hq' hq e
      · simp only [List.mem_singleton] at hm
        subst hm
        exact hnew.keep hk6 hfr fun q hq ⟨q', hq', e⟩ => hMk4.row.ne hnew (by decide) hq' hq e
    · refine List.Perm.trans ?_ hperm
      rw [List.map_append, List.append_assoc]
      refine List.Perm.append_left _ ?_
      have := hperm2.map mkOf
      simpa [MkC.mk', mkOf] using this.symm
end Go.Proofs.YtlocjjponfbhmaaGreat

