/- Tables of ways: the document's table: what is made of it. -/
import Derived.Test.YtankgacaeejlhaaRoutesQ
import Derived.Test.YtankgacaeejlhaaRoutesD
import Derived.Test.YtankgacaeejlhaaVmP
namespace Go.Proofs.Ytankgacaeejlhaa
open Go Go.Vm
attribute [local irreducible] Brn Ob CallsM inR LoopVC Mem.row Mem.cells Mem.setCells Mem.upd Own AppVC SrcVC StrVC NextVC New SrcOk subA NewSl Mem.textAt Mem.mapAt Mem.iterAt entryOf kfind Wr NewEls Elems
set_option maxRecDepth 10000
variable {M : Mem} {q : Ref} {nb : List Int} {st : List (Int × Int)} {l : List (Int × Hd)}
theorem same_ok {a a' : Option Addr} {n c n' c' : Nat} {l l' : List Int} (hs : SrcOk M 1 a n (l.map intV)) (hs' : SrcOk M 1 a' n' (l'.map intV)) (hn : n ≤ 4194304) : CallsM Try.prog F.ref06_Same [.slice a n c, .slice a' n' c'] M fun v M' => v = .bool (decide (l = l')) ∧ M = M' := by
  refine fo_ref06_Same (by simp) ?_
  have hl := hs.maplen
  have hl' := hs'.maplen
  (conv => whnf); refine brn (fun g => ?_) (fun g => ?_)
  · have e : ¬ l = l' := fun e => by subst e; simp at g; omega
    (conv => whnf)
    exact ⟨by simp [e], rfl⟩
  have hnn : n' = n := by simp at g; omega
  subst hnn
  (conv => whnf)
  refine loopQ (σ := Nat) [5] (fun i => [(5, .int .i64 i)]) (fun i => i ≤ n' ∧ ∀ j, j < i → l[j]? = l'[j]?) (fun i => n' - i) 0 ⟨by omega, fun j hj => by omega⟩ ⟨(by repeat' first | exact True.intro | refine ⟨rfl, ?_⟩), (by repeat' first | exact True.intro | refine ⟨rfl, ?_⟩), Mem.le_refl _, rfl⟩ ?_
  intro i ⟨hi, he⟩
  (conv => whnf); refine brn (fun g => ?_) (fun g => ?_)
  · have hi' : i < n' := by have := of_decide_eq_true g; omega
    obtain ⟨hlt, b, o, rfl, hrow⟩ := hs.at (i := i) hi'
    obtain ⟨hlt', b', o', rfl, hrow'⟩ := hs'.at (i := i) hi'
    (conv => whnf); refine ob (by omega) ?_
    (conv => whnf); refine on hrow ?_
    (conv => whnf); refine ob (by omega) ?_
    (conv => whnf); refine on hrow' ?_
    (conv => whnf); refine brn (fun g1 => ?_) (fun g1 => ?_)
    · have hne : ¬ l[i] = l'[i] := by simpa using g1
      have e : ¬ l = l' := fun e => by subst e; exact hne rfl
      (conv => whnf)
      exact ⟨by simp [e], rfl⟩
    · have heq : l[i] = l'[i] := by simpa using g1
      (conv => whnf); refine ob (inR_i64 (by omega)) ?_
      (conv => whnf)
      refine ⟨i + 1, ⟨by omega, fun j hj => ?_⟩, by omega, ⟨(by repeat' first | exact True.intro | refine ⟨rfl, ?_⟩), (by repeat' first | exact True.intro | refine ⟨rfl, ?_⟩), Mem.le_refl _, rfl⟩⟩
      by_cases e : j = i
      · subst e; rw [List.getElem?_eq_getElem hlt, List.getElem?_eq_getElem hlt', heq]
      · exact he j (by omega)
  · have hi' : i = n' := by have := of_decide_eq_false g; omega
    have e : l = l' := List.ext_getElem? fun j => by
      by_cases hj : j < n'
      · exact he j (by omega)
      · rw [List.getElem?_eq_none (by omega), List.getElem?_eq_none (by omega)]
    (conv => whnf)
    exact ⟨by simp [e], rfl⟩
def vecR (me : Int) (nb : List Int) (st : List (Int × Int)) (l : List (Int × Hd)) (to d : Int) : Int := if nextR me nb st l d = some to then 16 else costR me nb st l d
theorem range_snoc {α : Type} (f : Nat → α) (i : Nat) : (List.range (i + 1)).map f = (List.range i).map f ++ [f i] := by rw [List.range_succ, List.map_append]; rfl
theorem RefAt.le {M' : Mem} (h : RefAt M q nb st l) (hle : M.le M') : RefAt M' q nb st l :=
  ⟨h.nb.le hle, h.st.imp hle fun _ _ _ h => h, h.l.imp hle fun cs x _ ⟨a, c, e, hs⟩ => ⟨a, c, e, hs.le hle⟩, h.s1, h.s2, h.s3⟩
theorem vectorR_ok (h : RefAt M q nb st l) (hg : GoodM l) (me age to : Int) : CallsM Try.prog F.ref18_Vector [q.v me age, .int .i64 to] M fun v M' =>
    (to ∉ nb ∧ v = .slice none 0 0 ∧ M' = M) ∨ (to ∈ nb ∧ ∃ a c, v = .slice a 64 c ∧ NewSl M T.int 1 a 64 c (((List.range 64).map fun (d : Nat) => vecR me nb st l to d).map intV) M') := by
  refine fo_ref18_Vector (by simp) ?_
  (conv => whnf); refine (hasR_ok h.nb h.s1 to).mono ?_
  rintro v _ ⟨rfl, rfl⟩
  (conv => whnf); refine brn (fun g => ?_) (fun g => ?_)
  · (conv => whnf)
    exact .inl ⟨by simpa using g, rfl, rfl⟩
  have hto : to ∈ nb := by simpa using g
  (conv => whnf); refine new (fun b0 hb0 => ?_)
  replace hb0 : M b0 = none := hb0
  have hN : NewSl M T.int 1 _ 0 0 (([] : List Int).map intV) _ := NewSl.lit hb0 T.int 1 0 [] rfl
  obtain ⟨M1, hM1⟩ : ∃ M1, M1 = M.setCells b0 T.int [] := ⟨_, rfl⟩
  rw [← hM1] at hN
  (conv => whnf)
  erw [← hM1]
  refine loopF (σ := Nat × Mem × Option Addr × Nat) [6, 5] (fun x => [(6, .int .i64 x.1), (5, .slice x.2.2.1 x.1 x.2.2.2)]) (fun _ => [.live T.portageref18_Table [.v (.int .i64 me), .v (.int .i64 age), .v (.slice q.a q.n q.c), .v (.slice q.a2 q.n2 q.c2), .v (.slice q.a3 q.n3 q.c3)], .gone b0]) (fun x => x.2.1)
    (fun | ⟨i, M2, a, c⟩ => i ≤ 64 ∧ NewSl M T.int 1 a i c (((List.range i).map fun (d : Nat) => vecR me nb st l to d).map intV) M2) (fun x => 64 - x.1) ⟨0, M1, _, _⟩ ⟨by omega, hN⟩ ⟨(by repeat' first | exact True.intro | refine ⟨rfl, ?_⟩), (by repeat' first | exact True.intro | refine ⟨rfl, ?_⟩), Mem.le_refl _, rfl⟩ ?_
  rintro ⟨i, M2, a, c⟩ ⟨hi, hN2⟩
  have h2 := h.le hN2.le
  (conv => whnf); refine brn (fun g => ?_) (fun g => ?_)
  · have hi' : i < 64 := by have := of_decide_eq_true g; dsimp only at this; omega
    (conv => whnf); refine (nextR_ok h2 hg me age i).mono ?_
    rintro v _ ⟨rfl, rfl⟩
    have step : ∀ (M3 : Mem) (a' : Option Addr) (c' : Nat) (x : Int), x = vecR me nb st l to i → NewSl M T.int 1 a' (i + 1) c' (((List.range i).map fun (d : Nat) => vecR me nb st l to d).map intV ++ [intV x]) M3 →
        (i + 1 ≤ 64 ∧ NewSl M T.int 1 a' (i + 1) c' (((List.range (i + 1)).map fun (d : Nat) => vecR me nb st l to d).map intV) M3) := fun M3 a' c' x hx hN3 => by
      refine ⟨by omega, ?_⟩
      rw [range_snoc, List.map_append, ← hx]; exact hN3
    cases hnx : nextR me nb st l i with
    | none =>
      repeat' ((conv => whnf); first | refine ⟨?_, True.intro⟩ | refine brn_t rfl ?_ | refine brn_f rfl ?_ | refine ob rfl ?_ | refine ob (by decide) ?_ | refine ob (Mem.le_refl _) ?_ | refine ⟨_, Mem.le_refl _, ?_⟩ | fail)
      refine (costR_ok h2 hg me age i).mono ?_
      rintro v _ ⟨rfl, rfl⟩
      repeat' ((conv => whnf); first | refine ⟨?_, True.intro⟩ | refine brn_t rfl ?_ | refine brn_f rfl ?_ | refine ob rfl ?_ | refine ob (by decide) ?_ | refine ob (Mem.le_refl _) ?_ | refine ⟨_, Mem.le_refl _, ?_⟩ | fail)
      refine appN M _ hN2 (by first | omega | (dsimp only; omega)) (by simp [maxLen]; omega) (by simp [Value.oneCell']) fun a5 c5 M5 hN5 => ?_
      (conv => whnf); refine ob (inR_i64 (by first | omega | (dsimp only; omega))) ?_
      (conv => whnf)
      exact ⟨⟨i + 1, M5, a5, c5⟩, step _ _ _ _ (by simp [vecR, hnx]) hN5, by dsimp only; omega, ⟨(by repeat' first | exact True.intro | refine ⟨rfl, ?_⟩), (by repeat' first | exact True.intro | refine ⟨rfl, ?_⟩), Mem.le_refl _, rfl⟩⟩
    | some k =>
      repeat' ((conv => whnf); first | refine ⟨?_, True.intro⟩ | refine brn_t rfl ?_ | refine brn_f rfl ?_ | refine ob rfl ?_ | refine ob (by decide) ?_ | refine ob (Mem.le_refl _) ?_ | refine ⟨_, Mem.le_refl _, ?_⟩ | fail)
      refine brn (fun g1 => ?_) (fun g1 => ?_)
      · have e : k = to := of_decide_eq_true g1
        subst e
        repeat' ((conv => whnf); first | refine ⟨?_, True.intro⟩ | refine brn_t rfl ?_ | refine brn_f rfl ?_ | refine ob rfl ?_ | refine ob (by decide) ?_ | refine ob (Mem.le_refl _) ?_ | refine ⟨_, Mem.le_refl _, ?_⟩ | fail)
        refine appN M _ hN2 (by first | omega | (dsimp only; omega)) (by simp [maxLen]; omega) (by simp [Value.oneCell']) fun a5 c5 M5 hN5 => ?_
        (conv => whnf); refine ob (inR_i64 (by first | omega | (dsimp only; omega))) ?_
        (conv => whnf)
        exact ⟨⟨i + 1, M5, a5, c5⟩, step _ _ _ 16 (by simp [vecR, hnx]) hN5, by dsimp only; omega, ⟨(by repeat' first | exact True.intro | refine ⟨rfl, ?_⟩), (by repeat' first | exact True.intro | refine ⟨rfl, ?_⟩), Mem.le_refl _, rfl⟩⟩
      · have e : k ≠ to := of_decide_eq_false g1
        repeat' ((conv => whnf); first | refine ⟨?_, True.intro⟩ | refine brn_t rfl ?_ | refine brn_f rfl ?_ | refine ob rfl ?_ | refine ob (by decide) ?_ | refine ob (Mem.le_refl _) ?_ | refine ⟨_, Mem.le_refl _, ?_⟩ | fail)
        refine (costR_ok h2 hg me age i).mono ?_
        rintro v _ ⟨rfl, rfl⟩
        repeat' ((conv => whnf); first | refine ⟨?_, True.intro⟩ | refine brn_t rfl ?_ | refine brn_f rfl ?_ | refine ob rfl ?_ | refine ob (by decide) ?_ | refine ob (Mem.le_refl _) ?_ | refine ⟨_, Mem.le_refl _, ?_⟩ | fail)
        refine appN M _ hN2 (by first | omega | (dsimp only; omega)) (by simp [maxLen]; omega) (by simp [Value.oneCell']) fun a5 c5 M5 hN5 => ?_
        (conv => whnf); refine ob (inR_i64 (by first | omega | (dsimp only; omega))) ?_
        (conv => whnf)
        exact ⟨⟨i + 1, M5, a5, c5⟩, step _ _ _ _ (by simp [vecR, hnx, e]) hN5, by dsimp only; omega, ⟨(by repeat' first | exact True.intro | refine ⟨rfl, ?_⟩), (by repeat' first | exact True.intro | refine ⟨rfl, ?_⟩), Mem.le_refl _, rfl⟩⟩
  · have hi' : i = 64 := by have := of_decide_eq_false g; dsimp only at this; omega
    subst hi'
    (conv => whnf)
    exact .inr ⟨hto, a, c, rfl, hN2⟩
theorem fromsR_ok (h : RefAt M q nb st l) (me age : Int) : CallsM Try.prog F.ref18_Froms [q.v me age] M fun v M' => ∃ a c, v = .slice a l.length c ∧ NewSl M T.int 1 a l.length c ((l.map (·.1)).map intV) M' := by
  refine fo_ref18_Froms (by simp) ?_
  have hl := h.l.len
  have hs3 := h.s3
  (conv => whnf); refine new (fun b0 hb0 => ?_)
  replace hb0 : M b0 = none := hb0
  have hN : NewSl M T.int 1 _ 0 0 ((([] : List (Int × Hd)).map (·.1)).map intV) _ := NewSl.lit hb0 T.int 1 0 [] rfl
  obtain ⟨M1, hM1⟩ : ∃ M1, M1 = M.setCells b0 T.int [] := ⟨_, rfl⟩
  replace hN : NewSl M T.int 1 (some ⟨b0, 0, none⟩) 0 0 ((([] : List (Int × Hd)).map (·.1)).map intV) M1 := hM1 ▸ hN
  (conv => whnf)
  erw [← hM1]
  refine loopF (σ := Nat × Mem × Option Addr × Nat) [4, 3] (fun x => [(4, .int .i64 x.1), (3, .slice x.2.2.1 x.1 x.2.2.2)]) (fun _ => [.live T.portageref18_Table [.v (.int .i64 me), .v (.int .i64 age), .v (.slice q.a q.n q.c), .v (.slice q.a2 q.n2 q.c2), .v (.slice q.a3 q.n3 q.c3)], .gone b0]) (fun x => x.2.1)
    (fun | ⟨i, M2, a, c⟩ => i ≤ l.length ∧ NewSl M T.int 1 a i c (((l.take i).map (·.1)).map intV) M2) (fun x => l.length - x.1) ⟨0, M1, _, _⟩ ⟨by omega, hN⟩ ⟨(by repeat' first | exact True.intro | refine ⟨rfl, ?_⟩), (by repeat' first | exact True.intro | refine ⟨rfl, ?_⟩), Mem.le_refl _, rfl⟩ ?_
  rintro ⟨i, M2, a, c⟩ ⟨hi, hN2⟩
  have h2 := h.le hN2.le
  (conv => whnf); refine brn (fun g => ?_) (fun g => ?_)
  · have hi' : i < q.n3 := by have := of_decide_eq_true g; dsimp only at this; omega
    obtain ⟨hlt, b, o, cs, ha, hrows, hrow, hcl, a4, c4, rfl, hc4⟩ := h2.l.at (by decide) (i := i) hi'
    (conv => whnf); refine ob (by first | omega | (dsimp only; omega)) ?_
    (conv => whnf); refine atp ha ?_
    (conv => whnf); refine on (hrows 0 1 (by decide)) ?_
    repeat' ((conv => whnf); first | refine ⟨?_, True.intro⟩ | refine brn_t rfl ?_ | refine brn_f rfl ?_ | refine ob rfl ?_ | refine ob (by decide) ?_ | refine ob (Mem.le_refl _) ?_ | refine ⟨_, Mem.le_refl _, ?_⟩ | fail)
    refine appN M _ hN2 (by first | omega | (dsimp only; omega)) (by simp [maxLen]; omega) (by simp [Value.oneCell']) fun a5 c5 M5 hN5 => ?_
    (conv => whnf); refine ob (inR_i64 (by first | omega | (dsimp only; omega))) ?_
    (conv => whnf)
    refine ⟨⟨i + 1, M5, a5, c5⟩, ⟨by omega, ?_⟩, by dsimp only; omega, ⟨(by repeat' first | exact True.intro | refine ⟨rfl, ?_⟩), (by repeat' first | exact True.intro | refine ⟨rfl, ?_⟩), Mem.le_refl _, rfl⟩⟩
    rw [List.take_add_one, List.getElem?_eq_getElem hlt]
    simp only [Option.toList_some, List.map_append, List.map_cons, List.map_nil]
    exact hN5
  · have hi' : i = l.length := by have := of_decide_eq_false g; dsimp only at this; omega
    subst hi'
    rw [List.take_of_length_le (Nat.le_refl _)] at hN2
    (conv => whnf)
    exact ⟨a, c, rfl, hN2⟩
theorem rightR_ok {a : Option Addr} {n c : Nat} {l : List Int} (hs : SrcOk M 1 a n (l.map intV)) (hn : n ≤ 4194304) : CallsM Try.prog F.ref18_Right [.slice a n c] M fun v M' => v = .bool (rightC l) ∧ M = M' := by
  refine fo_ref18_Right (by simp) ?_
  have hl := hs.maplen
  (conv => whnf)
  refine loopQ (σ := Nat) [3] (fun i => [(3, .int .i64 i)]) (fun i => i ≤ n ∧ ∀ x, x ∈ l.take i → isCost x = true) (fun i => n - i) 0 ⟨by omega, by simp⟩ ⟨(by repeat' first | exact True.intro | refine ⟨rfl, ?_⟩), (by repeat' first | exact True.intro | refine ⟨rfl, ?_⟩), Mem.le_refl _, rfl⟩ ?_
  intro i ⟨hi, he⟩
  (conv => whnf); refine brn (fun g => ?_) (fun g => ?_)
  · have hi' : i < n := by have := of_decide_eq_true g; omega
    obtain ⟨hlt, b, o, rfl, hrow⟩ := hs.at (i := i) hi'
    have bad : isCost l[i] = false → rightC l = false := fun hb => by
      have : l.all isCost = false := by
        rw [List.all_eq_false]; exact ⟨_, List.getElem_mem hlt, by simp [hb]⟩
      simp [rightC, this]
    (conv => whnf); refine ob (by omega) ?_
    (conv => whnf); refine on hrow ?_
    (conv => whnf); refine brn (fun g1 => ?_) (fun g1 => ?_)
    · have hb := bad (by have : l[i] < 0 := by simpa using g1
                         simp [isCost]; omega)
      repeat' ((conv => whnf); first | refine ⟨?_, True.intro⟩ | refine brn_t rfl ?_ | refine brn_f rfl ?_ | refine ob rfl ?_ | refine ob (by decide) ?_ | refine ob (Mem.le_refl _) ?_ | refine ⟨_, Mem.le_refl _, ?_⟩ | fail)
      exact ⟨by rw [hb], rfl⟩
    (conv => whnf); refine ob (by omega) ?_
    (conv => whnf); refine on hrow ?_
    (conv => whnf); refine brn (fun g2 => ?_) (fun g2 => ?_)
    · have hb := bad (by have : 16 < l[i] := by simpa using g2
                         simp [isCost]; omega)
      repeat' ((conv => whnf); first | refine ⟨?_, True.intro⟩ | refine brn_t rfl ?_ | refine brn_f rfl ?_ | refine ob rfl ?_ | refine ob (by decide) ?_ | refine ob (Mem.le_refl _) ?_ | refine ⟨_, Mem.le_refl _, ?_⟩ | fail)
      exact ⟨by rw [hb], rfl⟩
    (conv => whnf); refine ob (inR_i64 (by omega)) ?_
    (conv => whnf)
    refine ⟨i + 1, ⟨by omega, fun x hx => ?_⟩, by omega, ⟨(by repeat' first | exact True.intro | refine ⟨rfl, ?_⟩), (by repeat' first | exact True.intro | refine ⟨rfl, ?_⟩), Mem.le_refl _, rfl⟩⟩
    rw [List.take_add_one, List.getElem?_eq_getElem hlt] at hx
    rcases List.mem_append.1 hx with hx | hx
    · exact he x hx
    · simp at hx; subst hx
      simp at g1 g2
      simp [isCost]; omega
  · have hi' : i = n := by have := of_decide_eq_false g; omega
    rw [List.take_of_length_le (by omega)] at he
    (conv => whnf)
    have : l.all isCost = true := List.all_eq_true.2 he
    exact ⟨by simp [rightC, this, hl]; omega, rfl⟩
end Go.Proofs.Ytankgacaeejlhaa
