/- Tables of ways: the document's table: begun, routes set, grown old. -/
import Derived.Test.YtankgacaeejlhaaRoutesR
import Derived.Test.YtankgacaeejlhaaRoutesP
namespace Go.Proofs.Ytankgacaeejlhaa
open Go Go.Vm
attribute [local irreducible] Brn Ob CallsM inR LoopVC Mem.row Mem.cells Mem.setCells Mem.upd Own AppVC SrcVC StrVC NextVC New SrcOk subA NewSl Mem.textAt Mem.mapAt Mem.iterAt entryOf kfind Wr NewEls Elems
set_option maxRecDepth 10000
variable {M : Mem} {q : Ref} {nb : List Int} {st : List (Int × Int)} {l : List (Int × Hd)}
@[reducible] def noRef : Value := .agg #[.int .i64 0, .int .i64 0, .slice none 0 0, .slice none 0 0, .slice none 0 0]
theorem newR_ok (me age : Int) {a : Option Addr} {n c : Nat} (hs : SrcOk M 1 a n (nb.map intV)) (hn : n ≤ 4194304) :
    CallsM Try.prog F.ref18_New [.int .i64 me, .slice a n c, .int .i64 age] M fun v M' =>
      (newE me nb age ≠ 0 ∧ v = .tuple #[noRef, .int .i64 (newE me nb age)] ∧ M' = M) ∨
      (newE me nb age = 0 ∧ ∃ a' c', v = .tuple #[(⟨a', n, c', none, 0, 0, none, 0, 0⟩ : Ref).v me age, .int .i64 0] ∧ NewSl M T.int 1 a' n c' (nb.map intV) M') := by
  refine fo_ref18_New (by simp) ?_
  have hl := hs.maplen
  have e1 : (isNode me && !decide (age < 1) && !decide (64 < age)) = false → newE me nb age = 1 := fun h => by simp only [newE, h]; rfl
  (conv => whnf); refine (nodeR_ok me).mono ?_
  rintro v _ ⟨rfl, rfl⟩
  (conv => whnf); refine brn (fun h => ?_) (fun h => ?_)
  · have e := e1 (by simp at h; simp [h])
    repeat' ((conv => whnf); first | refine ⟨?_, True.intro⟩ | refine brn_t rfl ?_ | refine brn_f rfl ?_ | refine ob rfl ?_ | refine ob (by decide) ?_ | refine ob (Mem.le_refl _) ?_ | refine ⟨_, Mem.le_refl _, ?_⟩ | fail)
    exact .inl ⟨by rw [e]; decide, by rw [e], rfl⟩
  (conv => whnf); refine brn (fun h1 => ?_) (fun h1 => ?_)
  · have e := e1 (by simp at h1; simp [h1])
    repeat' ((conv => whnf); first | refine ⟨?_, True.intro⟩ | refine brn_t rfl ?_ | refine brn_f rfl ?_ | refine ob rfl ?_ | refine ob (by decide) ?_ | refine ob (Mem.le_refl _) ?_ | refine ⟨_, Mem.le_refl _, ?_⟩ | fail)
    exact .inl ⟨by rw [e]; decide, by rw [e], rfl⟩
  (conv => whnf); refine brn (fun h2 => ?_) (fun h2 => ?_)
  · have e := e1 (by simp at h2; simp [h2])
    repeat' ((conv => whnf); first | refine ⟨?_, True.intro⟩ | refine brn_t rfl ?_ | refine brn_f rfl ?_ | refine ob rfl ?_ | refine ob (by decide) ?_ | refine ob (Mem.le_refl _) ?_ | refine ⟨_, Mem.le_refl _, ?_⟩ | fail)
    exact .inl ⟨by rw [e]; decide, by rw [e], rfl⟩
  have e2 : newE me nb age = if okNb me (-1) nb then 0 else 2 := by
    simp only [Bool.not_eq_false'] at h
    simp only [newE, h, h1, h2]; rfl
  (conv => whnf)
  refine loopQ (σ := Nat) [8] (fun i => [(8, .int .i64 i)]) (fun i => i ≤ n ∧ ∃ last : Int, (∀ j, i = j + 1 → nb[j]? = some last) ∧ (i = 0 → last = -1) ∧ okNb me (-1) nb = okNb me last (nb.drop i)) (fun i => n - i) 0
    ⟨by omega, -1, by omega, fun _ => rfl, rfl⟩ ⟨(by repeat' first | exact True.intro | refine ⟨rfl, ?_⟩), (by repeat' first | exact True.intro | refine ⟨rfl, ?_⟩), Mem.le_refl _, rfl⟩ ?_
  rintro i ⟨hi, last, hp, h0, hok⟩
  (conv => whnf); refine brn (fun g => ?_) (fun g => ?_)
  · have hi' : i < n := by have := of_decide_eq_true g; omega
    obtain ⟨hlt, b, o, rfl, hrow⟩ := hs.at (i := i) hi'
    rw [List.drop_eq_getElem_cons hlt, okNb] at hok
    have hgi : nb[i]? = some nb[i] := List.getElem?_eq_getElem hlt
    generalize nb[i] = y at *
    have bad : (isNode y && !decide (y = me) && !decide (y ≤ last)) = false → newE me nb age = 2 := fun hb => by rw [e2, hok, hb]; rfl
    have go : isNode y = true → decide (y = me) = false → decide (y ≤ last) = false → okNb me (-1) nb = okNb me y (nb.drop (i + 1)) := fun h1 h2 h3 => by rw [hok, h1, h2, h3]; rfl
    (conv => whnf); refine ⟨M, Mem.le_refl _, ?_⟩
    (conv => whnf); refine ob (by omega) ?_
    (conv => whnf); refine on hrow ?_
    repeat' ((conv => whnf); first | refine ob rfl ?_ | refine ob (Mem.le_refl _) ?_ | refine ⟨?_, True.intro⟩ | fail)
    refine (nodeR_ok y).mono ?_
    rintro v _ ⟨rfl, rfl⟩
    repeat' ((conv => whnf); first | refine ob rfl ?_ | refine ob (Mem.le_refl _) ?_ | refine ⟨?_, True.intro⟩ | fail)
    refine brn (fun g1 => ?_) (fun g1 => ?_)
    · have e := bad (by simp at g1; simp [g1])
      repeat' ((conv => whnf); first | refine ⟨?_, True.intro⟩ | refine brn_t rfl ?_ | refine brn_f rfl ?_ | refine ob rfl ?_ | refine ob (by decide) ?_ | refine ob (Mem.le_refl _) ?_ | refine ⟨_, Mem.le_refl _, ?_⟩ | fail)
      exact .inl ⟨by rw [e]; decide, by rw [e], rfl⟩
    have hnode : isNode y = true := by simpa using g1
    (conv => whnf); refine ob (by omega) ?_
    (conv => whnf); refine on hrow ?_
    (conv => whnf); refine brn (fun g2 => ?_) (fun g2 => ?_)
    · have e := bad (by simp at g2; simp [g2])
      repeat' ((conv => whnf); first | refine ⟨?_, True.intro⟩ | refine brn_t rfl ?_ | refine brn_f rfl ?_ | refine ob rfl ?_ | refine ob (by decide) ?_ | refine ob (Mem.le_refl _) ?_ | refine ⟨_, Mem.le_refl _, ?_⟩ | fail)
      exact .inl ⟨by rw [e]; decide, by rw [e], rfl⟩
    (conv => whnf); refine brn (fun g3 => ?_) (fun g3 => ?_)
    · have hi0 : 0 < i := by have := of_decide_eq_true g3; omega
      obtain ⟨j, rfl⟩ : ∃ j, i = j + 1 := ⟨i - 1, by omega⟩
      have hpj := hp j rfl
      obtain ⟨b2, o2, hb2, hrow2⟩ := hs.get (j := j) (v := intV last) (by rw [List.getElem?_map, hpj]; rfl)
      cases hb2
      (conv => whnf); refine ob (by omega) ?_
      (conv => whnf); refine on hrow ?_
      (conv => whnf); refine ob (inR_i64 (by omega)) ?_
      have ej : ((j + 1 : Nat) : Int) - 1 = j := by omega
      rw [ej]
      (conv => whnf); refine ob (by omega) ?_
      (conv => whnf); refine on hrow2 ?_
      (conv => whnf); refine brn (fun g4 => ?_) (fun g4 => ?_)
      · have e := bad (by rw [hnode, g2, g4]; rfl)
        repeat' ((conv => whnf); first | refine ⟨?_, True.intro⟩ | refine brn_t rfl ?_ | refine brn_f rfl ?_ | refine ob rfl ?_ | refine ob (by decide) ?_ | refine ob (Mem.le_refl _) ?_ | refine ⟨_, Mem.le_refl _, ?_⟩ | fail)
        exact .inl ⟨by rw [e]; decide, by rw [e], rfl⟩
      · (conv => whnf); refine ob (inR_i64 (by omega)) ?_
        (conv => whnf)
        exact ⟨j + 1 + 1, ⟨by omega, y, fun k hk => by have : k = j + 1 := by omega
                                                       subst this; exact hgi, by omega, go hnode g2 g4⟩, by omega, ⟨(by repeat' first | exact True.intro | refine ⟨rfl, ?_⟩), (by repeat' first | exact True.intro | refine ⟨rfl, ?_⟩), Mem.le_refl _, rfl⟩⟩
    · have hi0 : i = 0 := by have := of_decide_eq_false g3; omega
      subst hi0
      have hlast := h0 rfl
      have h0y : 0 ≤ y ∧ y < 64 := by simpa [isNode] using hnode
      (conv => whnf); refine ob (inR_i64 (by omega)) ?_
      (conv => whnf)
      exact ⟨0 + 1, ⟨by omega, y, fun k hk => by have : k = 0 := by omega
                                                 subst this; exact hgi, by omega, go hnode g2 (by simp; omega)⟩, by omega, ⟨(by repeat' first | exact True.intro | refine ⟨rfl, ?_⟩), (by repeat' first | exact True.intro | refine ⟨rfl, ?_⟩), Mem.le_refl _, rfl⟩⟩
  · have hi' : i = n := by have := of_decide_eq_false g; omega
    subst hi'
    rw [List.drop_of_length_le (by omega)] at hok
    have e0 : newE me nb age = 0 := by rw [e2, hok]; rfl
    (conv => whnf); refine new (fun b0 hb0 => ?_)
    replace hb0 : M b0 = none := hb0
    have hN : NewSl M T.int 1 _ 0 0 (([] : List Int).map intV) _ := NewSl.lit hb0 T.int 1 0 [] rfl
    obtain ⟨M1, hM1⟩ : ∃ M1, M1 = M.setCells b0 T.int [] := ⟨_, rfl⟩
    rw [← hM1] at hN
    (conv => whnf)
    erw [← hM1]
    (conv => whnf); refine srcv (hs.le hN.le) ?_
    (conv => whnf); refine appN M _ hN (by omega) (by simp [maxLen]; omega) (by simp [Value.oneCell']) fun a2 c2 M2 hN2 => ?_
    rw [List.map_nil, List.nil_append, Nat.zero_add] at hN2
    repeat' ((conv => whnf); first | refine ⟨?_, True.intro⟩ | refine brn_t rfl ?_ | refine brn_f rfl ?_ | refine ob rfl ?_ | refine ob (by decide) ?_ | refine ob (Mem.le_refl _) ?_ | refine ⟨_, Mem.le_refl _, ?_⟩ | fail)
    rw [Nat.zero_add]
    exact .inr ⟨e0, a2, c2, rfl, hN2⟩
def setR (st : List (Int × Int)) (d x : Int) : List (Int × Int) := adel st d ++ (if x = -1 then [] else [(d, x)])
theorem adel_take {α : Type} {st : List (Int × α)} {i : Nat} (hi : i < st.length) (d : Int) : adel (st.take (i + 1)) d = if st[i].1 = d then adel (st.take i) d else adel (st.take i) d ++ [st[i]] := by
  unfold adel
  rw [List.take_add_one, List.getElem?_eq_getElem hi, List.filter_append]
  by_cases e : st[i].1 = d
  · simp [e]
  · simp [e]
theorem adel_len {α : Type} (st : List (Int × α)) (d : Int) : (adel st d).length ≤ st.length := List.length_filter_le _ _
theorem setR_ok (h : RefAt M q nb st l) (hst : st.length ≤ 4194303) (me age d x : Int) : CallsM Try.prog F.ref18_Set [q.v me age, .int .i64 d, .int .i64 x] M fun v M' =>
    (setE me nb d x ≠ 0 ∧ v = .tuple #[q.v me age, .int .i64 (setE me nb d x)] ∧ M' = M) ∨
    (setE me nb d x = 0 ∧ ∃ q' : Ref, v = .tuple #[q'.v me age, .int .i64 0] ∧ M.le M' ∧ RefAt M' q' nb (setR st d x) l) := by
  refine fo_ref18_Set (by simp) ?_
  have hl := h.st.len
  have hs2 := h.s2
  (conv => whnf); refine (nodeR_ok d).mono ?_
  rintro v _ ⟨rfl, rfl⟩
  (conv => whnf); refine brn (fun g => ?_) (fun g => ?_)
  · have e : setE me nb d x = 1 := by simp at g; simp [setE, g]
    repeat' ((conv => whnf); first | refine ⟨?_, True.intro⟩ | refine brn_t rfl ?_ | refine brn_f rfl ?_ | refine ob rfl ?_ | refine ob (by decide) ?_ | refine ob (Mem.le_refl _) ?_ | refine ⟨_, Mem.le_refl _, ?_⟩ | fail)
    exact .inl ⟨by rw [e]; decide, by rw [e], rfl⟩
  have hd : isNode d = true := by simpa using g
  (conv => whnf); refine brn (fun g => ?_) (fun g => ?_)
  · have e : setE me nb d x = 2 := by
      have g' : d = me := of_decide_eq_true g
      simp [setE, hd, g']; rw [← g', hd]
    repeat' ((conv => whnf); first | refine ⟨?_, True.intro⟩ | refine brn_t rfl ?_ | refine brn_f rfl ?_ | refine ob rfl ?_ | refine ob (by decide) ?_ | refine ob (Mem.le_refl _) ?_ | refine ⟨_, Mem.le_refl _, ?_⟩ | fail)
    exact .inl ⟨by rw [e]; decide, by rw [e], rfl⟩
  have hne : d ≠ me := of_decide_eq_false g
  (conv => whnf); refine brn (fun g => ?_) (fun g => ?_)
  · have hx1 : ¬ x = -1 := by simpa using g
    (conv => whnf); refine (hasR_ok h.nb h.s1 x).mono ?_
    rintro v _ ⟨rfl, rfl⟩
    (conv => whnf); refine brn (fun g => ?_) (fun g => ?_)
    · have hx2 : x ∉ nb := by simpa using g
      have e : setE me nb d x = 4 := by simp [setE, hd, hne, hx1, hx2]
      repeat' ((conv => whnf); first | refine ⟨?_, True.intro⟩ | refine brn_t rfl ?_ | refine brn_f rfl ?_ | refine ob rfl ?_ | refine ob (by decide) ?_ | refine ob (Mem.le_refl _) ?_ | refine ⟨_, Mem.le_refl _, ?_⟩ | fail)
      exact .inl ⟨by rw [e]; decide, by rw [e], rfl⟩
    have hx2 : x ∈ nb := by simpa using g
    have e : setE me nb d x = 0 := by simp [setE, hd, hne, hx2]
    (conv => whnf); refine new (fun b0 hb0 => ?_)
    replace hb0 : M b0 = none := hb0
    have hN : NewEls M T.portageref18_Route 2 (some ⟨b0, 0, none⟩) 0 0 (RouteR M) [] (M.setCells b0 T.portageref18_Route []) := NewEls.new0 hb0 _ _ _
    obtain ⟨M1, hM1⟩ : ∃ M1, M1 = M.setCells b0 T.portageref18_Route [] := ⟨_, rfl⟩
    rw [← hM1] at hN
    (conv => whnf)
    erw [← hM1]
    refine loopF (σ := Nat × Mem × Option Addr × Nat) [9, 8] (fun y => [(9, .int .i64 y.1), (8, .slice y.2.2.1 (adel (st.take y.1) d).length y.2.2.2)]) (fun _ => [.live T.portageref18_Table [.v (.int .i64 me), .v (.int .i64 age), .v (.slice q.a q.n q.c), .v (.slice q.a2 q.n2 q.c2), .v (.slice q.a3 q.n3 q.c3)], .live T.portageref18_Table [.v (.int .i64 0), .v (.int .i64 0), .v (.slice none 0 0), .v (.slice none 0 0), .v (.slice none 0 0)], .gone b0]) (fun y => y.2.1)
      (fun | ⟨i, M2, a, c⟩ => i ≤ q.n2 ∧ NewEls M T.portageref18_Route 2 a (adel (st.take i) d).length c (RouteR M) (adel (st.take i) d) M2) (fun y => q.n2 - y.1) ⟨0, M1, _, _⟩ ⟨by omega, hN⟩ ⟨(by repeat' first | exact True.intro | refine ⟨rfl, ?_⟩), (by repeat' first | exact True.intro | refine ⟨rfl, ?_⟩), Mem.le_refl _, rfl⟩ ?_
    rintro ⟨i, M2, a, c⟩ ⟨hi, hN2⟩
    have hal : (adel (st.take i) d).length ≤ i := Nat.le_trans (adel_len _ _) (by simp; omega)
    (conv => whnf); refine brn (fun g => ?_) (fun g => ?_)
    · have hi' : i < q.n2 := by have := of_decide_eq_true g; dsimp only at this; omega
      obtain ⟨hlt, b, o, cs, ha, hrows, hrow, hcl, rfl⟩ := (h.le hN2.le).st.at (by decide) (i := i) hi'
      have hat := adel_take hlt d
      (conv => whnf); refine ob (by first | omega | (dsimp only; omega)) ?_
      (conv => whnf); refine atp ha ?_
      (conv => whnf); refine on (hrows 0 1 (by decide)) ?_
      (conv => whnf); refine brn (fun g1 => ?_) (fun g1 => ?_)
      · have g' : ¬ st[i].1 = d := by simpa using g1
        rw [if_neg g'] at hat
        (conv => whnf); refine ob (by first | omega | (dsimp only; omega)) ?_
        (conv => whnf); refine atp ha ?_
        (conv => whnf); refine on hrow ?_
        repeat' ((conv => whnf); first | refine ⟨?_, True.intro⟩ | refine brn_t rfl ?_ | refine brn_f rfl ?_ | refine ob rfl ?_ | refine ob (by decide) ?_ | refine ob (Mem.le_refl _) ?_ | refine ⟨_, Mem.le_refl _, ?_⟩ | fail)
        refine appE M hN2 st[i] rfl rfl (by first | omega | (dsimp only; omega)) (by simp [maxLen]; omega) (by simp [Value.oneCell']) fun a5 c5 M5 hN5 hk5 => ?_
        (conv => whnf); refine ob (inR_i64 (by first | omega | (dsimp only; omega))) ?_
        (conv => whnf)
        refine ⟨⟨i + 1, M5, a5, c5⟩, ⟨by omega, ?_⟩, by dsimp only; omega, ?_⟩
        · rw [hat]; simpa using hN5
        · rw [show (adel (List.take (i + 1) st) d).length = (adel (st.take i) d).length + 1 by rw [hat]; simp]
          exact ⟨(by repeat' first | exact True.intro | refine ⟨rfl, ?_⟩), (by repeat' first | exact True.intro | refine ⟨rfl, ?_⟩), Mem.le_refl _, rfl⟩
      · have g' : st[i].1 = d := by simpa using g1
        rw [if_pos g'] at hat
        (conv => whnf); refine ob (inR_i64 (by first | omega | (dsimp only; omega))) ?_
        (conv => whnf)
        refine ⟨⟨i + 1, M2, a, c⟩, ⟨by omega, ?_⟩, by dsimp only; omega, ?_⟩
        · rw [hat]; exact hN2
        · rw [show (adel (List.take (i + 1) st) d).length = (adel (st.take i) d).length by rw [hat]]
          exact ⟨(by repeat' first | exact True.intro | refine ⟨rfl, ?_⟩), (by repeat' first | exact True.intro | refine ⟨rfl, ?_⟩), Mem.le_refl _, rfl⟩
    · have hi' : i = q.n2 := by have := of_decide_eq_false g; dsimp only at this; omega
      have hx' : st.take i = st := List.take_of_length_le (by omega)
      rw [hx'] at hN2 hal
      dsimp only
      rw [hx']
      (conv => whnf); refine brn_t (by simpa using hx1) ?_
      repeat' ((conv => whnf); first | refine ⟨?_, True.intro⟩ | refine brn_t rfl ?_ | refine brn_f rfl ?_ | refine ob rfl ?_ | refine ob (by decide) ?_ | refine ob (Mem.le_refl _) ?_ | refine ⟨_, Mem.le_refl _, ?_⟩ | fail)
      refine appE M hN2 (d, x) rfl rfl (by first | omega | (dsimp only; omega)) (by simp [maxLen]; omega) (by simp [Value.oneCell']) fun a5 c5 M5 hN5 hk5 => ?_
      repeat' ((conv => whnf); first | refine ⟨?_, True.intro⟩ | refine brn_t rfl ?_ | refine brn_f rfl ?_ | refine ob rfl ?_ | refine ob (by decide) ?_ | refine ob (Mem.le_refl _) ?_ | refine ⟨_, Mem.le_refl _, ?_⟩ | fail)
      refine .inr ⟨e, ⟨q.a, q.n, q.c, a5, _, c5, q.a3, q.n3, q.c3⟩, rfl, hN5.le, ?_⟩
      have h5 := h.le hN5.le
      have e5 : setR st d x = adel st d ++ [(d, x)] := by rw [setR, if_neg hx1]
      exact ⟨h5.nb, by rw [e5]; exact hN5.elems, h5.l, h5.s1, by dsimp only; omega, h5.s3⟩
  · have hx1 : x = -1 := by simpa using g
    have e : setE me nb d x = 0 := by simp [setE, hd, hne, hx1]
    (conv => whnf); refine new (fun b0 hb0 => ?_)
    replace hb0 : M b0 = none := hb0
    have hN : NewEls M T.portageref18_Route 2 (some ⟨b0, 0, none⟩) 0 0 (RouteR M) [] (M.setCells b0 T.portageref18_Route []) := NewEls.new0 hb0 _ _ _
    obtain ⟨M1, hM1⟩ : ∃ M1, M1 = M.setCells b0 T.portageref18_Route [] := ⟨_, rfl⟩
    rw [← hM1] at hN
    (conv => whnf)
    erw [← hM1]
    refine loopF (σ := Nat × Mem × Option Addr × Nat) [9, 8] (fun y => [(9, .int .i64 y.1), (8, .slice y.2.2.1 (adel (st.take y.1) d).length y.2.2.2)]) (fun _ => [.live T.portageref18_Table [.v (.int .i64 me), .v (.int .i64 age), .v (.slice q.a q.n q.c), .v (.slice q.a2 q.n2 q.c2), .v (.slice q.a3 q.n3 q.c3)], .live T.portageref18_Table [.v (.int .i64 0), .v (.int .i64 0), .v (.slice none 0 0), .v (.slice none 0 0), .v (.slice none 0 0)], .gone b0]) (fun y => y.2.1)
      (fun | ⟨i, M2, a, c⟩ => i ≤ q.n2 ∧ NewEls M T.portageref18_Route 2 a (adel (st.take i) d).length c (RouteR M) (adel (st.take i) d) M2) (fun y => q.n2 - y.1) ⟨0, M1, _, _⟩ ⟨by omega, hN⟩ ⟨(by repeat' first | exact True.intro | refine ⟨rfl, ?_⟩), (by repeat' first | exact True.intro | refine ⟨rfl, ?_⟩), Mem.le_refl _, rfl⟩ ?_
    rintro ⟨i, M2, a, c⟩ ⟨hi, hN2⟩
    have hal : (adel (st.take i) d).length ≤ i := Nat.le_trans (adel_len _ _) (by simp; omega)
    (conv => whnf); refine brn (fun g => ?_) (fun g => ?_)
    · have hi' : i < q.n2 := by have := of_decide_eq_true g; dsimp only at this; omega
      obtain ⟨hlt, b, o, cs, ha, hrows, hrow, hcl, rfl⟩ := (h.le hN2.le).st.at (by decide) (i := i) hi'
      have hat := adel_take hlt d
      (conv => whnf); refine ob (by first | omega | (dsimp only; omega)) ?_
      (conv => whnf); refine atp ha ?_
      (conv => whnf); refine on (hrows 0 1 (by decide)) ?_
      (conv => whnf); refine brn (fun g1 => ?_) (fun g1 => ?_)
      · have g' : ¬ st[i].1 = d := by simpa using g1
        rw [if_neg g'] at hat
        (conv => whnf); refine ob (by first | omega | (dsimp only; omega)) ?_
        (conv => whnf); refine atp ha ?_
        (conv => whnf); refine on hrow ?_
        repeat' ((conv => whnf); first | refine ⟨?_, True.intro⟩ | refine brn_t rfl ?_ | refine brn_f rfl ?_ | refine ob rfl ?_ | refine ob (by decide) ?_ | refine ob (Mem.le_refl _) ?_ | refine ⟨_, Mem.le_refl _, ?_⟩ | fail)
        refine appE M hN2 st[i] rfl rfl (by first | omega | (dsimp only; omega)) (by simp [maxLen]; omega) (by simp [Value.oneCell']) fun a5 c5 M5 hN5 hk5 => ?_
        (conv => whnf); refine ob (inR_i64 (by first | omega | (dsimp only; omega))) ?_
        (conv => whnf)
        refine ⟨⟨i + 1, M5, a5, c5⟩, ⟨by omega, ?_⟩, by dsimp only; omega, ?_⟩
        · rw [hat]; simpa using hN5
        · rw [show (adel (List.take (i + 1) st) d).length = (adel (st.take i) d).length + 1 by rw [hat]; simp]
          exact ⟨(by repeat' first | exact True.intro | refine ⟨rfl, ?_⟩), (by repeat' first | exact True.intro | refine ⟨rfl, ?_⟩), Mem.le_refl _, rfl⟩
      · have g' : st[i].1 = d := by simpa using g1
        rw [if_pos g'] at hat
        (conv => whnf); refine ob (inR_i64 (by first | omega | (dsimp only; omega))) ?_
        (conv => whnf)
        refine ⟨⟨i + 1, M2, a, c⟩, ⟨by omega, ?_⟩, by dsimp only; omega, ?_⟩
        · rw [hat]; exact hN2
        · rw [show (adel (List.take (i + 1) st) d).length = (adel (st.take i) d).length by rw [hat]]
          exact ⟨(by repeat' first | exact True.intro | refine ⟨rfl, ?_⟩), (by repeat' first | exact True.intro | refine ⟨rfl, ?_⟩), Mem.le_refl _, rfl⟩
    · have hi' : i = q.n2 := by have := of_decide_eq_false g; dsimp only at this; omega
      have hx' : st.take i = st := List.take_of_length_le (by omega)
      rw [hx'] at hN2 hal
      dsimp only
      rw [hx']
      (conv => whnf); refine brn_f (by simpa using hx1) ?_
      repeat' ((conv => whnf); first | refine ⟨?_, True.intro⟩ | refine brn_t rfl ?_ | refine brn_f rfl ?_ | refine ob rfl ?_ | refine ob (by decide) ?_ | refine ob (Mem.le_refl _) ?_ | refine ⟨_, Mem.le_refl _, ?_⟩ | fail)
      refine .inr ⟨e, ⟨q.a, q.n, q.c, a, _, c, q.a3, q.n3, q.c3⟩, rfl, hN2.le, ?_⟩
      have h5 := h.le hN2.le
      have e5 : setR st d x = adel st d := by rw [setR, if_pos hx1, List.append_nil]
      exact ⟨h5.nb, by rw [e5]; exact hN2.elems, h5.l, h5.s1, by dsimp only; omega, h5.s3⟩
end Go.Proofs.Ytankgacaeejlhaa
