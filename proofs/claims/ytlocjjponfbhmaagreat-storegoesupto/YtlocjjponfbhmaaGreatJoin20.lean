/- Plain law: the document's marks are canonical too. -/
import Derived.Test.YtlocjjponfbhmaaGreatSeenU
import Derived.Test.YtlocjjponfbhmaaGreatJoin18
import Derived.Test.YtlocjjponfbhmaaGreatJoin12
namespace Go.Proofs.YtlocjjponfbhmaaGreat
open Go Go.Vm
theorem bump_key (m : Mk) (c : Int) : (bump m c).o = m.o ∧ (bump m c).e = m.e := by
  unfold bump
  split <;> exact ⟨rfl, rfl⟩
theorem bump_ok {m : Mk} {c : Int} (h : CanR m.up m.more) (hc : 1 ≤ c) (hlt : ∀ c', inM m.up m.more c' → c' < c) :
    CanR (bump m c).up (bump m c).more ∧ (0 < (bump m c).up ∨ (bump m c).more ≠ []) ∧ ∀ c', inM (bump m c).up (bump m c).more c' ↔ inM m.up m.more c' ∨ c' = c := by
  obtain ⟨h0, h1, h2⟩ := h
  have hup : m.up < c := by
    by_cases e : m.up = 0
    · omega
    · exact hlt _ (.inl ⟨by omega, Int.le_refl _⟩)
  unfold bump
  split
  · rename_i e
    obtain ⟨e1, e2⟩ := e
    refine ⟨⟨by dsimp only; omega, by simp, by simp⟩, .inl (by dsimp only; omega), fun c' => ?_⟩
    simp only [inM, e1, List.not_mem_nil, or_false]
    omega
  · rename_i e
    refine ⟨⟨h0, ?_, fun c' hc' => ?_⟩, .inr (by simp), fun c' => ?_⟩
    · rw [List.pairwise_append]
      refine ⟨h1, by simp, fun a ha b hb => ?_⟩
      simp only [List.mem_singleton] at hb
      subst hb
      exact hlt a (.inr ha)
    · rcases List.mem_append.1 hc' with h3 | h3
      · exact h2 c' h3
      · simp only [List.mem_singleton] at h3
        subst h3
        cases hm : m.more with
        | nil =>
          have : ¬ c' = m.up + 1 := fun e1 => e ⟨hm, e1⟩
          dsimp only; omega
        | cons y r =>
          have h4 := h2 y (by rw [hm]; simp)
          have h5 := hlt y (.inr (by rw [hm]; simp))
          dsimp only; omega
    · unfold inM
      dsimp only
      rw [List.mem_append, List.mem_singleton, or_assoc]
theorem lessK_iff (a b : K) : lessK a b = true ↔ a.o < b.o ∨ (a.o = b.o ∧ (a.e < b.e ∨ (a.e = b.e ∧ a.c < b.c))) := by
  unfold lessK
  split
  · rw [decide_eq_true_eq]; omega
  · split
    · rw [decide_eq_true_eq]; omega
    · rw [decide_eq_true_eq]; omega
def SetL (L : List K) (o e c : Int) : Prop := (⟨o, e, c⟩ : K) ∈ L
theorem marks_step {L : List K} {l : List Mk} (h : Canon (SetL L) l) {k : K} (hk : 1 ≤ k.c) (hlt : ∀ y ∈ L, lessK y k = true) : Canon (SetL (L ++ [k])) (addMk l k) := by
  have hS : ∀ o e c, SetL (L ++ [k]) o e c ↔ SetL L o e c ∨ (o = k.o ∧ e = k.e ∧ c = k.c) := fun o e c => by
    unfold SetL
    rw [List.mem_append, List.mem_singleton]
    obtain ⟨ko, ke, kc⟩ := k
    simp
  have hb : ∀ m ∈ l, ∀ c', inM m.up m.more c' → lessK ⟨m.o, m.e, c'⟩ k = true := fun m hm c' hc' => hlt _ ((h.mem _ _ _).2 ⟨m, hm, rfl, rfl, hc'⟩)
  have hnew := bump_ok (m := ⟨k.o, k.e, 0, []⟩) (c := k.c) ⟨Int.le_refl _, by simp, by simp⟩ hk (fun c' hc' => by simp only [inM, List.not_mem_nil, or_false] at hc'; omega)
  have hnk := bump_key ⟨k.o, k.e, 0, []⟩ k.c
  have hfresh : (∀ m ∈ l, m.o < k.o ∨ (m.o = k.o ∧ m.e < k.e)) → Canon (SetL (L ++ [k])) (l ++ [bump ⟨k.o, k.e, 0, []⟩ k.c]) := fun hall => by
    obtain ⟨n1, n2, n3⟩ := hnew
    refine ⟨?_, fun m hm => ?_, fun o e c => ?_⟩
    · rw [List.pairwise_append]
      refine ⟨h.sorted, by simp, fun a ha b hb => ?_⟩
      simp only [List.mem_singleton] at hb
      subst hb
      have := hall a ha
      unfold ltMk
      rw [hnk.1, hnk.2]
      exact this
    · rcases List.mem_append.1 hm with h1 | h1
      · exact h.can m h1
      · simp only [List.mem_singleton] at h1
        subst h1
        exact ⟨n1, n2⟩
    · rw [hS, h.mem]
      constructor
      · rintro (⟨m, hm, e1, e2, e3⟩ | ⟨rfl, rfl, rfl⟩)
        · exact ⟨m, by simp [hm], e1, e2, e3⟩
        · exact ⟨_, by simp, hnk.1, hnk.2, (n3 _).2 (.inr rfl)⟩
      · rintro ⟨m, hm, e1, e2, e3⟩
        rcases List.mem_append.1 hm with h1 | h1
        · exact .inl ⟨m, h1, e1, e2, e3⟩
        · simp only [List.mem_singleton] at h1
          subst h1
          right
          rw [hnk.1] at e1
          rw [hnk.2] at e2
          refine ⟨e1.symm, e2.symm, ?_⟩
          rcases (n3 _).1 e3 with h2 | h2
          · simp only [inM, List.not_mem_nil, or_false] at h2; omega
          · exact h2
  unfold addMk
  cases hl : l.getLast? with
  | none =>
    have : l = [] := List.getLast?_eq_none_iff.1 hl
    subst this
    exact hfresh (by simp)
  | some m =>
    obtain ⟨u, rfl⟩ : ∃ u, l = u ++ [m] := ⟨l.dropLast, by
      obtain ⟨hne, he⟩ := List.getLast?_eq_some_iff.1 hl
      rw [he]; simp⟩
    have hmm : m ∈ u ++ [m] := by simp
    dsimp only
    have hps := List.pairwise_append.1 h.sorted
    split
    · rename_i e
      obtain ⟨e1, e2⟩ := e
      obtain ⟨n1, n2, n3⟩ := bump_ok (h.can m hmm).1 hk (fun c' hc' => by
        have := (lessK_iff _ _).1 (hb m hmm c' hc')
        dsimp only at this
        omega)
      have hk' := bump_key m k.c
      rw [List.dropLast_concat]
      refine ⟨?_, fun m' hm => ?_, fun o e c => ?_⟩
      · rw [List.pairwise_append]
        refine ⟨hps.1, by simp, fun a ha b hb => ?_⟩
        simp only [List.mem_singleton] at hb
        subst hb
        have := hps.2.2 a ha m (by simp)
        unfold ltMk at this ⊢
        rw [hk'.1, hk'.2]; exact this
      · rcases List.mem_append.1 hm with h1 | h1
        · exact h.can m' (by simp [h1])
        · simp only [List.mem_singleton] at h1
          subst h1
          exact ⟨n1, n2⟩
      · rw [hS, h.mem]
        constructor
        · rintro (⟨m', hm, f1, f2, f3⟩ | ⟨rfl, rfl, rfl⟩)
          · rcases List.mem_append.1 hm with h1 | h1
            · exact ⟨m', by simp [h1], f1, f2, f3⟩
            · simp only [List.mem_singleton] at h1
              subst h1
              exact ⟨_, by simp, hk'.1.trans f1, hk'.2.trans f2, (n3 _).2 (.inl f3)⟩
          · exact ⟨_, by simp, hk'.1.trans e1, hk'.2.trans e2, (n3 _).2 (.inr rfl)⟩
        · rintro ⟨m', hm, f1, f2, f3⟩
          rcases List.mem_append.1 hm with h1 | h1
          · exact .inl ⟨m', by simp [h1], f1, f2, f3⟩
          · simp only [List.mem_singleton] at h1
            subst h1
            rw [hk'.1] at f1
            rw [hk'.2] at f2
            rcases (n3 _).1 f3 with h2 | h2
            · exact .inl ⟨m, by simp, f1, f2, h2⟩
            · exact .inr ⟨by omega, by omega, h2⟩
    · rename_i e
      obtain ⟨c0, hc0⟩ := CanR.some (h.can m hmm).2
      have h1 := (lessK_iff _ _).1 (hb m hmm c0 hc0)
      dsimp only at h1
      refine hfresh fun m' hm' => ?_
      rcases List.mem_append.1 hm' with h2 | h2
      · have := hps.2.2 m' h2 m (by simp)
        unfold ltMk at this
        omega
      · simp only [List.mem_singleton] at h2
        subst h2
        omega
def SortK (L : List K) : Prop := L.Pairwise (fun a b => lessK a b = true) ∧ ∀ k ∈ L, 1 ≤ k.c
theorem marksK_canon {L : List K} (h : SortK L) : Canon (SetL L) (marksK L) := by
  have : ∀ i, i ≤ L.length → Canon (SetL (L.take i)) (marksK (L.take i)) := fun i => by
    induction i with
    | zero => intro _; exact ⟨by simp [marksK], by simp [marksK], by simp [marksK, SetL]⟩
    | succ i ih =>
      intro hi
      have e : L.take (i + 1) = L.take i ++ [L[i]] := by rw [List.take_add_one, List.getElem?_eq_getElem (by omega)]; rfl
      rw [e]
      have := marks_step (ih (by omega)) (k := L[i]) (h.2 _ (List.getElem_mem _)) fun y hy => by
        obtain ⟨j, hj, rfl⟩ := List.getElem_of_mem hy
        rw [List.getElem_take]
        exact List.pairwise_iff_getElem.1 h.1 j i _ _ (by simp at hj; omega)
      unfold marksK at this ⊢
      rw [List.foldl_append]; exact this
  have h1 := this L.length (Nat.le_refl _)
  rw [List.take_length] at h1
  exact h1
theorem putK_mem (k : K) : ∀ (L : List K) (x : K), x ∈ putK k L ↔ x = k ∨ x ∈ L
  | [], x => by simp [putK]
  | y :: r, x => by
    simp only [putK]
    split
    · simp only [List.mem_cons]
    · simp only [List.mem_cons, putK_mem k r x]
      constructor
      · rintro (h | h | h) <;> simp [h]
      · rintro (h | h | h) <;> simp [h]
theorem putK_sorted (k : K) : ∀ {L : List K}, L.Pairwise (fun a b => lessK a b = true) → k ∉ L → (putK k L).Pairwise (fun a b => lessK a b = true)
  | [], _, _ => by simp [putK]
  | y :: r, h, hn => by
    obtain ⟨h1, h2⟩ := List.pairwise_cons.1 h
    simp only [List.mem_cons, not_or] at hn
    simp only [putK]
    split
    · rename_i e
      refine List.pairwise_cons.2 ⟨fun z hz => ?_, h⟩
      rcases List.mem_cons.1 hz with e1 | e1
      · subst e1; exact e
      · have h3 := (lessK_iff _ _).1 (h1 z e1)
        have h4 := (lessK_iff _ _).1 e
        exact (lessK_iff _ _).2 (by omega)
    · rename_i e
      refine List.pairwise_cons.2 ⟨fun z hz => ?_, putK_sorted k h2 hn.2⟩
      rcases (putK_mem k r z).1 hz with e1 | e1
      · subst e1
        have h5 : ¬ (z.o = y.o ∧ z.e = y.e ∧ z.c = y.c) := fun ⟨a1, a2, a3⟩ => hn.1 (by
          obtain ⟨z1, z2, z3⟩ := z
          obtain ⟨y1, y2, y3⟩ := y
          simp only at a1 a2 a3
          rw [a1, a2, a3])
        rw [lessK_iff] at e
        exact (lessK_iff _ _).2 (by omega)
      · exact h1 z e1
end Go.Proofs.YtlocjjponfbhmaaGreat

/- The document's set: gaps, the next one, what is there, what is added. -/
namespace Go.Proofs.YtlocjjponfbhmaaGreat
open Go Go.Vm
attribute [local irreducible] Brn Ob Grow CallsM inR LoopVC Mem.row Mem.cells Mem.setCells Mem.upd Own AppVC SrcVC StrVC NextVC New SrcOk subA NewSl Mem.textAt Mem.mapAt Mem.iterAt entryOf kfind Wr NewEls Elems
set_option maxRecDepth 10000
variable {M : Mem} {a : Option Addr} {n c : Nat} {L : List K}
def gapsK (L : List K) : Nat := ((marksK L).map fun m => m.more.length).sum
def nextOf : List Mk → Int → Int → Int
  | [], _, _ => 1
  | m :: r, o, e => if m.o = o ∧ m.e = e then m.up + 1 else nextOf r o e
def nextK (L : List K) (o e : Int) : Int := nextOf (marksK L) o e
def hasK (L : List K) (o d e c : Int) : Bool := decide (idErr o d e c = 0) && decide ((⟨o, e, c⟩ : K) ∈ L)
def mayK (room : Int) (L : List K) (o d e c : Int) : Int :=
  if idErr o d e c ≠ 0 then idErr o d e c else if hasK L o d e c then 5 else if c ≠ nextK L o e ∧ room ≤ gapsK L then 6 else 0
theorem gapsR_ok (hs : SrcOk M 3 a n (L.flatMap encK)) (hn : n ≤ 4194000) (room : Int) : CallsM Tryz.prog F.ref14_Gaps [refV room a n c] M fun v M' => v = .int .i64 (gapsK L) ∧ M.le M' := by
  refine fo_ref14_Gaps (by simp) ?_
  (conv => whnf); refine (marksR_ok hs hn room).mono ?_
  rintro v M1 ⟨a1, c1, l, rfl, hW, hl, hln, hfew⟩
  have hg : gapsK L = (l.map fun m => m.more.length).sum := by rw [gapsK, ← hl, List.map_map]; rfl
  (conv => whnf)
  refine loopQ (σ := Nat × Nat) [5, 4] (fun y => [(5, .int .i64 y.1), (4, .int .i64 y.2)]) (fun | ⟨i, s⟩ => i ≤ l.length ∧ s ≤ i * 4194304 ∧ s + ((l.drop i).map fun m => m.more.length).sum = gapsK L) (fun y => l.length - y.1) ⟨0, 0⟩ ⟨by omega, by omega, by simp [hg]⟩ ⟨(by repeat' first | exact True.intro | refine ⟨rfl, ?_⟩), (by repeat' first | exact True.intro | refine ⟨rfl, ?_⟩), Mem.le_refl _, rfl⟩ ?_
  rintro ⟨i, s⟩ ⟨hi, hsb, hsum⟩
  (conv => whnf); refine brn (fun g => ?_) (fun g => ?_)
  · have hlt : i < l.length := by have := of_decide_eq_true g; dsimp only at this; omega
    have hx : l[i]? = some l[i] := List.getElem?_eq_getElem hlt
    obtain ⟨b1, o1, rfl, hcc⟩ := hW.row.src.fcells encM_len (by decide) hx
    have hf := (hfew l[i] (List.getElem_mem _)).2
    rw [List.drop_eq_getElem_cons hlt, List.map_cons, List.sum_cons] at hsum
    (conv => whnf); refine ob (by first | omega | (dsimp only; omega)) ?_
    (conv => whnf); refine on (hcc 3 _ rfl) ?_
    (conv => whnf); refine ob (inR_i64 (by first | omega | (dsimp only; omega))) ?_
    (conv => whnf); refine ob (inR_i64 (by first | omega | (dsimp only; omega))) ?_
    (conv => whnf)
    exact ⟨⟨i + 1, s + l[i].more.length⟩, ⟨by omega, by omega, by omega⟩, by dsimp only; omega, ⟨(by repeat' first | exact True.intro | refine ⟨rfl, ?_⟩), (by repeat' first | exact True.intro | refine ⟨rfl, ?_⟩), Mem.le_refl _, rfl⟩⟩
  · have hge : l.length ≤ i := by have := of_decide_eq_false g; dsimp only at this; omega
    rw [List.drop_of_length_le hge] at hsum
    simp only [List.map_nil, List.sum_nil, Nat.add_zero] at hsum
    (conv => whnf)
    exact ⟨by dsimp only; rw [hsum], hW.row.le⟩
theorem nextR_ok (hs : SrcOk M 3 a n (L.flatMap encK)) (hn : n ≤ 4194000) (room o d e x : Int) : CallsM Tryz.prog F.ref14_Next [refV room a n c, idV o d e x] M fun v M' => v = .int .i64 (nextK L o e) ∧ M.le M' := by
  refine fo_ref14_Next (by simp) ?_
  (conv => whnf); refine (marksR_ok hs hn room).mono ?_
  rintro v M1 ⟨a1, c1, l, rfl, hW, hl, hln, hfew⟩
  have hg : nextK L o e = nextOf (l.map MkC.mk') o e := by rw [nextK, hl]
  (conv => whnf)
  refine loopQ [6] (fun (i : Nat) => [(6, .int .i64 i)]) (fun i => i ≤ l.length ∧ nextK L o e = nextOf ((l.drop i).map MkC.mk') o e) (fun i => l.length - i) 0 ⟨by omega, by simp [hg]⟩ ⟨(by repeat' first | exact True.intro | refine ⟨rfl, ?_⟩), (by repeat' first | exact True.intro | refine ⟨rfl, ?_⟩), Mem.le_refl _, rfl⟩ ?_
  intro i ⟨hi, hnx⟩
  (conv => whnf); refine brn (fun g => ?_) (fun g => ?_)
  · have hlt : i < l.length := by have := of_decide_eq_true g; omega
    have hx : l[i]? = some l[i] := List.getElem?_eq_getElem hlt
    obtain ⟨b1, o1, rfl, hcc⟩ := hW.row.src.fcells encM_len (by decide) hx
    have hf := (hfew l[i] (List.getElem_mem _)).1
    rw [List.drop_eq_getElem_cons hlt, List.map_cons] at hnx
    generalize l[i] = m at *
    have hne : ¬ (m.o = o ∧ m.e = e) → nextK L o e = nextOf ((l.drop (i + 1)).map MkC.mk') o e := fun h => hnx.trans (if_neg h)
    repeat' ((conv => whnf); first | refine ⟨?_, True.intro⟩ | refine brn_t rfl ?_ | refine brn_f rfl ?_ | refine ob rfl ?_ | refine ob (by decide) ?_ | refine grow_same (Mem.le_refl _) ?_ | refine ob (Mem.le_refl _) ?_ | refine ⟨_, Mem.le_refl _, ?_⟩ | fail)
    refine ob (by first | omega | (dsimp only; omega)) ?_
    (conv => whnf); refine on (hcc 0 _ rfl) ?_
    (conv => whnf); refine brn (fun g1 => ?_) (fun g1 => ?_)
    · have e1 : m.o = o := of_decide_eq_true g1
      repeat' ((conv => whnf); first | refine ⟨?_, True.intro⟩ | refine brn_t rfl ?_ | refine brn_f rfl ?_ | refine ob rfl ?_ | refine ob (by decide) ?_ | refine grow_same (Mem.le_refl _) ?_ | refine ob (Mem.le_refl _) ?_ | refine ⟨_, Mem.le_refl _, ?_⟩ | fail)
      refine ob (by first | omega | (dsimp only; omega)) ?_
      (conv => whnf); refine on (hcc 1 _ rfl) ?_
      (conv => whnf); refine brn (fun g2 => ?_) (fun g2 => ?_)
      · have e2 : m.e = e := of_decide_eq_true g2
        repeat' ((conv => whnf); first | refine ⟨?_, True.intro⟩ | refine brn_t rfl ?_ | refine brn_f rfl ?_ | refine ob rfl ?_ | refine ob (by decide) ?_ | refine grow_same (Mem.le_refl _) ?_ | refine ob (Mem.le_refl _) ?_ | refine ⟨_, Mem.le_refl _, ?_⟩ | fail)
        refine ob (by first | omega | (dsimp only; omega)) ?_
        (conv => whnf); refine on (hcc 2 _ rfl) ?_
        (conv => whnf); refine ob (inR_i64 (by first | omega | (dsimp only; omega))) ?_
        (conv => whnf)
        exact ⟨by rw [hnx, nextOf, if_pos ⟨e1, e2⟩]; rfl, hW.row.le⟩
      · (conv => whnf); refine ob (inR_i64 (by first | omega | (dsimp only; omega))) ?_
        (conv => whnf)
        exact ⟨i + 1, ⟨by omega, hne fun h => of_decide_eq_false g2 h.2⟩, by omega, ⟨(by repeat' first | exact True.intro | refine ⟨rfl, ?_⟩), (by repeat' first | exact True.intro | refine ⟨rfl, ?_⟩), Mem.le_refl _, rfl⟩⟩
    · (conv => whnf); refine ob (inR_i64 (by first | omega | (dsimp only; omega))) ?_
      (conv => whnf)
      exact ⟨i + 1, ⟨by omega, hne fun h => of_decide_eq_false g1 h.1⟩, by omega, ⟨(by repeat' first | exact True.intro | refine ⟨rfl, ?_⟩), (by repeat' first | exact True.intro | refine ⟨rfl, ?_⟩), Mem.le_refl _, rfl⟩⟩
  · have hge : l.length ≤ i := by have := of_decide_eq_false g; omega
    rw [List.drop_of_length_le hge] at hnx
    (conv => whnf)
    exact ⟨by rw [hnx]; rfl, hW.row.le⟩
theorem hasR_ok (hs : SrcOk M 3 a n (L.flatMap encK)) (hn : n ≤ 4194000) (room o d e x : Int) : CallsM Tryz.prog F.ref14_Has [refV room a n c, idV o d e x] M fun v M' => v = .bool (hasK L o d e x) ∧ M = M' := by
  refine fo_ref14_Has (by simp) ?_
  (conv => whnf); refine (checkR_ok o d e x M).mono ?_
  rintro v _ ⟨rfl, rfl⟩
  (conv => whnf); refine brn (fun g => ?_) (fun g => ?_)
  · have h0 : idErr o d e x = 0 := of_decide_eq_true g
    (conv => whnf); refine (thereR_ok hs (by omega) room ⟨o, e, x⟩).mono ?_
    rintro v _ ⟨rfl, rfl⟩
    repeat' ((conv => whnf); first | refine ⟨?_, True.intro⟩ | refine brn_t rfl ?_ | refine brn_f rfl ?_ | refine ob rfl ?_ | refine ob (by decide) ?_ | refine grow_same (Mem.le_refl _) ?_ | refine ob (Mem.le_refl _) ?_ | refine ⟨_, Mem.le_refl _, ?_⟩ | fail)
    exact ⟨by simp [hasK, h0], rfl⟩
  · have h0 : ¬ idErr o d e x = 0 := of_decide_eq_false g
    repeat' ((conv => whnf); first | refine ⟨?_, True.intro⟩ | refine brn_t rfl ?_ | refine brn_f rfl ?_ | refine ob rfl ?_ | refine ob (by decide) ?_ | refine grow_same (Mem.le_refl _) ?_ | refine ob (Mem.le_refl _) ?_ | refine ⟨_, Mem.le_refl _, ?_⟩ | fail)
    exact ⟨by simp [hasK, h0], rfl⟩
end Go.Proofs.YtlocjjponfbhmaaGreat

/- The document's set: may an id be added, and adding it. -/
namespace Go.Proofs.YtlocjjponfbhmaaGreat
open Go Go.Vm
attribute [local irreducible] Brn Ob Grow CallsM inR LoopVC Mem.row Mem.cells Mem.setCells Mem.upd Own AppVC SrcVC StrVC NextVC New SrcOk subA NewSl Mem.textAt Mem.mapAt Mem.iterAt entryOf kfind Wr NewEls Elems
set_option maxRecDepth 10000
variable {M : Mem} {a : Option Addr} {n c : Nat} {L : List K}
theorem mayR_ok (hs : SrcOk M 3 a n (L.flatMap encK)) (hn : n ≤ 4194000) (room o d e x : Int) : CallsM Tryz.prog F.ref14_May [refV room a n c, idV o d e x] M fun v M' => v = .int .i64 (mayK room L o d e x) ∧ M.le M' := by
  refine fo_ref14_May (by simp) ?_
  (conv => whnf); refine (checkR_ok o d e x M).mono ?_
  rintro v _ ⟨rfl, rfl⟩
  (conv => whnf); refine brn (fun g => ?_) (fun g => ?_)
  · have h0 : ¬ idErr o d e x = 0 := by simpa using g
    (conv => whnf); refine (checkR_ok o d e x M).mono ?_
    rintro v _ ⟨rfl, rfl⟩
    repeat' ((conv => whnf); first | refine ⟨?_, True.intro⟩ | refine brn_t rfl ?_ | refine brn_f rfl ?_ | refine ob rfl ?_ | refine ob (by decide) ?_ | refine grow_same (Mem.le_refl _) ?_ | refine ob (Mem.le_refl _) ?_ | refine ⟨_, Mem.le_refl _, ?_⟩ | fail)
    exact ⟨by simp [mayK, h0], Mem.le_refl _⟩
  have h0 : idErr o d e x = 0 := by simpa using g
  (conv => whnf); refine (hasR_ok hs hn room o d e x).mono ?_
  rintro v _ ⟨rfl, rfl⟩
  (conv => whnf); refine brn (fun g1 => ?_) (fun g1 => ?_)
  · have h1 : hasK L o d e x = true := g1
    repeat' ((conv => whnf); first | refine ⟨?_, True.intro⟩ | refine brn_t rfl ?_ | refine brn_f rfl ?_ | refine ob rfl ?_ | refine ob (by decide) ?_ | refine grow_same (Mem.le_refl _) ?_ | refine ob (Mem.le_refl _) ?_ | refine ⟨_, Mem.le_refl _, ?_⟩ | fail)
    exact ⟨by simp [mayK, h0, h1], Mem.le_refl _⟩
  have h1 : hasK L o d e x = false := g1
  repeat' ((conv => whnf); first | refine ⟨?_, True.intro⟩ | refine brn_t rfl ?_ | refine brn_f rfl ?_ | refine ob rfl ?_ | refine ob (by decide) ?_ | refine grow_same (Mem.le_refl _) ?_ | refine ob (Mem.le_refl _) ?_ | refine ⟨_, Mem.le_refl _, ?_⟩ | fail)
  refine (nextR_ok hs hn room o d e x).mono ?_
  rintro v M1 ⟨rfl, hle1⟩
  repeat' ((conv => whnf); first | refine ob rfl ?_ | refine grow_same hle1 ?_ | refine ob hle1 ?_ | refine ⟨?_, True.intro⟩ | fail)
  refine brn (fun g2 => ?_) (fun g2 => ?_)
  · have h2 : ¬ x = nextK L o e := by simpa using g2
    repeat' ((conv => whnf); first | refine ob rfl ?_ | refine grow_same hle1 ?_ | refine ob hle1 ?_ | refine ⟨?_, True.intro⟩ | fail)
    refine (gapsR_ok (hs.le hle1) hn room).mono ?_
    rintro v M2 ⟨rfl, hle2⟩
    repeat' ((conv => whnf); first | refine ob rfl ?_ | refine grow_same (Mem.le_trans hle1 hle2) ?_ | refine ob (Mem.le_trans hle1 hle2) ?_ | refine ⟨?_, True.intro⟩ | fail)
    refine brn (fun g3 => ?_) (fun g3 => ?_)
    · have h3 : room ≤ gapsK L := of_decide_eq_true g3
      repeat' ((conv => whnf); first | refine ⟨?_, True.intro⟩ | refine brn_t rfl ?_ | refine brn_f rfl ?_ | refine ob rfl ?_ | refine ob (by decide) ?_ | refine grow_same (Mem.le_refl _) ?_ | refine ob (Mem.le_refl _) ?_ | refine ⟨_, Mem.le_refl _, ?_⟩ | fail)
      exact ⟨by simp [mayK, h0, h1, h2, h3], Mem.le_trans hle1 hle2⟩
    · have h3 : ¬ room ≤ gapsK L := of_decide_eq_false g3
      repeat' ((conv => whnf); first | refine ⟨?_, True.intro⟩ | refine brn_t rfl ?_ | refine brn_f rfl ?_ | refine ob rfl ?_ | refine ob (by decide) ?_ | refine grow_same (Mem.le_refl _) ?_ | refine ob (Mem.le_refl _) ?_ | refine ⟨_, Mem.le_refl _, ?_⟩ | fail)
      exact ⟨by simp [mayK, h0, h1, h3], Mem.le_trans hle1 hle2⟩
  · have h2 : x = nextK L o e := by simpa using g2
    repeat' ((conv => whnf); first | refine ob rfl ?_ | refine grow_same hle1 ?_ | refine ob hle1 ?_ | refine ⟨?_, True.intro⟩ | fail)
    (conv => whnf)
    have : mayK room L o d e x = 0 := by
      unfold mayK
      rw [if_neg (fun h => h h0), h1, if_neg (by simp), if_neg (fun h => h.1 h2)]
    exact ⟨by rw [this], hle1⟩
theorem addR_ok (hs : SrcOk M 3 a n (L.flatMap encK)) (hn : n ≤ 4194000) (room o d e x : Int) : CallsM Tryz.prog F.ref14_Add [refV room a n c, idV o d e x] M fun v M' =>
    (mayK room L o d e x ≠ 0 ∧ v = .tuple #[refV room a n c, .int .i64 (mayK room L o d e x)] ∧ M.le M') ∨
    (mayK room L o d e x = 0 ∧ ∃ a' c', v = .tuple #[refV room a' (n + 1) c', .int .i64 0] ∧ NewSl M T.portageref14_Key 3 a' (n + 1) c' ((putK ⟨o, e, x⟩ L).flatMap encK) M') := by
  refine fo_ref14_Add (by simp) ?_
  (conv => whnf); refine (mayR_ok hs hn room o d e x).mono ?_
  rintro v M1 ⟨rfl, hle1⟩
  (conv => whnf); refine brn (fun g => ?_) (fun g => ?_)
  · have h0 : ¬ mayK room L o d e x = 0 := by simpa using g
    repeat' ((conv => whnf); first | refine ⟨?_, True.intro⟩ | refine brn_t rfl ?_ | refine brn_f rfl ?_ | refine ob rfl ?_ | refine ob (by decide) ?_ | refine grow_same (Mem.le_refl _) ?_ | refine ob (Mem.le_refl _) ?_ | refine ⟨_, Mem.le_refl _, ?_⟩ | fail)
    refine (mayR_ok (hs.le hle1) hn room o d e x).mono ?_
    rintro v M2 ⟨rfl, hle2⟩
    repeat' ((conv => whnf); first | refine ob rfl ?_ | refine grow_same hle2 ?_ | refine ob hle2 ?_ | refine ⟨?_, True.intro⟩ | fail)
    (conv => whnf)
    exact .inl ⟨h0, rfl, Mem.le_trans hle1 hle2⟩
  have h0 : mayK room L o d e x = 0 := by simpa using g
  repeat' ((conv => whnf); first | refine ⟨?_, True.intro⟩ | refine brn_t rfl ?_ | refine brn_f rfl ?_ | refine ob rfl ?_ | refine ob (by decide) ?_ | refine grow_same (Mem.le_refl _) ?_ | refine ob (Mem.le_refl _) ?_ | refine ⟨_, Mem.le_refl _, ?_⟩ | fail)
  refine (putR_ok (hs.le hle1) hn ⟨o, e, x⟩).mono ?_
  rintro v M2 ⟨a', c', rfl, hN⟩
  repeat' ((conv => whnf); first | refine ob rfl ?_ | refine grow_same hN.le ?_ | refine ob hN.le ?_ | refine ⟨?_, True.intro⟩ | fail)
  (conv => whnf)
  exact .inr ⟨h0, a', c', rfl, hN.mono hle1⟩
end Go.Proofs.YtlocjjponfbhmaaGreat

/- Plain law: the set's rows and the document's keys say the same. -/
namespace Go.Proofs.YtlocjjponfbhmaaGreat
open Go Go.Vm
structure RelS (es : EsT) (L : List K) : Prop where
  inv : InvE es
  sort : SortK L
  same : ∀ o e c, inE es o e c ↔ SetL L o e c
theorem RelS.nil : RelS [] [] := ⟨InvE.nil, ⟨by simp, by simp⟩, fun o e c => by
  simp only [inE, inM, upOf, moreOf, aget, List.not_mem_nil, or_false, SetL, iff_false]; omega⟩
theorem RelS.canon {es : EsT} {L : List K} (h : RelS es L) : Canon (inE es) (marksK L) := (marksK_canon h.sort).of h.same
theorem RelS.marks {es : EsT} {L : List K} (h : RelS es L) {l : List Mk} (hc : Canon (inE es) l) : l = marksK L := hc.uniq h.canon
theorem RelS.perm {es : EsT} {L : List K} (h : RelS es L) : (marksK L).Perm (es.map mkOf) := by
  obtain ⟨toC, htoC⟩ : ∃ toC : Mk → MkC, toC = fun m => ⟨m.o, m.e, m.up, none, 0, m.more⟩ := ⟨_, rfl⟩
  have hto : ∀ m, (toC m).mk' = m := fun m => by rw [htoC]; rfl
  obtain ⟨le, hle⟩ : ∃ le : Mk → Mk → Bool, le = fun x y => decide (¬ (y.o < x.o ∨ (y.o = x.o ∧ y.e < x.e))) := ⟨_, rfl⟩
  have hs : ((es.map mkOf).mergeSort le).Pairwise (fun a b => le a b = true) := List.pairwise_mergeSort (fun a b c => by rw [hle]; simp only [decide_eq_true_eq]; omega) (fun a b => by rw [hle]; simp only [Bool.or_eq_true, decide_eq_true_eq]; omega) _
  have hp : ((es.map mkOf).mergeSort le).Perm (es.map mkOf) := List.mergeSort_perm _ _
  have hid : (((es.map mkOf).mergeSort le).map toC).map MkC.mk' = (es.map mkOf).mergeSort le := by
    rw [List.map_map, List.map_congr_left (f := MkC.mk' ∘ toC) (g := id) (fun m _ => hto m), List.map_id]
  have hc := marks_canon h.inv (l := ((es.map mkOf).mergeSort le).map toC) (by rw [hid]; exact hp) (by
    rw [List.pairwise_map]
    refine hs.imp fun {x y} hxy => ?_
    rw [cmpM_lt]
    rw [hle] at hxy
    rw [htoC]
    exact of_decide_eq_true hxy)
  rw [hid] at hc
  rw [← h.marks hc]; exact hp
theorem RelS.gaps {es : EsT} {L : List K} (h : RelS es L) : gapsE es = gapsK L := by
  have := (h.perm.map fun m => m.more.length).sum_nat
  rw [gapsK, this, List.map_map]; rfl
theorem nextOf_some : ∀ {l : List Mk} {o e : Int} {m : Mk}, l.Pairwise ltMk → m ∈ l → m.o = o → m.e = e → nextOf l o e = m.up + 1
  | [], _, _, _, _, hm, _, _ => by cases hm
  | x :: r, o, e, m, hp, hm, e1, e2 => by
    unfold nextOf
    split
    · rename_i h
      rw [ltMk_key hp (x := x) (y := m) (by simp) hm (by omega) (by omega)]
    · rename_i h
      rcases List.mem_cons.1 hm with h1 | h1
      · subst h1; exact absurd ⟨e1, e2⟩ h
      · exact nextOf_some (List.pairwise_cons.1 hp).2 h1 e1 e2
theorem nextOf_none : ∀ {l : List Mk} {o e : Int}, (∀ m ∈ l, ¬ (m.o = o ∧ m.e = e)) → nextOf l o e = 1
  | [], _, _, _ => rfl
  | x :: r, o, e, h => by
    unfold nextOf
    rw [if_neg (h x (by simp))]
    exact nextOf_none fun m hm => h m (by simp [hm])
theorem RelS.next {es : EsT} {L : List K} (h : RelS es L) (o e : Int) : nextK L o e = upOf es (o, e) + 1 := by
  unfold nextK upOf
  cases hx : aget es (o, e) with
  | some x =>
    have hm : mkOf ((o, e), x) ∈ marksK L := h.perm.mem_iff.2 (List.mem_map.2 ⟨_, aget_mem hx, rfl⟩)
    exact nextOf_some h.canon.sorted hm rfl rfl
  | none =>
    refine nextOf_none fun m hm ⟨e1, e2⟩ => ?_
    obtain ⟨q, hq, rfl⟩ := List.mem_map.1 (h.perm.mem_iff.1 hm)
    exact aget_none.1 hx (List.mem_map.2 ⟨q, hq, by
      obtain ⟨⟨a, b⟩, z⟩ := q
      simp only [mkOf] at e1 e2 ⊢
      rw [e1, e2]⟩)
theorem RelS.has {es : EsT} {L : List K} (h : RelS es L) (o d e c : Int) : hasE es o d e c = hasK L o d e c := by
  unfold hasK
  by_cases h0 : idErr o d e c = 0
  · rw [decide_eq_true h0, Bool.true_and]
    by_cases h1 : inE es o e c
    · rw [(hasE_iff h0).2 h1]
      have h2 : (⟨o, e, c⟩ : K) ∈ L := (h.same o e c).1 h1
      exact (decide_eq_true h2).symm
    · have : hasE es o d e c = false := by rw [← Bool.not_eq_true, hasE_iff h0]; exact h1
      rw [this]
      have h2 : ¬ (⟨o, e, c⟩ : K) ∈ L := fun h2 => h1 ((h.same o e c).2 h2)
      exact (decide_eq_false h2).symm
  · simp [hasE, h0]
theorem RelS.may {es : EsT} {L : List K} (h : RelS es L) (gaps : Int) (o d e c : Int) : mayE gaps es o d e c = mayK gaps L o d e c := by
  unfold mayE mayK
  rw [h.has, h.next, h.gaps]
/-- both sides add -/
theorem RelS.step {es es' : EsT} {L : List K} (h : RelS es L) {gaps : Int} {o d e c : Int} (hst : StepE gaps es es' o d e c) :
    (mayK gaps L o d e c ≠ 0 ∧ RelS es' L) ∨ (mayK gaps L o d e c = 0 ∧ RelS es' (putK ⟨o, e, c⟩ L)) := by
  rw [← h.may]
  rcases hst with ⟨hne, rfl⟩ | ⟨hz, x, rfl, hx⟩
  · exact .inl ⟨hne, h⟩
  · obtain ⟨hid, hni, -⟩ := mayE_zero hz
    obtain ⟨-, hc1, -⟩ := idErr_zero hid
    obtain ⟨i1, i2, -, -⟩ := add_inv h.inv hz hx
    have hnk : (⟨o, e, c⟩ : K) ∉ L := fun hm => hni ((h.same _ _ _).2 hm)
    refine .inr ⟨hz, i1, ⟨putK_sorted _ h.sort.1 hnk, fun k hk => ?_⟩, fun o' e' c' => ?_⟩
    · rcases (putK_mem _ _ _).1 hk with rfl | h1
      · exact hc1
      · exact h.sort.2 k h1
    · rw [i2, h.same]
      unfold SetL
      rw [putK_mem]
      simp
end Go.Proofs.YtlocjjponfbhmaaGreat

/- Messages: what the two sides' functions say. -/
namespace Go.Proofs.YtlocjjponfbhmaaGreat
open Go Go.Vm
attribute [local irreducible] Brn Ob Grow CallsM inR LoopVC Mem.row Mem.cells Mem.setCells Mem.upd Own AppVC SrcVC StrVC NextVC New SrcOk subA
def msgErr (a b c d : Int) (n : Nat) : Int := if idErr a b c d ≠ 0 then idErr a b c d else if n = 0 then 2 else if 48 < n then 3 else 0
set_option maxRecDepth 10000 in
theorem checkMsg_ok (a b c d : Int) (p : Option Addr) (n k : Nat) (M : Mem) : CallsM Tryz.prog F.msg_CheckMsg [.agg #[.int .i64 a, .int .i64 b, .int .i64 c, .int .i64 d, .slice p n k]] M fun v M' => v = .int .i64 (msgErr a b c d n) ∧ M = M' := by
  refine fo_msg_CheckMsg (by simp) ?_
  (conv => whnf)
  repeat' ((conv => whnf); first
    | (refine (check_ok _ _ _ _ _).mono ?_; rintro v M' ⟨rfl, rfl⟩)
    | refine brn (fun h => ?_) (fun h => ?_))
  all_goals (conv => whnf)
  all_goals (refine ⟨?_, rfl⟩; simp_all [msgErr])
  all_goals omega
set_option maxRecDepth 10000 in
theorem checkMsgR_ok (a b c d : Int) (p : Option Addr) (n k : Nat) (M : Mem) : CallsM Tryz.prog F.ref13_CheckMsg [.agg #[.int .i64 a, .int .i64 b, .int .i64 c, .int .i64 d, .slice p n k]] M fun v M' => v = .int .i64 (msgErr a b c d n) ∧ M = M' := by
  refine fo_ref13_CheckMsg (by simp) ?_
  (conv => whnf)
  repeat' ((conv => whnf); first
    | (refine (checkR_ok _ _ _ _ _).mono ?_; rintro v M' ⟨rfl, rfl⟩)
    | refine brn (fun h => ?_) (fun h => ?_))
  all_goals (conv => whnf)
  all_goals (refine ⟨?_, rfl⟩; simp_all [msgErr])
  all_goals omega
set_option maxRecDepth 10000 in
theorem sameMsgR_ok (a b c d a' b' c' d' : Int) (p p' : Option Addr) (n k n' k' : Nat) (M : Mem) (l l' : List UInt8) (h1 : SrcOk M 1 p n (l.map byteV)) (h2 : SrcOk M 1 p' n' (l'.map byteV)) :
    CallsM Tryz.prog F.ref13_Same [.agg #[.int .i64 a, .int .i64 b, .int .i64 c, .int .i64 d, .slice p n k], .agg #[.int .i64 a', .int .i64 b', .int .i64 c', .int .i64 d', .slice p' n' k']] M fun v M' =>
      v = .bool (decide ((a = a' ∧ b = b' ∧ c = c' ∧ d = d') ∧ l = l')) ∧ M = M' := by
  refine fo_ref13_Same (by simp) ?_
  (conv => whnf)
  repeat' ((conv => whnf); first
    | refine strv h1 ?_
    | refine strv h2 ?_
    | refine brn (fun h => ?_) (fun h => ?_))
  all_goals (conv => whnf)
  all_goals (refine ⟨?_, rfl⟩; simp_all)
end Go.Proofs.YtlocjjponfbhmaaGreat

/- The store: plain words; how it lies in memory. -/
namespace Go.Proofs.YtlocjjponfbhmaaGreat
open Go Go.Vm
attribute [local irreducible] Brn Ob Grow CallsM inR LoopVC Mem.row Mem.cells Mem.setCells Mem.upd Own AppVC SrcVC StrVC NextVC New SrcOk subA NewSl Mem.textAt Mem.mapAt Mem.iterAt entryOf kfind Wr NewEls Elems
set_option maxRecDepth 10000
/-- a message: its id, its bytes -/
structure MsgD where
  id : IdT
  p : List UInt8
deriving DecidableEq
/-- a store, but what it has seen -/
structure StR where
  self : Int
  qh : Int
  qb : Int
  qg : Int
  epoch : Int
  used : List Int
  l : List MsgD
/-- an event -/
structure EvD where
  kind : Int
  id : IdT
  p : List UInt8
@[reducible] def idErrD (i : IdT) : Int := idErr i.o i.d i.e i.c
@[reducible] def msgErrD (i : IdT) (n : Nat) : Int := msgErr i.o i.d i.e i.c n
def zeroId (i : IdT) : Prop := i.o = 0 ∧ i.d = 0 ∧ i.e = 0 ∧ i.c = 0
instance (i : IdT) : Decidable (zeroId i) := by unfold zeroId; infer_instance
/-- why an event is not right -/
def formD (k : Int) (i : IdT) (n : Nat) : Int :=
  if k = 1 then (if ¬ zeroId i ∨ 0 < n then 2 else 0)
  else if k = 2 then msgErrD i n
  else if k = 3 ∨ k = 4 then (if idErrD i ≠ 0 then idErrD i else if 0 < n then 2 else 0)
  else 1
def bytesD (l : List MsgD) : Nat := (l.map fun m => m.p.length).sum
def hasD (l : List MsgD) (i : IdT) : Bool := l.any fun m => decide (m.id = i)
/-- why an event can't be; what the set says of an id is told apart -/
def mayD (S : StR) (set : IdT → Int) (k : Int) (i : IdT) (n : Nat) : Int :=
  if formD k i n ≠ 0 then formD k i n
  else if k = 1 then (if S.epoch = 65535 then 10 else 0)
  else if k = 2 then (if i.d = S.self ∨ (i.o = S.self ∧ S.epoch < i.e) then 2 else if hasD S.l i then 5 else if S.qh ≤ S.l.length ∨ S.qb < bytesD S.l + n then 6 else 0)
  else if k = 3 then (if hasD S.l i then 0 else 4)
  else (if i.d ≠ S.self then 2 else set i)
def lastD (S : StR) (d : Int) : Int := S.used.getD d.toNat 0
/-- what an event makes, but of the set -/
def applyD (S : StR) (k : Int) (i : IdT) (p : List UInt8) : StR :=
  if k = 1 then { S with epoch := S.epoch + 1, used := List.replicate 64 0 }
  else if k = 2 then { S with l := S.l ++ [⟨i, p⟩], used := if i.o = S.self ∧ i.e = S.epoch then S.used.set i.d.toNat (max (lastD S i.d) i.c) else S.used }
  else if k = 3 then { S with l := S.l.filter fun m => decide (m.id ≠ i) }
  else S
structure InvS (S : StR) : Prop where
  self : 0 ≤ S.self ∧ S.self ≤ 63
  epoch : 0 ≤ S.epoch ∧ S.epoch ≤ 65535
  ulen : S.used.length = 64
  used : ∀ n ∈ S.used, 0 ≤ n ∧ n ≤ 65535
  qh : (S.l.length : Int) ≤ S.qh ∧ S.qh ≤ 2097152
  qb : (bytesD S.l : Int) ≤ S.qb ∧ S.qb ≤ 134217728
  msgs : ∀ m ∈ S.l, msgErrD m.id m.p.length = 0 ∧ m.id.d ≠ S.self ∧ (m.id.o = S.self → m.id.e ≤ S.epoch)
  nodup : (S.l.map (·.id)).Nodup
/-- a held message: where its bytes lie, when it came -/
structure PX where
  id : IdT
  a : Option Addr
  c : Nat
  p : List UInt8
  n : Int
@[reducible] def PX.msg (x : PX) : MsgD := ⟨x.id, x.p⟩
abbrev HsT := List (IdT × PX)
@[reducible] def idA (i : IdT) : Value := .agg #[.int .i64 i.o, .int .i64 i.d, .int .i64 i.e, .int .i64 i.c]
@[reducible] def pxV (x : PX) : Value := .agg #[.int .i64 x.id.o, .int .i64 x.id.d, .int .i64 x.id.e, .int .i64 x.id.c, .slice x.a x.p.length x.c, .int .i64 x.n]
theorem idK : KeyOk idA := by
  intro a b
  obtain ⟨a1, a2, a3, a4⟩ := a
  obtain ⟨b1, b2, b3, b4⟩ := b
  simp only [sameV, sameCs, if_true, IdT.mk.injEq]
  (repeat' split) <;> simp_all
@[reducible] def stCs (S : StR) (b : Nat) (came : Int) (bytes : Int) (sp : Nat) : List Value :=
  [.int .i64 S.self, .int .i64 S.qh, .int .i64 S.qb, .int .i64 S.qg, .int .i64 S.epoch] ++ S.used.map intV ++ [.map (some b), .int .i64 came, .int .i64 bytes, ptr sp]
structure StAt (M : Mem) (p b sp sb : Nat) (S : StR) (came : Int) (xs : HsT) (es : EsT) : Prop where
  self : M.has p T.store_Store (stCs S b came (bytesD S.l) sp)
  map : MapAt idA pxV M b xs
  data : ∀ q ∈ xs, Wr M T.uint8 1 q.2.a q.2.p.length q.2.c (q.2.p.map byteV)
  set : SetAt M sp sb S.qg es
  held : xs.map (fun q => q.2.msg) = S.l
  keys : ∀ q ∈ xs, q.2.id = q.1
  ord : xs.Pairwise fun x y => x.2.n < y.2.n
  came : 0 ≤ came ∧ ∀ q ∈ xs, 0 ≤ q.2.n ∧ q.2.n < came
  ne : b ≠ sb
def stB (p b sp sb : Nat) (xs : HsT) (es : EsT) : Nat → Prop := fun y => y = p ∨ y = b ∨ (∃ q ∈ xs, blk q.2.a y) ∨ setB sp sb es y
variable {M : Mem} {p b sp sb : Nat} {S : StR} {came : Int} {xs : HsT} {es : EsT}
theorem SetAt.mono {M' : Mem} {gaps : Int} (h : SetAt M sp sb gaps es) (hk : ∀ y o, setB sp sb es y → M y = some o → M' y = some o) : SetAt M' sp sb gaps es :=
  ⟨hk _ _ (.inl rfl) h.self, h.map.mono fun o ho => hk _ _ (.inr (.inl rfl)) ho, fun q hq => (h.ents q hq).mono fun y o hy ho => hk y o (.inr (.inr ⟨q, hq, hy⟩)) ho, h.apart⟩
theorem StAt.mono {M' : Mem} (h : StAt M p b sp sb S came xs es) (hk : ∀ y o, stB p b sp sb xs es y → M y = some o → M' y = some o) : StAt M' p b sp sb S came xs es :=
  ⟨hk _ _ (.inl rfl) h.self, h.map.mono fun o ho => hk _ _ (.inr (.inl rfl)) ho, fun q hq => (h.data q hq).mono fun y o hy ho => hk _ o (.inr (.inr (.inl ⟨q, hq, _, hy, rfl⟩))) ho, h.set.mono fun y o hy ho => hk y o (.inr (.inr (.inr hy))) ho, h.held, h.keys, h.ord, h.came, h.ne⟩
theorem StAt.le {M' : Mem} (h : StAt M p b sp sb S came xs es) (hle : M.le M') : StAt M' p b sp sb S came xs es := h.mono fun y o _ => hle y o
theorem stCs_len (hu : S.used.length = 64) (b : Nat) (came bytes : Int) (sp : Nat) : (stCs S b came bytes sp).length = 73 := by simp [hu]
theorem stCs_map (hu : S.used.length = 64) (b : Nat) (came bytes : Int) (sp : Nat) : (stCs S b came bytes sp)[69]? = some (.map (some b)) := by
  simp [hu]
theorem stCs_came (hu : S.used.length = 64) (b : Nat) (came bytes : Int) (sp : Nat) : (stCs S b came bytes sp)[70]? = some (.int .i64 came) := by
  simp [hu]
theorem stCs_bytes (hu : S.used.length = 64) (b : Nat) (came bytes : Int) (sp : Nat) : (stCs S b came bytes sp)[71]? = some (.int .i64 bytes) := by
  simp [hu]
theorem stCs_set (hu : S.used.length = 64) (b : Nat) (came bytes : Int) (sp : Nat) : (stCs S b came bytes sp)[72]? = some (ptr sp) := by
  simp [hu]
theorem stCs_used (hu : S.used.length = 64) (b : Nat) (came bytes : Int) (sp : Nat) {d : Nat} (hd : d < 64) : (stCs S b came bytes sp)[5 + d]? = some (.int .i64 (S.used.getD d 0)) := by
  have h : d < S.used.length := by omega
  rw [Nat.add_comm 5 d]
  simp [List.getElem?_append, h]
end Go.Proofs.YtlocjjponfbhmaaGreat

