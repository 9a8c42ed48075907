/- Marks: are two lists the same? Copies. -/
import Derived.Test.YtlocjjponfbhmaaGreatJoin17
import Derived.Test.YtlocjjponfbhmaaGreatJoin16
namespace Go.Proofs.YtlocjjponfbhmaaGreat
open Go Go.Vm
attribute [local irreducible] Brn Ob Grow CallsM inR LoopVC Mem.row Mem.cells Mem.setCells Mem.upd Own AppVC SrcVC StrVC NextVC New SrcOk subA NewSl Mem.textAt Mem.mapAt Mem.iterAt entryOf kfind Wr NewEls Elems
set_option maxRecDepth 10000
variable {M : Mem}
/-- marks that are read -/
structure MarksR (M : Mem) (a : Option Addr) (n : Nat) (l : List MkC) : Prop where
  row : SrcOk M 4 a n (l.flatMap encM)
  more : ∀ m ∈ l, SrcOk M 1 m.a m.more.length (m.more.map intV)
theorem MarksAt.r {M0 M' : Mem} {a : Option Addr} {n c : Nat} {l : List MkC} (h : MarksAt M0 a n c l M') : MarksR M' a n l := ⟨h.row.src, fun m hm => (h.more m hm).src⟩
theorem MarksR.le {M M' : Mem} {a : Option Addr} {n : Nat} {l : List MkC} (h : MarksR M a n l) (hle : M.le M') : MarksR M' a n l := ⟨h.row.le hle, fun m hm => (h.more m hm).le hle⟩
theorem MarksR.len {M : Mem} {a : Option Addr} {n : Nat} {l : List MkC} (h : MarksR M a n l) : l.length = n := h.row.flen encM_len (by decide)
/-- marks of few numbers -/
def FewM (l : List MkC) : Prop := ∀ m ∈ l, m.more.length ≤ 4194304
theorem same_ok {a b : Option Addr} {n m c d : Nat} {l r : List MkC} (ha : MarksR M a n l) (hb : MarksR M b m r) (fl : FewM l) (hn : n ≤ 4194304) (hm : m ≤ 4194304) :
    CallsM Tryz.prog F.ref14_SameMarks [.slice a n c, .slice b m d] M fun v M' => v = .bool (decide (l.map MkC.mk' = r.map MkC.mk')) ∧ M = M' := by
  refine fo_ref14_SameMarks (by simp) ?_
  have hl := ha.len
  have hr := hb.len
  (conv => whnf); refine brn (fun h => ?_) (fun h => ?_)
  · repeat' ((conv => whnf); first | refine ⟨?_, True.intro⟩ | refine brn_t rfl ?_ | refine brn_f rfl ?_ | refine ob rfl ?_ | refine ob (by decide) ?_ | refine grow_same (Mem.le_refl _) ?_ | refine ob (Mem.le_refl _) ?_ | refine ⟨_, Mem.le_refl _, ?_⟩ | fail)
    have h' : ¬ (n : Int) = m := by simpa using h
    refine ⟨?_, rfl⟩
    have : ¬ l.map MkC.mk' = r.map MkC.mk' := fun e => h' (by have := congrArg List.length e; simp at this; omega)
    simp [this]
  have hnm : n = m := by have h' : (n : Int) = m := by simpa using h
                         omega
  subst hnm
  (conv => whnf)
  refine loopQ [5] (fun (i : Nat) => [(5, .int .i64 i)]) (fun i => i ≤ n ∧ (l.map MkC.mk').take i = (r.map MkC.mk').take i) (fun i => n - i) 0 ⟨by omega, by simp⟩ ⟨(by repeat' first | exact True.intro | refine ⟨rfl, ?_⟩), (by repeat' first | exact True.intro | refine ⟨rfl, ?_⟩), Mem.le_refl _, rfl⟩ ?_
  intro i ⟨hi, hsame⟩
  (conv => whnf); refine brn (fun g => ?_) (fun g => ?_)
  · have hlt : i < n := by have := of_decide_eq_true g; omega
    have hx : l[i]? = some (l[i]'(by omega)) := List.getElem?_eq_getElem (by omega)
    have hy : r[i]? = some (r[i]'(by omega)) := List.getElem?_eq_getElem (by omega)
    generalize l[i]'(by omega) = x at *
    generalize r[i]'(by omega) = y at *
    obtain ⟨b1, o1, rfl, hc1⟩ := ha.row.fcells encM_len (by decide) hx
    obtain ⟨b2, o2, rfl, hc2⟩ := hb.row.fcells encM_len (by decide) hy
    have hxm := ha.more x (List.mem_of_getElem? hx)
    have hym := hb.more y (List.mem_of_getElem? hy)
    have no : ¬ x.mk' = y.mk' → ¬ l.map MkC.mk' = r.map MkC.mk' := fun hne e => by
      have := congrArg (·[i]?) e
      simp [hx, hy] at this
      exact hne this
    repeat' ((conv => whnf); first | refine ⟨?_, True.intro⟩ | refine brn_t rfl ?_ | refine brn_f rfl ?_ | refine ob rfl ?_ | refine ob (by decide) ?_ | refine grow_same (Mem.le_refl _) ?_ | refine ob (Mem.le_refl _) ?_ | refine ⟨_, Mem.le_refl _, ?_⟩ | fail)
    refine ob (by omega) ?_
    (conv => whnf); refine on (hc1 0 _ rfl) ?_
    (conv => whnf); refine ob (by omega) ?_
    (conv => whnf); refine on (hc2 0 _ rfl) ?_
    (conv => whnf); refine brn (fun g1 => ?_) (fun g1 => ?_)
    · repeat' ((conv => whnf); first | refine ⟨?_, True.intro⟩ | refine brn_t rfl ?_ | refine brn_f rfl ?_ | refine ob rfl ?_ | refine ob (by decide) ?_ | refine grow_same (Mem.le_refl _) ?_ | refine ob (Mem.le_refl _) ?_ | refine ⟨_, Mem.le_refl _, ?_⟩ | fail)
      exact ⟨by simp [no (fun e => by simp at g1; exact g1 (congrArg Mk.o e))], rfl⟩
    have e1 : x.o = y.o := by simpa using g1
    (conv => whnf); refine ob (by omega) ?_
    (conv => whnf); refine on (hc1 1 _ rfl) ?_
    (conv => whnf); refine ob (by omega) ?_
    (conv => whnf); refine on (hc2 1 _ rfl) ?_
    (conv => whnf); refine brn (fun g2 => ?_) (fun g2 => ?_)
    · repeat' ((conv => whnf); first | refine ⟨?_, True.intro⟩ | refine brn_t rfl ?_ | refine brn_f rfl ?_ | refine ob rfl ?_ | refine ob (by decide) ?_ | refine grow_same (Mem.le_refl _) ?_ | refine ob (Mem.le_refl _) ?_ | refine ⟨_, Mem.le_refl _, ?_⟩ | fail)
      exact ⟨by simp [no (fun e => by simp at g2; exact g2 (congrArg Mk.e e))], rfl⟩
    have e2 : x.e = y.e := by simpa using g2
    (conv => whnf); refine ob (by omega) ?_
    (conv => whnf); refine on (hc1 2 _ rfl) ?_
    (conv => whnf); refine ob (by omega) ?_
    (conv => whnf); refine on (hc2 2 _ rfl) ?_
    (conv => whnf); refine brn (fun g3 => ?_) (fun g3 => ?_)
    · repeat' ((conv => whnf); first | refine ⟨?_, True.intro⟩ | refine brn_t rfl ?_ | refine brn_f rfl ?_ | refine ob rfl ?_ | refine ob (by decide) ?_ | refine grow_same (Mem.le_refl _) ?_ | refine ob (Mem.le_refl _) ?_ | refine ⟨_, Mem.le_refl _, ?_⟩ | fail)
      exact ⟨by simp [no (fun e => by simp at g3; exact g3 (congrArg Mk.up e))], rfl⟩
    have e3 : x.up = y.up := by simpa using g3
    (conv => whnf); refine ob (by omega) ?_
    (conv => whnf); refine on (hc1 3 _ rfl) ?_
    (conv => whnf); refine ob (by omega) ?_
    (conv => whnf); refine on (hc2 3 _ rfl) ?_
    (conv => whnf); refine brn (fun g4 => ?_) (fun g4 => ?_)
    · repeat' ((conv => whnf); first | refine ⟨?_, True.intro⟩ | refine brn_t rfl ?_ | refine brn_f rfl ?_ | refine ob rfl ?_ | refine ob (by decide) ?_ | refine grow_same (Mem.le_refl _) ?_ | refine ob (Mem.le_refl _) ?_ | refine ⟨_, Mem.le_refl _, ?_⟩ | fail)
      exact ⟨by simp [no (fun e => by simp at g4; exact g4 (congrArg (fun m : Mk => (m.more.length : Int)) e))], rfl⟩
    have e4 : x.more.length = y.more.length := by
      have : (x.more.length : Int) = y.more.length := by simpa using g4
      omega
    have hfx := fl x (List.mem_of_getElem? hx)
    (conv => whnf)
    refine loopQ [6] (fun (k : Nat) => [(6, .int .i64 k)]) (fun k => k ≤ x.more.length ∧ x.more.take k = y.more.take k) (fun k => x.more.length - k) 0 ⟨by omega, by simp⟩ ⟨(by repeat' first | exact True.intro | refine ⟨rfl, ?_⟩), (by repeat' first | exact True.intro | refine ⟨rfl, ?_⟩), Mem.le_refl _, rfl⟩ ?_
    intro k ⟨hk, hsk⟩
    (conv => whnf); refine ob (by omega) ?_
    (conv => whnf); refine on (hc1 3 _ rfl) ?_
    (conv => whnf); refine brn (fun g5 => ?_) (fun g5 => ?_)
    · have hlk : k < x.more.length := by have := of_decide_eq_true g5; omega
      obtain ⟨hkx, bx, ox, hax, hrx⟩ := hxm.at (i := k) hlk
      obtain ⟨hky, by', oy, hay, hry⟩ := hym.at (i := k) (by omega)
      repeat' ((conv => whnf); first | refine ⟨?_, True.intro⟩ | refine brn_t rfl ?_ | refine brn_f rfl ?_ | refine ob rfl ?_ | refine ob (by decide) ?_ | refine grow_same (Mem.le_refl _) ?_ | refine ob (Mem.le_refl _) ?_ | refine ⟨_, Mem.le_refl _, ?_⟩ | fail)
      refine ob (by omega) ?_
      (conv => whnf); refine on (hc1 3 _ rfl) ?_
      (conv => whnf); refine ob (by omega) ?_
      (conv => whnf); refine atp hax ?_
      (conv => whnf); refine on hrx ?_
      (conv => whnf); refine ob (by omega) ?_
      (conv => whnf); refine on (hc2 3 _ rfl) ?_
      (conv => whnf); refine ob (by omega) ?_
      (conv => whnf); refine atp hay ?_
      (conv => whnf); refine on hry ?_
      (conv => whnf); refine brn (fun g6 => ?_) (fun g6 => ?_)
      · repeat' ((conv => whnf); first | refine ⟨?_, True.intro⟩ | refine brn_t rfl ?_ | refine brn_f rfl ?_ | refine ob rfl ?_ | refine ob (by decide) ?_ | refine grow_same (Mem.le_refl _) ?_ | refine ob (Mem.le_refl _) ?_ | refine ⟨_, Mem.le_refl _, ?_⟩ | fail)
        refine ⟨?_, rfl⟩
        have : ¬ x.mk' = y.mk' := fun e => by
          have e5 : x.more = y.more := congrArg Mk.more e
          simp [e5] at g6
        simp [no this]
      · (conv => whnf); refine ob (inR_i64 (by omega)) ?_
        (conv => whnf)
        refine ⟨k + 1, ⟨by omega, ?_⟩, by omega, ⟨(by repeat' first | exact True.intro | refine ⟨rfl, ?_⟩), (by repeat' first | exact True.intro | refine ⟨rfl, ?_⟩), Mem.le_refl _, rfl⟩⟩
        have e6 : x.more[k] = y.more[k] := by simpa using g6
        rw [List.take_add_one, List.take_add_one, hsk, List.getElem?_eq_getElem hkx, List.getElem?_eq_getElem hky, e6]
    · have hge : x.more.length ≤ k := by have := of_decide_eq_false g5; omega
      rw [List.take_of_length_le hge, List.take_of_length_le (by omega)] at hsk
      (conv => whnf); refine ob (inR_i64 (by omega)) ?_
      (conv => whnf)
      refine ⟨i + 1, ⟨by omega, ?_⟩, by omega, ⟨(by repeat' first | exact True.intro | refine ⟨rfl, ?_⟩), (by repeat' first | exact True.intro | refine ⟨rfl, ?_⟩), Mem.le_refl _, rfl⟩⟩
      rw [List.take_add_one, List.take_add_one, hsame]
      simp [hx, hy, MkC.mk', e1, e2, e3, hsk]
  · have hge : i = n := by have := of_decide_eq_false g; omega
    subst hge
    repeat' ((conv => whnf); first | refine ⟨?_, True.intro⟩ | refine brn_t rfl ?_ | refine brn_f rfl ?_ | refine ob rfl ?_ | refine ob (by decide) ?_ | refine grow_same (Mem.le_refl _) ?_ | refine ob (Mem.le_refl _) ?_ | refine ⟨_, Mem.le_refl _, ?_⟩ | fail)
    refine ⟨?_, rfl⟩
    rw [List.take_of_length_le (by simp; omega), List.take_of_length_le (by simp; omega)] at hsame
    simp [hsame]
end Go.Proofs.YtlocjjponfbhmaaGreat

/- Plain law: marks are what is there, in order, told in one way alone. -/
namespace Go.Proofs.YtlocjjponfbhmaaGreat
open Go Go.Vm
def CanR (up : Int) (more : List Int) : Prop := 0 ≤ up ∧ more.Pairwise (· < ·) ∧ ∀ c ∈ more, up + 1 < c
def inM (up : Int) (more : List Int) (c : Int) : Prop := (1 ≤ c ∧ c ≤ up) ∨ c ∈ more
theorem sorted_ext {α : Type} {R : α → α → Prop} (irr : ∀ x, ¬ R x x) (asym : ∀ x y, R x y → ¬ R y x) : ∀ {l l' : List α}, l.Pairwise R → l'.Pairwise R → (∀ x, x ∈ l ↔ x ∈ l') → l = l'
  | [], [], _, _, _ => rfl
  | [], y :: s, _, _, h => absurd ((h y).2 (by simp)) (by simp)
  | x :: r, [], _, _, h => absurd ((h x).1 (by simp)) (by simp)
  | x :: r, y :: s, h1, h2, h => by
    obtain ⟨h3, h4⟩ := List.pairwise_cons.1 h1
    obtain ⟨h5, h6⟩ := List.pairwise_cons.1 h2
    have hxy : x = y := by
      rcases List.mem_cons.1 ((h x).1 (by simp)) with e | e
      · exact e
      · rcases List.mem_cons.1 ((h y).2 (by simp)) with e' | e'
        · exact e'.symm
        · exact absurd (h5 x e) (asym _ _ (h3 y e'))
    subst hxy
    rw [sorted_ext irr asym h4 h6 fun z => ?_]
    constructor
    · intro hz
      rcases List.mem_cons.1 ((h z).1 (by simp [hz])) with e | e
      · subst e; exact absurd (h3 z hz) (irr z)
      · exact e
    · intro hz
      rcases List.mem_cons.1 ((h z).2 (by simp [hz])) with e | e
      · subst e; exact absurd (h5 z hz) (irr z)
      · exact e
theorem CanR.up_le {up up' : Int} {more more' : List Int} (h' : CanR up' more') (he : ∀ c, inM up more c ↔ inM up' more' c) : up ≤ up' := by
  apply Classical.byContradiction
  intro hn
  have h1 : inM up' more' (up' + 1) := (he _).1 (.inl ⟨by have := h'.1; omega, by omega⟩)
  rcases h1 with h1 | h1
  · omega
  · have := h'.2.2 _ h1; omega
theorem CanR.uniq {up up' : Int} {more more' : List Int} (h : CanR up more) (h' : CanR up' more') (he : ∀ c, inM up more c ↔ inM up' more' c) : up = up' ∧ more = more' := by
  have e : up = up' := Int.le_antisymm (CanR.up_le h' he) (CanR.up_le h fun c => (he c).symm)
  subst e
  refine ⟨rfl, sorted_ext (R := (· < ·)) (fun x => by omega) (fun x y => by omega) h.2.1 h'.2.1 fun c => ⟨fun hc => ?_, fun hc => ?_⟩⟩
  · have h1 := h.2.2 c hc
    rcases (he c).1 (.inr hc) with h2 | h2
    · omega
    · exact h2
  · have h1 := h'.2.2 c hc
    rcases (he c).2 (.inr hc) with h2 | h2
    · omega
    · exact h2
def ltMk (x y : Mk) : Prop := x.o < y.o ∨ (x.o = y.o ∧ x.e < y.e)
theorem ltMk_key : ∀ {l : List Mk}, l.Pairwise ltMk → ∀ {x y : Mk}, x ∈ l → y ∈ l → x.o = y.o → x.e = y.e → x = y
  | [], _, x, y, hx, _, _, _ => by cases hx
  | z :: r, h, x, y, hx, hy, h1, h2 => by
    obtain ⟨h3, h4⟩ := List.pairwise_cons.1 h
    rcases List.mem_cons.1 hx with e | e
    · rcases List.mem_cons.1 hy with e' | e'
      · rw [e, e']
      · subst e; have := h3 y e'; unfold ltMk at this; omega
    · rcases List.mem_cons.1 hy with e' | e'
      · subst e'; have := h3 x e; unfold ltMk at this; omega
      · exact ltMk_key h4 e e' h1 h2
/-- a list of marks tells what is there -/
structure Canon (S : Int → Int → Int → Prop) (l : List Mk) : Prop where
  sorted : l.Pairwise ltMk
  can : ∀ m ∈ l, CanR m.up m.more ∧ (0 < m.up ∨ m.more ≠ [])
  mem : ∀ o e c, S o e c ↔ ∃ m ∈ l, m.o = o ∧ m.e = e ∧ inM m.up m.more c
theorem CanR.some {up : Int} {more : List Int} (h : 0 < up ∨ more ≠ []) : ∃ c, inM up more c := by
  rcases h with h | h
  · exact ⟨up, .inl ⟨by omega, Int.le_refl _⟩⟩
  · obtain ⟨x, r, rfl⟩ := List.exists_cons_of_ne_nil h
    exact ⟨x, .inr (by simp)⟩
theorem Canon.sub {S : Int → Int → Int → Prop} {l l' : List Mk} (h : Canon S l) (h' : Canon S l') {m : Mk} (hm : m ∈ l) : m ∈ l' := by
  obtain ⟨h1, h2⟩ := h.can m hm
  obtain ⟨c0, hc0⟩ := CanR.some h2
  obtain ⟨m', hm', e1, e2, -⟩ := (h'.mem _ _ _).1 ((h.mem _ _ _).2 ⟨m, hm, rfl, rfl, hc0⟩)
  have he : ∀ c, inM m.up m.more c ↔ inM m'.up m'.more c := fun c => by
    constructor
    · intro hc
      obtain ⟨m2, hm2, e3, e4, hc2⟩ := (h'.mem _ _ _).1 ((h.mem _ _ _).2 ⟨m, hm, rfl, rfl, hc⟩)
      rw [ltMk_key h'.sorted hm' hm2 (by omega) (by omega)]; exact hc2
    · intro hc
      obtain ⟨m2, hm2, e3, e4, hc2⟩ := (h.mem _ _ _).1 ((h'.mem _ _ _).2 ⟨m', hm', rfl, rfl, hc⟩)
      rw [ltMk_key h.sorted hm hm2 (by omega) (by omega)]; exact hc2
  obtain ⟨e3, e4⟩ := h1.uniq (h'.can m' hm').1 he
  have : m = m' := by
    obtain ⟨a, b, c, d⟩ := m
    obtain ⟨a', b', c', d'⟩ := m'
    simp only at e1 e2 e3 e4
    rw [e1, e2, e3, e4]
  rw [this]; exact hm'
theorem Canon.uniq {S : Int → Int → Int → Prop} {l l' : List Mk} (h : Canon S l) (h' : Canon S l') : l = l' :=
  sorted_ext (R := ltMk) (fun x => by unfold ltMk; omega) (fun x y => by unfold ltMk; omega) h.sorted h'.sorted fun _ => ⟨fun hm => h.sub h' hm, fun hm => h'.sub h hm⟩
theorem Canon.of {S S' : Int → Int → Int → Prop} {l : List Mk} (h : Canon S l) (he : ∀ o e c, S' o e c ↔ S o e c) : Canon S' l := ⟨h.sorted, h.can, fun o e c => (he o e c).trans (h.mem o e c)⟩
/-- a number more -/
theorem insC_mem (c : Int) : ∀ (l : List Int) (x : Int), x ∈ insC c l ↔ x = c ∨ x ∈ l
  | [], x => by simp [insC]
  | y :: r, x => by
    simp only [insC]
    split
    · simp only [List.mem_cons, insC_mem c r x]
      constructor
      · rintro (h | h | h) <;> simp [h]
      · rintro (h | h | h) <;> simp [h]
    · simp only [List.mem_cons]
theorem insC_sorted (c : Int) : ∀ (l : List Int), l.Pairwise (· < ·) → c ∉ l → (insC c l).Pairwise (· < ·)
  | [], _, _ => by simp [insC]
  | y :: r, h, hn => by
    obtain ⟨h1, h2⟩ := List.pairwise_cons.1 h
    simp only [List.mem_cons, not_or] at hn
    simp only [insC]
    split
    · refine List.pairwise_cons.2 ⟨fun z hz => ?_, insC_sorted c r h2 hn.2⟩
      rcases (insC_mem c r z).1 hz with e | e
      · omega
      · exact h1 z e
    · refine List.pairwise_cons.2 ⟨fun z hz => ?_, h⟩
      rcases List.mem_cons.1 hz with e | e
      · omega
      · have := h1 z e; omega
theorem normC_ok : ∀ (l : List Int) (up : Int), 0 ≤ up → l.Pairwise (· < ·) → (∀ x ∈ l, up < x) → CanR (normC up l).1 (normC up l).2 ∧ (∀ c, inM (normC up l).1 (normC up l).2 c ↔ inM up l c) ∧ (normC up l).2.length ≤ l.length
  | [], up, h0, _, _ => by simp [normC, CanR, h0]
  | y :: r, up, h0, h1, h2 => by
    obtain ⟨h3, h4⟩ := List.pairwise_cons.1 h1
    simp only [normC]
    split
    · rename_i e
      obtain ⟨i1, i2, i3⟩ := normC_ok r (up + 1) (by omega) h4 (fun x hx => by have := h3 x hx; omega)
      refine ⟨i1, fun c => (i2 c).trans ?_, by simp; omega⟩
      unfold inM
      simp only [List.mem_cons]
      constructor
      · rintro (h | h)
        · by_cases h5 : c = up + 1
          · exact .inr (.inl (by omega))
          · exact .inl (by omega)
        · exact .inr (.inr h)
      · rintro (h | h | h)
        · exact .inl (by omega)
        · exact .inl (by omega)
        · exact .inr h
    · rename_i e
      refine ⟨⟨h0, h1, fun x hx => ?_⟩, fun c => .rfl, by simp⟩
      have hy := h2 y (by simp)
      rcases List.mem_cons.1 hx with e' | e'
      · omega
      · have := h3 x e'; omega
theorem normC_pop (up : Int) (r : List Int) (h0 : 0 ≤ up) (h : ((up + 1) :: r).Pairwise (· < ·)) : (normC up ((up + 1) :: r)).2.length ≤ r.length := by
  obtain ⟨h3, h4⟩ := List.pairwise_cons.1 h
  simp only [normC, if_true]
  exact (normC_ok r (up + 1) (by omega) h4 h3).2.2
end Go.Proofs.YtlocjjponfbhmaaGreat

/- Plain law: the rows of a set, and what an added id turns. -/
namespace Go.Proofs.YtlocjjponfbhmaaGreat
open Go Go.Vm
abbrev EsT := List ((Int × Int) × Ent)
def inE (es : EsT) (o e c : Int) : Prop := inM (upOf es (o, e)) (moreOf es (o, e)) c
def RightK (o e : Int) : Prop := 0 ≤ o ∧ o ≤ 63 ∧ 1 ≤ e ∧ e ≤ 65535
structure InvE (es : EsT) : Prop where
  nodup : (es.map (·.1)).Nodup
  can : ∀ q ∈ es, CanR q.2.up q.2.more ∧ (0 < q.2.up ∨ q.2.more ≠ [])
  range : ∀ q ∈ es, RightK q.1.1 q.1.2 ∧ ∀ c, inM q.2.up q.2.more c → c ≤ 65535
theorem InvE.nil : InvE [] := ⟨by simp, by simp, by simp⟩
theorem InvE.good {es : EsT} (h : InvE es) : GoodE es := fun q hq => by
  obtain ⟨h1, _⟩ := h.can q hq
  have h0 := h1.1
  refine ⟨h0, ?_⟩
  by_cases e : q.2.up = 0
  · omega
  · exact (h.range q hq).2 _ (.inl ⟨by omega, Int.le_refl _⟩)
theorem InvE.sorted {es : EsT} (h : InvE es) : ∀ q ∈ es, q.2.more.Pairwise (· < ·) := fun q hq => (h.can q hq).1.2.1
theorem inE_mem {es : EsT} (h : InvE es) (o e c : Int) : inE es o e c ↔ ∃ q ∈ es, q.1.1 = o ∧ q.1.2 = e ∧ inM q.2.up q.2.more c := by
  unfold inE upOf moreOf
  cases hx : aget es (o, e) with
  | none =>
    refine ⟨fun hc => ?_, fun ⟨q, hq, e1, e2, _⟩ => ?_⟩
    · simp only [inM, List.not_mem_nil, or_false] at hc; omega
    · have := aget_none.1 hx
      exact absurd (List.mem_map.2 ⟨q, hq, by obtain ⟨⟨a, b⟩, z⟩ := q; simp only at e1 e2 ⊢; rw [e1, e2]⟩) this
  | some x =>
    refine ⟨fun hc => ⟨((o, e), x), aget_mem hx, rfl, rfl, hc⟩, fun ⟨q, hq, e1, e2, hc⟩ => ?_⟩
    have : aget es (o, e) = some q.2 := aget_of_mem h.nodup (by obtain ⟨⟨a, b⟩, z⟩ := q; simp only at e1 e2 ⊢; rw [← e1, ← e2]; exact hq)
    rw [hx] at this
    cases this
    exact hc
theorem canR_at {es : EsT} (h : InvE es) (k : Int × Int) : CanR (upOf es k) (moreOf es k) := by
  unfold upOf moreOf
  cases hx : aget es k with
  | none => simp [CanR]
  | some x => exact (h.can _ (aget_mem hx)).1
theorem marks_canon {es : EsT} (h : InvE es) {l : List MkC} (hp : (l.map MkC.mk').Perm (es.map mkOf)) (hs : l.Pairwise (fun x y => ¬ cmpM y x < 0)) : Canon (inE es) (l.map MkC.mk') := by
  have hkeys : ((l.map MkC.mk').map fun m => (m.o, m.e)).Nodup := by
    rw [(hp.map _).nodup_iff, List.map_map]
    exact h.nodup
  refine ⟨?_, fun m hm => ?_, fun o e c => ?_⟩
  · rw [List.map_map, List.Nodup, List.pairwise_map] at hkeys
    rw [List.pairwise_map]
    refine (hs.and hkeys).imp fun {x y} ⟨h1, h2⟩ => ?_
    rw [cmpM_lt] at h1
    have h3 : ¬ (x.o = y.o ∧ x.e = y.e) := fun ⟨e1, e2⟩ => h2 (by simp [MkC.mk', e1, e2])
    show x.o < y.o ∨ (x.o = y.o ∧ x.e < y.e)
    omega
  · obtain ⟨q, hq, rfl⟩ := List.mem_map.1 (hp.mem_iff.1 hm)
    exact h.can q hq
  · rw [inE_mem h]
    constructor
    · rintro ⟨q, hq, e1, e2, hc⟩
      exact ⟨mkOf q, hp.mem_iff.2 (List.mem_map.2 ⟨q, hq, rfl⟩), e1, e2, hc⟩
    · rintro ⟨m, hm, e1, e2, hc⟩
      obtain ⟨q, hq, rfl⟩ := List.mem_map.1 (hp.mem_iff.1 hm)
      exact ⟨q, hq, e1, e2, hc⟩
theorem sum_aset : ∀ (es : EsT) (k : Int × Int) (x x0 : Ent), aget es k = some x0 → gapsE (aset es k x) + x0.more.length = gapsE es + x.more.length
  | [], k, x, x0, h => by simp [aget] at h
  | (k1, y) :: r, k, x, x0, h => by
    simp only [aget] at h
    by_cases e : k1 = k
    · subst e
      simp only [if_true, Option.some.injEq] at h
      subst h
      simp only [aset, if_true, gapsE, List.map_cons, List.sum_cons]
      omega
    · rw [if_neg e] at h
      have ih := sum_aset r k x x0 h
      simp only [aset, if_neg e, gapsE, List.map_cons, List.sum_cons] at ih ⊢
      omega
theorem gaps_aput (es : EsT) (k : Int × Int) (x : Ent) : gapsE (aput es k x) + (moreOf es k).length = gapsE es + x.more.length := by
  unfold moreOf aput
  cases hx : aget es k with
  | none => simp [gapsE]
  | some x0 => exact sum_aset es k x x0 hx
theorem aput_mem {es : EsT} (hn : (es.map (·.1)).Nodup) {k : Int × Int} {x : Ent} {q : (Int × Int) × Ent} (hq : q ∈ aput es k x) : q = (k, x) ∨ (q ∈ es ∧ q.1 ≠ k) := by
  unfold aput at hq
  cases hx : aget es k with
  | none =>
    rw [hx] at hq
    rcases List.mem_append.1 hq with h | h
    · refine .inr ⟨h, fun e => aget_none.1 hx (List.mem_map.2 ⟨q, h, e⟩)⟩
    · exact .inl (by simpa using h)
  | some x0 =>
    rw [hx] at hq
    obtain ⟨u, v, h1, h2, h3, h4⟩ := aset_split hn hx x
    rw [h2] at hq
    rcases List.mem_append.1 hq with h | h
    · exact .inr ⟨by rw [h1]; simp [h], h3 q h⟩
    · rcases List.mem_cons.1 h with h | h
      · exact .inl h
      · exact .inr ⟨by rw [h1]; simp [h], h4 q h⟩
theorem idErr_zero {o d e c : Int} (h : idErr o d e c = 0) : RightK o e ∧ 1 ≤ c ∧ c ≤ 65535 := by
  unfold idErr at h
  split at h
  · unfold RightK; omega
  · omega
theorem hasE_iff {es : EsT} {o d e c : Int} (h : idErr o d e c = 0) : hasE es o d e c = true ↔ inE es o e c := by
  obtain ⟨_, h1, _⟩ := idErr_zero h
  simp only [hasE, h, decide_true, Bool.true_and, Bool.or_eq_true, decide_eq_true_eq, inE, inM]
  constructor
  · rintro (h2 | h2)
    · exact .inl ⟨h1, h2⟩
    · exact .inr h2
  · rintro (h2 | h2)
    · exact .inl h2.2
    · exact .inr h2
theorem mayE_zero {gaps : Int} {es : EsT} {o d e c : Int} (h : mayE gaps es o d e c = 0) : idErr o d e c = 0 ∧ ¬ inE es o e c ∧ (c = upOf es (o, e) + 1 ∨ (gapsE es : Int) < gaps) := by
  have hid : idErr o d e c = 0 := by
    apply Classical.byContradiction
    intro hn
    simp [mayE, hn] at h
  refine ⟨hid, fun hi => ?_, ?_⟩
  · have := (hasE_iff hid).2 hi
    simp [mayE, hid, this] at h
  · by_cases e1 : c = upOf es (o, e) + 1
    · exact .inl e1
    · right
      by_cases e2 : gaps ≤ (gapsE es : Int)
      · by_cases hh : hasE es o d e c = true <;> simp [mayE, hid, e1, e2, hh] at h
      · omega
/-- what an added id turns -/
theorem add_inv {gaps : Int} {es : EsT} (h : InvE es) {o d e c : Int} (hz : mayE gaps es o d e c = 0) {x : Ent} (hx : (x.up, x.more) = addE es o e c) :
    InvE (aput es (o, e) x) ∧ (∀ o' e' c', inE (aput es (o, e) x) o' e' c' ↔ (o' = o ∧ e' = e ∧ c' = c) ∨ inE es o' e' c') ∧ ((gapsE es : Int) ≤ gaps → (gapsE (aput es (o, e) x) : Int) ≤ gaps) ∧ gapsE (aput es (o, e) x) ≤ gapsE es + 1 := by
  obtain ⟨hid, hni, hroom⟩ := mayE_zero hz
  obtain ⟨hrk, hc1, hc2⟩ := idErr_zero hid
  have hcan := canR_at h (o, e)
  obtain ⟨h0, h1, h2⟩ := hcan
  have hni' : ¬ c ≤ upOf es (o, e) ∧ c ∉ moreOf es (o, e) := by
    unfold inE inM at hni
    exact ⟨fun hh => hni (.inl ⟨hc1, hh⟩), fun hh => hni (.inr hh)⟩
  have hso := insC_sorted c _ h1 hni'.2
  have hab : ∀ y ∈ insC c (moreOf es (o, e)), upOf es (o, e) < y := fun y hy => by
    rcases (insC_mem c _ y).1 hy with e1 | e1
    · omega
    · have := h2 y e1; omega
  obtain ⟨n1, n2, n3⟩ := normC_ok _ _ h0 hso hab
  have hup : x.up = (addE es o e c).1 := congrArg Prod.fst hx
  have hmo : x.more = (addE es o e c).2 := congrArg Prod.snd hx
  unfold addE at hup hmo
  rw [← hup, ← hmo] at n1 n2
  rw [← hmo] at n3
  rw [insC_len] at n3
  have hin : ∀ c', inM x.up x.more c' ↔ c' = c ∨ inE es o e c' := fun c' => by
    rw [n2]
    unfold inE inM
    rw [insC_mem]
    constructor
    · rintro (h | h | h) <;> simp [h]
    · rintro (h | h | h) <;> simp [h]
  have hg := gaps_aput es (o, e) x
  refine ⟨⟨aput_nodup h.nodup _ _, fun q hq => ?_, fun q hq => ?_⟩, fun o' e' c' => ?_, fun hle => ?_, by omega⟩
  · rcases aput_mem h.nodup hq with rfl | ⟨hq, _⟩
    · refine ⟨n1, ?_⟩
      by_cases e1 : x.more = []
      · left
        rcases (hin c).2 (.inl rfl) with h5 | h5
        · show 0 < x.up
          omega
        · rw [e1] at h5; cases h5
      · exact .inr e1
    · exact h.can q hq
  · rcases aput_mem h.nodup hq with rfl | ⟨hq, _⟩
    · refine ⟨hrk, fun c' hc' => ?_⟩
      rcases (hin c').1 hc' with e1 | e1
      · omega
      · obtain ⟨q, hq, _, _, hm⟩ := (inE_mem h _ _ _).1 e1
        exact (h.range q hq).2 _ hm
    · exact h.range q hq
  · unfold inE upOf moreOf
    rw [aget_aput]
    by_cases e1 : (o', e') = (o, e)
    · rw [if_pos e1]
      obtain ⟨rfl, rfl⟩ := Prod.mk.injEq .. ▸ e1
      dsimp only
      rw [hin]
      unfold inE upOf moreOf
      simp
    · rw [if_neg e1]
      have : ¬ (o' = o ∧ e' = e ∧ c' = c) := fun ⟨a1, a2, _⟩ => e1 (by rw [a1, a2])
      simp [this]
  · rcases hroom with e1 | e1
    · have hins : insC c (moreOf es (o, e)) = c :: moreOf es (o, e) := by
        cases hm : moreOf es (o, e) with
        | nil => rfl
        | cons y r =>
          simp only [insC]
          rw [if_neg]
          have := h2 y (by rw [hm]; simp)
          omega
      rw [hins, e1] at hmo hso
      have := normC_pop _ _ h0 hso
      rw [← hmo] at this
      omega
    · omega
end Go.Proofs.YtlocjjponfbhmaaGreat

/- Sets: whole contracts; lists of ids. -/
namespace Go.Proofs.YtlocjjponfbhmaaGreat
open Go Go.Vm
attribute [local irreducible] Brn Ob Grow CallsM inR LoopVC Mem.row Mem.cells Mem.setCells Mem.upd Own AppVC SrcVC StrVC NextVC New SrcOk subA NewSl Mem.textAt Mem.mapAt Mem.iterAt entryOf kfind Wr NewEls Elems
set_option maxRecDepth 10000
variable {M M0 : Mem} {p b : Nat} {gaps : Int} {es : EsT}
/-- a set whose blocks are new to M0 -/
structure FreshS (M0 M : Mem) (p b : Nat) (gaps : Int) (es : EsT) : Prop where
  le : M0.le M
  at' : SetAt M p b gaps es
  inv : InvE es
  room : (gapsE es : Int) ≤ gaps ∧ gaps ≤ 256
  fresh : ∀ y, setB p b es y → M0 y = none
theorem FreshS.few (h : FreshS M0 M p b gaps es) : gapsE es ≤ 256 := by have := h.room; omega
theorem FreshS.to (h : FreshS M0 M p b gaps es) {M' : Mem} (hle : M.le M') : FreshS M0 M' p b gaps es := ⟨Mem.le_trans h.le hle, h.at'.le hle, h.inv, h.room, h.fresh⟩
theorem FreshS.some (h : FreshS M0 M p b gaps es) {y : Nat} (hy : setB p b es y) : M y ≠ none := by
  rcases hy with rfl | rfl | ⟨q, hq, hy⟩
  · have := h.at'.self; unfold Mem.has at this; rw [this]; simp
  · obtain ⟨l, c, hh, _⟩ := h.at'.map; rw [hh]; simp
  · exact (h.at'.ents q hq).some hy
theorem FreshS.base (h : FreshS M0 M p b gaps es) : FreshS (M.minus (setB p b es)) M p b gaps es ∧ M0.le (M.minus (setB p b es)) :=
  ⟨⟨Mem.minus_le _ _, h.at', h.inv, h.room, fun _ hy => Mem.minus_in hy⟩, Mem.le_minus h.le h.fresh⟩
theorem newS (gaps : Int) : CallsM Tryz.prog F.seen_New [.int .i64 gaps] M fun v M' =>
    ((gaps < 0 ∨ 256 < gaps) ∧ v = .tuple #[.pointer none, .int .i64 1] ∧ M' = M) ∨
    (¬ (gaps < 0 ∨ 256 < gaps) ∧ ∃ p b, v = .tuple #[ptr p, .int .i64 0] ∧ FreshS M M' p b gaps []) :=
  (New_ok gaps).mono fun v M' h => by
    rcases h with h | ⟨h1, p, b, h2, h3, h4, h5, h6⟩
    · exact .inl h
    · refine .inr ⟨h1, p, b, h2, h5, h6, InvE.nil, ⟨by simp [gapsE]; omega, by omega⟩, fun y hy => ?_⟩
      rcases hy with rfl | rfl | ⟨q, hq, _⟩
      · exact h3
      · exact h4
      · cases hq
/-- what adding an id turns -/
def StepE (gaps : Int) (es es' : EsT) (o d e c : Int) : Prop := (mayE gaps es o d e c ≠ 0 ∧ es' = es) ∨ (mayE gaps es o d e c = 0 ∧ ∃ x : Ent, es' = aput es (o, e) x ∧ (x.up, x.more) = addE es o e c)
theorem StepE.len {es es' : EsT} {o d e c : Int} (h : StepE gaps es es' o d e c) : es'.length ≤ es.length + 1 := by
  rcases h with ⟨_, rfl⟩ | ⟨_, x, rfl, _⟩
  · omega
  · have := congrArg List.length (aput_keys es (o, e) x)
    simp only [List.length_map] at this
    rw [this]
    split <;> simp
theorem addS (h : FreshS M0 M p b gaps es) (o d e c : Int) : CallsM Tryz.prog F.seen_Set_Add [ptr p, idV o d e c] M fun v M' =>
    ∃ es', v = .int .i64 (mayE gaps es o d e c) ∧ FreshS M0 M' p b gaps es' ∧ StepE gaps es es' o d e c :=
  (Add_ok h.at' (by have := h.few; omega) h.inv.good h.inv.sorted o d e c).mono fun v M' hv => by
    obtain ⟨rfl, ⟨hn, hle⟩ | ⟨hz, hk, x, h1, hx, hown⟩⟩ := hv
    · exact ⟨es, rfl, h.to hle, .inl ⟨hn, rfl⟩⟩
    · obtain ⟨i1, i2, i3, i4⟩ := add_inv h.inv hz hx
      refine ⟨aput es (o, e) x, rfl, ⟨hk.le h.le h.fresh, h1, i1, ⟨i3 h.room.1, h.room.2⟩, fun y hy => ?_⟩, .inr ⟨hz, x, rfl, hx⟩⟩
      have lo : ∀ y, M y = none → M0 y = none := fun y hy => by
        cases e1 : M0 y with
        | none => rfl
        | some z => rw [h.le _ _ e1] at hy; cases hy
      rcases hy with rfl | rfl | ⟨q, hq, hy⟩
      · exact h.fresh _ (.inl rfl)
      · exact h.fresh _ (.inr (.inl rfl))
      · rcases aput_mem h.inv.nodup hq with rfl | ⟨hq, _⟩
        · rcases hown y hy with h2 | h2
          · exact h.fresh _ h2
          · exact lo _ h2
        · exact h.fresh _ (.inr (.inr ⟨q, hq, hy⟩))
theorem hasS (h : FreshS M0 M p b gaps es) (o d e c : Int) : CallsM Tryz.prog F.seen_Set_Has [ptr p, idV o d e c] M fun v M' => v = .bool (hasE es o d e c) ∧ FreshS M0 M' p b gaps es :=
  (Has_ok h.at' (by have := h.few; omega) o d e c).mono fun v M' ⟨hv, hle⟩ => ⟨hv, h.to hle⟩
theorem mayS (h : FreshS M0 M p b gaps es) (o d e c : Int) : CallsM Tryz.prog F.seen_Set_May [ptr p, idV o d e c] M fun v M' => v = .int .i64 (mayE gaps es o d e c) ∧ FreshS M0 M' p b gaps es :=
  (May_ok h.at' (by have := h.few; omega) h.inv.good o d e c).mono fun v M' ⟨hv, hle⟩ => ⟨hv, h.to hle⟩
theorem gapsS (h : FreshS M0 M p b gaps es) : CallsM Tryz.prog F.seen_Set_Gaps [ptr p] M fun v M' => v = .int .i64 (gapsE es) ∧ FreshS M0 M' p b gaps es :=
  (Gaps_ok h.at' (by have := h.few; omega)).mono fun v M' ⟨hv, hle⟩ => ⟨hv, h.to hle⟩
theorem FreshS.fewM (h : FreshS M0 M p b gaps es) {l : List MkC} (hp : (l.map MkC.mk').Perm (es.map mkOf)) : FewM l := fun m hm => by
  obtain ⟨q, hq, e⟩ := List.mem_map.1 (hp.mem_iff.1 (List.mem_map.2 ⟨m, hm, rfl⟩))
  have h1 : m.more = q.2.more := (congrArg Mk.more e).symm
  have := gapsE_le hq
  have := h.few
  rw [h1]; omega
/-- marks behind a set's blocks -/
theorem marksS (h : FreshS M0 M p b gaps es) (hn : es.length ≤ 4194000) : CallsM Tryz.prog F.seen_Set_Marks [ptr p] M fun v M' => ∃ a n c l, v = .slice a n c ∧ FreshS M0 M' p b gaps es ∧ MarksAt (M.minus (setB p b es)) a n c l M' ∧
    MarksR (M'.minus (setB p b es)) a n l ∧ n = es.length ∧ FewM l ∧ (l.map MkC.mk').Perm (es.map mkOf) ∧ Canon (inE es) (l.map MkC.mk') :=
  (Marks_ok h.at' (by have := h.few; omega) hn).mono fun v M' ⟨a, n, c, l, hv, hm, hp, hs⟩ => by
    have hlen := hp.length_eq
    simp only [List.length_map] at hlen
    have hml := hm.len
    refine ⟨a, n, c, l, hv, h.to hm.row.le, ⟨hm.row.mono (Mem.minus_le _ _), fun m h1 => (hm.more m h1).mono (Mem.minus_le _ _)⟩, ⟨hm.row.src.minus fun q hq hb => h.some hb (hm.row.block hq).1, fun m h1 => (hm.more m h1).src.minus fun q hq hb => h.some hb ((hm.more m h1).block hq).1⟩, by omega, h.fewM hp, hp, marks_canon h.inv hp hs⟩
/-- ids in a row -/
theorem idCs_len (i : IdT) : (idCs i).length = 4 := rfl
theorem flat_take {α : Type} {enc : α → List Value} {k : Nat} (hk : ∀ x, (enc x).length = k) : ∀ (l : List α) (i : Nat), (l.flatMap enc).take (i * k) = (l.take i).flatMap enc
  | [], i => by simp
  | x :: r, 0 => by simp
  | x :: r, i + 1 => by
    have ih := flat_take hk r i
    have e : (i + 1) * k = (enc x).length + i * k := by rw [hk, Nat.succ_mul, Nat.add_comm]
    rw [List.flatMap_cons, e, List.take_length_add_append, ih, List.take_succ_cons, List.flatMap_cons]
end Go.Proofs.YtlocjjponfbhmaaGreat

