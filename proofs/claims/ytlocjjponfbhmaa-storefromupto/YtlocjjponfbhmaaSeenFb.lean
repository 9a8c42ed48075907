/- The document's check of marks. -/
import Derived.Test.YtlocjjponfbhmaaJoin29
namespace Go.Proofs.Ytlocjjponfbhmaa
open Go Go.Vm
attribute [local irreducible] Brn Ob Grow CallsM inR LoopVC Mem.row Mem.cells Mem.setCells Mem.upd Own AppVC SrcVC StrVC NextVC New SrcOk subA NewSl Mem.textAt Mem.mapAt Mem.iterAt entryOf kfind Wr NewEls Elems
set_option maxRecDepth 10000
variable {M : Mem}
def FormP (l : List Mk) : Prop := (∀ m ∈ l, RightM m) ∧ l.Pairwise ltMk
theorem FormP.snoc {l : List Mk} {x : Mk} (h : FormP l) (hr : RightM x) (hl : ∀ y, l.getLast? = some y → ltMk y x) : FormP (l ++ [x]) := by
  refine ⟨fun m hm => ?_, ?_⟩
  · rcases List.mem_append.1 hm with h1 | h1
    · exact h.1 m h1
    · simp only [List.mem_singleton] at h1
      subst h1; exact hr
  · rw [List.pairwise_append]
    refine ⟨h.2, by simp, fun z hz y hy => ?_⟩
    simp only [List.mem_singleton] at hy
    subst hy
    by_cases hne : l = []
    · subst hne; cases hz
    · have hl1 := hl (l.getLast hne) (List.getLast?_eq_some_getLast hne)
      rw [← List.dropLast_concat_getLast hne] at hz
      have hp := h.2
      rw [← List.dropLast_concat_getLast hne, List.pairwise_append] at hp
      rcases List.mem_append.1 hz with h2 | h2
      · have := hp.2.2 z h2 (l.getLast hne) (by simp)
        unfold ltMk at this hl1 ⊢; omega
      · simp only [List.mem_singleton] at h2
        subst h2; exact hl1
theorem FormP.lt {l : List Mk} (h : FormP l) {i : Nat} {x y : Mk} (hx : l[i]? = some x) (hy : l[i + 1]? = some y) : ltMk x y := by
  obtain ⟨h1, rfl⟩ := List.getElem?_eq_some_iff.1 hx
  obtain ⟨h2, rfl⟩ := List.getElem?_eq_some_iff.1 hy
  exact List.pairwise_iff_getElem.1 h.2 i (i + 1) h1 h2 (by omega)
def sumM (l : List Mk) : Nat := (l.map fun m => m.more.length).sum
/-- what the document says of marks -/
def CheckP (gaps : Int) (l : List Mk) (k : Int) : Prop :=
  ((gaps < 0 ∨ 256 < gaps) ∧ k = 1) ∨ (¬ (gaps < 0 ∨ 256 < gaps) ∧ ¬ FormP l ∧ k = 2) ∨ (¬ (gaps < 0 ∨ 256 < gaps) ∧ FormP l ∧ gaps < sumM l ∧ k = 6) ∨ (¬ (gaps < 0 ∨ 256 < gaps) ∧ FormP l ∧ (sumM l : Int) ≤ gaps ∧ k = 0)
theorem CheckP.uniq {gaps : Int} {l : List Mk} {k k' : Int} (h : CheckP gaps l k) (h' : CheckP gaps l k') : k = k' := by
  rcases h with ⟨h1, h2⟩ | ⟨h1, h2, h3⟩ | ⟨h1, h2, h3, h4⟩ | ⟨h1, h2, h3, h4⟩ <;> rcases h' with ⟨g1, g2⟩ | ⟨g1, g2, g3⟩ | ⟨g1, g2, g3, g4⟩ | ⟨g1, g2, g3, g4⟩ <;> first | omega | exact absurd h2 g2 | exact absurd g2 h2
theorem checkMs_ok (gaps : Int) {a : Option Addr} {n c : Nat} {l : List MkC} (ha : MarksR M a n l) (fl : FewM l) (hn : n ≤ 4194304) :
    CallsM Try.prog F.ref14_CheckMarks [.int .i64 gaps, .slice a n c] M fun v M' => ∃ k, v = .int .i64 k ∧ CheckP gaps (l.map MkC.mk') k ∧ M = M' := by
  refine fo_ref14_CheckMarks (by simp) ?_
  have hl := ha.len
  (conv => whnf); refine brn (fun g => ?_) (fun g => ?_)
  · repeat' ((conv => whnf); first | refine ⟨?_, True.intro⟩ | refine brn_t rfl ?_ | refine brn_f rfl ?_ | refine ob rfl ?_ | refine ob (by decide) ?_ | refine grow_same (Mem.le_refl _) ?_ | refine ob (Mem.le_refl _) ?_ | refine ⟨_, Mem.le_refl _, ?_⟩ | fail)
    exact ⟨1, rfl, .inl ⟨.inl (of_decide_eq_true g), rfl⟩, rfl⟩
  replace g := of_decide_eq_false g
  (conv => whnf); refine brn (fun g1 => ?_) (fun g1 => ?_)
  · repeat' ((conv => whnf); first | refine ⟨?_, True.intro⟩ | refine brn_t rfl ?_ | refine brn_f rfl ?_ | refine ob rfl ?_ | refine ob (by decide) ?_ | refine grow_same (Mem.le_refl _) ?_ | refine ob (Mem.le_refl _) ?_ | refine ⟨_, Mem.le_refl _, ?_⟩ | fail)
    exact ⟨1, rfl, .inl ⟨.inr (of_decide_eq_true g1), rfl⟩, rfl⟩
  replace g1 := of_decide_eq_false g1
  have hg : ¬ (gaps < 0 ∨ 256 < gaps) := by omega
  (conv => whnf)
  refine loopQ (σ := Nat × Nat) [6, 5] (fun y => [(6, .int .i64 y.1), (5, .int .i64 y.2)]) (fun | ⟨i, s⟩ => i ≤ n ∧ s ≤ i * 4194304 ∧ FormP ((l.map MkC.mk').take i) ∧ s = sumM ((l.map MkC.mk').take i)) (fun y => n - y.1) ⟨0, 0⟩ ⟨by omega, by omega, ⟨by simp, by simp⟩, by simp [sumM]⟩ ⟨(by repeat' first | exact True.intro | refine ⟨rfl, ?_⟩), (by repeat' first | exact True.intro | refine ⟨rfl, ?_⟩), Mem.le_refl _, rfl⟩ ?_
  rintro ⟨i, s⟩ ⟨hi, hsb, hF, hsum⟩
  (conv => whnf); refine brn (fun g2 => ?_) (fun g2 => ?_)
  · have hlt : i < n := by have := of_decide_eq_true g2; dsimp only at this; omega
    have hx : l[i]? = some (l[i]'(by omega)) := List.getElem?_eq_getElem (by omega)
    generalize l[i]'(by omega) = x at *
    obtain ⟨b1, o1, hra, hrow⟩ := ha.row.fall encM_len (by decide) hx
    have hxm := ha.more x (List.mem_of_getElem? hx)
    have hfx := fl x (List.mem_of_getElem? hx)
    (conv => whnf); refine ob (by first | omega | (dsimp only; omega)) ?_
    (conv => whnf); refine atp hra ?_
    (conv => whnf); refine on hrow ?_
    (conv => whnf); refine (rightR_ok hxm hfx).mono ?_
    rintro v _ ⟨r, rfl, hr, rfl⟩
    have hxk : (l.map MkC.mk')[i]? = some x.mk' := by rw [List.getElem?_map, hx]; rfl
    have hxm' : x.mk' ∈ l.map MkC.mk' := List.mem_of_getElem? hxk
    have htk : (l.map MkC.mk').take (i + 1) = (l.map MkC.mk').take i ++ [x.mk'] := by rw [List.take_add_one, hxk]; rfl
    have hsu : sumM ((l.map MkC.mk').take (i + 1)) = s + x.more.length := by rw [htk, sumM, List.map_append, List.sum_append, hsum]; simp [sumM, MkC.mk']
    obtain ⟨b2, o2, hab, hcc⟩ := ha.row.fcells encM_len (by decide) hx
    have bad : ∀ {k : Int}, ¬ FormP (l.map MkC.mk') → k = 2 → CheckP gaps (l.map MkC.mk') k := fun h e => .inr (.inl ⟨hg, h, e⟩)
    (conv => whnf); refine brn (fun g3 => ?_) (fun g3 => ?_)
    · repeat' ((conv => whnf); first | refine ⟨?_, True.intro⟩ | refine brn_t rfl ?_ | refine brn_f rfl ?_ | refine ob rfl ?_ | refine ob (by decide) ?_ | refine grow_same (Mem.le_refl _) ?_ | refine ob (Mem.le_refl _) ?_ | refine ⟨_, Mem.le_refl _, ?_⟩ | fail)
      refine ⟨2, rfl, bad (fun h => ?_) rfl, rfl⟩
      rw [hr.2 (h.1 _ hxm')] at g3
      cases g3
    have hR : RightM x.mk' := hr.1 (by cases r <;> simp_all)
    (conv => whnf); refine brn (fun g4 => ?_) (fun g4 => ?_)
    · replace g4 := of_decide_eq_true g4
      obtain ⟨j, hij⟩ : ∃ j, i = j + 1 := ⟨i - 1, by dsimp only at g4; omega⟩
      have hy : l[j]? = some (l[j]'(by omega)) := List.getElem?_eq_getElem (by omega)
      generalize l[j]'(by omega) = y at *
      obtain ⟨b3, o3, hab3, hcc3⟩ := ha.row.fcells encM_len (by decide) hy
      have hyk : (l.map MkC.mk')[j]? = some y.mk' := by rw [List.getElem?_map, hy]; rfl
      have hgl : ((l.map MkC.mk').take i).getLast? = some y.mk' := by rw [hij, List.take_add_one, hyk]; simp
      have no : ¬ ltMk y.mk' x.mk' → ¬ FormP (l.map MkC.mk') := fun h hf => h (hf.lt hyk (hij ▸ hxk))
      (conv => whnf); refine ob (by first | omega | (dsimp only; omega)) ?_
      (conv => whnf); refine atp hab ?_
      (conv => whnf); refine on (hcc 0 _ rfl) ?_
      (conv => whnf); refine ob (inR_i64 (by first | omega | (dsimp only; omega))) ?_
      (conv => whnf)
      erw [show ((i : Nat) : Int) - 1 = (j : Nat) from by omega]
      (conv => whnf); refine ob (by first | omega | (dsimp only; omega)) ?_
      (conv => whnf); refine atp hab3 ?_
      (conv => whnf); refine on (hcc3 0 _ rfl) ?_
      (conv => whnf); refine brn (fun g5 => ?_) (fun g5 => ?_)
      · replace g5 := of_decide_eq_true g5
        repeat' ((conv => whnf); first | refine ⟨?_, True.intro⟩ | refine brn_t rfl ?_ | refine brn_f rfl ?_ | refine ob rfl ?_ | refine ob (by decide) ?_ | refine grow_same (Mem.le_refl _) ?_ | refine ob (Mem.le_refl _) ?_ | refine ⟨_, Mem.le_refl _, ?_⟩ | fail)
        exact ⟨2, rfl, bad (no fun h => by unfold ltMk at h; dsimp only [MkC.mk'] at h; omega) rfl, rfl⟩
      replace g5 := of_decide_eq_false g5
      (conv => whnf); refine ob (by first | omega | (dsimp only; omega)) ?_
      (conv => whnf); refine atp hab ?_
      (conv => whnf); refine on (hcc 0 _ rfl) ?_
      (conv => whnf); refine ob (inR_i64 (by first | omega | (dsimp only; omega))) ?_
      (conv => whnf)
      erw [show ((i : Nat) : Int) - 1 = (j : Nat) from by omega]
      (conv => whnf); refine ob (by first | omega | (dsimp only; omega)) ?_
      (conv => whnf); refine atp hab3 ?_
      (conv => whnf); refine on (hcc3 0 _ rfl) ?_
      (conv => whnf); refine brn (fun g6 => ?_) (fun g6 => ?_)
      · replace g6 := of_decide_eq_true g6
        (conv => whnf); refine ob (by first | omega | (dsimp only; omega)) ?_
        (conv => whnf); refine atp hab ?_
        (conv => whnf); refine on (hcc 1 _ rfl) ?_
        (conv => whnf); refine ob (inR_i64 (by first | omega | (dsimp only; omega))) ?_
        (conv => whnf)
        erw [show ((i : Nat) : Int) - 1 = (j : Nat) from by omega]
        (conv => whnf); refine ob (by first | omega | (dsimp only; omega)) ?_
        (conv => whnf); refine atp hab3 ?_
        (conv => whnf); refine on (hcc3 1 _ rfl) ?_
        (conv => whnf); refine brn (fun g7 => ?_) (fun g7 => ?_)
        · replace g7 := of_decide_eq_true g7
          repeat' ((conv => whnf); first | refine ⟨?_, True.intro⟩ | refine brn_t rfl ?_ | refine brn_f rfl ?_ | refine ob rfl ?_ | refine ob (by decide) ?_ | refine grow_same (Mem.le_refl _) ?_ | refine ob (Mem.le_refl _) ?_ | refine ⟨_, Mem.le_refl _, ?_⟩ | fail)
          exact ⟨2, rfl, bad (no fun h => by unfold ltMk at h; dsimp only [MkC.mk'] at h; omega) rfl, rfl⟩
        replace g7 := of_decide_eq_false g7
        have hlast : ∀ z, ((l.map MkC.mk').take i).getLast? = some z → ltMk z x.mk' := fun z hz => by
          rw [hgl] at hz; cases hz
          unfold ltMk; dsimp only [MkC.mk']; omega
        have hF' : FormP ((l.map MkC.mk').take (i + 1)) := by rw [htk]; exact hF.snoc hR hlast
        (conv => whnf); refine ob (by first | omega | (dsimp only; omega)) ?_
        (conv => whnf); refine atp hab ?_
        (conv => whnf); refine on (hcc 3 _ rfl) ?_
        (conv => whnf); refine ob (inR_i64 (by first | omega | (dsimp only; omega))) ?_
        (conv => whnf); refine ob (inR_i64 (by first | omega | (dsimp only; omega))) ?_
        (conv => whnf)
        exact ⟨⟨i + 1, s + x.more.length⟩, ⟨by omega, by omega, hF', hsu.symm⟩, by dsimp only; omega, ⟨(by repeat' first | exact True.intro | refine ⟨rfl, ?_⟩), (by repeat' first | exact True.intro | refine ⟨rfl, ?_⟩), Mem.le_refl _, rfl⟩⟩
      replace g6 := of_decide_eq_false g6
      have hlast : ∀ z, ((l.map MkC.mk').take i).getLast? = some z → ltMk z x.mk' := fun z hz => by
        rw [hgl] at hz; cases hz
        unfold ltMk; dsimp only [MkC.mk']; omega
      have hF' : FormP ((l.map MkC.mk').take (i + 1)) := by rw [htk]; exact hF.snoc hR hlast
      (conv => whnf); refine ob (by first | omega | (dsimp only; omega)) ?_
      (conv => whnf); refine atp hab ?_
      (conv => whnf); refine on (hcc 3 _ rfl) ?_
      (conv => whnf); refine ob (inR_i64 (by first | omega | (dsimp only; omega))) ?_
      (conv => whnf); refine ob (inR_i64 (by first | omega | (dsimp only; omega))) ?_
      (conv => whnf)
      exact ⟨⟨i + 1, s + x.more.length⟩, ⟨by omega, by omega, hF', hsu.symm⟩, by dsimp only; omega, ⟨(by repeat' first | exact True.intro | refine ⟨rfl, ?_⟩), (by repeat' first | exact True.intro | refine ⟨rfl, ?_⟩), Mem.le_refl _, rfl⟩⟩
    · replace g4 := of_decide_eq_false g4
      have hi0 : i = 0 := by dsimp only at g4; omega
      have hlast : ∀ z, ((l.map MkC.mk').take i).getLast? = some z → ltMk z x.mk' := fun z hz => by
        rw [hi0] at hz; simp at hz
      have hF' : FormP ((l.map MkC.mk').take (i + 1)) := by rw [htk]; exact hF.snoc hR hlast
      (conv => whnf); refine ob (by first | omega | (dsimp only; omega)) ?_
      (conv => whnf); refine atp hab ?_
      (conv => whnf); refine on (hcc 3 _ rfl) ?_
      (conv => whnf); refine ob (inR_i64 (by first | omega | (dsimp only; omega))) ?_
      (conv => whnf); refine ob (inR_i64 (by first | omega | (dsimp only; omega))) ?_
      (conv => whnf)
      exact ⟨⟨i + 1, s + x.more.length⟩, ⟨by omega, by omega, hF', hsu.symm⟩, by dsimp only; omega, ⟨(by repeat' first | exact True.intro | refine ⟨rfl, ?_⟩), (by repeat' first | exact True.intro | refine ⟨rfl, ?_⟩), Mem.le_refl _, rfl⟩⟩
  have hge : i = n := by have := of_decide_eq_false g2; dsimp only at this; omega
  subst hge
  rw [List.take_of_length_le (by simp; omega)] at hF hsum
  (conv => whnf); refine brn (fun g3 => ?_) (fun g3 => ?_)
  · repeat' ((conv => whnf); first | refine ⟨?_, True.intro⟩ | refine brn_t rfl ?_ | refine brn_f rfl ?_ | refine ob rfl ?_ | refine ob (by decide) ?_ | refine grow_same (Mem.le_refl _) ?_ | refine ob (Mem.le_refl _) ?_ | refine ⟨_, Mem.le_refl _, ?_⟩ | fail)
    exact ⟨6, rfl, .inr (.inr (.inl ⟨hg, hF, by have := of_decide_eq_true g3; dsimp only at this; omega, rfl⟩)), rfl⟩
  · repeat' ((conv => whnf); first | refine ⟨?_, True.intro⟩ | refine brn_t rfl ?_ | refine brn_f rfl ?_ | refine ob rfl ?_ | refine ob (by decide) ?_ | refine grow_same (Mem.le_refl _) ?_ | refine ob (Mem.le_refl _) ?_ | refine ⟨_, Mem.le_refl _, ?_⟩ | fail)
    exact ⟨0, rfl, .inr (.inr (.inr ⟨hg, hF, by have := of_decide_eq_false g3; dsimp only at this; omega, rfl⟩)), rfl⟩
end Go.Proofs.Ytlocjjponfbhmaa

