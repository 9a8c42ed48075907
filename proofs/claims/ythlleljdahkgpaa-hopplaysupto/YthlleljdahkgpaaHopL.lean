/- Ids in order; desks, plainly: what the program's map and the document's list have to do with each other. -/
import Derived.Test.YthlleljdahkgpaaDeskE
import Derived.Test.YthlleljdahkgpaaLayH
import Derived.Test.YthlleljdahkgpaaVmR
import Derived.Test.YthlleljdahkgpaaVmV
import Derived.Test.YthlleljdahkgpaaVmX
namespace Go.Proofs.Ythlleljdahkgpaa
open Go Go.Vm
attribute [local irreducible] Brn Ob Grow CallsM inR LoopVC Mem.row Mem.cells Mem.setCells Mem.upd Own AppVC SrcVC StrVC NextVC New SrcOk subA NewSl Mem.textAt Mem.mapAt Mem.iterAt entryOf kfind Wr NewEls Elems
set_option maxRecDepth 10000
def ltId (a b : Id) : Bool := if a.o ≠ b.o then decide (a.o < b.o) else if a.d ≠ b.d then decide (a.d < b.d) else if a.e ≠ b.e then decide (a.e < b.e) else decide (a.c < b.c)
theorem less_ok (a b : Id) (M : Mem) : CallsM Try.prog F.msg_Less [a.v, b.v] M fun v M' => v = .bool (ltId a b) ∧ M = M' := by
  refine fo_msg_Less (by simp) ?_
  repeat' ((conv => whnf); first | refine brn (fun h => ?_) (fun h => ?_) | fail)
  all_goals (conv => whnf)
  all_goals (refine ⟨?_, rfl⟩; simp_all [ltId])
instance : Inhabited Id := ⟨⟨0, 0, 0, 0⟩⟩
theorem ltId_iff (a b : Id) : ltId a b = true ↔ a.o < b.o ∨ (a.o = b.o ∧ (a.d < b.d ∨ (a.d = b.d ∧ (a.e < b.e ∨ (a.e = b.e ∧ a.c < b.c))))) := by
  unfold ltId
  repeat' split
  all_goals simp only [decide_eq_true_eq] at *
  all_goals omega
theorem ltId_irr (a : Id) : ¬ ltId a a = true := by rw [ltId_iff]; omega
theorem ltId_asym {a b : Id} (h : ltId a b = true) : ¬ ltId b a = true := by rw [ltId_iff] at *; omega
theorem ltId_trans {a b c : Id} (h : ltId a b = true) (h' : ltId b c = true) : ltId a c = true := by rw [ltId_iff] at *; omega
theorem ltId_tri {a b : Id} (h : a ≠ b) : ltId a b = true ∨ ltId b a = true := by
  rw [ltId_iff, ltId_iff]
  obtain ⟨a1, a2, a3, a4⟩ := a
  obtain ⟨b1, b2, b3, b4⟩ := b
  simp only [ne_eq, Id.mk.injEq] at h
  dsimp only
  omega
theorem sortedI_ext : ∀ {l l' : List Id}, (l.Pairwise fun x y => ltId x y = true) → (l'.Pairwise fun x y => ltId x y = true) → (∀ x, x ∈ l ↔ x ∈ l') → l = l'
  | [], [], _, _, _ => rfl
  | [], y :: s, _, _, h => absurd ((h y).2 (by simp)) (by simp)
  | x :: r, [], _, _, h => absurd ((h x).1 (by simp)) (by simp)
  | x :: r, y :: s, h1, h2, h => by
    obtain ⟨h3, h4⟩ := List.pairwise_cons.1 h1
    obtain ⟨h5, h6⟩ := List.pairwise_cons.1 h2
    have hxy : x = y := by
      rcases List.mem_cons.1 ((h x).1 (by simp)) with e | e
      · exact e
      · rcases List.mem_cons.1 ((h y).2 (by simp)) with e' | e'
        · exact e'.symm
        · exact absurd (h5 x e) (ltId_asym (h3 y e'))
    subst hxy
    rw [sortedI_ext h4 h6 fun z => ?_]
    constructor
    · intro hz
      rcases List.mem_cons.1 ((h z).1 (by simp [hz])) with e | e
      · subst e; exact absurd (h3 z hz) (ltId_irr z)
      · exact e
    · intro hz
      rcases List.mem_cons.1 ((h z).2 (by simp [hz])) with e | e
      · subst e; exact absurd (h5 z hz) (ltId_irr z)
      · exact e
/-- ids without two alike, in a weak order, are in the strong one -/
theorem sortedI_of {l : List Id} (hn : l.Nodup) (h : l.Pairwise fun x y => ¬ ltId y x = true) : l.Pairwise fun x y => ltId x y = true :=
  (hn.and h).imp fun {_ _} ⟨h1, h2⟩ => (ltId_tri h1).resolve_right h2
def cmpI (x y : Id) : Int := if ltId x y = true then -1 else 1
theorem cmpI_lt (x y : Id) : cmpI x y < 0 ↔ ltId x y = true := by
  unfold cmpI
  split <;> simp [*]
theorem cmpI_swo : Go.Sort.SWO (Go.Proofs.ltOf cmpI) := by
  have h : ∀ x y : Id, Go.Proofs.ltOf cmpI x y = ltId x y := fun x y => by
    unfold Go.Proofs.ltOf
    rw [Bool.eq_iff_iff, decide_eq_true_eq, cmpI_lt]
  refine ⟨fun x => ?_, fun x y z => ?_, fun x y z => ?_⟩ <;> simp only [h, ← Bool.not_eq_true, ltId_iff] <;> omega
@[reducible] def encI (i : Id) : List Value := [.int .i64 i.o, .int .i64 i.d, .int .i64 i.e, .int .i64 i.c]
theorem encI_len (i : Id) : (encI i).length = 4 := rfl
theorem encI_one (x : Id) : ∀ v ∈ encI x, v.oneCell' = true := by
  intro v hv
  simp only [encI, List.mem_cons, List.not_mem_nil, or_false] at hv
  rcases hv with rfl | rfl | rfl | rfl <;> rfl
theorem encI_ones (l : List Id) : ∀ u ∈ l.flatMap encI, u.oneCell' = true := by
  intro u hu
  obtain ⟨x, _, hx⟩ := List.mem_flatMap.1 hu
  exact encI_one x u hx
/-- whose ids are offered to a neighbour -/
def toK (n : Int) (k : Known) : Bool := decide (k.waits = 0) && decide (k.to = n)
theorem isTo_iff {m : List (Id × Known)} {n : Int} {i : Id} : isTo m n i = true ↔ ∃ k, aget m i = some k ∧ toK n k = true := by
  unfold isTo toK
  cases aget m i <;> simp
theorem id_eq (a b : Id) : (a.o = b.o ∧ a.d = b.d ∧ a.e = b.e ∧ a.c = b.c) ↔ a = b := by
  obtain ⟨a1, a2, a3, a4⟩ := a
  obtain ⟨b1, b2, b3, b4⟩ := b
  simp
theorem idEq4 (a b : Id) : (decide (a.o = b.o) && (decide (a.d = b.d) && (decide (a.e = b.e) && (decide (a.c = b.c) && true)))) = decide (a = b) := by
  rw [Bool.eq_iff_iff]
  simp [← id_eq a b]
end Go.Proofs.Ythlleljdahkgpaa
