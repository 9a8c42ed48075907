/- Tables of ways: the tables of a net. -/
import Derived.Test.YtankgacaeejlhaaRoutesH
import Derived.Test.YtankgacaeejlhaaRoutesG
namespace Go.Proofs.Ytankgacaeejlhaa
open Go Go.Vm
attribute [local irreducible] Brn Ob CallsM inR LoopVC Mem.row Mem.cells Mem.setCells Mem.upd Own AppVC SrcVC StrVC NextVC New SrcOk subA NewSl Mem.textAt Mem.mapAt Mem.iterAt entryOf kfind Wr NewEls Elems
set_option maxRecDepth 10000
structure Tab where
  p : Nat
  b1 : Nat
  b2 : Nat
  a : Option Addr
  c : Nat
  nb : List Int
/-- a net's tables: S what each has heard -/
structure All (M : Mem) (ts : List Tab) (S : Nat → List (Int × Hd)) : Prop where
  lies : ∀ (i : Nat) (t : Tab), ts[i]? = some t → TabAt M t.p t.b1 t.b2 t.a t.nb.length t.c i 64 t.nb [] (S i)
  apart : ∀ (i j : Nat) (t u : Tab), ts[i]? = some t → ts[j]? = some u → i ≠ j → t.b2 ≠ u.b2 ∧ t.b2 ≠ u.b1
variable {M M' : Mem} {ts : List Tab} {S : Nat → List (Int × Hd)}
theorem All.le (h : All M ts S) (hle : M.le M') : All M' ts S := ⟨fun i t ht => (h.lies i t ht).le hle, h.apart⟩
theorem mapAt_ne {x y : Nat} {m : List (Int × Hd)} (h : MapAt intV Hd.v M x m) {E : TypeId} {l : List Value} (h' : M.has y E l) : y ≠ x := by
  rintro rfl
  obtain ⟨l1, c, h1, _⟩ := h
  unfold Mem.has at h'
  rw [h1] at h'
  simp [mapObj] at h'
theorem mapAt_src {x : Nat} {m : List (Int × Hd)} (h : MapAt intV Hd.v M x m) {a : Option Addr} {n : Nat} {l : List Value} (h' : SrcOk M 1 a n l) (hk : Mem.keep (one x) M M') : SrcOk M' 1 a n l := by
  unfold SrcOk at h' ⊢
  obtain ⟨h1, h2 | ⟨b, o, rfl, h3⟩⟩ := h'
  · exact ⟨h1, .inl h2⟩
  · refine ⟨h1, .inr ⟨b, o, rfl, ?_⟩⟩
    have hne : b ≠ x := by
      rintro rfl
      obtain ⟨l1, c, h4, _⟩ := h
      unfold Mem.row at h3
      rw [h4] at h3
      simp [mapObj] at h3
    unfold Mem.row at h3 ⊢
    cases hb : M b with
    | none => rw [hb] at h3; cases h3
    | some ob => rw [hb] at h3; rw [hk b ob hne hb]; exact h3
/-- another table hears something -/
theorem TabAt.keep {p b1 b2 x : Nat} {a : Option Addr} {n c : Nat} {me age : Int} {nb : List Int} {st : List (Int × Int)} {m m' : List (Int × Hd)} (ht : TabAt M p b1 b2 a n c me age nb st m) (hx : MapAt intV Hd.v M x m')
    (hk : Mem.keep (one x) M M') (h1 : x ≠ b1) (h2 : x ≠ b2) : TabAt M' p b1 b2 a n c me age nb st m := by
  have hp := mapAt_ne hx ht.self
  refine ⟨?_, ht.n1, ht.n2, ht.n12, mapAt_src hx ht.nbs hk, ht.na, ht.set.mono fun o ho => hk _ o (Ne.symm h1) ho, ht.hrd.mono fun o ho => hk _ o (Ne.symm h2) ho⟩
  have := ht.self
  unfold Mem.has at this ⊢
  exact hk _ _ hp this
def upd (S : Nat → List (Int × Hd)) (i : Nat) (m : List (Int × Hd)) : Nat → List (Int × Hd) := fun k => if k = i then m else S k
theorem All.hear (h : All M ts S) {i : Nat} {t : Tab} (ht : ts[i]? = some t) (hk : Mem.keep (one t.b2) M M') {m : List (Int × Hd)} (hm : TabAt M' t.p t.b1 t.b2 t.a t.nb.length t.c i 64 t.nb [] m) : All M' ts (upd S i m) := by
  refine ⟨fun j u hu => ?_, h.apart⟩
  by_cases e : j = i
  · subst e
    rw [ht] at hu; cases hu
    simpa [upd] using hm
  · have := h.apart i j t u ht hu (Ne.symm e)
    simpa [upd, e] using (h.lies j u hu).keep (h.lies i t ht).hrd hk this.2 this.1
theorem TabAt.minus {p b1 b2 : Nat} {a : Option Addr} {n c : Nat} {me age : Int} {nb : List Int} {st : List (Int × Int)} {m : List (Int × Hd)} (ht : TabAt M p b1 b2 a n c me age nb st m) {X : Nat → Prop} (hp : ¬ X p) (h1 : ¬ X b1) (h2 : ¬ X b2) (ha : ∀ q, a = some q → ¬ X q.block) : TabAt (M.minus X) p b1 b2 a n c me age nb st m :=
  ⟨ht.self.minus hp, ht.n1, ht.n2, ht.n12, ht.nbs.minus ha, ht.na, ht.set.mono fun o ho => by unfold Mem.minus; rw [if_neg h1]; exact ho, ht.hrd.mono fun o ho => by unfold Mem.minus; rw [if_neg h2]; exact ho⟩
end Go.Proofs.Ytankgacaeejlhaa
