/- Words and their bytes: there and back. -/
import Derived.Test.YthlleljdahkgpaaGetC
namespace Go.Proofs.Ythlleljdahkgpaa
open Go Go.Vm
attribute [local irreducible] Brn Ob CallsM inR LoopVC Mem.row Mem.cells Mem.setCells Mem.upd Own AppVC SrcVC StrVC NextVC New SrcOk subA NewSl Mem.textAt Mem.mapAt Mem.iterAt entryOf kfind Wr NewEls Elems
set_option maxRecDepth 10000
theorem Word.zero {x : Word} (h : x.err = 0) : (1 ≤ x.kind ∧ x.kind ≤ 4 ∧ 0 ≤ x.n ∧ x.n ≤ 65535) ∧
    (x.kind = 4 → (x.costs.all cost = true ∧ x.costs.length = 64) ∧ x.id = zeroId ∧ x.data = [] ∧ x.n = 0) ∧ (x.kind ≠ 4 → x.id.err = 0 ∧ x.costs = []) ∧ (x.kind = 1 → 1 ≤ x.data.length ∧ x.data.length ≤ 48) ∧ (x.kind ≠ 1 → x.data = []) := by
  obtain ⟨h1, h2, h3, h4, h5⟩ := W.err_zero (w := x.w none 0 none 0) rfl rfl h
  refine ⟨h1, fun hk => ?_, fun hk => ⟨(h3 hk).1, List.eq_nil_of_length_eq_zero (h3 hk).2⟩, h4, fun hk => List.eq_nil_of_length_eq_zero (h5 hk)⟩
  obtain ⟨g1, ⟨⟨e1, e2, e3, e4⟩, e5⟩, g3⟩ := h2 hk
  refine ⟨g1, ?_, e5, g3⟩
  obtain ⟨kind, n, ⟨o, d, e, c⟩, data, costs⟩ := x
  simp only [Word.w] at e1 e2 e3 e4
  subst e1 e2 e3 e4
  rfl
theorem byteOf_toNat {x : Int} (h : 0 ≤ x ∧ x < 256) : ((byteOf x).toNat : Int) = x := by
  unfold byteOf
  simp
  omega
theorem toNat_byteOf (b : UInt8) : byteOf (b.toNat : Int) = b := by
  have := b.toNat_lt
  unfold byteOf
  apply UInt8.toNat_inj.1
  simp
  omega
/-- the number of two bytes -/
theorem num_twoOf {x : Int} (h : 0 ≤ x ∧ x ≤ 65535) : (num (two x) 0 : Int) = x := by
  have h1 := byteOf_toNat (x := x / 256) (by omega)
  have h2 : ((byteOf x).toNat : Int) = x % 256 := by
    have : byteOf x = byteOf (x % 256) := by simp [byteOf]
    rw [this]; exact byteOf_toNat (by omega)
  simp only [two, num]
  push_cast
  omega
theorem two_num {a b : UInt8} : two (num [a, b] 0 : Nat) = [a, b] := by
  have ha := a.toNat_lt
  have hb := b.toNat_lt
  simp only [num, two]
  have h1 : ((256 * (256 * 0 + a.toNat) + b.toNat : Nat) : Int) / 256 = (a.toNat : Int) := by omega
  rw [h1, toNat_byteOf]
  have h2 : byteOf ((256 * (256 * 0 + a.toNat) + b.toNat : Nat) : Int) = byteOf (b.toNat : Int) := by
    unfold byteOf; congr 2; omega
  rw [h2, toNat_byteOf]
/-- an id's bytes say it -/
theorem idOf_bytes {i : Id} (h : i.err = 0) : idOf (idBytes i.o i.d i.e i.c) = i ∧ (idBytes i.o i.d i.e i.c).length = 6 := by
  obtain ⟨h1, h2, h3, h4, h5⟩ := idErr_zero h
  refine ⟨?_, by simp [idBytes, two]⟩
  have e1 := byteOf_toNat (x := i.o) (by omega)
  have e2 := byteOf_toNat (x := i.d) (by omega)
  have e3 := num_twoOf (x := i.e) (by omega)
  have e4 := num_twoOf (x := i.c) (by omega)
  have g3 : getNum (idBytes i.o i.d i.e i.c) 2 2 = num (two i.e) 0 := rfl
  have g4 : getNum (idBytes i.o i.d i.e i.c) 4 2 = num (two i.c) 0 := rfl
  unfold idOf
  rw [g3, g4, e3, e4]
  have q1 : (idBytes i.o i.d i.e i.c).getD 0 0 = byteOf i.o := rfl
  have q2 : (idBytes i.o i.d i.e i.c).getD 1 0 = byteOf i.d := rfl
  rw [q1, q2, e1, e2]
theorem idBytes_of {l : List UInt8} (h : l.length = 6) : idBytes (idOf l).o (idOf l).d (idOf l).e (idOf l).c = l := by
  match l, h with
  | [a, b, c, d, e, f], _ =>
    have g3 : getNum [a, b, c, d, e, f] 2 2 = num [c, d] 0 := rfl
    have g4 : getNum [a, b, c, d, e, f] 4 2 = num [e, f] 0 := rfl
    unfold idOf
    rw [g3, g4]
    simp only [idBytes]
    rw [two_num, two_num]
    have q1 : ([a, b, c, d, e, f] : List UInt8).getD 0 0 = a := rfl
    have q2 : ([a, b, c, d, e, f] : List UInt8).getD 1 0 = b := rfl
    rw [q1, q2, toNat_byteOf, toNat_byteOf]
    rfl
end Go.Proofs.Ythlleljdahkgpaa
