/- A desk: what is known of ids. -/
import Derived.Test.YthlleljdahkgpaaHopPutC
import Derived.Test.YthlleljdahkgpaaVmN
namespace Go.Proofs.Ythlleljdahkgpaa
open Go Go.Vm
attribute [local irreducible] Brn Ob Grow CallsM inR LoopVC Mem.row Mem.cells Mem.setCells Mem.upd Own AppVC SrcVC StrVC NextVC New SrcOk subA NewSl Mem.textAt Mem.mapAt Mem.iterAt entryOf kfind Wr NewEls Elems
set_option maxRecDepth 10000
structure Id where
  o : Int
  d : Int
  e : Int
  c : Int
deriving DecidableEq
def Id.v (i : Id) : Value := .agg #[.int .i64 i.o, .int .i64 i.d, .int .i64 i.e, .int .i64 i.c]
structure Known where
  to : Int
  n : Int
  ticks : Int
  waits : Int
deriving DecidableEq
def Known.v (i : Known) : Value := .agg #[.int .i64 i.to, .int .i64 i.n, .int .i64 i.ticks, .int .i64 i.waits]
theorem idKey : KeyOk Id.v := by
  intro a b
  obtain ⟨a1, a2, a3, a4⟩ := a
  obtain ⟨b1, b2, b3, b4⟩ := b
  simp only [Id.v, sameV, sameCs, if_true, Id.mk.injEq]
  (repeat' split) <;> simp_all
/-- where a desk lies: its words at p, its map at b -/
structure DeskAt (M : Mem) (p b : Nat) (wait next : Int) (m : List (Id × Known)) : Prop where
  self : M.has p T.hop_Desk [.int .i64 wait, .int .i64 next, .map (some b)]
  ne : p ≠ b
  map : MapAt Id.v Known.v M b m
def isTo (m : List (Id × Known)) (n : Int) (i : Id) : Bool := match aget m i with | some k => decide (k.waits = 0) && decide (k.to = n) | none => false
def isIs (m : List (Id × Known)) (i : Id) : Bool := match aget m i with | some k => decide (k.waits = 0) | none => false
def waitsOf (m : List (Id × Known)) (i : Id) : Int := match aget m i with | some k => k.waits | none => 0
@[reducible] def ptr (p : Nat) : Value := .pointer (some ⟨p, 0, none⟩)
set_option maxRecDepth 10000 in
theorem to_ok (p b : Nat) (wait next : Int) (m : List (Id × Known)) (M : Mem) (hd : DeskAt M p b wait next m) (n : Int) (i : Id) :
    CallsM Try.prog F.hop_Desk_to [ptr p, .int .i64 n, i.v] M fun v M' => v = .bool (isTo m n i) ∧ M = M' := by
  refine fo_hop_Desk_to (by simp) ?_
  (conv => whnf); refine brn_f rfl ?_
  (conv => whnf); refine on (hd.self.c1 rfl) ?_
  (conv => whnf)
  refine hd.map.get idKey i (fun h => ?_) (fun x j h => ?_)
  · repeat' ((conv => whnf); first | refine ⟨?_, True.intro⟩ | refine brn_t rfl ?_ | refine brn_f rfl ?_ | refine ob rfl ?_ | refine ob (by decide) ?_ | refine grow_same (Mem.le_refl _) ?_ | refine ob (Mem.le_refl _) ?_ | refine ⟨_, Mem.le_refl _, ?_⟩ | fail)
    exact ⟨by simp [isTo, h], rfl⟩
  · repeat' ((conv => whnf); first | refine ⟨?_, True.intro⟩ | refine brn_t rfl ?_ | refine brn_f rfl ?_ | refine ob rfl ?_ | refine ob (by decide) ?_ | refine grow_same (Mem.le_refl _) ?_ | refine ob (Mem.le_refl _) ?_ | refine ⟨_, Mem.le_refl _, ?_⟩ | fail)
    refine brn (fun g => ?_) (fun g => ?_)
    · repeat' ((conv => whnf); first | refine ⟨?_, True.intro⟩ | refine brn_t rfl ?_ | refine brn_f rfl ?_ | refine ob rfl ?_ | refine ob (by decide) ?_ | refine grow_same (Mem.le_refl _) ?_ | refine ob (Mem.le_refl _) ?_ | refine ⟨_, Mem.le_refl _, ?_⟩ | fail)
      exact ⟨by simp_all [isTo], rfl⟩
    · repeat' ((conv => whnf); first | refine ⟨?_, True.intro⟩ | refine brn_t rfl ?_ | refine brn_f rfl ?_ | refine ob rfl ?_ | refine ob (by decide) ?_ | refine grow_same (Mem.le_refl _) ?_ | refine ob (Mem.le_refl _) ?_ | refine ⟨_, Mem.le_refl _, ?_⟩ | fail)
      exact ⟨by simp_all [isTo], rfl⟩
end Go.Proofs.Ythlleljdahkgpaa
