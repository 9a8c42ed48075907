/- twice, strange, again. -/
import Derived.Test.YtjkejbenppeagaaGreatDoorWatL
namespace Go.Proofs.YtjkejbenppeagaaGreatDoor
open Go Go.Vm
attribute [local irreducible] Brn Ob Grow CallsM inR LoopVC LoopVC0 Mem.row Mem.cells Mem.setCells Mem.upd Go.Vm.Own AppVC SrcVC StrVC NextVC New SrcOk subA NewSl Mem.textAt Mem.mapAt Mem.iterAt entryOf kfind Wr NewEls Elems
set_option maxRecDepth 10000
variable {M : Mem}
@[reducible] def ptr (b : Nat) : Value := .pointer (some ⟨b, 0, none⟩)
@[reducible] def intV (n : Int) : Value := .int .i64 n
structure Id4 where
  o : Int
  d : Int
  e : Int
  c : Int
@[reducible] def id4 (i : Id4) : List Value := [.int .i64 i.o, .int .i64 i.d, .int .i64 i.e, .int .i64 i.c]
def TdR.id (x : TdR) : Id4 := ⟨x.o, x.d, x.e, x.c⟩
def twP (i : Id4) (x : TdR) : Bool := x.out && decide (x.o = i.o ∧ x.d = i.d ∧ x.e = i.e ∧ x.c = i.c)
def agP (i : Id4) (x : TdR) : Bool := !x.out && decide (x.err = 0) && decide (x.o = i.o) && decide (x.d = i.d)
def gvP (t : TdR) (s : StR) : Bool := decide (s.kind = 1) && decide (s.node = t.o) && decide (s.to = t.d) && decide (s.data = t.data)
theorem twice1_ok {bq : Nat} {i : Id4} (hb : M.has bq T.api_Id (id4 i)) : ∀ M', M.le M' → ∀ cs x, TdL M cs x → CallsM Tryz.prog F.watch_twice_1 [.agg cs.toArray, ptr bq] M' fun v M'' => v = .bool (twP i x) ∧ M'.le M'' := by
  rintro M' hle _ x ⟨a, n, c, rfl, -, -⟩
  refine fo_watch_twice_1 (by simp) ?_
  have hrow := (hb.le hle).row (o := 0) (n := 4) (Nat.le_refl 4)
  obtain ⟨st, nd, xo, xd, xe, xc, er, da, out⟩ := x
  cases out
  · repeat' ((conv => whnf); first | refine ⟨?_, True.intro⟩ | refine brn_t rfl ?_ | refine brn_f rfl ?_ | refine ob rfl ?_ | refine ob (by decide) ?_ | refine grow_same (Mem.le_refl _) ?_ | refine ob (Mem.le_refl _) ?_ | refine ⟨_, Mem.le_refl _, ?_⟩ | fail)
    exact ⟨rfl, Mem.le_refl _⟩
  · (conv => whnf); refine on hrow ?_
    (conv => whnf)
    refine ⟨?_, Mem.le_refl _⟩
    simp only [twP, Bool.true_and, Bool.and_true]
    rw [← Bool.decide_and, ← Bool.decide_and, ← Bool.decide_and]
theorem again1_ok {bq : Nat} {i : Id4} (hb : M.has bq T.api_Id (id4 i)) : ∀ M', M.le M' → ∀ cs x, TdL M cs x → CallsM Tryz.prog F.watch_again_1 [.agg cs.toArray, ptr bq] M' fun v M'' => v = .bool (agP i x) ∧ M'.le M'' := by
  rintro M' hle _ x ⟨a, n, c, rfl, -, -⟩
  refine fo_watch_again_1 (by simp) ?_
  have h1 := (hb.le hle).c1 (o := 0) (v := .int .i64 i.o) rfl
  have h2 := (hb.le hle).c1 (o := 1) (v := .int .i64 i.d) rfl
  obtain ⟨st, nd, xo, xd, xe, xc, er, da, out⟩ := x
  cases out
  · (conv => whnf); refine brn (fun e => ?_) (fun e => ?_)
    · (conv => whnf); refine on h1 ?_
      (conv => whnf); refine brn (fun e2 => ?_) (fun e2 => ?_)
      · (conv => whnf); refine on h2 ?_
        (conv => whnf)
        refine ⟨?_, Mem.le_refl _⟩
        unfold agP
        simp only [Bool.not_false, Bool.true_and]
        rw [e, e2]; rfl
      · (conv => whnf)
        refine ⟨?_, Mem.le_refl _⟩
        unfold agP
        simp only [Bool.not_false, Bool.true_and]
        rw [e, e2]; rfl
    · (conv => whnf)
      refine ⟨?_, Mem.le_refl _⟩
      unfold agP
      simp only [Bool.not_false, Bool.true_and]
      rw [e]; rfl
  · (conv => whnf)
    exact ⟨rfl, Mem.le_refl _⟩
theorem strange1_ok {bq : Nat} {t : TdR} {ta : Option Addr} {tn tc : Nat} (hb : M.has bq T.api_Told (tdC t ta tn tc)) (ht : SrcOk M 1 ta tn (t.data.map byteV)) : ∀ M', M.le M' → ∀ cs x, StL M cs x → CallsM Tryz.prog F.watch_strange_1 [.agg cs.toArray, ptr bq] M' fun v M'' => v = .bool (gvP t x) ∧ M'.le M'' := by
  rintro M' hle _ x ⟨a, n, c, rfl, hx⟩
  refine fo_watch_strange_1 (by simp) ?_
  have h1 := (hb.le hle).c1 (o := 2) (v := .int .i64 t.o) rfl
  have h2 := (hb.le hle).c1 (o := 3) (v := .int .i64 t.d) rfl
  have h3 := (hb.le hle).c1 (o := 7) (v := .slice ta tn tc) rfl
  (conv => whnf); refine brn (fun e => ?_) (fun e => ?_)
  · (conv => whnf); refine on h1 ?_
    (conv => whnf); refine brn (fun e2 => ?_) (fun e2 => ?_)
    · (conv => whnf); refine on h2 ?_
      (conv => whnf); refine brn (fun e3 => ?_) (fun e3 => ?_)
      · (conv => whnf); refine strv (hx.le hle) ?_
        (conv => whnf); refine on h3 ?_
        (conv => whnf); refine strv (ht.le hle) ?_
        (conv => whnf)
        refine ⟨?_, Mem.le_refl _⟩
        unfold gvP
        rw [e, e2, e3]
        simp
      · (conv => whnf)
        refine ⟨?_, Mem.le_refl _⟩
        unfold gvP
        rw [e, e2, e3]; rfl
    · (conv => whnf)
      refine ⟨?_, Mem.le_refl _⟩
      unfold gvP
      rw [e, e2]; rfl
  · (conv => whnf)
    refine ⟨?_, Mem.le_refl _⟩
    unfold gvP
    rw [e]; rfl
end Go.Proofs.YtjkejbenppeagaaGreatDoor
