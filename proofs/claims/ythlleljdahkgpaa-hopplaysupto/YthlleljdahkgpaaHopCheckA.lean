/- Words between neighbours: both sides' Check. -/
import Derived.Test.YthlleljdahkgpaaCosts
namespace Go.Proofs.Ythlleljdahkgpaa
open Go Go.Vm
attribute [local irreducible] Brn Ob Grow CallsM inR LoopVC Mem.row Mem.cells Mem.setCells Mem.upd Own AppVC SrcVC StrVC NextVC New SrcOk subA
/-- a word as it lies: its numbers, where its data and its costs are, and what they hold -/
structure W where
  kind : Int
  n : Int
  o : Int
  d : Int
  e : Int
  c : Int
  pD : Option Addr
  nD : Nat
  kD : Nat
  pC : Option Addr
  nC : Nat
  kC : Nat
  data : List UInt8
  costs : List Int
def W.v (w : W) : Value := .agg #[.int .i64 w.kind, .int .i64 w.n, .int .i64 w.o, .int .i64 w.d, .int .i64 w.e, .int .i64 w.c, .slice w.pD w.nD w.kD, .slice w.pC w.nC w.kC]
structure W.Ok (w : W) (M : Mem) : Prop where
  data : SrcOk M 1 w.pD w.nD (w.data.map byteV)
  costs : SrcOk M 1 w.pC w.nC (w.costs.map intV)
  nD : w.nD ≤ 2097152
  nC : w.nC ≤ 2097152
def W.bare (w : W) : Prop := (w.o = 0 ∧ w.d = 0 ∧ w.e = 0 ∧ w.c = 0) ∧ w.data = []
instance (w : W) : Decidable w.bare := by unfold W.bare; infer_instance
def W.routes (w : W) : Int := if (w.costs.all cost && decide (w.nC = 64)) = true ∧ w.bare ∧ w.n = 0 then 0 else 2
def W.idErr (w : W) : Int := Go.Proofs.Ythlleljdahkgpaa.idErr w.o w.d w.e w.c
def W.msgErr (w : W) : Int := Go.Proofs.Ythlleljdahkgpaa.msgErr w.o w.d w.e w.c w.nD
def W.err (w : W) : Int :=
  if w.kind < 1 ∨ 4 < w.kind ∨ w.n < 0 ∨ 65535 < w.n then 1
  else if w.kind = 4 then w.routes
  else if w.kind = 1 then (if w.msgErr ≠ 0 then w.msgErr else if 0 < w.nC then 2 else 0)
  else (if w.idErr ≠ 0 then w.idErr else if 0 < w.nC ∨ 0 < w.nD then 2 else 0)
theorem srcNil (M : Mem) : SrcOk M 1 none 0 (([] : List UInt8).map byteV) := by unfold SrcOk; exact ⟨rfl, .inl rfl⟩
theorem W.Ok.lenD {w : W} {M : Mem} (h : w.Ok M) : w.data.length = w.nD := by have := h.data; unfold SrcOk at this; simpa using this.1
theorem W.Ok.lenC {w : W} {M : Mem} (h : w.Ok M) : w.costs.length = w.nC := by have := h.costs; unfold SrcOk at this; simpa using this.1
set_option maxRecDepth 10000 in
theorem routes_ok (w : W) (M : Mem) (hw : w.Ok M) : CallsM Try.prog F.ref20_routes [w.v] M fun v M' => v = .int .i64 w.routes ∧ M = M' := by
  refine fo_ref20_routes (by simp) ?_
  (conv => whnf)
  refine (right_ok _ _ _ _ w.costs hw.costs (by have := hw.nC; omega)).mono ?_
  rintro v M' ⟨rfl, rfl⟩
  repeat' ((conv => whnf); first
    | (refine (sameR_ok _ _ _ _ _ _ _ _ _ _ _ _ _ _ _ w.data [] hw.data (srcNil _)).mono ?_; rintro v M' ⟨rfl, rfl⟩)
    | refine brn (fun h => ?_) (fun h => ?_))
  all_goals (conv => whnf)
  all_goals (refine ⟨?_, rfl⟩; simp_all [W.routes, W.bare])
  all_goals grind
set_option maxRecDepth 10000 in
theorem wcheckR_ok (w : W) (M : Mem) (hw : w.Ok M) : CallsM Try.prog F.ref20_Check [w.v] M fun v M' => v = .int .i64 w.err ∧ M = M' := by
  refine fo_ref20_Check (by simp) ?_
  (conv => whnf)
  repeat' ((conv => whnf); first
    | (refine (checkR_ok _ _ _ _ _).mono ?_; rintro v M' ⟨rfl, rfl⟩)
    | (refine (checkMsgR_ok _ _ _ _ _ _ _ _).mono ?_; rintro v M' ⟨rfl, rfl⟩)
    | (refine (routes_ok w _ hw).mono ?_; rintro v M' ⟨rfl, rfl⟩)
    | refine brn (fun h => ?_) (fun h => ?_))
  all_goals (conv => whnf)
  all_goals (refine ⟨?_, rfl⟩; congr 1; simp only [decide_eq_true_eq, decide_eq_false_iff_not, Bool.not_eq_true'] at *)
  all_goals (try simp only [Bool.not_eq_false', decide_eq_true_eq] at *)
  all_goals unfold W.err W.msgErr W.idErr
  all_goals (repeat' split) <;> first | rfl | omega
end Go.Proofs.Ythlleljdahkgpaa
