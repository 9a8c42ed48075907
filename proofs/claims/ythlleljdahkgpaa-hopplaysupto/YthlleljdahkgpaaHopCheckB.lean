/- Words between neighbours: the program's Check. -/
import Derived.Test.YthlleljdahkgpaaHopCheckA
namespace Go.Proofs.Ythlleljdahkgpaa
open Go Go.Vm
attribute [local irreducible] Brn Ob Grow CallsM inR LoopVC Mem.row Mem.cells Mem.setCells Mem.upd Own AppVC SrcVC StrVC NextVC New SrcOk subA
def W.cs (w : W) : List SC := [.v (.int .i64 w.kind), .v (.int .i64 w.n), .v (.int .i64 w.o), .v (.int .i64 w.d), .v (.int .i64 w.e), .v (.int .i64 w.c), .v (.slice w.pD w.nD w.kD), .v (.slice w.pC w.nC w.kC)]
def zeroMsg : List SC := [.v (.int .i64 0), .v (.int .i64 0), .v (.int .i64 0), .v (.int .i64 0), .v (.slice none 0 0)]
set_option maxRecDepth 10000 in
theorem wcheck_ok (w : W) (M : Mem) (hw : w.Ok M) : CallsM Try.prog F.hop_Check [w.v] M fun v M' => v = .int .i64 w.err ∧ M = M' := by
  refine fo_hop_Check (by simp) ?_
  have hlD := hw.lenD
  have hlC := hw.lenC
  have hnC := hw.nC
  (conv => whnf)
  repeat' ((conv => whnf); first
    | (refine (check_ok _ _ _ _ _).mono ?_; rintro v M' ⟨rfl, rfl⟩)
    | (refine (checkMsg_ok _ _ _ _ _ _ _ _).mono ?_; rintro v M' ⟨rfl, rfl⟩)
    | (refine (same_ok _ _ _ _ _ _ _ _ _ _ _ _ _ _ _ w.data [] hw.data (srcNil _)).mono ?_; rintro v M' ⟨rfl, rfl⟩)
    | (refine (same_ok _ _ _ _ _ _ _ _ _ _ _ _ _ _ _ w.data w.data hw.data hw.data).mono ?_; rintro v M' ⟨rfl, rfl⟩)
    | refine brn_t (by assumption) ?_
    | refine brn_f (by assumption) ?_
    | refine loop (σ := Nat) (fun i => ⟨[(57, .int .i64 i), (56, .int .i64 w.nC), (55, .slice w.pC w.nC w.kC), (1, .c (.bx 0 0)), (3, .c (.bx 1 0))], [.live T.api_Hop w.cs, .live T.api_Msg zeroMsg], _⟩)
        (fun i => i ≤ w.nC ∧ (w.costs.take i).all cost = true) (fun i => w.nC - i) 0 ⟨by omega, by simp⟩ ⟨⟨rfl, rfl, rfl, rfl, rfl, trivial⟩, ⟨rfl, rfl, trivial⟩, Mem.le_refl _, rfl⟩ ?_
    | refine brn (fun h => ?_) (fun h => ?_))
  all_goals (try (conv => whnf))
  all_goals first
    | (refine ⟨?_, rfl⟩
       congr 1
       simp only [decide_eq_true_eq, decide_eq_false_iff_not, Bool.not_eq_true', Bool.not_eq_false', and_self, true_and] at *
       unfold W.err W.msgErr W.idErr
       (repeat' split) <;> first | rfl | omega | grind [W.routes, W.bare])
    | skip
  intro i ⟨hi, hall⟩
  rename_i h1 h2 h3 h4 h5 h6 h7
  simp only [decide_eq_true_eq, decide_eq_false_iff_not, Bool.not_eq_true', Bool.not_eq_false'] at h1 h2 h6 h7 h
  (conv => whnf)
  refine brn (fun g1 => ?_) (fun g1 => ?_)
  · simp only [decide_eq_true_eq] at g1
    have hget : (w.costs.map intV)[i]? = some (intV w.costs[i]) := by simp [List.getElem?_eq_getElem (show i < w.costs.length by omega)]
    obtain ⟨b, o, hp, hrow⟩ := hw.costs.get hget
    have hrow' : M.row b (o + (i : Int).toNat * 1) 1 = some [intV w.costs[i]] := by simpa using hrow
    have hfail : cost w.costs[i] = false → w.costs.all cost = false := fun hc => by
      rw [List.all_eq_false]
      exact ⟨w.costs[i], by simp, by simp [hc]⟩
    (conv => whnf)
    refine ob (by omega) ?_
    (conv => whnf)
    refine atp hp ?_
    (conv => whnf)
    refine on hrow' ?_
    (conv => whnf)
    refine brn (fun g2 => ?_) (fun g2 => ?_)
    · (conv => whnf)
      refine ⟨?_, rfl⟩
      simp only [decide_eq_true_eq] at g2
      have := hfail (by simp [cost]; omega)
      simp [W.err, W.routes, this, h6]
      omega
    (conv => whnf)
    refine brn (fun g3 => ?_) (fun g3 => ?_)
    · (conv => whnf)
      refine ⟨?_, rfl⟩
      simp only [decide_eq_true_eq] at g3
      have := hfail (by simp [cost]; omega)
      simp [W.err, W.routes, this, h6]
      omega
    (conv => whnf)
    refine ob (inR_i64 (by omega)) ?_
    (conv => whnf)
    simp only [decide_eq_false_iff_not] at g2 g3
    refine ⟨i + 1, ⟨by omega, ?_⟩, by omega, ⟨rfl, rfl, rfl, rfl, rfl, trivial⟩, ⟨rfl, rfl, trivial⟩, Mem.le_refl _, rfl⟩
    rw [List.take_add_one, List.all_append, hall, List.getElem?_eq_getElem (by omega)]
    simp [cost]
    omega
  · simp only [decide_eq_false_iff_not] at g1
    have hin : i = w.costs.length := by omega
    rw [hin, List.take_length] at hall
    (conv => whnf)
    refine (same_ok _ _ _ _ _ _ _ _ _ _ _ _ _ _ _ w.data [] hw.data (srcNil _)).mono ?_
    rintro v M' ⟨rfl, rfl⟩
    repeat' ((conv => whnf); first
      | refine brn_t (by assumption) ?_
      | refine brn_f (by assumption) ?_
      | refine brn (fun h => ?_) (fun h => ?_))
    all_goals (conv => whnf)
    all_goals (refine ⟨?_, rfl⟩; congr 1)
    all_goals simp [W.err, W.routes, W.bare, hall, h6] at *
    all_goals grind
end Go.Proofs.Ythlleljdahkgpaa
