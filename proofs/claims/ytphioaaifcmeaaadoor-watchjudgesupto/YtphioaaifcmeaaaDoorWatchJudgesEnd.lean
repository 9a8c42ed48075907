/- WatchJudges: what is found in anything that was told is what the document finds: for every call of bulk at most 1048576 (the card ties the three tables of the library that Itoa's text names). -/
import Derived.Test.YtphioaaifcmeaaaDoorReadsWatch
import Derived.Test.YtphioaaifcmeaaaDoorLaidW
namespace Go.Proofs.YtphioaaifcmeaaaDoor.watchJudges
open Go.ChangeShapes Go.WideShapes Go.ChangeAt Go.RowKit Go.Vm Go.Proofs.YtphioaaifcmeaaaDoor.Br
set_option linter.unusedVariables false
set_option maxRecDepth 100000

theorem contract (H : Type) (enc : TypeId × Value → H) (W : World) (base : Nat) (args : Array Value) (ds gs : List (DataW H)) (before : List MemPlace)
    (hval : ∀ (j : Nat) t v, Tryd.f3.params[j]? = some t → args[j]? = some v → Value.okWide Tryd.prog W .any base t v)
    (hW : DataW.Whole enc Tryd.prog Tryd.f3.params.toList Rows.watchJudgesSpec.vars false W args.toList ds gs before) (hk : Rows.uptoSmall H (ds ++ gs) = true) (hL : laidMetH Tryd.prog Rows.watchJudgesUptoRow.laid W) :
    Calls Tryd.prog F.law24_WatchJudges args W fun e W' => ∃ v, e = .returned v ∧ Rows.watchJudgesSpec.post enc Tryd.prog Tryd.f3 false true false false W args v W' := by
  refine close (s := Rows.watchJudgesSpec) (fn := Tryd.f3) (fun H ds h => by match ds, h with | [d0, d1], _ => exact ⟨rfl, rfl, rfl⟩) rfl rfl (by kernel_rfl) H enc W args ds gs before hW ?_
  obtain ⟨p, q, hA, hV, -, -, -⟩ := hW
  obtain ⟨rfl, rfl⟩ := trodVars_none hV
  have hb := small hk
  rw [Tryd.params3] at hA hval
  obtain ⟨v0, vs0, d0, ds0, p0, q0, hargs0, rfl, rfl, ⟨n0, h0⟩, r0⟩ := trodAll_cons hA
  obtain ⟨v1, vs1, d1, ds1, p1, q1, hargs1, rfl, rfl, ⟨n1, h1⟩, r1⟩ := trodAll_cons r0
  obtain ⟨rfl, rfl, rfl⟩ := trodAll_nil r1
  subst hargs1
  obtain rfl : args = #[v0, v1] := by cases args; simp_all
  obtain ⟨-, S, sa, sn, sc, hscs, hs, hsn, hsc⟩ := rd_steps H enc W _ _ _ _ h0 (hb _ (by simp))
  have hv0 := hval 0 _ v0 rfl rfl
  obtain rfl := arg_cell Tryd.underlying22 rfl hv0 hscs
  obtain ⟨-, L, a, n, c, hcs, hl, hn, hc⟩ := rd_tolds H enc W _ _ _ _ h1 (hb _ (by simp))
  have hv1 := hval 1 _ v1 rfl rfl
  obtain rfl := arg_cell Tryd.underlying23 rfl hv1 hcs
  exact judges_law (tabM_of hL) hs hsn hsc hl hn hc
theorem laid_met (os : Os) : laidMet Tryd.prog Rows.watchJudgesUptoRow.laid ((laidWorld os).forCall (fun _ _ => 0) ⟨#[], #[.slice none 0 0, .slice none 0 0], []⟩).memory :=
  laidMet_of_run' 8 (by kernel_rfl) (by kernel_rfl)
theorem reads (os : Os) {H : Type} (enc : TypeId × Value → H) : ∃ places, DataW.whole enc Tryd.prog ((laidWorld os).forCall (fun _ _ => 0) ⟨#[], #[.slice none 0 0, .slice none 0 0], []⟩).memory Tryd.f3.params.toList Rows.watchJudgesSpec.vars false (#[.slice none 0 0, .slice none 0 0] : Array Value).toList 8 = some ([.nil, .nil], [], places) :=
  ⟨[], by kernel_rfl⟩
set_option maxRecDepth 100000 in
theorem lifted (os : Os) (started : os.Started) (H : Type) (enc : TypeId × Value → H) (F : Stop.Interp) :
    ReturnsInHanded {} Tryd.checked os 3 .any ((Rows.OpenSpec.upto Rows.watchJudgesSpec).preRow enc Tryd.prog Tryd.f3 Rows.watchJudgesUptoRow.domain false Rows.watchJudgesUptoRow.laid) (((Rows.OpenSpec.upto Rows.watchJudgesSpec).at F).post enc Tryd.prog Tryd.f3 false true false false) := by
  obtain ⟨places, hx⟩ := reads os enc
  refine returnsInHanded_of_row (C := Tryd.checked) (s := Rows.OpenSpec.upto Rows.watchJudgesSpec) own started (by kernel_rfl) Tryd.func3
    (witness_row_at (enc := enc) (C := Tryd.checked) false (laidWorld os) #[.slice none 0 0, .slice none 0 0] rfl (by kernel_rfl) (by kernel_rfl) (by kernel_rfl)
      (OpenSpec.preRow_of_cond 8 hx (by kernel_rfl) (fun k hk => by cases hk; kernel_rfl) (by kernel_rfl) (laid_met os))) ?_
  intro W base args ds gs before hval hW _ hcond _ hL _ _
  exact contract H enc W base args ds gs before hval hW (hcond _ rfl) hL
theorem over : Rows.WatchJudgesUptoSaid :=
  OpenClaim.holds_of_cond 3 Tryd.f3 rfl rfl rfl rfl rfl rfl rfl ⟨rfl, rfl, rfl, rfl, rfl⟩ rfl rfl rfl rfl rfl (by kernel_rfl) Tryd.func3 (by kernel_rfl)
    (of_decide_eq_true (by kernel_rfl)) (by unfold Func.isWrapper; first | (rw [if_pos (by decide +kernel)]; kernel_rfl) | (rw [if_neg (by decide +kernel)]; exact ⟨rfl, rfl⟩))
    (fun os started H enc _ F => by rw [OpenClaim.pre_eq_preRow]; exact lifted os started H enc F)
theorem plain (f : FuncId) (fn : Func) (hf : Tryd.pinned.checked.prog.funcNamed "portage/portagelaw24.WatchJudges" = some f) (hfn : Tryd.pinned.checked.prog.funcs[f]? = some fn) :
    false = Tryd.pinned.checked.prog.looks [] ∧ ∀ (j : Nat) t, fn.params[j]? = some t → Tryd.pinned.checked.prog.wantsStandIn t = false := by
  obtain rfl : f = 3 := Option.some.inj ((show Tryd.prog.funcNamed "portage/portagelaw24.WatchJudges" = some 3 by kernel_rfl).symm.trans hf) |>.symm
  obtain rfl : fn = Tryd.f3 := (Option.some.inj (Tryd.func3.symm.trans hfn)).symm
  refine ⟨by kernel_rfl, fun j t ht => ?_⟩
  rw [Tryd.params3] at ht
  have hm := Array.mem_of_getElem? ht
  simp only [List.mem_toArray, List.mem_cons, List.not_mem_nil, or_false] at hm
  rcases hm with rfl | rfl <;> (show Tryd.prog.wantsStandIn _ = false; kernel_rfl)
theorem proved : Rows.WatchJudgesUptoCardSaid :=
  Claim7.holds_tied_plain_at .later [] _ _ _ _ over (fun _ h => by cases h) (by kernel_rfl) (fun _ h => by cases h) watchJudgesUpto_row_tie rfl ⟨rfl, rfl⟩ (by kernel_rfl) rfl plain (by kernel_rfl)
end Go.Proofs.YtphioaaifcmeaaaDoor.watchJudges
