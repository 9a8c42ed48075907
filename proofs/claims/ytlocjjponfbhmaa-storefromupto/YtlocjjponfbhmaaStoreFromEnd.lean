/- StoreFrom: the store of any state, or why there is none; its state is that one, and what was given is not touched: for every call of bulk at most 1048576 the law returns true, and the call reads as before. -/
import Derived.Test.YtlocjjponfbhmaaReadsStat
import Derived.Test.YtlocjjponfbhmaaFromE
namespace Go.Proofs.Ytlocjjponfbhmaa.storeFrom
open Go.ChangeShapes Go.WideShapes Go.ChangeAt Go.RowKit Go.Vm Go.Proofs.Ytlocjjponfbhmaa.Br
set_option linter.unusedVariables false
set_option maxRecDepth 100000

theorem contract (H : Type) (enc : TypeId × Value → H) (W : World) (base : Nat) (args : Array Value) (ds gs : List (DataW H)) (before : List MemPlace)
    (hval : ∀ (j : Nat) t v, Try.f8.params[j]? = some t → args[j]? = some v → Value.okWide Try.prog W .any base t v)
    (hW : DataW.Whole enc Try.prog Try.f8.params.toList Rows.storeFromSpec.vars false W args.toList ds gs before) (hk : Rows.uptoSmall H (ds ++ gs) = true) :
    Calls Try.prog F.law15_StoreFrom args W fun e W' => ∃ v, e = .returned v ∧ Rows.storeFromSpec.post enc Try.prog Try.f8 false true false false W args v W' := by
  refine close (s := Rows.storeFromSpec) (fn := Try.f8) (fun H ds h => by match ds, h with | [d0, d1], _ => exact ⟨rfl, rfl, rfl⟩) rfl rfl (by kernel_rfl) H enc W args ds gs before hW ?_
  obtain ⟨p, q, hA, hV, -, -, -⟩ := hW
  obtain ⟨rfl, rfl⟩ := trodVars_none hV
  have hb := small hk
  rw [Try.params8] at hA hval
  obtain ⟨v0, vs0, d0, ds0, p0, q0, hargs0, rfl, rfl, ⟨n0, h0⟩, r0⟩ := trodAll_cons hA
  obtain ⟨v1, vs1, d1, ds1, p1, q1, hargs1, rfl, rfl, ⟨n1, h1⟩, r1⟩ := trodAll_cons r0
  obtain ⟨rfl, rfl, rfl⟩ := trodAll_nil r1
  subst hargs1
  obtain rfl : args = #[v0, v1] := by cases args; simp_all
  obtain ⟨-, y, hy⟩ := rd_quota H enc W _ _ _ _ h0 (hb _ (by simp))
  have hv0 := hval 0 _ v0 rfl rfl
  have hv := arg_struct Try.underlying23 hv0
  rw [hy] at hv
  subst hv
  obtain ⟨-, x, hx, hs, hB⟩ := rd_state H enc W _ _ _ _ h1 (hb _ (by simp))
  have hv1 := hval 1 _ v1 rfl rfl
  have hv' := arg_struct Try.underlying74 hv1
  rw [hx] at hv'
  subst hv'
  exact from15_law y.1 y.2.1 y.2.2 hs hB
set_option maxRecDepth 100000 in
theorem lifted (os : Os) (started : os.Started) (H : Type) (enc : TypeId × Value → H) (F : Stop.Interp) :
    ReturnsInHanded {} Try.checked os 8 .any ((Rows.OpenSpec.upto Rows.storeFromSpec).pre6 enc Try.prog Try.f8 Rows.storeFromUptoRow.domain false) (((Rows.OpenSpec.upto Rows.storeFromSpec).at F).post enc Try.prog Try.f8 false true false false) := by
  refine returnsInHanded_of_cond (C := Try.checked) (s := Rows.OpenSpec.upto Rows.storeFromSpec) (k := Rows.uptoSmall) rfl own started (by kernel_rfl) Try.func8
    (OpenSpec.witness (enc := enc) (C := Try.checked) (s := Rows.OpenSpec.upto Rows.storeFromSpec) (k := Rows.uptoSmall) rfl false ⟨#[], #[.agg #[.int .i64 0, .int .i64 0, .int .i64 0], .agg #[.int .i64 0, .int .i64 0, .slice none 0 0, .slice none 0 0, .slice none 0 0]], []⟩ 12 (by kernel_rfl) (by kernel_rfl) (by kernel_rfl)
      (x := ([.agg [.lit (.int .i64 0), .lit (.int .i64 0), .lit (.int .i64 0)], .agg [.lit (.int .i64 0), .lit (.int .i64 0), .nil, .nil, .nil]], [], [])) (by kernel_rfl) rfl (by kernel_rfl)) ?_
  intro W base args ds gs before hval hW _ hk _
  exact contract H enc W base args ds gs before hval hW hk
theorem over : Rows.storeFromUptoRow.holds Try.pinned (Rows.OpenSpec.upto Rows.storeFromSpec) :=
  OpenClaim.holds_of_cond 8 Try.f8 rfl rfl rfl rfl rfl rfl rfl ⟨rfl, rfl, rfl, rfl, rfl⟩ rfl rfl rfl rfl rfl (by kernel_rfl) Try.func8 (by kernel_rfl)
    (of_decide_eq_true (by kernel_rfl)) (by unfold Func.isWrapper; first | (rw [if_pos (by decide +kernel)]; kernel_rfl) | (rw [if_neg (by decide +kernel)]; exact ⟨rfl, rfl⟩))
    (fun os started H enc _ F => lifted os started H enc F)
theorem proved : Rows.StoreFromUptoSaid :=
  over
end Go.Proofs.Ytlocjjponfbhmaa.storeFrom

