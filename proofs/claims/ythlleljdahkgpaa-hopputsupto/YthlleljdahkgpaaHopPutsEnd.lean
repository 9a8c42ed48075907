/- HopPuts: may any word be, and its bytes, in new memory: for every word of bulk at most 1048576 the law returns true, and the word reads as before. -/
import Derived.Test.YthlleljdahkgpaaReadsHop
import Derived.Test.YthlleljdahkgpaaPutsLaw
namespace Go.Proofs.Ythlleljdahkgpaa.hopPuts
open Go.ChangeShapes Go.WideShapes Go.ChangeAt Go.RowKit Go.Vm Go.Proofs.Ythlleljdahkgpaa.Br
set_option linter.unusedVariables false
set_option maxRecDepth 100000

theorem contract (H : Type) (enc : TypeId × Value → H) (W : World) (base : Nat) (args : Array Value) (ds gs : List (DataW H)) (before : List MemPlace)
    (hval : ∀ (j : Nat) t v, Try.f3.params[j]? = some t → args[j]? = some v → Value.okWide Try.prog W .any base t v)
    (hW : DataW.Whole enc Try.prog Try.f3.params.toList Rows.hopPutsSpec.vars false W args.toList ds gs before) (hk : Rows.uptoSmall H (ds ++ gs) = true) :
    Calls Try.prog F.law20_HopPuts args W fun e W' => ∃ v, e = .returned v ∧ Rows.hopPutsSpec.post enc Try.prog Try.f3 false true false false W args v W' := by
  refine close (s := Rows.hopPutsSpec) (fn := Try.f3) (fun H ds h => by match ds, h with | [d0], _ => exact ⟨rfl, rfl, rfl⟩) rfl rfl (by kernel_rfl) H enc W args ds gs before hW ?_
  obtain ⟨p, q, hA, hV, -, -, -⟩ := hW
  obtain ⟨rfl, rfl⟩ := trodVars_none hV
  have hb := small hk
  rw [Try.params3] at hA hval
  obtain ⟨v0, vs0, d0, ds0, p0, q0, hargs0, rfl, rfl, ⟨n0, h0⟩, r0⟩ := trodAll_cons hA
  obtain ⟨rfl, rfl, rfl⟩ := trodAll_nil r0
  obtain rfl : args = #[v0] := by cases args; simp_all
  obtain ⟨-, w, hw, hwv⟩ := rd_hop H enc W _ _ _ _ h0 (hb _ (by simp))
  have hv0 := hval 0 _ v0 rfl rfl
  rw [← arg_struct Try.underlying29 hv0] at hwv
  subst hwv
  exact puts_ok w (memOf W) hw
set_option maxRecDepth 100000 in
theorem lifted (os : Os) (started : os.Started) (H : Type) (enc : TypeId × Value → H) (F : Stop.Interp) :
    ReturnsInHanded {} Try.checked os 3 .any ((Rows.OpenSpec.upto Rows.hopPutsSpec).pre6 enc Try.prog Try.f3 Rows.hopPutsUptoRow.domain false) (((Rows.OpenSpec.upto Rows.hopPutsSpec).at F).post enc Try.prog Try.f3 false true false false) := by
  refine returnsInHanded_of_cond (C := Try.checked) (s := Rows.OpenSpec.upto Rows.hopPutsSpec) (k := Rows.uptoSmall) rfl own started (by kernel_rfl) Try.func3
    (OpenSpec.witness (enc := enc) (C := Try.checked) (s := Rows.OpenSpec.upto Rows.hopPutsSpec) (k := Rows.uptoSmall) rfl false ⟨#[], #[.agg #[.int .i64 0, .int .i64 0, .int .i64 0, .int .i64 0, .int .i64 0, .int .i64 0, .slice none 0 0, .slice none 0 0]], []⟩ 12 (by kernel_rfl) (by kernel_rfl) (by kernel_rfl)
      (x := ([.agg [.lit (.int .i64 0), .lit (.int .i64 0), .agg [.agg [.lit (.int .i64 0), .lit (.int .i64 0), .lit (.int .i64 0), .lit (.int .i64 0)], .nil], .nil]], [], [])) (by kernel_rfl) rfl (by kernel_rfl)) ?_
  intro W base args ds gs before hval hW _ hk _
  exact contract H enc W base args ds gs before hval hW hk
theorem over : Rows.hopPutsUptoRow.holds Try.pinned (Rows.OpenSpec.upto Rows.hopPutsSpec) :=
  OpenClaim.holds_of_cond 3 Try.f3 rfl rfl rfl rfl rfl rfl rfl ⟨rfl, rfl, rfl, rfl, rfl⟩ rfl rfl rfl rfl rfl (by kernel_rfl) Try.func3 (by kernel_rfl)
    (of_decide_eq_true (by kernel_rfl)) (by unfold Func.isWrapper; first | (rw [if_pos (by decide +kernel)]; kernel_rfl) | (rw [if_neg (by decide +kernel)]; exact ⟨rfl, rfl⟩))
    (fun os started H enc _ F => lifted os started H enc F)
theorem proved : Rows.HopPutsUptoSaid :=
  over
end Go.Proofs.Ythlleljdahkgpaa.hopPuts
