/- HopGets: the word of any bytes, in new memory: for every bytes of bulk at most 1048576 the law returns true, and the bytes read as before. -/
import Derived.Test.YthlleljdahkgpaaReadsHop
import Derived.Test.YthlleljdahkgpaaGetLaws
namespace Go.Proofs.Ythlleljdahkgpaa.hopGets
open Go.ChangeShapes Go.WideShapes Go.ChangeAt Go.RowKit Go.Vm Go.Proofs.Ythlleljdahkgpaa.Br
set_option linter.unusedVariables false
set_option maxRecDepth 100000

theorem contract (H : Type) (enc : TypeId × Value → H) (W : World) (base : Nat) (args : Array Value) (ds gs : List (DataW H)) (before : List MemPlace)
    (hval : ∀ (j : Nat) t v, Try.f5.params[j]? = some t → args[j]? = some v → Value.okWide Try.prog W .any base t v)
    (hW : DataW.Whole enc Try.prog Try.f5.params.toList Rows.hopGetsSpec.vars false W args.toList ds gs before) (hk : Rows.uptoSmall H (ds ++ gs) = true) :
    Calls Try.prog F.law20_HopGets args W fun e W' => ∃ v, e = .returned v ∧ Rows.hopGetsSpec.post enc Try.prog Try.f5 false true false false W args v W' := by
  refine close (s := Rows.hopGetsSpec) (fn := Try.f5) (fun H ds h => by match ds, h with | [d0], _ => exact ⟨rfl, rfl, rfl⟩) rfl rfl (by kernel_rfl) H enc W args ds gs before hW ?_
  obtain ⟨p, q, hA, hV, -, -, -⟩ := hW
  obtain ⟨rfl, rfl⟩ := trodVars_none hV
  have hb := small hk
  rw [Try.params5] at hA hval
  obtain ⟨v0, vs0, d0, ds0, p0, q0, hargs0, rfl, rfl, ⟨n0, h0⟩, r0⟩ := trodAll_cons hA
  obtain ⟨rfl, rfl, rfl⟩ := trodAll_nil r0
  obtain rfl : args = #[v0] := by cases args; simp_all
  obtain ⟨-, l, a, n, c, hcs, hs, hn, hc⟩ := rd_bytes H enc W _ _ _ _ h0 (hb _ (by simp))
  have hv0 := hval 0 _ v0 rfl rfl
  obtain rfl := arg_cell Try.underlying24 rfl hv0 hcs
  exact gets_ok (memOf W) a n c l hs (by omega) hc
set_option maxRecDepth 100000 in
theorem lifted (os : Os) (started : os.Started) (H : Type) (enc : TypeId × Value → H) (F : Stop.Interp) :
    ReturnsInHanded {} Try.checked os 5 .any ((Rows.OpenSpec.upto Rows.hopGetsSpec).pre6 enc Try.prog Try.f5 Rows.hopGetsUptoRow.domain false) (((Rows.OpenSpec.upto Rows.hopGetsSpec).at F).post enc Try.prog Try.f5 false true false false) := by
  refine returnsInHanded_of_cond (C := Try.checked) (s := Rows.OpenSpec.upto Rows.hopGetsSpec) (k := Rows.uptoSmall) rfl own started (by kernel_rfl) Try.func5
    (OpenSpec.witness (enc := enc) (C := Try.checked) (s := Rows.OpenSpec.upto Rows.hopGetsSpec) (k := Rows.uptoSmall) rfl false ⟨#[], #[.slice none 0 0], []⟩ 12 (by kernel_rfl) (by kernel_rfl) (by kernel_rfl)
      (x := ([.nil], [], [])) (by kernel_rfl) rfl (by kernel_rfl)) ?_
  intro W base args ds gs before hval hW _ hk _
  exact contract H enc W base args ds gs before hval hW hk
theorem over : Rows.hopGetsUptoRow.holds Try.pinned (Rows.OpenSpec.upto Rows.hopGetsSpec) :=
  OpenClaim.holds_of_cond 5 Try.f5 rfl rfl rfl rfl rfl rfl rfl ⟨rfl, rfl, rfl, rfl, rfl⟩ rfl rfl rfl rfl rfl (by kernel_rfl) Try.func5 (by kernel_rfl)
    (of_decide_eq_true (by kernel_rfl)) (by unfold Func.isWrapper; first | (rw [if_pos (by decide +kernel)]; kernel_rfl) | (rw [if_neg (by decide +kernel)]; exact ⟨rfl, rfl⟩))
    (fun os started H enc _ F => lifted os started H enc F)
theorem proved : Rows.HopGetsUptoSaid :=
  over
end Go.Proofs.Ythlleljdahkgpaa.hopGets
