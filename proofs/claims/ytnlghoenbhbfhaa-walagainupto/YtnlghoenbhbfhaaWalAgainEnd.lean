/- WalAgain: opened again, the log tells the same, and changes nothing: for every call of bulk at most 1048576 the law returns true, and the call reads as before. -/
import Derived.Test.YtnlghoenbhbfhaaJoin28
import Derived.Test.YtnlghoenbhbfhaaWalY
namespace Go.Proofs.Ytnlghoenbhbfhaa.walAgain
open Go.ChangeShapes Go.WideShapes Go.ChangeAt Go.RowKit Go.Vm Go.Proofs.Ytnlghoenbhbfhaa.Br
set_option linter.unusedVariables false
set_option maxRecDepth 100000

theorem contract (H : Type) (enc : TypeId × Value → H) (W : World) (base : Nat) (args : Array Value) (ds gs : List (DataW H)) (before : List MemPlace)
    (hval : ∀ (j : Nat) t v, Try.f5.params[j]? = some t → args[j]? = some v → Value.okWide Try.prog W .any base t v)
    (hW : DataW.Whole enc Try.prog Try.f5.params.toList Rows.walAgainSpec.vars false W args.toList ds gs before) (hk : Rows.uptoSmall H (ds ++ gs) = true) :
    Calls Try.prog F.law12_WalAgain args W fun e W' => ∃ v, e = .returned v ∧ Rows.walAgainSpec.post enc Try.prog Try.f5 false true false false W args v W' := by
  refine close (s := Rows.walAgainSpec) (fn := Try.f5) (fun H ds h => by match ds, h with | [d0, d1, d2], _ => exact ⟨rfl, rfl, rfl⟩) rfl rfl (by kernel_rfl) H enc W args ds gs before hW ?_
  obtain ⟨p, q, hA, hV, -, -, -⟩ := hW
  obtain ⟨rfl, rfl⟩ := trodVars_none hV
  have hb := small hk
  rw [Try.params5] at hA hval
  obtain ⟨v0, vs0, d0, ds0, p0, q0, hargs0, rfl, rfl, ⟨n0, h0⟩, r0⟩ := trodAll_cons hA
  obtain ⟨v1, vs1, d1, ds1, p1, q1, hargs1, rfl, rfl, ⟨n1, h1⟩, r1⟩ := trodAll_cons r0
  obtain ⟨v2, vs2, d2, ds2, p2, q2, hargs2, rfl, rfl, ⟨n2, h2⟩, r2⟩ := trodAll_cons r1
  obtain ⟨rfl, rfl, rfl⟩ := trodAll_nil r2
  subst hargs2
  subst hargs1
  obtain rfl : args = #[v0, v1, v2] := by cases args; simp_all
  obtain ⟨-, size, hg, hgk⟩ := rd_int H enc W _ _ _ _ h0 (hb _ (by simp))
  have hv0 := hval 0 _ v0 rfl rfl
  obtain rfl := arg_cell (t := T.int) (d := .int .i64) (by kernel_rfl) rfl hv0 hg
  obtain ⟨-, L, a, n, c, hcs, hs, hn, hc⟩ := rd_acts H enc W _ _ _ _ h1 (hb _ (by simp))
  have hv1 := hval 1 _ v1 rfl rfl
  obtain rfl := arg_cell Try.underlying25 rfl hv1 hcs
  obtain ⟨-, K, ka, kn, kc, hkcs, hks, hkn, hkc⟩ := rd_ints H enc W _ _ _ _ h2 (hb _ (by simp))
  have hv2 := hval 2 _ v2 rfl rfl
  obtain rfl := arg_cell Try.underlying26 rfl hv2 hkcs
  exact again_law size hs hn hks hkn
set_option maxRecDepth 100000 in
theorem lifted (os : Os) (started : os.Started) (H : Type) (enc : TypeId × Value → H) (F : Stop.Interp) :
    ReturnsInHanded {} Try.checked os 5 .any ((Rows.OpenSpec.upto Rows.walAgainSpec).pre6 enc Try.prog Try.f5 Rows.walAgainUptoRow.domain false) (((Rows.OpenSpec.upto Rows.walAgainSpec).at F).post enc Try.prog Try.f5 false true false false) := by
  refine returnsInHanded_of_cond (C := Try.checked) (s := Rows.OpenSpec.upto Rows.walAgainSpec) (k := Rows.uptoSmall) rfl own started (by kernel_rfl) Try.func5
    (OpenSpec.witness (enc := enc) (C := Try.checked) (s := Rows.OpenSpec.upto Rows.walAgainSpec) (k := Rows.uptoSmall) rfl false ⟨#[], #[.int .i64 0, .slice none 0 0, .slice none 0 0], []⟩ 12 (by kernel_rfl) (by kernel_rfl) (by kernel_rfl)
      (x := ([.lit (.int .i64 0), .nil, .nil], [], [])) (by kernel_rfl) rfl (by kernel_rfl)) ?_
  intro W base args ds gs before hval hW _ hk _
  exact contract H enc W base args ds gs before hval hW hk
theorem over : Rows.walAgainUptoRow.holds Try.pinned (Rows.OpenSpec.upto Rows.walAgainSpec) :=
  OpenClaim.holds_of_cond 5 Try.f5 rfl rfl rfl rfl rfl rfl rfl ⟨rfl, rfl, rfl, rfl, rfl⟩ rfl rfl rfl rfl rfl (by kernel_rfl) Try.func5 (by kernel_rfl)
    (of_decide_eq_true (by kernel_rfl)) (by unfold Func.isWrapper; first | (rw [if_pos (by decide +kernel)]; kernel_rfl) | (rw [if_neg (by decide +kernel)]; exact ⟨rfl, rfl⟩))
    (fun os started H enc _ F => lifted os started H enc F)
theorem proved : Rows.WalAgainUptoSaid :=
  over
end Go.Proofs.Ytnlghoenbhbfhaa.walAgain

