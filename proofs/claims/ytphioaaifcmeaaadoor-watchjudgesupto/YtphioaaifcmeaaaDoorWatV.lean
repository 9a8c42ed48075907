/- WatchTexts, WatchJudges: as contracts. -/
import Derived.Test.YtphioaaifcmeaaaDoorWatS
namespace Go.Proofs.YtphioaaifcmeaaaDoor
open Go Go.Vm
attribute [local irreducible] Brn Ob Grow CallsM inR LoopVC LoopVC0 Mem.row Mem.cells Mem.setCells Mem.upd Go.Vm.Own AppVC SrcVC StrVC NextVC New SrcOk subA NewSl Mem.textAt Mem.mapAt Mem.iterAt entryOf kfind Wr NewEls Elems
set_option maxRecDepth 10000
variable {M M0 : Mem}
set_option maxRecDepth 20000 in
theorem texts_law (hT : TabM Tryd.prog M) {k at' a b c d : Int} (hat : -9223372036854775808 ≤ at' ∧ at' ≤ 9223372036854775807) : CallsM Tryd.prog F.law24_WatchTexts [findV k at' a b c d] M fun v M' => v = .bool true ∧ M.le M' := by
  refine fo_law24_WatchTexts (by simp) ?_
  repeat' ((conv => whnf); first | refine ⟨?_, True.intro⟩ | refine brn_t rfl ?_ | refine brn_f rfl ?_ | refine ob rfl ?_ | refine ob (by decide) ?_ | refine grow_same (Mem.le_refl _) ?_ | refine ob (Mem.le_refl _) ?_ | refine ⟨_, Mem.le_refl _, ?_⟩ | fail)
  refine (ftext_ok hT hat).mono ?_
  rintro v _ ⟨rfl, rfl⟩
  repeat' ((conv => whnf); first | refine ⟨?_, True.intro⟩ | refine brn_t rfl ?_ | refine brn_f rfl ?_ | refine ob rfl ?_ | refine ob (by decide) ?_ | refine grow_same (Mem.le_refl _) ?_ | refine ob (Mem.le_refl _) ?_ | refine ⟨_, Mem.le_refl _, ?_⟩ | fail)
  refine (ftextR_ok hat).mono ?_
  rintro v M1 ⟨rfl, hle1⟩
  (conv => whnf); refine brn_t (by simp) ?_
  repeat' ((conv => whnf); first | refine ⟨?_, True.intro⟩ | refine brn_t rfl ?_ | refine brn_f rfl ?_ | refine ob rfl ?_ | refine ob (by decide) ?_ | refine grow_same (Mem.le_refl _) ?_ | refine ob (Mem.le_refl _) ?_ | refine ⟨_, Mem.le_refl _, ?_⟩ | fail)
  refine (awake_ok (hT.le hle1)).mono ?_
  rintro v M2 ⟨rfl, hle2⟩
  repeat' ((conv => whnf); first | refine ⟨?_, True.intro⟩ | refine brn_t rfl ?_ | refine brn_f rfl ?_ | refine ob rfl ?_ | refine ob (by decide) ?_ | refine grow_same (Mem.le_refl _) ?_ | refine ob (Mem.le_refl _) ?_ | refine ⟨_, Mem.le_refl _, ?_⟩ | fail)
  exact ⟨rfl, Mem.le_trans hle1 hle2⟩
theorem judges_law (hT : TabM Tryd.prog M) {sa : Option Addr} {sn sc : Nat} {steps : List StR} (hs : Elems M 5 sa sn (StL M) steps) (hsn : sn ≤ 1048576) (hsc : sn ≤ sc) {a : Option Addr} {n c : Nat} {l : List TdR} (hl : Elems M 9 a n (TdL M) l) (hn : n ≤ 1048576) (hc : n ≤ c) :
    CallsM Tryd.prog F.law24_WatchJudges [.slice sa sn sc, .slice a n c] M fun v M' => v = .bool true ∧ M.le M' := by
  refine fo_law24_WatchJudges (by simp) ?_
  (conv => whnf); refine brn (fun e => ?_) (fun e => ?_)
  · skip
    repeat' ((conv => whnf); first | refine ⟨?_, True.intro⟩ | refine brn_t rfl ?_ | refine brn_f rfl ?_ | refine ob rfl ?_ | refine ob (by decide) ?_ | refine grow_same (Mem.le_refl _) ?_ | refine ob (Mem.le_refl _) ?_ | refine ⟨_, Mem.le_refl _, ?_⟩ | fail)
    refine (awake_ok hT).mono ?_
    rintro v M2 ⟨rfl, hle2⟩
    repeat' ((conv => whnf); first | refine ⟨?_, True.intro⟩ | refine brn_t rfl ?_ | refine brn_f rfl ?_ | refine ob rfl ?_ | refine ob (by decide) ?_ | refine grow_same (Mem.le_refl _) ?_ | refine ob (Mem.le_refl _) ?_ | refine ⟨_, Mem.le_refl _, ?_⟩ | fail)
    exact ⟨rfl, hle2⟩
  have e1 : ¬ (60 : Int) < n := of_decide_eq_false e
  clear e
  (conv => whnf); refine brn (fun e => ?_) (fun e => ?_)
  · skip
    repeat' ((conv => whnf); first | refine ⟨?_, True.intro⟩ | refine brn_t rfl ?_ | refine brn_f rfl ?_ | refine ob rfl ?_ | refine ob (by decide) ?_ | refine grow_same (Mem.le_refl _) ?_ | refine ob (Mem.le_refl _) ?_ | refine ⟨_, Mem.le_refl _, ?_⟩ | fail)
    refine (awake_ok hT).mono ?_
    rintro v M2 ⟨rfl, hle2⟩
    repeat' ((conv => whnf); first | refine ⟨?_, True.intro⟩ | refine brn_t rfl ?_ | refine brn_f rfl ?_ | refine ob rfl ?_ | refine ob (by decide) ?_ | refine grow_same (Mem.le_refl _) ?_ | refine ob (Mem.le_refl _) ?_ | refine ⟨_, Mem.le_refl _, ?_⟩ | fail)
    exact ⟨rfl, hle2⟩
  repeat' ((conv => whnf); first | refine ⟨?_, True.intro⟩ | refine brn_t rfl ?_ | refine brn_f rfl ?_ | refine ob rfl ?_ | refine ob (by decide) ?_ | refine grow_same (Mem.le_refl _) ?_ | refine ob (Mem.le_refl _) ?_ | refine ⟨_, Mem.le_refl _, ?_⟩ | fail)
  refine (judge_ok hl (by omega) hc hs hsn hsc).mono ?_
  rintro v M1 ⟨a1, c1, rfl, hN1⟩
  have hle1 := hN1.le
  have hjl := judP_len steps l n
  repeat' ((conv => whnf); first | refine ⟨?_, True.intro⟩ | refine brn_t rfl ?_ | refine brn_f rfl ?_ | refine ob rfl ?_ | refine ob (by decide) ?_ | refine grow_same (Mem.le_refl _) ?_ | refine ob (Mem.le_refl _) ?_ | refine ⟨_, Mem.le_refl _, ?_⟩ | fail)
  refine (judgeR_ok (hl.imp hle1 fun _ _ _ hx => hx.le hle1) (by omega) (hs.imp hle1 fun _ _ _ hx => hx.le hle1) hsn).mono ?_
  rintro v M2 ⟨a2, m2, c2, rfl, hN2⟩
  have hm := hN2.len
  have hle2 := hN2.le
  subst hm
  repeat' ((conv => whnf); first | refine ⟨?_, True.intro⟩ | refine brn_t rfl ?_ | refine brn_f rfl ?_ | refine ob rfl ?_ | refine ob (by decide) ?_ | refine grow_same (Mem.le_refl _) ?_ | refine ob (Mem.le_refl _) ?_ | refine ⟨_, Mem.le_refl _, ?_⟩ | fail)
  refine (sameF_ok (hN1.elems.imp hle2 fun _ _ _ hx => hx) hN2.elems (by omega)).mono ?_
  rintro v _ ⟨rfl, rfl⟩
  repeat' ((conv => whnf); first | refine ⟨?_, True.intro⟩ | refine brn_t rfl ?_ | refine brn_f rfl ?_ | refine ob rfl ?_ | refine ob (by decide) ?_ | refine grow_same (Mem.le_refl _) ?_ | refine ob (Mem.le_refl _) ?_ | refine ⟨_, Mem.le_refl _, ?_⟩ | fail)
  refine right_ok.mono ?_
  rintro v _ ⟨rfl, rfl⟩
  (conv => whnf); refine brn_t (beq_self_eq_true _) ?_
  repeat' ((conv => whnf); first | refine ⟨?_, True.intro⟩ | refine brn_t rfl ?_ | refine brn_f rfl ?_ | refine ob rfl ?_ | refine ob (by decide) ?_ | refine grow_same (Mem.le_refl _) ?_ | refine ob (Mem.le_refl _) ?_ | refine ⟨_, Mem.le_refl _, ?_⟩ | fail)
  refine (awake_ok ((hT.le hle1).le hle2)).mono ?_
  rintro v M3 ⟨rfl, hle3⟩
  repeat' ((conv => whnf); first | refine ⟨?_, True.intro⟩ | refine brn_t rfl ?_ | refine brn_f rfl ?_ | refine ob rfl ?_ | refine ob (by decide) ?_ | refine grow_same (Mem.le_refl _) ?_ | refine ob (Mem.le_refl _) ?_ | refine ⟨_, Mem.le_refl _, ?_⟩ | fail)
  exact ⟨rfl, Mem.le_trans hle1 (Mem.le_trans hle2 hle3)⟩
end Go.Proofs.YtphioaaifcmeaaaDoor
