/- The document's set: may an id be added, and adding it. -/
import Derived.Test.YtmifjilknojkaaaSeenV
namespace Go.Proofs.Ytmifjilknojkaaa
open Go Go.Vm
attribute [local irreducible] Brn Ob Grow CallsM inR LoopVC Mem.row Mem.cells Mem.setCells Mem.upd Own AppVC SrcVC StrVC NextVC New SrcOk subA NewSl Mem.textAt Mem.mapAt Mem.iterAt entryOf kfind Wr NewEls Elems
set_option maxRecDepth 10000
variable {M : Mem} {a : Option Addr} {n c : Nat} {L : List K}
theorem mayR_ok (hs : SrcOk M 3 a n (L.flatMap encK)) (hn : n ≤ 4194000) (room o d e x : Int) : CallsM Try.prog F.ref14_May [refV room a n c, idV o d e x] M fun v M' => v = .int .i64 (mayK room L o d e x) ∧ M.le M' := by
  refine fo_ref14_May (by simp) ?_
  (conv => whnf); refine (checkR_ok o d e x M).mono ?_
  rintro v _ ⟨rfl, rfl⟩
  (conv => whnf); refine brn (fun g => ?_) (fun g => ?_)
  · have h0 : ¬ idErr o d e x = 0 := by simpa using g
    (conv => whnf); refine (checkR_ok o d e x M).mono ?_
    rintro v _ ⟨rfl, rfl⟩
    repeat' ((conv => whnf); first | refine ⟨?_, True.intro⟩ | refine brn_t rfl ?_ | refine brn_f rfl ?_ | refine ob rfl ?_ | refine ob (by decide) ?_ | refine grow_same (Mem.le_refl _) ?_ | refine ob (Mem.le_refl _) ?_ | refine ⟨_, Mem.le_refl _, ?_⟩ | fail)
    exact ⟨by simp [mayK, h0], Mem.le_refl _⟩
  have h0 : idErr o d e x = 0 := by simpa using g
  (conv => whnf); refine (hasR_ok hs hn room o d e x).mono ?_
  rintro v _ ⟨rfl, rfl⟩
  (conv => whnf); refine brn (fun g1 => ?_) (fun g1 => ?_)
  · have h1 : hasK L o d e x = true := g1
    repeat' ((conv => whnf); first | refine ⟨?_, True.intro⟩ | refine brn_t rfl ?_ | refine brn_f rfl ?_ | refine ob rfl ?_ | refine ob (by decide) ?_ | refine grow_same (Mem.le_refl _) ?_ | refine ob (Mem.le_refl _) ?_ | refine ⟨_, Mem.le_refl _, ?_⟩ | fail)
    exact ⟨by simp [mayK, h0, h1], Mem.le_refl _⟩
  have h1 : hasK L o d e x = false := g1
  repeat' ((conv => whnf); first | refine ⟨?_, True.intro⟩ | refine brn_t rfl ?_ | refine brn_f rfl ?_ | refine ob rfl ?_ | refine ob (by decide) ?_ | refine grow_same (Mem.le_refl _) ?_ | refine ob (Mem.le_refl _) ?_ | refine ⟨_, Mem.le_refl _, ?_⟩ | fail)
  refine (nextR_ok hs hn room o d e x).mono ?_
  rintro v M1 ⟨rfl, hle1⟩
  repeat' ((conv => whnf); first | refine ob rfl ?_ | refine grow_same hle1 ?_ | refine ob hle1 ?_ | refine ⟨?_, True.intro⟩ | fail)
  refine brn (fun g2 => ?_) (fun g2 => ?_)
  · have h2 : ¬ x = nextK L o e := by simpa using g2
    repeat' ((conv => whnf); first | refine ob rfl ?_ | refine grow_same hle1 ?_ | refine ob hle1 ?_ | refine ⟨?_, True.intro⟩ | fail)
    refine (gapsR_ok (hs.le hle1) hn room).mono ?_
    rintro v M2 ⟨rfl, hle2⟩
    repeat' ((conv => whnf); first | refine ob rfl ?_ | refine grow_same (Mem.le_trans hle1 hle2) ?_ | refine ob (Mem.le_trans hle1 hle2) ?_ | refine ⟨?_, True.intro⟩ | fail)
    refine brn (fun g3 => ?_) (fun g3 => ?_)
    · have h3 : room ≤ gapsK L := of_decide_eq_true g3
      repeat' ((conv => whnf); first | refine ⟨?_, True.intro⟩ | refine brn_t rfl ?_ | refine brn_f rfl ?_ | refine ob rfl ?_ | refine ob (by decide) ?_ | refine grow_same (Mem.le_refl _) ?_ | refine ob (Mem.le_refl _) ?_ | refine ⟨_, Mem.le_refl _, ?_⟩ | fail)
      exact ⟨by simp [mayK, h0, h1, h2, h3], Mem.le_trans hle1 hle2⟩
    · have h3 : ¬ room ≤ gapsK L := of_decide_eq_false g3
      repeat' ((conv => whnf); first | refine ⟨?_, True.intro⟩ | refine brn_t rfl ?_ | refine brn_f rfl ?_ | refine ob rfl ?_ | refine ob (by decide) ?_ | refine grow_same (Mem.le_refl _) ?_ | refine ob (Mem.le_refl _) ?_ | refine ⟨_, Mem.le_refl _, ?_⟩ | fail)
      exact ⟨by simp [mayK, h0, h1, h3], Mem.le_trans hle1 hle2⟩
  · have h2 : x = nextK L o e := by simpa using g2
    repeat' ((conv => whnf); first | refine ob rfl ?_ | refine grow_same hle1 ?_ | refine ob hle1 ?_ | refine ⟨?_, True.intro⟩ | fail)
    (conv => whnf)
    have : mayK room L o d e x = 0 := by
      unfold mayK
      rw [if_neg (fun h => h h0), h1, if_neg (by simp), if_neg (fun h => h.1 h2)]
    exact ⟨by rw [this], hle1⟩
theorem addR_ok (hs : SrcOk M 3 a n (L.flatMap encK)) (hn : n ≤ 4194000) (room o d e x : Int) : CallsM Try.prog F.ref14_Add [refV room a n c, idV o d e x] M fun v M' =>
    (mayK room L o d e x ≠ 0 ∧ v = .tuple #[refV room a n c, .int .i64 (mayK room L o d e x)] ∧ M.le M') ∨
    (mayK room L o d e x = 0 ∧ ∃ a' c', v = .tuple #[refV room a' (n + 1) c', .int .i64 0] ∧ NewSl M T.portageref14_Key 3 a' (n + 1) c' ((putK ⟨o, e, x⟩ L).flatMap encK) M') := by
  refine fo_ref14_Add (by simp) ?_
  (conv => whnf); refine (mayR_ok hs hn room o d e x).mono ?_
  rintro v M1 ⟨rfl, hle1⟩
  (conv => whnf); refine brn (fun g => ?_) (fun g => ?_)
  · have h0 : ¬ mayK room L o d e x = 0 := by simpa using g
    repeat' ((conv => whnf); first | refine ⟨?_, True.intro⟩ | refine brn_t rfl ?_ | refine brn_f rfl ?_ | refine ob rfl ?_ | refine ob (by decide) ?_ | refine grow_same (Mem.le_refl _) ?_ | refine ob (Mem.le_refl _) ?_ | refine ⟨_, Mem.le_refl _, ?_⟩ | fail)
    refine (mayR_ok (hs.le hle1) hn room o d e x).mono ?_
    rintro v M2 ⟨rfl, hle2⟩
    repeat' ((conv => whnf); first | refine ob rfl ?_ | refine grow_same hle2 ?_ | refine ob hle2 ?_ | refine ⟨?_, True.intro⟩ | fail)
    (conv => whnf)
    exact .inl ⟨h0, rfl, Mem.le_trans hle1 hle2⟩
  have h0 : mayK room L o d e x = 0 := by simpa using g
  repeat' ((conv => whnf); first | refine ⟨?_, True.intro⟩ | refine brn_t rfl ?_ | refine brn_f rfl ?_ | refine ob rfl ?_ | refine ob (by decide) ?_ | refine grow_same (Mem.le_refl _) ?_ | refine ob (Mem.le_refl _) ?_ | refine ⟨_, Mem.le_refl _, ?_⟩ | fail)
  refine (putR_ok (hs.le hle1) hn ⟨o, e, x⟩).mono ?_
  rintro v M2 ⟨a', c', rfl, hN⟩
  repeat' ((conv => whnf); first | refine ob rfl ?_ | refine grow_same hN.le ?_ | refine ob hN.le ?_ | refine ⟨?_, True.intro⟩ | fail)
  (conv => whnf)
  exact .inr ⟨h0, a', c', rfl, hN.mono hle1⟩
theorem newR_ok (g : Int) : CallsM Try.prog F.ref14_New [.int .i64 g] M fun v M' =>
    ((g < 0 ∨ 256 < g) ∧ v = .tuple #[refV 0 none 0 0, .int .i64 1] ∧ M = M') ∨ (¬ (g < 0 ∨ 256 < g) ∧ v = .tuple #[refV g none 0 0, .int .i64 0] ∧ M = M') := by
  refine fo_ref14_New (by simp) ?_
  (conv => whnf); refine brn (fun h => ?_) (fun h => ?_)
  · repeat' ((conv => whnf); first | refine ⟨?_, True.intro⟩ | refine brn_t rfl ?_ | refine brn_f rfl ?_ | refine ob rfl ?_ | refine ob (by decide) ?_ | refine grow_same (Mem.le_refl _) ?_ | refine ob (Mem.le_refl _) ?_ | refine ⟨_, Mem.le_refl _, ?_⟩ | fail)
    exact .inl ⟨.inl (of_decide_eq_true h), rfl, rfl⟩
  · (conv => whnf); refine brn (fun h1 => ?_) (fun h1 => ?_)
    · repeat' ((conv => whnf); first | refine ⟨?_, True.intro⟩ | refine brn_t rfl ?_ | refine brn_f rfl ?_ | refine ob rfl ?_ | refine ob (by decide) ?_ | refine grow_same (Mem.le_refl _) ?_ | refine ob (Mem.le_refl _) ?_ | refine ⟨_, Mem.le_refl _, ?_⟩ | fail)
      exact .inl ⟨.inr (of_decide_eq_true h1), rfl, rfl⟩
    · repeat' ((conv => whnf); first | refine ⟨?_, True.intro⟩ | refine brn_t rfl ?_ | refine brn_f rfl ?_ | refine ob rfl ?_ | refine ob (by decide) ?_ | refine grow_same (Mem.le_refl _) ?_ | refine ob (Mem.le_refl _) ?_ | refine ⟨_, Mem.le_refl _, ?_⟩ | fail)
      exact .inr ⟨by have := of_decide_eq_false h; have := of_decide_eq_false h1; omega, rfl, rfl⟩
end Go.Proofs.Ytmifjilknojkaaa
