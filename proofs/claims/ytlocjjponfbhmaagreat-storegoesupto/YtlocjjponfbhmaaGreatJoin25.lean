/- The document's store: May. -/
import Derived.Test.YtlocjjponfbhmaaGreatJoin24
namespace Go.Proofs.YtlocjjponfbhmaaGreat
open Go Go.Vm
attribute [local irreducible] Brn Ob Grow CallsM inR LoopVC Mem.row Mem.cells Mem.setCells Mem.upd Own AppVC SrcVC StrVC NextVC New SrcOk subA NewSl Mem.textAt Mem.mapAt Mem.iterAt entryOf kfind Wr NewEls Elems
set_option maxRecDepth 10000
variable {M : Mem} {S : StR} {L : List K} {D : DocV} {ms : List MX}
@[reducible] def setMayK (S : StR) (L : List K) (i : IdT) : Int := mayK S.qg L i.o i.d i.e i.c
theorem may15R_ok (h : DocAt M S L D ms) (hI : InvS S) (k : Int) (i : IdT) (a : Option Addr) (n c : Nat) (hn : n ≤ 1048576) :
    CallsM Tryz.prog F.ref15_May [docV S D, evV k i a n c] M fun v M' => v = .int .i64 (mayD S (setMayK S L) k i n) ∧ M.le M' := by
  refine fo_ref15_May (by simp) ?_
  have hl := h.row.len
  have hln := h.ln
  have hqb := hI.qb
  have hqh := hI.qh
  have hms := h.msgs
  repeat' ((conv => whnf); first | refine ⟨?_, True.intro⟩ | refine brn_t rfl ?_ | refine brn_f rfl ?_ | refine ob rfl ?_ | refine ob (by decide) ?_ | refine grow_same (Mem.le_refl _) ?_ | refine ob (Mem.le_refl _) ?_ | refine ⟨_, Mem.le_refl _, ?_⟩ | fail)
  refine (formR_ok k i a n c).mono ?_
  rintro v _ ⟨rfl, rfl⟩
  (conv => whnf); refine brn (fun g => ?_) (fun g => ?_)
  · have g1 : ¬ formD k i n = 0 := by simpa using g
    repeat' ((conv => whnf); first | refine ⟨?_, True.intro⟩ | refine brn_t rfl ?_ | refine brn_f rfl ?_ | refine ob rfl ?_ | refine ob (by decide) ?_ | refine grow_same (Mem.le_refl _) ?_ | refine ob (Mem.le_refl _) ?_ | refine ⟨_, Mem.le_refl _, ?_⟩ | fail)
    refine (formR_ok k i a n c).mono ?_
    rintro v _ ⟨rfl, rfl⟩
    repeat' ((conv => whnf); first | refine ⟨?_, True.intro⟩ | refine brn_t rfl ?_ | refine brn_f rfl ?_ | refine ob rfl ?_ | refine ob (by decide) ?_ | refine grow_same (Mem.le_refl _) ?_ | refine ob (Mem.le_refl _) ?_ | refine ⟨_, Mem.le_refl _, ?_⟩ | fail)
    exact ⟨by unfold mayD; rw [if_pos g1], Mem.le_refl _⟩
  have g1 : formD k i n = 0 := by simpa using g
  have hk : k = 1 ∨ k = 2 ∨ k = 3 ∨ k = 4 := by
    unfold formD at g1
    repeat' split at g1
    all_goals omega
  rcases hk with rfl | rfl | rfl | rfl
  · repeat' ((conv => whnf); first | refine ⟨?_, True.intro⟩ | refine brn_t rfl ?_ | refine brn_f rfl ?_ | refine ob rfl ?_ | refine ob (by decide) ?_ | refine grow_same (Mem.le_refl _) ?_ | refine ob (Mem.le_refl _) ?_ | refine ⟨_, Mem.le_refl _, ?_⟩ | fail)
    refine brn (fun g2 => ?_) (fun g2 => ?_)
    · have g3 : S.epoch = 65535 := by have := of_decide_eq_true g2; have := hI.epoch; omega
      repeat' ((conv => whnf); first | refine ⟨?_, True.intro⟩ | refine brn_t rfl ?_ | refine brn_f rfl ?_ | refine ob rfl ?_ | refine ob (by decide) ?_ | refine grow_same (Mem.le_refl _) ?_ | refine ob (Mem.le_refl _) ?_ | refine ⟨_, Mem.le_refl _, ?_⟩ | fail)
      exact ⟨by unfold mayD; rw [if_neg (by simp [g1]), if_pos rfl, if_pos g3], Mem.le_refl _⟩
    · have g3 : ¬ S.epoch = 65535 := by have := of_decide_eq_false g2; omega
      repeat' ((conv => whnf); first | refine ⟨?_, True.intro⟩ | refine brn_t rfl ?_ | refine brn_f rfl ?_ | refine ob rfl ?_ | refine ob (by decide) ?_ | refine grow_same (Mem.le_refl _) ?_ | refine ob (Mem.le_refl _) ?_ | refine ⟨_, Mem.le_refl _, ?_⟩ | fail)
      exact ⟨by unfold mayD; rw [if_neg (by simp [g1]), if_pos rfl, if_neg g3], Mem.le_refl _⟩
  · skip
    repeat' ((conv => whnf); first | refine ⟨?_, True.intro⟩ | refine brn_t rfl ?_ | refine brn_f rfl ?_ | refine ob rfl ?_ | refine ob (by decide) ?_ | refine grow_same (Mem.le_refl _) ?_ | refine ob (Mem.le_refl _) ?_ | refine ⟨_, Mem.le_refl _, ?_⟩ | fail)
    refine brn (fun a1 => ?_) (fun a1 => ?_)
    · have a2 : i.d = S.self := of_decide_eq_true a1
      repeat' ((conv => whnf); first | refine ⟨?_, True.intro⟩ | refine brn_t rfl ?_ | refine brn_f rfl ?_ | refine ob rfl ?_ | refine ob (by decide) ?_ | refine grow_same (Mem.le_refl _) ?_ | refine ob (Mem.le_refl _) ?_ | refine ⟨_, Mem.le_refl _, ?_⟩ | fail)
      exact ⟨by unfold mayD; rw [if_neg (by simp [g1]), if_neg (by decide), if_pos rfl, if_pos (.inl a2)], Mem.le_refl _⟩
    have a2 : ¬ i.d = S.self := of_decide_eq_false a1
    (conv => whnf); refine brn (fun a3 => ?_) (fun a3 => ?_)
    · have a4 : i.o = S.self := of_decide_eq_true a3
      (conv => whnf); refine brn (fun a5 => ?_) (fun a5 => ?_)
      · have a6 : S.epoch < i.e := of_decide_eq_true a5
        repeat' ((conv => whnf); first | refine ⟨?_, True.intro⟩ | refine brn_t rfl ?_ | refine brn_f rfl ?_ | refine ob rfl ?_ | refine ob (by decide) ?_ | refine grow_same (Mem.le_refl _) ?_ | refine ob (Mem.le_refl _) ?_ | refine ⟨_, Mem.le_refl _, ?_⟩ | fail)
        exact ⟨by unfold mayD; rw [if_neg (by simp [g1]), if_neg (by decide), if_pos rfl, if_pos (.inr ⟨a4, a6⟩)], Mem.le_refl _⟩
      · have a6 : ¬ S.epoch < i.e := of_decide_eq_false a5
        have a7 : ¬ (i.d = S.self ∨ (i.o = S.self ∧ S.epoch < i.e)) := by omega
        repeat' ((conv => whnf); first | refine ⟨?_, True.intro⟩ | refine brn_t rfl ?_ | refine brn_f rfl ?_ | refine ob rfl ?_ | refine ob (by decide) ?_ | refine grow_same (Mem.le_refl _) ?_ | refine ob (Mem.le_refl _) ?_ | refine ⟨_, Mem.le_refl _, ?_⟩ | fail)
        refine (hasMsgR_ok h.row (by omega) i).mono ?_
        rintro v _ ⟨rfl, rfl⟩
        rw [hms]
        (conv => whnf); refine brn (fun g4 => ?_) (fun g4 => ?_)
        · repeat' ((conv => whnf); first | refine ⟨?_, True.intro⟩ | refine brn_t rfl ?_ | refine brn_f rfl ?_ | refine ob rfl ?_ | refine ob (by decide) ?_ | refine grow_same (Mem.le_refl _) ?_ | refine ob (Mem.le_refl _) ?_ | refine ⟨_, Mem.le_refl _, ?_⟩ | fail)
          exact ⟨by unfold mayD; rw [if_neg (by simp [g1]), if_neg (by decide), if_pos rfl, if_neg a7, if_pos g4], Mem.le_refl _⟩
        have h0 : ¬ hasD S.l i = true := by rw [g4]; decide
        repeat' ((conv => whnf); first | refine ⟨?_, True.intro⟩ | refine brn_t rfl ?_ | refine brn_f rfl ?_ | refine ob rfl ?_ | refine ob (by decide) ?_ | refine grow_same (Mem.le_refl _) ?_ | refine ob (Mem.le_refl _) ?_ | refine ⟨_, Mem.le_refl _, ?_⟩ | fail)
        refine brn (fun a8 => ?_) (fun a8 => ?_)
        · have a9 : S.qh ≤ S.l.length := by have := of_decide_eq_true a8; omega
          repeat' ((conv => whnf); first | refine ⟨?_, True.intro⟩ | refine brn_t rfl ?_ | refine brn_f rfl ?_ | refine ob rfl ?_ | refine ob (by decide) ?_ | refine grow_same (Mem.le_refl _) ?_ | refine ob (Mem.le_refl _) ?_ | refine ⟨_, Mem.le_refl _, ?_⟩ | fail)
          exact ⟨by unfold mayD; rw [if_neg (by simp [g1]), if_neg (by decide), if_pos rfl, if_neg a7, if_neg h0, if_pos (.inl a9)], Mem.le_refl _⟩
        have a9 : ¬ S.qh ≤ S.l.length := by have := of_decide_eq_false a8; omega
        repeat' ((conv => whnf); first | refine ⟨?_, True.intro⟩ | refine brn_t rfl ?_ | refine brn_f rfl ?_ | refine ob rfl ?_ | refine ob (by decide) ?_ | refine grow_same (Mem.le_refl _) ?_ | refine ob (Mem.le_refl _) ?_ | refine ⟨_, Mem.le_refl _, ?_⟩ | fail)
        refine (bytesR_ok h hI).mono ?_
        rintro v _ ⟨rfl, rfl⟩
        repeat' ((conv => whnf); first | refine ⟨?_, True.intro⟩ | refine brn_t rfl ?_ | refine brn_f rfl ?_ | refine ob rfl ?_ | refine ob (by decide) ?_ | refine grow_same (Mem.le_refl _) ?_ | refine ob (Mem.le_refl _) ?_ | refine ⟨_, Mem.le_refl _, ?_⟩ | fail)
        refine ob (inR_i64 (by omega)) ?_
        repeat' ((conv => whnf); first | refine ⟨?_, True.intro⟩ | refine brn_t rfl ?_ | refine brn_f rfl ?_ | refine ob rfl ?_ | refine ob (by decide) ?_ | refine grow_same (Mem.le_refl _) ?_ | refine ob (Mem.le_refl _) ?_ | refine ⟨_, Mem.le_refl _, ?_⟩ | fail)
        refine brn (fun b8 => ?_) (fun b8 => ?_)
        · have b9 : S.qb < bytesD S.l + n := by have := of_decide_eq_true b8; omega
          repeat' ((conv => whnf); first | refine ⟨?_, True.intro⟩ | refine brn_t rfl ?_ | refine brn_f rfl ?_ | refine ob rfl ?_ | refine ob (by decide) ?_ | refine grow_same (Mem.le_refl _) ?_ | refine ob (Mem.le_refl _) ?_ | refine ⟨_, Mem.le_refl _, ?_⟩ | fail)
          exact ⟨by unfold mayD; rw [if_neg (by simp [g1]), if_neg (by decide), if_pos rfl, if_neg a7, if_neg h0, if_pos (.inr b9)], Mem.le_refl _⟩
        have b9 : ¬ S.qb < bytesD S.l + n := by have := of_decide_eq_false b8; omega
        repeat' ((conv => whnf); first | refine ⟨?_, True.intro⟩ | refine brn_t rfl ?_ | refine brn_f rfl ?_ | refine ob rfl ?_ | refine ob (by decide) ?_ | refine grow_same (Mem.le_refl _) ?_ | refine ob (Mem.le_refl _) ?_ | refine ⟨_, Mem.le_refl _, ?_⟩ | fail)
        exact ⟨by unfold mayD; rw [if_neg (by simp [g1]), if_neg (by decide), if_pos rfl, if_neg a7, if_neg h0, if_neg (by omega)], Mem.le_refl _⟩
    · have a4 : ¬ i.o = S.self := of_decide_eq_false a3
      have a7 : ¬ (i.d = S.self ∨ (i.o = S.self ∧ S.epoch < i.e)) := by omega
      repeat' ((conv => whnf); first | refine ⟨?_, True.intro⟩ | refine brn_t rfl ?_ | refine brn_f rfl ?_ | refine ob rfl ?_ | refine ob (by decide) ?_ | refine grow_same (Mem.le_refl _) ?_ | refine ob (Mem.le_refl _) ?_ | refine ⟨_, Mem.le_refl _, ?_⟩ | fail)
      refine (hasMsgR_ok h.row (by omega) i).mono ?_
      rintro v _ ⟨rfl, rfl⟩
      rw [hms]
      (conv => whnf); refine brn (fun g4 => ?_) (fun g4 => ?_)
      · repeat' ((conv => whnf); first | refine ⟨?_, True.intro⟩ | refine brn_t rfl ?_ | refine brn_f rfl ?_ | refine ob rfl ?_ | refine ob (by decide) ?_ | refine grow_same (Mem.le_refl _) ?_ | refine ob (Mem.le_refl _) ?_ | refine ⟨_, Mem.le_refl _, ?_⟩ | fail)
        exact ⟨by unfold mayD; rw [if_neg (by simp [g1]), if_neg (by decide), if_pos rfl, if_neg a7, if_pos g4], Mem.le_refl _⟩
      have h0 : ¬ hasD S.l i = true := by rw [g4]; decide
      repeat' ((conv => whnf); first | refine ⟨?_, True.intro⟩ | refine brn_t rfl ?_ | refine brn_f rfl ?_ | refine ob rfl ?_ | refine ob (by decide) ?_ | refine grow_same (Mem.le_refl _) ?_ | refine ob (Mem.le_refl _) ?_ | refine ⟨_, Mem.le_refl _, ?_⟩ | fail)
      refine brn (fun a8 => ?_) (fun a8 => ?_)
      · have a9 : S.qh ≤ S.l.length := by have := of_decide_eq_true a8; omega
        repeat' ((conv => whnf); first | refine ⟨?_, True.intro⟩ | refine brn_t rfl ?_ | refine brn_f rfl ?_ | refine ob rfl ?_ | refine ob (by decide) ?_ | refine grow_same (Mem.le_refl _) ?_ | refine ob (Mem.le_refl _) ?_ | refine ⟨_, Mem.le_refl _, ?_⟩ | fail)
        exact ⟨by unfold mayD; rw [if_neg (by simp [g1]), if_neg (by decide), if_pos rfl, if_neg a7, if_neg h0, if_pos (.inl a9)], Mem.le_refl _⟩
      have a9 : ¬ S.qh ≤ S.l.length := by have := of_decide_eq_false a8; omega
      repeat' ((conv => whnf); first | refine ⟨?_, True.intro⟩ | refine brn_t rfl ?_ | refine brn_f rfl ?_ | refine ob rfl ?_ | refine ob (by decide) ?_ | refine grow_same (Mem.le_refl _) ?_ | refine ob (Mem.le_refl _) ?_ | refine ⟨_, Mem.le_refl _, ?_⟩ | fail)
      refine (bytesR_ok h hI).mono ?_
      rintro v _ ⟨rfl, rfl⟩
      repeat' ((conv => whnf); first | refine ⟨?_, True.intro⟩ | refine brn_t rfl ?_ | refine brn_f rfl ?_ | refine ob rfl ?_ | refine ob (by decide) ?_ | refine grow_same (Mem.le_refl _) ?_ | refine ob (Mem.le_refl _) ?_ | refine ⟨_, Mem.le_refl _, ?_⟩ | fail)
      refine ob (inR_i64 (by omega)) ?_
      repeat' ((conv => whnf); first | refine ⟨?_, True.intro⟩ | refine brn_t rfl ?_ | refine brn_f rfl ?_ | refine ob rfl ?_ | refine ob (by decide) ?_ | refine grow_same (Mem.le_refl _) ?_ | refine ob (Mem.le_refl _) ?_ | refine ⟨_, Mem.le_refl _, ?_⟩ | fail)
      refine brn (fun b8 => ?_) (fun b8 => ?_)
      · have b9 : S.qb < bytesD S.l + n := by have := of_decide_eq_true b8; omega
        repeat' ((conv => whnf); first | refine ⟨?_, True.intro⟩ | refine brn_t rfl ?_ | refine brn_f rfl ?_ | refine ob rfl ?_ | refine ob (by decide) ?_ | refine grow_same (Mem.le_refl _) ?_ | refine ob (Mem.le_refl _) ?_ | refine ⟨_, Mem.le_refl _, ?_⟩ | fail)
        exact ⟨by unfold mayD; rw [if_neg (by simp [g1]), if_neg (by decide), if_pos rfl, if_neg a7, if_neg h0, if_pos (.inr b9)], Mem.le_refl _⟩
      have b9 : ¬ S.qb < bytesD S.l + n := by have := of_decide_eq_false b8; omega
      repeat' ((conv => whnf); first | refine ⟨?_, True.intro⟩ | refine brn_t rfl ?_ | refine brn_f rfl ?_ | refine ob rfl ?_ | refine ob (by decide) ?_ | refine grow_same (Mem.le_refl _) ?_ | refine ob (Mem.le_refl _) ?_ | refine ⟨_, Mem.le_refl _, ?_⟩ | fail)
      exact ⟨by unfold mayD; rw [if_neg (by simp [g1]), if_neg (by decide), if_pos rfl, if_neg a7, if_neg h0, if_neg (by omega)], Mem.le_refl _⟩
  · repeat' ((conv => whnf); first | refine ⟨?_, True.intro⟩ | refine brn_t rfl ?_ | refine brn_f rfl ?_ | refine ob rfl ?_ | refine ob (by decide) ?_ | refine grow_same (Mem.le_refl _) ?_ | refine ob (Mem.le_refl _) ?_ | refine ⟨_, Mem.le_refl _, ?_⟩ | fail)
    refine (hasMsgR_ok h.row (by omega) i).mono ?_
    rintro v _ ⟨rfl, rfl⟩
    rw [hms]
    (conv => whnf); refine brn (fun g4 => ?_) (fun g4 => ?_)
    · have h0 : ¬ hasD S.l i = true := by simpa using g4
      repeat' ((conv => whnf); first | refine ⟨?_, True.intro⟩ | refine brn_t rfl ?_ | refine brn_f rfl ?_ | refine ob rfl ?_ | refine ob (by decide) ?_ | refine grow_same (Mem.le_refl _) ?_ | refine ob (Mem.le_refl _) ?_ | refine ⟨_, Mem.le_refl _, ?_⟩ | fail)
      exact ⟨by unfold mayD; rw [if_neg (by simp [g1]), if_neg (by decide), if_neg (by decide), if_pos rfl, if_neg h0], Mem.le_refl _⟩
    · have h0 : hasD S.l i = true := by simpa using g4
      repeat' ((conv => whnf); first | refine ⟨?_, True.intro⟩ | refine brn_t rfl ?_ | refine brn_f rfl ?_ | refine ob rfl ?_ | refine ob (by decide) ?_ | refine grow_same (Mem.le_refl _) ?_ | refine ob (Mem.le_refl _) ?_ | refine ⟨_, Mem.le_refl _, ?_⟩ | fail)
      exact ⟨by unfold mayD; rw [if_neg (by simp [g1]), if_neg (by decide), if_neg (by decide), if_pos rfl, if_pos h0], Mem.le_refl _⟩
  · repeat' ((conv => whnf); first | refine ⟨?_, True.intro⟩ | refine brn_t rfl ?_ | refine brn_f rfl ?_ | refine ob rfl ?_ | refine ob (by decide) ?_ | refine grow_same (Mem.le_refl _) ?_ | refine ob (Mem.le_refl _) ?_ | refine ⟨_, Mem.le_refl _, ?_⟩ | fail)
    refine brn (fun g2 => ?_) (fun g2 => ?_)
    · have g3 : i.d ≠ S.self := by simpa using g2
      repeat' ((conv => whnf); first | refine ⟨?_, True.intro⟩ | refine brn_t rfl ?_ | refine brn_f rfl ?_ | refine ob rfl ?_ | refine ob (by decide) ?_ | refine grow_same (Mem.le_refl _) ?_ | refine ob (Mem.le_refl _) ?_ | refine ⟨_, Mem.le_refl _, ?_⟩ | fail)
      exact ⟨by unfold mayD; rw [if_neg (by simp [g1]), if_neg (by decide), if_neg (by decide), if_neg (by decide), if_pos g3], Mem.le_refl _⟩
    · have g3 : ¬ i.d ≠ S.self := by simpa using g2
      repeat' ((conv => whnf); first | refine ⟨?_, True.intro⟩ | refine brn_t rfl ?_ | refine brn_f rfl ?_ | refine ob rfl ?_ | refine ob (by decide) ?_ | refine grow_same (Mem.le_refl _) ?_ | refine ob (Mem.le_refl _) ?_ | refine ⟨_, Mem.le_refl _, ?_⟩ | fail)
      refine (mayR_ok h.keys (by have := h.few; omega) S.qg i.o i.d i.e i.c).mono ?_
      rintro v M1 ⟨rfl, h1⟩
      repeat' ((conv => whnf); first | refine ⟨?_, True.intro⟩ | refine brn_t rfl ?_ | refine brn_f rfl ?_ | refine ob rfl ?_ | refine ob (by decide) ?_ | refine grow_same (Mem.le_refl _) ?_ | refine ob (Mem.le_refl _) ?_ | refine ⟨_, Mem.le_refl _, ?_⟩ | fail)
      exact ⟨by unfold mayD; rw [if_neg (by simp [g1]), if_neg (by decide), if_neg (by decide), if_neg (by decide), if_neg g3], h1⟩
end Go.Proofs.YtlocjjponfbhmaaGreat

/- The document's store: Apply. -/
namespace Go.Proofs.YtlocjjponfbhmaaGreat
open Go Go.Vm
attribute [local irreducible] Brn Ob Grow CallsM inR LoopVC Mem.row Mem.cells Mem.setCells Mem.upd Own AppVC SrcVC StrVC NextVC New SrcOk subA NewSl Mem.textAt Mem.mapAt Mem.iterAt entryOf kfind Wr NewEls Elems
set_option maxRecDepth 10000
variable {M : Mem} {S : StR} {L : List K} {D : DocV} {ms : List MX}
/-- what an event makes of the document's store -/
def DocOut (S : StR) (L : List K) (D : DocV) (k : Int) (i : IdT) (l : List UInt8) (M : Mem) (v : Value) (M' : Mem) : Prop :=
  ∃ D' ms', v = .tuple #[docV (if mayD S (setMayK S L) k i l.length = 0 then applyD S k i l else S) D', .int .i64 (mayD S (setMayK S L) k i l.length)] ∧ M.le M' ∧
    DocAt M' (if mayD S (setMayK S L) k i l.length = 0 then applyD S k i l else S) (if mayD S (setMayK S L) k i l.length = 0 ∧ k = 4 then putK ⟨i.o, i.e, i.c⟩ L else L) D' ms' ∧ D'.kn ≤ D.kn + 1
theorem apply15R_ok (h : DocAt M S L D ms) (hI : InvS S) (hf : D.kn < 4000000) (k : Int) (i : IdT) {a : Option Addr} {c : Nat} {l : List UInt8} (hl : SrcOk M 1 a l.length (l.map byteV)) (hn : l.length ≤ 1048576) :
    CallsM Tryz.prog F.ref15_Apply [docV S D, evV k i a l.length c] M (DocOut S L D k i l M) := by
  refine fo_ref15_Apply (by simp) ?_
  repeat' ((conv => whnf); first | refine ⟨?_, True.intro⟩ | refine brn_t rfl ?_ | refine brn_f rfl ?_ | refine ob rfl ?_ | refine ob (by decide) ?_ | refine grow_same (Mem.le_refl _) ?_ | refine ob (Mem.le_refl _) ?_ | refine ⟨_, Mem.le_refl _, ?_⟩ | fail)
  refine (may15R_ok h hI k i a l.length c hn).mono ?_
  rintro v M1 ⟨rfl, hle1⟩
  have h1 := h.le hle1
  (conv => whnf); refine brn (fun g => ?_) (fun g => ?_)
  · have g1 : ¬ mayD S (setMayK S L) k i l.length = 0 := by simpa using g
    repeat' ((conv => whnf); first | refine ⟨?_, True.intro⟩ | refine brn_t rfl ?_ | refine brn_f rfl ?_ | refine ob rfl ?_ | refine ob (by decide) ?_ | refine grow_same (Mem.le_refl _) ?_ | refine ob (Mem.le_refl _) ?_ | refine ⟨_, Mem.le_refl _, ?_⟩ | fail)
    refine (may15R_ok h1 hI k i a l.length c hn).mono ?_
    rintro v M2 ⟨rfl, hle2⟩
    repeat' ((conv => whnf); first | refine ob rfl ?_ | refine grow_same hle2 ?_ | refine ob hle2 ?_ | refine ⟨?_, True.intro⟩ | fail)
    repeat' ((conv => whnf); first | refine ⟨?_, True.intro⟩ | refine brn_t rfl ?_ | refine brn_f rfl ?_ | refine ob rfl ?_ | refine ob (by decide) ?_ | refine grow_same (Mem.le_refl _) ?_ | refine ob (Mem.le_refl _) ?_ | refine ⟨_, Mem.le_refl _, ?_⟩ | fail)
    refine ⟨D, ms, ?_, Mem.le_trans hle1 hle2, ?_, by omega⟩
    · rw [if_neg g1]
    · rw [if_neg g1, if_neg (fun e => g1 e.1)]; exact h1.le hle2
  have g1 : mayD S (setMayK S L) k i l.length = 0 := by simpa using g
  have hI2 := applyD_inv hI g1
  have hk : k = 1 ∨ k = 2 ∨ k = 3 ∨ k = 4 := by
    have g3 : formD k i l.length = 0 := by
      unfold mayD at g1
      split at g1
      · rename_i g4; exact absurd g1 g4
      · rename_i g4; simpa using g4
    unfold formD at g3
    repeat' split at g3
    all_goals omega
  unfold DocOut
  rw [g1]
  simp only [if_true, true_and]
  rcases hk with rfl | rfl | rfl | rfl
  · have he := hI2.epoch
    have e : applyD S 1 i l = { S with epoch := S.epoch + 1, used := List.replicate 64 0 } := by unfold applyD; rw [if_pos rfl]
    rw [e] at he ⊢
    dsimp only at he
    repeat' ((conv => whnf); first | refine ⟨?_, True.intro⟩ | refine brn_t rfl ?_ | refine brn_f rfl ?_ | refine ob rfl ?_ | refine ob (by decide) ?_ | refine grow_same (Mem.le_refl _) ?_ | refine ob (Mem.le_refl _) ?_ | refine ⟨_, Mem.le_refl _, ?_⟩ | fail)
    refine ob (inR_i64 (by omega)) ?_
    repeat' ((conv => whnf); first | refine ⟨?_, True.intro⟩ | refine brn_t rfl ?_ | refine brn_f rfl ?_ | refine ob rfl ?_ | refine ob (by decide) ?_ | refine grow_same (Mem.le_refl _) ?_ | refine ob (Mem.le_refl _) ?_ | refine ⟨_, Mem.le_refl _, ?_⟩ | fail)
    refine ⟨⟨none, 0, 0, D.la, D.ln, D.lc, D.ka, D.kn, D.kc⟩, ms, rfl, hle1, ?_, by dsimp only; omega⟩
    rw [if_neg (by decide)]
    exact ⟨by dsimp only; rw [usedD_zero]; exact SrcOk.nil _ _, h1.row, h1.msgs, h1.keys, h1.few⟩
  · obtain ⟨m1, m2, m3, m4, m5, m6⟩ := mayHold g1
    obtain ⟨i1, i2, i3⟩ := msgErr_zero m1
    have hid := idErr_all i1
    have hqb := hI.qb
    have hqh := hI.qh
    have hln := h.ln
    have hmsl := h.row.len
    repeat' ((conv => whnf); first | refine ⟨?_, True.intro⟩ | refine brn_t rfl ?_ | refine brn_f rfl ?_ | refine ob rfl ?_ | refine ob (by decide) ?_ | refine grow_same (Mem.le_refl _) ?_ | refine ob (Mem.le_refl _) ?_ | refine ⟨_, Mem.le_refl _, ?_⟩ | fail)
    refine new (fun b9 hb9 => ?_)
    replace hb9 : M1 b9 = none := hb9
    have hN1 : NewSl M1 T.api_Msg 5 (some ⟨b9, 0, none⟩) 0 0 (([] : List MX).flatMap encX) _ := NewSl.lit hb9 T.api_Msg 5 0 [] rfl
    obtain ⟨M3, hM3⟩ : ∃ M3, M3 = M1.setCells b9 T.api_Msg [] := ⟨_, rfl⟩
    rw [← hM3] at hN1
    (conv => whnf)
    erw [← hM3]
    repeat' ((conv => whnf); first | refine ⟨?_, True.intro⟩ | refine brn_t rfl ?_ | refine brn_f rfl ?_ | refine ob rfl ?_ | refine ob (by decide) ?_ | refine grow_same (Mem.le_refl _) ?_ | refine ob (Mem.le_refl _) ?_ | refine ⟨_, Mem.le_refl _, ?_⟩ | fail)
    refine srcv (h1.row.row.le hN1.le) ?_
    (conv => whnf); refine appN M1 _ hN1 (by first | omega | (dsimp only; omega)) (by simp [maxLen]; omega) (encX_one ms) fun a4 c4 M4 hN4 => ?_
    rw [Nat.zero_add D.ln] at hN4
    rw [Nat.zero_add D.ln]
    replace hN4 : NewSl M1 T.api_Msg 5 a4 D.ln c4 (ms.flatMap encX) M4 := hN4
    repeat' ((conv => whnf); first | refine ⟨?_, True.intro⟩ | refine brn_t rfl ?_ | refine brn_f rfl ?_ | refine ob rfl ?_ | refine ob (by decide) ?_ | refine grow_same (Mem.le_refl _) ?_ | refine ob (Mem.le_refl _) ?_ | refine ⟨_, Mem.le_refl _, ?_⟩ | fail)
    refine new (fun b10 hb10 => ?_)
    replace hb10 : M4 b10 = none := hb10
    have hN5 : NewSl M4 T.uint8 1 (some ⟨b10, 0, none⟩) 0 0 (([] : List UInt8).map byteV) _ := NewSl.lit hb10 T.uint8 1 0 [] rfl
    obtain ⟨M5, hM5⟩ : ∃ M5, M5 = M4.setCells b10 T.uint8 [] := ⟨_, rfl⟩
    rw [← hM5] at hN5
    (conv => whnf)
    erw [← hM5]
    repeat' ((conv => whnf); first | refine ⟨?_, True.intro⟩ | refine brn_t rfl ?_ | refine brn_f rfl ?_ | refine ob rfl ?_ | refine ob (by decide) ?_ | refine grow_same (Mem.le_refl _) ?_ | refine ob (Mem.le_refl _) ?_ | refine ⟨_, Mem.le_refl _, ?_⟩ | fail)
    refine srcv ((hl.le (Mem.le_trans hle1 hN4.le)).le hN5.le) ?_
    (conv => whnf); refine appN M4 _ hN5 (by first | omega | (dsimp only; omega)) (by simp [maxLen]; omega) (by simp [Value.oneCell', byteV]) fun a6 c6 M6 hN6 => ?_
    rw [Nat.zero_add l.length] at hN6
    rw [Nat.zero_add l.length]
    repeat' ((conv => whnf); first | refine ob rfl ?_ | refine grow_same hN6.le ?_ | refine ob hN6.le ?_ | refine ⟨?_, True.intro⟩ | fail)
    repeat' ((conv => whnf); first | refine ⟨?_, True.intro⟩ | refine brn_t rfl ?_ | refine brn_f rfl ?_ | refine ob rfl ?_ | refine ob (by decide) ?_ | refine grow_same (Mem.le_refl _) ?_ | refine ob (Mem.le_refl _) ?_ | refine ⟨_, Mem.le_refl _, ?_⟩ | fail)
    have hN7 := hN4.up hN6.le
    obtain ⟨x, hx⟩ : ∃ x : MX, x = ⟨i, a6, c6, l⟩ := ⟨_, rfl⟩
    refine appF M1 hN7 x (by rw [hx]) (by first | omega | (dsimp only; omega)) (by simp [maxLen]; omega) (by simp [Value.oneCell']) fun a8 c8 M8 hN8 hk8 => ?_
    have hx8 : SrcOk M8 1 x.a x.p.length (x.p.map byteV) := by
      rw [hx]
      have hw : Wr M8 T.uint8 1 a6 l.length c6 (l.map byteV) := hN6.wr.mono fun q o hq ho => hk8 _ _ (fun ⟨q', hq', e⟩ => (NewSl.ne (hN6.mono hN4.le) hN7 (by decide) hq hq') e.symm) ho
      exact hw.src
    have hle8 : M1.le M8 := hN8.le
    have he : applyD S 2 i l = { S with l := S.l ++ [⟨i, l⟩], used := if i.o = S.self ∧ i.e = S.epoch then S.used.set i.d.toNat (max (lastD S i.d) i.c) else S.used } := by unfold applyD; rw [if_neg (by decide), if_pos rfl]
    have h8 : DocAt M8 { S with l := S.l ++ [⟨i, l⟩] } L ⟨D.ua, D.un, D.uc, a8, D.ln + 1, c8, D.ka, D.kn, D.kc⟩ (ms ++ [x]) := by
      refine ⟨h1.used.le hle8, ⟨hN8.src, fun m hm => ?_⟩, ?_, h1.keys.le hle8, h1.few⟩
      · rcases List.mem_append.1 hm with hm | hm
        · exact (h1.row.data m hm).le hle8
        · simp only [List.mem_singleton] at hm; subst hm; exact hx8
      · rw [List.map_append, h1.msgs, hx]; rfl
    have fin : applyD S 2 i l = { S with l := S.l ++ [⟨i, l⟩] } → ∃ D' ms', Value.tuple #[docV { S with l := S.l ++ [⟨i, l⟩] } ⟨D.ua, D.un, D.uc, a8, D.ln + 1, c8, D.ka, D.kn, D.kc⟩, Value.int .i64 0] = Value.tuple #[docV (applyD S 2 i l) D', Value.int .i64 0] ∧ M.le M8 ∧ DocAt M8 (applyD S 2 i l) (if 2 = 4 then putK ⟨i.o, i.e, i.c⟩ L else L) D' ms' ∧ D'.kn ≤ D.kn + 1 := by
      intro e
      refine ⟨_, ms ++ [x], by rw [e], Mem.le_trans hle1 hle8, ?_, by dsimp only; omega⟩
      rw [if_neg (by decide), e]
      exact h8
    repeat' ((conv => whnf); first | refine ⟨?_, True.intro⟩ | refine brn_t rfl ?_ | refine brn_f rfl ?_ | refine ob rfl ?_ | refine ob (by decide) ?_ | refine grow_same (Mem.le_refl _) ?_ | refine ob (Mem.le_refl _) ?_ | refine ⟨_, Mem.le_refl _, ?_⟩ | fail)
    refine brn (fun g2 => ?_) (fun g2 => ?_)
    rotate_left
    · have g3 : ¬ i.o = S.self := of_decide_eq_false g2
      repeat' ((conv => whnf); first | refine ⟨?_, True.intro⟩ | refine brn_t rfl ?_ | refine brn_f rfl ?_ | refine ob rfl ?_ | refine ob (by decide) ?_ | refine grow_same (Mem.le_refl _) ?_ | refine ob (Mem.le_refl _) ?_ | refine ⟨_, Mem.le_refl _, ?_⟩ | fail)
      exact fin (by rw [he, if_neg (fun h => g3 h.1)])
    have g3 : i.o = S.self := of_decide_eq_true g2
    repeat' ((conv => whnf); first | refine ⟨?_, True.intro⟩ | refine brn_t rfl ?_ | refine brn_f rfl ?_ | refine ob rfl ?_ | refine ob (by decide) ?_ | refine grow_same (Mem.le_refl _) ?_ | refine ob (Mem.le_refl _) ?_ | refine ⟨_, Mem.le_refl _, ?_⟩ | fail)
    refine brn (fun g4 => ?_) (fun g4 => ?_)
    rotate_left
    · have g5 : ¬ i.e = S.epoch := of_decide_eq_false g4
      repeat' ((conv => whnf); first | refine ⟨?_, True.intro⟩ | refine brn_t rfl ?_ | refine brn_f rfl ?_ | refine ob rfl ?_ | refine ob (by decide) ?_ | refine grow_same (Mem.le_refl _) ?_ | refine ob (Mem.le_refl _) ?_ | refine ⟨_, Mem.le_refl _, ?_⟩ | fail)
      exact fin (by rw [he, if_neg (fun h => g5 h.2)])
    have g5 : i.e = S.epoch := of_decide_eq_true g4
    have e1 : applyD S 2 i l = { S with l := S.l ++ [⟨i, l⟩], used := S.used.set i.d.toNat (max (lastD S i.d) i.c) } := by rw [he, if_pos ⟨g3, g5⟩]
    repeat' ((conv => whnf); first | refine ⟨?_, True.intro⟩ | refine brn_t rfl ?_ | refine brn_f rfl ?_ | refine ob rfl ?_ | refine ob (by decide) ?_ | refine grow_same (Mem.le_refl _) ?_ | refine ob (Mem.le_refl _) ?_ | refine ⟨_, Mem.le_refl _, ?_⟩ | fail)
    refine (lastR_ok h8 hI.ulen i.d).mono ?_
    have hla := lastD_usedD hI (d := i.d) (by omega)
    rw [show usedD ({ S with l := S.l ++ [⟨i, l⟩] } : StR).used = usedD S.used from rfl, hla]
    rintro v _ ⟨rfl, rfl⟩
    repeat' ((conv => whnf); first | refine ⟨?_, True.intro⟩ | refine brn_t rfl ?_ | refine brn_f rfl ?_ | refine ob rfl ?_ | refine ob (by decide) ?_ | refine grow_same (Mem.le_refl _) ?_ | refine ob (Mem.le_refl _) ?_ | refine ⟨_, Mem.le_refl _, ?_⟩ | fail)
    refine brn (fun g6 => ?_) (fun g6 => ?_)
    rotate_left
    · have g7 : i.c ≤ lastD S i.d := by have := of_decide_eq_false g6; omega
      repeat' ((conv => whnf); first | refine ⟨?_, True.intro⟩ | refine brn_t rfl ?_ | refine brn_f rfl ?_ | refine ob rfl ?_ | refine ob (by decide) ?_ | refine grow_same (Mem.le_refl _) ?_ | refine ob (Mem.le_refl _) ?_ | refine ⟨_, Mem.le_refl _, ?_⟩ | fail)
      refine fin ?_
      rw [e1]
      have := set_same (u := S.used) (d := i.d.toNat) (c := i.c) g7 (by have := hI.ulen; omega)
      unfold lastD
      rw [this]
    have g7 : lastD S i.d < i.c := of_decide_eq_true g6
    repeat' ((conv => whnf); first | refine ⟨?_, True.intro⟩ | refine brn_t rfl ?_ | refine brn_f rfl ?_ | refine ob rfl ?_ | refine ob (by decide) ?_ | refine grow_same (Mem.le_refl _) ?_ | refine ob (Mem.le_refl _) ?_ | refine ⟨_, Mem.le_refl _, ?_⟩ | fail)
    refine (useR_ok (x := (i.d, i.c)) h8.used (by have hu1 : (usedF 0 S.used).length = D.un := h.un; have := usedF_len S.used 0; have := hI.ulen; dsimp only; omega)).mono ?_
    rw [show usedD ({ S with l := S.l ++ [⟨i, l⟩] } : StR).used = usedD S.used from rfl, useN_usedD hI (by omega) (by omega)]
    rintro v M9 ⟨a', n', c', rfl, hle9, hu9⟩
    repeat' ((conv => whnf); first | refine ⟨?_, True.intro⟩ | refine brn_t rfl ?_ | refine brn_f rfl ?_ | refine ob rfl ?_ | refine ob (by decide) ?_ | refine grow_same (Mem.le_refl _) ?_ | refine ob (Mem.le_refl _) ?_ | refine ⟨_, Mem.le_refl _, ?_⟩ | fail)
    have h9 := h8.le hle9
    refine ⟨⟨a', n', c', a8, D.ln + 1, c8, D.ka, D.kn, D.kc⟩, ms ++ [x], by rw [e1], Mem.le_trans hle1 (Mem.le_trans hle8 hle9), ?_, by dsimp only; omega⟩
    rw [if_neg (by decide), e1]
    refine ⟨?_, h9.row, h9.msgs, h9.keys, h9.few⟩
    dsimp only
    rw [Int.max_eq_right (by omega)]
    exact hu9
  · have e : applyD S 3 i l = { S with l := S.l.filter fun m => decide (m.id ≠ i) } := by unfold applyD; rw [if_neg (by decide), if_neg (by decide), if_pos rfl]
    have hqh := hI.qh
    have hln := h.ln
    rw [e]
    repeat' ((conv => whnf); first | refine ⟨?_, True.intro⟩ | refine brn_t rfl ?_ | refine brn_f rfl ?_ | refine ob rfl ?_ | refine ob (by decide) ?_ | refine grow_same (Mem.le_refl _) ?_ | refine ob (Mem.le_refl _) ?_ | refine ⟨_, Mem.le_refl _, ?_⟩ | fail)
    refine (withoutR_ok h1.row (by omega) i).mono ?_
    rintro v M2 ⟨a', n', c', rfl, hle2, hr2⟩
    repeat' ((conv => whnf); first | refine ⟨?_, True.intro⟩ | refine brn_t rfl ?_ | refine brn_f rfl ?_ | refine ob rfl ?_ | refine ob (by decide) ?_ | refine grow_same (Mem.le_refl _) ?_ | refine ob (Mem.le_refl _) ?_ | refine ⟨_, Mem.le_refl _, ?_⟩ | fail)
    refine ⟨⟨D.ua, D.un, D.uc, a', n', c', D.ka, D.kn, D.kc⟩, ms.filter fun m => decide (m.id ≠ i), rfl, Mem.le_trans hle1 hle2, ?_, by dsimp only; omega⟩
    rw [if_neg (by decide)]
    refine ⟨h1.used.le hle2, hr2, ?_, h1.keys.le hle2, h1.few⟩
    dsimp only
    rw [← h.msgs, List.filter_map]
    rfl
  · have e : applyD S 4 i l = S := by unfold applyD; rw [if_neg (by decide), if_neg (by decide), if_neg (by decide)]
    rw [e]
    repeat' ((conv => whnf); first | refine ⟨?_, True.intro⟩ | refine brn_t rfl ?_ | refine brn_f rfl ?_ | refine ob rfl ?_ | refine ob (by decide) ?_ | refine grow_same (Mem.le_refl _) ?_ | refine ob (Mem.le_refl _) ?_ | refine ⟨_, Mem.le_refl _, ?_⟩ | fail)
    refine (addR_ok h1.keys (by have := h.few; omega) S.qg i.o i.d i.e i.c).mono ?_
    have hm0 : mayK S.qg L i.o i.d i.e i.c = 0 := by
      unfold mayD at g1
      split at g1
      · rename_i g4; exact absurd g1 g4
      rw [if_neg (by decide), if_neg (by decide), if_neg (by decide)] at g1
      split at g1
      · cases g1
      · exact g1
    rintro v M2 (⟨hne, -⟩ | ⟨-, a', c', rfl, hN⟩)
    · exact absurd hm0 hne
    repeat' ((conv => whnf); first | refine ⟨?_, True.intro⟩ | refine brn_t rfl ?_ | refine brn_f rfl ?_ | refine ob rfl ?_ | refine ob (by decide) ?_ | refine grow_same (Mem.le_refl _) ?_ | refine ob (Mem.le_refl _) ?_ | refine ⟨_, Mem.le_refl _, ?_⟩ | fail)
    refine ⟨⟨D.ua, D.un, D.uc, D.la, D.ln, D.lc, a', D.kn + 1, c'⟩, ms, rfl, Mem.le_trans hle1 hN.le, ?_, by dsimp only; omega⟩
    rw [if_pos rfl]
    exact ⟨h1.used.le hN.le, h1.row.le hN.le, h1.msgs, hN.src, by dsimp only; omega⟩
end Go.Proofs.YtlocjjponfbhmaaGreat

/- The document's store: New. -/
namespace Go.Proofs.YtlocjjponfbhmaaGreat
open Go Go.Vm
attribute [local irreducible] Brn Ob Grow CallsM inR LoopVC Mem.row Mem.cells Mem.setCells Mem.upd Own AppVC SrcVC StrVC NextVC New SrcOk subA NewSl Mem.textAt Mem.mapAt Mem.iterAt entryOf kfind Wr NewEls Elems
set_option maxRecDepth 10000
variable {M : Mem} {S : StR} {L : List K} {D : DocV} {ms : List MX}
theorem numberR_ok (n most : Int) : CallsM Tryz.prog F.ref15_number [.int .i64 n, .int .i64 most] M fun v M' => v = .bool (decide (0 ≤ n ∧ n ≤ most)) ∧ M = M' := by
  refine fo_ref15_number (by simp) ?_
  (conv => whnf); refine brn (fun h => ?_) (fun h => ?_)
  all_goals (conv => whnf)
  · exact ⟨by have := of_decide_eq_true h; simp_all, rfl⟩
  · exact ⟨by have := of_decide_eq_false h; simp_all; omega, rfl⟩
theorem new15R_ok (self qh qb qg : Int) : CallsM Tryz.prog F.ref15_New [.int .i64 self, .agg #[.int .i64 qh, .int .i64 qb, .int .i64 qg]] M fun v M' =>
    (badD self qh qb qg ∧ v = .tuple #[docV ⟨0, 0, 0, 0, 0, [], []⟩ ⟨none, 0, 0, none, 0, 0, none, 0, 0⟩, .int .i64 1] ∧ M = M') ∨
    (¬ badD self qh qb qg ∧ v = .tuple #[docV (newD self qh qb qg) ⟨none, 0, 0, none, 0, 0, none, 0, 0⟩, .int .i64 0] ∧ M = M') := by
  refine fo_ref15_New (by simp) ?_
  repeat' ((conv => whnf); first | refine ⟨?_, True.intro⟩ | refine brn_t rfl ?_ | refine brn_f rfl ?_ | refine ob rfl ?_ | refine ob (by decide) ?_ | refine grow_same (Mem.le_refl _) ?_ | refine ob (Mem.le_refl _) ?_ | refine ⟨_, Mem.le_refl _, ?_⟩ | fail)
  refine (numberR_ok _ _).mono ?_
  rintro v _ ⟨rfl, rfl⟩
  (conv => whnf); refine brn (fun g => ?_) (fun g => ?_)
  · (conv => whnf)
    repeat' ((conv => whnf); first | refine ⟨?_, True.intro⟩ | refine brn_t rfl ?_ | refine brn_f rfl ?_ | refine ob rfl ?_ | refine ob (by decide) ?_ | refine grow_same (Mem.le_refl _) ?_ | refine ob (Mem.le_refl _) ?_ | refine ⟨_, Mem.le_refl _, ?_⟩ | fail)
    exact .inl ⟨by unfold badD; simp only [Bool.not_eq_true', decide_eq_false_iff_not] at *; omega, rfl, rfl⟩
  (conv => whnf); refine (numberR_ok _ _).mono ?_
  rintro v _ ⟨rfl, rfl⟩
  (conv => whnf); refine brn (fun g1 => ?_) (fun g1 => ?_)
  · (conv => whnf)
    repeat' ((conv => whnf); first | refine ⟨?_, True.intro⟩ | refine brn_t rfl ?_ | refine brn_f rfl ?_ | refine ob rfl ?_ | refine ob (by decide) ?_ | refine grow_same (Mem.le_refl _) ?_ | refine ob (Mem.le_refl _) ?_ | refine ⟨_, Mem.le_refl _, ?_⟩ | fail)
    exact .inl ⟨by unfold badD; simp only [Bool.not_eq_true', decide_eq_false_iff_not] at *; omega, rfl, rfl⟩
  (conv => whnf); refine (numberR_ok _ _).mono ?_
  rintro v _ ⟨rfl, rfl⟩
  (conv => whnf); refine brn (fun g2 => ?_) (fun g2 => ?_)
  · (conv => whnf)
    repeat' ((conv => whnf); first | refine ⟨?_, True.intro⟩ | refine brn_t rfl ?_ | refine brn_f rfl ?_ | refine ob rfl ?_ | refine ob (by decide) ?_ | refine grow_same (Mem.le_refl _) ?_ | refine ob (Mem.le_refl _) ?_ | refine ⟨_, Mem.le_refl _, ?_⟩ | fail)
    exact .inl ⟨by unfold badD; simp only [Bool.not_eq_true', decide_eq_false_iff_not] at *; omega, rfl, rfl⟩
  (conv => whnf); refine (numberR_ok _ _).mono ?_
  rintro v _ ⟨rfl, rfl⟩
  (conv => whnf); refine brn (fun g3 => ?_) (fun g3 => ?_)
  · (conv => whnf)
    repeat' ((conv => whnf); first | refine ⟨?_, True.intro⟩ | refine brn_t rfl ?_ | refine brn_f rfl ?_ | refine ob rfl ?_ | refine ob (by decide) ?_ | refine grow_same (Mem.le_refl _) ?_ | refine ob (Mem.le_refl _) ?_ | refine ⟨_, Mem.le_refl _, ?_⟩ | fail)
    exact .inl ⟨by unfold badD; simp only [Bool.not_eq_true', decide_eq_false_iff_not] at *; omega, rfl, rfl⟩
  have hn : ¬ badD self qh qb qg := by
    unfold badD
    simp only [Bool.not_eq_false', decide_eq_true_eq] at *
    omega
  repeat' ((conv => whnf); first | refine ⟨?_, True.intro⟩ | refine brn_t rfl ?_ | refine brn_f rfl ?_ | refine ob rfl ?_ | refine ob (by decide) ?_ | refine grow_same (Mem.le_refl _) ?_ | refine ob (Mem.le_refl _) ?_ | refine ⟨_, Mem.le_refl _, ?_⟩ | fail)
  exact .inr ⟨hn, rfl, rfl⟩
theorem DocAt.new (M : Mem) (self qh qb qg : Int) : DocAt M (newD self qh qb qg) [] ⟨none, 0, 0, none, 0, 0, none, 0, 0⟩ [] :=
  ⟨by show SrcOk M 2 none 0 ((usedD (List.replicate 64 0)).flatMap encN); rw [usedD_zero]; exact SrcOk.nil _ _, ⟨SrcOk.nil _ _, by simp⟩, rfl, SrcOk.nil _ _, by simp⟩
end Go.Proofs.YtlocjjponfbhmaaGreat

