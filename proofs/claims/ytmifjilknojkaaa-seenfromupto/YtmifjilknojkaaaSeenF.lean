/- Sets of what was seen: a nil set; a set that is awake. -/
import Derived.Test.YtmifjilknojkaaaSeenE
import Derived.Test.YtmifjilknojkaaaVmV
namespace Go.Proofs.Ytmifjilknojkaaa
open Go Go.Vm
attribute [local irreducible] Brn Ob Grow CallsM inR LoopVC Mem.row Mem.cells Mem.setCells Mem.upd Own AppVC SrcVC StrVC NextVC New SrcOk subA NewSl Mem.textAt Mem.mapAt Mem.iterAt entryOf kfind Wr NewEls Elems
set_option maxRecDepth 10000
variable {M : Mem}
@[reducible] def nilP : Value := .pointer none
@[reducible] def idV (o d e c : Int) : Value := .agg #[.int .i64 o, .int .i64 d, .int .i64 e, .int .i64 c]
theorem nilMay (o d e c : Int) : CallsM Try.prog F.seen_Set_May [nilP, idV o d e c] M fun v M' => v = .int .i64 7 ∧ M = M' := by
  refine fo_seen_Set_May (by simp) ?_
  repeat' ((conv => whnf); first | refine ⟨?_, True.intro⟩ | refine brn_t rfl ?_ | refine brn_f rfl ?_ | refine ob rfl ?_ | refine ob (by decide) ?_ | refine grow_same (Mem.le_refl _) ?_ | refine ob (Mem.le_refl _) ?_ | refine ⟨_, Mem.le_refl _, ?_⟩ | fail)
  exact ⟨rfl, rfl⟩
theorem nilAdd (o d e c : Int) : CallsM Try.prog F.seen_Set_Add [nilP, idV o d e c] M fun v M' => v = .int .i64 7 ∧ M = M' := by
  refine fo_seen_Set_Add (by simp) ?_
  (conv => whnf); refine (nilMay o d e c).mono ?_
  rintro v _ ⟨rfl, rfl⟩
  repeat' ((conv => whnf); first | refine ⟨?_, True.intro⟩ | refine brn_t rfl ?_ | refine brn_f rfl ?_ | refine ob rfl ?_ | refine ob (by decide) ?_ | refine grow_same (Mem.le_refl _) ?_ | refine ob (Mem.le_refl _) ?_ | refine ⟨_, Mem.le_refl _, ?_⟩ | fail)
  exact ⟨rfl, rfl⟩
theorem nilHas (o d e c : Int) : CallsM Try.prog F.seen_Set_Has [nilP, idV o d e c] M fun v M' => v = .bool false ∧ M = M' := by
  refine fo_seen_Set_Has (by simp) ?_
  repeat' ((conv => whnf); first | refine ⟨?_, True.intro⟩ | refine brn_t rfl ?_ | refine brn_f rfl ?_ | refine ob rfl ?_ | refine ob (by decide) ?_ | refine grow_same (Mem.le_refl _) ?_ | refine ob (Mem.le_refl _) ?_ | refine ⟨_, Mem.le_refl _, ?_⟩ | fail)
  exact ⟨rfl, rfl⟩
theorem nilMarks : CallsM Try.prog F.seen_Set_Marks [nilP] M fun v M' => v = .slice none 0 0 ∧ M = M' := by
  refine fo_seen_Set_Marks (by simp) ?_
  repeat' ((conv => whnf); first | refine ⟨?_, True.intro⟩ | refine brn_t rfl ?_ | refine brn_f rfl ?_ | refine ob rfl ?_ | refine ob (by decide) ?_ | refine grow_same (Mem.le_refl _) ?_ | refine ob (Mem.le_refl _) ?_ | refine ⟨_, Mem.le_refl _, ?_⟩ | fail)
  exact ⟨rfl, rfl⟩
theorem nilGaps : CallsM Try.prog F.seen_Set_Gaps [nilP] M fun v M' => v = .int .i64 0 ∧ M = M' := by
  refine fo_seen_Set_Gaps (by simp) ?_
  repeat' ((conv => whnf); first | refine ⟨?_, True.intro⟩ | refine brn_t rfl ?_ | refine brn_f rfl ?_ | refine ob rfl ?_ | refine ob (by decide) ?_ | refine grow_same (Mem.le_refl _) ?_ | refine ob (Mem.le_refl _) ?_ | refine ⟨_, Mem.le_refl _, ?_⟩ | fail)
  exact ⟨rfl, rfl⟩
theorem nilClone : CallsM Try.prog F.seen_Set_Clone [nilP] M fun v M' => v = nilP ∧ M = M' := by
  refine fo_seen_Set_Clone (by simp) ?_
  repeat' ((conv => whnf); first | refine ⟨?_, True.intro⟩ | refine brn_t rfl ?_ | refine brn_f rfl ?_ | refine ob rfl ?_ | refine ob (by decide) ?_ | refine grow_same (Mem.le_refl _) ?_ | refine ob (Mem.le_refl _) ?_ | refine ⟨_, Mem.le_refl _, ?_⟩ | fail)
  exact ⟨rfl, rfl⟩
structure IdT where
  o : Int
  d : Int
  e : Int
  c : Int
@[reducible] def idCs (i : IdT) : List Value := [.int .i64 i.o, .int .i64 i.d, .int .i64 i.e, .int .i64 i.c]
/-- an added id: what lies there now, said in one -/
structure SetOk (M : Mem) (p b : Nat) (gaps : Int) (es : List ((Int × Int) × Ent)) : Prop where
  at' : SetAt M p b gaps es
  good : GoodE es
  sorted : ∀ q ∈ es, q.2.more.Pairwise (· < ·)
theorem awake_ok : CallsM Try.prog F.law14_awake [] M fun v M' => v = .bool true ∧ M.le M' := by
  refine fo_law14_awake (by simp) ?_
  (conv => whnf); refine (New_ok 3).mono ?_
  rintro v M1 (⟨h, -⟩ | ⟨-, p, b, rfl, hp, hb, hle1, h1⟩)
  · omega
  repeat' ((conv => whnf); first | refine ⟨?_, True.intro⟩ | refine brn_t rfl ?_ | refine brn_f rfl ?_ | refine ob rfl ?_ | refine ob (by decide) ?_ | refine grow_same (Mem.le_refl _) ?_ | refine ob (Mem.le_refl _) ?_ | refine ⟨_, Mem.le_refl _, ?_⟩ | fail)
  have hB : ∀ y, setB p b [] y → M y = none := fun y hy => by
    rcases hy with rfl | rfl | ⟨q, hq, _⟩
    · exact hp
    · exact hb
    · cases hq
  (conv => whnf); refine (Add_ok h1 (by decide) (by simp [GoodE]) (by simp) 0 1 1 1).mono ?_
  rintro v M2 ⟨rfl, ⟨hne, -⟩ | ⟨hz, hk2, x, h2, hx, hown⟩⟩
  · exact absurd (by decide) hne
  rw [hz]
  obtain ⟨hxu, hxm⟩ : x.up = 1 ∧ x.more = [] := by
    have e : addE [] 0 1 1 = (1, []) := by decide
    rw [e] at hx
    exact ⟨congrArg Prod.fst hx, congrArg Prod.snd hx⟩
  have hle2 : M.le M2 := hk2.le hle1 hB
  have hput : aput [] ((0 : Int), (1 : Int)) x = [((0, 1), x)] := rfl
  rw [hput] at h2
  have hgd : GoodE [((0, 1), x)] := by simp [GoodE, hxu]
  have hso : ∀ q ∈ [(((0 : Int), (1 : Int)), x)], q.2.more.Pairwise (· < ·) := by simp [hxm]
  have hg2 : gapsE [((0, 1), x)] = 0 := by simp [gapsE, hxm]
  have hh2 : hasE [((0, 1), x)] 0 1 1 1 = true := by simp [hasE, upOf, aget, hxu]; decide
  repeat' ((conv => whnf); first | refine ⟨?_, True.intro⟩ | refine brn_t rfl ?_ | refine brn_f rfl ?_ | refine ob rfl ?_ | refine ob (by decide) ?_ | refine grow_same (Mem.le_refl _) ?_ | refine ob (Mem.le_refl _) ?_ | refine ⟨_, Mem.le_refl _, ?_⟩ | fail)
  refine (Has_ok h2 (by omega) 0 1 1 1).mono ?_
  rintro v M3 ⟨rfl, hle3⟩
  rw [hh2]
  have hm2 : mayE 3 [((0, 1), x)] 0 1 1 1 = 5 := by unfold mayE; rw [hh2, if_neg (by decide), if_pos rfl]
  repeat' ((conv => whnf); first | refine ⟨?_, True.intro⟩ | refine brn_t rfl ?_ | refine brn_f rfl ?_ | refine ob rfl ?_ | refine ob (by decide) ?_ | refine grow_same (Mem.le_refl _) ?_ | refine ob (Mem.le_refl _) ?_ | refine ⟨_, Mem.le_refl _, ?_⟩ | fail)
  refine (Add_ok (h2.le hle3) (by omega) hgd hso 0 1 1 1).mono ?_
  rintro v M4 ⟨rfl, ⟨-, hle4⟩ | ⟨hz2, -⟩⟩
  rotate_left
  · exact absurd (hm2.symm.trans hz2) (by decide)
  rw [hm2]
  repeat' ((conv => whnf); first | refine ⟨?_, True.intro⟩ | refine brn_t rfl ?_ | refine brn_f rfl ?_ | refine ob rfl ?_ | refine ob (by decide) ?_ | refine grow_same (Mem.le_refl _) ?_ | refine ob (Mem.le_refl _) ?_ | refine ⟨_, Mem.le_refl _, ?_⟩ | fail)
  exact ⟨rfl, Mem.le_trans hle2 (Mem.le_trans hle3 hle4)⟩
theorem nil_law (o d e c : Int) : CallsM Try.prog F.law14_SeenNil [idV o d e c] M fun v M' => v = .bool true ∧ M.le M' := by
  refine fo_law14_SeenNil (by simp) ?_
  (conv => whnf); refine (nilMay o d e c).mono ?_
  rintro v _ ⟨rfl, rfl⟩
  repeat' ((conv => whnf); first | refine ⟨?_, True.intro⟩ | refine brn_t rfl ?_ | refine brn_f rfl ?_ | refine ob rfl ?_ | refine ob (by decide) ?_ | refine grow_same (Mem.le_refl _) ?_ | refine ob (Mem.le_refl _) ?_ | refine ⟨_, Mem.le_refl _, ?_⟩ | fail)
  refine (nilAdd o d e c).mono ?_
  rintro v _ ⟨rfl, rfl⟩
  repeat' ((conv => whnf); first | refine ⟨?_, True.intro⟩ | refine brn_t rfl ?_ | refine brn_f rfl ?_ | refine ob rfl ?_ | refine ob (by decide) ?_ | refine grow_same (Mem.le_refl _) ?_ | refine ob (Mem.le_refl _) ?_ | refine ⟨_, Mem.le_refl _, ?_⟩ | fail)
  refine (nilHas o d e c).mono ?_
  rintro v _ ⟨rfl, rfl⟩
  repeat' ((conv => whnf); first | refine ⟨?_, True.intro⟩ | refine brn_t rfl ?_ | refine brn_f rfl ?_ | refine ob rfl ?_ | refine ob (by decide) ?_ | refine grow_same (Mem.le_refl _) ?_ | refine ob (Mem.le_refl _) ?_ | refine ⟨_, Mem.le_refl _, ?_⟩ | fail)
  refine nilMarks.mono ?_
  rintro v _ ⟨rfl, rfl⟩
  repeat' ((conv => whnf); first | refine ⟨?_, True.intro⟩ | refine brn_t rfl ?_ | refine brn_f rfl ?_ | refine ob rfl ?_ | refine ob (by decide) ?_ | refine grow_same (Mem.le_refl _) ?_ | refine ob (Mem.le_refl _) ?_ | refine ⟨_, Mem.le_refl _, ?_⟩ | fail)
  refine nilGaps.mono ?_
  rintro v _ ⟨rfl, rfl⟩
  repeat' ((conv => whnf); first | refine ⟨?_, True.intro⟩ | refine brn_t rfl ?_ | refine brn_f rfl ?_ | refine ob rfl ?_ | refine ob (by decide) ?_ | refine grow_same (Mem.le_refl _) ?_ | refine ob (Mem.le_refl _) ?_ | refine ⟨_, Mem.le_refl _, ?_⟩ | fail)
  refine nilClone.mono ?_
  rintro v _ ⟨rfl, rfl⟩
  repeat' ((conv => whnf); first | refine ⟨?_, True.intro⟩ | refine brn_t rfl ?_ | refine brn_f rfl ?_ | refine ob rfl ?_ | refine ob (by decide) ?_ | refine grow_same (Mem.le_refl _) ?_ | refine ob (Mem.le_refl _) ?_ | refine ⟨_, Mem.le_refl _, ?_⟩ | fail)
  refine awake_ok.mono ?_
  rintro v M1 ⟨rfl, hle⟩
  repeat' ((conv => whnf); first | refine ⟨?_, True.intro⟩ | refine brn_t rfl ?_ | refine brn_f rfl ?_ | refine ob rfl ?_ | refine ob (by decide) ?_ | refine grow_same (Mem.le_refl _) ?_ | refine ob (Mem.le_refl _) ?_ | refine ⟨_, Mem.le_refl _, ?_⟩ | fail)
  exact ⟨rfl, hle⟩
end Go.Proofs.Ytmifjilknojkaaa
