/- The store: in, form, New, Fresh, Find. -/
import Derived.Test.YtlocjjponfbhmaaGreatJoin20
namespace Go.Proofs.YtlocjjponfbhmaaGreat
open Go Go.Vm
attribute [local irreducible] Brn Ob Grow CallsM inR LoopVC Mem.row Mem.cells Mem.setCells Mem.upd Own AppVC SrcVC StrVC NextVC New SrcOk subA NewSl Mem.textAt Mem.mapAt Mem.iterAt entryOf kfind Wr NewEls Elems
set_option maxRecDepth 10000
variable {M : Mem} {p b sp sb : Nat} {S : StR} {came : Int} {xs : HsT} {es : EsT}
theorem inS_ok (n most : Int) : CallsM Tryz.prog F.store_in [.int .i64 n, .int .i64 most] M fun v M' => v = .bool (decide (0 ≤ n ∧ n ≤ most)) ∧ M = M' := by
  refine fo_store_in (by simp) ?_
  (conv => whnf); refine brn (fun h => ?_) (fun h => ?_)
  all_goals (conv => whnf)
  · exact ⟨by have := of_decide_eq_true h; simp_all, rfl⟩
  · exact ⟨by have := of_decide_eq_false h; simp_all; omega, rfl⟩
theorem form_ok (k : Int) (i : IdT) (a : Option Addr) (n c : Nat) : CallsM Tryz.prog F.store_form [.agg #[.int .i64 k, .int .i64 i.o, .int .i64 i.d, .int .i64 i.e, .int .i64 i.c, .slice a n c]] M fun v M' => v = .int .i64 (formD k i n) ∧ M = M' := by
  refine fo_store_form (by simp) ?_
  (conv => whnf); refine brn (fun h => ?_) (fun h => ?_)
  · have h' : k = 1 := of_decide_eq_true h
    subst h'
    repeat' ((conv => whnf); first | refine ⟨?_, True.intro⟩ | refine brn_t rfl ?_ | refine brn_f rfl ?_ | refine ob rfl ?_ | refine ob (by decide) ?_ | refine grow_same (Mem.le_refl _) ?_ | refine ob (Mem.le_refl _) ?_ | refine ⟨_, Mem.le_refl _, ?_⟩ | fail)
    refine brn (fun g => ?_) (fun g => ?_)
    · have g1 : ¬ zeroId i := by unfold zeroId; simp at g; omega
      repeat' ((conv => whnf); first | refine ⟨?_, True.intro⟩ | refine brn_t rfl ?_ | refine brn_f rfl ?_ | refine ob rfl ?_ | refine ob (by decide) ?_ | refine grow_same (Mem.le_refl _) ?_ | refine ob (Mem.le_refl _) ?_ | refine ⟨_, Mem.le_refl _, ?_⟩ | fail)
      exact ⟨by unfold formD; rw [if_pos rfl, if_pos (.inl g1)], rfl⟩
    have g1 : zeroId i := by unfold zeroId; simp at g; omega
    (conv => whnf); refine brn (fun g2 => ?_) (fun g2 => ?_)
    · have g3 : 0 < n := by have := of_decide_eq_true g2; omega
      repeat' ((conv => whnf); first | refine ⟨?_, True.intro⟩ | refine brn_t rfl ?_ | refine brn_f rfl ?_ | refine ob rfl ?_ | refine ob (by decide) ?_ | refine grow_same (Mem.le_refl _) ?_ | refine ob (Mem.le_refl _) ?_ | refine ⟨_, Mem.le_refl _, ?_⟩ | fail)
      exact ⟨by unfold formD; rw [if_pos rfl, if_pos (.inr g3)], rfl⟩
    · have g3 : ¬ 0 < n := by have := of_decide_eq_false g2; omega
      repeat' ((conv => whnf); first | refine ⟨?_, True.intro⟩ | refine brn_t rfl ?_ | refine brn_f rfl ?_ | refine ob rfl ?_ | refine ob (by decide) ?_ | refine grow_same (Mem.le_refl _) ?_ | refine ob (Mem.le_refl _) ?_ | refine ⟨_, Mem.le_refl _, ?_⟩ | fail)
      exact ⟨by unfold formD; rw [if_pos rfl, if_neg (by simp [g1, g3])], rfl⟩
  (conv => whnf); refine brn (fun h2 => ?_) (fun h2 => ?_)
  · have h' : k = 2 := of_decide_eq_true h2
    subst h'
    repeat' ((conv => whnf); first | refine ⟨?_, True.intro⟩ | refine brn_t rfl ?_ | refine brn_f rfl ?_ | refine ob rfl ?_ | refine ob (by decide) ?_ | refine grow_same (Mem.le_refl _) ?_ | refine ob (Mem.le_refl _) ?_ | refine ⟨_, Mem.le_refl _, ?_⟩ | fail)
    refine (checkMsg_ok _ _ _ _ _ _ _ _).mono ?_
    rintro v _ ⟨rfl, rfl⟩
    repeat' ((conv => whnf); first | refine ⟨?_, True.intro⟩ | refine brn_t rfl ?_ | refine brn_f rfl ?_ | refine ob rfl ?_ | refine ob (by decide) ?_ | refine grow_same (Mem.le_refl _) ?_ | refine ob (Mem.le_refl _) ?_ | refine ⟨_, Mem.le_refl _, ?_⟩ | fail)
    exact ⟨rfl, rfl⟩
  have e1 : ¬ k = 1 := of_decide_eq_false h
  have e2 : ¬ k = 2 := of_decide_eq_false h2
  (conv => whnf); refine brn (fun h3 => ?_) (fun h3 => ?_)
  · have e3 : k = 3 := of_decide_eq_true h3
    (conv => whnf); refine brn_t h3 ?_
    (conv => whnf)
    repeat' ((conv => whnf); first | refine ⟨?_, True.intro⟩ | refine brn_t rfl ?_ | refine brn_f rfl ?_ | refine ob rfl ?_ | refine ob (by decide) ?_ | refine grow_same (Mem.le_refl _) ?_ | refine ob (Mem.le_refl _) ?_ | refine ⟨_, Mem.le_refl _, ?_⟩ | fail)
    refine (check_ok _ _ _ _ _).mono ?_
    rintro v _ ⟨rfl, rfl⟩
    (conv => whnf); refine brn (fun g => ?_) (fun g => ?_)
    · have g' : ¬ idErrD i = 0 := by simpa using g
      repeat' ((conv => whnf); first | refine ⟨?_, True.intro⟩ | refine brn_t rfl ?_ | refine brn_f rfl ?_ | refine ob rfl ?_ | refine ob (by decide) ?_ | refine grow_same (Mem.le_refl _) ?_ | refine ob (Mem.le_refl _) ?_ | refine ⟨_, Mem.le_refl _, ?_⟩ | fail)
      exact ⟨by unfold formD; rw [if_neg e1, if_neg e2, if_pos (by omega), if_pos g'], rfl⟩
    have g' : idErrD i = 0 := by simpa using g
    (conv => whnf); refine brn (fun g2 => ?_) (fun g2 => ?_)
    · have g3 : 0 < n := by have := of_decide_eq_true g2; omega
      repeat' ((conv => whnf); first | refine ⟨?_, True.intro⟩ | refine brn_t rfl ?_ | refine brn_f rfl ?_ | refine ob rfl ?_ | refine ob (by decide) ?_ | refine grow_same (Mem.le_refl _) ?_ | refine ob (Mem.le_refl _) ?_ | refine ⟨_, Mem.le_refl _, ?_⟩ | fail)
      exact ⟨by unfold formD; rw [if_neg e1, if_neg e2, if_pos (by omega), if_neg (by simp [g']), if_pos g3], rfl⟩
    · have g3 : ¬ 0 < n := by have := of_decide_eq_false g2; omega
      repeat' ((conv => whnf); first | refine ⟨?_, True.intro⟩ | refine brn_t rfl ?_ | refine brn_f rfl ?_ | refine ob rfl ?_ | refine ob (by decide) ?_ | refine grow_same (Mem.le_refl _) ?_ | refine ob (Mem.le_refl _) ?_ | refine ⟨_, Mem.le_refl _, ?_⟩ | fail)
      exact ⟨by unfold formD; rw [if_neg e1, if_neg e2, if_pos (by omega), if_neg (by simp [g']), if_neg g3], rfl⟩
  have e3 : ¬ k = 3 := of_decide_eq_false h3
  (conv => whnf); refine brn (fun h4 => ?_) (fun h4 => ?_)
  · have e4 : k = 4 := of_decide_eq_true h4
    (conv => whnf)
    repeat' ((conv => whnf); first | refine ⟨?_, True.intro⟩ | refine brn_t rfl ?_ | refine brn_f rfl ?_ | refine ob rfl ?_ | refine ob (by decide) ?_ | refine grow_same (Mem.le_refl _) ?_ | refine ob (Mem.le_refl _) ?_ | refine ⟨_, Mem.le_refl _, ?_⟩ | fail)
    refine (check_ok _ _ _ _ _).mono ?_
    rintro v _ ⟨rfl, rfl⟩
    (conv => whnf); refine brn (fun g => ?_) (fun g => ?_)
    · have g' : ¬ idErrD i = 0 := by simpa using g
      repeat' ((conv => whnf); first | refine ⟨?_, True.intro⟩ | refine brn_t rfl ?_ | refine brn_f rfl ?_ | refine ob rfl ?_ | refine ob (by decide) ?_ | refine grow_same (Mem.le_refl _) ?_ | refine ob (Mem.le_refl _) ?_ | refine ⟨_, Mem.le_refl _, ?_⟩ | fail)
      exact ⟨by unfold formD; rw [if_neg e1, if_neg e2, if_pos (by omega), if_pos g'], rfl⟩
    have g' : idErrD i = 0 := by simpa using g
    (conv => whnf); refine brn (fun g2 => ?_) (fun g2 => ?_)
    · have g3 : 0 < n := by have := of_decide_eq_true g2; omega
      repeat' ((conv => whnf); first | refine ⟨?_, True.intro⟩ | refine brn_t rfl ?_ | refine brn_f rfl ?_ | refine ob rfl ?_ | refine ob (by decide) ?_ | refine grow_same (Mem.le_refl _) ?_ | refine ob (Mem.le_refl _) ?_ | refine ⟨_, Mem.le_refl _, ?_⟩ | fail)
      exact ⟨by unfold formD; rw [if_neg e1, if_neg e2, if_pos (by omega), if_neg (by simp [g']), if_pos g3], rfl⟩
    · have g3 : ¬ 0 < n := by have := of_decide_eq_false g2; omega
      repeat' ((conv => whnf); first | refine ⟨?_, True.intro⟩ | refine brn_t rfl ?_ | refine brn_f rfl ?_ | refine ob rfl ?_ | refine ob (by decide) ?_ | refine grow_same (Mem.le_refl _) ?_ | refine ob (Mem.le_refl _) ?_ | refine ⟨_, Mem.le_refl _, ?_⟩ | fail)
      exact ⟨by unfold formD; rw [if_neg e1, if_neg e2, if_pos (by omega), if_neg (by simp [g']), if_neg g3], rfl⟩
  · have e4 : ¬ k = 4 := of_decide_eq_false h4
    repeat' ((conv => whnf); first | refine ⟨?_, True.intro⟩ | refine brn_t rfl ?_ | refine brn_f rfl ?_ | refine ob rfl ?_ | refine ob (by decide) ?_ | refine grow_same (Mem.le_refl _) ?_ | refine ob (Mem.le_refl _) ?_ | refine ⟨_, Mem.le_refl _, ?_⟩ | fail)
    exact ⟨by unfold formD; rw [if_neg e1, if_neg e2, if_neg (by omega)], rfl⟩
/-- a store whose blocks are new to M0 -/
structure FreshSt (M0 M : Mem) (p b sp sb : Nat) (S : StR) (came : Int) (xs : HsT) (es : EsT) : Prop where
  le : M0.le M
  at' : StAt M p b sp sb S came xs es
  inv : InvS S
  invE : InvE es
  room : (gapsE es : Int) ≤ S.qg ∧ S.qg ≤ 256
  fresh : ∀ y, stB p b sp sb xs es y → M0 y = none
def badD (self qh qb qg : Int) : Prop := ¬ (0 ≤ self ∧ self ≤ 63) ∨ ¬ (0 ≤ qh ∧ qh ≤ 256) ∨ ¬ (0 ≤ qb ∧ qb ≤ 1048576) ∨ ¬ (0 ≤ qg ∧ qg ≤ 256)
def newD (self qh qb qg : Int) : StR := ⟨self, qh, qb, qg, 0, List.replicate 64 0, []⟩
theorem newD_inv {self qh qb qg : Int} (h : ¬ badD self qh qb qg) : InvS (newD self qh qb qg) := by
  unfold badD at h
  refine ⟨?_, ?_, ?_, ?_, ?_, ?_, ?_, ?_⟩ <;> simp [newD, bytesD] <;> omega
theorem New15_ok (self qh qb qg : Int) : CallsM Tryz.prog F.store_New [.int .i64 self, .agg #[.int .i64 qh, .int .i64 qb, .int .i64 qg]] M fun v M' =>
    (badD self qh qb qg ∧ v = .tuple #[.pointer none, .int .i64 1] ∧ M = M') ∨
    (¬ badD self qh qb qg ∧ ∃ p b sp sb, v = .tuple #[ptr p, .int .i64 0] ∧ FreshSt M M' p b sp sb (newD self qh qb qg) 0 [] []) := by
  refine fo_store_New (by simp) ?_
  repeat' ((conv => whnf); first | refine ⟨?_, True.intro⟩ | refine brn_t rfl ?_ | refine brn_f rfl ?_ | refine ob rfl ?_ | refine ob (by decide) ?_ | refine grow_same (Mem.le_refl _) ?_ | refine ob (Mem.le_refl _) ?_ | refine ⟨_, Mem.le_refl _, ?_⟩ | fail)
  refine (inS_ok _ _).mono ?_
  rintro v _ ⟨rfl, rfl⟩
  (conv => whnf); refine brn (fun g => ?_) (fun g => ?_)
  · (conv => whnf)
    repeat' ((conv => whnf); first | refine ⟨?_, True.intro⟩ | refine brn_t rfl ?_ | refine brn_f rfl ?_ | refine ob rfl ?_ | refine ob (by decide) ?_ | refine grow_same (Mem.le_refl _) ?_ | refine ob (Mem.le_refl _) ?_ | refine ⟨_, Mem.le_refl _, ?_⟩ | fail)
    exact .inl ⟨by unfold badD; simp only [Bool.not_eq_true', decide_eq_false_iff_not] at *; omega, rfl, rfl⟩
  (conv => whnf); refine (inS_ok _ _).mono ?_
  rintro v _ ⟨rfl, rfl⟩
  (conv => whnf); refine brn (fun g1 => ?_) (fun g1 => ?_)
  · (conv => whnf)
    repeat' ((conv => whnf); first | refine ⟨?_, True.intro⟩ | refine brn_t rfl ?_ | refine brn_f rfl ?_ | refine ob rfl ?_ | refine ob (by decide) ?_ | refine grow_same (Mem.le_refl _) ?_ | refine ob (Mem.le_refl _) ?_ | refine ⟨_, Mem.le_refl _, ?_⟩ | fail)
    exact .inl ⟨by unfold badD; simp only [Bool.not_eq_true', decide_eq_false_iff_not] at *; omega, rfl, rfl⟩
  (conv => whnf); refine (inS_ok _ _).mono ?_
  rintro v _ ⟨rfl, rfl⟩
  (conv => whnf); refine brn (fun g2 => ?_) (fun g2 => ?_)
  · (conv => whnf)
    repeat' ((conv => whnf); first | refine ⟨?_, True.intro⟩ | refine brn_t rfl ?_ | refine brn_f rfl ?_ | refine ob rfl ?_ | refine ob (by decide) ?_ | refine grow_same (Mem.le_refl _) ?_ | refine ob (Mem.le_refl _) ?_ | refine ⟨_, Mem.le_refl _, ?_⟩ | fail)
    exact .inl ⟨by unfold badD; simp only [Bool.not_eq_true', decide_eq_false_iff_not] at *; omega, rfl, rfl⟩
  (conv => whnf); refine (inS_ok _ _).mono ?_
  rintro v _ ⟨rfl, rfl⟩
  (conv => whnf); refine brn (fun g3 => ?_) (fun g3 => ?_)
  · (conv => whnf)
    repeat' ((conv => whnf); first | refine ⟨?_, True.intro⟩ | refine brn_t rfl ?_ | refine brn_f rfl ?_ | refine ob rfl ?_ | refine ob (by decide) ?_ | refine grow_same (Mem.le_refl _) ?_ | refine ob (Mem.le_refl _) ?_ | refine ⟨_, Mem.le_refl _, ?_⟩ | fail)
    exact .inl ⟨by unfold badD; simp only [Bool.not_eq_true', decide_eq_false_iff_not] at *; omega, rfl, rfl⟩
  have hn : ¬ badD self qh qb qg := by
    unfold badD
    simp only [Bool.not_eq_false', decide_eq_true_eq] at *
    omega
  repeat' ((conv => whnf); first | refine ⟨?_, True.intro⟩ | refine brn_t rfl ?_ | refine brn_f rfl ?_ | refine ob rfl ?_ | refine ob (by decide) ?_ | refine grow_same (Mem.le_refl _) ?_ | refine ob (Mem.le_refl _) ?_ | refine ⟨_, Mem.le_refl _, ?_⟩ | fail)
  refine (newS qg).mono ?_
  rintro v M1 (⟨h, -⟩ | ⟨-, sp, sb, rfl, h1⟩)
  · unfold badD at hn; omega
  repeat' ((conv => whnf); first | refine ⟨?_, True.intro⟩ | refine brn_t rfl ?_ | refine brn_f rfl ?_ | refine ob rfl ?_ | refine ob (by decide) ?_ | refine grow_same (Mem.le_refl _) ?_ | refine ob (Mem.le_refl _) ?_ | refine ⟨_, Mem.le_refl _, ?_⟩ | fail)
  refine new (fun b hb => ?_)
  replace hb : M1 b = none := hb
  (conv => whnf); refine new (fun p hp => ?_)
  replace hp : (M1.upd b (.map #[] 0)) p = none := hp
  have hne : p ≠ b := fun e => by subst e; rw [Mem.upd_same] at hp; cases hp
  rw [Mem.upd_ne _ _ hne] at hp
  (conv => whnf)
  refine .inr ⟨hn, p, b, sp, sb, rfl, ?_⟩
  have hq : M1.le (M1.upd b (.map #[] 0)) := Mem.le_upd hb
  have hp' : (M1.upd b (.map #[] 0)) p = none := by rw [Mem.upd_ne _ _ hne]; exact hp
  have hq2 : (M1.upd b (.map #[] 0)).le ((M1.upd b (.map #[] 0)).setCells p T.store_Store (stCs (newD self qh qb qg) b 0 0 sp)) := Mem.le_setCells hp'
  have hsl := h1.at'.le (Mem.le_trans hq hq2)
  have hnb : b ≠ sb := fun e => by
    subst e
    obtain ⟨l, c, hh, _⟩ := h1.at'.map
    rw [hh] at hb; cases hb
  have lo : ∀ y, M1 y = none → M y = none := fun y hy => by
    cases e : M y with
    | none => rfl
    | some o => rw [h1.le y o e] at hy; cases hy
  refine ⟨Mem.le_trans h1.le (Mem.le_trans hq hq2), ⟨Mem.has_setCells, (MapAt.new M1 b).mono fun o ho => hq2 _ _ ho, by simp, hsl, rfl, by simp, by simp, by simp, hnb⟩, newD_inv hn, InvE.nil, h1.room, fun y hy => ?_⟩
  rcases hy with rfl | rfl | ⟨q, hq, _⟩ | hy
  · exact lo _ hp
  · exact lo _ hb
  · cases hq
  · exact h1.fresh y hy
end Go.Proofs.YtlocjjponfbhmaaGreat

/- The store: Fresh, Find. -/
namespace Go.Proofs.YtlocjjponfbhmaaGreat
open Go Go.Vm
attribute [local irreducible] Brn Ob Grow CallsM inR LoopVC Mem.row Mem.cells Mem.setCells Mem.upd Own AppVC SrcVC StrVC NextVC New SrcOk subA NewSl Mem.textAt Mem.mapAt Mem.iterAt entryOf kfind Wr NewEls Elems
set_option maxRecDepth 10000
variable {M : Mem} {p b sp sb : Nat} {S : StR} {came : Int} {xs : HsT} {es : EsT}
def freshD (S : StR) (d : Int) : IdT × Int :=
  if S.epoch = 0 then (⟨0, 0, 0, 0⟩, 7) else if ¬ (0 ≤ d ∧ d ≤ 63) then (⟨0, 0, 0, 0⟩, 1) else if d = S.self then (⟨0, 0, 0, 0⟩, 2)
  else if lastD S d = 65535 then (⟨0, 0, 0, 0⟩, 10) else (⟨S.self, d, S.epoch, lastD S d + 1⟩, 0)
theorem lastD_range (hI : InvS S) (d : Int) : 0 ≤ lastD S d ∧ lastD S d ≤ 65535 := by
  unfold lastD
  rw [List.getD_eq_getElem?_getD]
  cases h : S.used[d.toNat]? with
  | none => simp
  | some x => exact hI.used x (List.mem_of_getElem? h)
theorem Fresh_ok (h : StAt M p b sp sb S came xs es) (hI : InvS S) (d : Int) : CallsM Tryz.prog F.store_Store_Fresh [ptr p, .int .i64 d] M fun v M' =>
    v = .tuple #[idA (freshD S d).1, .int .i64 (freshD S d).2] ∧ M = M' := by
  refine fo_store_Store_Fresh (by simp) ?_
  have hr := lastD_range hI d
  repeat' ((conv => whnf); first | refine ⟨?_, True.intro⟩ | refine brn_t rfl ?_ | refine brn_f rfl ?_ | refine ob rfl ?_ | refine ob (by decide) ?_ | refine grow_same (Mem.le_refl _) ?_ | refine ob (Mem.le_refl _) ?_ | refine ⟨_, Mem.le_refl _, ?_⟩ | fail)
  refine on (h.self.c1 rfl) ?_
  (conv => whnf); refine brn (fun g => ?_) (fun g => ?_)
  · have g1 : S.epoch = 0 := of_decide_eq_true g
    repeat' ((conv => whnf); first | refine ⟨?_, True.intro⟩ | refine brn_t rfl ?_ | refine brn_f rfl ?_ | refine ob rfl ?_ | refine ob (by decide) ?_ | refine grow_same (Mem.le_refl _) ?_ | refine ob (Mem.le_refl _) ?_ | refine ⟨_, Mem.le_refl _, ?_⟩ | fail)
    exact ⟨by unfold freshD; rw [if_pos g1], rfl⟩
  have g1 : ¬ S.epoch = 0 := of_decide_eq_false g
  repeat' ((conv => whnf); first | refine ⟨?_, True.intro⟩ | refine brn_t rfl ?_ | refine brn_f rfl ?_ | refine ob rfl ?_ | refine ob (by decide) ?_ | refine grow_same (Mem.le_refl _) ?_ | refine ob (Mem.le_refl _) ?_ | refine ⟨_, Mem.le_refl _, ?_⟩ | fail)
  refine (inS_ok _ _).mono ?_
  rintro v _ ⟨rfl, rfl⟩
  (conv => whnf); refine brn (fun g2 => ?_) (fun g2 => ?_)
  · have g3 : ¬ (0 ≤ d ∧ d ≤ 63) := by simp at g2; omega
    repeat' ((conv => whnf); first | refine ⟨?_, True.intro⟩ | refine brn_t rfl ?_ | refine brn_f rfl ?_ | refine ob rfl ?_ | refine ob (by decide) ?_ | refine grow_same (Mem.le_refl _) ?_ | refine ob (Mem.le_refl _) ?_ | refine ⟨_, Mem.le_refl _, ?_⟩ | fail)
    exact ⟨by unfold freshD; rw [if_neg g1, if_pos g3], rfl⟩
  have g3 : 0 ≤ d ∧ d ≤ 63 := by simpa using g2
  (conv => whnf); refine on (h.self.c1 rfl) ?_
  (conv => whnf); refine brn (fun g4 => ?_) (fun g4 => ?_)
  · have g5 : d = S.self := of_decide_eq_true g4
    repeat' ((conv => whnf); first | refine ⟨?_, True.intro⟩ | refine brn_t rfl ?_ | refine brn_f rfl ?_ | refine ob rfl ?_ | refine ob (by decide) ?_ | refine grow_same (Mem.le_refl _) ?_ | refine ob (Mem.le_refl _) ?_ | refine ⟨_, Mem.le_refl _, ?_⟩ | fail)
    exact ⟨by unfold freshD; rw [if_neg g1, if_neg (by omega), if_pos g5], rfl⟩
  have g5 : ¬ d = S.self := of_decide_eq_false g4
  obtain ⟨k, rfl⟩ : ∃ k : Nat, d = k := ⟨d.toNat, by omega⟩
  have hk : M.row p (0 + 0 + 5 + ((k : Int)).toNat * 1) 1 = some [.int .i64 (lastD S k)] := by
    have := h.self.c1 (stCs_used hI.ulen b came (bytesD S.l) sp (d := k) (by omega))
    rw [show 0 + 0 + 5 + ((k : Int)).toNat * 1 = 5 + k by omega]; exact this
  (conv => whnf); refine ob (by omega) ?_
  (conv => whnf); refine on hk ?_
  (conv => whnf); refine brn (fun g6 => ?_) (fun g6 => ?_)
  · have g7 : lastD S k = 65535 := of_decide_eq_true g6
    repeat' ((conv => whnf); first | refine ⟨?_, True.intro⟩ | refine brn_t rfl ?_ | refine brn_f rfl ?_ | refine ob rfl ?_ | refine ob (by decide) ?_ | refine grow_same (Mem.le_refl _) ?_ | refine ob (Mem.le_refl _) ?_ | refine ⟨_, Mem.le_refl _, ?_⟩ | fail)
    exact ⟨by unfold freshD; rw [if_neg g1, if_neg (by omega), if_neg g5, if_pos g7], rfl⟩
  have g7 : ¬ lastD S k = 65535 := of_decide_eq_false g6
  (conv => whnf); refine on (h.self.c1 rfl) ?_
  (conv => whnf); refine on (h.self.c1 rfl) ?_
  (conv => whnf); refine ob (by omega) ?_
  (conv => whnf); refine on hk ?_
  (conv => whnf); refine ob (inR_i64 (by omega)) ?_
  repeat' ((conv => whnf); first | refine ⟨?_, True.intro⟩ | refine brn_t rfl ?_ | refine brn_f rfl ?_ | refine ob rfl ?_ | refine ob (by decide) ?_ | refine grow_same (Mem.le_refl _) ?_ | refine ob (Mem.le_refl _) ?_ | refine ⟨_, Mem.le_refl _, ?_⟩ | fail)
  exact ⟨by unfold freshD; rw [if_neg g1, if_neg (by omega), if_neg g5, if_neg g7], rfl⟩
theorem aget_held (h : StAt M p b sp sb S came xs es) (i : IdT) : (aget xs i = none ∧ hasD S.l i = false ∧ ∀ m ∈ S.l, m.id ≠ i) ∨ (∃ x, aget xs i = some x ∧ x.id = i ∧ hasD S.l i = true ∧ x.msg ∈ S.l) := by
  cases e : aget xs i with
  | none =>
    have hn : ∀ m ∈ S.l, m.id ≠ i := fun m hm he => by
      rw [← h.held] at hm
      obtain ⟨q, hq, rfl⟩ := List.mem_map.1 hm
      exact aget_none.1 e (List.mem_map.2 ⟨q, hq, by rw [← h.keys q hq]; exact he⟩)
    refine .inl ⟨rfl, ?_, hn⟩
    unfold hasD
    rw [List.any_eq_false]
    intro m hm
    simpa using hn m hm
  | some x =>
    have hm := aget_mem e
    have hx : x.id = i := h.keys _ hm
    have hl : x.msg ∈ S.l := by rw [← h.held]; exact List.mem_map.2 ⟨_, hm, rfl⟩
    refine .inr ⟨x, rfl, hx, ?_, hl⟩
    unfold hasD
    rw [List.any_eq_true]
    exact ⟨_, hl, by simp [hx]⟩
def findD (l : List MsgD) (i : IdT) : Option MsgD := l.find? fun m => decide (m.id = i)
theorem Find_ok (h : StAt M p b sp sb S came xs es) (hI : InvS S) (i : IdT) : CallsM Tryz.prog F.store_Store_Find [ptr p, idA i] M fun v M' =>
    (v = .tuple #[.agg #[.int .i64 0, .int .i64 0, .int .i64 0, .int .i64 0, .slice none 0 0], .bool false] ∧ hasD S.l i = false ∧ M = M') ∨
    (∃ a n c l, v = .tuple #[.agg #[.int .i64 i.o, .int .i64 i.d, .int .i64 i.e, .int .i64 i.c, .slice a n c], .bool true] ∧ hasD S.l i = true ∧ ⟨i, l⟩ ∈ S.l ∧ NewSl M T.uint8 1 a n c (l.map byteV) M') := by
  refine fo_store_Store_Find (by simp) ?_
  repeat' ((conv => whnf); first | refine ⟨?_, True.intro⟩ | refine brn_t rfl ?_ | refine brn_f rfl ?_ | refine ob rfl ?_ | refine ob (by decide) ?_ | refine grow_same (Mem.le_refl _) ?_ | refine ob (Mem.le_refl _) ?_ | refine ⟨_, Mem.le_refl _, ?_⟩ | fail)
  refine on (h.self.c1 (stCs_map hI.ulen ..)) ?_
  (conv => whnf)
  refine h.map.get idK i (fun hn => ?_) (fun x j hx => ?_)
  · rcases aget_held h i with ⟨_, h0, _⟩ | ⟨x, hx, _⟩
    rotate_left
    · rw [hn] at hx; cases hx
    repeat' ((conv => whnf); first | refine ⟨?_, True.intro⟩ | refine brn_t rfl ?_ | refine brn_f rfl ?_ | refine ob rfl ?_ | refine ob (by decide) ?_ | refine grow_same (Mem.le_refl _) ?_ | refine ob (Mem.le_refl _) ?_ | refine ⟨_, Mem.le_refl _, ?_⟩ | fail)
    exact .inl ⟨rfl, h0, rfl⟩
  · rcases aget_held h i with ⟨hn, _⟩ | ⟨x', hx', hxi, h0, hm⟩
    · rw [hx] at hn; cases hn
    rw [hx] at hx'
    cases hx'
    have hd := h.data _ (aget_mem hx)
    have hpl : x.p.length ≤ 48 := by
      have : msgErrD x.id x.p.length = 0 := (hI.msgs _ hm).1
      unfold msgErrD msgErr at this
      repeat' split at this
      all_goals omega
    repeat' ((conv => whnf); first | refine ⟨?_, True.intro⟩ | refine brn_t rfl ?_ | refine brn_f rfl ?_ | refine ob rfl ?_ | refine ob (by decide) ?_ | refine grow_same (Mem.le_refl _) ?_ | refine ob (Mem.le_refl _) ?_ | refine ⟨_, Mem.le_refl _, ?_⟩ | fail)
    refine new (fun b2 hb2 => ?_)
    replace hb2 : M b2 = none := hb2
    have hN1 : NewSl M T.uint8 1 (some ⟨b2, 0, none⟩) 0 0 (([] : List UInt8).map byteV) _ := NewSl.lit hb2 T.uint8 1 0 [] rfl
    obtain ⟨M5, hM5⟩ : ∃ M5, M5 = M.setCells b2 T.uint8 [] := ⟨_, rfl⟩
    rw [← hM5] at hN1
    (conv => whnf)
    erw [← hM5]
    repeat' ((conv => whnf); first | refine ob rfl ?_ | refine grow_same hN1.le ?_ | refine ob hN1.le ?_ | refine ⟨?_, True.intro⟩ | fail)
    (conv => whnf)
    refine srcv (hd.src.le hN1.le) ?_
    (conv => whnf); refine appN M _ hN1 (by first | omega | (dsimp only; omega)) (by simp [maxLen]; omega) (by simp [Value.oneCell', byteV]) fun a5 c5 M6 hN6 => ?_
    repeat' ((conv => whnf); first | refine ob rfl ?_ | refine grow_same hN6.le ?_ | refine ob hN6.le ?_ | refine ⟨?_, True.intro⟩ | fail)
    repeat' ((conv => whnf); first | refine ⟨?_, True.intro⟩ | refine brn_t rfl ?_ | refine brn_f rfl ?_ | refine ob rfl ?_ | refine ob (by decide) ?_ | refine grow_same (Mem.le_refl _) ?_ | refine ob (Mem.le_refl _) ?_ | refine ⟨_, Mem.le_refl _, ?_⟩ | fail)
    (conv => whnf)
    exact .inr ⟨a5, _, c5, x.p, rfl, h0, by rw [← hxi]; exact hm, by simpa using hN6⟩
end Go.Proofs.YtlocjjponfbhmaaGreat

