/- The store: May. -/
import Derived.Test.YtlocjjponfbhmaaGreatJoin21
namespace Go.Proofs.YtlocjjponfbhmaaGreat
open Go Go.Vm
attribute [local irreducible] Brn Ob Grow CallsM inR LoopVC Mem.row Mem.cells Mem.setCells Mem.upd Own AppVC SrcVC StrVC NextVC New SrcOk subA NewSl Mem.textAt Mem.mapAt Mem.iterAt entryOf kfind Wr NewEls Elems
set_option maxRecDepth 10000
variable {M M0 : Mem} {p b sp sb : Nat} {S : StR} {came : Int} {xs : HsT} {es : EsT}
@[reducible] def setMay (S : StR) (es : EsT) (i : IdT) : Int := mayE S.qg es i.o i.d i.e i.c
@[reducible] def evV (k : Int) (i : IdT) (a : Option Addr) (n c : Nat) : Value := .agg #[.int .i64 k, .int .i64 i.o, .int .i64 i.d, .int .i64 i.e, .int .i64 i.c, .slice a n c]
theorem May15_ok (h : FreshSt M0 M p b sp sb S came xs es) (k : Int) (i : IdT) (a : Option Addr) (n c : Nat) (hn : n ≤ 1048576) : CallsM Tryz.prog F.store_Store_May [ptr p, evV k i a n c] M fun v M' =>
    v = .int .i64 (mayD S (setMay S es) k i n) ∧ M.le M' := by
  refine fo_store_Store_May (by simp) ?_
  have hI := h.inv
  have hA := h.at'
  have hqb := hI.qb
  have hqh := hI.qh
  have hxl : xs.length = S.l.length := by rw [← hA.held, List.length_map]
  repeat' ((conv => whnf); first | refine ⟨?_, True.intro⟩ | refine brn_t rfl ?_ | refine brn_f rfl ?_ | refine ob rfl ?_ | refine ob (by decide) ?_ | refine grow_same (Mem.le_refl _) ?_ | refine ob (Mem.le_refl _) ?_ | refine ⟨_, Mem.le_refl _, ?_⟩ | fail)
  refine (form_ok k i a n c).mono ?_
  rintro v _ ⟨rfl, rfl⟩
  (conv => whnf); refine brn (fun g => ?_) (fun g => ?_)
  · have g1 : ¬ formD k i n = 0 := by simpa using g
    repeat' ((conv => whnf); first | refine ⟨?_, True.intro⟩ | refine brn_t rfl ?_ | refine brn_f rfl ?_ | refine ob rfl ?_ | refine ob (by decide) ?_ | refine grow_same (Mem.le_refl _) ?_ | refine ob (Mem.le_refl _) ?_ | refine ⟨_, Mem.le_refl _, ?_⟩ | fail)
    exact ⟨by unfold mayD; rw [if_pos g1], Mem.le_refl _⟩
  have g1 : formD k i n = 0 := by simpa using g
  have hk : k = 1 ∨ k = 2 ∨ k = 3 ∨ k = 4 := by
    unfold formD at g1
    repeat' split at g1
    all_goals omega
  repeat' ((conv => whnf); first | refine ⟨?_, True.intro⟩ | refine brn_t rfl ?_ | refine brn_f rfl ?_ | refine ob rfl ?_ | refine ob (by decide) ?_ | refine grow_same (Mem.le_refl _) ?_ | refine ob (Mem.le_refl _) ?_ | refine ⟨_, Mem.le_refl _, ?_⟩ | fail)
  refine on (hA.self.c1 (stCs_map hI.ulen ..)) ?_
  (conv => whnf)
  refine hA.map.get idK i (fun hn => ?_) (fun x j hx => ?_)
  · rcases aget_held hA i with ⟨_, h0, _⟩ | ⟨x, hx, _⟩
    rotate_left
    · rw [hn] at hx; cases hx
    rcases hk with rfl | rfl | rfl | rfl
    · (conv => whnf)
      repeat' ((conv => whnf); first | refine ⟨?_, True.intro⟩ | refine brn_t rfl ?_ | refine brn_f rfl ?_ | refine ob rfl ?_ | refine ob (by decide) ?_ | refine grow_same (Mem.le_refl _) ?_ | refine ob (Mem.le_refl _) ?_ | refine ⟨_, Mem.le_refl _, ?_⟩ | fail)
      refine on (hA.self.c1 rfl) ?_
      (conv => whnf); refine brn (fun g2 => ?_) (fun g2 => ?_)
      · have g3 : S.epoch = 65535 := of_decide_eq_true g2
        repeat' ((conv => whnf); first | refine ⟨?_, True.intro⟩ | refine brn_t rfl ?_ | refine brn_f rfl ?_ | refine ob rfl ?_ | refine ob (by decide) ?_ | refine grow_same (Mem.le_refl _) ?_ | refine ob (Mem.le_refl _) ?_ | refine ⟨_, Mem.le_refl _, ?_⟩ | fail)
        exact ⟨by unfold mayD; rw [if_neg (by simp [g1]), if_pos rfl, if_pos g3], Mem.le_refl _⟩
      · have g3 : ¬ S.epoch = 65535 := of_decide_eq_false g2
        repeat' ((conv => whnf); first | refine ⟨?_, True.intro⟩ | refine brn_t rfl ?_ | refine brn_f rfl ?_ | refine ob rfl ?_ | refine ob (by decide) ?_ | refine grow_same (Mem.le_refl _) ?_ | refine ob (Mem.le_refl _) ?_ | refine ⟨_, Mem.le_refl _, ?_⟩ | fail)
        exact ⟨by unfold mayD; rw [if_neg (by simp [g1]), if_pos rfl, if_neg g3], Mem.le_refl _⟩
    · repeat' ((conv => whnf); first | refine ⟨?_, True.intro⟩ | refine brn_t rfl ?_ | refine brn_f rfl ?_ | refine ob rfl ?_ | refine ob (by decide) ?_ | refine grow_same (Mem.le_refl _) ?_ | refine ob (Mem.le_refl _) ?_ | refine ⟨_, Mem.le_refl _, ?_⟩ | fail)
      refine on (hA.self.c1 rfl) ?_
      (conv => whnf); refine brn (fun a1 => ?_) (fun a1 => ?_)
      · have a2 : i.d = S.self := of_decide_eq_true a1
        repeat' ((conv => whnf); first | refine ⟨?_, True.intro⟩ | refine brn_t rfl ?_ | refine brn_f rfl ?_ | refine ob rfl ?_ | refine ob (by decide) ?_ | refine grow_same (Mem.le_refl _) ?_ | refine ob (Mem.le_refl _) ?_ | refine ⟨_, Mem.le_refl _, ?_⟩ | fail)
        exact ⟨by unfold mayD; rw [if_neg (by simp [g1]), if_neg (by decide), if_pos rfl, if_pos (.inl a2)], Mem.le_refl _⟩
      have a2 : ¬ i.d = S.self := of_decide_eq_false a1
      (conv => whnf); refine on (hA.self.c1 rfl) ?_
      (conv => whnf); refine brn (fun a3 => ?_) (fun a3 => ?_)
      · have a4 : i.o = S.self := of_decide_eq_true a3
        (conv => whnf); refine on (hA.self.c1 rfl) ?_
        (conv => whnf); refine brn (fun a5 => ?_) (fun a5 => ?_)
        · have a6 : S.epoch < i.e := of_decide_eq_true a5
          (conv => whnf); refine brn_t a5 ?_
          repeat' ((conv => whnf); first | refine ⟨?_, True.intro⟩ | refine brn_t rfl ?_ | refine brn_f rfl ?_ | refine ob rfl ?_ | refine ob (by decide) ?_ | refine grow_same (Mem.le_refl _) ?_ | refine ob (Mem.le_refl _) ?_ | refine ⟨_, Mem.le_refl _, ?_⟩ | fail)
          exact ⟨by unfold mayD; rw [if_neg (by simp [g1]), if_neg (by decide), if_pos rfl, if_pos (.inr ⟨a4, a6⟩)], Mem.le_refl _⟩
        · have a6 : ¬ S.epoch < i.e := of_decide_eq_false a5
          have a7 : ¬ (i.d = S.self ∨ (i.o = S.self ∧ S.epoch < i.e)) := by omega
          repeat' ((conv => whnf); first | refine ⟨?_, True.intro⟩ | refine brn_t rfl ?_ | refine brn_f rfl ?_ | refine ob rfl ?_ | refine ob (by decide) ?_ | refine grow_same (Mem.le_refl _) ?_ | refine ob (Mem.le_refl _) ?_ | refine ⟨_, Mem.le_refl _, ?_⟩ | fail)
          refine on (hA.self.c1 (stCs_map hI.ulen ..)) ?_
          (conv => whnf)
          refine hA.map.len fun e2 c2 hsz => ?_
          (conv => whnf); refine on (hA.self.c1 rfl) ?_
          (conv => whnf); refine brn (fun a8 => ?_) (fun a8 => ?_)
          · have a9 : S.qh ≤ S.l.length := by have := of_decide_eq_true a8; dsimp only at this; rw [hsz] at this; omega
            repeat' ((conv => whnf); first | refine ⟨?_, True.intro⟩ | refine brn_t rfl ?_ | refine brn_f rfl ?_ | refine ob rfl ?_ | refine ob (by decide) ?_ | refine grow_same (Mem.le_refl _) ?_ | refine ob (Mem.le_refl _) ?_ | refine ⟨_, Mem.le_refl _, ?_⟩ | fail)
            exact ⟨by unfold mayD; rw [if_neg (by simp [g1]), if_neg (by decide), if_pos rfl, if_neg a7, h0, if_neg (by decide), if_pos (.inl a9)], Mem.le_refl _⟩
          have a9 : ¬ S.qh ≤ S.l.length := by have := of_decide_eq_false a8; dsimp only at this; rw [hsz] at this; omega
          (conv => whnf); refine on (hA.self.c1 rfl) ?_
          (conv => whnf); refine on (hA.self.c1 (stCs_bytes hI.ulen ..)) ?_
          (conv => whnf); refine ob (inR_i64 (by omega)) ?_
          (conv => whnf); refine brn (fun b8 => ?_) (fun b8 => ?_)
          · have b9 : S.qb < bytesD S.l + n := by have := of_decide_eq_true b8; omega
            repeat' ((conv => whnf); first | refine ⟨?_, True.intro⟩ | refine brn_t rfl ?_ | refine brn_f rfl ?_ | refine ob rfl ?_ | refine ob (by decide) ?_ | refine grow_same (Mem.le_refl _) ?_ | refine ob (Mem.le_refl _) ?_ | refine ⟨_, Mem.le_refl _, ?_⟩ | fail)
            exact ⟨by unfold mayD; rw [if_neg (by simp [g1]), if_neg (by decide), if_pos rfl, if_neg a7, h0, if_neg (by decide), if_pos (.inr b9)], Mem.le_refl _⟩
          have b9 : ¬ S.qb < bytesD S.l + n := by have := of_decide_eq_false b8; omega
          repeat' ((conv => whnf); first | refine ⟨?_, True.intro⟩ | refine brn_t rfl ?_ | refine brn_f rfl ?_ | refine ob rfl ?_ | refine ob (by decide) ?_ | refine grow_same (Mem.le_refl _) ?_ | refine ob (Mem.le_refl _) ?_ | refine ⟨_, Mem.le_refl _, ?_⟩ | fail)
          (conv => whnf)
          exact ⟨by unfold mayD; rw [if_neg (by simp [g1]), if_neg (by decide), if_pos rfl, if_neg a7, h0, if_neg (by decide), if_neg (by omega)], Mem.le_refl _⟩
      · have a4 : ¬ i.o = S.self := of_decide_eq_false a3
        have a7 : ¬ (i.d = S.self ∨ (i.o = S.self ∧ S.epoch < i.e)) := by omega
        repeat' ((conv => whnf); first | refine ⟨?_, True.intro⟩ | refine brn_t rfl ?_ | refine brn_f rfl ?_ | refine ob rfl ?_ | refine ob (by decide) ?_ | refine grow_same (Mem.le_refl _) ?_ | refine ob (Mem.le_refl _) ?_ | refine ⟨_, Mem.le_refl _, ?_⟩ | fail)
        refine on (hA.self.c1 (stCs_map hI.ulen ..)) ?_
        (conv => whnf)
        refine hA.map.len fun e2 c2 hsz => ?_
        (conv => whnf); refine on (hA.self.c1 rfl) ?_
        (conv => whnf); refine brn (fun a8 => ?_) (fun a8 => ?_)
        · have a9 : S.qh ≤ S.l.length := by have := of_decide_eq_true a8; dsimp only at this; rw [hsz] at this; omega
          repeat' ((conv => whnf); first | refine ⟨?_, True.intro⟩ | refine brn_t rfl ?_ | refine brn_f rfl ?_ | refine ob rfl ?_ | refine ob (by decide) ?_ | refine grow_same (Mem.le_refl _) ?_ | refine ob (Mem.le_refl _) ?_ | refine ⟨_, Mem.le_refl _, ?_⟩ | fail)
          exact ⟨by unfold mayD; rw [if_neg (by simp [g1]), if_neg (by decide), if_pos rfl, if_neg a7, h0, if_neg (by decide), if_pos (.inl a9)], Mem.le_refl _⟩
        have a9 : ¬ S.qh ≤ S.l.length := by have := of_decide_eq_false a8; dsimp only at this; rw [hsz] at this; omega
        (conv => whnf); refine on (hA.self.c1 rfl) ?_
        (conv => whnf); refine on (hA.self.c1 (stCs_bytes hI.ulen ..)) ?_
        (conv => whnf); refine ob (inR_i64 (by omega)) ?_
        (conv => whnf); refine brn (fun b8 => ?_) (fun b8 => ?_)
        · have b9 : S.qb < bytesD S.l + n := by have := of_decide_eq_true b8; omega
          repeat' ((conv => whnf); first | refine ⟨?_, True.intro⟩ | refine brn_t rfl ?_ | refine brn_f rfl ?_ | refine ob rfl ?_ | refine ob (by decide) ?_ | refine grow_same (Mem.le_refl _) ?_ | refine ob (Mem.le_refl _) ?_ | refine ⟨_, Mem.le_refl _, ?_⟩ | fail)
          exact ⟨by unfold mayD; rw [if_neg (by simp [g1]), if_neg (by decide), if_pos rfl, if_neg a7, h0, if_neg (by decide), if_pos (.inr b9)], Mem.le_refl _⟩
        have b9 : ¬ S.qb < bytesD S.l + n := by have := of_decide_eq_false b8; omega
        repeat' ((conv => whnf); first | refine ⟨?_, True.intro⟩ | refine brn_t rfl ?_ | refine brn_f rfl ?_ | refine ob rfl ?_ | refine ob (by decide) ?_ | refine grow_same (Mem.le_refl _) ?_ | refine ob (Mem.le_refl _) ?_ | refine ⟨_, Mem.le_refl _, ?_⟩ | fail)
        (conv => whnf)
        exact ⟨by unfold mayD; rw [if_neg (by simp [g1]), if_neg (by decide), if_pos rfl, if_neg a7, h0, if_neg (by decide), if_neg (by omega)], Mem.le_refl _⟩
    · (conv => whnf)
      repeat' ((conv => whnf); first | refine ⟨?_, True.intro⟩ | refine brn_t rfl ?_ | refine brn_f rfl ?_ | refine ob rfl ?_ | refine ob (by decide) ?_ | refine grow_same (Mem.le_refl _) ?_ | refine ob (Mem.le_refl _) ?_ | refine ⟨_, Mem.le_refl _, ?_⟩ | fail)
      (conv => whnf)
      exact ⟨by unfold mayD; rw [if_neg (by simp [g1]), if_neg (by decide), if_neg (by decide), if_pos rfl, h0]; rfl, Mem.le_refl _⟩
    · (conv => whnf)
      repeat' ((conv => whnf); first | refine ⟨?_, True.intro⟩ | refine brn_t rfl ?_ | refine brn_f rfl ?_ | refine ob rfl ?_ | refine ob (by decide) ?_ | refine grow_same (Mem.le_refl _) ?_ | refine ob (Mem.le_refl _) ?_ | refine ⟨_, Mem.le_refl _, ?_⟩ | fail)
      refine on (hA.self.c1 rfl) ?_
      (conv => whnf); refine brn (fun g2 => ?_) (fun g2 => ?_)
      · have g3 : i.d ≠ S.self := by simpa using g2
        repeat' ((conv => whnf); first | refine ⟨?_, True.intro⟩ | refine brn_t rfl ?_ | refine brn_f rfl ?_ | refine ob rfl ?_ | refine ob (by decide) ?_ | refine grow_same (Mem.le_refl _) ?_ | refine ob (Mem.le_refl _) ?_ | refine ⟨_, Mem.le_refl _, ?_⟩ | fail)
        exact ⟨by unfold mayD; rw [if_neg (by simp [g1]), if_neg (by decide), if_neg (by decide), if_neg (by decide), if_pos g3], Mem.le_refl _⟩
      · have g3 : ¬ i.d ≠ S.self := by simpa using g2
        repeat' ((conv => whnf); first | refine ⟨?_, True.intro⟩ | refine brn_t rfl ?_ | refine brn_f rfl ?_ | refine ob rfl ?_ | refine ob (by decide) ?_ | refine grow_same (Mem.le_refl _) ?_ | refine ob (Mem.le_refl _) ?_ | refine ⟨_, Mem.le_refl _, ?_⟩ | fail)
        refine on (hA.self.c1 (stCs_set hI.ulen ..)) ?_
        repeat' ((conv => whnf); first | refine ⟨?_, True.intro⟩ | refine brn_t rfl ?_ | refine brn_f rfl ?_ | refine ob rfl ?_ | refine ob (by decide) ?_ | refine grow_same (Mem.le_refl _) ?_ | refine ob (Mem.le_refl _) ?_ | refine ⟨_, Mem.le_refl _, ?_⟩ | fail)
        refine (May_ok hA.set (by have := h.room; omega) h.invE.good i.o i.d i.e i.c).mono ?_
        rintro v M1 ⟨rfl, h1⟩
        repeat' ((conv => whnf); first | refine ⟨?_, True.intro⟩ | refine brn_t rfl ?_ | refine brn_f rfl ?_ | refine ob rfl ?_ | refine ob (by decide) ?_ | refine grow_same (Mem.le_refl _) ?_ | refine ob (Mem.le_refl _) ?_ | refine ⟨_, Mem.le_refl _, ?_⟩ | fail)
        exact ⟨by unfold mayD; rw [if_neg (by simp [g1]), if_neg (by decide), if_neg (by decide), if_neg (by decide), if_neg g3], h1⟩
  · rcases aget_held hA i with ⟨hn, _⟩ | ⟨x', hx', hxi, h0, hm⟩
    · rw [hx] at hn; cases hn
    rcases hk with rfl | rfl | rfl | rfl
    · (conv => whnf)
      repeat' ((conv => whnf); first | refine ⟨?_, True.intro⟩ | refine brn_t rfl ?_ | refine brn_f rfl ?_ | refine ob rfl ?_ | refine ob (by decide) ?_ | refine grow_same (Mem.le_refl _) ?_ | refine ob (Mem.le_refl _) ?_ | refine ⟨_, Mem.le_refl _, ?_⟩ | fail)
      refine on (hA.self.c1 rfl) ?_
      (conv => whnf); refine brn (fun g2 => ?_) (fun g2 => ?_)
      · have g3 : S.epoch = 65535 := of_decide_eq_true g2
        repeat' ((conv => whnf); first | refine ⟨?_, True.intro⟩ | refine brn_t rfl ?_ | refine brn_f rfl ?_ | refine ob rfl ?_ | refine ob (by decide) ?_ | refine grow_same (Mem.le_refl _) ?_ | refine ob (Mem.le_refl _) ?_ | refine ⟨_, Mem.le_refl _, ?_⟩ | fail)
        exact ⟨by unfold mayD; rw [if_neg (by simp [g1]), if_pos rfl, if_pos g3], Mem.le_refl _⟩
      · have g3 : ¬ S.epoch = 65535 := of_decide_eq_false g2
        repeat' ((conv => whnf); first | refine ⟨?_, True.intro⟩ | refine brn_t rfl ?_ | refine brn_f rfl ?_ | refine ob rfl ?_ | refine ob (by decide) ?_ | refine grow_same (Mem.le_refl _) ?_ | refine ob (Mem.le_refl _) ?_ | refine ⟨_, Mem.le_refl _, ?_⟩ | fail)
        exact ⟨by unfold mayD; rw [if_neg (by simp [g1]), if_pos rfl, if_neg g3], Mem.le_refl _⟩
    · repeat' ((conv => whnf); first | refine ⟨?_, True.intro⟩ | refine brn_t rfl ?_ | refine brn_f rfl ?_ | refine ob rfl ?_ | refine ob (by decide) ?_ | refine grow_same (Mem.le_refl _) ?_ | refine ob (Mem.le_refl _) ?_ | refine ⟨_, Mem.le_refl _, ?_⟩ | fail)
      refine on (hA.self.c1 rfl) ?_
      (conv => whnf); refine brn (fun a1 => ?_) (fun a1 => ?_)
      · have a2 : i.d = S.self := of_decide_eq_true a1
        repeat' ((conv => whnf); first | refine ⟨?_, True.intro⟩ | refine brn_t rfl ?_ | refine brn_f rfl ?_ | refine ob rfl ?_ | refine ob (by decide) ?_ | refine grow_same (Mem.le_refl _) ?_ | refine ob (Mem.le_refl _) ?_ | refine ⟨_, Mem.le_refl _, ?_⟩ | fail)
        exact ⟨by unfold mayD; rw [if_neg (by simp [g1]), if_neg (by decide), if_pos rfl, if_pos (.inl a2)], Mem.le_refl _⟩
      have a2 : ¬ i.d = S.self := of_decide_eq_false a1
      (conv => whnf); refine on (hA.self.c1 rfl) ?_
      (conv => whnf); refine brn (fun a3 => ?_) (fun a3 => ?_)
      · have a4 : i.o = S.self := of_decide_eq_true a3
        (conv => whnf); refine on (hA.self.c1 rfl) ?_
        (conv => whnf); refine brn (fun a5 => ?_) (fun a5 => ?_)
        · have a6 : S.epoch < i.e := of_decide_eq_true a5
          (conv => whnf); refine brn_t a5 ?_
          repeat' ((conv => whnf); first | refine ⟨?_, True.intro⟩ | refine brn_t rfl ?_ | refine brn_f rfl ?_ | refine ob rfl ?_ | refine ob (by decide) ?_ | refine grow_same (Mem.le_refl _) ?_ | refine ob (Mem.le_refl _) ?_ | refine ⟨_, Mem.le_refl _, ?_⟩ | fail)
          exact ⟨by unfold mayD; rw [if_neg (by simp [g1]), if_neg (by decide), if_pos rfl, if_pos (.inr ⟨a4, a6⟩)], Mem.le_refl _⟩
        · have a6 : ¬ S.epoch < i.e := of_decide_eq_false a5
          have a7 : ¬ (i.d = S.self ∨ (i.o = S.self ∧ S.epoch < i.e)) := by omega
          repeat' ((conv => whnf); first | refine ⟨?_, True.intro⟩ | refine brn_t rfl ?_ | refine brn_f rfl ?_ | refine ob rfl ?_ | refine ob (by decide) ?_ | refine grow_same (Mem.le_refl _) ?_ | refine ob (Mem.le_refl _) ?_ | refine ⟨_, Mem.le_refl _, ?_⟩ | fail)
          exact ⟨by unfold mayD; rw [if_neg (by simp [g1]), if_neg (by decide), if_pos rfl, if_neg a7, h0]; rfl, Mem.le_refl _⟩
      · have a4 : ¬ i.o = S.self := of_decide_eq_false a3
        have a7 : ¬ (i.d = S.self ∨ (i.o = S.self ∧ S.epoch < i.e)) := by omega
        repeat' ((conv => whnf); first | refine ⟨?_, True.intro⟩ | refine brn_t rfl ?_ | refine brn_f rfl ?_ | refine ob rfl ?_ | refine ob (by decide) ?_ | refine grow_same (Mem.le_refl _) ?_ | refine ob (Mem.le_refl _) ?_ | refine ⟨_, Mem.le_refl _, ?_⟩ | fail)
        exact ⟨by unfold mayD; rw [if_neg (by simp [g1]), if_neg (by decide), if_pos rfl, if_neg a7, h0]; rfl, Mem.le_refl _⟩
    · (conv => whnf)
      repeat' ((conv => whnf); first | refine ⟨?_, True.intro⟩ | refine brn_t rfl ?_ | refine brn_f rfl ?_ | refine ob rfl ?_ | refine ob (by decide) ?_ | refine grow_same (Mem.le_refl _) ?_ | refine ob (Mem.le_refl _) ?_ | refine ⟨_, Mem.le_refl _, ?_⟩ | fail)
      (conv => whnf)
      exact ⟨by unfold mayD; rw [if_neg (by simp [g1]), if_neg (by decide), if_neg (by decide), if_pos rfl, h0]; rfl, Mem.le_refl _⟩
    · (conv => whnf)
      repeat' ((conv => whnf); first | refine ⟨?_, True.intro⟩ | refine brn_t rfl ?_ | refine brn_f rfl ?_ | refine ob rfl ?_ | refine ob (by decide) ?_ | refine grow_same (Mem.le_refl _) ?_ | refine ob (Mem.le_refl _) ?_ | refine ⟨_, Mem.le_refl _, ?_⟩ | fail)
      refine on (hA.self.c1 rfl) ?_
      (conv => whnf); refine brn (fun g2 => ?_) (fun g2 => ?_)
      · have g3 : i.d ≠ S.self := by simpa using g2
        repeat' ((conv => whnf); first | refine ⟨?_, True.intro⟩ | refine brn_t rfl ?_ | refine brn_f rfl ?_ | refine ob rfl ?_ | refine ob (by decide) ?_ | refine grow_same (Mem.le_refl _) ?_ | refine ob (Mem.le_refl _) ?_ | refine ⟨_, Mem.le_refl _, ?_⟩ | fail)
        exact ⟨by unfold mayD; rw [if_neg (by simp [g1]), if_neg (by decide), if_neg (by decide), if_neg (by decide), if_pos g3], Mem.le_refl _⟩
      · have g3 : ¬ i.d ≠ S.self := by simpa using g2
        repeat' ((conv => whnf); first | refine ⟨?_, True.intro⟩ | refine brn_t rfl ?_ | refine brn_f rfl ?_ | refine ob rfl ?_ | refine ob (by decide) ?_ | refine grow_same (Mem.le_refl _) ?_ | refine ob (Mem.le_refl _) ?_ | refine ⟨_, Mem.le_refl _, ?_⟩ | fail)
        refine on (hA.self.c1 (stCs_set hI.ulen ..)) ?_
        repeat' ((conv => whnf); first | refine ⟨?_, True.intro⟩ | refine brn_t rfl ?_ | refine brn_f rfl ?_ | refine ob rfl ?_ | refine ob (by decide) ?_ | refine grow_same (Mem.le_refl _) ?_ | refine ob (Mem.le_refl _) ?_ | refine ⟨_, Mem.le_refl _, ?_⟩ | fail)
        refine (May_ok hA.set (by have := h.room; omega) h.invE.good i.o i.d i.e i.c).mono ?_
        rintro v M1 ⟨rfl, h1⟩
        repeat' ((conv => whnf); first | refine ⟨?_, True.intro⟩ | refine brn_t rfl ?_ | refine brn_f rfl ?_ | refine ob rfl ?_ | refine ob (by decide) ?_ | refine grow_same (Mem.le_refl _) ?_ | refine ob (Mem.le_refl _) ?_ | refine ⟨_, Mem.le_refl _, ?_⟩ | fail)
        exact ⟨by unfold mayD; rw [if_neg (by simp [g1]), if_neg (by decide), if_neg (by decide), if_neg (by decide), if_neg g3], h1⟩
end Go.Proofs.YtlocjjponfbhmaaGreat

/- Stores, plainly: what is right stays right. -/
namespace Go.Proofs.YtlocjjponfbhmaaGreat
open Go Go.Vm
variable {S : StR} {set : IdT → Int} {k : Int} {i : IdT} {p : List UInt8}
theorem bytesD_append (l r : List MsgD) : bytesD (l ++ r) = bytesD l + bytesD r := by simp [bytesD]
theorem bytesD_filter (l : List MsgD) (f : MsgD → Bool) : bytesD (l.filter f) ≤ bytesD l := by
  induction l with
  | nil => simp
  | cons x r ih =>
    simp only [List.filter_cons]
    split
    · simp only [bytesD, List.map_cons, List.sum_cons] at ih ⊢; omega
    · simp only [bytesD, List.map_cons, List.sum_cons] at ih ⊢; omega
theorem hasD_false {l : List MsgD} (h : hasD l i = false) : ∀ m ∈ l, m.id ≠ i := fun m hm => by
  unfold hasD at h
  rw [List.any_eq_false] at h
  simpa using h m hm
theorem idErr_all {a b c d : Int} (h : idErr a b c d = 0) : (0 ≤ a ∧ a ≤ 63) ∧ (0 ≤ b ∧ b ≤ 63) ∧ (1 ≤ c ∧ c ≤ 65535) ∧ (1 ≤ d ∧ d ≤ 65535) ∧ a ≠ b := by
  unfold idErr at h
  repeat' split at h
  all_goals omega
theorem msgErr_zero {n : Nat} (h : msgErrD i n = 0) : idErrD i = 0 ∧ 0 < n ∧ n ≤ 48 := by
  unfold msgErrD msgErr at h
  unfold idErrD
  repeat' split at h
  all_goals omega
theorem mayHold (h : mayD S set 2 i p.length = 0) : msgErrD i p.length = 0 ∧ i.d ≠ S.self ∧ ¬ (i.o = S.self ∧ S.epoch < i.e) ∧ hasD S.l i = false ∧ (S.l.length : Int) < S.qh ∧ (bytesD S.l : Int) + p.length ≤ S.qb := by
  unfold mayD at h
  split at h
  · rename_i g; exact absurd h g
  rename_i g
  have g0 : formD 2 i p.length = 0 := by simpa using g
  rw [if_neg (by decide), if_pos rfl] at h
  have g1 : msgErrD i p.length = 0 := by unfold formD at g0; rwa [if_neg (by decide), if_pos rfl] at g0
  split at h
  · cases h
  rename_i g2
  split at h
  · cases h
  rename_i g3
  split at h
  · cases h
  rename_i g4
  exact ⟨g1, by omega, by omega, by simpa using g3, by omega, by omega⟩
theorem applyD_inv (hI : InvS S) (hm : mayD S set k i p.length = 0) : InvS (applyD S k i p) := by
  by_cases h1 : k = 1
  · subst h1
    have he : S.epoch < 65535 := by
      have := hI.epoch
      unfold mayD at hm
      split at hm
      · rename_i g; exact absurd hm g
      rw [if_pos rfl] at hm
      split at hm
      · cases hm
      · omega
    have e : applyD S 1 i p = { S with epoch := S.epoch + 1, used := List.replicate 64 0 } := by unfold applyD; rw [if_pos rfl]
    rw [e]
    refine ⟨hI.self, ?_, by simp, ?_, hI.qh, hI.qb, fun m h => ?_, hI.nodup⟩
    · have := hI.epoch; dsimp only; omega
    · intro n hn
      dsimp only at hn
      have := List.eq_of_mem_replicate hn
      omega
    · obtain ⟨a, b, c⟩ := hI.msgs m h
      exact ⟨a, b, fun h => by have := c h; dsimp only; omega⟩
  by_cases h2 : k = 2
  · subst h2
    obtain ⟨g1, g2, g3, g4, g5, g6⟩ := mayHold hm
    obtain ⟨u1, u2, u3⟩ := msgErr_zero g1
    have hc := (idErr_zero u1).2
    have e : applyD S 2 i p = { S with l := S.l ++ [⟨i, p⟩], used := if i.o = S.self ∧ i.e = S.epoch then S.used.set i.d.toNat (max (lastD S i.d) i.c) else S.used } := by unfold applyD; rw [if_neg (by decide), if_pos rfl]
    rw [e]
    refine ⟨hI.self, hI.epoch, ?_, ?_, ?_, ?_, fun m h => ?_, ?_⟩
    · dsimp only; split
      · rw [List.length_set]; exact hI.ulen
      · exact hI.ulen
    · intro n hn
      dsimp only at hn
      split at hn
      · rcases List.mem_or_eq_of_mem_set hn with h | h
        · exact hI.used n h
        · have := lastD_range hI i.d; omega
      · exact hI.used n hn
    · have := hI.qh; simp only [List.length_append, List.length_singleton]; omega
    · have := hI.qb; rw [bytesD_append]; simp only [bytesD, List.map_cons, List.map_nil, List.sum_cons, List.sum_nil] at *; omega
    · rcases List.mem_append.1 h with h | h
      · exact hI.msgs m h
      · simp at h; subst h; exact ⟨g1, g2, fun h => by dsimp only at h ⊢; omega⟩
    · rw [List.map_append, List.nodup_append]
      refine ⟨hI.nodup, by simp, fun a ha b hb => ?_⟩
      simp at hb
      subst hb
      obtain ⟨m, hm, rfl⟩ := List.mem_map.1 ha
      exact hasD_false g4 m hm
  by_cases h3 : k = 3
  · subst h3
    have e : applyD S 3 i p = { S with l := S.l.filter fun m => decide (m.id ≠ i) } := by unfold applyD; rw [if_neg (by decide), if_neg (by decide), if_pos rfl]
    rw [e]
    refine ⟨hI.self, hI.epoch, hI.ulen, hI.used, ?_, ?_, fun m h => hI.msgs m (List.mem_filter.1 h).1, ?_⟩
    · have := hI.qh; have h4 := List.length_filter_le (fun m : MsgD => decide (m.id ≠ i)) S.l; dsimp only; omega
    · have := hI.qb; have h4 := bytesD_filter S.l (fun m : MsgD => decide (m.id ≠ i)); dsimp only; omega
    · exact hI.nodup.sublist (List.Sublist.map _ List.filter_sublist)
  · have e : applyD S k i p = S := by unfold applyD; rw [if_neg h1, if_neg h2, if_neg h3]
    rw [e]; exact hI
end Go.Proofs.YtlocjjponfbhmaaGreat

/- The store: its blocks are apart; its words turn. -/
namespace Go.Proofs.YtlocjjponfbhmaaGreat
open Go Go.Vm
attribute [local irreducible] Brn Ob Grow CallsM inR LoopVC Mem.row Mem.cells Mem.setCells Mem.upd Own AppVC SrcVC StrVC NextVC New SrcOk subA NewSl Mem.textAt Mem.mapAt Mem.iterAt entryOf kfind Wr NewEls Elems
set_option maxRecDepth 10000
variable {M M0 : Mem} {p b sp sb : Nat} {S : StR} {came : Int} {xs : HsT} {es : EsT}
theorem StAt.pset (h : StAt M p b sp sb S came xs es) : ¬ setB sp sb es p := by
  rintro (e | e | ⟨q, hq, hy⟩)
  · have := h.set.self
    rw [← e] at this
    exact absurd (this.inj h.self).1 (by decide)
  · exact h.set.map.nb h.self e
  · have hE := h.set.ents q hq
    rcases hy with e | ⟨a, ha, e⟩
    · have := hE.self
      rw [← e] at this
      exact absurd (this.inj h.self).1 (by decide)
    · obtain ⟨cs, hh⟩ := hE.more.block ha
      rw [e] at hh
      exact absurd (hh.inj h.self).1 (by decide)
theorem StAt.bset (h : StAt M p b sp sb S came xs es) : ¬ setB sp sb es b := by
  rintro (e | e | ⟨q, hq, hy⟩)
  · exact h.map.nb h.set.self e.symm
  · exact h.ne e
  · have hE := h.set.ents q hq
    rcases hy with e | ⟨a, ha, e⟩
    · exact h.map.nb hE.self e.symm
    · obtain ⟨cs, hh⟩ := hE.more.block ha
      exact h.map.nb hh e
theorem StAt.dhas (h : StAt M p b sp sb S came xs es) {q : IdT × PX} (hq : q ∈ xs) {y : Nat} (hy : blk q.2.a y) : ∃ cs, M.has y T.uint8 cs := by
  obtain ⟨a, ha, e⟩ := hy
  obtain ⟨cs, hh⟩ := (h.data q hq).block ha
  exact ⟨cs, e ▸ hh⟩
theorem StAt.dset (h : StAt M p b sp sb S came xs es) {q : IdT × PX} (hq : q ∈ xs) {y : Nat} (hy : blk q.2.a y) : ¬ setB sp sb es y ∧ y ≠ p ∧ y ≠ b := by
  obtain ⟨cs, hc⟩ := h.dhas hq hy
  refine ⟨?_, fun e => ?_, h.map.nb hc⟩
  · rintro (e | e | ⟨q, hq, hy⟩)
    · have := h.set.self
      rw [← e] at this
      exact absurd (this.inj hc).1 (by decide)
    · exact h.set.map.nb hc e
    · have hE := h.set.ents q hq
      rcases hy with e | ⟨a, ha, e⟩
      · have := hE.self
        rw [← e] at this
        exact absurd (this.inj hc).1 (by decide)
      · obtain ⟨cs, hh⟩ := hE.more.block ha
        rw [e] at hh
        exact absurd (hh.inj hc).1 (by decide)
  · subst e
    exact absurd (h.self.inj hc).1 (by decide)
/-- the store's own words turn -/
theorem StAt.head {M' : Mem} (h : StAt M p b sp sb S came xs es) {S' : StR} {came' : Int} (hk : Mem.keep (fun y => y = p) M M') (hs : M'.has p T.store_Store (stCs S' b came' (bytesD S'.l) sp)) (hl : S'.l = S.l) (hq : S'.qg = S.qg) (hc : came ≤ came') : StAt M' p b sp sb S' came' xs es := by
  have hb : b ≠ p := (h.map.nb h.self).symm
  refine ⟨hs, h.map.mono fun o ho => hk b o hb ho, fun q hx => (h.data q hx).mono fun a o ha ho => hk _ o (h.dset hx ⟨a, ha, rfl⟩).2.1 ho, ?_, hl ▸ h.held, h.keys, h.ord, ⟨Int.le_trans h.came.1 hc, fun q hx => ⟨(h.came.2 q hx).1, Int.lt_of_lt_of_le (h.came.2 q hx).2 hc⟩⟩, h.ne⟩
  rw [hq]
  exact h.set.mono fun y o hy ho => hk y o (fun e => h.pset (e ▸ hy)) ho
/-- its set turns -/
theorem StAt.turned {M' : Mem} {es' : EsT} (h : StAt M p b sp sb S came xs es) (hB : (M.minus (setB sp sb es)).le M') (hs : SetAt M' sp sb S.qg es') : StAt M' p b sp sb S came xs es' := by
  have keep : ∀ y o, ¬ setB sp sb es y → M y = some o → M' y = some o := fun y o hy ho => hB y o (by unfold Mem.minus; rw [if_neg hy]; exact ho)
  exact ⟨keep _ _ h.pset h.self, h.map.mono fun o ho => keep _ _ h.bset ho, fun q hq => (h.data q hq).mono fun a o ha ho => keep _ o (h.dset hq ⟨a, ha, rfl⟩).1 ho, hs, h.held, h.keys, h.ord, h.came, h.ne⟩
/-- its messages turn -/
theorem StAt.turn {M' : Mem} (h : StAt M p b sp sb S came xs es) {S' : StR} {came' : Int} {xs' : HsT} (hk : Mem.keep (fun y => y = p ∨ y = b) M M') (hs : M'.has p T.store_Store (stCs S' b came' (bytesD S'.l) sp)) (hm : MapAt idA pxV M' b xs')
    (hd : ∀ q ∈ xs', q ∈ xs ∨ Wr M' T.uint8 1 q.2.a q.2.p.length q.2.c (q.2.p.map byteV)) (hq : S'.qg = S.qg) (hl : xs'.map (fun q => q.2.msg) = S'.l) (hkeys : ∀ q ∈ xs', q.2.id = q.1) (hord : xs'.Pairwise fun x y => x.2.n < y.2.n)
    (hc : 0 ≤ came' ∧ ∀ q ∈ xs', 0 ≤ q.2.n ∧ q.2.n < came') : StAt M' p b sp sb S' came' xs' es := by
  refine ⟨hs, hm, fun q hx => ?_, ?_, hl, hkeys, hord, hc, h.ne⟩
  · rcases hd q hx with hx | hx
    · exact (h.data q hx).mono fun a o ha ho => hk _ o (fun e => by have := h.dset hx ⟨a, ha, rfl⟩; rcases e with e | e; exact this.2.1 e; exact this.2.2 e) ho
    · exact hx
  · rw [hq]
    exact h.set.mono fun y o hy ho => hk y o (fun e => by rcases e with e | e; exact h.pset (e ▸ hy); exact h.bset (e ▸ hy)) ho
theorem bytesD_del {i : IdT} : ∀ {l : List MsgD} {m : MsgD}, (l.map (·.id)).Nodup → m ∈ l → m.id = i → bytesD (l.filter fun m => decide (m.id ≠ i)) + m.p.length = bytesD l
  | x :: r, m, hn, hm, he => by
    simp only [List.map_cons, List.nodup_cons] at hn
    rcases List.mem_cons.1 hm with rfl | hm
    · have hall : r.filter (fun m => decide (m.id ≠ i)) = r := by
        rw [List.filter_eq_self]
        intro y hy
        have : y.id ≠ m.id := fun e => hn.1 (List.mem_map.2 ⟨y, hy, e⟩)
        simp; rw [← he]; exact this
      rw [List.filter_cons, if_neg (by simp [he]), hall]
      simp only [bytesD, List.map_cons, List.sum_cons]
      omega
    · have hx : x.id ≠ i := fun e => hn.1 (List.mem_map.2 ⟨m, hm, by rw [he, e]⟩)
      have ih := bytesD_del hn.2 hm he
      rw [List.filter_cons, if_pos (by simpa using hx)]
      simp only [bytesD, List.map_cons, List.sum_cons] at ih ⊢
      omega
theorem splice1 {L R : List Value} {x y : Value} {n : Nat} (h : L.length = n) : splice (L ++ x :: R) n [y] = L ++ y :: R := by
  unfold splice
  subst h
  simp
theorem stCs_cut (S : StR) (b : Nat) (came bytes : Int) (sp : Nat) : stCs S b came bytes sp = ([.int .i64 S.self, .int .i64 S.qh, .int .i64 S.qb, .int .i64 S.qg, .int .i64 S.epoch] ++ S.used.map intV ++ [.map (some b)]) ++ .int .i64 came :: [.int .i64 bytes, ptr sp] := by simp [stCs]
theorem stCs_put_came (hu : S.used.length = 64) (came bytes v : Int) : splice (stCs S b came bytes sp) 70 [.int .i64 v] = stCs S b v bytes sp := by
  rw [stCs_cut, stCs_cut, splice1 (by simp [hu])]
theorem stCs_put_bytes (hu : S.used.length = 64) (came bytes v : Int) : splice (stCs S b came bytes sp) 71 [.int .i64 v] = stCs S b came v sp := by
  have e : ∀ w, stCs S b came w sp = ([.int .i64 S.self, .int .i64 S.qh, .int .i64 S.qb, .int .i64 S.qg, .int .i64 S.epoch] ++ S.used.map intV ++ [.map (some b), .int .i64 came]) ++ .int .i64 w :: [ptr sp] := fun w => by simp [stCs]
  rw [e, e, splice1 (by simp [hu])]
theorem stCs_put_used (hu : S.used.length = 64) (came bytes v : Int) {d : Nat} (hd : d < 64) : splice (stCs S b came bytes sp) (5 + d) [.int .i64 v] = stCs { S with used := S.used.set d v } b came bytes sp := by
  unfold stCs
  have h1 : splice (([.int .i64 S.self, .int .i64 S.qh, .int .i64 S.qb, .int .i64 S.qg, .int .i64 S.epoch] : List Value) ++ S.used.map intV ++ [.map (some b), .int .i64 came, .int .i64 bytes, ptr sp]) (5 + d) [.int .i64 v] = ([.int .i64 S.self, .int .i64 S.qh, .int .i64 S.qb, .int .i64 S.qg, .int .i64 S.epoch] : List Value) ++ (S.used.map intV).set d (intV v) ++ [.map (some b), .int .i64 came, .int .i64 bytes, ptr sp] := by
    have hlt : d < (S.used.map intV).length := by simp [hu, hd]
    obtain ⟨A, x, B, hAB, hA⟩ : ∃ A x B, S.used.map intV = A ++ x :: B ∧ A.length = d := ⟨_, _, _, (List.take_append_drop d _).symm.trans (by rw [List.drop_eq_getElem_cons hlt]), by simp [hu]; omega⟩
    rw [hAB]
    have e2 : (A ++ x :: B).set d (intV v) = A ++ intV v :: B := by subst hA; simp
    rw [e2]
    have e3 : ∀ y, ([.int .i64 S.self, .int .i64 S.qh, .int .i64 S.qb, .int .i64 S.qg, .int .i64 S.epoch] : List Value) ++ (A ++ y :: B) ++ [.map (some b), .int .i64 came, .int .i64 bytes, ptr sp] = (([.int .i64 S.self, .int .i64 S.qh, .int .i64 S.qb, .int .i64 S.qg, .int .i64 S.epoch] : List Value) ++ A) ++ y :: (B ++ [.map (some b), .int .i64 came, .int .i64 bytes, ptr sp]) := fun y => by simp
    rw [e3, e3, splice1 (by simp [hA]; omega)]
  rw [h1, List.map_set]
end Go.Proofs.YtlocjjponfbhmaaGreat

