/- Texts of findings. -/
import Derived.Test.YtjkejbenppeagaaGreatDoorWatT
namespace Go.Proofs.YtjkejbenppeagaaGreatDoor
open Go Go.Vm
attribute [local irreducible] Brn Ob Grow CallsM inR LoopVC LoopVC0 Mem.row Mem.cells Mem.setCells Mem.upd Go.Vm.Own AppVC SrcVC StrVC NextVC New SrcOk subA NewSl Mem.textAt Mem.mapAt Mem.iterAt entryOf kfind Wr NewEls Elems
set_option maxRecDepth 10000
variable {M : Mem}
def wordB (k : Int) : ByteArray := if k = 1 then ⟨#[116, 119, 105, 99, 101]⟩ else if k = 2 then ⟨#[119, 104, 101, 114, 101]⟩ else if k = 3 then ⟨#[115, 116, 114, 97, 110, 103, 101]⟩ else if k = 4 then ⟨#[97, 103, 97, 105, 110]⟩ else ⟨#[108, 111, 115, 116]⟩
def idB (a b c d : Int) : ByteArray := if idErr a b c d ≠ 0 then ⟨#[63]⟩ else textI a b c d
def findB (k at' a b c d : Int) : ByteArray := if k < 1 ∨ 6 ≤ k then .empty else (if k = 5 then wordB k else wordB k ++ (⟨#[32]⟩ ++ dS at')) ++ ⟨#[32]⟩ ++ idB a b c d
theorem idB_size (a b c d : Int) : (idB a b c d).size ≤ 83 := by
  unfold idB
  split
  · show (1 : Nat) ≤ _; decide
  · rename_i e1
    have hr : (0 ≤ a ∧ a ≤ 63) ∧ (0 ≤ b ∧ b ≤ 63) ∧ (1 ≤ c ∧ c ≤ 65535) ∧ (1 ≤ d ∧ d ≤ 65535) := by
      unfold idErr at e1
      split at e1
      · assumption
      · simp at e1
    have s1 := dS_size (n := a) (by omega)
    have s2 := dS_size (n := b) (by omega)
    have s3 := dS_size (n := c) (by omega)
    have s4 := dS_size (n := d) (by omega)
    unfold textI
    simp only [bsz]
    show _ + 1 + _ + 1 + _ + 1 + _ ≤ (83 : Nat)
    omega
@[reducible] def findV (k at' a b c d : Int) : Value := .agg #[.int .i64 k, .int .i64 at', .int .i64 a, .int .i64 b, .int .i64 c, .int .i64 d]
set_option maxRecDepth 10000 in
theorem ftext_ok (hT : TabM Tryz.prog M) {k at' a b c d : Int} (hat : -9223372036854775808 ≤ at' ∧ at' ≤ 9223372036854775807) : CallsM Tryz.prog F.watch_Text [findV k at' a b c d] M fun v M' => v = .string (findB k at' a b c d) ∧ M = M' := by
  refine fo_watch_Text (by simp) ?_
  repeat' ((conv => whnf); first | refine ⟨?_, True.intro⟩ | refine brn_t rfl ?_ | refine brn_f rfl ?_ | refine ob rfl ?_ | refine ob (by decide) ?_ | refine grow_same (Mem.le_refl _) ?_ | refine ob (Mem.le_refl _) ?_ | refine ⟨_, Mem.le_refl _, ?_⟩ | fail)
  refine brn (fun e => ?_) (fun e => ?_)
  · repeat' ((conv => whnf); first | refine ⟨?_, True.intro⟩ | refine brn_t rfl ?_ | refine brn_f rfl ?_ | refine ob rfl ?_ | refine ob (by decide) ?_ | refine grow_same (Mem.le_refl _) ?_ | refine ob (Mem.le_refl _) ?_ | refine ⟨_, Mem.le_refl _, ?_⟩ | fail)
    rw [findB, if_pos (by have := of_decide_eq_true e; omega)]
    exact ⟨rfl, rfl⟩
  have e1 : ¬ k < 1 := of_decide_eq_false e
  clear e
  repeat' ((conv => whnf); first | refine ⟨?_, True.intro⟩ | refine brn_t rfl ?_ | refine brn_f rfl ?_ | refine ob rfl ?_ | refine ob (by decide) ?_ | refine grow_same (Mem.le_refl _) ?_ | refine ob (Mem.le_refl _) ?_ | refine ⟨_, Mem.le_refl _, ?_⟩ | fail)
  refine brn (fun e => ?_) (fun e => ?_)
  · repeat' ((conv => whnf); first | refine ⟨?_, True.intro⟩ | refine brn_t rfl ?_ | refine brn_f rfl ?_ | refine ob rfl ?_ | refine ob (by decide) ?_ | refine grow_same (Mem.le_refl _) ?_ | refine ob (Mem.le_refl _) ?_ | refine ⟨_, Mem.le_refl _, ?_⟩ | fail)
    rw [findB, if_pos (by have := of_decide_eq_true e; omega)]
    exact ⟨rfl, rfl⟩
  have e2 : ¬ 6 ≤ k := of_decide_eq_false e
  clear e
  have hs := dS_size hat
  have hi := idB_size a b c d
  have hk : k = 1 ∨ k = 2 ∨ k = 3 ∨ k = 4 ∨ k = 5 := by omega
  rcases hk with rfl | rfl | rfl | rfl | rfl
  · (conv => whnf); refine ob ⟨by decide, by decide⟩ ?_
    repeat' ((conv => whnf); first | refine ⟨?_, True.intro⟩ | refine brn_t rfl ?_ | refine brn_f rfl ?_ | refine ob rfl ?_ | refine ob (by decide) ?_ | refine grow_same (Mem.le_refl _) ?_ | refine ob (Mem.le_refl _) ?_ | refine ⟨_, Mem.le_refl _, ?_⟩ | fail)
    refine (itoa_okW hT hat).mono ?_
    rintro v _ ⟨rfl, rfl⟩
    (conv => whnf); refine ob (by show (1 : Nat) + _ ≤ _; omega) ?_
    (conv => whnf); refine ob (by rw [bsz]; show (5 : Nat) + (1 + _) ≤ _; omega) ?_
    repeat' ((conv => whnf); first | refine ⟨?_, True.intro⟩ | refine brn_t rfl ?_ | refine brn_f rfl ?_ | refine ob rfl ?_ | refine ob (by decide) ?_ | refine grow_same (Mem.le_refl _) ?_ | refine ob (Mem.le_refl _) ?_ | refine ⟨_, Mem.le_refl _, ?_⟩ | fail)
    refine (text_ok hT a b c d).mono ?_
    rintro v _ ⟨rfl, rfl⟩
    (conv => whnf); refine brn (fun e => ?_) (fun e => ?_)
    · have e1 : idErr a b c d ≠ 0 := by simpa using e
      rw [idB, if_pos e1] at hi
      have hf : findB 1 at' a b c d = wordB 1 ++ (⟨#[32]⟩ ++ dS at') ++ ⟨#[32]⟩ ++ ⟨#[63]⟩ := by
        rw [findB, if_neg (by decide), if_neg (by decide), idB, if_pos e1]
      (conv => whnf); refine ob (by simp only [bsz]; show (5 : Nat) + (1 + _) + 1 ≤ _; omega) ?_
      (conv => whnf); refine ob (by simp only [bsz]; show (5 : Nat) + (1 + _) + 1 + 1 ≤ _; omega) ?_
      repeat' ((conv => whnf); first | refine ⟨?_, True.intro⟩ | refine brn_t rfl ?_ | refine brn_f rfl ?_ | refine ob rfl ?_ | refine ob (by decide) ?_ | refine grow_same (Mem.le_refl _) ?_ | refine ob (Mem.le_refl _) ?_ | refine ⟨_, Mem.le_refl _, ?_⟩ | fail)
      rw [hf]
      exact ⟨rfl, rfl⟩
    · have e1 : ¬ idErr a b c d ≠ 0 := by simpa using e
      rw [idB, if_neg e1] at hi
      have hf : findB 1 at' a b c d = wordB 1 ++ (⟨#[32]⟩ ++ dS at') ++ ⟨#[32]⟩ ++ textI a b c d := by
        rw [findB, if_neg (by decide), if_neg (by decide), idB, if_neg e1]
      rw [textE, if_neg e1]
      (conv => whnf); refine ob (by simp only [bsz]; show (5 : Nat) + (1 + _) + 1 ≤ _; omega) ?_
      (conv => whnf); refine ob (by simp only [bsz]; show (5 : Nat) + (1 + _) + 1 + _ ≤ _; omega) ?_
      repeat' ((conv => whnf); first | refine ⟨?_, True.intro⟩ | refine brn_t rfl ?_ | refine brn_f rfl ?_ | refine ob rfl ?_ | refine ob (by decide) ?_ | refine grow_same (Mem.le_refl _) ?_ | refine ob (Mem.le_refl _) ?_ | refine ⟨_, Mem.le_refl _, ?_⟩ | fail)
      rw [hf]
      exact ⟨rfl, rfl⟩
  · (conv => whnf); refine ob ⟨by decide, by decide⟩ ?_
    repeat' ((conv => whnf); first | refine ⟨?_, True.intro⟩ | refine brn_t rfl ?_ | refine brn_f rfl ?_ | refine ob rfl ?_ | refine ob (by decide) ?_ | refine grow_same (Mem.le_refl _) ?_ | refine ob (Mem.le_refl _) ?_ | refine ⟨_, Mem.le_refl _, ?_⟩ | fail)
    refine (itoa_okW hT hat).mono ?_
    rintro v _ ⟨rfl, rfl⟩
    (conv => whnf); refine ob (by show (1 : Nat) + _ ≤ _; omega) ?_
    (conv => whnf); refine ob (by rw [bsz]; show (5 : Nat) + (1 + _) ≤ _; omega) ?_
    repeat' ((conv => whnf); first | refine ⟨?_, True.intro⟩ | refine brn_t rfl ?_ | refine brn_f rfl ?_ | refine ob rfl ?_ | refine ob (by decide) ?_ | refine grow_same (Mem.le_refl _) ?_ | refine ob (Mem.le_refl _) ?_ | refine ⟨_, Mem.le_refl _, ?_⟩ | fail)
    refine (text_ok hT a b c d).mono ?_
    rintro v _ ⟨rfl, rfl⟩
    (conv => whnf); refine brn (fun e => ?_) (fun e => ?_)
    · have e1 : idErr a b c d ≠ 0 := by simpa using e
      rw [idB, if_pos e1] at hi
      have hf : findB 2 at' a b c d = wordB 2 ++ (⟨#[32]⟩ ++ dS at') ++ ⟨#[32]⟩ ++ ⟨#[63]⟩ := by
        rw [findB, if_neg (by decide), if_neg (by decide), idB, if_pos e1]
      (conv => whnf); refine ob (by simp only [bsz]; show (5 : Nat) + (1 + _) + 1 ≤ _; omega) ?_
      (conv => whnf); refine ob (by simp only [bsz]; show (5 : Nat) + (1 + _) + 1 + 1 ≤ _; omega) ?_
      repeat' ((conv => whnf); first | refine ⟨?_, True.intro⟩ | refine brn_t rfl ?_ | refine brn_f rfl ?_ | refine ob rfl ?_ | refine ob (by decide) ?_ | refine grow_same (Mem.le_refl _) ?_ | refine ob (Mem.le_refl _) ?_ | refine ⟨_, Mem.le_refl _, ?_⟩ | fail)
      rw [hf]
      exact ⟨rfl, rfl⟩
    · have e1 : ¬ idErr a b c d ≠ 0 := by simpa using e
      rw [idB, if_neg e1] at hi
      have hf : findB 2 at' a b c d = wordB 2 ++ (⟨#[32]⟩ ++ dS at') ++ ⟨#[32]⟩ ++ textI a b c d := by
        rw [findB, if_neg (by decide), if_neg (by decide), idB, if_neg e1]
      rw [textE, if_neg e1]
      (conv => whnf); refine ob (by simp only [bsz]; show (5 : Nat) + (1 + _) + 1 ≤ _; omega) ?_
      (conv => whnf); refine ob (by simp only [bsz]; show (5 : Nat) + (1 + _) + 1 + _ ≤ _; omega) ?_
      repeat' ((conv => whnf); first | refine ⟨?_, True.intro⟩ | refine brn_t rfl ?_ | refine brn_f rfl ?_ | refine ob rfl ?_ | refine ob (by decide) ?_ | refine grow_same (Mem.le_refl _) ?_ | refine ob (Mem.le_refl _) ?_ | refine ⟨_, Mem.le_refl _, ?_⟩ | fail)
      rw [hf]
      exact ⟨rfl, rfl⟩
  · (conv => whnf); refine ob ⟨by decide, by decide⟩ ?_
    repeat' ((conv => whnf); first | refine ⟨?_, True.intro⟩ | refine brn_t rfl ?_ | refine brn_f rfl ?_ | refine ob rfl ?_ | refine ob (by decide) ?_ | refine grow_same (Mem.le_refl _) ?_ | refine ob (Mem.le_refl _) ?_ | refine ⟨_, Mem.le_refl _, ?_⟩ | fail)
    refine (itoa_okW hT hat).mono ?_
    rintro v _ ⟨rfl, rfl⟩
    (conv => whnf); refine ob (by show (1 : Nat) + _ ≤ _; omega) ?_
    (conv => whnf); refine ob (by rw [bsz]; show (7 : Nat) + (1 + _) ≤ _; omega) ?_
    repeat' ((conv => whnf); first | refine ⟨?_, True.intro⟩ | refine brn_t rfl ?_ | refine brn_f rfl ?_ | refine ob rfl ?_ | refine ob (by decide) ?_ | refine grow_same (Mem.le_refl _) ?_ | refine ob (Mem.le_refl _) ?_ | refine ⟨_, Mem.le_refl _, ?_⟩ | fail)
    refine (text_ok hT a b c d).mono ?_
    rintro v _ ⟨rfl, rfl⟩
    (conv => whnf); refine brn (fun e => ?_) (fun e => ?_)
    · have e1 : idErr a b c d ≠ 0 := by simpa using e
      rw [idB, if_pos e1] at hi
      have hf : findB 3 at' a b c d = wordB 3 ++ (⟨#[32]⟩ ++ dS at') ++ ⟨#[32]⟩ ++ ⟨#[63]⟩ := by
        rw [findB, if_neg (by decide), if_neg (by decide), idB, if_pos e1]
      (conv => whnf); refine ob (by simp only [bsz]; show (7 : Nat) + (1 + _) + 1 ≤ _; omega) ?_
      (conv => whnf); refine ob (by simp only [bsz]; show (7 : Nat) + (1 + _) + 1 + 1 ≤ _; omega) ?_
      repeat' ((conv => whnf); first | refine ⟨?_, True.intro⟩ | refine brn_t rfl ?_ | refine brn_f rfl ?_ | refine ob rfl ?_ | refine ob (by decide) ?_ | refine grow_same (Mem.le_refl _) ?_ | refine ob (Mem.le_refl _) ?_ | refine ⟨_, Mem.le_refl _, ?_⟩ | fail)
      rw [hf]
      exact ⟨rfl, rfl⟩
    · have e1 : ¬ idErr a b c d ≠ 0 := by simpa using e
      rw [idB, if_neg e1] at hi
      have hf : findB 3 at' a b c d = wordB 3 ++ (⟨#[32]⟩ ++ dS at') ++ ⟨#[32]⟩ ++ textI a b c d := by
        rw [findB, if_neg (by decide), if_neg (by decide), idB, if_neg e1]
      rw [textE, if_neg e1]
      (conv => whnf); refine ob (by simp only [bsz]; show (7 : Nat) + (1 + _) + 1 ≤ _; omega) ?_
      (conv => whnf); refine ob (by simp only [bsz]; show (7 : Nat) + (1 + _) + 1 + _ ≤ _; omega) ?_
      repeat' ((conv => whnf); first | refine ⟨?_, True.intro⟩ | refine brn_t rfl ?_ | refine brn_f rfl ?_ | refine ob rfl ?_ | refine ob (by decide) ?_ | refine grow_same (Mem.le_refl _) ?_ | refine ob (Mem.le_refl _) ?_ | refine ⟨_, Mem.le_refl _, ?_⟩ | fail)
      rw [hf]
      exact ⟨rfl, rfl⟩
  · (conv => whnf); refine ob ⟨by decide, by decide⟩ ?_
    repeat' ((conv => whnf); first | refine ⟨?_, True.intro⟩ | refine brn_t rfl ?_ | refine brn_f rfl ?_ | refine ob rfl ?_ | refine ob (by decide) ?_ | refine grow_same (Mem.le_refl _) ?_ | refine ob (Mem.le_refl _) ?_ | refine ⟨_, Mem.le_refl _, ?_⟩ | fail)
    refine (itoa_okW hT hat).mono ?_
    rintro v _ ⟨rfl, rfl⟩
    (conv => whnf); refine ob (by show (1 : Nat) + _ ≤ _; omega) ?_
    (conv => whnf); refine ob (by rw [bsz]; show (5 : Nat) + (1 + _) ≤ _; omega) ?_
    repeat' ((conv => whnf); first | refine ⟨?_, True.intro⟩ | refine brn_t rfl ?_ | refine brn_f rfl ?_ | refine ob rfl ?_ | refine ob (by decide) ?_ | refine grow_same (Mem.le_refl _) ?_ | refine ob (Mem.le_refl _) ?_ | refine ⟨_, Mem.le_refl _, ?_⟩ | fail)
    refine (text_ok hT a b c d).mono ?_
    rintro v _ ⟨rfl, rfl⟩
    (conv => whnf); refine brn (fun e => ?_) (fun e => ?_)
    · have e1 : idErr a b c d ≠ 0 := by simpa using e
      rw [idB, if_pos e1] at hi
      have hf : findB 4 at' a b c d = wordB 4 ++ (⟨#[32]⟩ ++ dS at') ++ ⟨#[32]⟩ ++ ⟨#[63]⟩ := by
        rw [findB, if_neg (by decide), if_neg (by decide), idB, if_pos e1]
      (conv => whnf); refine ob (by simp only [bsz]; show (5 : Nat) + (1 + _) + 1 ≤ _; omega) ?_
      (conv => whnf); refine ob (by simp only [bsz]; show (5 : Nat) + (1 + _) + 1 + 1 ≤ _; omega) ?_
      repeat' ((conv => whnf); first | refine ⟨?_, True.intro⟩ | refine brn_t rfl ?_ | refine brn_f rfl ?_ | refine ob rfl ?_ | refine ob (by decide) ?_ | refine grow_same (Mem.le_refl _) ?_ | refine ob (Mem.le_refl _) ?_ | refine ⟨_, Mem.le_refl _, ?_⟩ | fail)
      rw [hf]
      exact ⟨rfl, rfl⟩
    · have e1 : ¬ idErr a b c d ≠ 0 := by simpa using e
      rw [idB, if_neg e1] at hi
      have hf : findB 4 at' a b c d = wordB 4 ++ (⟨#[32]⟩ ++ dS at') ++ ⟨#[32]⟩ ++ textI a b c d := by
        rw [findB, if_neg (by decide), if_neg (by decide), idB, if_neg e1]
      rw [textE, if_neg e1]
      (conv => whnf); refine ob (by simp only [bsz]; show (5 : Nat) + (1 + _) + 1 ≤ _; omega) ?_
      (conv => whnf); refine ob (by simp only [bsz]; show (5 : Nat) + (1 + _) + 1 + _ ≤ _; omega) ?_
      repeat' ((conv => whnf); first | refine ⟨?_, True.intro⟩ | refine brn_t rfl ?_ | refine brn_f rfl ?_ | refine ob rfl ?_ | refine ob (by decide) ?_ | refine grow_same (Mem.le_refl _) ?_ | refine ob (Mem.le_refl _) ?_ | refine ⟨_, Mem.le_refl _, ?_⟩ | fail)
      rw [hf]
      exact ⟨rfl, rfl⟩
  · (conv => whnf); refine ob ⟨by decide, by decide⟩ ?_
    repeat' ((conv => whnf); first | refine ⟨?_, True.intro⟩ | refine brn_t rfl ?_ | refine brn_f rfl ?_ | refine ob rfl ?_ | refine ob (by decide) ?_ | refine grow_same (Mem.le_refl _) ?_ | refine ob (Mem.le_refl _) ?_ | refine ⟨_, Mem.le_refl _, ?_⟩ | fail)
    refine (text_ok hT a b c d).mono ?_
    rintro v _ ⟨rfl, rfl⟩
    (conv => whnf); refine brn (fun e => ?_) (fun e => ?_)
    · have e1 : idErr a b c d ≠ 0 := by simpa using e
      rw [idB, if_pos e1] at hi
      have hf : findB 5 at' a b c d = wordB 5 ++ ⟨#[32]⟩ ++ ⟨#[63]⟩ := by
        rw [findB, if_neg (by decide), if_pos (by decide), idB, if_pos e1]
      (conv => whnf); refine ob (by show (4 : Nat) + 1 ≤ _; omega) ?_
      (conv => whnf); refine ob (by simp only [bsz]; show (4 : Nat) + 1 + 1 ≤ _; omega) ?_
      repeat' ((conv => whnf); first | refine ⟨?_, True.intro⟩ | refine brn_t rfl ?_ | refine brn_f rfl ?_ | refine ob rfl ?_ | refine ob (by decide) ?_ | refine grow_same (Mem.le_refl _) ?_ | refine ob (Mem.le_refl _) ?_ | refine ⟨_, Mem.le_refl _, ?_⟩ | fail)
      rw [hf]
      exact ⟨rfl, rfl⟩
    · have e1 : ¬ idErr a b c d ≠ 0 := by simpa using e
      rw [idB, if_neg e1] at hi
      have hf : findB 5 at' a b c d = wordB 5 ++ ⟨#[32]⟩ ++ textI a b c d := by
        rw [findB, if_neg (by decide), if_pos (by decide), idB, if_neg e1]
      rw [textE, if_neg e1]
      (conv => whnf); refine ob (by show (4 : Nat) + 1 ≤ _; omega) ?_
      (conv => whnf); refine ob (by simp only [bsz]; show (4 : Nat) + 1 + _ ≤ _; omega) ?_
      repeat' ((conv => whnf); first | refine ⟨?_, True.intro⟩ | refine brn_t rfl ?_ | refine brn_f rfl ?_ | refine ob rfl ?_ | refine ob (by decide) ?_ | refine grow_same (Mem.le_refl _) ?_ | refine ob (Mem.le_refl _) ?_ | refine ⟨_, Mem.le_refl _, ?_⟩ | fail)
      rw [hf]
      exact ⟨rfl, rfl⟩
theorem findB_twice {k at' a b c d : Int} (h : k = 1 ∨ k = 2 ∨ k = 3 ∨ k = 4) : findB k at' a b c d = (wordB k ++ ⟨#[32]⟩) ++ dS at' ++ ⟨#[32]⟩ ++ idB a b c d := by
  rw [findB, if_neg (by omega), if_neg (by omega), ← ByteArray.append_assoc (a := wordB k)]
end Go.Proofs.YtjkejbenppeagaaGreatDoor
