/- A text within a round of a range over a function. -/
import Derived.Test.YtjkejbenppeagaaGreatDoorVmI
import Derived.OrdersIn
namespace Go.Vm
open Go.RowKit
section
variable {P : Program} {Q : Exit → Act → World → Prop} {a : Act} {w : World} {l : Nat}
theorem rowsIn_of {row : String} {args : Array Value} {R : Value → World → Prop} (h : Rows P row args w R) : RowsIn (Fence.wide.inRound l) 0 P row args w R :=
  fun c cs _ => let ⟨v, w', r, s⟩ := h c cs; ⟨v, w', r, stepsIn_wide.2 s⟩
theorem wpIn_of_wp {o : Oper} {K : Act → World → Prop} (hd : ∀ c, o.op ≠ .defer c) (h : o.wp P a w K Q) : o.wpIn (Fence.wide.inRound l) 0 P a w K Q := by
  refine ⟨fun _ _ => trivial, ?_⟩
  rw [Oper.semAt_eq _ _ _ hd]
  unfold Oper.wp at h
  generalize (execOp a.eval o).run P w = r at *
  cases r with
  | ok n w' =>
    cases n <;> simp only [Oper.upon] at h <;> simp only [Oper.uponIn] <;> first
      | exact h
      | exact ⟨fun h => (by cases h), CallsIn.inRound l (callsIn_wide.2 h)⟩
      | exact ⟨fun h => (by cases h), rowsIn_of h⟩
      | exact h.elim
  | halt x w' => cases x <;> simp only [Oper.upon] at h <;> simp only [Oper.uponIn] <;> exact h
theorem wpIn_imp {o : Oper} {K K' : Act → World → Prop} (hk : ∀ a w, K a w → K' a w) (hd : ∀ c, o.op ≠ .defer c) (h : o.wp P a w K Q) : o.wpIn (Fence.wide.inRound l) 0 P a w K' Q := wpIn_of_wp hd (Oper.wp_mono hk h)
theorem notDefer_ne {o : Oper} (h : notDefer o = true) : ∀ c, o.op ≠ .defer c := fun c hc => by simp [notDefer, hc] at h
theorem wpListIn_of {ops : Array Oper} (hQ : ¬ LetsOut Q) : ∀ (ls : List Oper) (a : Act) (w : World), (∀ o ∈ ls, notDefer o = true) → wpList P ops Q ls a w → wpListIn (Fence.wide.inRound l) 0 P ops Q ls a w
  | [], _, _, _, h => h
  | o :: ls, a, w, hd, h => by
    unfold wpList at h
    unfold wpListIn
    split
    · rename_i hw
      rw [if_pos hw] at h
      rcases h with h | ⟨-, h⟩
      · exact wpIn_imp (fun a w h => wpListIn_of hQ ls a w (fun o ho => hd o (by simp [ho])) h) (notDefer_ne (hd o (by simp))) h
      · exact absurd h hQ
    · rename_i hw
      rw [if_neg hw] at h
      exact ⟨fun _ _ => trivial, wpListIn_of hQ ls _ w (fun o ho => hd o (by simp [ho])) h⟩
theorem wpAnyIn_of {ops : Array Oper} {md : Region.Mode} (hQ : ¬ LetsOut Q) (hd : ∀ (i : Nat) o, ops[i]? = some o → notDefer o = true) : ∀ (fuel : Nat) (listed : Array Bool) (a : Act) (w : World), wpAny P md ops Q fuel listed a w → wpAnyIn (Fence.wide.inRound l) 0 P md ops Q fuel listed a w
  | 0, _, _, _, h => h
  | fuel + 1, listed, a, w, h => by
    refine ⟨h.1, fun i hi => ?_⟩
    have h1 := h.2 i hi
    unfold wpOp at h1
    unfold wpOpIn
    cases ho : ops[i]? with
    | none => rw [ho] at h1; exact wpAnyIn_of hQ hd fuel _ a w h1
    | some o =>
      rw [ho] at h1
      dsimp only at h1 ⊢
      split
      · rename_i hw
        rw [if_pos hw] at h1
        rcases h1 with h1 | ⟨-, h1⟩
        · exact wpIn_imp (fun a w h => wpAnyIn_of hQ hd fuel _ a w h) (notDefer_ne (hd i o ho)) h1
        · exact absurd h1 hQ
      · rename_i hw
        rw [if_neg hw] at h1
        exact ⟨fun _ _ => trivial, wpAnyIn_of hQ hd fuel _ _ w h1⟩
end
theorem exists_least {p : Nat → Prop} (h : ∃ n, p n) : ∃ n, p n ∧ ∀ m, p m → n ≤ m := by
  obtain ⟨n, hn⟩ := h
  induction n using Nat.strongRecOn with
  | _ n ih =>
    by_cases hx : ∃ m, m < n ∧ p m
    · obtain ⟨m, hm, hp⟩ := hx
      exact ih m hm hp
    · exact ⟨n, hn, fun m hm => Nat.le_of_not_lt fun hlt => hx ⟨m, hlt, hm⟩⟩
/-- THE TEXT, within a round -/
theorem vcR_sound {P : Program} {F : Mem} {w0 : World} {n l : Nat} {kf : Nat → List Nat} : ∀ (c : Code) (r : RCode), res P n kf c = some r → noD c = true →
    ∀ (K : Exit → St → Prop) (Q : Exit → Act → World → Prop) (β : List Nat) (s : St) (a : Act) (w : World), (∀ a w, ¬ Q .outgrown a w) → (∀ c a w, ¬ Q (.panic c) a w) → Rel β F w0 n s a w → vc P r K s →
    (∀ e β' s' a' w', K e s' → Rel β' F w0 n s' a' w' → Q e a' w') → c.wpIn (Fence.wide.inRound l) 0 P Q a w := by
  intro c
  induction c with
  | skip =>
    intro r hr _ K Q β s a w _ _ R h hK
    simp [res] at hr; subst hr
    exact wpIn_skip (hK _ _ _ _ _ h R)
  | region id ops draw =>
    intro r hr hd K Q β s a w hQ hQ2 R h hK
    have hL : ¬ LetsOut Q := fun ⟨a, w, h⟩ => hQ a w h
    simp only [noD, Array.all_eq_true] at hd
    have hdm : ∀ o ∈ ops.toList, notDefer o = true := fun o ho => by
      obtain ⟨i, hi, rfl⟩ := List.getElem_of_mem ho
      exact hd i (by simpa using hi)
    simp only [res] at hr
    cases draw with
    | false =>
      simp only [Option.map_eq_some_iff] at hr
      obtain ⟨ls, hl, rfl⟩ := hr
      exact wpIn_region_list (wpListIn_of hL _ _ _ hdm (vops_sound ops.toList 0 ls β s a w hl R h fun β' s' a' w' hk R' => hK _ _ _ _ _ (by rw [killK_eq] at hk; exact hk) (R'.kill _)))
    | true =>
      simp only at hr
      split at hr
      · rename_i hc
        simp only [Bool.and_eq_true] at hc
        obtain ⟨hm, hns⟩ := hc
        simp only [Option.map_eq_some_iff] at hr
        obtain ⟨t, ht, rfl⟩ := hr
        have R1 : Rel (β ++ []) F w0 n s a { w with drawn := w.drawn + 1 } := by
          rw [List.append_nil]
          exact ⟨⟨R.rd.M, R.rd.live, R.rd.gone⟩, R.fr, R.len, R.Fle, R.dj, R.own, R.dist, R.nd, R.sz, R.os, R.out, R.tape, ⟨R.grow.1, Nat.le_succ_of_le R.grow.2⟩⟩
        have main : ∀ X : Mem, X.le s.M → vdraw P X s.bx t s (fun s' => s'.killK (kf id) fun s'' => K .normal s'') → (Code.region id ops true).wpIn (Fence.wide.inRound l) 0 P Q a w := by
          intro X hX hv
          refine wpIn_mono (Q := fun e a w => e = .normal ∧ ∃ β' s', K .normal s' ∧ Rel β' F w0 n s' a w) ?_ (fun e a w ⟨he, β', s', hk, R'⟩ => by subst he; exact hK _ _ _ _ _ hk R')
          refine wpIn_region_any hm (wpAnyIn_of (by rintro ⟨a, w, h, -⟩; cases h) (fun i o ho => hdm o (by rw [← Array.getElem?_toList] at ho; exact List.mem_of_getElem? ho)) _ _ _ _ (wpAny_of_J _ _ _ _ (dtree_sound hns (fun c a w h => by cases h.1) (bx0 := s.bx) (β0 := β) (fun j b hj => R.rd.gone j b hj)
            (fun j T cs hj => R.lv j T cs hj) ops.size X (fun Y => Y = X) (fun Y hY => by rw [hY]; exact Mem.le_refl _) rfl true _ t [] s a _ ht ?_ R1 (fun _ => ⟨Mem.le_trans hX R1.rd.M, fun j T cs hj => R.rd.live j T cs hj, fun j b hj => R.rd.gone j b hj⟩) hv ?_)))
          · intro j o ho hl
            exfalso
            simp only [Array.getD_eq_getD_getElem?, Array.getElem?_replicate] at hl
            split at hl <;> simp at hl
          · intro β' s' a' w' hk R'
            rw [killK_eq] at hk
            exact ⟨rfl, β', _, hk, R'.kill _⟩
        simp only [vc, drawK] at h
        cases hn : anyNeed t with
        | true =>
          rw [hn] at h
          obtain ⟨X, hX, hv⟩ := h
          exact main X hX hv
        | false =>
          rw [hn] at h
          exact main s.M (Mem.le_refl _) h
      · cases hr
  | seq x y ihx ihy =>
    intro r hr hd K Q β s a w hQ hQ2 R h hK
    simp only [noD, Bool.and_eq_true] at hd
    simp only [res] at hr
    split at hr
    · rename_i rx ry hx hy
      simp at hr; subst hr
      refine wpIn_seq (ihx rx hx hd.1 _ _ β s a w (fun a w h => hQ a w h) (fun c a w h => hQ2 c a w h) R h ?_)
      intro e β' s' a' w' hk R'
      cases e <;> first | exact ihy ry hy hd.2 _ _ β' s' a' w' hQ hQ2 R' hk hK | exact hK _ _ _ _ _ hk R'
    · cases hr
  | cond c x y ihx ihy =>
    intro r hr hd K Q β s a w hQ hQ2 R h hK
    simp only [noD, Bool.and_eq_true] at hd
    simp only [res] at hr
    split at hr
    · rename_i rx ry hx hy
      simp at hr; subst hr
      obtain ⟨sv, v, hk, hv, he⟩ := ev_sound R.fr h
      obtain ⟨b, rfl, h1, h2⟩ := brS_sound hk hv
      refine wpIn_cond he ?_
      cases b with
      | true => exact ihx rx hx hd.1 _ _ β s a w hQ hQ2 R (h1 rfl) hK
      | false => exact ihy ry hy hd.2 _ _ β s a w hQ hQ2 R (h2 rfl) hK
    · cases hr
  | block id x ih =>
    intro r hr hd K Q β s a w hQ hQ2 R h hK
    simp only [res, Option.map_eq_some_iff] at hr
    obtain ⟨rx, hx, rfl⟩ := hr
    refine wpIn_block (ih rx hx hd _ _ β s a w (fun a w h => hQ a w h) (fun c a w h => hQ2 c a w h) R h ?_)
    intro e β' s' a' w' hk R'
    cases e with
    | exit i =>
      simp only [blockQ] at hk
      simp only [Exit.inBlock]
      split at hk
      · rename_i hi; rw [if_pos (Nat.eq_of_beq_eq_true hi)]; exact hK _ _ _ _ _ hk R'
      · rename_i hi; rw [if_neg (Nat.ne_of_beq_eq_false hi)]; exact hK _ _ _ _ _ hk R'
    | _ => exact hK _ _ _ _ _ hk R'
  | loop x ih =>
    intro r hr hd K Q β s a w hQ hQ2 R h hK
    simp only [res, Option.map_eq_some_iff] at hr
    obtain ⟨rx, hx, rfl⟩ := hr
    obtain ⟨s1, h, R⟩ := loop_pub R h
    obtain ⟨I, ⟨m0, t0, hI0, hs0⟩, hround⟩ := h
    let J : Act → World → Nat → Prop := fun a w m => ∃ t β, I m t ∧ Rel β F w0 n t a w
    have hJ0 : ∃ m, J a w m := ⟨m0, t0, _, hI0, R.sub hs0⟩
    classical
    refine wpIn_loop (fun a w => ∃ m, J a w m) (fun a w => if h : ∃ m, J a w m then Classical.choose (exists_least h) else 0) hJ0 ?_
    intro a1 w1 hJ
    have hmin := (Classical.choose_spec (exists_least hJ)).1
    obtain ⟨t, β1, hI, R1⟩ := hmin
    refine ih rx hx hd _ _ β1 t a1 w1 (fun a w h => hQ a w h) (fun c a w h => hQ2 c a w h) R1 (hround _ t hI) ?_
    intro e β' s' a' w' hk R'
    cases e with
    | normal =>
      obtain ⟨m', t', hlt, hI', hs'⟩ := hk
      have hJ' : J a' w' m' := ⟨t', _, hI', R'.sub hs'⟩
      refine ⟨⟨m', hJ'⟩, ?_⟩
      rw [dif_pos hJ, dif_pos ⟨m', hJ'⟩]
      exact Nat.lt_of_le_of_lt ((Classical.choose_spec (exists_least (p := J a' w') ⟨m', hJ'⟩)).2 _ hJ') hlt
    | _ => exact hK _ _ _ _ _ hk R'
  | exit id =>
    intro r hr _ K Q β s a w _ _ R h hK
    simp [res] at hr; subst hr
    exact wpIn_exit (hK _ _ _ _ _ h R)
  | ret =>
    intro r hr _ K Q β s a w _ _ R h hK
    simp [res] at hr; subst hr
    exact wpIn_ret (hK _ _ _ _ _ h R)
  | label l =>
    intro r hr _ K Q β s a w _ _ R h hK
    simp [res] at hr; subst hr
    exact wpIn_label (hK _ _ _ _ _ h R)
  | _ => intro r hr hd; simp [res, noD] at hr hd
end Go.Vm
