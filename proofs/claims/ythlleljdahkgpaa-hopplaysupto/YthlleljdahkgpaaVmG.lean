/- Functions: from the conditions of a text to what is seen from outside. -/
import Derived.Test.YthlleljdahkgpaaVmI
namespace Go.Vm
open Go.RowKit

theorem exists_least {p : Nat → Prop} (h : ∃ n, p n) : ∃ n, p n ∧ ∀ m, p m → n ≤ m := by
  obtain ⟨n, hn⟩ := h
  induction n using Nat.strongRecOn with
  | _ n ih =>
    by_cases hx : ∃ m, m < n ∧ p m
    · obtain ⟨m, hm, hp⟩ := hx
      exact ih m hm hp
    · exact ⟨n, hn, fun m hm => Nat.le_of_not_lt fun hlt => hx ⟨m, hlt, hm⟩⟩
/-- THE TEXT -/
theorem vc_sound {P : Program} {F : Mem} {w0 : World} {n : Nat} {kf : Nat → List Nat} : ∀ (c : Code) (r : RCode), res P n kf c = some r →
    ∀ (K : Exit → St → Prop) (Q : Exit → Act → World → Prop) (β : List Nat) (s : St) (a : Act) (w : World), Rel β F w0 n s a w → vc P r K s →
    (∀ e β' s' a' w', K e s' → Rel β' F w0 n s' a' w' → Q e a' w') → c.wp P Q a w := by
  intro c
  induction c with
  | skip =>
    intro r hr K Q β s a w R h hK
    simp [res] at hr; subst hr
    exact wp_skip (hK _ _ _ _ _ h R)
  | region id ops draw =>
    intro r hr K Q β s a w R h hK
    simp only [res] at hr
    cases draw with
    | false =>
      simp only [Option.map_eq_some_iff] at hr
      obtain ⟨l, hl, rfl⟩ := hr
      exact wp_region_list (vops_sound ops.toList 0 l β s a w hl R h fun β' s' a' w' hk R' => hK _ _ _ _ _ (by rw [killK_eq] at hk; exact hk) (R'.kill _))
    | true =>
      simp only at hr
      split at hr
      · rename_i hc
        simp only [Bool.and_eq_true] at hc
        obtain ⟨hm, hns⟩ := hc
        simp only [Option.map_eq_some_iff] at hr
        obtain ⟨t, ht, rfl⟩ := hr
        have R1 : Rel (β ++ []) F w0 n s a { w with drawn := w.drawn + 1 } := by
          rw [List.append_nil]
          exact ⟨⟨R.rd.M, R.rd.live, R.rd.gone⟩, R.fr, R.len, R.Fle, R.dj, R.own, R.dist, R.nd, R.sz, R.os, R.out, R.tape, ⟨R.grow.1, Nat.le_succ_of_le R.grow.2⟩⟩
        have main : ∀ X : Mem, X.le s.M → vdraw P X s.bx t s (fun s' => s'.killK (kf id) fun s'' => K .normal s'') → (Code.region id ops true).wp P Q a w := by
          intro X hX hv
          refine wp_mono (Q := fun e a w => e = .normal ∧ ∃ β' s', K .normal s' ∧ Rel β' F w0 n s' a w) ?_ (fun e a w ⟨he, β', s', hk, R'⟩ => by subst he; exact hK _ _ _ _ _ hk R')
          refine wp_region_any hm (wpAny_of_J _ _ _ _ (dtree_sound hns (fun c a w h => by cases h.1) (bx0 := s.bx) (β0 := β) (fun j b hj => R.rd.gone j b hj)
            (fun j T cs hj => R.lv j T cs hj) ops.size X (fun Y => Y = X) (fun Y hY => by rw [hY]; exact Mem.le_refl _) rfl true _ t [] s a _ ht ?_ R1 (fun _ => ⟨Mem.le_trans hX R1.rd.M, fun j T cs hj => R.rd.live j T cs hj, fun j b hj => R.rd.gone j b hj⟩) hv ?_))
          · intro j o ho hl
            exfalso
            simp only [Array.getD_eq_getD_getElem?, Array.getElem?_replicate] at hl
            split at hl <;> simp at hl
          · intro β' s' a' w' hk R'
            rw [killK_eq] at hk
            exact ⟨rfl, β', _, hk, R'.kill _⟩
        simp only [vc, drawK] at h
        cases hn : anyNeed t with
        | true =>
          rw [hn] at h
          obtain ⟨X, hX, hv⟩ := h
          exact main X hX hv
        | false =>
          rw [hn] at h
          exact main s.M (Mem.le_refl _) h
      · cases hr
  | seq x y ihx ihy =>
    intro r hr K Q β s a w R h hK
    simp only [res] at hr
    split at hr
    · rename_i rx ry hx hy
      simp at hr; subst hr
      refine wp_seq (ihx rx hx _ _ β s a w R h ?_)
      intro e β' s' a' w' hk R'
      cases e <;> first | exact ihy ry hy _ _ β' s' a' w' R' hk hK | exact hK _ _ _ _ _ hk R'
    · cases hr
  | cond c x y ihx ihy =>
    intro r hr K Q β s a w R h hK
    simp only [res] at hr
    split at hr
    · rename_i rx ry hx hy
      simp at hr; subst hr
      obtain ⟨sv, v, hk, hv, he⟩ := ev_sound R.fr h
      obtain ⟨b, rfl, h1, h2⟩ := brS_sound hk hv
      refine wp_cond he ?_
      cases b with
      | true => exact ihx rx hx _ _ β s a w R (h1 rfl) hK
      | false => exact ihy ry hy _ _ β s a w R (h2 rfl) hK
    · cases hr
  | block id x ih =>
    intro r hr K Q β s a w R h hK
    simp only [res, Option.map_eq_some_iff] at hr
    obtain ⟨rx, hx, rfl⟩ := hr
    refine wp_block (ih rx hx _ _ β s a w R h ?_)
    intro e β' s' a' w' hk R'
    cases e with
    | exit i =>
      simp only [blockQ] at hk
      simp only [Exit.inBlock]
      split at hk
      · rename_i hi; rw [if_pos (Nat.eq_of_beq_eq_true hi)]; exact hK _ _ _ _ _ hk R'
      · rename_i hi; rw [if_neg (Nat.ne_of_beq_eq_false hi)]; exact hK _ _ _ _ _ hk R'
    | _ => exact hK _ _ _ _ _ hk R'
  | loop x ih =>
    intro r hr K Q β s a w R h hK
    simp only [res, Option.map_eq_some_iff] at hr
    obtain ⟨rx, hx, rfl⟩ := hr
    obtain ⟨I, ⟨m0, t0, hI0, hs0⟩, hround⟩ := h
    let J : Act → World → Nat → Prop := fun a w m => ∃ t β, I m t ∧ Rel β F w0 n t a w
    have hJ0 : ∃ m, J a w m := ⟨m0, t0, _, hI0, R.sub hs0⟩
    classical
    refine wp_loop (fun a w => ∃ m, J a w m) (fun a w => if h : ∃ m, J a w m then Classical.choose (exists_least h) else 0) hJ0 ?_
    intro a1 w1 hJ
    have hmin := (Classical.choose_spec (exists_least hJ)).1
    obtain ⟨t, β1, hI, R1⟩ := hmin
    refine ih rx hx _ _ β1 t a1 w1 R1 (hround _ t hI) ?_
    intro e β' s' a' w' hk R'
    cases e with
    | normal =>
      obtain ⟨m', t', hlt, hI', hs'⟩ := hk
      have hJ' : J a' w' m' := ⟨t', _, hI', R'.sub hs'⟩
      refine ⟨⟨m', hJ'⟩, ?_⟩
      rw [dif_pos hJ, dif_pos ⟨m', hJ'⟩]
      exact Nat.lt_of_le_of_lt ((Classical.choose_spec (exists_least (p := J a' w') ⟨m', hJ'⟩)).2 _ hJ') hlt
    | _ => exact hK _ _ _ _ _ hk R'
  | exit id =>
    intro r hr K Q β s a w R h hK
    simp [res] at hr; subst hr
    exact wp_exit (hK _ _ _ _ _ h R)
  | ret =>
    intro r hr K Q β s a w R h hK
    simp [res] at hr; subst hr
    exact wp_ret (hK _ _ _ _ _ h R)
  | scope x ih =>
    intro r hr K Q β s a w R h hK
    simp only [res, Option.map_eq_some_iff] at hr
    obtain ⟨rx, hx, rfl⟩ := hr
    refine wp_scope_straight (ih rx hx _ _ β s a w R h ?_)
    intro e β' s' a' w' hk R'
    cases e with
    | goto l => exact hk.elim
    | _ => exact hK _ _ _ _ _ hk R'
  | label l =>
    intro r hr K Q β s a w R h hK
    simp [res] at hr; subst hr
    exact wp_label (hK _ _ _ _ _ h R)
  | _ => intro r hr; simp [res] at hr


theorem args0_lk : ∀ (i : Nat) (args : List Value) (d : Nat) (sv : SV), lk (args0 i args) d = some sv → ∃ v, args[d - i]? = some v ∧ i ≤ d ∧ sv = norm v
  | i, v :: r, d, sv, h => by
    simp only [args0, lk] at h
    split at h
    · rename_i e; have e := Nat.eq_of_beq_eq_true e; subst e; simp at h; subst h; exact ⟨v, by simp, Nat.le_refl _, rfl⟩
    · obtain ⟨u, h1, h2, h3⟩ := args0_lk (i + 1) r d sv h
      refine ⟨u, ?_, by omega, h3⟩
      have : d - i = (d - (i + 1)) + 1 := by omega
      rw [this]; simpa using h1

section
variable {P : Program} {β : List Nat} {F : Mem} {w0 : World} {n : Nat} {a : Act} {w : World}

/-- what a result's place gives -/
def resRun (tmps : Array Value) : ResultVar → Sem Value
  | .tmp t => pure (tmps.getD t undef)
  | .cell a t => do loadVar t (← asAddr (tmps.getD a undef))
theorem vres1_sound {s : St} (R : Rel β F w0 n s a w) {r : ResultVar} {rr : RRes} (hr : resOne P r = some rr) {k : Value → St → Prop} (h : vres1 rr s k) :
    ∃ v s', k v s' ∧ Rel β F w0 n s' a w ∧ (resRun a.tmps r).run P w = .ok v w := by
  cases r with
  | tmp t =>
    simp [resOne] at hr; subst hr
    simp only [vres1] at h
    obtain ⟨sv, v, hk, hv, he⟩ := ev_sound (x := .tmp t) R.fr h
    obtain ⟨s', hk', R', _⟩ := shal_sound R hv hk
    exact ⟨v, s', hk', R', by simp only [resRun, Sem.run_pure]; rw [← he]; rfl⟩
  | cell x T =>
    simp only [resOne, Option.bind_eq_some_iff] at hr
    obtain ⟨g, hg, m, hm, hr⟩ := hr
    split at hr
    · rename_i hgm
      simp at hr; subst hr
      simp only [vres1] at h
      have fin : ∀ {cs : List SC} {us : List Value} {b o : Nat} {c : Array Value} {e : TypeId} {fz : Nat × Nat}, mkv g cs (fun sv => shal sv s k) → vals β cs = some us → a.eval (.tmp x) = .pointer (some ⟨b, o, none⟩) →
          w.heap[b]? = some (.cells c e fz) → o + m ≤ c.size → us = (c.toList.drop o).take m → ∃ v s', k v s' ∧ Rel β F w0 n s' a w ∧ (resRun a.tmps (.cell x T)).run P w = .ok v w := by
        intro cs us b o c e fz hmk hu hp hh hle hus
        obtain ⟨sv, hk, hor⟩ := mkv_sound hmk hu
        have hp' : a.tmps.getD x undef = .pointer (some ⟨b, o, none⟩) := hp
        rcases hor with ⟨rfl, hv⟩ | ⟨rfl, u, hu', hv⟩
        · obtain ⟨s', hk', R', _⟩ := shal_sound R hv hk
          refine ⟨_, s', hk', R', ?_⟩
          simp only [resRun, Sem.run_bind, hp', asAddr, Sem.run_pure, Result.andThen_ok]
          rw [run_loadVar_agg hg hm hh hle, hus]
        · obtain ⟨s', hk', R', _⟩ := shal_sound R hv hk
          refine ⟨_, s', hk', R', ?_⟩
          simp only [resRun, Sem.run_bind, hp', asAddr, Sem.run_pure, Result.andThen_ok]
          rw [run_loadVar_one (v := u) hg ?_]
          rw [cell_at hh]
          have h1 : m = 1 := by simpa using hgm
          subst h1
          rw [hus] at hu'
          have := congrArg (·[0]?) hu'
          simpa using this
      rcases R.rd.evP R.fr h with ⟨j, o, T', cs, b, vs, hj, hk, hb, hvs, hp⟩ | ⟨b, o, hk, hp⟩
      · obtain ⟨l, hl0, hk⟩ := onO_sound hk
        obtain ⟨hle, rfl⟩ := takeC_some hl0
        obtain ⟨b', vs', hb', hvs', hh⟩ := R.rd.live j T' cs hj
        rw [hb] at hb'; cases hb'
        rw [hvs] at hvs'; cases hvs'
        have hl := vals_length hvs
        exact fin hk (vals_take _ (vals_drop _ hvs)) hp hh (by simp; omega) (by simp)
      · obtain ⟨vs, hrow, hk⟩ := onO_sound hk
        obtain ⟨c, e, fz, hh, hle, hvs⟩ := row_heap R.rd.M hrow
        exact fin hk (vals_map_v β vs) hp hh hle hvs
    · cases hr

theorem vress_sound : ∀ {rs : List ResultVar} {rrs : List RRes} {s : St} {k : List Value → St → Prop}, rs.mapM (resOne P) = some rrs → Rel β F w0 n s a w → vress rrs s k →
    ∃ vs s', k vs s' ∧ Rel β F w0 n s' a w ∧ vs.length = rs.length ∧ (rs.mapM (resRun a.tmps)).run P w = .ok vs w
  | [], rrs, s, k, hr, R, h => by simp at hr; subst hr; exact ⟨[], s, h, R, rfl, rfl⟩
  | r :: rs, rrs, s, k, hr, R, h => by
    simp only [List.mapM_cons, Option.bind_eq_bind, Option.bind_eq_some_iff] at hr
    obtain ⟨x, hx, xs, hxs, he⟩ := hr
    simp at he; subst he
    obtain ⟨v, s1, hk, R1, h1⟩ := vres1_sound R hx h
    obtain ⟨vs, s2, hk2, R2, hl, h2⟩ := vress_sound hxs R1 hk
    exact ⟨v :: vs, s2, hk2, R2, by simp [hl], by simp only [List.mapM_cons, Sem.run_bind, h1, h2, Result.andThen_ok, Sem.run_pure]⟩

theorem vret_sound {fn : Func} {rrs : List RRes} {s : St} {R' : Value → Mem → Prop} (hr : resRes P fn = some rrs) (R : Rel β F w0 n s a w) (h : vret rrs s R') :
    ∃ v s', R' v s'.M ∧ Rel β F w0 n s' a w ∧ (results fn a.tmps).run P w = .ok v w := by
  have hr' : fn.results.toList.mapM (resOne P) = some rrs := hr
  obtain ⟨vs, s', hk, R2, hl, hrun⟩ := vress_sound hr' R h
  have e : results fn a.tmps = (do
      let vs ← fn.results.mapM (resRun a.tmps)
      pure (if h : vs.size = 1 then vs[0] else .tuple vs)) := by
    unfold results
    congr 1
  have hrun2 : (results fn a.tmps).run P w = .ok (tupled vs) w := by
    rw [e, Array.mapM_eq_mapM_toList]
    simp only [Sem.run_bind, Sem.run_map, hrun, Result.andThen_ok, Sem.run_pure]
    clear hl hrun
    match vs with
    | [v] => simp [tupled]
    | [] => simp [tupled]
    | v :: u :: r => simp [tupled]
  have hk' : R' (tupled vs) s'.M := by
    obtain ⟨fr, bx, M⟩ := s'
    match vs, hk with
    | [v], hk => exact hk
    | [], hk => exact hk
    | _ :: _ :: _, hk => exact hk
  exact ⟨_, s', hk', R2, hrun2⟩
end

/-- A FUNCTION -/
theorem fn_sound {P : Program} {kf : Nat → List Nat} {f : Nat} {fn : Func} {c : Code} {r : RCode} {rs : List RRes} {args : List Value} {M : Mem} {R : Value → Mem → Prop}
    (hf : P.funcs[f]? = some fn) (hb : fn.body = some c) (hr : res P fn.ntmps kf c = some r) (hrs : resRes P fn = some rs) (hn : args.length ≤ fn.ntmps) (hen : enters P f = true)
    (h : vfn P r rs args M R) : CallsM P f args M R := by
  refine ⟨hen, fun F w hM hF hd => ?_⟩
  unfold vfn at h
  rw [forceL_eq] at h
  refine calls_of_wp hf hb ?_
  have R0 : Rel [] F w fn.ntmps { fr := args0 0 args, bx := [], M := M } { tmps := args.toArray ++ Array.replicate (fn.ntmps - args.toArray.size) undef, defers := [] } w := by
    refine ⟨⟨hM, by simp, by simp⟩, ?_, rfl, hF, hd, by simp, by simp, rfl, by simp; omega, rfl, rfl, rfl, ⟨Nat.le_refl _, Nat.le_refl _⟩⟩
    intro d sv hd
    obtain ⟨v, h1, h2, rfl⟩ := args0_lk 0 args d sv hd
    refine .inr ⟨v, norm_val _ v, ?_⟩
    simp only [Nat.sub_zero] at h1
    have hlt := (List.getElem?_eq_some_iff.1 h1).1
    rw [Array.getElem?_append_left (by simpa using hlt)]
    simpa using h1
  refine vc_sound c r hr _ _ [] _ _ w R0 h ?_
  intro e β' s' a' w' hk R'
  cases e with
  | normal =>
    obtain ⟨v, s2, h1, R2, hrun⟩ := vret_sound hrs R' hk
    exact ⟨R2.nd, v, hrun, v, s2.M, rfl, h1, R2.rd.M, R2.Fle, R2.dj, R2.os, R2.out, R2.tape, R2.grow⟩
  | ret =>
    obtain ⟨v, s2, h1, R2, hrun⟩ := vret_sound hrs R' hk
    exact ⟨R2.nd, v, hrun, v, s2.M, rfl, h1, R2.rd.M, R2.Fle, R2.dj, R2.os, R2.out, R2.tape, R2.grow⟩
  | _ => exact hk.elim
/-- the same, off three closed facts -/
theorem fn_ok {P : Program} {kf : Nat → List Nat} {f : Nat} {fn : Func} {r : RCode} {rs : List RRes} {args : List Value} {M : Mem} {R : Value → Mem → Prop}
    (hf : P.funcs[f]? = some fn) (hr : fn.body.bind (res P fn.ntmps kf) = some r) (hrs : resRes P fn = some rs) (hn : args.length ≤ fn.ntmps) (hen : enters P f = true)
    (h : vfn P r rs args M R) : CallsM P f args M R := by
  obtain ⟨c, hb, hr⟩ := Option.bind_eq_some_iff.1 hr
  exact fn_sound hf hb hr hrs hn hen h
end Go.Vm
