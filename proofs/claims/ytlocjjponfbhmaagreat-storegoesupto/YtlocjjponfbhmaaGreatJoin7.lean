/- Statements whose order is open. -/
import Derived.Test.YtlocjjponfbhmaaGreatVmF
namespace Go.Vm
theorem bool_ne {y b : Bool} (h : ¬ y = b) : y = !b := by cases y <;> cases b <;> simp_all
open Go.RowKit

def Closed (ops : Array Oper) (L : Array Bool) : Prop :=
  ∀ (j : Nat) o, ops[j]? = some o → L.getD j false = true → ∀ e ∈ o.after, Region.binds .any e = true → L.getD e.on false = true
theorem waits_listed {ops : Array Oper} {L : Array Bool} (hc : Closed ops L) : ∀ (n j i : Nat) (o : Oper), ops[j]? = some o → (∀ e ∈ o.after, Region.binds .any e = true → L.getD e.on false = true) →
    waits ops n j i = true → L.getD i false = true
  | 0, _, _, _, _, _, h => by simp [waits] at h
  | n + 1, j, i, o, ho, hp, h => by
    simp only [waits, ho] at h
    obtain ⟨e, he, hb⟩ := Array.any_eq_true'.1 h
    simp only [Bool.and_eq_true, Bool.or_eq_true, beq_iff_eq] at hb
    obtain ⟨h1, h2⟩ := hb
    have hl := hp e he h1
    rcases h2 with h2 | h2
    · rw [← h2]; exact hl
    · cases hoe : ops[e.on]? with
      | none =>
        exfalso
        cases n with
        | zero => simp [waits] at h2
        | succ n => simp [waits, hoe] at h2
      | some oe => exact waits_listed hc n e.on i oe hoe (hc e.on oe hoe hl) h2
theorem getD_both' {L : Array Bool} {i : Nat} (h : L.getD i true = false) : L.getD i false = false := by
  rcases Nat.lt_or_ge i L.size with h' | h'
  · simp [h'] at h ⊢; exact h
  · simp [Array.getElem?_eq_none h'] at h
theorem Closed.set {ops : Array Oper} {L : Array Bool} (hc : Closed ops L) {i : Nat} (hi : i ∈ Region.ready .any ops L) : Closed ops (L.setIfInBounds i true) := by
  intro j o ho hl e he hb
  obtain ⟨_, oi, hoi, hall⟩ := mem_ready.1 hi
  by_cases hij : i = j
  · subst hij
    rw [ho] at hoi; cases hoi
    exact getD_set_true (hall e he hb)
  · rw [getD_set_ne false hij] at hl
    exact getD_set_true (hc j o ho hl e he hb)

section
variable {P : Program} {ops : Array Oper} {Q : Exit → Act → World → Prop} {T : Nat → World → World → Prop}
/-- whatever order is picked from here on; T: what each operation does to the world -/
def wpAnyJ (P : Program) (ops : Array Oper) (Q : Exit → Act → World → Prop) (T : Nat → World → World → Prop) : Nat → Array Bool → Act → World → Prop
  | 0, listed, a, w => Region.ready .any ops listed = [] ∧ Q .normal a w
  | fuel + 1, listed, a, w =>
    (Region.ready .any ops listed = [] → Q .normal a w) ∧
    ∀ i ∈ Region.ready .any ops listed, wpOp P ops Q i (fun a' w' => T i w w' ∧ wpAnyJ P ops Q T fuel (listed.setIfInBounds i true) a' w') a w
theorem wpAny_of_J : ∀ (fuel : Nat) (listed : Array Bool) (a : Act) (w : World), wpAnyJ P ops Q T fuel listed a w → wpAny P .any ops Q fuel listed a w
  | 0, _, _, _, h => h
  | fuel + 1, _, _, _, h => ⟨h.1, fun i hi => wpOp_mono (fun a' w' h' => wpAny_of_J fuel _ a' w' h'.2) (h.2 i hi)⟩
theorem wpAnyJ_imp {T' : Nat → World → World → Prop} (hT : ∀ i w w', T i w w' → T' i w w') : ∀ (fuel : Nat) (listed : Array Bool) (a : Act) (w : World), wpAnyJ P ops Q T fuel listed a w → wpAnyJ P ops Q T' fuel listed a w
  | 0, _, _, _, h => h
  | fuel + 1, _, _, _, h => ⟨h.1, fun i hi => wpOp_mono (fun a' w' h' => ⟨hT _ _ _ h'.1, wpAnyJ_imp hT fuel _ a' w' h'.2⟩) (h.2 i hi)⟩
theorem wpAnyJ_done {listed : Array Bool} {a : Act} {w : World} (hr : Region.ready .any ops listed = []) (h : Q .normal a w) : ∀ fuel, wpAnyJ P ops Q T fuel listed a w
  | 0 => ⟨hr, h⟩
  | _ + 1 => ⟨fun _ => h, by rw [hr]; simp⟩
/-- an operation that yields its value in every world that is R, and where R stays, may be taken first -/
theorem wpAnyJ_first {i : Nat} {oi : Oper} {v : Value} {R : World → Prop} (hi : ops[i]? = some oi) (hsel : ∀ (j : Nat) (o : Oper) cs b, ops[j]? = some o → o.op ≠ .select cs b)
    (hQ : ∀ c a w, Q (.panic c) (a.put oi.dst v) w → Q (.panic c) a w)
    (hTi : ∀ w, T i w w) (hT : ∀ j, j ≠ i → waits ops 5 j i = false → ∀ w w', T j w w' → R w → R w') :
    ∀ (fuel : Nat) (listed : Array Bool) (a : Act) (w : World), Closed ops listed →
      (∀ j oj, ops[j]? = some oj → j ≠ i → listed.getD j true = false → (∀ e ∈ oj.after, Region.binds .any e = true → e.on ≠ i) → oi.apart ops oj = true) →
      i ∈ Region.ready .any ops listed → YieldsIf P ops R oi v a → R w →
      wpAnyJ P ops Q T fuel (listed.setIfInBounds i true) (a.put oi.dst v) w → wpAnyJ P ops Q T (fuel + 1) listed a w := by
  intro fuel
  induction fuel with
  | zero =>
    intro listed a w _ _ hr hy hS H
    refine ⟨fun h => (by rw [h] at hr; cases hr), fun j hj => ?_⟩
    by_cases hji : j = i
    · subst hji; exact hy.wpOp hi hS ⟨hTi w, H⟩
    · have := ready_mono hj hji
      rw [H.1] at this
      cases this
  | succ fuel ih =>
    intro listed a w hcl hfree hr hy hS H
    refine ⟨fun h => (by rw [h] at hr; cases hr), fun j hj => ?_⟩
    by_cases hji : j = i
    · subst hji; exact hy.wpOp hi hS ⟨hTi w, H⟩
    · have h1 := H.2 j (ready_mono hj hji)
      obtain ⟨hjun, oj, hoj, hall⟩ := mem_ready.1 hj
      have hun := (mem_ready.1 hr).1
      have hnot : ∀ e ∈ oj.after, Region.binds .any e = true → e.on ≠ i := fun e he hb heq => by
        have h1 := hall e he hb
        rw [heq, getD_both' hun] at h1
        cases h1
      have hw : waits ops 5 j i = false := by
        cases hw : waits ops 5 j i with
        | false => rfl
        | true =>
          have := waits_listed hcl 5 j i oj hoj hall hw
          rw [getD_both' hun] at this
          cases this
      have h2 := wpOp_putIf hoj (hfree j oj hoj hji hjun hnot) (fun cs b => hsel i oi cs b hi) (fun cs b => hsel j oj cs b hoj) hQ hy h1
      have hfree' : ∀ k ok, ops[k]? = some ok → k ≠ i → (listed.setIfInBounds j true).getD k true = false →
          (∀ e ∈ ok.after, Region.binds .any e = true → e.on ≠ i) → oi.apart ops ok = true := fun k ok hk hki hun hno => by
        refine hfree k ok hk hki ?_ hno
        by_cases hjk : j = k
        · subst hjk; exact hjun
        · rw [getD_set_ne true hjk] at hun; exact hun
      refine wpOp_mono (fun a' w' h3 => ⟨h3.2.1, ih (listed.setIfInBounds j true) a' w' (hcl.set hj) hfree' (ready_mono hr (Ne.symm hji)) h3.1 (hT j hji hw w w' h3.2.1 hS) ?_⟩) h2
      rw [Array.setIfInBounds_comm _ _ hji]
      exact h3.2.2
end

section
variable {P : Program} {F : Mem} {w0 : World} {n : Nat} {ops : Array Oper} {Q : Exit → Act → World → Prop}

theorem bxSame_sound : ∀ {l r : List BE} {A : Prop}, bxSame l r A → A ∧ ∀ (j : Nat) e, r[j]? = some e → l[j]? = some e
  | l, [], A, h => by cases l <;> exact ⟨h, by simp⟩
  | x :: l, y :: r, A, h => by
    obtain ⟨h1, h2⟩ := h
    obtain ⟨h3, h4⟩ := bxSame_sound h2
    refine ⟨h3, fun j e he => ?_⟩
    cases j with
    | zero => simp at he ⊢; rw [h1]; exact he
    | succ j => simp at he ⊢; exact h4 j e he
  | [], _ :: _, _, h => h.elim

theorem Rd.start {β0 γ : List Nat} {bx0 : List BE} {X : Mem} {w : World} (h : Rd β0 ⟨[], bx0, X⟩ w) (fr : List (Nat × SV)) : Rd (β0 ++ γ) ⟨fr, bx0, X⟩ w := by
  have hb : ∀ (j : Nat) (b : Nat), β0[j]? = some b → (β0 ++ γ)[j]? = some b := fun j b hb => by
    rw [List.getElem?_append_left (List.getElem?_eq_some_iff.1 hb).1]; exact hb
  refine ⟨h.M, fun j T cs hj => ?_, fun j b hj => hb j b (h.gone j b hj)⟩
  obtain ⟨b, vs, h1, h2, h3⟩ := h.live j T cs hj
  exact ⟨b, vs, hb j b h1, vals_mono h2 γ, h3⟩

theorem free_find {rs : List Nat} {i : Nat} {p : Nat → Bool} (h : rs.find? p = some i) : i ∈ rs ∧ p i = true :=
  ⟨List.mem_of_find?_eq_some h, List.find?_some h⟩

/-- the moves of one operation in whatever order -/
theorem dtree_sound {K : St → Prop} {bx0 : List BE} {β0 : List Nat} (hns : Region.noSelect ops = true) (hQ : ∀ c a w, ¬ Q (.panic c) a w)
    (hg0 : ∀ (j : Nat) b, bx0[j]? = some (.gone b) → β0[j]? = some b) (hl0 : ∀ (j : Nat) T cs, bx0[j]? = some (.live T cs) → ∃ b vs, β0[j]? = some b ∧ vals β0 cs = some vs) :
    ∀ (fuel : Nat) (X : Mem) (PP : Mem → Prop) (_ : ∀ Y, PP Y → Y.le X) (_ : PP X) (ok : Bool) (listed : Array Bool) (t : DTree) (γ : List Nat) (s : St) (a : Act) (w : World),
      dtree P n ops fuel ok listed = some t → Closed ops listed → Rel (β0 ++ γ) F w0 n s a w → (ok = true → Rd β0 ⟨[], bx0, X⟩ w) → vdraw P X bx0 t s K →
      (∀ β' s' a' w', K s' → Rel β' F w0 n s' a' w' → Q .normal a' w') →
      wpAnyJ P ops Q (fun i w w' => if (isQuiet P n ops i).isSome then w' = w else (needs P ops i = true → ∀ Y, PP Y → Rd β0 ⟨[], bx0, Y⟩ w → Rd β0 ⟨[], bx0, Y⟩ w')) fuel listed a w := by
  intro fuel
  induction fuel with
  | zero =>
    intro X PP hPP hPX ok listed t γ s a w ht _ R _ h hK
    simp only [dtree] at ht
    split at ht
    · rename_i hr
      simp at ht; subst ht
      exact ⟨hr, hK _ _ _ _ h R⟩
    · cases ht
  | succ fuel ih =>
    intro X PP hPP hPX ok listed t γ s a w ht hcl R hok h hK
    simp only [dtree] at ht
    split at ht
    · rename_i hr
      simp at ht; subst ht
      exact wpAnyJ_done hr (hK _ _ _ _ h R) _
    · rename_i rs hne
      have hne' : Region.ready .any ops listed ≠ [] := fun e => hne e
      split at ht
      · -- a quiet one is taken first
        rename_i i hfind
        obtain ⟨hir, hpi⟩ := free_find hfind
        simp only [Option.bind_eq_some_iff, Option.map_eq_some_iff] at ht
        obtain ⟨r, hq, t', ht', rfl⟩ := ht
        simp only [Bool.and_eq_true, hq, Option.isSome_some, true_and] at hpi
        obtain ⟨hfree, hokr⟩ := hpi
        unfold isQuiet at hq
        split at hq
        · rename_i oi hoi
          split at hq
          · rename_i r' hr'
            split at hq
            · rename_i hqt
              simp at hq; subst hq
              obtain ⟨g, hrop, hg, hgd, hdst, hd⟩ := resOper_some hr'
              have hqs : (isQuiet P n ops i).isSome = true := by simp [isQuiet, hoi, hr', hqt]
              have hTi : ∀ w : World, (if (isQuiet P n ops i).isSome then w = w else (needs P ops i = true → ∀ Y, PP Y → Rd β0 ⟨[], bx0, Y⟩ w → Rd β0 ⟨[], bx0, Y⟩ w)) := fun w => by rw [if_pos hqs]
              -- what is to be shown once it has yielded v
              have take : ∀ (v : Value) (Rq : World → Prop), YieldsIf P ops Rq oi v a → Rq w →
                  (∀ j, j ≠ i → waits ops 5 j i = false → ∀ w w' : World, (if (isQuiet P n ops j).isSome then w' = w else (needs P ops j = true → ∀ Y, PP Y → Rd β0 ⟨[], bx0, Y⟩ w → Rd β0 ⟨[], bx0, Y⟩ w')) → Rq w → Rq w') →
                  (∃ s', vdraw P X bx0 t' s' K ∧ Rel (β0 ++ γ) F w0 n s' (a.put oi.dst v) w) →
                  wpAnyJ P ops Q (fun i w w' => if (isQuiet P n ops i).isSome then w' = w else (needs P ops i = true → ∀ Y, PP Y → Rd β0 ⟨[], bx0, Y⟩ w → Rd β0 ⟨[], bx0, Y⟩ w')) (fuel + 1) listed a w := by
                intro v Rq hy hRq hstay ⟨s', hs', R'⟩
                refine wpAnyJ_first (R := Rq) hoi (Region.noSelect_spec hns) (fun c a w h => absurd h (hQ c _ w)) hTi hstay fuel listed a w hcl (Region.free_spec hoi hfree) hir hy hRq ?_
                exact ih X PP hPP hPX ok _ t' γ s' _ w ht' (hcl.set hir) R' hok hs' hK
              -- carried out
              have run : vq r'.op ⟨s.fr, bx0, X⟩ (fun sv => splitB r'.sp sv fun sv' => s.putK r'.dst sv' fun s' => vdraw P X bx0 t' s' K) → Region.wanted oi (yielded ops a.tmps) = true →
                  wpAnyJ P ops Q (fun i w w' => if (isQuiet P n ops i).isSome then w' = w else (needs P ops i = true → ∀ Y, PP Y → Rd β0 ⟨[], bx0, Y⟩ w → Rd β0 ⟨[], bx0, Y⟩ w')) (fuel + 1) listed a w := by
                intro hv hwant
                simp only [putK_eq, hdst] at hv
                have hfr : Fr (β0 ++ γ) (⟨s.fr, bx0, X⟩ : St).fr a := R.fr
                have hb : ∀ (j : Nat) (b : Nat), β0[j]? = some b → (β0 ++ γ)[j]? = some b := fun j b hb => by
                  rw [List.getElem?_append_left (List.getElem?_eq_some_iff.1 hb).1]; exact hb
                obtain ⟨sv, v, hk, hval, hruns⟩ := vq_sound hrop hqt hfr (fun j b hj => hb j b (hg0 j b hj)) (fun j T cs hj => let ⟨b, vs, h1, h2⟩ := hl0 j T cs hj; ⟨b, vs, hb j b h1, vals_mono h2 γ⟩) hv
                obtain ⟨s', hs', R', _⟩ := splitB_sound (K := fun s' => vdraw P X bx0 t' s' K) hk hd (.inr hval) R
                refine take v (fun w => reads r'.op = true → Rd β0 ⟨[], bx0, X⟩ w) (.inl ⟨hwant, fun w hw => ?_⟩) (fun hrd => ?_) ?_ ⟨s', hs', R'⟩
                · exact hruns w (fun hrd => (hw hrd).start _)
                · cases ok with
                  | true => exact hok rfl
                  | false => simp [hqt, hrd] at hokr
                · intro j hji hw w1 w2 hT hR hrd
                  split at hT
                  · rw [hT]; exact hR hrd
                  · refine hT ?_ X hPX (hR hrd)
                    simp only [needs, List.any_eq_true]
                    refine ⟨i, ?_, ?_⟩
                    · simp only [readers, List.mem_filter, List.mem_range]
                      exact ⟨(Array.getElem?_eq_some_iff.1 hoi).1, by simp [hoi, hrop, hrd]⟩
                    · simp [hw]; exact Ne.symm hji
              -- passed over
              have skip : (s.putK r'.dst SV.skip fun s' => vdraw P X bx0 t' s' K) → Region.wanted oi (yielded ops a.tmps) = false →
                  wpAnyJ P ops Q (fun i w w' => if (isQuiet P n ops i).isSome then w' = w else (needs P ops i = true → ∀ Y, PP Y → Rd β0 ⟨[], bx0, Y⟩ w → Rd β0 ⟨[], bx0, Y⟩ w')) (fuel + 1) listed a w := by
                intro hv hwant
                simp only [putK_eq, hdst] at hv
                exact take undef (fun _ => True) (.inr ⟨hwant, rfl⟩) trivial (fun _ _ _ _ _ _ _ => trivial) ⟨_, hv, R.put (sv := SV.skip) hd (.inr rfl)⟩
              simp only [vdraw, hgd] at h
              cases g with
              | none => exact run h (guard_none hg)
              | some q =>
                obtain ⟨d, b⟩ := q
                simp only at h
                rcases guard_sound hg R.fr h with ⟨hw, h1⟩ | ⟨hw, h2⟩
                · exact run h1 hw
                · exact skip h2 hw
            · cases hq
          · cases hq
        · cases hq
      · -- each of those that may come
        refine ⟨fun h0 => absurd h0 hne', ?_⟩
        have key : ∀ (rs : List Nat) (t : DTree), (∀ i ∈ rs, i ∈ Region.ready .any ops listed) →
            rs.foldr (fun i more => more.bind fun m => (resAt P n ops i).bind fun r =>
              if !quiet r.op then (dtree P n ops fuel (match isAlloc r.op with | true => ok | false => needs P ops i && (ok || r.guard.isNone)) (listed.setIfInBounds i true)).map fun t => .alt r (needs P ops i && !isAlloc r.op) t m else none) (some .none) = some t →
            vdraw P X bx0 t s K → ∀ i ∈ rs, wpOp P ops Q i (fun a' w' => (if (isQuiet P n ops i).isSome then w' = w else (needs P ops i = true → ∀ Y, PP Y → Rd β0 ⟨[], bx0, Y⟩ w → Rd β0 ⟨[], bx0, Y⟩ w')) ∧
              wpAnyJ P ops Q (fun i w w' => if (isQuiet P n ops i).isSome then w' = w else (needs P ops i = true → ∀ Y, PP Y → Rd β0 ⟨[], bx0, Y⟩ w → Rd β0 ⟨[], bx0, Y⟩ w')) fuel (listed.setIfInBounds i true) a' w') a w := by
          intro rs
          induction rs with
          | nil => intro t _ _ _ i hi; cases hi
          | cons i rs ihr =>
            intro t hsub ht h
            simp only [List.foldr_cons, Option.bind_eq_some_iff] at ht
            obtain ⟨m, hm, r, hra, ht⟩ := ht
            split at ht
            · rename_i hc
              simp only [Option.map_eq_some_iff] at ht
              obtain ⟨t', ht', rfl⟩ := ht
              have hnq : quiet r.op = false := by simpa using hc
              simp only [vdraw] at h
              obtain ⟨h, hmore⟩ := h
              intro k hk
              rcases List.mem_cons.1 hk with rfl | hk
              · have hkr := hsub k (by simp)
                simp only [resAt, Option.bind_eq_some_iff] at hra
                obtain ⟨oi, hoi, hr'⟩ := hra
                obtain ⟨g, hrop, hg, hgd, hdst, hd⟩ := resOper_some hr'
                have hqs : (isQuiet P n ops k).isSome = false := by simp [isQuiet, hoi, hr', hnq]
                have run : vop P r s (fun s' => stab (needs P ops k && !isAlloc r.op) X bx0 s' fun X' => vdraw P X' bx0 t' s' K) →
                    oi.wp P a w (fun a' w' => (if (isQuiet P n ops k).isSome then w' = w else (needs P ops k = true → ∀ Y, PP Y → Rd β0 ⟨[], bx0, Y⟩ w → Rd β0 ⟨[], bx0, Y⟩ w')) ∧
                      wpAnyJ P ops Q (fun i w w' => if (isQuiet P n ops i).isSome then w' = w else (needs P ops i = true → ∀ Y, PP Y → Rd β0 ⟨[], bx0, Y⟩ w → Rd β0 ⟨[], bx0, Y⟩ w')) fuel (listed.setIfInBounds k true) a' w') Q := by
                  intro hv
                  refine vop_sound hr' R hv fun β' s' a' w' hk2 R' hext => ?_
                  obtain ⟨⟨γ', rfl⟩, hal⟩ := hext
                  have hst : ∃ (X' : Mem) (PP' : Mem → Prop), (∀ Y, PP Y → PP' Y) ∧ (∀ Y, PP' Y → Y.le X') ∧ PP' X' ∧ (needs P ops k = true → ∀ Y, PP Y → Rd β0 ⟨[], bx0, Y⟩ w → Rd β0 ⟨[], bx0, Y⟩ w') ∧
                      ((match isAlloc r.op with | true => ok | false => needs P ops k && (ok || r.guard.isNone)) = true → Rd β0 ⟨[], bx0, X'⟩ w') ∧ vdraw P X' bx0 t' s' K := by
                    cases hal' : isAlloc r.op with
                    | true =>
                      have hx := hal hal'
                      have keep : ∀ Y, Rd β0 ⟨[], bx0, Y⟩ w → Rd β0 ⟨[], bx0, Y⟩ w' := fun Y hrd => by
                        refine ⟨fun b o hb => hx b o (hrd.M b o hb), fun j T cs hj => ?_, hrd.gone⟩
                        obtain ⟨b, vs, h1, h2, h3⟩ := hrd.live j T cs hj
                        exact ⟨b, vs, h1, h2, hx b _ h3⟩
                      rw [hal'] at hk2
                      simp only [Bool.not_true, Bool.and_false, stab] at hk2
                      exact ⟨X, PP, fun _ h => h, hPP, hPX, fun _ Y _ => keep Y, fun e => keep X (hok e), hk2⟩
                    | false =>
                      rw [hal'] at hk2
                      simp only [Bool.not_false, Bool.and_true] at hk2
                      cases hnd : needs P ops k with
                      | true =>
                        rw [hnd] at hk2
                        simp only [stab] at hk2
                        obtain ⟨⟨X', hXX, hX, hk3⟩, hbx⟩ := bxSame_sound hk2
                        have get : ∀ Y : Mem, Y.le X' → Rd β0 ⟨[], bx0, Y⟩ w' := fun Y hY => by
                          refine ⟨Mem.le_trans (Mem.le_trans hY hX) R'.rd.M, fun j T cs hj => ?_, hg0⟩
                          obtain ⟨b, vs, h1, h2⟩ := hl0 j T cs hj
                          obtain ⟨b', vs', h1', h2', h3'⟩ := R'.rd.live j T cs (hbx j _ hj)
                          have hb0 : (β0 ++ γ ++ γ')[j]? = some b := by
                            rw [List.getElem?_append_left (by have := (List.getElem?_eq_some_iff.1 h1).1; simp; omega), List.getElem?_append_left (List.getElem?_eq_some_iff.1 h1).1]; exact h1
                          rw [hb0] at h1'; cases h1'
                          have hvv := vals_mono (vals_mono h2 γ) γ'
                          rw [hvv] at h2'; cases h2'
                          exact ⟨b, vs, h1, h2, h3'⟩
                        refine ⟨X', fun Y => PP Y ∨ Y = X', fun _ h => .inl h, fun Y hY => ?_, .inr rfl, fun _ Y hY _ => get Y (Mem.le_trans (hPP Y hY) hXX), fun _ => get X' (Mem.le_refl _), hk3⟩
                        rcases hY with hY | rfl
                        · exact Mem.le_trans (hPP Y hY) hXX
                        · exact Mem.le_refl _
                      | false =>
                        rw [hnd] at hk2
                        simp only [stab] at hk2
                        exact ⟨X, PP, fun _ h => h, hPP, hPX, fun e => by simp at e, fun e => by simp at e, hk2⟩
                  obtain ⟨X', PP', hsub', hPP', hPX', hst1, hst2, hst3⟩ := hst
                  refine ⟨by rw [hqs]; simpa using hst1, ?_⟩
                  refine wpAnyJ_imp ?_ _ _ _ _ (ih X' PP' hPP' hPX' _ _ t' (γ ++ γ') s' a' w' ht' (hcl.set hkr) (by rw [← List.append_assoc]; exact R') hst2 hst3 hK)
                  intro i w1 w2 hT
                  split
                  · rename_i hq; rw [if_pos hq] at hT; exact hT
                  · rename_i hq; rw [if_neg hq] at hT; exact fun hn Y hY => hT hn Y (hsub' Y hY)
                have skip : ¬ g.isNone = true → (s.putK r.dst SV.skip fun s' => vdraw P X bx0 t' s' K) → ((if (isQuiet P n ops k).isSome then w = w else (needs P ops k = true → ∀ Y, PP Y → Rd β0 ⟨[], bx0, Y⟩ w → Rd β0 ⟨[], bx0, Y⟩ w)) ∧
                      wpAnyJ P ops Q (fun i w w' => if (isQuiet P n ops i).isSome then w' = w else (needs P ops i = true → ∀ Y, PP Y → Rd β0 ⟨[], bx0, Y⟩ w → Rd β0 ⟨[], bx0, Y⟩ w')) fuel (listed.setIfInBounds k true) (a.put oi.dst undef) w) := by
                  intro hgs hv
                  simp only [putK_eq, hdst] at hv
                  refine ⟨by rw [hqs]; simp, ?_⟩
                  refine ih X PP hPP hPX _ _ t' γ _ _ w ht' (hcl.set hkr) (R.put (sv := SV.skip) hd (.inr rfl)) ?_ hv hK
                  intro e
                  split at e
                  · exact hok e
                  · rw [hgd] at e
                    simp only [Bool.and_eq_true, Bool.or_eq_true] at e
                    rcases e.2 with e | e
                    · exact hok e
                    · exact absurd e hgs
                unfold wpOp
                simp only [hoi]
                simp only [hgd] at h
                cases g with
                | none =>
                  simp only at h
                  rw [if_pos (guard_none hg)]
                  exact .inl (run h)
                | some q =>
                  obtain ⟨d, b⟩ := q
                  simp only at h
                  rcases guard_sound hg R.fr h with ⟨hw, h1⟩ | ⟨hw, h2⟩
                  · rw [if_pos hw]
                    exact .inl (run h1)
                  · rw [if_neg (by rw [hw]; simp)]
                    have hs := skip (by simp) h2
                    simp only at hs ⊢
                    exact hs
              · exact ihr m (fun j hj => hsub j (by simp [hj])) hm hmore k hk
            · cases ht
        exact fun i hi => key _ t (fun j hj => hj) ht h i hi
end
end Go.Vm

/- Functions: from the conditions of a text to what is seen from outside. -/
namespace Go.Vm
open Go.RowKit

theorem exists_least {p : Nat → Prop} (h : ∃ n, p n) : ∃ n, p n ∧ ∀ m, p m → n ≤ m := by
  obtain ⟨n, hn⟩ := h
  induction n using Nat.strongRecOn with
  | _ n ih =>
    by_cases hx : ∃ m, m < n ∧ p m
    · obtain ⟨m, hm, hp⟩ := hx
      exact ih m hm hp
    · exact ⟨n, hn, fun m hm => Nat.le_of_not_lt fun hlt => hx ⟨m, hlt, hm⟩⟩
/-- THE TEXT -/
theorem vc_sound {P : Program} {F : Mem} {w0 : World} {n : Nat} {kf : Nat → List Nat} : ∀ (c : Code) (r : RCode), res P n kf c = some r →
    ∀ (K : Exit → St → Prop) (Q : Exit → Act → World → Prop) (β : List Nat) (s : St) (a : Act) (w : World), Rel β F w0 n s a w → vc P r K s →
    (∀ e β' s' a' w', K e s' → Rel β' F w0 n s' a' w' → Q e a' w') → c.wp P Q a w := by
  intro c
  induction c with
  | skip =>
    intro r hr K Q β s a w R h hK
    simp [res] at hr; subst hr
    exact wp_skip (hK _ _ _ _ _ h R)
  | region id ops draw =>
    intro r hr K Q β s a w R h hK
    simp only [res] at hr
    cases draw with
    | false =>
      simp only [Option.map_eq_some_iff] at hr
      obtain ⟨l, hl, rfl⟩ := hr
      exact wp_region_list (vops_sound ops.toList 0 l β s a w hl R h fun β' s' a' w' hk R' => hK _ _ _ _ _ (by rw [killK_eq] at hk; exact hk) (R'.kill _))
    | true =>
      simp only at hr
      split at hr
      · rename_i hc
        simp only [Bool.and_eq_true] at hc
        obtain ⟨hm, hns⟩ := hc
        simp only [Option.map_eq_some_iff] at hr
        obtain ⟨t, ht, rfl⟩ := hr
        have R1 : Rel (β ++ []) F w0 n s a { w with drawn := w.drawn + 1 } := by
          rw [List.append_nil]
          exact ⟨⟨R.rd.M, R.rd.live, R.rd.gone⟩, R.fr, R.len, R.Fle, R.dj, R.own, R.dist, R.nd, R.sz, R.os, R.out, R.tape, ⟨R.grow.1, Nat.le_succ_of_le R.grow.2⟩⟩
        have main : ∀ X : Mem, X.le s.M → vdraw P X s.bx t s (fun s' => s'.killK (kf id) fun s'' => K .normal s'') → (Code.region id ops true).wp P Q a w := by
          intro X hX hv
          refine wp_mono (Q := fun e a w => e = .normal ∧ ∃ β' s', K .normal s' ∧ Rel β' F w0 n s' a w) ?_ (fun e a w ⟨he, β', s', hk, R'⟩ => by subst he; exact hK _ _ _ _ _ hk R')
          refine wp_region_any hm (wpAny_of_J _ _ _ _ (dtree_sound hns (fun c a w h => by cases h.1) (bx0 := s.bx) (β0 := β) (fun j b hj => R.rd.gone j b hj)
            (fun j T cs hj => R.lv j T cs hj) ops.size X (fun Y => Y = X) (fun Y hY => by rw [hY]; exact Mem.le_refl _) rfl true _ t [] s a _ ht ?_ R1 (fun _ => ⟨Mem.le_trans hX R1.rd.M, fun j T cs hj => R.rd.live j T cs hj, fun j b hj => R.rd.gone j b hj⟩) hv ?_))
          · intro j o ho hl
            exfalso
            simp only [Array.getD_eq_getD_getElem?, Array.getElem?_replicate] at hl
            split at hl <;> simp at hl
          · intro β' s' a' w' hk R'
            rw [killK_eq] at hk
            exact ⟨rfl, β', _, hk, R'.kill _⟩
        simp only [vc, drawK] at h
        cases hn : anyNeed t with
        | true =>
          rw [hn] at h
          obtain ⟨X, hX, hv⟩ := h
          exact main X hX hv
        | false =>
          rw [hn] at h
          exact main s.M (Mem.le_refl _) h
      · cases hr
  | seq x y ihx ihy =>
    intro r hr K Q β s a w R h hK
    simp only [res] at hr
    split at hr
    · rename_i rx ry hx hy
      simp at hr; subst hr
      refine wp_seq (ihx rx hx _ _ β s a w R h ?_)
      intro e β' s' a' w' hk R'
      cases e <;> first | exact ihy ry hy _ _ β' s' a' w' R' hk hK | exact hK _ _ _ _ _ hk R'
    · cases hr
  | cond c x y ihx ihy =>
    intro r hr K Q β s a w R h hK
    simp only [res] at hr
    split at hr
    · rename_i rx ry hx hy
      simp at hr; subst hr
      obtain ⟨sv, v, hk, hv, he⟩ := ev_sound R.fr h
      obtain ⟨b, rfl, h1, h2⟩ := brS_sound hk hv
      refine wp_cond he ?_
      cases b with
      | true => exact ihx rx hx _ _ β s a w R (h1 rfl) hK
      | false => exact ihy ry hy _ _ β s a w R (h2 rfl) hK
    · cases hr
  | block id x ih =>
    intro r hr K Q β s a w R h hK
    simp only [res, Option.map_eq_some_iff] at hr
    obtain ⟨rx, hx, rfl⟩ := hr
    refine wp_block (ih rx hx _ _ β s a w R h ?_)
    intro e β' s' a' w' hk R'
    cases e with
    | exit i =>
      simp only [blockQ] at hk
      simp only [Exit.inBlock]
      split at hk
      · rename_i hi; rw [if_pos (Nat.eq_of_beq_eq_true hi)]; exact hK _ _ _ _ _ hk R'
      · rename_i hi; rw [if_neg (Nat.ne_of_beq_eq_false hi)]; exact hK _ _ _ _ _ hk R'
    | _ => exact hK _ _ _ _ _ hk R'
  | loop x ih =>
    intro r hr K Q β s a w R h hK
    simp only [res, Option.map_eq_some_iff] at hr
    obtain ⟨rx, hx, rfl⟩ := hr
    obtain ⟨I, ⟨m0, t0, hI0, hs0⟩, hround⟩ := h
    let J : Act → World → Nat → Prop := fun a w m => ∃ t β, I m t ∧ Rel β F w0 n t a w
    have hJ0 : ∃ m, J a w m := ⟨m0, t0, _, hI0, R.sub hs0⟩
    classical
    refine wp_loop (fun a w => ∃ m, J a w m) (fun a w => if h : ∃ m, J a w m then Classical.choose (exists_least h) else 0) hJ0 ?_
    intro a1 w1 hJ
    have hmin := (Classical.choose_spec (exists_least hJ)).1
    obtain ⟨t, β1, hI, R1⟩ := hmin
    refine ih rx hx _ _ β1 t a1 w1 R1 (hround _ t hI) ?_
    intro e β' s' a' w' hk R'
    cases e with
    | normal =>
      obtain ⟨m', t', hlt, hI', hs'⟩ := hk
      have hJ' : J a' w' m' := ⟨t', _, hI', R'.sub hs'⟩
      refine ⟨⟨m', hJ'⟩, ?_⟩
      rw [dif_pos hJ, dif_pos ⟨m', hJ'⟩]
      exact Nat.lt_of_le_of_lt ((Classical.choose_spec (exists_least (p := J a' w') ⟨m', hJ'⟩)).2 _ hJ') hlt
    | _ => exact hK _ _ _ _ _ hk R'
  | exit id =>
    intro r hr K Q β s a w R h hK
    simp [res] at hr; subst hr
    exact wp_exit (hK _ _ _ _ _ h R)
  | ret =>
    intro r hr K Q β s a w R h hK
    simp [res] at hr; subst hr
    exact wp_ret (hK _ _ _ _ _ h R)
  | scope x ih =>
    intro r hr K Q β s a w R h hK
    simp only [res, Option.map_eq_some_iff] at hr
    obtain ⟨rx, hx, rfl⟩ := hr
    refine wp_scope_straight (ih rx hx _ _ β s a w R h ?_)
    intro e β' s' a' w' hk R'
    cases e with
    | goto l => exact hk.elim
    | _ => exact hK _ _ _ _ _ hk R'
  | label l =>
    intro r hr K Q β s a w R h hK
    simp [res] at hr; subst hr
    exact wp_label (hK _ _ _ _ _ h R)
  | _ => intro r hr; simp [res] at hr


theorem args0_lk : ∀ (i : Nat) (args : List Value) (d : Nat) (sv : SV), lk (args0 i args) d = some sv → ∃ v, args[d - i]? = some v ∧ i ≤ d ∧ sv = norm v
  | i, v :: r, d, sv, h => by
    simp only [args0, lk] at h
    split at h
    · rename_i e; have e := Nat.eq_of_beq_eq_true e; subst e; simp at h; subst h; exact ⟨v, by simp, Nat.le_refl _, rfl⟩
    · obtain ⟨u, h1, h2, h3⟩ := args0_lk (i + 1) r d sv h
      refine ⟨u, ?_, by omega, h3⟩
      have : d - i = (d - (i + 1)) + 1 := by omega
      rw [this]; simpa using h1

section
variable {P : Program} {β : List Nat} {F : Mem} {w0 : World} {n : Nat} {a : Act} {w : World}

/-- what a result's place gives -/
def resRun (tmps : Array Value) : ResultVar → Sem Value
  | .tmp t => pure (tmps.getD t undef)
  | .cell a t => do loadVar t (← asAddr (tmps.getD a undef))
theorem vres1_sound {s : St} (R : Rel β F w0 n s a w) {r : ResultVar} {rr : RRes} (hr : resOne P r = some rr) {k : Value → St → Prop} (h : vres1 rr s k) :
    ∃ v s', k v s' ∧ Rel β F w0 n s' a w ∧ (resRun a.tmps r).run P w = .ok v w := by
  cases r with
  | tmp t =>
    simp [resOne] at hr; subst hr
    simp only [vres1] at h
    obtain ⟨sv, v, hk, hv, he⟩ := ev_sound (x := .tmp t) R.fr h
    obtain ⟨s', hk', R', _⟩ := shal_sound R hv hk
    exact ⟨v, s', hk', R', by simp only [resRun, Sem.run_pure]; rw [← he]; rfl⟩
  | cell x T =>
    simp only [resOne, Option.bind_eq_some_iff] at hr
    obtain ⟨g, hg, m, hm, hr⟩ := hr
    split at hr
    · rename_i hgm
      simp at hr; subst hr
      simp only [vres1] at h
      have fin : ∀ {cs : List SC} {us : List Value} {b o : Nat} {c : Array Value} {e : TypeId} {fz : Nat × Nat}, mkv g cs (fun sv => shal sv s k) → vals β cs = some us → a.eval (.tmp x) = .pointer (some ⟨b, o, none⟩) →
          w.heap[b]? = some (.cells c e fz) → o + m ≤ c.size → us = (c.toList.drop o).take m → ∃ v s', k v s' ∧ Rel β F w0 n s' a w ∧ (resRun a.tmps (.cell x T)).run P w = .ok v w := by
        intro cs us b o c e fz hmk hu hp hh hle hus
        obtain ⟨sv, hk, hor⟩ := mkv_sound hmk hu
        have hp' : a.tmps.getD x undef = .pointer (some ⟨b, o, none⟩) := hp
        rcases hor with ⟨rfl, hv⟩ | ⟨rfl, u, hu', hv⟩
        · obtain ⟨s', hk', R', _⟩ := shal_sound R hv hk
          refine ⟨_, s', hk', R', ?_⟩
          simp only [resRun, Sem.run_bind, hp', asAddr, Sem.run_pure, Result.andThen_ok]
          rw [run_loadVar_agg hg hm hh hle, hus]
        · obtain ⟨s', hk', R', _⟩ := shal_sound R hv hk
          refine ⟨_, s', hk', R', ?_⟩
          simp only [resRun, Sem.run_bind, hp', asAddr, Sem.run_pure, Result.andThen_ok]
          rw [run_loadVar_one (v := u) hg ?_]
          rw [cell_at hh]
          have h1 : m = 1 := by simpa using hgm
          subst h1
          rw [hus] at hu'
          have := congrArg (·[0]?) hu'
          simpa using this
      rcases R.rd.evP R.fr h with ⟨j, o, T', cs, b, vs, hj, hk, hb, hvs, hp⟩ | ⟨b, o, hk, hp⟩
      · obtain ⟨l, hl0, hk⟩ := onO_sound hk
        obtain ⟨hle, rfl⟩ := takeC_some hl0
        obtain ⟨b', vs', hb', hvs', hh⟩ := R.rd.live j T' cs hj
        rw [hb] at hb'; cases hb'
        rw [hvs] at hvs'; cases hvs'
        have hl := vals_length hvs
        exact fin hk (vals_take _ (vals_drop _ hvs)) hp hh (by simp; omega) (by simp)
      · obtain ⟨vs, hrow, hk⟩ := onO_sound hk
        obtain ⟨c, e, fz, hh, hle, hvs⟩ := row_heap R.rd.M hrow
        exact fin hk (vals_map_v β vs) hp hh hle hvs
    · cases hr

theorem vress_sound : ∀ {rs : List ResultVar} {rrs : List RRes} {s : St} {k : List Value → St → Prop}, rs.mapM (resOne P) = some rrs → Rel β F w0 n s a w → vress rrs s k →
    ∃ vs s', k vs s' ∧ Rel β F w0 n s' a w ∧ vs.length = rs.length ∧ (rs.mapM (resRun a.tmps)).run P w = .ok vs w
  | [], rrs, s, k, hr, R, h => by simp at hr; subst hr; exact ⟨[], s, h, R, rfl, rfl⟩
  | r :: rs, rrs, s, k, hr, R, h => by
    simp only [List.mapM_cons, Option.bind_eq_bind, Option.bind_eq_some_iff] at hr
    obtain ⟨x, hx, xs, hxs, he⟩ := hr
    simp at he; subst he
    obtain ⟨v, s1, hk, R1, h1⟩ := vres1_sound R hx h
    obtain ⟨vs, s2, hk2, R2, hl, h2⟩ := vress_sound hxs R1 hk
    exact ⟨v :: vs, s2, hk2, R2, by simp [hl], by simp only [List.mapM_cons, Sem.run_bind, h1, h2, Result.andThen_ok, Sem.run_pure]⟩

theorem vret_sound {fn : Func} {rrs : List RRes} {s : St} {R' : Value → Mem → Prop} (hr : resRes P fn = some rrs) (R : Rel β F w0 n s a w) (h : vret rrs s R') :
    ∃ v s', R' v s'.M ∧ Rel β F w0 n s' a w ∧ (results fn a.tmps).run P w = .ok v w := by
  have hr' : fn.results.toList.mapM (resOne P) = some rrs := hr
  obtain ⟨vs, s', hk, R2, hl, hrun⟩ := vress_sound hr' R h
  have e : results fn a.tmps = (do
      let vs ← fn.results.mapM (resRun a.tmps)
      pure (if h : vs.size = 1 then vs[0] else .tuple vs)) := by
    unfold results
    congr 1
  have hrun2 : (results fn a.tmps).run P w = .ok (tupled vs) w := by
    rw [e, Array.mapM_eq_mapM_toList]
    simp only [Sem.run_bind, Sem.run_map, hrun, Result.andThen_ok, Sem.run_pure]
    clear hl hrun
    match vs with
    | [v] => simp [tupled]
    | [] => simp [tupled]
    | v :: u :: r => simp [tupled]
  have hk' : R' (tupled vs) s'.M := by
    obtain ⟨fr, bx, M⟩ := s'
    match vs, hk with
    | [v], hk => exact hk
    | [], hk => exact hk
    | _ :: _ :: _, hk => exact hk
  exact ⟨_, s', hk', R2, hrun2⟩
end

/-- A FUNCTION -/
theorem fn_sound {P : Program} {kf : Nat → List Nat} {f : Nat} {fn : Func} {c : Code} {r : RCode} {rs : List RRes} {args : List Value} {M : Mem} {R : Value → Mem → Prop}
    (hf : P.funcs[f]? = some fn) (hb : fn.body = some c) (hr : res P fn.ntmps kf c = some r) (hrs : resRes P fn = some rs) (hn : args.length ≤ fn.ntmps) (hen : enters P f = true)
    (h : vfn P r rs args M R) : CallsM P f args M R := by
  refine ⟨hen, fun F w hM hF hd => ?_⟩
  unfold vfn at h
  rw [forceL_eq] at h
  refine calls_of_wp hf hb ?_
  have R0 : Rel [] F w fn.ntmps { fr := args0 0 args, bx := [], M := M } { tmps := args.toArray ++ Array.replicate (fn.ntmps - args.toArray.size) undef, defers := [] } w := by
    refine ⟨⟨hM, by simp, by simp⟩, ?_, rfl, hF, hd, by simp, by simp, rfl, by simp; omega, rfl, rfl, rfl, ⟨Nat.le_refl _, Nat.le_refl _⟩⟩
    intro d sv hd
    obtain ⟨v, h1, h2, rfl⟩ := args0_lk 0 args d sv hd
    refine .inr ⟨v, norm_val _ v, ?_⟩
    simp only [Nat.sub_zero] at h1
    have hlt := (List.getElem?_eq_some_iff.1 h1).1
    rw [Array.getElem?_append_left (by simpa using hlt)]
    simpa using h1
  refine vc_sound c r hr _ _ [] _ _ w R0 h ?_
  intro e β' s' a' w' hk R'
  cases e with
  | normal =>
    obtain ⟨v, s2, h1, R2, hrun⟩ := vret_sound hrs R' hk
    exact ⟨R2.nd, v, hrun, v, s2.M, rfl, h1, R2.rd.M, R2.Fle, R2.dj, R2.os, R2.out, R2.tape, R2.grow⟩
  | ret =>
    obtain ⟨v, s2, h1, R2, hrun⟩ := vret_sound hrs R' hk
    exact ⟨R2.nd, v, hrun, v, s2.M, rfl, h1, R2.rd.M, R2.Fle, R2.dj, R2.os, R2.out, R2.tape, R2.grow⟩
  | _ => exact hk.elim
/-- the same, off three closed facts -/
theorem fn_ok {P : Program} {kf : Nat → List Nat} {f : Nat} {fn : Func} {r : RCode} {rs : List RRes} {args : List Value} {M : Mem} {R : Value → Mem → Prop}
    (hf : P.funcs[f]? = some fn) (hr : fn.body.bind (res P fn.ntmps kf) = some r) (hrs : resRes P fn = some rs) (hn : args.length ≤ fn.ntmps) (hen : enters P f = true)
    (h : vfn P r rs args M R) : CallsM P f args M R := by
  obtain ⟨c, hb, hr⟩ := Option.bind_eq_some_iff.1 hr
  exact fn_sound hf hb hr hrs hn hen h
end Go.Vm

/- Short words for the resolved texts. -/
namespace Go.Vm.S
open Go.Vm
@[reducible] def t (n : Nat) : Operand := .tmp n
@[reducible] def k (n : Int) : Operand := .const (.int .i64 n)
@[reducible] def kb (b : Bool) : Operand := .const (.bool b)
@[reducible] def fn (n : Nat) : Operand := .func n
@[reducible] def i (n : Int) : Value := .int .i64 n
@[reducible] def u (n : Int) : Value := .int .u8 n
@[reducible] def sn : Value := .slice none 0 0
@[reducible] def o (d : Nat) (x : ROp) : ROper := ⟨some d, x, none, false⟩
@[reducible] def e (x : ROp) : ROper := ⟨none, x, none, false⟩
@[reducible] def os (d : Nat) (x : ROp) : ROper := ⟨some d, x, none, true⟩
@[reducible] def gt (g : Nat) (d : Nat) (x : ROp) : ROper := ⟨some d, x, some (g, true), false⟩
@[reducible] def gf (g : Nat) (d : Nat) (x : ROp) : ROper := ⟨some d, x, some (g, false), false⟩
@[reducible] def st (n : Nat) (p x : Operand) : ROper := ⟨none, .store n p x, none, false⟩
@[reducible] def ad (d : Nat) (x y : Operand) : ROper := ⟨some d, .ibin .add x y, none, false⟩
@[reducible] def mv (d : Nat) (x : Operand) : ROper := ⟨some d, .mov x, none, false⟩
@[reducible] def fa (d : Nat) (n : Nat) (p : Operand) : ROper := ⟨some d, .faddr n p, none, false⟩
@[reducible] def l1 (d : Nat) (p : Operand) : ROper := ⟨some d, .load false 1 p, none, false⟩
@[reducible] def la (d : Nat) (n : Nat) (p : Operand) : ROper := ⟨some d, .load true n p, none, false⟩
@[reducible] def ca (d : Nat) (g : Nat) (l : List Operand) : ROper := ⟨some d, .call (.func g) l, none, false⟩
@[reducible] def ex (d : Nat) (x : Operand) (j : Nat) : ROper := ⟨some d, .extract x j, none, false⟩
end Go.Vm.S

