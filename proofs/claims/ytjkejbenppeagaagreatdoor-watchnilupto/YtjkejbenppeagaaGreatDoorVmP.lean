/- New rows, side by side. -/
import Derived.Test.YtjkejbenppeagaaGreatDoorVmO
namespace Go.Vm
theorem NewSl.rebase2 {M M2 M5 : Mem} {E : TypeId} {s : Nat} {a : Option Addr} {n c : Nat} {L : List Value} (h : NewSl M E s a n c L M2) (hle : M2.le M5) {X : Nat → Prop} (hX : ∀ x, blk a x → X x) : NewSl (M5.minus X) E s a n c L M5 := by
  rw [newSl_iff] at h ⊢
  obtain ⟨_, h1, h2, h3⟩ := h
  exact ⟨Mem.minus_le _ _, h1, h2, h3.imp id fun ⟨b, cs, ha, _, hh, hr⟩ => ⟨b, cs, ha, Mem.minus_in (hX _ ⟨_, ha, rfl⟩), hle _ _ hh, hr⟩⟩
/-- blocks of two new rows of different kinds -/
theorem NewSl.ne {M M' : Mem} {E E' : TypeId} {s s' : Nat} {a a' : Option Addr} {n c n' c' : Nat} {L L' : List Value} (h : NewSl M E s a n c L M') (h' : NewSl M E' s' a' n' c' L' M') (hE : E ≠ E') {q q' : Addr} (hq : a = some q) (hq' : a' = some q') : q.block ≠ q'.block := fun e => by
  obtain ⟨_, cs, h1⟩ := h.block hq
  obtain ⟨_, cs', h2⟩ := h'.block hq'
  rw [e] at h1
  exact hE (h1.inj h2).1
end Go.Vm
namespace Go.Vm
/-- the row itself turned, else all stays -/
theorem NewSl.ofWr {M M1 M2 : Mem} {E E' : TypeId} {s s' : Nat} {a a' : Option Addr} {n c n' c' : Nat} {L L' : List Value} (h : NewSl M E s a n c L M1) (hw : Wr M2 E' s' a' n' c' L') (hk : Mem.keep (blk a) M1 M2) (ha : blk a = blk a') : NewSl M E' s' a' n' c' L' M2 := by
  have hb : ∀ x, blk a x → M x = Option.none := fun x ⟨q, hq, e⟩ => by subst e; exact (h.block hq).1
  refine newSl_iff.2 ⟨hk.le h.le hb, ?_⟩
  obtain ⟨h1, h2, h3⟩ := hw
  exact ⟨h1, h2, h3.imp id fun ⟨b, cs, hab, hr⟩ => ⟨b, cs, hab, hb b (by rw [ha]; exact ⟨_, hab, rfl⟩), hr⟩⟩
section
variable {κ α : Type} {kv : κ → Value} {vv : α → Value}
/-- a row is no map, no round -/
theorem MapAt.nb {M : Mem} {b : Nat} {m : List (κ × α)} (h : MapAt kv vv M b m) {x : Nat} {E : TypeId} {l : List Value} (hx : M.has x E l) : x ≠ b := by
  rintro rfl
  obtain ⟨l1, c, h1, _⟩ := h
  unfold Mem.has at hx; rw [h1] at hx; simp [mapObj] at hx
theorem Iter.nb {M : Mem} {b m : Nat} {cur todo : List (κ × α)} (h : Iter kv vv M b m cur todo) {x : Nat} {E : TypeId} {l : List Value} (hx : M.has x E l) : x ≠ b ∧ x ≠ m := by
  obtain ⟨l1, c, seen, tb, h1, h2, h3, h4, hr⟩ := h
  constructor
  · rintro rfl; unfold Mem.has at hx; rw [h4] at hx; simp at hx
  · rintro rfl; unfold Mem.has at hx; rw [h1] at hx; simp [mapObj] at hx
/-- a row that is read, while a map turns -/
theorem MapAt.src {M M' : Mem} {x : Nat} {m : List (κ × α)} (h : MapAt kv vv M x m) {s : Nat} {a : Option Addr} {n : Nat} {l : List Value} (h' : SrcOk M s a n l) (hk : Mem.keep (fun y => y = x) M M') : SrcOk M' s a n l := by
  unfold SrcOk at h' ⊢
  obtain ⟨h1, h2 | ⟨b, o, rfl, h3⟩⟩ := h'
  · exact ⟨h1, .inl h2⟩
  · refine ⟨h1, .inr ⟨b, o, rfl, ?_⟩⟩
    have hne : b ≠ x := by
      rintro rfl
      obtain ⟨l1, c, h4, _⟩ := h
      unfold Mem.row at h3
      rw [h4] at h3
      simp [mapObj] at h3
    unfold Mem.row at h3 ⊢
    cases hb : M b with
    | none => rw [hb] at h3; cases h3
    | some ob => rw [hb] at h3; rw [hk b ob hne hb]; exact h3
end
end Go.Vm
namespace Go.Vm
theorem NewEls.new0 {α : Type} {M : Mem} {b : Nat} (hb : M b = Option.none) (E : TypeId) (s : Nat) (R : List Value → α → Prop) : NewEls M E s (some ⟨b, 0, Option.none⟩) 0 0 R [] (M.setCells b E []) :=
  ⟨[], NewSl.lit hb E s 0 [] (by simp), rfl, rfl, by simp, by simp⟩
end Go.Vm
namespace Go.Vm
/-- what a call does not need stays beside it -/
theorem CallsM.frame {P : Program} {f : Nat} {args : List Value} {A M : Mem} {R : Value → Mem → Prop} (h : CallsM P f args A R) (hA : A.le M) :
    CallsM P f args M fun v M' => ∃ A', R v A' ∧ A'.le M' ∧ ∀ x o, A x = none → M x = some o → M' x = some o ∧ A' x = none := by
  refine ⟨h.1, fun F w hM hF hdj => ?_⟩
  obtain ⟨F', hF'⟩ : ∃ F' : Mem, F' = fun x => if A x = none then (if M x = none then F x else M x) else none := ⟨_, rfl⟩
  have hFF : F.le F' := fun x o hx => by
    have hMx : M x = none := (hdj x).resolve_right (by rw [hx]; simp)
    have hAx : A x = none := by
      cases e : A x with
      | none => rfl
      | some y => rw [hA x y e] at hMx; cases hMx
    rw [hF']; dsimp only; rw [if_pos hAx, if_pos hMx]; exact hx
  have hF'w : F'.le (memOf w) := fun x o hx => by
    rw [hF'] at hx; dsimp only at hx
    split at hx
    · split at hx
      · exact hF x o hx
      · exact hM x o hx
    · cases hx
  have hdj' : A.disj F' := fun x => by
    by_cases e : A x = none
    · exact .inl e
    · right; rw [hF']; dsimp only; rw [if_neg e]
  refine (h.2 F' w (fun x o hx => hM x o (hA x o hx)) hF'w hdj').mono ?_
  rintro e w' ⟨v, A', he, hR, hA', hFw', hdA, hrest⟩
  have hin : ∀ x o, A x = none → M x = some o → F' x = some o := fun x o h1 h2 => by
    rw [hF']; dsimp only; rw [if_pos h1, if_neg (by rw [h2]; simp)]; exact h2
  obtain ⟨M', hM'⟩ : ∃ M' : Mem, M' = fun x => if A' x = none then (if A x = none then M x else none) else A' x := ⟨_, rfl⟩
  refine ⟨v, M', he, ⟨A', hR, fun x o hx => by rw [hM']; dsimp only; rw [if_neg (by rw [hx]; simp)]; exact hx, fun x o h1 h2 => ?_⟩, fun x o hx => ?_, fun x o hx => hFw' x o (hFF x o hx), fun x => ?_, hrest⟩
  · have := hin x o h1 h2
    have hn : A' x = none := (hdA x).resolve_right (by rw [this]; simp)
    exact ⟨by rw [hM']; dsimp only; rw [if_pos hn, if_pos h1]; exact h2, hn⟩
  · rw [hM'] at hx; dsimp only at hx
    split at hx
    · split at hx
      · exact hFw' x o (hin x o ‹_› hx)
      · cases hx
    · exact hA' x o hx
  · cases e : F x with
    | none => exact .inr rfl
    | some o =>
      left
      have hFx := hFF x o e
      have hn : A' x = none := (hdA x).resolve_right (by rw [hFx]; simp)
      have hMx : M x = none := (hdj x).resolve_right (by rw [e]; simp)
      rw [hM']; dsimp only; rw [if_pos hn]; split
      · exact hMx
      · rfl
end Go.Vm
namespace Go.Vm
/-- appending, and how much room there is then -/
theorem appNC {E : TypeId} {size bytes : Nat} {a : Option Addr} {n c m : Nat} {news : List Value} {M : Mem} {k : Option Addr → Nat → Mem → Prop} (M0 : Mem) (L : List Value) (hown : NewSl M0 E size a n c L M)
    (h1 : (n + m) * bytes ≤ 140737488355328) (h2 : n + m ≤ maxLen) (h3 : ∀ u ∈ news, u.oneCell' = true) (hk : ∀ a' c' M', (c' = c ∨ c' ≤ maxLen) → NewSl M0 E size a' (n + m) c' (L ++ news) M' → k a' c' M') : AppVC E size bytes a n c m news M k := by
  obtain ⟨M1, h0, h⟩ := hown
  exact appC M1 L h h1 h2 h3 fun a' c' M' hc ho => hk a' c' M' hc ⟨M1, h0, ho⟩
end Go.Vm
