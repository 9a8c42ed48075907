/- How the conditions are worked out, step by step. -/
import Derived.Test.YtjkejbenppeagaaGreatDoorVmG
namespace Go.Vm
theorem brn {x : Bool} {A B : Prop} (h : x = true → A) (h' : x = false → B) : Brn x A B := ⟨h, h'⟩
theorem brn_t {x : Bool} {A B : Prop} (hx : x = true) (h : A) : Brn x A B := ⟨fun _ => h, fun e => absurd (hx.symm.trans e) (by simp)⟩
theorem brn_f {x : Bool} {A B : Prop} (hx : x = false) (h : B) : Brn x A B := ⟨fun e => absurd (hx.symm.trans e) (by simp), fun _ => h⟩
theorem ob {p A : Prop} (h : p) (h' : A) : Ob p A := ⟨h, h'⟩
theorem grow_same {X M : Mem} {A : Mem → Prop} (h : X.le M) (h' : A X) : Grow X M A := ⟨X, fun _ _ h => h, h, h'⟩
theorem growX {X M : Mem} {A : Mem → Prop} (X' : Mem) (h : X.le X') (h2 : X'.le M) (h' : A X') : Grow X M A := ⟨X', h, h2, h'⟩
theorem on {α : Type} {x : Option α} {l : α} {k : α → Prop} (h : x = some l) (h' : k l) : onO x k := by subst h; exact h'
theorem atp {a : Option Addr} {b o : Nat} {k : Nat → Nat → Prop} (h : a = some ⟨b, o, none⟩) (h' : k b o) : atO a k := by subst h; exact h'
theorem CallsM.mono {P : Program} {f : Nat} {args : List Value} {M : Mem} {R R' : Value → Mem → Prop} (h : CallsM P f args M R) (hr : ∀ v M', R v M' → R' v M') : CallsM P f args M R' :=
  ⟨h.1, fun F w h1 h2 h3 => (h.2 F w h1 h2 h3).mono fun _ _ ⟨v, M', he, hk, hx⟩ => ⟨v, M', he, hr v M' hk, hx⟩⟩
/-- a loop: σ what it knows at its head, 'st' the state that says so -/
theorem loop0 {σ : Type} {body : (Exit → St → Prop) → St → Prop} {Q : Exit → St → Prop} {s : St} (st : σ → St) (inv : σ → Prop) (μ : σ → Nat) (x0 : σ) (h0 : inv x0) (hs : (st x0).sub s)
    (h : ∀ x, inv x → body (thenQ Q fun s' => ∃ y, inv y ∧ μ y < μ x ∧ (st y).sub s') (st x)) : LoopVC0 body Q s :=
  ⟨fun m t => ∃ x, inv x ∧ μ x = m ∧ t = st x, ⟨_, _, ⟨x0, h0, rfl, rfl⟩, hs⟩, fun m t ⟨x, hx, hm, ht⟩ => by
    subst hm; subst ht
    have e : (fun s' => ∃ m' t', m' < μ x ∧ (∃ y, inv y ∧ μ y = m' ∧ t' = st y) ∧ t'.sub s') = fun s' => ∃ y, inv y ∧ μ y < μ x ∧ (st y).sub s' := by
      funext s'
      apply propext
      constructor
      · rintro ⟨m', t', h1, ⟨y, h2, rfl, rfl⟩, h3⟩; exact ⟨y, h2, h1, h3⟩
      · rintro ⟨y, h1, h2, h3⟩; exact ⟨_, _, h2, ⟨y, h1, rfl, rfl⟩, h3⟩
    rw [e]
    exact h x hx⟩
theorem loop {σ : Type} {body : (Exit → St → Prop) → St → Prop} {Q : Exit → St → Prop} {s : St} (st : σ → St) (inv : σ → Prop) (μ : σ → Nat) (x0 : σ) (h0 : inv x0) (hs : (st x0).sub s)
    (h : ∀ x, inv x → body (thenQ Q fun s' => ∃ y, inv y ∧ μ y < μ x ∧ (st y).sub s') (st x)) : LoopVC body Q s := .inl (loop0 st inv μ x0 h0 hs h)
/-- the boxes are handed over first; then loopF0 -/
theorem loopP {body : (Exit → St → Prop) → St → Prop} {Q : Exit → St → Prop} {s : St} (h : pubs s.bx.length s fun s' => LoopVC0 body Q s') : LoopVC body Q s := .inr h
theorem loopF0 {σ : Type} {body : (Exit → St → Prop) → St → Prop} {Q : Exit → St → Prop} {fr0 : List (Nat × SV)} {bx0 : List BE} {M0 : Mem} (keys : List Nat) (fr : σ → List (Nat × SV)) (bx : σ → List BE) (mem : σ → Mem) (inv : σ → Prop) (μ : σ → Nat) (x0 : σ) (h0 : inv x0)
    (hs : St.sub ⟨fr x0 ++ drops keys fr0, bx x0, mem x0⟩ ⟨fr0, bx0, M0⟩)
    (h : ∀ x, inv x → body (thenQ Q fun s' => ∃ y, inv y ∧ μ y < μ x ∧ St.sub ⟨fr y ++ drops keys fr0, bx y, mem y⟩ s') ⟨fr x ++ drops keys fr0, bx x, mem x⟩) : LoopVC0 body Q ⟨fr0, bx0, M0⟩ :=
  loop0 (fun x => ⟨fr x ++ drops keys fr0, bx x, mem x⟩) inv μ x0 h0 hs h
/-- a loop that turns some slots (keys): what else was there stays -/
theorem loopF {σ : Type} {body : (Exit → St → Prop) → St → Prop} {Q : Exit → St → Prop} {fr0 : List (Nat × SV)} {bx0 : List BE} {M0 : Mem} (keys : List Nat) (fr : σ → List (Nat × SV)) (bx : σ → List BE) (mem : σ → Mem) (inv : σ → Prop) (μ : σ → Nat) (x0 : σ) (h0 : inv x0)
    (hs : St.sub ⟨fr x0 ++ drops keys fr0, bx x0, mem x0⟩ ⟨fr0, bx0, M0⟩)
    (h : ∀ x, inv x → body (thenQ Q fun s' => ∃ y, inv y ∧ μ y < μ x ∧ St.sub ⟨fr y ++ drops keys fr0, bx y, mem y⟩ s') ⟨fr x ++ drops keys fr0, bx x, mem x⟩) : LoopVC body Q ⟨fr0, bx0, M0⟩ :=
  loop (fun x => ⟨fr x ++ drops keys fr0, bx x, mem x⟩) inv μ x0 h0 hs h
/-- no box turns either, nor memory -/
theorem loopQ {σ : Type} {body : (Exit → St → Prop) → St → Prop} {Q : Exit → St → Prop} {fr0 : List (Nat × SV)} {bx0 : List BE} {M0 : Mem} (keys : List Nat) (fr : σ → List (Nat × SV)) (inv : σ → Prop) (μ : σ → Nat) (x0 : σ) (h0 : inv x0)
    (hs : St.sub ⟨fr x0 ++ drops keys fr0, bx0, M0⟩ ⟨fr0, bx0, M0⟩)
    (h : ∀ x, inv x → body (thenQ Q fun s' => ∃ y, inv y ∧ μ y < μ x ∧ St.sub ⟨fr y ++ drops keys fr0, bx0, M0⟩ s') ⟨fr x ++ drops keys fr0, bx0, M0⟩) : LoopVC body Q ⟨fr0, bx0, M0⟩ :=
  loop (fun x => ⟨fr x ++ drops keys fr0, bx0, M0⟩) inv μ x0 h0 hs h
theorem app {E : TypeId} {size bytes : Nat} {a : Option Addr} {n c m : Nat} {news : List Value} {M : Mem} {k : Option Addr → Nat → Mem → Prop} (M0 : Mem) (L : List Value) (hown : Own M0 E size a n c L M)
    (h1 : (n + m) * bytes ≤ 140737488355328) (h2 : n + m ≤ maxLen) (h3 : ∀ u ∈ news, u.oneCell' = true) (hk : ∀ a' c' M', Own M0 E size a' (n + m) c' (L ++ news) M' → k a' c' M') : AppVC E size bytes a n c m news M k :=
  ⟨h1, h2, h3, M0, L, hown, fun a' c' M' _ ho => hk a' c' M' ho⟩
theorem appC {E : TypeId} {size bytes : Nat} {a : Option Addr} {n c m : Nat} {news : List Value} {M : Mem} {k : Option Addr → Nat → Mem → Prop} (M0 : Mem) (L : List Value) (hown : Own M0 E size a n c L M)
    (h1 : (n + m) * bytes ≤ 140737488355328) (h2 : n + m ≤ maxLen) (h3 : ∀ u ∈ news, u.oneCell' = true) (hk : ∀ a' c' M', (c' = c ∨ c' ≤ maxLen) → Own M0 E size a' (n + m) c' (L ++ news) M' → k a' c' M') : AppVC E size bytes a n c m news M k :=
  ⟨h1, h2, h3, M0, L, hown, hk⟩
theorem srcv {M : Mem} {size : Nat} {a : Option Addr} {n : Nat} {k : List Value → Prop} {vs : List Value} (h : SrcOk M size a n vs) (hk : k vs) : SrcVC M size a n k := ⟨vs, h, hk⟩
theorem strv {M : Mem} {a : Option Addr} {n : Nat} {k : SV → Prop} {bs : List UInt8} (h : SrcOk M 1 a n (bs.map byteV)) (hk : k (.c (.v (.string ⟨bs.toArray⟩)))) : StrVC M a n k := ⟨bs, h, hk⟩
theorem new {M : Mem} {k : Nat → Prop} (h : ∀ b, M b = none → k b) : New M k := h
theorem Mem.le_setCells {M : Mem} {b : Nat} {E : TypeId} {l : List Value} (h : M b = none) : M.le (M.setCells b E l) := fun c o hc => by
  have hne : c ≠ b := fun e => by subst e; rw [h] at hc; cases hc
  simpa [Mem.setCells, Mem.upd_ne _ _ hne] using hc
theorem Own.none (M : Mem) (E : TypeId) (size : Nat) : Own M E size none 0 0 [] M := ⟨by simp, Nat.le_refl _, .inl ⟨rfl, rfl, rfl⟩⟩
theorem Own.lit {M : Mem} {b : Nat} (h : M b = Option.none) (E : TypeId) (size n : Nat) (L : List Value) (hl : L.length = n * size) : Own M E size (some ⟨b, 0, Option.none⟩) n n L (M.setCells b E L) :=
  ⟨hl, Nat.le_refl _, .inr ⟨b, L, rfl, h, rfl, hl, by rw [List.take_of_length_le (by omega)]⟩⟩
theorem Own.base {M0 : Mem} {E : TypeId} {size : Nat} {a : Option Addr} {n c : Nat} {L : List Value} {M : Mem} (h : Own M0 E size a n c L M) : M0.le M := by
  obtain ⟨_, _, ⟨_, _, rfl⟩ | ⟨b, cs, _, hb, rfl, _, _⟩⟩ := h
  · exact Mem.le_refl _
  · exact Mem.le_setCells hb
theorem Own.src {M0 : Mem} {E : TypeId} {size : Nat} {a : Option Addr} {n c : Nat} {L : List Value} {M : Mem} (h : Own M0 E size a n c L M) : SrcOk M size a n L := by
  obtain ⟨hl, hc, ⟨rfl, rfl, rfl⟩ | ⟨b, cs, rfl, hb, rfl, hcl, ht⟩⟩ := h
  · refine ⟨hl, .inl ?_⟩
    have : n = 0 := by omega
    subst this
    simpa using hl
  · refine ⟨hl, .inr ⟨b, 0, rfl, ?_⟩⟩
    have : n * size ≤ c * size := Nat.mul_le_mul_right _ hc
    simp only [Mem.row, Mem.setCells, Mem.upd_same]
    rw [if_pos (by simp; omega)]
    simp [ht]
theorem Mem.row_le {A M : Mem} (h : A.le M) {b o n : Nat} {vs : List Value} (hr : A.row b o n = some vs) : M.row b o n = some vs := by
  unfold Mem.row at hr ⊢
  cases hA : A b with
  | none => rw [hA] at hr; cases hr
  | some x => rw [hA] at hr; rw [h b x hA]; exact hr
theorem SrcOk.le {A M : Mem} (h : A.le M) {size : Nat} {a : Option Addr} {n : Nat} {vs : List Value} (hs : SrcOk A size a n vs) : SrcOk M size a n vs := by
  obtain ⟨hl, h1 | ⟨b, o, ha, h2⟩⟩ := hs
  · exact ⟨hl, .inl h1⟩
  · exact ⟨hl, .inr ⟨b, o, ha, Mem.row_le h h2⟩⟩
theorem SrcOk.elem {M : Mem} {s : Nat} {a : Option Addr} {n : Nat} {vs : List Value} (h : SrcOk M s a n vs) {j : Nat} (hj : j < n) (hs : 0 < s) :
    ∃ b o, a = some ⟨b, o, Option.none⟩ ∧ ∀ p m, p + m ≤ s → M.row b (o + j * s + p) m = some ((vs.drop (j * s + p)).take m) := by
  obtain ⟨hl, h⟩ := h
  have hle : (j + 1) * s ≤ n * s := Nat.mul_le_mul_right _ hj
  rw [Nat.succ_mul] at hle
  rcases h with rfl | ⟨b, o, rfl, hr⟩
  · simp at hl
    omega
  · refine ⟨b, o, rfl, fun p m hpm => ?_⟩
    unfold Mem.row at hr ⊢
    split at hr
    · rename_i c e fz hM
      split at hr
      · simp only [Option.some.injEq] at hr
        rw [if_pos (by omega), ← hr]
        congr 1
        rw [List.drop_take, List.drop_drop, List.take_take]
        rw [Nat.min_eq_left (by omega)]
        congr 2
        omega
      · cases hr
    · cases hr
theorem SrcOk.get {M : Mem} {a : Option Addr} {n : Nat} {vs : List Value} (h : SrcOk M 1 a n vs) {j : Nat} {v : Value} (hv : vs[j]? = some v) : ∃ b o, a = some ⟨b, o, Option.none⟩ ∧ M.row b (o + j * 1) 1 = some [v] := by
  have hl := h.1
  have hj := (List.getElem?_eq_some_iff.1 hv).1
  obtain ⟨b, o, h1, h2⟩ := h.elem (j := j) (by omega) (by omega)
  refine ⟨b, o, h1, ?_⟩
  have := h2 0 1 (by omega)
  simp only [Nat.add_zero] at this
  rw [List.getElem?_eq_getElem hj] at hv
  have hv := Option.some.inj hv
  rw [this, Nat.mul_one, List.drop_eq_getElem_cons hj, hv]
  simp
theorem inR_i64 {n : Int} (h : -9223372036854775808 ≤ n ∧ n ≤ 9223372036854775807) : inR .i64 n := by
  unfold inR
  rw [IntKind.wrap_i64]
  omega
/-- what lies in memory besides the result is forgotten -/
theorem CallsM.drop {P : Program} {f : Nat} {args : List Value} {M : Mem} {R : Value → Mem → Prop} (h : CallsM P f args M fun v M' => ∃ M1, M1.le M' ∧ R v M1) : CallsM P f args M R :=
  ⟨h.1, fun F w h1 h2 h3 => (h.2 F w h1 h2 h3).mono fun _ _ ⟨v, M', he, ⟨M1, hle, hk⟩, hM', hF, hd, hx⟩ => ⟨v, M1, he, hk, Mem.le_trans hle hM', hF, Mem.disj_of_le hd hle, hx⟩⟩
end Go.Vm
