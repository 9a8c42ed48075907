/- New rows; what stays of a memory; a part of memory that belongs to an object. -/
import Derived.Test.YtjkejbenppeagaaGreatDoorVmH
namespace Go.Vm
theorem Mem.row_upd_ne {M : Mem} {b c : Nat} {x : Obj} (h : c ≠ b) (o n : Nat) : (M.upd b x).row c o n = M.row c o n := by simp [Mem.row, Mem.upd, h]
theorem Mem.row_cells {M : Mem} {b : Nat} {E : TypeId} {l : List Value} {o n : Nat} (h : o + n ≤ l.length) : (M.setCells b E l).row b o n = some ((l.drop o).take n) := by
  simp [Mem.row, Mem.setCells, Mem.upd, h]
theorem Mem.cells_upd_ne {M : Mem} {b c : Nat} {x : Obj} (h : c ≠ b) : (M.upd b x).cells c = M.cells c := by simp [Mem.cells, Mem.upd, h]
theorem Mem.cells_setCells {M : Mem} {b : Nat} {E : TypeId} {l : List Value} : (M.setCells b E l).cells b = some (E, l) := by simp [Mem.cells, Mem.setCells, Mem.upd]
theorem Mem.cells_le {A M : Mem} (h : A.le M) {b : Nat} {x : TypeId × List Value} (hr : A.cells b = some x) : M.cells b = some x := by
  unfold Mem.cells at hr ⊢
  cases hA : A b with
  | none => rw [hA] at hr; cases hr
  | some y => rw [hA] at hr; rw [h b y hA]; exact hr
theorem Mem.le_upd {M : Mem} {b : Nat} {x : Obj} (h : M b = none) : M.le (M.upd b x) := fun c o hc => by
  have hne : c ≠ b := fun e => by subst e; rw [h] at hc; cases hc
  simpa [Mem.upd, hne] using hc
theorem Mem.upd_upd (M : Mem) (b : Nat) (x y : Obj) : (M.upd b x).upd b y = M.upd b y := by funext c; simp only [Mem.upd]; split <;> rfl
theorem Mem.setCells_setCells (M : Mem) (b : Nat) (E E' : TypeId) (l l' : List Value) : (M.setCells b E l).setCells b E' l' = M.setCells b E' l' := Mem.upd_upd ..

/-- what a cells block holds -/
def Mem.has (M : Mem) (b : Nat) (E : TypeId) (l : List Value) : Prop := M b = some (.cells l.toArray E (0, 0))
theorem Mem.has.cells {M : Mem} {b : Nat} {E : TypeId} {l : List Value} (h : M.has b E l) : M.cells b = some (E, l) := by unfold Mem.has at h; simp [Mem.cells, h]
theorem Mem.has.row {M : Mem} {b : Nat} {E : TypeId} {l : List Value} (h : M.has b E l) {o n : Nat} (hn : o + n ≤ l.length) : M.row b o n = some ((l.drop o).take n) := by unfold Mem.has at h; simp [Mem.row, h, hn]
theorem Mem.has.le {A M : Mem} (hle : A.le M) {b : Nat} {E : TypeId} {l : List Value} (h : A.has b E l) : M.has b E l := hle _ _ h
theorem Mem.has_setCells {M : Mem} {b : Nat} {E : TypeId} {l : List Value} : (M.setCells b E l).has b E l := by simp [Mem.has, Mem.setCells, Mem.upd]

/-- a new row that nobody else has: nothing of M lies there -/
def NewSl (M : Mem) (E : TypeId) (size : Nat) (a : Option Addr) (n c : Nat) (L : List Value) (M' : Mem) : Prop := ∃ M0, M.le M0 ∧ Own M0 E size a n c L M'
theorem Own.new {M : Mem} {E : TypeId} {size : Nat} {a : Option Addr} {n c : Nat} {L : List Value} {M' : Mem} (h : Own M E size a n c L M') : NewSl M E size a n c L M' := ⟨M, Mem.le_refl _, h⟩
theorem NewSl.none (M : Mem) (E : TypeId) (size : Nat) : NewSl M E size none 0 0 [] M := (Own.none M E size).new
theorem NewSl.lit {M : Mem} {b : Nat} (h : M b = Option.none) (E : TypeId) (size n : Nat) (L : List Value) (hl : L.length = n * size) : NewSl M E size (some ⟨b, 0, Option.none⟩) n n L (M.setCells b E L) := (Own.lit h E size n L hl).new
theorem NewSl.le {M : Mem} {E : TypeId} {size : Nat} {a : Option Addr} {n c : Nat} {L : List Value} {M' : Mem} (h : NewSl M E size a n c L M') : M.le M' := by
  obtain ⟨M0, h0, h1⟩ := h; exact Mem.le_trans h0 h1.base
theorem NewSl.src {M : Mem} {E : TypeId} {size : Nat} {a : Option Addr} {n c : Nat} {L : List Value} {M' : Mem} (h : NewSl M E size a n c L M') : SrcOk M' size a n L := by
  obtain ⟨M0, h0, h1⟩ := h; exact h1.src
theorem NewSl.mono {A M : Mem} {E : TypeId} {size : Nat} {a : Option Addr} {n c : Nat} {L : List Value} {M' : Mem} (h : NewSl M E size a n c L M') (hA : A.le M) : NewSl A E size a n c L M' := by
  obtain ⟨M0, h0, h1⟩ := h; exact ⟨M0, Mem.le_trans hA h0, h1⟩
theorem appN {E : TypeId} {size bytes : Nat} {a : Option Addr} {n c m : Nat} {news : List Value} {M : Mem} {k : Option Addr → Nat → Mem → Prop} (M0 : Mem) (L : List Value) (hown : NewSl M0 E size a n c L M)
    (h1 : (n + m) * bytes ≤ 140737488355328) (h2 : n + m ≤ maxLen) (h3 : ∀ u ∈ news, u.oneCell' = true) (hk : ∀ a' c' M', NewSl M0 E size a' (n + m) c' (L ++ news) M' → k a' c' M') : AppVC E size bytes a n c m news M k := by
  obtain ⟨M1, h0, h⟩ := hown
  exact app M1 L h h1 h2 h3 fun a' c' M' ho => hk a' c' M' ⟨M1, h0, ho⟩
theorem SrcOk.nil (M : Mem) (size : Nat) : SrcOk M size none 0 [] := ⟨by simp, .inl rfl⟩
theorem SrcOk.len {M : Mem} {size : Nat} {a : Option Addr} {n : Nat} {l : List Value} (h : SrcOk M size a n l) : l.length = n * size := h.1
/-- a row is at a place that holds something, or has nothing -/
theorem SrcOk.upd {M : Mem} {size : Nat} {a : Option Addr} {n : Nat} {l : List Value} (h : SrcOk M size a n l) {b : Nat} {x : Obj} (hb : ∀ p, a = some p → p.block ≠ b) : SrcOk (M.upd b x) size a n l := by
  obtain ⟨hl, h1 | ⟨c, o, ha, h2⟩⟩ := h
  · exact ⟨hl, .inl h1⟩
  · have := hb _ ha
    exact ⟨hl, .inr ⟨c, o, ha, by rw [Mem.row_upd_ne this]; exact h2⟩⟩
/-- what lies outside of S stays -/
def Mem.keep (S : Nat → Prop) (M M' : Mem) : Prop := ∀ b o, ¬ S b → M b = some o → M' b = some o
theorem Mem.keep_refl (S : Nat → Prop) (M : Mem) : Mem.keep S M M := fun _ _ _ h => h
theorem Mem.keep_of_le {S : Nat → Prop} {M M' : Mem} (h : M.le M') : Mem.keep S M M' := fun b o _ hb => h b o hb
theorem Mem.keep_trans {S : Nat → Prop} {A B C : Mem} (h : Mem.keep S A B) (h' : Mem.keep S B C) : Mem.keep S A C := fun b o hn hb => h' b o hn (h b o hn hb)
theorem Mem.keep_mono {S T : Nat → Prop} {A B : Mem} (h : Mem.keep S A B) (hST : ∀ b, S b → T b) : Mem.keep T A B := fun b o hn hb => h b o (fun h => hn (hST b h)) hb
theorem Mem.keep_upd {S : Nat → Prop} (M : Mem) {b : Nat} (x : Obj) (hb : S b) : Mem.keep S M (M.upd b x) := fun c o hn hc => by
  have hne : c ≠ b := fun e => by subst e; exact hn hb
  simpa [Mem.upd, hne] using hc
theorem Mem.keep.le {S : Nat → Prop} {M0 M M' : Mem} (h : Mem.keep S M M') (h0 : M0.le M) (hS : ∀ b, S b → M0 b = none) : M0.le M' := fun b o hb => h b o (fun hs => by rw [hS b hs] at hb; cases hb) (h0 b o hb)
end Go.Vm
namespace Go.Vm
theorem SrcOk.at {α : Type} {M : Mem} {a : Option Addr} {n : Nat} {l : List α} {f : α → Value} (h : SrcOk M 1 a n (l.map f)) {i : Nat} (hi : i < n) :
    ∃ (hl : i < l.length) (b o : Nat), a = some ⟨b, o, Option.none⟩ ∧ M.row b (o + i * 1) 1 = some [f l[i]] := by
  have hl : l.length = n := by simpa using h.1
  obtain ⟨b, o, h1, h2⟩ := h.get (j := i) (v := f (l[i]'(by omega))) (by simp [List.getElem?_eq_getElem (show i < l.length by omega)])
  exact ⟨by omega, b, o, h1, h2⟩
theorem SrcOk.maplen {α : Type} {M : Mem} {a : Option Addr} {n : Nat} {l : List α} {f : α → Value} (h : SrcOk M 1 a n (l.map f)) : l.length = n := by simpa using h.1
end Go.Vm
namespace Go.Vm
theorem take_succ_map {α β : Type} {f : α → β} {l : List α} {i : Nat} (h : i < l.length) : (l.take (i + 1)).map f = (l.take i).map f ++ [f l[i]] := by
  rw [List.take_add_one, List.getElem?_eq_getElem h, List.map_append]; rfl
theorem newSl_iff {M : Mem} {E : TypeId} {s : Nat} {a : Option Addr} {n c : Nat} {L : List Value} {M' : Mem} :
    NewSl M E s a n c L M' ↔ M.le M' ∧ L.length = n * s ∧ n ≤ c ∧ ((a = Option.none ∧ c = 0) ∨ ∃ b cs, a = some ⟨b, 0, Option.none⟩ ∧ M b = Option.none ∧ M'.has b E cs ∧ cs.length = c * s ∧ cs.take (n * s) = L) := by
  constructor
  · intro h
    refine ⟨h.le, ?_⟩
    obtain ⟨M0, h0, h1, h2, h3⟩ := h
    refine ⟨h1, h2, ?_⟩
    rcases h3 with ⟨ha, hc, _⟩ | ⟨b, cs, ha, hb, rfl, hl, ht⟩
    · exact .inl ⟨ha, hc⟩
    · refine .inr ⟨b, cs, ha, ?_, Mem.has_setCells, hl, ht⟩
      cases hx : M b with
      | none => rfl
      | some x => rw [h0 b x hx] at hb; cases hb
  · rintro ⟨hle, h1, h2, ⟨ha, hc⟩ | ⟨b, cs, ha, hb, hh, hl, ht⟩⟩
    · exact ⟨M', hle, h1, h2, .inl ⟨ha, hc, rfl⟩⟩
    · refine ⟨fun x => if x = b then none else M' x, fun x o hx => ?_, h1, h2, .inr ⟨b, cs, ha, by simp, ?_, hl, ht⟩⟩
      · have hne : x ≠ b := fun e => by subst e; rw [hb] at hx; cases hx
        simp only [if_neg hne]
        exact hle x o hx
      · funext x
        simp only [Mem.setCells, Mem.upd]
        split
        · rename_i e; subst e; exact hh
        · rfl
theorem NewSl.up {M : Mem} {E : TypeId} {s : Nat} {a : Option Addr} {n c : Nat} {L : List Value} {M1 M2 : Mem} (h : NewSl M E s a n c L M1) (hle : M1.le M2) : NewSl M E s a n c L M2 := by
  rw [newSl_iff] at h ⊢
  obtain ⟨h0, h1, h2, h3⟩ := h
  exact ⟨Mem.le_trans h0 hle, h1, h2, h3.imp id fun ⟨b, cs, ha, hb, hh, hr⟩ => ⟨b, cs, ha, hb, hle _ _ hh, hr⟩⟩
/-- other objects turn -/
theorem NewSl.keep {M : Mem} {E : TypeId} {s : Nat} {a : Option Addr} {n c : Nat} {L : List Value} {M1 M2 : Mem} {S : Nat → Prop} (h : NewSl M E s a n c L M1) (hk : Mem.keep S M1 M2) (hS : ∀ b, S b → M b = Option.none) (ha : ∀ p, a = some p → ¬ S p.block) : NewSl M E s a n c L M2 := by
  rw [newSl_iff] at h ⊢
  obtain ⟨h0, h1, h2, h3⟩ := h
  exact ⟨hk.le h0 hS, h1, h2, h3.imp id fun ⟨b, cs, hab, hb, hh, hr⟩ => ⟨b, cs, hab, hb, hk _ _ (ha _ hab) hh, hr⟩⟩
end Go.Vm
namespace Go.Vm
def Mem.empty : Mem := fun _ => none
theorem Mem.empty_le (M : Mem) : Mem.empty.le M := fun _ _ h => by cases h
end Go.Vm
namespace Go.Vm
/-- one cell of a row -/
theorem Mem.has.c1 {M : Mem} {b : Nat} {E : TypeId} {l : List Value} (h : M.has b E l) {o : Nat} {v : Value} (hv : l[o]? = some v) : M.row b o 1 = some [v] := by
  have hl := (List.getElem?_eq_some_iff.1 hv).1
  rw [h.row (by omega), List.drop_eq_getElem_cons hl]
  have := (List.getElem?_eq_some_iff.1 hv).2
  simp [this]
end Go.Vm
namespace Go.Vm
theorem NewSl.block {M : Mem} {E : TypeId} {s : Nat} {a : Option Addr} {n c : Nat} {L : List Value} {M' : Mem} (h : NewSl M E s a n c L M') {q : Addr} (ha : a = some q) : M q.block = Option.none ∧ ∃ cs, M'.has q.block E cs := by
  rw [newSl_iff] at h
  obtain ⟨_, _, _, ⟨h3, _⟩ | ⟨b, cs, hab, hb, hh, _⟩⟩ := h
  · rw [h3] at ha; cases ha
  · rw [hab] at ha; cases ha; exact ⟨hb, cs, hh⟩
theorem Mem.has.inj {M : Mem} {b : Nat} {E E' : TypeId} {l l' : List Value} (h : M.has b E l) (h' : M.has b E' l') : E = E' ∧ l = l' := by
  unfold Mem.has at h h'; rw [h] at h'; simp at h'; exact ⟨h'.2, h'.1⟩
/-- a row that may be written: from its block's beginning on -/
def Wr (M : Mem) (E : TypeId) (s : Nat) (a : Option Addr) (n c : Nat) (L : List Value) : Prop :=
  L.length = n * s ∧ n ≤ c ∧ ((a = Option.none ∧ c = 0) ∨ ∃ b cs, a = some ⟨b, 0, Option.none⟩ ∧ M.has b E cs ∧ cs.length = c * s ∧ cs.take (n * s) = L)
theorem NewSl.wr {M : Mem} {E : TypeId} {s : Nat} {a : Option Addr} {n c : Nat} {L : List Value} {M' : Mem} (h : NewSl M E s a n c L M') : Wr M' E s a n c L := by
  rw [newSl_iff] at h
  obtain ⟨_, h1, h2, h3⟩ := h
  exact ⟨h1, h2, h3.imp id fun ⟨b, cs, ha, _, hr⟩ => ⟨b, cs, ha, hr⟩⟩
theorem Wr.mono {M M' : Mem} {E : TypeId} {s : Nat} {a : Option Addr} {n c : Nat} {L : List Value} (h : Wr M E s a n c L) (hk : ∀ p o, a = some p → M p.block = some o → M' p.block = some o) : Wr M' E s a n c L := by
  obtain ⟨h1, h2, h3⟩ := h
  exact ⟨h1, h2, h3.imp id fun ⟨b, cs, ha, hh, hr⟩ => ⟨b, cs, ha, hk _ _ ha hh, hr⟩⟩
theorem Wr.le {M M' : Mem} {E : TypeId} {s : Nat} {a : Option Addr} {n c : Nat} {L : List Value} (h : Wr M E s a n c L) (hle : M.le M') : Wr M' E s a n c L := h.mono fun _ _ _ => hle _ _
theorem Wr.src {M : Mem} {E : TypeId} {s : Nat} {a : Option Addr} {n c : Nat} {L : List Value} (h : Wr M E s a n c L) : SrcOk M s a n L := by
  obtain ⟨h1, h2, ⟨ha, hc⟩ | ⟨b, cs, ha, hh, hl, ht⟩⟩ := h
  · refine ⟨h1, .inl ?_⟩
    have : n = 0 := by omega
    subst this; simpa using h1
  · refine ⟨h1, .inr ⟨b, 0, ha, ?_⟩⟩
    have : n * s ≤ c * s := Nat.mul_le_mul_right _ h2
    rw [hh.row (by omega)]; simp [ht]
/-- the elements of a slice, each of so many cells -/
def Elems {α : Type} (M : Mem) (s : Nat) (a : Option Addr) (n : Nat) (R : List Value → α → Prop) (l : List α) : Prop :=
  ∃ css : List (List Value), SrcOk M s a n css.flatten ∧ css.length = n ∧ l.length = n ∧ (∀ cs ∈ css, cs.length = s) ∧ ∀ (i : Nat) cs x, css[i]? = some cs → l[i]? = some x → R cs x
theorem Elems.len {α : Type} {M : Mem} {s : Nat} {a : Option Addr} {n : Nat} {R : List Value → α → Prop} {l : List α} (h : Elems M s a n R l) : l.length = n := by
  obtain ⟨_, _, _, h, _⟩ := h; exact h
theorem Elems.imp {α : Type} {M M' : Mem} {s : Nat} {a : Option Addr} {n : Nat} {R R' : List Value → α → Prop} {l : List α} (h : Elems M s a n R l) (hle : M.le M') (hR : ∀ cs x, x ∈ l → R cs x → R' cs x) : Elems M' s a n R' l := by
  obtain ⟨css, h1, h2, h3, h4, h5⟩ := h
  exact ⟨css, h1.le hle, h2, h3, h4, fun i cs x hi hx => hR _ _ (List.mem_of_getElem? hx) (h5 i cs x hi hx)⟩
theorem flatten_chunk {α : Type} {s : Nat} : ∀ {css : List (List α)} (_ : ∀ cs ∈ css, cs.length = s) {i : Nat} {cs : List α} (_ : css[i]? = some cs), (css.flatten.drop (i * s)).take s = cs
  | [], _, i, cs, hi => by simp at hi
  | c :: r, h, 0, cs, hi => by
    simp at hi; subst hi
    have : c.length = s := h c (by simp)
    simp [← this]
  | c :: r, h, i + 1, cs, hi => by
    have hc : c.length = s := h c (by simp)
    simp only [List.flatten_cons]
    rw [Nat.succ_mul, Nat.add_comm, ← List.drop_drop, show (c ++ r.flatten).drop s = r.flatten by rw [← hc]; simp]
    exact flatten_chunk (fun cs hcs => h cs (List.mem_cons_of_mem _ hcs)) (by simpa using hi)
theorem Elems.at {α : Type} {M : Mem} {s : Nat} {a : Option Addr} {n : Nat} {R : List Value → α → Prop} {l : List α} (h : Elems M s a n R l) (hs : 0 < s) {i : Nat} (hi : i < n) :
    ∃ (hl : i < l.length) (b o : Nat) (cs : List Value), a = some ⟨b, o, Option.none⟩ ∧ (∀ p m, p + m ≤ s → M.row b (o + i * s + p) m = some ((cs.drop p).take m)) ∧ M.row b (o + i * s) s = some cs ∧ cs.length = s ∧ R cs l[i] := by
  obtain ⟨css, h1, h2, h3, h4, h5⟩ := h
  obtain ⟨b, o, ha, hr⟩ := h1.elem hi hs
  have hcs : css[i]? = some (css[i]'(by omega)) := List.getElem?_eq_getElem (by omega)
  have hlen : (css[i]'(by omega)).length = s := h4 _ (List.getElem_mem _)
  have key : ∀ p m, p + m ≤ s → M.row b (o + i * s + p) m = some (((css[i]'(by omega)).drop p).take m) := by
    intro p m hpm
    rw [hr p m hpm, ← flatten_chunk h4 hcs, List.drop_take, List.drop_drop, List.take_take]
    congr 2
    omega
  refine ⟨by omega, b, o, css[i]'(by omega), ha, key, ?_, hlen, h5 i _ _ hcs (List.getElem?_eq_getElem (by omega))⟩
  have := key 0 s (by omega)
  rw [Nat.add_zero] at this
  rw [this, List.drop_zero, List.take_of_length_le (by omega)]
theorem Elems.nil {α : Type} (M : Mem) (s : Nat) (R : List Value → α → Prop) : Elems M s Option.none 0 R [] := ⟨[], SrcOk.nil M s, rfl, rfl, by simp, by simp⟩
/-- a new row of elements -/
def NewEls {α : Type} (M : Mem) (E : TypeId) (s : Nat) (a : Option Addr) (n c : Nat) (R : List Value → α → Prop) (l : List α) (M' : Mem) : Prop :=
  ∃ css : List (List Value), NewSl M E s a n c css.flatten M' ∧ css.length = n ∧ l.length = n ∧ (∀ cs ∈ css, cs.length = s) ∧ ∀ (i : Nat) cs x, css[i]? = some cs → l[i]? = some x → R cs x
theorem NewEls.elems {α : Type} {M : Mem} {E : TypeId} {s : Nat} {a : Option Addr} {n c : Nat} {R : List Value → α → Prop} {l : List α} {M' : Mem} (h : NewEls M E s a n c R l M') : Elems M' s a n R l := by
  obtain ⟨css, h1, hr⟩ := h; exact ⟨css, h1.src, hr⟩
theorem NewEls.le {α : Type} {M : Mem} {E : TypeId} {s : Nat} {a : Option Addr} {n c : Nat} {R : List Value → α → Prop} {l : List α} {M' : Mem} (h : NewEls M E s a n c R l M') : M.le M' := by
  obtain ⟨css, h1, hr⟩ := h; exact h1.le
theorem NewEls.len {α : Type} {M : Mem} {E : TypeId} {s : Nat} {a : Option Addr} {n c : Nat} {R : List Value → α → Prop} {l : List α} {M' : Mem} (h : NewEls M E s a n c R l M') : l.length = n := h.elems.len
theorem NewEls.block {α : Type} {M : Mem} {E : TypeId} {s : Nat} {a : Option Addr} {n c : Nat} {R : List Value → α → Prop} {l : List α} {M' : Mem} (h : NewEls M E s a n c R l M') {q : Addr} (ha : a = some q) : M q.block = Option.none ∧ ∃ cs, M'.has q.block E cs := by
  obtain ⟨css, h1, _⟩ := h; exact h1.block ha
theorem NewEls.nil {α : Type} (M : Mem) (E : TypeId) (s : Nat) (R : List Value → α → Prop) : NewEls M E s Option.none 0 0 R [] M := ⟨[], NewSl.none M E s, rfl, rfl, by simp, by simp⟩
theorem NewEls.imp {α : Type} {M : Mem} {E : TypeId} {s : Nat} {a : Option Addr} {n c : Nat} {R R' : List Value → α → Prop} {l : List α} {M' : Mem} (h : NewEls M E s a n c R l M') (hR : ∀ cs x, x ∈ l → R cs x → R' cs x) : NewEls M E s a n c R' l M' := by
  obtain ⟨css, h1, h2, h3, h4, h5⟩ := h
  exact ⟨css, h1, h2, h3, h4, fun i cs x hi hx => hR _ _ (List.mem_of_getElem? hx) (h5 i cs x hi hx)⟩
theorem NewEls.up {α : Type} {M : Mem} {E : TypeId} {s : Nat} {a : Option Addr} {n c : Nat} {R : List Value → α → Prop} {l : List α} {M1 M2 : Mem} (h : NewEls M E s a n c R l M1) (hle : M1.le M2) : NewEls M E s a n c R l M2 := by
  obtain ⟨css, h1, hr⟩ := h; exact ⟨css, h1.up hle, hr⟩
theorem NewEls.keep {α : Type} {M : Mem} {E : TypeId} {s : Nat} {a : Option Addr} {n c : Nat} {R : List Value → α → Prop} {l : List α} {M1 M2 : Mem} {S : Nat → Prop} (h : NewEls M E s a n c R l M1) (hk : Mem.keep S M1 M2) (hS : ∀ b, S b → M b = Option.none) (ha : ∀ p, a = some p → ¬ S p.block) : NewEls M E s a n c R l M2 := by
  obtain ⟨css, h1, hr⟩ := h; exact ⟨css, h1.keep hk hS ha, hr⟩
theorem NewEls.mono {α : Type} {A M : Mem} {E : TypeId} {s : Nat} {a : Option Addr} {n c : Nat} {R : List Value → α → Prop} {l : List α} {M' : Mem} (h : NewEls M E s a n c R l M') (hA : A.le M) : NewEls A E s a n c R l M' := by
  obtain ⟨css, h1, hr⟩ := h; exact ⟨css, h1.mono hA, hr⟩
/-- the block of a row -/
def blk (a : Option Addr) : Nat → Prop := fun x => ∃ q, a = some q ∧ q.block = x
theorem appK {E : TypeId} {size bytes : Nat} {a : Option Addr} {n c m : Nat} {news : List Value} {M : Mem} {k : Option Addr → Nat → Mem → Prop} (M0 : Mem) (L : List Value) (hown : NewSl M0 E size a n c L M)
    (h1 : (n + m) * bytes ≤ 140737488355328) (h2 : n + m ≤ maxLen) (h3 : ∀ u ∈ news, u.oneCell' = true) (hk : ∀ a' c' M', NewSl M0 E size a' (n + m) c' (L ++ news) M' → Mem.keep (blk a) M M' → k a' c' M') : AppVC E size bytes a n c m news M k := by
  rw [newSl_iff] at hown
  obtain ⟨h0, h4, h5, ⟨ha, hc⟩ | ⟨b, cs, ha, hb, hh, hl, ht⟩⟩ := hown
  · refine app M L ⟨h4, h5, .inl ⟨ha, hc, rfl⟩⟩ h1 h2 h3 fun a' c' M' ho => hk a' c' M' ⟨M, h0, ho⟩ (Mem.keep_of_le ho.base)
  · refine app (fun x => if x = b then Option.none else M x) L ⟨h4, h5, .inr ⟨b, cs, ha, by simp, ?_, hl, ht⟩⟩ h1 h2 h3 fun a' c' M' ho => hk a' c' M' ⟨_, ?_, ho⟩ ?_
    · funext x
      simp only [Mem.setCells, Mem.upd]
      split
      · rename_i e; subst e; exact hh
      · rfl
    · intro x o hx
      have hne : x ≠ b := fun e => by subst e; rw [hb] at hx; cases hx
      simp only [if_neg hne]
      exact h0 x o hx
    · intro x o hn hx
      have hne : x ≠ b := fun e => hn ⟨_, ha, e.symm⟩
      exact ho.base x o (by simp only [if_neg hne]; exact hx)
/-- one element more -/
theorem appE {α : Type} {E : TypeId} {s bytes : Nat} {a : Option Addr} {n c : Nat} {news : List Value} {M : Mem} {k : Option Addr → Nat → Mem → Prop} {R : List Value → α → Prop} {l : List α} (M0 : Mem) (hown : NewEls M0 E s a n c R l M) (x : α) (hx : R news x)
    (hl : news.length = s) (h1 : (n + 1) * bytes ≤ 140737488355328) (h2 : n + 1 ≤ maxLen) (h3 : ∀ u ∈ news, u.oneCell' = true) (hk : ∀ a' c' M', NewEls M0 E s a' (n + 1) c' R (l ++ [x]) M' → Mem.keep (blk a) M M' → k a' c' M') : AppVC E s bytes a n c 1 news M k := by
  obtain ⟨css, h0, h4, h5, h6, h7⟩ := hown
  refine appK M0 _ h0 h1 h2 h3 fun a' c' M' hn hkp => hk a' c' M' ⟨css ++ [news], by simpa using hn, by simp [h4], by simp [h5], ?_, ?_⟩ hkp
  · intro cs hcs
    rcases List.mem_append.1 hcs with h | h
    · exact h6 cs h
    · simp at h; rw [h, hl]
  · intro i cs y hi hy
    by_cases hlt : i < css.length
    · rw [List.getElem?_append_left hlt] at hi
      rw [List.getElem?_append_left (by omega)] at hy
      exact h7 i cs y hi hy
    · rw [List.getElem?_append_right (by omega)] at hi
      rw [List.getElem?_append_right (by omega)] at hy
      have e : i - css.length = 0 := by
        have := (List.getElem?_eq_some_iff.1 hi).1; simp at this; omega
      rw [e] at hi
      rw [show i - l.length = 0 by omega] at hy
      simp at hi hy
      rw [← hi, ← hy]; exact hx
end Go.Vm
namespace Go.Vm
open Classical in
/-- what lies outside of S -/
noncomputable def Mem.minus (M : Mem) (S : Nat → Prop) : Mem := fun x => if S x then none else M x
theorem Mem.minus_le (M : Mem) (S : Nat → Prop) : (M.minus S).le M := fun b o h => by unfold Mem.minus at h; split at h; cases h; exact h
theorem Mem.keep_minus {M M' : Mem} {S : Nat → Prop} : Mem.keep S M M' ↔ (M.minus S).le M' := by
  constructor
  · intro h b o hb
    unfold Mem.minus at hb; split at hb
    · cases hb
    · exact h b o ‹_› hb
  · intro h b o hn hb
    exact h b o (by unfold Mem.minus; rw [if_neg hn]; exact hb)
theorem Mem.le_minus {M0 M : Mem} {S : Nat → Prop} (h : M0.le M) (hS : ∀ b, S b → M0 b = none) : M0.le (M.minus S) := fun b o hb => by
  unfold Mem.minus; rw [if_neg (fun hs => by rw [hS b hs] at hb; cases hb)]; exact h b o hb
theorem Mem.minus_none {M : Mem} {S : Nat → Prop} {b : Nat} (h : M.minus S b = none) : S b ∨ M b = none := by
  unfold Mem.minus at h; split at h
  · left; assumption
  · right; exact h
theorem Mem.minus_in {M : Mem} {S : Nat → Prop} {b : Nat} (h : S b) : M.minus S b = none := by unfold Mem.minus; rw [if_pos h]
end Go.Vm
namespace Go.Vm
theorem Wr.block {M : Mem} {E : TypeId} {s : Nat} {a : Option Addr} {n c : Nat} {L : List Value} (h : Wr M E s a n c L) {q : Addr} (ha : a = some q) : ∃ cs, M.has q.block E cs := by
  obtain ⟨_, _, ⟨h3, _⟩ | ⟨b, cs, hab, hh, _⟩⟩ := h
  · rw [h3] at ha; cases ha
  · rw [hab] at ha; cases ha; exact ⟨cs, hh⟩
end Go.Vm
namespace Go.Vm
theorem Mem.row_minus {M : Mem} {S : Nat → Prop} {b o n : Nat} {vs : List Value} (h : M.row b o n = some vs) (hb : ¬ S b) : (M.minus S).row b o n = some vs := by
  unfold Mem.row at h ⊢
  have : M.minus S b = M b := by unfold Mem.minus; rw [if_neg hb]
  rw [this]; exact h
theorem SrcOk.minus {M : Mem} {S : Nat → Prop} {size : Nat} {a : Option Addr} {n : Nat} {l : List Value} (h : SrcOk M size a n l) (hb : ∀ q, a = some q → ¬ S q.block) : SrcOk (M.minus S) size a n l := by
  obtain ⟨hl, h1 | ⟨c, o, ha, h2⟩⟩ := h
  · exact ⟨hl, .inl h1⟩
  · exact ⟨hl, .inr ⟨c, o, ha, Mem.row_minus h2 (hb _ ha)⟩⟩
theorem SrcOk.lit {M : Mem} {b : Nat} {E : TypeId} {size n : Nat} {l : List Value} (hl : l.length = n * size) : SrcOk (M.setCells b E l) size (some ⟨b, 0, Option.none⟩) n l :=
  ⟨hl, .inr ⟨b, 0, rfl, by rw [Mem.row_cells (by omega), ← hl]; simp⟩⟩
theorem splice_one {α : Type} (l : List α) (o : Nat) (v : α) (h : o < l.length) : splice l o [v] = l.set o v := by
  unfold splice
  rw [List.set_eq_take_append_cons_drop, if_pos h]; simp
end Go.Vm
namespace Go.Vm
theorem Mem.textAt_setCells {M : Mem} {b : Nat} {E : TypeId} {l : List Value} : (M.setCells b E l).textAt b = some (.cells l.toArray E (l.length, l.length + 1)) := by
  simp [Mem.textAt, Mem.setCells, Mem.upd]
theorem Mem.row_obj {M : Mem} {b : Nat} {E : TypeId} {l : List Value} {fz : Nat × Nat} {o n : Nat} (hb : M b = some (.cells l.toArray E fz)) (h : o + n ≤ l.length) : M.row b o n = some ((l.drop o).take n) := by
  simp [Mem.row, hb, h]
end Go.Vm
namespace Go.Vm
theorem three {M : Mem} {a b c : Nat} {E F G : TypeId} {l m n : List Value} (ha : M a = none) (hb : (M.setCells a E l) b = none) (hc : ((M.setCells a E l).setCells b F m) c = none) :
    M.le (((M.setCells a E l).setCells b F m).setCells c G n) ∧ (((M.setCells a E l).setCells b F m).setCells c G n).has a E l ∧ (((M.setCells a E l).setCells b F m).setCells c G n).has b F m ∧
    (((M.setCells a E l).setCells b F m).setCells c G n).has c G n ∧ M a = none ∧ M b = none ∧ M c = none := by
  have h1 : (M.setCells a E l).le _ := Mem.le_setCells (E := F) (l := m) hb
  have h2 : ((M.setCells a E l).setCells b F m).le _ := Mem.le_setCells (E := G) (l := n) hc
  have h0 : M.le _ := Mem.le_setCells (E := E) (l := l) ha
  have nn : ∀ {A B : Mem} {x : Nat}, A.le B → B x = none → A x = none := fun {A B x} h hx => by
    cases e : A x with
    | none => rfl
    | some o => rw [h x o e] at hx; cases hx
  exact ⟨Mem.le_trans h0 (Mem.le_trans h1 h2), h2 _ _ (h1 _ _ Mem.has_setCells), h2 _ _ Mem.has_setCells, Mem.has_setCells, ha, nn h0 hb, nn h0 (nn h1 hc)⟩
theorem Mem.has.minus {M : Mem} {S : Nat → Prop} {b : Nat} {E : TypeId} {l : List Value} (h : M.has b E l) (hb : ¬ S b) : (M.minus S).has b E l := by
  unfold Mem.has Mem.minus at *; rw [if_neg hb]; exact h
theorem Mem.has.src {M : Mem} {b : Nat} {E : TypeId} {l : List Value} (h : M.has b E l) {size n : Nat} (hl : l.length = n * size) : SrcOk M size (some ⟨b, 0, Option.none⟩) n l :=
  ⟨hl, .inr ⟨b, 0, rfl, by rw [h.row (by omega), ← hl]; simp⟩⟩
end Go.Vm
namespace Go.Vm
/-- one cell of a row of one's own is written -/
theorem Wr.store1 {α : Type} {f : α → Value} {M : Mem} {E : TypeId} {a : Option Addr} {n c : Nat} {L : List α} (h : Wr M E 1 a n c (L.map f)) {j : Nat} (hj : j < n) :
    ∃ b cs, a = some ⟨b, 0, Option.none⟩ ∧ M.cells b = some (E, cs) ∧ 0 + j * 1 + 1 ≤ cs.length ∧ ∀ v, Wr (M.setCells b E (splice cs (0 + j * 1) [f v])) E 1 a n c ((L.set j v).map f) ∧ Mem.keep (blk a) M (M.setCells b E (splice cs (0 + j * 1) [f v])) := by
  obtain ⟨h1, h2, ⟨ha, hc⟩ | ⟨b, cs, ha, hh, hl, ht⟩⟩ := h
  · omega
  · refine ⟨b, cs, ha, hh.cells, by omega, fun v => ⟨⟨by simpa using h1, h2, .inr ⟨b, _, ha, Mem.has_setCells, ?_, ?_⟩⟩, ?_⟩⟩
    · rw [splice_one _ _ _ (by omega)]; simpa using hl
    · rw [splice_one _ _ _ (by omega)]
      simp only [Nat.zero_add, Nat.mul_one] at ht ⊢
      rw [List.take_set, ht, List.map_set]
    · intro x o hx hM
      have hne : x ≠ b := fun e => hx ⟨_, ha, e.symm⟩
      unfold Mem.setCells
      rw [Mem.upd_ne _ _ hne]; exact hM
theorem Wr.len {M : Mem} {E : TypeId} {s : Nat} {a : Option Addr} {n c : Nat} {L : List Value} (h : Wr M E s a n c L) : L.length = n * s := h.1
theorem Wr.maplen {α : Type} {f : α → Value} {M : Mem} {E : TypeId} {a : Option Addr} {n c : Nat} {L : List α} (h : Wr M E 1 a n c (L.map f)) : L.length = n := by simpa using h.1
end Go.Vm
namespace Go.Vm
theorem Mem.has.upd {M : Mem} {p b : Nat} {E : TypeId} {l : List Value} (h : M.has p E l) (hne : p ≠ b) (o : Obj) : (M.upd b o).has p E l := by
  unfold Mem.has at *; rw [Mem.upd_ne _ _ hne]; exact h
end Go.Vm
namespace Go.Vm
/-- a part of a row -/
theorem SrcOk.sub {M : Mem} {s : Nat} {a : Option Addr} {n : Nat} {vs : List Value} (h : SrcOk M s a n vs) {lo hi c : Nat} (h1 : lo ≤ hi) (h2 : hi ≤ n) (hc : n ≤ c) (hs : 0 < s) : SrcOk M s (subA a lo c s) (hi - lo) ((vs.drop (lo * s)).take ((hi - lo) * s)) := by
  have hl := h.1
  have hm : (hi - lo) * s + lo * s = hi * s := by rw [← Nat.add_mul]; congr 1; omega
  have hm2 : hi * s ≤ n * s := Nat.mul_le_mul_right _ h2
  refine ⟨by simp; omega, ?_⟩
  by_cases hz : hi - lo = 0
  · left; rw [hz]; simp
  right
  rcases h.2 with h3 | ⟨b, o, ha, hr⟩
  · subst h3
    have : 1 * s ≤ n * s := Nat.mul_le_mul_right _ (by omega)
    simp at hl; omega
  · refine ⟨b, o + lo * s, ?_, ?_⟩
    · unfold subA
      rw [if_neg (by omega), ha]
      simp [addr_add]
    · unfold Mem.row at hr ⊢
      split at hr
      · split at hr
        · rename_i hle
          have := Option.some.inj hr
          rw [if_pos (by omega), ← this, List.drop_take, List.drop_drop, List.take_take, Nat.min_eq_left (by omega)]
        · cases hr
      · cases hr
theorem SrcOk.subm {α : Type} {f : α → Value} {M : Mem} {a : Option Addr} {n : Nat} {l : List α} (h : SrcOk M 1 a n (l.map f)) {lo hi c : Nat} (h1 : lo ≤ hi) (h2 : hi ≤ n) (hc : n ≤ c) : SrcOk M 1 (subA a lo c 1) (hi - lo) (((l.drop lo).take (hi - lo)).map f) := by
  have := h.sub (lo := lo) (hi := hi) h1 h2 hc (by decide)
  simpa [List.map_take, List.map_drop] using this
end Go.Vm
namespace Go.Vm
theorem bytes_one (l : List UInt8) : ∀ u ∈ l.map byteV, u.oneCell' = true := fun u hu => by
  obtain ⟨b, _, rfl⟩ := List.mem_map.1 hu; rfl
end Go.Vm
