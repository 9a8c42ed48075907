/- The set of what was seen: how it lies; what is there. -/
import Derived.Test.YtmifjilknojkaaaMsgId
import Derived.Test.YtmifjilknojkaaaLayS
import Derived.Test.YtmifjilknojkaaaVmR
import Derived.Test.YtmifjilknojkaaaVmT
namespace Go.Proofs.Ytmifjilknojkaaa
open Go Go.Vm
attribute [local irreducible] Brn Ob Grow CallsM inR LoopVC Mem.row Mem.cells Mem.setCells Mem.upd Own AppVC SrcVC StrVC NextVC New SrcOk subA NewSl Mem.textAt Mem.mapAt Mem.iterAt entryOf kfind Wr NewEls Elems
set_option maxRecDepth 10000
@[reducible] def intV (n : Int) : Value := .int .i64 n
@[reducible] def ptr (p : Nat) : Value := .pointer (some ⟨p, 0, none⟩)
@[reducible] def keyV (k : Int × Int) : Value := .agg #[.int .i64 k.1, .int .i64 k.2]
theorem keyK : KeyOk keyV := by
  intro a b
  obtain ⟨a1, a2⟩ := a
  obtain ⟨b1, b2⟩ := b
  simp only [sameV, sameCs, if_true, Prod.mk.injEq]
  (repeat' split) <;> simp_all
/-- an entry: its row's block, where its counters lie, and what they are -/
structure Ent where
  r : Nat
  a : Option Addr
  c : Nat
  up : Int
  more : List Int
/-- numbers of one's own, from some place of a block on -/
def RowI (M : Mem) (a : Option Addr) (c : Nat) (l : List Int) : Prop :=
  (l.length ≤ c ∧ c ≤ maxLen) ∧ ((a = none ∧ c = 0) ∨ ∃ b o cs, a = some ⟨b, o, none⟩ ∧ M.has b T.int cs ∧ o + c ≤ cs.length ∧ (cs.drop o).take l.length = l.map intV)
structure EntAt (M : Mem) (x : Ent) : Prop where
  self : M.has x.r T.seen_row [.int .i64 x.up, .slice x.a x.more.length x.c]
  more : RowI M x.a x.c x.more
theorem RowI.src {M : Mem} {a : Option Addr} {c : Nat} {l : List Int} (h : RowI M a c l) : SrcOk M 1 a l.length (l.map intV) := by
  obtain ⟨hc, ⟨rfl, rfl⟩ | ⟨b, o, cs, rfl, hh, ho, ht⟩⟩ := h
  · have : l = [] := List.eq_nil_of_length_eq_zero (by omega)
    subst this
    unfold SrcOk
    exact ⟨rfl, .inl rfl⟩
  · unfold SrcOk
    refine ⟨by simp, .inr ⟨b, o, rfl, ?_⟩⟩
    rw [hh.row (by omega), Nat.mul_one]; rw [ht]
theorem RowI.mono {M M' : Mem} {a : Option Addr} {c : Nat} {l : List Int} (h : RowI M a c l) (hk : ∀ q o, a = some q → M q.block = some o → M' q.block = some o) : RowI M' a c l := by
  obtain ⟨hc, h1 | ⟨b, o, cs, rfl, hh, hr⟩⟩ := h
  · exact ⟨hc, .inl h1⟩
  · exact ⟨hc, .inr ⟨b, o, cs, rfl, hk _ _ rfl hh, hr⟩⟩
theorem RowI.block {M : Mem} {a : Option Addr} {c : Nat} {l : List Int} (h : RowI M a c l) {q : Addr} (hq : a = some q) : ∃ cs, M.has q.block T.int cs := by
  obtain ⟨hc, ⟨h1, _⟩ | ⟨b, o, cs, rfl, hh, hr⟩⟩ := h
  · rw [h1] at hq; cases hq
  · cases hq; exact ⟨cs, hh⟩
/-- blocks of an entry -/
def Ent.own (x : Ent) : Nat → Prop := fun y => y = x.r ∨ blk x.a y
theorem EntAt.mono {M M' : Mem} {x : Ent} (h : EntAt M x) (hk : ∀ y o, x.own y → M y = some o → M' y = some o) : EntAt M' x :=
  ⟨hk _ _ (.inl rfl) h.self, h.more.mono fun q o hq => hk _ o (.inr ⟨q, hq, rfl⟩)⟩
theorem EntAt.le {M M' : Mem} {x : Ent} (h : EntAt M x) (hle : M.le M') : EntAt M' x := h.mono fun y o _ => hle y o
def apartE (x y : Ent) : Prop := ∀ z, x.own z → ¬ y.own z
@[reducible] def entV (x : Ent) : Value := ptr x.r
/-- where a set lies: its words at p, its map at b -/
structure SetAt (M : Mem) (p b : Nat) (gaps : Int) (es : List ((Int × Int) × Ent)) : Prop where
  self : M.has p T.seen_Set [.int .i64 gaps, .map (some b)]
  map : MapAt keyV entV M b es
  ents : ∀ q ∈ es, EntAt M q.2
  apart : es.Pairwise fun x y => apartE x.2 y.2
theorem SetAt.le {M M' : Mem} {p b : Nat} {gaps : Int} {es : List ((Int × Int) × Ent)} (h : SetAt M p b gaps es) (hle : M.le M') : SetAt M' p b gaps es :=
  ⟨h.self.le hle, h.map.mono fun o => hle _ o, fun q hq => (h.ents q hq).le hle, h.apart⟩
/-- an entry is a row: no map -/
theorem EntAt.nomap {M : Mem} {x : Ent} (h : EntAt M x) {b : Nat} {es : List ((Int × Int) × Ent)} (hm : MapAt keyV entV M b es) : ¬ x.own b := by
  rintro (e | ⟨q, hq, e⟩)
  · exact hm.nb h.self e.symm
  · obtain ⟨cs, hh⟩ := h.more.block hq
    exact hm.nb hh e
variable {M : Mem} {p b : Nat} {gaps : Int} {es : List ((Int × Int) × Ent)}
theorem New_ok (gaps : Int) : CallsM Try.prog F.seen_New [.int .i64 gaps] M fun v M' =>
    ((gaps < 0 ∨ 256 < gaps) ∧ v = .tuple #[.pointer none, .int .i64 1] ∧ M' = M) ∨
    (¬ (gaps < 0 ∨ 256 < gaps) ∧ ∃ p b, v = .tuple #[ptr p, .int .i64 0] ∧ M p = none ∧ M b = none ∧ M.le M' ∧ SetAt M' p b gaps []) := by
  refine fo_seen_New (by simp) ?_
  (conv => whnf); refine brn (fun h => ?_) (fun h => ?_)
  · repeat' ((conv => whnf); first | refine ⟨?_, True.intro⟩ | refine brn_t rfl ?_ | refine brn_f rfl ?_ | refine ob rfl ?_ | refine ob (by decide) ?_ | refine grow_same (Mem.le_refl _) ?_ | refine ob (Mem.le_refl _) ?_ | refine ⟨_, Mem.le_refl _, ?_⟩ | fail)
    exact .inl ⟨.inl (of_decide_eq_true h), rfl, rfl⟩
  (conv => whnf); refine brn (fun h1 => ?_) (fun h1 => ?_)
  · (conv => whnf)
    exact .inl ⟨.inr (of_decide_eq_true h1), rfl, rfl⟩
  · (conv => whnf); refine new (fun b hb => ?_)
    replace hb : M b = none := hb
    (conv => whnf); refine new (fun p hp => ?_)
    replace hp : (M.upd b (.map #[] 0)) p = none := hp
    have hne : p ≠ b := fun e => by subst e; rw [Mem.upd_same] at hp; cases hp
    rw [Mem.upd_ne _ _ hne] at hp
    (conv => whnf)
    have hn : ¬ (gaps < 0 ∨ 256 < gaps) := by
      have := of_decide_eq_false h
      have := of_decide_eq_false h1
      omega
    refine .inr ⟨hn, p, b, rfl, hp, hb, Mem.le_trans (Mem.le_upd hb) (Mem.le_setCells (by rw [Mem.upd_ne _ _ hne]; exact hp)), Mem.has_setCells, ?_, by simp, by simp⟩
    refine (MapAt.new M b).mono fun o ho => ?_
    unfold Mem.setCells
    rw [Mem.upd_ne _ _ (Ne.symm hne)]; exact ho
theorem of_ok (h : SetAt M p b gaps es) (o d e c : Int) : CallsM Try.prog F.seen_Set_of [ptr p, .agg #[.int .i64 o, .int .i64 d, .int .i64 e, .int .i64 c]] M fun v M' =>
    (∃ x, aget es (o, e) = some x ∧ v = ptr x.r ∧ M' = M) ∨
    (aget es (o, e) = none ∧ ∃ r, v = ptr r ∧ M r = none ∧ M' = M.setCells r T.seen_row [.int .i64 0, .slice none 0 0]) := by
  refine fo_seen_Set_of (by simp) ?_
  repeat' ((conv => whnf); first | refine ⟨?_, True.intro⟩ | refine brn_t rfl ?_ | refine brn_f rfl ?_ | refine ob rfl ?_ | refine ob (by decide) ?_ | refine grow_same (Mem.le_refl _) ?_ | refine ob (Mem.le_refl _) ?_ | refine ⟨_, Mem.le_refl _, ?_⟩ | fail)
  refine on (h.self.c1 rfl) ?_
  (conv => whnf)
  refine h.map.get keyK (o, e) (fun hn => ?_) (fun x j hx => ?_)
  · repeat' ((conv => whnf); first | refine ⟨?_, True.intro⟩ | refine brn_t rfl ?_ | refine brn_f rfl ?_ | refine ob rfl ?_ | refine ob (by decide) ?_ | refine grow_same (Mem.le_refl _) ?_ | refine ob (Mem.le_refl _) ?_ | refine ⟨_, Mem.le_refl _, ?_⟩ | fail)
    refine new (fun r hr => ?_)
    replace hr : M r = none := hr
    (conv => whnf)
    exact .inr ⟨hn, r, rfl, hr, rfl⟩
  · repeat' ((conv => whnf); first | refine ⟨?_, True.intro⟩ | refine brn_t rfl ?_ | refine brn_f rfl ?_ | refine ob rfl ?_ | refine ob (by decide) ?_ | refine grow_same (Mem.le_refl _) ?_ | refine ob (Mem.le_refl _) ?_ | refine ⟨_, Mem.le_refl _, ?_⟩ | fail)
    exact .inl ⟨x, hx, rfl, rfl⟩
end Go.Proofs.Ytmifjilknojkaaa
