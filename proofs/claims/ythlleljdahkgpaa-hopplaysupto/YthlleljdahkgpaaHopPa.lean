/- A desk beside the document's; offers that say the same; bytes that are turned twice. -/
import Derived.Test.YthlleljdahkgpaaRefDeskE
import Derived.Test.YthlleljdahkgpaaPutsLaw
namespace Go.Proofs.Ythlleljdahkgpaa
open Go Go.Vm
attribute [local irreducible] Brn Ob Grow CallsM inR LoopVC Mem.row Mem.cells Mem.setCells Mem.upd Own AppVC SrcVC StrVC NextVC New SrcOk subA NewSl Mem.textAt Mem.mapAt Mem.iterAt entryOf kfind Wr NewEls Elems
set_option maxRecDepth 10000
structure Dk (A M : Mem) (p b : Nat) (wait next : Int) (m : KL) : Prop where
  le : A.le M
  desk : DeskAt M p b wait next m
  fp : A p = none
  fb : A b = none
variable {A M : Mem} {p b : Nat} {wait next : Int} {m : KL}
theorem Dk.fresh (h : Dk A M p b wait next m) : ∀ y, two' p b y → A y = none := fun y hy => by rcases hy with rfl | rfl; exact h.fp; exact h.fb
theorem Dk.to (h : Dk A M p b wait next m) {M' : Mem} (hle : M.le M') : Dk A M' p b wait next m := ⟨Mem.le_trans h.le hle, h.desk.le hle, h.fp, h.fb⟩
theorem Dk.turn (h : Dk A M p b wait next m) {M' : Mem} {next' : Int} {m' : KL} (hd : DeskAt M' p b wait next' m') (hk : Mem.keep (two' p b) M M') : Dk A M' p b wait next' m' := ⟨hk.le h.le h.fresh, hd, h.fp, h.fb⟩
theorem Dk.turn1 (h : Dk A M p b wait next m) {M' : Mem} {m' : KL} (hd : DeskAt M' p b wait next m') (hk : Mem.keep (one b) M M') : Dk A M' p b wait next m' := h.turn hd (Mem.keep_mono hk fun _ hy => .inr hy)
theorem Dk.base (h : Dk A M p b wait next m) : A.le (M.minus (two' p b)) := Mem.le_minus h.le h.fresh
theorem Dk.some (h : Dk A M p b wait next m) {y : Nat} (hy : two' p b y) : M y ≠ none := by
  rcases hy with rfl | rfl
  · have := h.desk.self; unfold Mem.has at this; rw [this]; simp
  · obtain ⟨_, _, hh, _⟩ := h.desk.map; rw [hh]; simp
theorem Dk.aside (h : Dk A M p b wait next m) {f : Nat} {args : List Value} {R : Value → Mem → Prop} (hc : CallsM Try.prog f args (M.minus (two' p b)) R) : CallsM Try.prog f args M fun v M' => ∃ A', R v A' ∧ Dk A' M' p b wait next m :=
  (hc.frame (Mem.minus_le _ _)).mono fun v M' ⟨A', hR, hle, hk⟩ => by
    have hkk : ∀ y o, two' p b y → M y = Option.some o → M' y = Option.some o ∧ A' y = none := fun y o hy ho => hk y o (Mem.minus_in hy) ho
    have hn : ∀ y, two' p b y → A' y = none := fun y hy => by
      cases e : M y with
      | none => exact absurd e (h.some hy)
      | some o => exact (hkk y o hy e).2
    exact ⟨A', hR, hle, h.desk.mono fun y o hy ho => (hkk y o hy ho).1, hn _ (.inl rfl), hn _ (.inr rfl)⟩
theorem RelD.len {m L : KL} (h : RelD m L) : L.length ≤ m.length := keys_len h.sort.nodup fun x k hk => ⟨k, by rw [h.same]; exact hk⟩
theorem sameOffers_ok {S S' : Mem} {a b : Option Addr} {n m c d : Nat} {l : List Offer} (ha : Elems M 7 a n (DocOffR S) l) (hS : S.le M) (hb : Elems M 7 b m (OfferR S' M) l) (hn : n ≤ 100000000) : CallsM Try.prog F.ref20_SameOffers [.slice a n c, .slice b m d] M fun v M' => v = .bool true ∧ M = M' := by
  refine fo_ref20_SameOffers (by simp) ?_
  have h1 := ha.len
  have h2 := hb.len
  have hnm : m = n := by omega
  subst hnm
  (conv => whnf); refine brn_f (by simp) ?_
  (conv => whnf)
  refine loopQ (σ := Nat) [5] (fun k => [(5, .int .i64 k)]) (fun k => k ≤ m) (fun k => m - k) 0 (by omega) ⟨(by repeat' first | exact True.intro | refine ⟨rfl, ?_⟩), (by repeat' first | exact True.intro | refine ⟨rfl, ?_⟩), Mem.le_refl _, rfl⟩ ?_
  intro k hk
  (conv => whnf); refine brn (fun g => ?_) (fun g => ?_)
  · have g' : k < m := by have := of_decide_eq_true g; omega
    obtain ⟨hlt, b1, o1, cs1, ha1, hrows1, -, -, p1, n1, k1, rfl, hd1, hn1⟩ := ha.at (by decide) g'
    obtain ⟨hlt2, b2, o2, cs2, ha2, hrows2, -, -, p2, n2, k2, rfl, hd2, hn2, -⟩ := hb.at (by decide) g'
    generalize l[k] = x at *
    (conv => whnf); refine ob (by first | omega | (dsimp only; omega)) ?_
    (conv => whnf); refine atp ha1 ?_
    (conv => whnf); refine on (hrows1 0 1 (by decide)) ?_
    (conv => whnf); refine ob (by first | omega | (dsimp only; omega)) ?_
    (conv => whnf); refine atp ha2 ?_
    (conv => whnf); refine on (hrows2 0 1 (by decide)) ?_
    (conv => whnf); refine brn_f (by simp) ?_
    (conv => whnf); refine ob (by first | omega | (dsimp only; omega)) ?_
    (conv => whnf); refine atp ha1 ?_
    (conv => whnf); refine on (hrows1 1 1 (by decide)) ?_
    (conv => whnf); refine ob (by first | omega | (dsimp only; omega)) ?_
    (conv => whnf); refine atp ha2 ?_
    (conv => whnf); refine on (hrows2 1 1 (by decide)) ?_
    (conv => whnf); refine brn_f (by simp) ?_
    (conv => whnf); refine ob (by first | omega | (dsimp only; omega)) ?_
    (conv => whnf); refine atp ha1 ?_
    (conv => whnf); refine on (hrows1 2 5 (by decide)) ?_
    (conv => whnf); refine ob (by first | omega | (dsimp only; omega)) ?_
    (conv => whnf); refine atp ha2 ?_
    (conv => whnf); refine on (hrows2 2 5 (by decide)) ?_
    repeat' ((conv => whnf); first | refine ⟨?_, True.intro⟩ | refine brn_t rfl ?_ | refine brn_f rfl ?_ | refine ob rfl ?_ | refine ob (by decide) ?_ | refine grow_same (Mem.le_refl _) ?_ | refine ob (Mem.le_refl _) ?_ | refine ⟨_, Mem.le_refl _, ?_⟩ | fail)
    refine (sameR_ok _ _ _ _ _ _ _ _ _ _ _ _ _ _ _ _ _ (hd1.le hS) hd2.src).mono ?_
    rintro v _ ⟨rfl, rfl⟩
    repeat' ((conv => whnf); first | refine ob rfl ?_ | refine grow_same (Mem.le_refl _) ?_ | refine ob (Mem.le_refl _) ?_ | refine ⟨?_, True.intro⟩ | fail)
    (conv => whnf); refine brn_f (by simp) ?_
    repeat' ((conv => whnf); first | refine ⟨?_, True.intro⟩ | refine brn_t rfl ?_ | refine brn_f rfl ?_ | refine ob rfl ?_ | refine ob (by decide) ?_ | refine grow_same (Mem.le_refl _) ?_ | refine ob (Mem.le_refl _) ?_ | refine ⟨_, Mem.le_refl _, ?_⟩ | fail)
    refine ob (inR_i64 (by first | omega | (dsimp only; omega))) ?_
    (conv => whnf)
    exact ⟨k + 1, by omega, by omega, ⟨(by repeat' first | exact True.intro | refine ⟨rfl, ?_⟩), (by repeat' first | exact True.intro | refine ⟨rfl, ?_⟩), Mem.le_refl _, rfl⟩⟩
  · repeat' ((conv => whnf); first | refine ⟨?_, True.intro⟩ | refine brn_t rfl ?_ | refine brn_f rfl ?_ | refine ob rfl ?_ | refine ob (by decide) ?_ | refine grow_same (Mem.le_refl _) ?_ | refine ob (Mem.le_refl _) ?_ | refine ⟨_, Mem.le_refl _, ?_⟩ | fail)
    exact ⟨rfl, rfl⟩
theorem has_same {b : Nat} {E : TypeId} {cs : List Value} (h : M.has b E cs) : M.setCells b E cs = M := by
  funext y
  unfold Mem.setCells
  by_cases e : y = b
  · subst e; rw [Mem.upd_same]; exact h.symm
  · rw [Mem.upd_ne _ _ e]
theorem flip_le {b : Nat} {E : TypeId} {cs : List Value} {j : Nat} {v w : Value} (h : M.has b E cs) (hv : cs[j]? = some v) : M.le ((M.setCells b E (splice cs (0 + j * 1) [w])).setCells b E (splice (splice cs (0 + j * 1) [w]) (0 + j * 1) [v])) := by
  have hj : j < cs.length := (List.getElem?_eq_some_iff.1 hv).1
  have e : splice (splice cs (0 + j * 1) [w]) (0 + j * 1) [v] = cs := by
    rw [Nat.zero_add, Nat.mul_one, splice_one _ _ _ hj, splice_one _ _ _ (by simpa using hj), List.set_set]
    apply List.ext_getElem?
    intro i
    rw [List.getElem?_set]
    split
    · rename_i h1; subst h1
      exact hv.symm
    · rfl
  rw [Mem.setCells_setCells, e, has_same h]
  exact Mem.le_refl _
end Go.Proofs.Ythlleljdahkgpaa
