/- Tables of ways: all tell one another. -/
import Derived.Test.YtankgacaeejlhaaRoutesK
import Derived.Test.YtankgacaeejlhaaRoutesL
import Derived.Test.YtankgacaeejlhaaVmP
namespace Go.Proofs.Ytankgacaeejlhaa
open Go Go.Vm
attribute [local irreducible] Brn Ob CallsM inR LoopVC Mem.row Mem.cells Mem.setCells Mem.upd Own AppVC SrcVC StrVC NextVC New SrcOk subA NewSl Mem.textAt Mem.mapAt Mem.iterAt entryOf kfind Wr NewEls Elems
set_option maxRecDepth 10000
variable {M : Mem}
/-- what node i says to node k -/
def saidL (links : Int) (n : Nat) (S : Nat → List (Int × Hd)) (i k : Nat) : List Int := (List.range 64).map fun (d : Nat) => vecOf i (nbOf links n i) [] (S i) k d
def VecOk (links : Int) (n : Nat) (S : Nat → List (Int × Hd)) (M : Mem) (i k : Nat) (v : Value) : Prop :=
  lnkOf links i k = true → ∃ b, v = .slice (some ⟨b, 0, none⟩) 64 64 ∧ SrcOk M 1 (some ⟨b, 0, none⟩) 64 ((saidL links n S i k).map intV)
def RowOk (links : Int) (n : Nat) (S : Nat → List (Int × Hd)) (M : Mem) (i k : Nat) (vs : List Value) : Prop :=
  vs.length = k ∧ ∀ j v, vs[j]? = some v → VecOk links n S M i j v
def RowAt (links : Int) (n : Nat) (S : Nat → List (Int × Hd)) (M : Mem) (rs : List Value) (j : Nat) : Prop :=
  ∃ a c vs, rs[j]? = some (.slice a n c) ∧ SrcOk M 1 a n vs ∧ RowOk links n S M j n vs
variable {links : Int} {n : Nat} {S : Nat → List (Int × Hd)}
theorem VecOk.le {M M' : Mem} {i k : Nat} {v : Value} (h : VecOk links n S M i k v) (hle : M.le M') : VecOk links n S M' i k v := fun hl => by
  obtain ⟨b, h1, h2⟩ := h hl
  exact ⟨b, h1, h2.le hle⟩
theorem RowOk.le {M M' : Mem} {i k : Nat} {vs : List Value} (h : RowOk links n S M i k vs) (hle : M.le M') : RowOk links n S M' i k vs := ⟨h.1, fun j v hv => (h.2 j v hv).le hle⟩
theorem RowAt.le {M M' : Mem} {rs : List Value} {j : Nat} (h : RowAt links n S M rs j) (hle : M.le M') : RowAt links n S M' rs j := by
  obtain ⟨a, c, vs, h1, h2, h3⟩ := h
  exact ⟨a, c, vs, h1, h2.le hle, h3.le hle⟩
theorem RowAt.set {M : Mem} {rs : List Value} {i j : Nat} (h : RowAt links n S M rs j) (hne : j ≠ i) (v : Value) : RowAt links n S M (rs.set i v) j := by
  obtain ⟨a, c, vs, h1, h2⟩ := h
  exact ⟨a, c, vs, by rw [List.getElem?_set_ne (Ne.symm hne)]; exact h1, h2⟩
theorem VecOk.keep {M M' : Mem} {i k x : Nat} {v : Value} {m : List (Int × Hd)} (hx : MapAt intV Hd.v M x m) (hk : Mem.keep (one x) M M') (h : VecOk links n S M i k v) : VecOk links n S M' i k v := fun hl => by
  obtain ⟨b, h1, h2⟩ := h hl
  exact ⟨b, h1, mapAt_src hx h2 hk⟩
theorem RowAt.keep {M M' : Mem} {rs : List Value} {j x : Nat} {m : List (Int × Hd)} (hx : MapAt intV Hd.v M x m) (hk : Mem.keep (one x) M M') (h : RowAt links n S M rs j) : RowAt links n S M' rs j := by
  obtain ⟨a, c, vs, h1, h2, h3, h4⟩ := h
  exact ⟨a, c, vs, h1, mapAt_src hx h2 hk, h3, fun j v hv => (h4 j v hv).keep hx hk⟩
@[reducible] def mapsOf (ts : List Tab) : Nat → Prop := fun x => ∃ t, t ∈ ts ∧ x = t.b2
/-- what everybody says lies in a new row of rows -/
structure Saying (links : Int) (n : Nat) (S : Nat → List (Int × Hd)) (M M0 M1 : Mem) (bs i : Nat) (rs : List Value) : Prop where
  le : M.le M0
  new : NewSl M0 T.s_s_int 1 (some ⟨bs, 0, none⟩) n n (rs.map fun x => x) M1
  rows : ∀ j, j < i → RowAt links n S M0 rs j
/-- a table says something, in new memory -/
theorem says_ok (hg : GoodS links n S) (hn : n ≤ 8) {i : Nat} (hi : i < n) (k : Nat) (hk : k < n) {t : Tab} (hnb : t.nb = nbOf links n i) (ht : TabAt M t.p t.b1 t.b2 t.a t.nb.length t.c i 64 t.nb [] (S i)) :
    CallsM Try.prog F.routes_Table_Vector [ptr t.p, .int .i64 k] M fun v M' => ∃ a m c, v = .slice a m c ∧ M.le M' ∧ ∀ X : Nat → Prop, (∀ x, X x → M x ≠ none) → VecOk links n S (M'.minus X) i k v := by
  refine (Vector_ok ht (hg.good i hi) (by have := nbOf_len links n i; rw [hnb]; omega) k).mono ?_
  rintro v M' (⟨hno, rfl, rfl⟩ | ⟨_, b, L, rfl, hN, rfl⟩)
  · refine ⟨_, _, _, rfl, Mem.le_refl _, fun X _ hl => ?_⟩
    rw [hnb] at hno
    exact absurd (mem_nbOf.2 ⟨k, rfl, hk, hl⟩) hno
  · refine ⟨_, _, _, rfl, hN.le, fun X hX hl => ⟨b, rfl, ?_⟩⟩
    rw [hnb] at hN
    refine hN.src.minus fun q hq hx => ?_
    exact hX _ hx (hN.block hq).1
theorem saidL_right (hg : GoodS links n S) {i : Nat} (hi : i < n) (k : Nat) : rightC (saidL links n S i k) = true := by
  simp only [rightC, saidL, List.length_map, List.length_range, decide_true, Bool.true_and, List.all_eq_true, List.mem_map]
  rintro x ⟨d, _, rfl⟩
  have := vecOf_range (me := i) (to := k) (nb := nbOf links n i) (hg.good i hi) (hg.nodup i hi) d
  simp [isCost]; omega
/-- everybody hears: D what was heard already -/
structure Hearing (links : Int) (n : Nat) (S : Nat → List (Int × Hd)) (ts : List Tab) (a : Option Addr) (M : Mem) (bs : Nat) (rs : List Value) (D : Nat → Nat → Prop) (Mc : Mem) (Sc : Nat → List (Int × Hd)) : Prop where
  all : All Mc ts Sc
  good : GoodS links n Sc
  said : SrcOk Mc 1 (some ⟨bs, 0, none⟩) n (rs.map fun x => x)
  rows : ∀ j, j < n → RowAt links n S Mc rs j
  ptrs : SrcOk Mc 1 a n (ts.map fun t => ptr t.p)
  keep : Mem.keep (mapsOf ts) M Mc
  done : ∀ i k, i < n → k < n → lnkOf links i k = true → D i k → ∃ h, aget (Sc k) (i : Int) = some h ∧ ∀ d : Nat, d < 64 → h.c d = vecOf i (nbOf links n i) [] (S i) k d
theorem Hearing.step {ts : List Tab} {a : Option Addr} {bs : Nat} {rs : List Value} {D : Nat → Nat → Prop} {Mc M' : Mem} {Sc : Nat → List (Int × Hd)} (h : Hearing links n S ts a M bs rs D Mc Sc) (hg : GoodS links n S)
    {i k : Nat} (hi : i < n) (hk : k < n) (hl : lnkOf links i k = true) {t : Tab} (ht : ts[k]? = some t) (hkp : Mem.keep (one t.b2) Mc M') {x : Hd} (hx : ∀ d, d < 64 → (saidL links n S i k)[d]? = some (x.c d))
    (hT : TabAt M' t.p t.b1 t.b2 t.a t.nb.length t.c k 64 t.nb [] (aput (Sc k) i x)) {D' : Nat → Nat → Prop} (hD : ∀ y z, D' y z → D y z ∨ (y = i ∧ z = k)) :
    Hearing links n S ts a M bs rs D' M' (upd Sc k (aput (Sc k) i x)) := by
  have hm := (h.all.lies k t ht).hrd
  refine ⟨h.all.hear ht hkp hT, ⟨fun j hj => ?_, fun j hj y z hy => ?_, fun j hj => ?_⟩, mapAt_src hm h.said hkp, fun j hj => (h.rows j hj).keep hm hkp, mapAt_src hm h.ptrs hkp,
    Mem.keep_trans h.keep (Mem.keep_mono hkp fun b e => ⟨t, List.mem_of_getElem? ht, e⟩), fun y z hy hz hl' hd => ?_⟩
  · unfold upd
    split
    · rename_i e; subst e
      exact (h.good.good j hj).put (saidL_right hg hi j) hx
    · exact h.good.good j hj
  · unfold upd at hy
    split at hy
    · rename_i e; subst e
      rw [aget_aput] at hy
      split at hy
      · rename_i e; subst e
        exact mem_nbOf.2 ⟨i, rfl, hi, by rw [lnkOf_symm]; exact hl⟩
      · exact h.good.keys j hj y z hy
    · exact h.good.keys j hj y z hy
  · unfold upd
    split
    · rename_i e; subst e
      exact aput_nodup (h.good.nodup j hj) _ _
    · exact h.good.nodup j hj
  · by_cases e : y = i ∧ z = k
    · obtain ⟨rfl, rfl⟩ := e
      refine ⟨x, by simp [upd, aget_aput], fun d hd => ?_⟩
      have := hx d hd
      rw [saidL, List.getElem?_map, List.getElem?_range hd] at this
      exact (Option.some.inj this).symm
    · obtain ⟨w, h1, h2⟩ := h.done y z hy hz hl' ((hD y z hd).resolve_right e)
      refine ⟨w, ?_, h2⟩
      unfold upd
      split
      · rename_i e'; subst e'
        rw [aget_aput, if_neg (fun e2 => e ⟨by omega, rfl⟩)]; exact h1
      · exact h1
theorem tell_ok (N : Int) (hn : 1 ≤ n ∧ n ≤ 8) {a : Option Addr} {c : Nat} {ts : List Tab} (hl : ts.length = n) (hs : SrcOk M 1 a n (ts.map fun t => ptr t.p)) (hA : All M ts S) (hnb : nbOk links n ts) (hg : GoodS links n S) :
    CallsM Try.prog F.law18_tell [.agg #[.int .i64 N, .int .u64 links], .slice a n c] M fun v M' => v = .tuple #[] ∧ ∃ S', All M' ts S' ∧ GoodS links n S' ∧ Round links n S S' ∧ SrcOk M' 1 a n (ts.map fun t => ptr t.p) ∧ Mem.keep (mapsOf ts) M M' := by
  refine fo_law18_tell (by simp) ?_
  (conv => whnf); refine ob (by omega) ?_
  (conv => whnf); refine new (fun bs hbs => ?_)
  replace hbs : M bs = none := hbs
  have hN : NewSl M T.s_s_int 1 (some ⟨bs, 0, none⟩) n n ((List.replicate n (Value.slice none 0 0)).map fun x => x) _ := NewSl.lit hbs T.s_s_int 1 n ((List.replicate n (Value.slice none 0 0)).map fun x => x) (by simp)
  obtain ⟨M0, hM0⟩ : ∃ M0, M0 = M.setCells bs T.s_s_int ((List.replicate n (Value.slice none 0 0)).map fun x => x) := ⟨_, rfl⟩
  rw [← hM0] at hN
  have hM0' : M.setCells bs 53 (List.replicate (Int.toNat (n : Int)) [Value.slice none 0 0]).flatten = M0 := by
    rw [hM0]; congr 1; simp
  (conv => whnf)
  rw [hM0']
  refine loopF (σ := Nat × Mem × Mem × List Value) [5] (fun x => [(5, .int .i64 x.1)]) (fun _ => [.live T.portagelaw18_Net [.v (.int .i64 N), .v (.int .u64 links)]]) (fun x => x.2.2.1)
    (fun | ⟨i, M0, M1, rs⟩ => i ≤ n ∧ Saying links n S M M0 M1 bs i rs ∧ ∀ j, i ≤ j → j < n → rs[j]? = some (.slice none 0 0)) (fun x => n - x.1) ⟨0, M, M0, List.replicate n (.slice none 0 0)⟩
    ⟨by omega, ⟨Mem.le_refl _, hN, fun j hj => by omega⟩, fun j _ hj => by simp [List.getElem?_replicate, hj]⟩ ⟨(by repeat' first | exact True.intro | refine ⟨rfl, ?_⟩), (by repeat' first | exact True.intro | refine ⟨rfl, ?_⟩), Mem.le_refl _, rfl⟩ ?_
  rintro ⟨i, M1, M2, rs⟩ ⟨hi, hS, hz⟩
  (conv => whnf); refine brn (fun g => ?_) (fun g => ?_)
  · have hi' : i < n := by have := of_decide_eq_true g; dsimp only at this; omega
    (conv => whnf)
    refine loopF (σ := Nat × Mem × Mem × List Value × Option Addr × Nat × List Value) [6] (fun x => [(6, .int .i64 x.1)]) (fun _ => [.live T.portagelaw18_Net [.v (.int .i64 N), .v (.int .u64 links)]]) (fun x => x.2.2.1)
      (fun | ⟨k, M3, M4, rs, a', c', vs⟩ => k ≤ n ∧ Saying links n S M M3 M4 bs i rs ∧ (∀ j, i + 1 ≤ j → j < n → rs[j]? = some (.slice none 0 0)) ∧ rs[i]? = some (.slice a' k c') ∧
        NewSl M3 T.s_int 1 a' k c' vs M4 ∧ RowOk links n S M3 i k vs) (fun x => n - x.1) ⟨0, M1, M2, rs, none, 0, []⟩
      ⟨by omega, hS, fun j hj hj' => hz j (by omega) hj', hz i (Nat.le_refl _) hi', ((NewSl.none M2 T.s_int 1).mono hS.new.le), rfl, fun j v h => by simp at h⟩ ⟨(by repeat' first | exact True.intro | refine ⟨rfl, ?_⟩), (by repeat' first | exact True.intro | refine ⟨rfl, ?_⟩), Mem.le_refl _, rfl⟩ ?_
    rintro ⟨k, M3, M4, rs4, a', c', vs⟩ ⟨hk, hS4, hz4, hri, hv4, hrow⟩
    (conv => whnf); refine brn (fun g => ?_) (fun g => ?_)
    · have hk' : k < n := by have := of_decide_eq_true g; dsimp only at this; omega
      have hll : rs4.length = n := hS4.new.src.maplen
      obtain ⟨b', o', hbo, hrow'⟩ := hS4.new.src.get (j := i) (v := .slice a' k c') (by rw [List.map_id']; exact hri)
      cases hbo
      obtain ⟨t, ht⟩ : ∃ t, ts[i]? = some t := ⟨_, List.getElem?_eq_getElem (by omega)⟩
      obtain ⟨q, o, rfl, hptr⟩ := hs.get (j := i) (v := ptr t.p) (by rw [List.getElem?_map, ht]; rfl)
      have hM4 : M.le M4 := Mem.le_trans hS4.le hS4.new.le
      have htab := (hA.lies i t ht).le hM4
      have hptr4 := Mem.row_le hM4 hptr
      (conv => whnf); refine ⟨M4, Mem.le_refl _, ?_⟩
      (conv => whnf); refine ob (by first | omega | (dsimp only; omega)) ?_
      (conv => whnf); refine on hrow' ?_
      (conv => whnf); refine ob (by first | omega | (dsimp only; omega)) ?_
      (conv => whnf); refine on hptr4 ?_
      (conv => whnf); refine ⟨?_, True.intro⟩
      (conv => whnf); refine (says_ok hg hn.2 hi' k hk' (hnb i t ht) htab).mono ?_
      rintro v M5 ⟨av, nv, cv, rfl, hle5, hvok⟩
      have hX : ∀ x, (blk a' x ∨ x = bs) → M4 x ≠ none := by
        rintro x (⟨q, hq, rfl⟩ | rfl) e
        · obtain ⟨_, cs, hh⟩ := hv4.block hq
          unfold Mem.has at hh; rw [e] at hh; cases hh
        · obtain ⟨_, cs, hh⟩ := hS4.new.block rfl
          unfold Mem.has at hh; rw [e] at hh; cases hh
      have hX0 : ∀ x, (blk a' x ∨ x = bs) → M3 x = none := by
        rintro x (⟨q, hq, rfl⟩ | rfl)
        · exact (hv4.block hq).1
        · exact (hS4.new.block rfl).1
      have hvok := hvok _ hX
      have hM35 : M3.le M5 := Mem.le_trans hv4.le hle5
      have hM3' := Mem.le_minus hM35 hX0
      have hsb := hS4.new.rebase2 hle5 (X := fun x => blk a' x ∨ x = bs) fun x ⟨q, hq, e⟩ => by cases hq; exact .inr e.symm
      have hvb := hv4.rebase2 hle5 (X := fun x => blk a' x ∨ x = bs) fun x hx => .inl hx
      have hx' : ∀ x, (blk a' x ∨ x = bs) → (M5.minus fun x => blk a' x ∨ x = bs) x = none := fun x hx => Mem.minus_in hx
      obtain ⟨M3b, hM3b⟩ : ∃ A, A = M5.minus fun x => blk a' x ∨ x = bs := ⟨_, rfl⟩
      rw [← hM3b] at hvok hM3' hsb hvb hx'
      repeat' ((conv => whnf); first | refine ob rfl ?_ | refine ob hle5 ?_ | refine ⟨?_, True.intro⟩ | fail)
      refine appK M3b _ hvb (by omega) (by simp [maxLen]; omega) (by simp [Value.oneCell']) fun a6 c6 M6 hv6 hk6 => ?_
      have hbsne : ∀ q, a' = some q → q.block ≠ bs := fun q hq => hvb.ne hsb (by decide) hq rfl
      have hsb6 := hsb.keep hk6 (fun x hx => hx' x (.inl hx)) fun p hp => by cases hp; rintro ⟨q, hq, e⟩; exact hbsne q hq e
      obtain ⟨b', cs, hbb, _, hcells, hlen, hst⟩ := hsb6.store1 (j := i) (by omega)
      cases hbb
      (conv => whnf); refine ob (by first | omega | (dsimp only; omega)) ?_
      repeat' ((conv => whnf); first | refine ob rfl ?_ | refine ob hle5 ?_ | refine ⟨?_, True.intro⟩ | fail)
      refine on hcells ?_
      (conv => whnf); refine ob hlen ?_
      obtain ⟨hsb7, hk7⟩ := hst (.slice a6 (k + 1) c6)
      have hbsne6 : ∀ q, a6 = some q → q.block ≠ bs := fun q hq => hv6.ne hsb6 (by decide) hq rfl
      have hv7 := hv6.keep hk7 (fun x ⟨q, hq, e⟩ => by cases hq; exact hx' x (.inr e.symm)) fun p hp ⟨q, hq, e⟩ => by cases hq; exact hbsne6 p hp e.symm
      (conv => whnf); refine ob (inR_i64 (by first | omega | (dsimp only; omega))) ?_
      (conv => whnf)
      refine ⟨⟨k + 1, M3b, _, rs4.set i (.slice a6 (k + 1) c6), a6, c6, _⟩, ⟨by omega, ⟨Mem.le_trans hS4.le hM3', hsb7, fun j hj => ((hS4.rows j hj).le hM3').set (by omega) _⟩, fun j hj hj' => ?_, ?_, hv7, ?_⟩, by dsimp only; omega, ⟨(by repeat' first | exact True.intro | refine ⟨rfl, ?_⟩), (by repeat' first | exact True.intro | refine ⟨rfl, ?_⟩), Mem.le_refl _, rfl⟩⟩
      · rw [List.getElem?_set_ne (by omega)]; exact hz4 j hj hj'
      · rw [List.getElem?_set_self (by omega)]
      · have hr := hrow.le hM3'
        have hrl := hr.1
        refine ⟨by simp [hr.1], fun j v hv => ?_⟩
        by_cases e : j < k
        · rw [List.getElem?_append_left (by rw [hr.1]; exact e)] at hv
          exact hr.2 j v hv
        · have : j = k := by have := (List.getElem?_eq_some_iff.1 hv).1; simp [hr.1] at this; omega
          subst this
          rw [List.getElem?_append_right (by omega), hr.1] at hv
          simp at hv; subst hv
          exact hvok
    · have hk' : k = n := by have := of_decide_eq_false g; dsimp only at this; omega
      subst hk'
      have hne : ∀ q, a' = some q → q.block ≠ bs := fun q hq => hv4.ne hS4.new (by decide) hq rfl
      have hX0 : ∀ x, x = bs → M3 x = none := fun x e => by subst e; exact (hS4.new.block rfl).1
      have hle' := Mem.le_minus (S := fun x => x = bs) hv4.le hX0
      (conv => whnf); refine ob (inR_i64 (by first | omega | (dsimp only; omega))) ?_
      (conv => whnf)
      refine ⟨⟨i + 1, M4.minus fun x => x = bs, M4, rs4⟩, ⟨by omega, ⟨Mem.le_trans hS4.le hle', hS4.new.rebase2 (Mem.le_refl _) (fun x ⟨q, hq, e⟩ => by cases hq; exact e.symm), fun j hj => ?_⟩, fun j hj hj' => hz4 j hj hj'⟩, by dsimp only; omega, ⟨(by repeat' first | exact True.intro | refine ⟨rfl, ?_⟩), (by repeat' first | exact True.intro | refine ⟨rfl, ?_⟩), Mem.le_refl _, rfl⟩⟩
      by_cases e : j < i
      · exact (hS4.rows j e).le hle'
      · have : j = i := by omega
        subst this
        exact ⟨a', c', vs, hri, hv4.src.minus (fun q hq hx => hne q hq hx), hrow.le hle'⟩
  · have hi' : i = n := by have := of_decide_eq_false g; dsimp only at this; omega
    subst hi'
    (conv => whnf)
    refine loopF (σ := Nat × Mem × (Nat → List (Int × Hd))) [7] (fun x => [(7, .int .i64 x.1)]) (fun _ => [.live T.portagelaw18_Net [.v (.int .i64 N), .v (.int .u64 links)]]) (fun x => x.2.1)
      (fun | ⟨i', Mc, Sc⟩ => i' ≤ i ∧ Hearing links i S ts a M bs rs (fun x y => x < i') Mc Sc) (fun x => i - x.1) ⟨0, M2, S⟩
      ⟨by omega, hA.le (Mem.le_trans hS.le hS.new.le), hg, hS.new.src, fun j hj => (hS.rows j hj).le hS.new.le, hs.le (Mem.le_trans hS.le hS.new.le), Mem.keep_of_le (Mem.le_trans hS.le hS.new.le), fun y z _ _ _ hd => by omega⟩ ⟨(by repeat' first | exact True.intro | refine ⟨rfl, ?_⟩), (by repeat' first | exact True.intro | refine ⟨rfl, ?_⟩), Mem.le_refl _, rfl⟩ ?_
    rintro ⟨i', Mc, Sc⟩ ⟨hi1, hH⟩
    (conv => whnf); refine brn (fun g => ?_) (fun g => ?_)
    · have hi2 : i' < i := by have := of_decide_eq_true g; dsimp only at this; omega
      (conv => whnf)
      refine loopF (σ := Nat × Mem × (Nat → List (Int × Hd))) [8] (fun x => [(8, .int .i64 x.1)]) (fun _ => [.live T.portagelaw18_Net [.v (.int .i64 N), .v (.int .u64 links)]]) (fun x => x.2.1)
        (fun | ⟨k, Mc, Sc⟩ => k ≤ i ∧ Hearing links i S ts a M bs rs (fun x y => x < i' ∨ (x = i' ∧ y < k)) Mc Sc) (fun x => i - x.1) ⟨0, Mc, Sc⟩
        ⟨by omega, hH.all, hH.good, hH.said, hH.rows, hH.ptrs, hH.keep, fun y z h1 h2 h3 hd => hH.done y z h1 h2 h3 (by omega)⟩ ⟨(by repeat' first | exact True.intro | refine ⟨rfl, ?_⟩), (by repeat' first | exact True.intro | refine ⟨rfl, ?_⟩), Mem.le_refl _, rfl⟩ ?_
      rintro ⟨k, Md, Sd⟩ ⟨hk1, hHk⟩
      (conv => whnf); refine brn (fun g => ?_) (fun g => ?_)
      · have hk2 : k < i := by have := of_decide_eq_true g; dsimp only at this; omega
        have hskip : ¬ (i' ≠ k ∧ lnkOf links i' k = true) → Hearing links i S ts a M bs rs (fun x y => x < i' ∨ (x = i' ∧ y < k + 1)) Md Sd := fun hno =>
          ⟨hHk.all, hHk.good, hHk.said, hHk.rows, hHk.ptrs, hHk.keep, fun y z h1 h2 h3 hd => hHk.done y z h1 h2 h3 (by
            by_cases e : y = i' ∧ z = k
            · obtain ⟨rfl, rfl⟩ := e
              exact absurd ⟨fun e => (by rw [e, lnkOf_self] at h3; cases h3), h3⟩ hno
            · omega)⟩
        (conv => whnf); refine brn (fun g1 => ?_) (fun g1 => ?_)
        · have hne : i' ≠ k := by have : ¬ (i' : Int) = k := by simpa using g1
                                  omega
          (conv => whnf); refine (linked_ok N links i' k (by first | omega | (dsimp only; omega)) (by first | omega | (dsimp only; omega))).mono ?_
          rintro v _ ⟨rfl, rfl⟩
          (conv => whnf); refine brn (fun g2 => ?_) (fun g2 => ?_)
          · have hl : lnkOf links i' k = true := g2
            obtain ⟨t, ht⟩ : ∃ t, ts[k]? = some t := ⟨_, List.getElem?_eq_getElem (by omega)⟩
            obtain ⟨q, o, rfl, hptr⟩ := hHk.ptrs.get (j := k) (v := ptr t.p) (by rw [List.getElem?_map, ht]; rfl)
            obtain ⟨ar, cr, vr, hr1, hr2, hr3, hr4⟩ := hHk.rows i' hi2
            obtain ⟨b1, o1, hb1, hrow1⟩ := hHk.said.get (j := i') (v := .slice ar i cr) (by rw [List.map_id']; exact hr1)
            cases hb1
            obtain ⟨vv, hvv⟩ : ∃ v, vr[k]? = some v := ⟨_, List.getElem?_eq_getElem (by omega)⟩
            obtain ⟨b2, o2, rfl, hrow2⟩ := hr2.get (j := k) hvv
            obtain ⟨b3, rfl, hvec⟩ := hr4 k vv hvv hl
            have htab := hHk.all.lies k t ht
            have hh := Hear_ok htab (by have := nbOf_len links i k; rw [hnb k t ht]; omega) i' (some ⟨b3, 0, none⟩) 64 64 _ hvec (by omega)
            have he : hearE t.nb i' (saidL links i S i' k) = 0 := by
              have hm : (i' : Int) ∈ nbOf links i k := mem_nbOf.2 ⟨i', rfl, hi2, by rw [lnkOf_symm]; exact hl⟩
              rw [hearE, hnb k t ht, if_pos hm, if_pos (saidL_right hg hi2 k)]
            (conv => whnf); refine ob (by first | omega | (dsimp only; omega)) ?_
            (conv => whnf); refine on hptr ?_
            (conv => whnf); refine ob (by first | omega | (dsimp only; omega)) ?_
            (conv => whnf); refine on hrow1 ?_
            (conv => whnf); refine ob (by first | omega | (dsimp only; omega)) ?_
            (conv => whnf); refine on hrow2 ?_
            repeat' ((conv => whnf); first | refine ob rfl ?_ | refine ob (Mem.le_refl _) ?_ | refine ⟨?_, True.intro⟩ | fail)
            refine hh.mono ?_
            rintro v M' ⟨rfl, ⟨hne, _⟩ | ⟨_, hin, hrt, hkp, x, hx, hleft, hT⟩⟩
            · exact absurd he hne
            have hH' := hHk.step hg hi2 hk2 hl ht hkp hx hT (D' := fun x y => x < i' ∨ (x = i' ∧ y < k + 1)) fun y z hd => by omega
            (conv => whnf); refine ob (inR_i64 (by first | omega | (dsimp only; omega))) ?_
            (conv => whnf)
            exact ⟨⟨k + 1, M', _⟩, ⟨by omega, hH'⟩, by dsimp only; omega, ⟨(by repeat' first | exact True.intro | refine ⟨rfl, ?_⟩), (by repeat' first | exact True.intro | refine ⟨rfl, ?_⟩), Mem.le_refl _, rfl⟩⟩
          · (conv => whnf); refine ob (inR_i64 (by first | omega | (dsimp only; omega))) ?_
            (conv => whnf)
            exact ⟨⟨k + 1, Md, Sd⟩, ⟨by omega, hskip fun h => by rw [h.2] at g2; cases g2⟩, by dsimp only; omega, ⟨(by repeat' first | exact True.intro | refine ⟨rfl, ?_⟩), (by repeat' first | exact True.intro | refine ⟨rfl, ?_⟩), Mem.le_refl _, rfl⟩⟩
        · have hne : i' = k := by have : (i' : Int) = k := by simpa using g1
                                  omega
          (conv => whnf); refine ob (inR_i64 (by first | omega | (dsimp only; omega))) ?_
          (conv => whnf)
          exact ⟨⟨k + 1, Md, Sd⟩, ⟨by omega, hskip fun h => h.1 hne⟩, by dsimp only; omega, ⟨(by repeat' first | exact True.intro | refine ⟨rfl, ?_⟩), (by repeat' first | exact True.intro | refine ⟨rfl, ?_⟩), Mem.le_refl _, rfl⟩⟩
      · have hk2 : k = i := by have := of_decide_eq_false g; dsimp only at this; omega
        subst hk2
        (conv => whnf); refine ob (inR_i64 (by first | omega | (dsimp only; omega))) ?_
        (conv => whnf)
        exact ⟨⟨i' + 1, Md, Sd⟩, ⟨by omega, hHk.all, hHk.good, hHk.said, hHk.rows, hHk.ptrs, hHk.keep, fun y z h1 h2 h3 hd => hHk.done y z h1 h2 h3 (by omega)⟩, by dsimp only; omega, ⟨(by repeat' first | exact True.intro | refine ⟨rfl, ?_⟩), (by repeat' first | exact True.intro | refine ⟨rfl, ?_⟩), Mem.le_refl _, rfl⟩⟩
    · have hi2 : i' = i := by have := of_decide_eq_false g; dsimp only at this; omega
      subst hi2
      (conv => whnf)
      exact ⟨rfl, Sc, hH.all, hH.good, fun y z h1 h2 h3 => hH.done y z h1 h2 h3 h1, hH.ptrs, hH.keep⟩
end Go.Proofs.Ytankgacaeejlhaa
