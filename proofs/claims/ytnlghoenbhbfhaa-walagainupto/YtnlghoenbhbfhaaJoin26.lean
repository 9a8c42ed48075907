/- The log: a list of numbers turned round. -/
import Derived.Test.YtnlghoenbhbfhaaJoin25
namespace Go.Proofs.Ytnlghoenbhbfhaa
open Go Go.Vm
attribute [local irreducible] Brn Ob Grow CallsM inR LoopVC Mem.row Mem.cells Mem.setCells Mem.upd Go.Vm.Own AppVC SrcVC StrVC NextVC New SrcOk subA NewSl Mem.textAt Mem.mapAt Mem.iterAt entryOf kfind Wr NewEls Elems
set_option maxRecDepth 10000
variable {M : Mem}
theorem reverse_okL {B : Mem} {a : Option Addr} {n c : Nat} {ks : List Int} (h : NewSl B T.int 1 a n c (ks.map intV) M) (hn : n ≤ 1000000) :
    CallsM Try.prog F.slices_Reverse_int_int [.slice a n c] M fun v M' => v = .tuple #[] ∧ NewSl B T.int 1 a n c (ks.reverse.map intV) M' ∧ Mem.keep (blk a) M M' := by
  refine fo_slices_Reverse_int_int (by simp) ?_
  have hkl := h.src.maplen
  repeat' ((conv => whnf); first | refine ⟨?_, True.intro⟩ | refine brn_t rfl ?_ | refine brn_f rfl ?_ | refine ob rfl ?_ | refine ob (by decide) ?_ | refine grow_same (Mem.le_refl _) ?_ | refine ob (Mem.le_refl _) ?_ | refine ⟨_, Mem.le_refl _, ?_⟩ | fail)
  refine ob (inR_i64 (by first | omega | (dsimp only; omega))) ?_
  (conv => whnf)
  refine loopF (σ := Nat × Mem × List Int) [2, 3] (fun y => [(2, .int .i64 y.1), (3, .int .i64 (n - 1 - y.1))]) (fun _ => []) (fun y => y.2.1)
    (fun | ⟨i, Mc, cur⟩ => 2 * i ≤ n + 1 ∧ NewSl B T.int 1 a n c (cur.map intV) Mc ∧ Mem.keep (blk a) M Mc ∧ ∀ x y, x + y + 1 = n → cur[x]? = if x < i ∨ y < i then ks[y]? else ks[x]?) (fun y => n - y.1) ⟨0, M, ks⟩ ⟨by omega, h, Mem.keep_refl _ _, fun x y _ => by simp⟩ ?_ ?_
  · dsimp only
    rw [show (n : Int) - 1 - ((0 : Nat) : Int) = n - 1 by omega]; exact ⟨(by repeat' first | exact True.intro | refine ⟨rfl, ?_⟩), (by repeat' first | exact True.intro | refine ⟨rfl, ?_⟩), Mem.le_refl _, rfl⟩
  rintro ⟨i, Mc, cur⟩ ⟨hi, hN, hk, hc⟩
  have hcl := hN.src.maplen
  (conv => whnf); refine brn (fun e => ?_) (fun e => ?_)
  · have hlt : 2 * i + 1 < n := by have := of_decide_eq_true e; dsimp only at this; omega
    obtain ⟨j, hj⟩ : ∃ j, j = n - 1 - i := ⟨_, rfl⟩
    have hjI : (n : Int) - 1 - (i : Int) = (j : Int) := by omega
    obtain ⟨hi1, b1, o1, e1, hr1⟩ := hN.src.at (i := i) (by omega)
    obtain ⟨hj1, b2, o2, e2, hr2⟩ := hN.src.at (i := j) (by omega)
    rw [e1] at e2
    simp only [Option.some.injEq, Addr.mk.injEq, and_true] at e2
    obtain ⟨rfl, rfl⟩ := e2
    obtain ⟨b3, cs3, e3, hb3, hcell3, hlen3, hst3⟩ := hN.store1 (j := i) (by omega)
    rw [e1] at e3
    simp only [Option.some.injEq, Addr.mk.injEq, and_true] at e3
    obtain ⟨rfl, rfl⟩ := e3
    obtain ⟨hN4, hk4⟩ := hst3 cur[j]
    obtain ⟨M4, hM4⟩ : ∃ M4, M4 = Mc.setCells b1 T.int (splice cs3 (0 + i * 1) [intV cur[j]]) := ⟨_, rfl⟩
    rw [← hM4] at hN4 hk4
    obtain ⟨b5, cs5, e5, hb5, hcell5, hlen5, hst5⟩ := hN4.store1 (j := j) (by omega)
    rw [e1] at e5
    simp only [Option.some.injEq, Addr.mk.injEq, and_true] at e5
    obtain ⟨rfl, -⟩ := e5
    obtain ⟨hN6, hk6⟩ := hst5 cur[i]
    dsimp only
    rw [hjI]
    (conv => whnf); refine ob (by first | omega | (dsimp only; omega)) ?_
    (conv => whnf); refine atp e1 ?_
    (conv => whnf); refine on hr2 ?_
    (conv => whnf); refine ob (by first | omega | (dsimp only; omega)) ?_
    (conv => whnf); refine atp e1 ?_
    (conv => whnf); refine on hr1 ?_
    (conv => whnf); refine ob (by first | omega | (dsimp only; omega)) ?_
    (conv => whnf); refine atp e1 ?_
    repeat' ((conv => whnf); first | refine ⟨?_, True.intro⟩ | refine brn_t rfl ?_ | refine brn_f rfl ?_ | refine ob rfl ?_ | refine ob (by decide) ?_ | refine grow_same (Mem.le_refl _) ?_ | refine ob (Mem.le_refl _) ?_ | refine ⟨_, Mem.le_refl _, ?_⟩ | fail)
    refine on hcell3 ?_
    (conv => whnf); refine ob (by simpa using hlen3) ?_
    (conv => whnf)
    erw [← hM4]
    repeat' ((conv => whnf); first | refine ⟨?_, True.intro⟩ | refine brn_t rfl ?_ | refine brn_f rfl ?_ | refine ob rfl ?_ | refine ob (by decide) ?_ | refine grow_same (Mem.le_refl _) ?_ | refine ob (Mem.le_refl _) ?_ | refine ⟨_, Mem.le_refl _, ?_⟩ | fail)
    refine ob (by first | omega | (dsimp only; omega)) ?_
    (conv => whnf); refine atp e1 ?_
    repeat' ((conv => whnf); first | refine ⟨?_, True.intro⟩ | refine brn_t rfl ?_ | refine brn_f rfl ?_ | refine ob rfl ?_ | refine ob (by decide) ?_ | refine grow_same (Mem.le_refl _) ?_ | refine ob (Mem.le_refl _) ?_ | refine ⟨_, Mem.le_refl _, ?_⟩ | fail)
    refine on hcell5 ?_
    (conv => whnf); refine ob (by simpa using hlen5) ?_
    repeat' ((conv => whnf); first | refine ⟨?_, True.intro⟩ | refine brn_t rfl ?_ | refine brn_f rfl ?_ | refine ob rfl ?_ | refine ob (by decide) ?_ | refine grow_same (Mem.le_refl _) ?_ | refine ob (Mem.le_refl _) ?_ | refine ⟨_, Mem.le_refl _, ?_⟩ | fail)
    refine ob (inR_i64 (by first | omega | (dsimp only; omega))) ?_
    (conv => whnf); refine ob (inR_i64 (by first | omega | (dsimp only; omega))) ?_
    (conv => whnf)
    refine ⟨⟨i + 1, _, (cur.set i cur[j]).set j cur[i]⟩, ⟨by omega, hN6, Mem.keep_trans hk (Mem.keep_trans hk4 hk6), fun x y hxy => ?_⟩, by dsimp only; omega, ?_⟩
    · have h1 := hc x y hxy
      have h2 := hc i j (by omega)
      have h3 := hc j i (by omega)
      rw [List.getElem?_eq_getElem hi1] at h2
      rw [List.getElem?_eq_getElem hj1] at h3
      rw [if_neg (by omega)] at h2 h3
      by_cases ex : x = j
      · subst ex
        have ey : y = i := by omega
        subst ey
        rw [List.getElem?_set_self (by simpa using hj1), if_pos (.inr (by omega)), h2]
      · rw [List.getElem?_set_ne (Ne.symm ex)]
        by_cases ex2 : x = i
        · subst ex2
          have ey : y = j := by omega
          subst ey
          rw [List.getElem?_set_self hi1, if_pos (.inl (by omega)), h3]
        · rw [List.getElem?_set_ne (Ne.symm ex2), h1]
          have : (x < i ∨ y < i) ↔ (x < i + 1 ∨ y < i + 1) := by omega
          by_cases hh : x < i ∨ y < i
          · rw [if_pos hh, if_pos (this.1 hh)]
          · rw [if_neg hh, if_neg (fun h => hh (this.2 h))]
    · dsimp only
      rw [show (n : Int) - 1 - ((i + 1 : Nat) : Int) = (j : Int) - 1 by omega]; exact ⟨(by repeat' first | exact True.intro | refine ⟨rfl, ?_⟩), (by repeat' first | exact True.intro | refine ⟨rfl, ?_⟩), Mem.le_refl _, rfl⟩
  · have hge : n ≤ 2 * i + 1 := by have := of_decide_eq_false e; dsimp only at this; omega
    have hrev : cur = ks.reverse := by
      apply List.ext_getElem?
      intro x
      by_cases hx : x < n
      · have h1 := hc x (n - 1 - x) (by omega)
        rw [h1, List.getElem?_reverse (by omega), hkl]
        split
        · rfl
        · have : x = n - 1 - x := by omega
          rw [← this]
      · rw [List.getElem?_eq_none (by omega), List.getElem?_eq_none (by simp; omega)]
    repeat' ((conv => whnf); first | refine ⟨?_, True.intro⟩ | refine brn_t rfl ?_ | refine brn_f rfl ?_ | refine ob rfl ?_ | refine ob (by decide) ?_ | refine grow_same (Mem.le_refl _) ?_ | refine ob (Mem.le_refl _) ?_ | refine ⟨_, Mem.le_refl _, ?_⟩ | fail)
    exact ⟨rfl, hrev ▸ hN, hk⟩
end Go.Proofs.Ytnlghoenbhbfhaa

/- The log: open, plainly; what lies beside a log. -/
namespace Go.Proofs.Ytnlghoenbhbfhaa
open Go Go.Vm
attribute [local irreducible] Brn Ob Grow CallsM inR LoopVC Mem.row Mem.cells Mem.setCells Mem.upd Go.Vm.Own AppVC SrcVC StrVC NextVC New SrcOk subA NewSl Mem.textAt Mem.mapAt Mem.iterAt entryOf kfind Wr NewEls Elems
set_option maxRecDepth 10000
variable {M M0 : Mem} {g p b : Nat} {D : DiskR} {es : FsT}
def openLoop : Nat → DiskR → Int → Int → List (List UInt8) → DiskR × Int × Int × List (List UInt8) × Int
  | 0, D, next, last, all => (D, next, last, all, 0)
  | f + 1, D, next, last, all =>
    if 99999 < next ∨ (readR D (nameB next)).2 = 4 then (D, next, last, all, 0)
    else if (readR D (nameB next)).2 ≠ 0 then (D, next, last, [], (readR D (nameB next)).2)
    else if lenR (scanR (bl (readR D (nameB next)).1)) < (bl (readR D (nameB next)).1).length then
      (if (cutR D (nameB next) (lenR (scanR (bl (readR D (nameB next)).1)))).2 ≠ 0 then ((cutR D (nameB next) (lenR (scanR (bl (readR D (nameB next)).1)))).1, next + 1, next, [], (cutR D (nameB next) (lenR (scanR (bl (readR D (nameB next)).1)))).2)
      else ((cutR D (nameB next) (lenR (scanR (bl (readR D (nameB next)).1)))).1, next + 1, next, all ++ scanR (bl (readR D (nameB next)).1), 0))
    else openLoop f D (next + 1) next (all ++ scanR (bl (readR D (nameB next)).1))
/-- the disk, the log, the records, what is told -/
def openR (D : DiskR) (L : LogR) : DiskR × LogR × List (List UInt8) × Int :=
  let r := removeAll D (segsR D fun k => decide (k < L.first))
  if r.2 ≠ 0 then (r.1, L, [], r.2) else
  let o := openLoop (100000 - L.first).toNat r.1 L.first L.last []
  if o.2.2.2.2 ≠ 0 then (o.1, { L with last := o.2.2.1 }, [], o.2.2.2.2) else
  let q := removeAll o.1 (segsR o.1 fun k => decide (o.2.1 ≤ k)).reverse
  (q.1, { L with last := o.2.2.1 }, o.2.2.2.1, q.2)
/-! names stay names of segments -/
theorem NamesW.with (h : NamesW D) {k : Int} {s t : ByteArray} (hk : ¬ (k < 1 ∨ 99999 < k)) (l : Int) (b1 : Int) (d : Bool) : NamesW ⟨l, withR D.l ⟨nameB k, s, t⟩, b1, d⟩ := fun f hf => by
  rcases withR_mem.1 hf with rfl | ⟨hf, _⟩
  · exact ⟨k, hk, rfl⟩
  · exact h f hf
theorem NamesW.l {D' : DiskR} (h : NamesW D) (e : ∀ f ∈ D'.l, f ∈ D.l ∨ ∃ k : Int, ¬ (k < 1 ∨ 99999 < k) ∧ f.name = nameB k) : NamesW D' := fun f hf => by
  rcases e f hf with hf | hf
  · exact h f hf
  · exact hf
theorem readyE_name {k : Int} (h : readyE D (nameB k) = 0) : ¬ (k < 1 ∨ 99999 < k) := fun hk => by
  have := (readyE_zero h).2
  have e : nameB k = ByteArray.empty := by unfold nameB; rw [if_pos hk]
  rw [e] at this
  exact absurd this (by decide)
theorem NamesW.remove (h : NamesW D) (s : ByteArray) : NamesW (removeR D s).1 := by
  unfold removeR
  split
  · exact h
  · exact h.l fun f hf => .inl (withoutR_mem.1 hf).1
theorem NamesW.cut (h : NamesW D) (k : Int) (n : Int) : NamesW (cutR D (nameB k) n).1 := by
  unfold cutR
  split
  · exact h
  · rename_i h0
    split
    · exact h
    · have hk := readyE_name (thereE_zero (by simpa using h0)).1
      refine h.l fun f hf => ?_
      rcases withR_mem.1 hf with rfl | ⟨hf, _⟩
      · exact .inr ⟨k, hk, rfl⟩
      · exact .inl hf
theorem NamesW.sync (h : NamesW D) (k : Int) : NamesW (syncR D (nameB k)).1 := by
  unfold syncR
  split
  · exact h
  · rename_i h0
    have hk := readyE_name (thereE_zero (by simpa using h0)).1
    refine h.l fun f hf => ?_
    rcases withR_mem.1 hf with rfl | ⟨hf, _⟩
    · exact .inr ⟨k, hk, rfl⟩
    · exact .inl hf
theorem NamesW.append (h : NamesW D) (k : Int) (q : List UInt8) : NamesW (appendR D (nameB k) q).1 := by
  unfold appendR
  split
  · exact h
  · rename_i h0
    split
    · exact h
    · have hk := readyE_name (by simpa using h0)
      refine h.l fun f hf => ?_
      rcases withR_mem.1 hf with rfl | ⟨hf, _⟩
      · exact .inr ⟨k, hk, rfl⟩
      · exact .inl hf
theorem NamesW.removeAll : ∀ {ks : List Int} {D : DiskR}, NamesW D → NamesW (removeAll D ks).1
  | [], _, h => h
  | k :: r, D, h => by
    rw [Go.Proofs.Ytnlghoenbhbfhaa.removeAll]
    split
    · exact h.remove _
    · exact NamesW.removeAll (h.remove _)
theorem NamesW.openLoop : ∀ {f : Nat} {D : DiskR} {next last : Int} {all : List (List UInt8)}, NamesW D → NamesW (openLoop f D next last all).1
  | 0, _, _, _, _, h => h
  | f + 1, D, next, last, all, h => by
    rw [Go.Proofs.Ytnlghoenbhbfhaa.openLoop]
    split
    · exact h
    split
    · exact h
    split
    · split
      · exact h.cut _ _
      · exact h.cut _ _
    · exact NamesW.openLoop h
theorem NamesW.crash (h : NamesW D) (keep : List Int) : NamesW (crashR D keep) := fun f hf => by
  have hn := crashR_names (D := D) keep
  have : f.name ∈ D.l.map (·.name) := by rw [← hn]; exact List.mem_map.2 ⟨f, hf, rfl⟩
  obtain ⟨f', hf', e⟩ := List.mem_map.1 this
  obtain ⟨k, h1, h2⟩ := h f' hf'
  exact ⟨k, h1, by rw [← e, h2]⟩
theorem NamesW.nil {l a : Int} {d : Bool} : NamesW ⟨l, [], a, d⟩ := fun f hf => by cases hf
theorem NamesW.arm (h : NamesW D) (k : Int) : NamesW (armR D k).1 := by
  unfold armR; split
  · exact h
  · exact h
/-! what lies beside a log -/
theorem LogAt.keepS {L : LogR} (h : LogAt M0 M g p b D es L) {S : Nat → Prop} {M' : Mem} (hk : Mem.keep S M M') (hS : ∀ y, S y → M0 y = none ∧ ¬ logB g p b es y) : LogAt M0 M' g p b D es L :=
  ⟨⟨hk.le h.disk.le fun y hy => (hS y hy).1, h.disk.at'.mono fun y o hy ho => hk y o (fun e => (hS y e).2 (.inr hy)) ho, h.disk.rel, h.disk.inv, h.disk.fresh⟩, hk _ _ (fun e => (hS g e).2 (.inl rfl)) h.self, h.fresh⟩
/-- all records, beside the log -/
def AllAt (M0 M : Mem) (a : Option Addr) (n c : Nat) (all : List (List UInt8)) : Prop := NewEls M0 T.s_uint8 1 a n c (BytesW M) all M
theorem AllAt.up {a : Option Addr} {n c : Nat} {all : List (List UInt8)} (h : AllAt M0 M a n c all) {M' : Mem} (hle : M.le M') : AllAt M0 M' a n c all := (NewEls.up h hle).imp fun _ _ _ hx => hx.le hle
/-- more of them: all lies in Z; the blocks of S are none of it -/
theorem AllAt.app {Z : Mem} {S : Nat → Prop} {a a2 : Option Addr} {n c n2 : Nat} {all more : List (List UInt8)} (h : AllAt M0 Z a n c all) (hZ : Z.le M) (hS1 : ∀ y, S y → Z y = none) (hS2 : ∀ y, S y → M y ≠ none) (h2 : Elems Z 1 a2 n2 (BytesW Z) more) {k : Option Addr → Nat → Mem → Prop} (hb : n + n2 ≤ 4000000000000)
    (hk : ∀ a' c' M', AllAt M0 (M'.minus S) a' (n + n2) c' (all ++ more) → Mem.keep (blk a) M M' → (∀ y, blk a y → M0 y = none ∧ ¬ S y) → (∀ y o, Z y = some o → ¬ blk a y → (M'.minus S) y = some o) → k a' c' M') : SrcVC M 1 a2 n2 fun vs => AppVC T.s_uint8 1 24 a n c n2 vs M k := by
  unfold Elems at h2
  obtain ⟨css2, s2, l2, m2, u2, r2⟩ := h2
  refine srcv (s2.le hZ) ?_
  unfold AllAt NewEls at h
  obtain ⟨css, s1, l1, m1, u1, r1⟩ := h
  have one : ∀ {cs : List Value} {x : List UInt8}, BytesW Z cs x → ∀ u ∈ cs, u.oneCell' = true := fun ⟨_, _, _, e, _⟩ u hu => by rw [e] at hu; simp at hu; subst hu; rfl
  have hblk : ∀ y, blk a y → M0 y = none ∧ ¬ S y := fun y ⟨q, hq, e⟩ => by
    obtain ⟨h3, cs, h4⟩ := s1.block hq
    rw [e] at h3 h4
    refine ⟨h3, fun hs => ?_⟩
    have := hS1 y hs
    unfold Mem.has at h4; rw [h4] at this; cases this
  have hm0 : M0.le (M.minus (blk a)) := Mem.le_minus (Mem.le_trans s1.le hZ) fun y hy => (hblk y hy).1
  refine appK (M.minus (blk a)) _ (s1.rebase hZ) (by omega) (by simp [maxLen]; omega) (fun u hu => ?_) fun a' c' M' hN hkp => ?_
  · obtain ⟨cs, hcs, hu⟩ := List.mem_flatten.1 hu
    obtain ⟨i, hi, rfl⟩ := List.getElem_of_mem hcs
    exact one (r2 i _ _ (List.getElem?_eq_getElem hi) (List.getElem?_eq_getElem (by omega))) u hu
  · have hold : ∀ y o, Z y = some o → ¬ blk a y → (M'.minus S) y = some o := fun y o hy hny => by
      unfold Mem.minus
      rw [if_neg fun hs => by rw [hS1 y hs] at hy; cases hy]
      exact hkp y o hny (hZ y o hy)
    have mv : ∀ {cs : List Value} {x : List UInt8}, BytesW Z cs x → BytesW (M'.minus S) cs x := fun ⟨pa, pn, pc, e, hw⟩ => ⟨pa, pn, pc, e, hw.mono fun q o hq ho => hold _ _ ho fun ⟨q2, hq2, e2⟩ => by
      obtain ⟨cs1, hh1⟩ := (s1.block hq2).2
      obtain ⟨cs2, hh2⟩ := hw.block hq
      rw [e2] at hh1
      exact absurd (hh1.inj hh2).1 (by decide)⟩
    have hN2 : NewSl M0 T.s_uint8 1 a' (n + n2) c' (css.flatten ++ css2.flatten) (M'.minus S) := by
      obtain ⟨w0, w1, w2, w3⟩ := newSl_iff.1 hN
      refine newSl_iff.2 ⟨fun y o hy => ?_, w1, w2, w3.imp id fun ⟨b1, cs, ha, hb1, hh, hr⟩ => ⟨b1, cs, ha, ?_, ?_, hr⟩⟩
      · exact hold y o (s1.le y o hy) fun hbl => by rw [(hblk y hbl).1] at hy; cases hy
      · cases e : M0 b1 with
        | none => rfl
        | some o => rw [hm0 b1 o e] at hb1; cases hb1
      · unfold Mem.has at hh ⊢
        unfold Mem.minus
        rw [if_neg fun hs => ?_]
        · exact hh
        · rcases Classical.em (blk a b1) with hbl | hbl
          · exact (hblk b1 hbl).2 hs
          · unfold Mem.minus at hb1
            rw [if_neg hbl] at hb1
            exact hS2 b1 hs hb1
    refine hk a' c' M' ?_ hkp hblk hold
    unfold AllAt NewEls
    refine ⟨css ++ css2, by rw [List.flatten_append]; exact hN2, by simp [l1, l2], by simp [m1, m2], fun cs hcs => ?_, fun i cs x hi hx => ?_⟩
    · rcases List.mem_append.1 hcs with hcs | hcs
      · exact u1 cs hcs
      · exact u2 cs hcs
    · by_cases hlt : i < css.length
      · rw [List.getElem?_append_left hlt] at hi
        rw [List.getElem?_append_left (by omega)] at hx
        exact mv (r1 i cs x hi hx)
      · rw [List.getElem?_append_right (by omega)] at hi
        rw [List.getElem?_append_right (by omega), show i - all.length = i - css.length by omega] at hx
        exact mv (r2 _ cs x hi hx)
end Go.Proofs.Ytnlghoenbhbfhaa

