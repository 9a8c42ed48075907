/- The store: what is held, in order. -/
import Derived.Test.YtlocjjponfbhmaaGreatJoin26
namespace Go.Proofs.YtlocjjponfbhmaaGreat
open Go Go.Vm
attribute [local irreducible] Brn Ob Grow CallsM inR LoopVC Mem.row Mem.cells Mem.setCells Mem.upd Own AppVC SrcVC StrVC NextVC New SrcOk subA NewSl Mem.textAt Mem.mapAt Mem.iterAt entryOf kfind Wr NewEls Elems
set_option maxRecDepth 10000
variable {M M0 : Mem} {p b sp sb : Nat} {S : StR} {came : Int} {xs : HsT} {es : EsT}
@[reducible] def encP (x : PX) : List Value := [.int .i64 x.id.o, .int .i64 x.id.d, .int .i64 x.id.e, .int .i64 x.id.c, .slice x.a x.p.length x.c, .int .i64 x.n]
theorem encP_len (x : PX) : (encP x).length = 6 := rfl
theorem encP_one (x : PX) : ∀ v ∈ encP x, v.oneCell' = true := by
  intro v hv
  simp only [encP, List.mem_cons, List.not_mem_nil, or_false] at hv
  rcases hv with rfl | rfl | rfl | rfl | rfl | rfl <;> rfl
/-- a place whose number is small -/
structure PB where
  x : PX
  h : 0 ≤ x.n ∧ x.n ≤ 4611686018427387904
instance : Inhabited PB := ⟨⟨⟨⟨0, 0, 0, 0⟩, none, 0, [], 0⟩, by simp⟩⟩
def encB (x : PB) : List Value := encP x.x
def cmpP (x y : PB) : Int := x.x.n - y.x.n
theorem cmpP_ok (x y : PB) : CallsM Tryz.prog F.store_Store_Held_1 [.agg (encB x).toArray, .agg (encB y).toArray] M fun v _ => v = .int .i64 (cmpP x y) := by
  obtain ⟨x, hx⟩ := x
  obtain ⟨y, hy⟩ := y
  unfold encB cmpP
  refine fo_store_Store_Held_1 (by simp) ?_
  (conv => whnf); refine ob (inR_i64 (by first | omega | (dsimp only; omega))) ?_
  (conv => whnf)
theorem cmpP_swo : Go.Sort.SWO (Go.Proofs.ltOf cmpP) := by
  have h : ∀ x y : PB, Go.Proofs.ltOf cmpP x y = decide (x.x.n < y.x.n) := fun x y => by
    unfold Go.Proofs.ltOf cmpP
    rw [decide_eq_decide]
    omega
  refine ⟨fun x => ?_, fun x y z => ?_, fun x y z => ?_⟩ <;> simp only [h, decide_eq_true_eq, decide_eq_false_iff_not] <;> omega
theorem perm_sorted : ∀ {l l' : List PX}, l.Perm l' → l.Pairwise (fun x y => x.n < y.n) → l'.Pairwise (fun x y => x.n ≤ y.n) → l = l'
  | [], l', hp, _, _ => (List.nil_perm.1 hp).symm
  | x :: r, l', hp, h1, h2 => by
    cases l' with
    | nil => exact absurd hp.length_eq (by simp)
    | cons y r' =>
      have hxy : x = y := by
        rcases List.mem_cons.1 (hp.mem_iff.1 (by simp : x ∈ x :: r)) with e | e
        · exact e
        · rcases List.mem_cons.1 (hp.mem_iff.2 (by simp : y ∈ y :: r')) with e' | e'
          · exact e'.symm
          · have g1 := (List.pairwise_cons.1 h1).1 y e'
            have g2 := (List.pairwise_cons.1 h2).1 x e
            omega
      subst hxy
      rw [perm_sorted (List.Perm.cons_inv hp) (List.pairwise_cons.1 h1).2 (List.pairwise_cons.1 h2).2]
theorem to_PB : ∀ (l : List PX), (∀ x ∈ l, 0 ≤ x.n ∧ x.n ≤ 4611686018427387904) → ∃ l' : List PB, l'.map PB.x = l
  | [], _ => ⟨[], rfl⟩
  | x :: r, h => by
    obtain ⟨r', hr⟩ := to_PB r fun y hy => h y (by simp [hy])
    exact ⟨⟨x, h x (by simp)⟩ :: r', by simp [hr]⟩
theorem encB_flat (l : List PB) : l.flatMap encB = (l.map PB.x).flatMap encP := by
  rw [List.flatMap_map]; rfl
/-- messages in new memory -/
structure HeldAt (M0 : Mem) (a : Option Addr) (n c : Nat) (ms : List MX) (M' : Mem) : Prop where
  row : NewSl M0 T.api_Msg 5 a n c (ms.flatMap encX) M'
  data : ∀ m ∈ ms, NewSl M0 T.uint8 1 m.a m.p.length m.c (m.p.map byteV) M'
  apart : ms.Pairwise fun x y => ∀ z, blk x.a z → ¬ blk y.a z
theorem HeldAt.msgs {a : Option Addr} {n c : Nat} {ms : List MX} {M' : Mem} (h : HeldAt M0 a n c ms M') : MsgsR M' a n ms := ⟨h.row.src, fun m hm => (h.data m hm).src⟩
theorem HeldAt.up {a : Option Addr} {n c : Nat} {ms : List MX} {M' M2 : Mem} (h : HeldAt M0 a n c ms M') (hle : M'.le M2) : HeldAt M0 a n c ms M2 := ⟨h.row.up hle, fun m hm => (h.data m hm).up hle, h.apart⟩
theorem HeldAt.len {a : Option Addr} {n c : Nat} {ms : List MX} {M' : Mem} (h : HeldAt M0 a n c ms M') : ms.length = n := h.row.src.flen encX_len (by decide)
@[reducible] def mxOf (x : PX) (a : Option Addr) (c : Nat) : MX := ⟨x.id, a, c, x.p⟩
theorem Held_ok (h : FreshSt M0 M p b sp sb S came xs es) (hcm : came ≤ 4611686018427387904) : CallsM Tryz.prog F.store_Store_Held [ptr p] M fun v M' =>
    ∃ a n c ms, v = .slice a n c ∧ HeldAt M a n c ms M' ∧ ms.map MX.msg = S.l := by
  refine fo_store_Store_Held (by simp) ?_
  have hA := h.at'
  have hI := h.inv
  have hqh := hI.qh
  have hxl : xs.length = S.l.length := by rw [← hA.held, List.length_map]
  have hpl : ∀ q ∈ xs, q.2.p.length ≤ 48 := fun q hq => by
    have hm : q.2.msg ∈ S.l := by rw [← hA.held]; exact List.mem_map.2 ⟨q, hq, rfl⟩
    exact (msgErr_zero (hI.msgs _ hm).1).2.2
  (conv => whnf); refine brn_f rfl ?_
  (conv => whnf); refine on (hA.self.c1 (stCs_map hI.ulen ..)) ?_
  (conv => whnf)
  refine hA.map.range fun q bi hbi hIt => ?_
  replace hbi : M bi = none := hbi
  (conv => whnf)
  refine loopF (σ := Mem × (Option Addr × Nat × Nat) × List PX × HsT) [3] (fun x => [(3, .slice x.2.1.1 x.2.1.2.1 x.2.1.2.2)]) (fun _ => []) (fun x => x.1)
    (fun | ⟨M1, (a, n, c), l, todo⟩ => NewSl M T.store_place 6 a n c (l.flatMap encP) M1 ∧ Iter idA pxV M1 bi b xs todo ∧ (l ++ todo.map (·.2)).Perm (xs.map (·.2))) (fun x => x.2.2.2.length) ⟨_, (none, 0, 0), [], xs⟩
    ⟨(NewSl.none M _ _).up (Mem.le_upd hbi), hIt, .refl _⟩ ⟨(by repeat' first | exact True.intro | refine ⟨rfl, ?_⟩), (by repeat' first | exact True.intro | refine ⟨rfl, ?_⟩), Mem.le_refl _, rfl⟩ ?_
  rintro ⟨M1, ⟨a, n, c⟩, l, todo⟩ ⟨hN, hI1, hperm⟩
  (conv => whnf)
  refine hI1.next (fun h0 => ?_) (fun i k todo' o' hperm2 hI2 hent => ?_)
  · subst h0
    simp only [List.map_nil, List.append_nil] at hperm
    have hll : l.length = n := hN.src.flen encP_len (by decide)
    have hbl : ∀ x ∈ l, 0 ≤ x.n ∧ x.n ≤ 4611686018427387904 := fun x hx => by
      obtain ⟨q, hq, rfl⟩ := List.mem_map.1 (hperm.mem_iff.1 hx)
      have := hA.came.2 q hq
      omega
    obtain ⟨lb, rfl⟩ := to_PB l hbl
    rw [← encB_flat] at hN
    have hnx : n = xs.length := by have := hperm.length_eq; simp at this hll; omega
    repeat' ((conv => whnf); first | refine ⟨?_, True.intro⟩ | refine brn_t rfl ?_ | refine brn_f rfl ?_ | refine ob rfl ?_ | refine ob (by decide) ?_ | refine grow_same (Mem.le_refl _) ?_ | refine ob (Mem.le_refl _) ?_ | refine ⟨_, Mem.le_refl _, ?_⟩ | fail)
    refine (sortF_ok Tryz.laysP (by kernel_rfl) (enc := encB) (k := 6) (by decide) Tryz.isAgg86 Tryz.sizeOf86 (fun x : PB => encP_len x.x) (fun x : PB => encP_one x.x) cmpP_swo (g := F.store_Store_Held_1) (fun args w => enters_run (by kernel_rfl) args w) (fun x y => cmpP_ok x y) hN.wr (by omega)).mono ?_
    rintro v M5 ⟨rfl, l', hp', hs', hw', hk'⟩
    have hN5 := hN.ofWr hw' hk' rfl
    rw [encB_flat] at hN5
    have hl' : l'.map PB.x = xs.map (·.2) := by
      refine (perm_sorted ((hp'.map PB.x).trans hperm).symm ?_ ?_).symm
      · rw [List.pairwise_map]; exact hA.ord
      · rw [List.pairwise_map]
        refine hs'.imp fun {x y} hxy => ?_
        unfold cmpP at hxy
        omega
    rw [hl'] at hN5
    have hle5 : M.le M5 := hN5.le
    (conv => whnf)
    refine loopF (σ := Nat × Mem × (Option Addr × Nat) × List MX) [28, 6] (fun x => [(28, .int .i64 x.1), (6, .slice x.2.2.1.1 x.2.2.2.length x.2.2.1.2)]) (fun _ => []) (fun x => x.2.1)
      (fun | ⟨j, M6, (a6, c6), ms⟩ => j ≤ n ∧ HeldAt M5 a6 ms.length c6 ms M6 ∧ ms.map MX.msg = (xs.take j).map (fun q => q.2.msg)) (fun x => n - x.1) ⟨0, M5, (none, 0), []⟩
      ⟨by omega, ⟨NewSl.none M5 _ _, by simp, by simp⟩, by simp⟩ ⟨(by repeat' first | exact True.intro | refine ⟨rfl, ?_⟩), (by repeat' first | exact True.intro | refine ⟨rfl, ?_⟩), Mem.le_refl _, rfl⟩ ?_
    rintro ⟨j, M6, ⟨a6, c6⟩, ms⟩ ⟨hj, hH, hms⟩
    have hle6 := hH.row.le
    have hmsl : ms.length = j := by have := congrArg List.length hms; simp at this; omega
    (conv => whnf); refine brn (fun g => ?_) (fun g => ?_)
    rotate_left
    · have hge : n ≤ j := by have := of_decide_eq_false g; dsimp only at this; omega
      rw [List.take_of_length_le (by omega), hA.held] at hms
      repeat' ((conv => whnf); first | refine ⟨?_, True.intro⟩ | refine brn_t rfl ?_ | refine brn_f rfl ?_ | refine ob rfl ?_ | refine ob (by decide) ?_ | refine grow_same (Mem.le_refl _) ?_ | refine ob (Mem.le_refl _) ?_ | refine ⟨_, Mem.le_refl _, ?_⟩ | fail)
      exact ⟨a6, _, c6, ms, rfl, ⟨hH.row.mono hle5, fun m hm => (hH.data m hm).mono hle5, hH.apart⟩, hms⟩
    have hlt : j < n := by have := of_decide_eq_true g; dsimp only at this; omega
    have hjx : j < xs.length := by omega
    have hx : (xs.map (·.2))[j]? = some xs[j].2 := by rw [List.getElem?_map, List.getElem?_eq_getElem hjx]; rfl
    obtain ⟨b1, o1, ha, hcc⟩ := hN5.src.fparts encP_len (by decide) hx
    have htk : xs.take (j + 1) = xs.take j ++ [xs[j]] := by rw [List.take_add_one, List.getElem?_eq_getElem hjx]; rfl
    have hmem : xs[j] ∈ xs := List.getElem_mem _
    generalize xs[j] = q at *
    have hd6 := (hA.data q hmem).src.le (Mem.le_trans hle5 hle6)
    have hq48 := hpl q hmem
    (conv => whnf); refine ob (by first | omega | (dsimp only; omega)) ?_
    (conv => whnf); refine atp ha ?_
    (conv => whnf); refine on (Mem.row_le hle6 (hcc 0 6 (by decide))) ?_
    repeat' ((conv => whnf); first | refine ⟨?_, True.intro⟩ | refine brn_t rfl ?_ | refine brn_f rfl ?_ | refine ob rfl ?_ | refine ob (by decide) ?_ | refine grow_same (Mem.le_refl _) ?_ | refine ob (Mem.le_refl _) ?_ | refine ⟨_, Mem.le_refl _, ?_⟩ | fail)
    refine new (fun b9 hb9 => ?_)
    replace hb9 : M6 b9 = none := hb9
    have hN7 : NewSl M6 T.uint8 1 (some ⟨b9, 0, none⟩) 0 0 (([] : List UInt8).map byteV) _ := NewSl.lit hb9 T.uint8 1 0 [] rfl
    obtain ⟨M7, hM7⟩ : ∃ M7, M7 = M6.setCells b9 T.uint8 [] := ⟨_, rfl⟩
    rw [← hM7] at hN7
    (conv => whnf)
    erw [← hM7]
    repeat' ((conv => whnf); first | refine ⟨?_, True.intro⟩ | refine brn_t rfl ?_ | refine brn_f rfl ?_ | refine ob rfl ?_ | refine ob (by decide) ?_ | refine grow_same (Mem.le_refl _) ?_ | refine ob (Mem.le_refl _) ?_ | refine ⟨_, Mem.le_refl _, ?_⟩ | fail)
    refine srcv (hd6.le hN7.le) ?_
    (conv => whnf); refine appN M6 _ hN7 (by first | omega | (dsimp only; omega)) (by simp [maxLen] <;> omega) (bytes_one _) fun a8 c8 M8 hN8 => ?_
    rw [Nat.zero_add q.2.p.length] at hN8
    rw [Nat.zero_add q.2.p.length]
    have hH8 := hH.up hN8.le
    repeat' ((conv => whnf); first | refine ob rfl ?_ | refine grow_same hN8.le ?_ | refine ob hN8.le ?_ | refine ⟨?_, True.intro⟩ | fail)
    repeat' ((conv => whnf); first | refine ⟨?_, True.intro⟩ | refine brn_t rfl ?_ | refine brn_f rfl ?_ | refine ob rfl ?_ | refine ob (by decide) ?_ | refine grow_same (Mem.le_refl _) ?_ | refine ob (Mem.le_refl _) ?_ | refine ⟨_, Mem.le_refl _, ?_⟩ | fail)
    refine appF M5 hH8.row (mxOf q.2 a8 c8) rfl (by first | omega | (dsimp only; omega)) (by simp [maxLen]; omega) (by simp [Value.oneCell']) fun a9 c9 M9 hN9 hk9 => ?_
    have hfr : ∀ y, blk a6 y → M5 y = none := fun y ⟨q, hq, e⟩ => e ▸ (hH8.row.block hq).1
    have hnew : NewSl M5 T.uint8 1 a8 q.2.p.length c8 (q.2.p.map byteV) M8 := hN8.mono hle6
    repeat' ((conv => whnf); first | refine ⟨?_, True.intro⟩ | refine brn_t rfl ?_ | refine brn_f rfl ?_ | refine ob rfl ?_ | refine ob (by decide) ?_ | refine grow_same (Mem.le_refl _) ?_ | refine ob (Mem.le_refl _) ?_ | refine ⟨_, Mem.le_refl _, ?_⟩ | fail)
    refine ob (inR_i64 (by first | omega | (dsimp only; omega))) ?_
    (conv => whnf)
    refine ⟨⟨j + 1, M9, (a9, c9), ms ++ [mxOf q.2 a8 c8]⟩, ⟨by omega, ⟨by simpa using hN9, fun m hm => ?_, ?_⟩, ?_⟩, by dsimp only; omega, ?_⟩
    · rcases List.mem_append.1 hm with hm | hm
      · exact (hH8.data m hm).keep hk9 hfr fun q hq ⟨q', hq', e⟩ => hH8.row.ne (hH8.data m hm) (by decide) hq' hq e
      · simp only [List.mem_singleton] at hm
        subst hm
        exact hnew.keep hk9 hfr fun q hq ⟨q', hq', e⟩ => hH8.row.ne hnew (by decide) hq' hq e
    · rw [List.pairwise_append]
      refine ⟨hH.apart, by simp, fun m hm y hy z hz hz' => ?_⟩
      simp only [List.mem_singleton] at hy
      subst hy
      obtain ⟨q1, hq1, e1⟩ := hz
      obtain ⟨q2, hq2, e2⟩ := hz'
      obtain ⟨_, cs, hh⟩ := (hH.data m hm).block hq1
      have h0 := (hN8.block hq2).1
      unfold Mem.has at hh
      rw [e2, ← e1, hh] at h0
      cases h0
    · rw [List.map_append, hms, htk, List.map_append]; rfl
    · simp only [List.length_append, List.length_cons, List.length_nil]
      exact ⟨(by repeat' first | exact True.intro | refine ⟨rfl, ?_⟩), (by repeat' first | exact True.intro | refine ⟨rfl, ?_⟩), Mem.le_refl _, rfl⟩
  · have hk2 : Mem.keep (fun y => y = bi) M1 (M1.upd bi o') := Mem.keep_upd _ _ rfl
    have hN2 : NewSl M T.store_place 6 a n c (l.flatMap encP) (M1.upd bi o') := hN.keep hk2 (fun y e => e ▸ hbi) (fun q hq e => by
      obtain ⟨_, cs, hh⟩ := hN.block hq
      exact (hI1.nb hh).1 e)
    obtain ⟨M2, hM2⟩ : ∃ M2, M2 = M1.upd bi o' := ⟨_, rfl⟩
    rw [← hM2] at hI2 hent hN2
    have hlt : l.length < xs.length := by have := hperm.length_eq; have := hperm2.length_eq; simp at *; omega
    have hll : l.length = n := hN2.src.flen encP_len (by decide)
    (conv => whnf)
    erw [← hM2]
    repeat' ((conv => whnf); first | refine ⟨?_, True.intro⟩ | refine brn_t rfl ?_ | refine brn_f rfl ?_ | refine ob rfl ?_ | refine ob (by decide) ?_ | refine grow_same (Mem.le_refl _) ?_ | refine ob (Mem.le_refl _) ?_ | refine ⟨_, Mem.le_refl _, ?_⟩ | fail)
    refine on hent ?_
    repeat' ((conv => whnf); first | refine ⟨?_, True.intro⟩ | refine brn_t rfl ?_ | refine brn_f rfl ?_ | refine ob rfl ?_ | refine ob (by decide) ?_ | refine grow_same (Mem.le_refl _) ?_ | refine ob (Mem.le_refl _) ?_ | refine ⟨_, Mem.le_refl _, ?_⟩ | fail)
    refine appF M hN2 k (by simp) (by first | omega | (dsimp only; omega)) (by simp [maxLen]; omega) (by simp [Value.oneCell']) fun a6 c6 M6 hN6 hk6 => ?_
    have hnb : ∀ y, blk a y → y ≠ bi ∧ y ≠ b := fun y ⟨q, hq, e⟩ => by
      obtain ⟨_, cs, hh⟩ := hN2.block hq
      exact e ▸ hI2.nb hh
    have hI6 := hI2.keep hk6 (fun hb => (hnb _ hb).1 rfl) (fun hb => (hnb _ hb).2 rfl)
    (conv => whnf)
    refine ⟨⟨M6, (a6, n + 1, c6), l ++ [k], todo'⟩, ⟨hN6, hI6, ?_⟩, by have := hperm2.length_eq; simp at this ⊢; omega, ⟨(by repeat' first | exact True.intro | refine ⟨rfl, ?_⟩), (by repeat' first | exact True.intro | refine ⟨rfl, ?_⟩), Mem.le_refl _, rfl⟩⟩
    refine List.Perm.trans ?_ hperm
    rw [List.append_assoc]
    refine List.Perm.append_left _ ?_
    have := hperm2.map (·.2)
    simpa using this.symm
end Go.Proofs.YtlocjjponfbhmaaGreat

/- The store: its state. -/
namespace Go.Proofs.YtlocjjponfbhmaaGreat
open Go Go.Vm
attribute [local irreducible] Brn Ob Grow CallsM inR LoopVC Mem.row Mem.cells Mem.setCells Mem.upd Own AppVC SrcVC StrVC NextVC New SrcOk subA NewSl Mem.textAt Mem.mapAt Mem.iterAt entryOf kfind Wr NewEls Elems
set_option maxRecDepth 10000
variable {M M0 : Mem} {p b sp sb : Nat} {S : StR} {came : Int} {xs : HsT} {es : EsT}
@[reducible] def vs64 (c : Nat → Int) : List Value := [.int .i64 (c 0), .int .i64 (c 1), .int .i64 (c 2), .int .i64 (c 3), .int .i64 (c 4), .int .i64 (c 5), .int .i64 (c 6), .int .i64 (c 7), .int .i64 (c 8), .int .i64 (c 9), .int .i64 (c 10), .int .i64 (c 11), .int .i64 (c 12), .int .i64 (c 13), .int .i64 (c 14), .int .i64 (c 15), .int .i64 (c 16), .int .i64 (c 17), .int .i64 (c 18), .int .i64 (c 19), .int .i64 (c 20), .int .i64 (c 21), .int .i64 (c 22), .int .i64 (c 23), .int .i64 (c 24), .int .i64 (c 25), .int .i64 (c 26), .int .i64 (c 27), .int .i64 (c 28), .int .i64 (c 29), .int .i64 (c 30), .int .i64 (c 31), .int .i64 (c 32), .int .i64 (c 33), .int .i64 (c 34), .int .i64 (c 35), .int .i64 (c 36), .int .i64 (c 37), .int .i64 (c 38), .int .i64 (c 39), .int .i64 (c 40), .int .i64 (c 41), .int .i64 (c 42), .int .i64 (c 43), .int .i64 (c 44), .int .i64 (c 45), .int .i64 (c 46), .int .i64 (c 47), .int .i64 (c 48), .int .i64 (c 49), .int .i64 (c 50), .int .i64 (c 51), .int .i64 (c 52), .int .i64 (c 53), .int .i64 (c 54), .int .i64 (c 55), .int .i64 (c 56), .int .i64 (c 57), .int .i64 (c 58), .int .i64 (c 59), .int .i64 (c 60), .int .i64 (c 61), .int .i64 (c 62), .int .i64 (c 63)]
@[reducible] def cs64 (c : Nat → Int) : List SC := [.v (.int .i64 (c 0)), .v (.int .i64 (c 1)), .v (.int .i64 (c 2)), .v (.int .i64 (c 3)), .v (.int .i64 (c 4)), .v (.int .i64 (c 5)), .v (.int .i64 (c 6)), .v (.int .i64 (c 7)), .v (.int .i64 (c 8)), .v (.int .i64 (c 9)), .v (.int .i64 (c 10)), .v (.int .i64 (c 11)), .v (.int .i64 (c 12)), .v (.int .i64 (c 13)), .v (.int .i64 (c 14)), .v (.int .i64 (c 15)), .v (.int .i64 (c 16)), .v (.int .i64 (c 17)), .v (.int .i64 (c 18)), .v (.int .i64 (c 19)), .v (.int .i64 (c 20)), .v (.int .i64 (c 21)), .v (.int .i64 (c 22)), .v (.int .i64 (c 23)), .v (.int .i64 (c 24)), .v (.int .i64 (c 25)), .v (.int .i64 (c 26)), .v (.int .i64 (c 27)), .v (.int .i64 (c 28)), .v (.int .i64 (c 29)), .v (.int .i64 (c 30)), .v (.int .i64 (c 31)), .v (.int .i64 (c 32)), .v (.int .i64 (c 33)), .v (.int .i64 (c 34)), .v (.int .i64 (c 35)), .v (.int .i64 (c 36)), .v (.int .i64 (c 37)), .v (.int .i64 (c 38)), .v (.int .i64 (c 39)), .v (.int .i64 (c 40)), .v (.int .i64 (c 41)), .v (.int .i64 (c 42)), .v (.int .i64 (c 43)), .v (.int .i64 (c 44)), .v (.int .i64 (c 45)), .v (.int .i64 (c 46)), .v (.int .i64 (c 47)), .v (.int .i64 (c 48)), .v (.int .i64 (c 49)), .v (.int .i64 (c 50)), .v (.int .i64 (c 51)), .v (.int .i64 (c 52)), .v (.int .i64 (c 53)), .v (.int .i64 (c 54)), .v (.int .i64 (c 55)), .v (.int .i64 (c 56)), .v (.int .i64 (c 57)), .v (.int .i64 (c 58)), .v (.int .i64 (c 59)), .v (.int .i64 (c 60)), .v (.int .i64 (c 61)), .v (.int .i64 (c 62)), .v (.int .i64 (c 63))]
theorem vs64_eq (c : Nat → Int) : vs64 c = (List.range 64).map (fun i => Value.int .i64 (c i)) := rfl
theorem cs64_eq (c : Nat → Int) : cs64 c = (List.range 64).map (fun i => SC.v (.int .i64 (c i))) := rfl
theorem take64 (c : Nat → Int) {i : Nat} (hi : i < 64) : takeC (cs64 c) (i * 1) 1 = some [.v (.int .i64 (c i))] := by
  have hl : (cs64 c).length = 64 := rfl
  unfold takeC
  rw [if_pos (by rw [hl]; omega), cs64_eq]
  rw [List.drop_eq_getElem_cons (by simp; omega)]
  simp
theorem used64 {u : List Int} (h : u.length = 64) : u.map intV = vs64 (fun i => u.getD i 0) := by
  rw [vs64_eq]
  apply List.ext_getElem (by simp [h])
  intro i h1 h2
  simp only [List.getElem_map, List.getElem_range, intV]
  congr 1
  rw [List.getD_eq_getElem?_getD, List.getElem?_eq_getElem (by simpa using h1)]; rfl
theorem stCs_row (hA : StAt M p b sp sb S came xs es) (hI : InvS S) : M.row p 5 64 = some (vs64 (fun i => S.used.getD i 0)) := by
  rw [hA.self.row (by rw [stCs_len hI.ulen]; omega), ← used64 hI.ulen]
  congr 1
  unfold stCs
  rw [List.append_assoc, List.drop_append]
  simp [hI.ulen]
theorem usedF_take : ∀ (u : List Int) (k j : Nat), j < u.length → usedF k (u.take (j + 1)) = usedF k (u.take j) ++ (if 0 < u.getD j 0 then [(((k + j : Nat) : Int), u.getD j 0)] else [])
  | [], _, _, h => by simp at h
  | n :: r, k, 0, _ => by
    simp only [Nat.zero_add, List.take_succ_cons, List.take_zero, List.getD_cons_zero, Nat.add_zero]
    unfold usedF
    split <;> simp [usedF]
  | n :: r, k, j + 1, h => by
    have ih := usedF_take r (k + 1) j (by simpa using h)
    have e1 : ∀ t, usedF k (n :: t) = if 0 < n then ((k : Int), n) :: usedF (k + 1) t else usedF (k + 1) t := fun _ => rfl
    rw [List.take_succ_cons, List.take_succ_cons, e1, e1, ih, List.getD_cons_succ, show k + 1 + j = k + (j + 1) by omega]
    split
    · rw [List.cons_append]
    · rfl
@[reducible] def stateV (S : StR) (ua : Option Addr) (uc : Nat) (ha : Option Addr) (ms : List MX) (hc : Nat) (ma : Option Addr) (mk : List MkC) (mc : Nat) : Value := .agg #[.int .i64 S.self, .int .i64 S.epoch, .slice ua (usedD S.used).length uc, .slice ha ms.length hc, .slice ma mk.length mc]
def StateOut (S : StR) (es : EsT) (M : Mem) (v : Value) (M' : Mem) : Prop := ∃ ua uc ha hc ms ma mc mk, v = stateV S ua uc ha ms hc ma mk mc ∧ M.le M' ∧ NewSl M T.api_Next 2 ua (usedD S.used).length uc ((usedD S.used).flatMap encN) M' ∧ HeldAt M ha ms.length hc ms M' ∧ ms.map MX.msg = S.l ∧
  MarksAt M ma mk.length mc mk M' ∧ (mk.map MkC.mk').Perm (es.map mkOf) ∧ Canon (inE es) (mk.map MkC.mk')
theorem MarksAt.up {a : Option Addr} {n c : Nat} {l : List MkC} {M' M2 : Mem} (h : MarksAt M0 a n c l M') (hle : M'.le M2) : MarksAt M0 a n c l M2 := ⟨h.row.up hle, fun m hm => (h.more m hm).up hle⟩
theorem MarksAt.mono' {a : Option Addr} {n c : Nat} {l : List MkC} {M' : Mem} (h : MarksAt M a n c l M') (hle : M0.le M) : MarksAt M0 a n c l M' := ⟨h.row.mono hle, fun m hm => (h.more m hm).mono hle⟩
theorem State_ok (h : FreshSt M0 M p b sp sb S came xs es) (hcm : came ≤ 4611686018427387904) (hes : es.length ≤ 4194000) : CallsM Tryz.prog F.store_Store_State [ptr p] M (StateOut S es M) := by
  refine fo_store_Store_State (by simp) ?_
  have hI := h.inv
  have hA0 := h.at'
  (conv => whnf); refine brn_f rfl ?_
  repeat' ((conv => whnf); first | refine ⟨?_, True.intro⟩ | refine ⟨?_, ?_, True.intro⟩ | refine brn_t rfl ?_ | refine brn_f rfl ?_ | refine ob rfl ?_ | refine ob (by decide) ?_ | refine grow_same (Mem.le_refl _) ?_ | refine ob (Mem.le_refl _) ?_ | refine ⟨_, Mem.le_refl _, ?_⟩ | fail)
  refine on (hA0.self.c1 rfl) ?_
  repeat' ((conv => whnf); first | refine ⟨?_, True.intro⟩ | refine ⟨?_, ?_, True.intro⟩ | refine brn_t rfl ?_ | refine brn_f rfl ?_ | refine ob rfl ?_ | refine ob (by decide) ?_ | refine grow_same (Mem.le_refl _) ?_ | refine ob (Mem.le_refl _) ?_ | refine ⟨_, Mem.le_refl _, ?_⟩ | fail)
  refine on (hA0.self.c1 rfl) ?_
  repeat' ((conv => whnf); first | refine ⟨?_, True.intro⟩ | refine ⟨?_, ?_, True.intro⟩ | refine brn_t rfl ?_ | refine brn_f rfl ?_ | refine ob rfl ?_ | refine ob (by decide) ?_ | refine grow_same (Mem.le_refl _) ?_ | refine ob (Mem.le_refl _) ?_ | refine ⟨_, Mem.le_refl _, ?_⟩ | fail)
  refine on (hA0.self.c1 (stCs_set hI.ulen ..)) ?_
  repeat' ((conv => whnf); first | refine ⟨?_, True.intro⟩ | refine ⟨?_, ?_, True.intro⟩ | refine brn_t rfl ?_ | refine brn_f rfl ?_ | refine ob rfl ?_ | refine ob (by decide) ?_ | refine grow_same (Mem.le_refl _) ?_ | refine ob (Mem.le_refl _) ?_ | refine ⟨_, Mem.le_refl _, ?_⟩ | fail)
  · (conv => whnf)
    refine (Held_ok h hcm).mono ?_
    rintro v M4 ⟨ha, hn, hc, ms, rfl, hH0, hmsg⟩
    have h4 := h.to hH0.row.le
    repeat' ((conv => whnf); first | refine ob rfl ?_ | refine grow_same hH0.row.le ?_ | refine ob hH0.row.le ?_ | refine ⟨?_, True.intro⟩ | fail)
    repeat' ((conv => whnf); first | refine ⟨?_, True.intro⟩ | refine ⟨?_, ?_, True.intro⟩ | refine brn_t rfl ?_ | refine brn_f rfl ?_ | refine ob rfl ?_ | refine ob (by decide) ?_ | refine grow_same (Mem.le_refl _) ?_ | refine ob (Mem.le_refl _) ?_ | refine ⟨_, Mem.le_refl _, ?_⟩ | fail)
    · (conv => whnf)
      refine (Marks_ok h4.at'.set (by have := h.room; omega) hes).mono ?_
      rintro v M5 ⟨ma, mn, mc, mk, rfl, hMk0, hp, hs⟩
      have h5 := h4.to hMk0.row.le
      have hHe := hH0.up hMk0.row.le
      have hMk := hMk0.mono' hH0.row.le
      have hleM := hHe.row.le
      repeat' ((conv => whnf); first | refine ob rfl ?_ | refine grow_same hleM ?_ | refine ob hleM ?_ | refine ⟨?_, True.intro⟩ | fail)
      repeat' ((conv => whnf); first | refine ⟨?_, True.intro⟩ | refine brn_t rfl ?_ | refine brn_f rfl ?_ | refine ob rfl ?_ | refine ob (by decide) ?_ | refine grow_same (Mem.le_refl _) ?_ | refine ob (Mem.le_refl _) ?_ | refine ⟨_, Mem.le_refl _, ?_⟩ | fail)
      have hrow := stCs_row h5.at' hI
      refine on hrow ?_
      (conv => whnf)
      refine loopF (σ := Nat × Mem × (Option Addr × Nat)) [29] (fun x => [(29, .int .i64 x.1)]) (fun x => [.live T.api_State [.v (.int .i64 0), .v (.int .i64 0), .v (.slice none 0 0), .v (.slice none 0 0), .v (.slice none 0 0)], .live T.api_State [.v (.int .i64 S.self), .v (.int .i64 S.epoch), .v (.slice x.2.2.1 (usedD (S.used.take x.1)).length x.2.2.2), .v (.slice ha hn hc), .v (.slice ma mn mc)]]) (fun x => x.2.1)
        (fun | ⟨j, M6, (a6, c6)⟩ => j ≤ 64 ∧ NewSl M5 T.api_Next 2 a6 (usedD (S.used.take j)).length c6 ((usedD (S.used.take j)).flatMap encN) M6) (fun x => 64 - x.1) ⟨0, M5, (none, 0)⟩ ⟨by omega, NewSl.none M5 _ _⟩ ⟨(by repeat' first | exact True.intro | refine ⟨rfl, ?_⟩), (by repeat' first | exact True.intro | refine ⟨rfl, ?_⟩), Mem.le_refl _, rfl⟩ ?_
      rintro ⟨j, M6, ⟨a6, c6⟩⟩ ⟨hj, hN6⟩
      have hul : (usedD (S.used.take j)).length ≤ (S.used.take j).length := usedF_len _ 0
      have huj : (S.used.take j).length ≤ 64 := by simp; omega
      (conv => whnf); refine brn (fun g => ?_) (fun g => ?_)
      rotate_left
      · have hge : 64 ≤ j := by have := of_decide_eq_false g; dsimp only at this; omega
        rw [List.take_of_length_le (by rw [hI.ulen]; omega)] at hN6 ⊢
        repeat' ((conv => whnf); first | refine ⟨?_, True.intro⟩ | refine brn_t rfl ?_ | refine brn_f rfl ?_ | refine ob rfl ?_ | refine ob (by decide) ?_ | refine grow_same (Mem.le_refl _) ?_ | refine ob (Mem.le_refl _) ?_ | refine ⟨_, Mem.le_refl _, ?_⟩ | fail)
        have hl1 := hHe.len
        have hl2 := hMk.len
        subst hl1
        subst hl2
        exact ⟨a6, c6, ha, hc, ms, ma, mc, mk, rfl, Mem.le_trans hleM hN6.le, hN6.mono hleM, hHe.up hN6.le, hmsg, hMk.up hN6.le, hp, marks_canon h.invE hp hs⟩
      have hlt : j < 64 := by have := of_decide_eq_true g; dsimp only at this; omega
      have hnx : usedD (S.used.take (j + 1)) = usedD (S.used.take j) ++ (if 0 < S.used.getD j 0 then [((j : Int), S.used.getD j 0)] else []) := by
        have := usedF_take S.used 0 j (by rw [hI.ulen]; omega)
        rw [Nat.zero_add] at this
        exact this
      (conv => whnf); refine ob (by first | omega | (dsimp only; omega)) ?_
      (conv => whnf); refine on (take64 (fun i => S.used.getD i 0) hlt) ?_
      (conv => whnf); refine brn (fun g1 => ?_) (fun g1 => ?_)
      · have h1 : 0 < S.used.getD j 0 := by simpa using g1
        rw [if_pos h1] at hnx
        repeat' ((conv => whnf); first | refine ⟨?_, True.intro⟩ | refine brn_t rfl ?_ | refine brn_f rfl ?_ | refine ob rfl ?_ | refine ob (by decide) ?_ | refine grow_same (Mem.le_refl _) ?_ | refine ob (Mem.le_refl _) ?_ | refine ⟨_, Mem.le_refl _, ?_⟩ | fail)
        refine appF M5 hN6 ((j : Int), S.used.getD j 0) rfl (by first | omega | (dsimp only; omega)) (by simp [maxLen]; omega) (by simp [Value.oneCell']) fun a7 c7 M7 hN7 _ => ?_
        (conv => whnf); refine ob (inR_i64 (by first | omega | (dsimp only; omega))) ?_
        (conv => whnf)
        rw [← hnx] at hN7
        have hl7 : (usedD (S.used.take (j + 1))).length = (usedD (S.used.take j)).length + 1 := by rw [hnx]; simp
        rw [← hl7] at hN7
        refine ⟨⟨j + 1, M7, (a7, c7)⟩, ⟨by omega, hN7⟩, by dsimp only; omega, ?_⟩
        dsimp only
        rw [hl7]
        exact ⟨(by repeat' first | exact True.intro | refine ⟨rfl, ?_⟩), (by repeat' first | exact True.intro | refine ⟨rfl, ?_⟩), Mem.le_refl _, rfl⟩
      · have h1 : ¬ 0 < S.used.getD j 0 := by simpa using g1
        rw [if_neg h1, List.append_nil] at hnx
        (conv => whnf); refine ob (inR_i64 (by first | omega | (dsimp only; omega))) ?_
        (conv => whnf)
        refine ⟨⟨j + 1, M6, (a6, c6)⟩, ⟨by omega, by rw [hnx]; exact hN6⟩, by dsimp only; omega, ?_⟩
        dsimp only
        rw [hnx]
        exact ⟨(by repeat' first | exact True.intro | refine ⟨rfl, ?_⟩), (by repeat' first | exact True.intro | refine ⟨rfl, ?_⟩), Mem.le_refl _, rfl⟩
    · (conv => whnf)
      refine (Marks_ok h4.at'.set (by have := h.room; omega) hes).mono ?_
      rintro v M5 ⟨ma, mn, mc, mk, rfl, hMk0, hp, hs⟩
      have h5 := h4.to hMk0.row.le
      have hHe := hH0.up hMk0.row.le
      have hMk := hMk0.mono' hH0.row.le
      have hleM := hHe.row.le
      repeat' ((conv => whnf); first | refine ob rfl ?_ | refine grow_same hleM ?_ | refine ob hleM ?_ | refine ⟨?_, True.intro⟩ | fail)
      repeat' ((conv => whnf); first | refine ⟨?_, True.intro⟩ | refine brn_t rfl ?_ | refine brn_f rfl ?_ | refine ob rfl ?_ | refine ob (by decide) ?_ | refine grow_same (Mem.le_refl _) ?_ | refine ob (Mem.le_refl _) ?_ | refine ⟨_, Mem.le_refl _, ?_⟩ | fail)
      have hrow := stCs_row h5.at' hI
      refine on hrow ?_
      (conv => whnf)
      refine loopF (σ := Nat × Mem × (Option Addr × Nat)) [29] (fun x => [(29, .int .i64 x.1)]) (fun x => [.live T.api_State [.v (.int .i64 0), .v (.int .i64 0), .v (.slice none 0 0), .v (.slice none 0 0), .v (.slice none 0 0)], .live T.api_State [.v (.int .i64 S.self), .v (.int .i64 S.epoch), .v (.slice x.2.2.1 (usedD (S.used.take x.1)).length x.2.2.2), .v (.slice ha hn hc), .v (.slice ma mn mc)]]) (fun x => x.2.1)
        (fun | ⟨j, M6, (a6, c6)⟩ => j ≤ 64 ∧ NewSl M5 T.api_Next 2 a6 (usedD (S.used.take j)).length c6 ((usedD (S.used.take j)).flatMap encN) M6) (fun x => 64 - x.1) ⟨0, M5, (none, 0)⟩ ⟨by omega, NewSl.none M5 _ _⟩ ⟨(by repeat' first | exact True.intro | refine ⟨rfl, ?_⟩), (by repeat' first | exact True.intro | refine ⟨rfl, ?_⟩), Mem.le_refl _, rfl⟩ ?_
      rintro ⟨j, M6, ⟨a6, c6⟩⟩ ⟨hj, hN6⟩
      have hul : (usedD (S.used.take j)).length ≤ (S.used.take j).length := usedF_len _ 0
      have huj : (S.used.take j).length ≤ 64 := by simp; omega
      (conv => whnf); refine brn (fun g => ?_) (fun g => ?_)
      rotate_left
      · have hge : 64 ≤ j := by have := of_decide_eq_false g; dsimp only at this; omega
        rw [List.take_of_length_le (by rw [hI.ulen]; omega)] at hN6 ⊢
        repeat' ((conv => whnf); first | refine ⟨?_, True.intro⟩ | refine brn_t rfl ?_ | refine brn_f rfl ?_ | refine ob rfl ?_ | refine ob (by decide) ?_ | refine grow_same (Mem.le_refl _) ?_ | refine ob (Mem.le_refl _) ?_ | refine ⟨_, Mem.le_refl _, ?_⟩ | fail)
        have hl1 := hHe.len
        have hl2 := hMk.len
        subst hl1
        subst hl2
        exact ⟨a6, c6, ha, hc, ms, ma, mc, mk, rfl, Mem.le_trans hleM hN6.le, hN6.mono hleM, hHe.up hN6.le, hmsg, hMk.up hN6.le, hp, marks_canon h.invE hp hs⟩
      have hlt : j < 64 := by have := of_decide_eq_true g; dsimp only at this; omega
      have hnx : usedD (S.used.take (j + 1)) = usedD (S.used.take j) ++ (if 0 < S.used.getD j 0 then [((j : Int), S.used.getD j 0)] else []) := by
        have := usedF_take S.used 0 j (by rw [hI.ulen]; omega)
        rw [Nat.zero_add] at this
        exact this
      (conv => whnf); refine ob (by first | omega | (dsimp only; omega)) ?_
      (conv => whnf); refine on (take64 (fun i => S.used.getD i 0) hlt) ?_
      (conv => whnf); refine brn (fun g1 => ?_) (fun g1 => ?_)
      · have h1 : 0 < S.used.getD j 0 := by simpa using g1
        rw [if_pos h1] at hnx
        repeat' ((conv => whnf); first | refine ⟨?_, True.intro⟩ | refine brn_t rfl ?_ | refine brn_f rfl ?_ | refine ob rfl ?_ | refine ob (by decide) ?_ | refine grow_same (Mem.le_refl _) ?_ | refine ob (Mem.le_refl _) ?_ | refine ⟨_, Mem.le_refl _, ?_⟩ | fail)
        refine appF M5 hN6 ((j : Int), S.used.getD j 0) rfl (by first | omega | (dsimp only; omega)) (by simp [maxLen]; omega) (by simp [Value.oneCell']) fun a7 c7 M7 hN7 _ => ?_
        (conv => whnf); refine ob (inR_i64 (by first | omega | (dsimp only; omega))) ?_
        (conv => whnf)
        rw [← hnx] at hN7
        have hl7 : (usedD (S.used.take (j + 1))).length = (usedD (S.used.take j)).length + 1 := by rw [hnx]; simp
        rw [← hl7] at hN7
        refine ⟨⟨j + 1, M7, (a7, c7)⟩, ⟨by omega, hN7⟩, by dsimp only; omega, ?_⟩
        dsimp only
        rw [hl7]
        exact ⟨(by repeat' first | exact True.intro | refine ⟨rfl, ?_⟩), (by repeat' first | exact True.intro | refine ⟨rfl, ?_⟩), Mem.le_refl _, rfl⟩
      · have h1 : ¬ 0 < S.used.getD j 0 := by simpa using g1
        rw [if_neg h1, List.append_nil] at hnx
        (conv => whnf); refine ob (inR_i64 (by first | omega | (dsimp only; omega))) ?_
        (conv => whnf)
        refine ⟨⟨j + 1, M6, (a6, c6)⟩, ⟨by omega, by rw [hnx]; exact hN6⟩, by dsimp only; omega, ?_⟩
        dsimp only
        rw [hnx]
        exact ⟨(by repeat' first | exact True.intro | refine ⟨rfl, ?_⟩), (by repeat' first | exact True.intro | refine ⟨rfl, ?_⟩), Mem.le_refl _, rfl⟩
  · (conv => whnf)
    refine (Held_ok h hcm).mono ?_
    rintro v M4 ⟨ha, hn, hc, ms, rfl, hH0, hmsg⟩
    have h4 := h.to hH0.row.le
    repeat' ((conv => whnf); first | refine ob rfl ?_ | refine grow_same hH0.row.le ?_ | refine ob hH0.row.le ?_ | refine ⟨?_, True.intro⟩ | fail)
    repeat' ((conv => whnf); first | refine ⟨?_, True.intro⟩ | refine ⟨?_, ?_, True.intro⟩ | refine brn_t rfl ?_ | refine brn_f rfl ?_ | refine ob rfl ?_ | refine ob (by decide) ?_ | refine grow_same (Mem.le_refl _) ?_ | refine ob (Mem.le_refl _) ?_ | refine ⟨_, Mem.le_refl _, ?_⟩ | fail)
    (conv => whnf)
    refine (Marks_ok h4.at'.set (by have := h.room; omega) hes).mono ?_
    rintro v M5 ⟨ma, mn, mc, mk, rfl, hMk0, hp, hs⟩
    have h5 := h4.to hMk0.row.le
    have hHe := hH0.up hMk0.row.le
    have hMk := hMk0.mono' hH0.row.le
    have hleM := hHe.row.le
    repeat' ((conv => whnf); first | refine ob rfl ?_ | refine grow_same hleM ?_ | refine ob hleM ?_ | refine ⟨?_, True.intro⟩ | fail)
    repeat' ((conv => whnf); first | refine ⟨?_, True.intro⟩ | refine brn_t rfl ?_ | refine brn_f rfl ?_ | refine ob rfl ?_ | refine ob (by decide) ?_ | refine grow_same (Mem.le_refl _) ?_ | refine ob (Mem.le_refl _) ?_ | refine ⟨_, Mem.le_refl _, ?_⟩ | fail)
    have hrow := stCs_row h5.at' hI
    refine on hrow ?_
    (conv => whnf)
    refine loopF (σ := Nat × Mem × (Option Addr × Nat)) [29] (fun x => [(29, .int .i64 x.1)]) (fun x => [.live T.api_State [.v (.int .i64 0), .v (.int .i64 0), .v (.slice none 0 0), .v (.slice none 0 0), .v (.slice none 0 0)], .live T.api_State [.v (.int .i64 S.self), .v (.int .i64 S.epoch), .v (.slice x.2.2.1 (usedD (S.used.take x.1)).length x.2.2.2), .v (.slice ha hn hc), .v (.slice ma mn mc)]]) (fun x => x.2.1)
      (fun | ⟨j, M6, (a6, c6)⟩ => j ≤ 64 ∧ NewSl M5 T.api_Next 2 a6 (usedD (S.used.take j)).length c6 ((usedD (S.used.take j)).flatMap encN) M6) (fun x => 64 - x.1) ⟨0, M5, (none, 0)⟩ ⟨by omega, NewSl.none M5 _ _⟩ ⟨(by repeat' first | exact True.intro | refine ⟨rfl, ?_⟩), (by repeat' first | exact True.intro | refine ⟨rfl, ?_⟩), Mem.le_refl _, rfl⟩ ?_
    rintro ⟨j, M6, ⟨a6, c6⟩⟩ ⟨hj, hN6⟩
    have hul : (usedD (S.used.take j)).length ≤ (S.used.take j).length := usedF_len _ 0
    have huj : (S.used.take j).length ≤ 64 := by simp; omega
    (conv => whnf); refine brn (fun g => ?_) (fun g => ?_)
    rotate_left
    · have hge : 64 ≤ j := by have := of_decide_eq_false g; dsimp only at this; omega
      rw [List.take_of_length_le (by rw [hI.ulen]; omega)] at hN6 ⊢
      repeat' ((conv => whnf); first | refine ⟨?_, True.intro⟩ | refine brn_t rfl ?_ | refine brn_f rfl ?_ | refine ob rfl ?_ | refine ob (by decide) ?_ | refine grow_same (Mem.le_refl _) ?_ | refine ob (Mem.le_refl _) ?_ | refine ⟨_, Mem.le_refl _, ?_⟩ | fail)
      have hl1 := hHe.len
      have hl2 := hMk.len
      subst hl1
      subst hl2
      exact ⟨a6, c6, ha, hc, ms, ma, mc, mk, rfl, Mem.le_trans hleM hN6.le, hN6.mono hleM, hHe.up hN6.le, hmsg, hMk.up hN6.le, hp, marks_canon h.invE hp hs⟩
    have hlt : j < 64 := by have := of_decide_eq_true g; dsimp only at this; omega
    have hnx : usedD (S.used.take (j + 1)) = usedD (S.used.take j) ++ (if 0 < S.used.getD j 0 then [((j : Int), S.used.getD j 0)] else []) := by
      have := usedF_take S.used 0 j (by rw [hI.ulen]; omega)
      rw [Nat.zero_add] at this
      exact this
    (conv => whnf); refine ob (by first | omega | (dsimp only; omega)) ?_
    (conv => whnf); refine on (take64 (fun i => S.used.getD i 0) hlt) ?_
    (conv => whnf); refine brn (fun g1 => ?_) (fun g1 => ?_)
    · have h1 : 0 < S.used.getD j 0 := by simpa using g1
      rw [if_pos h1] at hnx
      repeat' ((conv => whnf); first | refine ⟨?_, True.intro⟩ | refine brn_t rfl ?_ | refine brn_f rfl ?_ | refine ob rfl ?_ | refine ob (by decide) ?_ | refine grow_same (Mem.le_refl _) ?_ | refine ob (Mem.le_refl _) ?_ | refine ⟨_, Mem.le_refl _, ?_⟩ | fail)
      refine appF M5 hN6 ((j : Int), S.used.getD j 0) rfl (by first | omega | (dsimp only; omega)) (by simp [maxLen]; omega) (by simp [Value.oneCell']) fun a7 c7 M7 hN7 _ => ?_
      (conv => whnf); refine ob (inR_i64 (by first | omega | (dsimp only; omega))) ?_
      (conv => whnf)
      rw [← hnx] at hN7
      have hl7 : (usedD (S.used.take (j + 1))).length = (usedD (S.used.take j)).length + 1 := by rw [hnx]; simp
      rw [← hl7] at hN7
      refine ⟨⟨j + 1, M7, (a7, c7)⟩, ⟨by omega, hN7⟩, by dsimp only; omega, ?_⟩
      dsimp only
      rw [hl7]
      exact ⟨(by repeat' first | exact True.intro | refine ⟨rfl, ?_⟩), (by repeat' first | exact True.intro | refine ⟨rfl, ?_⟩), Mem.le_refl _, rfl⟩
    · have h1 : ¬ 0 < S.used.getD j 0 := by simpa using g1
      rw [if_neg h1, List.append_nil] at hnx
      (conv => whnf); refine ob (inR_i64 (by first | omega | (dsimp only; omega))) ?_
      (conv => whnf)
      refine ⟨⟨j + 1, M6, (a6, c6)⟩, ⟨by omega, by rw [hnx]; exact hN6⟩, by dsimp only; omega, ?_⟩
      dsimp only
      rw [hnx]
      exact ⟨(by repeat' first | exact True.intro | refine ⟨rfl, ?_⟩), (by repeat' first | exact True.intro | refine ⟨rfl, ?_⟩), Mem.le_refl _, rfl⟩
end Go.Proofs.YtlocjjponfbhmaaGreat

