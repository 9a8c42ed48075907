/- The log: open. -/
import Derived.Test.YtnlghoenbhbfhaaJoin26
namespace Go.Proofs.Ytnlghoenbhbfhaa
open Go Go.Vm
attribute [local irreducible] Brn Ob Grow CallsM inR LoopVC Mem.row Mem.cells Mem.setCells Mem.upd Go.Vm.Own AppVC SrcVC StrVC NextVC New SrcOk subA NewSl Mem.textAt Mem.mapAt Mem.iterAt entryOf kfind Wr NewEls Elems
set_option maxRecDepth 10000
variable {M M0 : Mem} {g p b : Nat} {D : DiskR} {es : FsT}
/-- beside a log: what lay there before, and is new -/
theorem LogAt.z {L : LogR} (_h : LogAt M0 M g p b D es L) {M' : Mem} {D' : DiskR} {es' : FsT} {L' : LogR} (h' : LogAt (M.minus (logB g p b es)) M' g p b D' es' L') : (M.minus (logB g p b es)).le (M'.minus (logB g p b es')) := h'.base.2
theorem LogAt.zle {L : LogR} (h : LogAt M0 M g p b D es L) {M' : Mem} (hle : M.le M') : (M.minus (logB g p b es)).le (M'.minus (logB g p b es)) := (h.base.1.to hle).base.2
structure OpS where
  f : Nat
  next : Int
  M : Mem
  D : DiskR
  es : FsT
  last : Int
  a : Option Addr
  c : Nat
  all : List (List UInt8)
structure OpI (B0 : Mem) (g p b bq : Nat) (L : LogR) (R : DiskR × Int × Int × List (List UInt8) × Int) (y : OpS) : Prop where
  fu : y.f = (100000 - y.next).toNat ∧ 1 ≤ y.next ∧ y.next ≤ 100000
  log : LogAt B0 y.M g p b y.D y.es { L with last := y.last }
  bx : (y.M.minus (logB g p b y.es)).has bq T.p_wal_Log [ptr g]
  all' : AllAt B0 (y.M.minus (logB g p b y.es)) y.a y.all.length y.c y.all
  nm : NamesW y.D
  eq : R = openLoop y.f y.D y.next y.last y.all
  len : (y.all.length : Int) + (100000 - y.next) * 1048576 ≤ 104857600000
set_option maxRecDepth 10000 in
theorem open_okL {L : LogR} (h : LogAt M0 M g p b D es L) (hW : NamesW D) (hf : 1 ≤ L.first ∧ L.first ≤ 99999) (_hfl : L.failed = false) :
    CallsM Try.prog F.wal_Log_open [ptr g] M fun v M' => ∃ es' a n c, v = .tuple #[.slice a n c, .int .i64 (openR D L).2.2.2] ∧ LogAt M0 M' g p b (openR D L).1 es' (openR D L).2.1 ∧
      ((openR D L).2.2.2 = 0 → AllAt M0 (M'.minus (logB g p b es')) a n c (openR D L).2.2.1) := by
  refine fo_wal_Log_open (by simp) ?_
  obtain ⟨h0, hM0⟩ := h.base
  obtain ⟨B0, hB0⟩ : ∃ B0, B0 = M.minus (logB g p b es) := ⟨_, rfl⟩
  rw [← hB0] at h0 hM0
  repeat' ((conv => whnf); first | refine ⟨?_, True.intro⟩ | refine brn_t rfl ?_ | refine brn_f rfl ?_ | refine ob rfl ?_ | refine ob (by decide) ?_ | refine grow_same (Mem.le_refl _) ?_ | refine ob (Mem.le_refl _) ?_ | refine ⟨_, Mem.le_refl _, ?_⟩ | fail)
  refine new (fun bq hbl => ?_)
  replace hbl : M bq = none := hbl
  have hle1 : M.le (M.setCells bq T.p_wal_Log [ptr g]) := Mem.le_setCells hbl
  have hb1 : (M.setCells bq T.p_wal_Log [ptr g]).has bq T.p_wal_Log [ptr g] := Mem.has_setCells
  obtain ⟨M1, hM1⟩ : ∃ M1, M1 = M.setCells bq T.p_wal_Log [ptr g] := ⟨_, rfl⟩
  rw [← hM1] at hle1 hb1
  (conv => whnf)
  erw [← hM1]
  have h1 := h0.to hle1
  refine (segs_ok h1 hW (pick1_ok hb1 h1.self)).mono ?_
  rintro v M2 ⟨a2, n2, c2, rfl, hn2, hN2⟩
  have hle2 := hN2.le
  (conv => whnf); refine ob (hb1.le hle2) ?_
  (conv => whnf); refine grow_same (Mem.le_trans hle1 hle2) ?_
  repeat' ((conv => whnf); first | refine ⟨?_, True.intro⟩ | refine brn_t rfl ?_ | refine brn_f rfl ?_ | refine ob rfl ?_ | refine ob (by decide) ?_ | refine grow_same (Mem.le_refl _) ?_ | refine ob (Mem.le_refl _) ?_ | refine ⟨_, Mem.le_refl _, ?_⟩ | fail)
  have h2 := h1.to hle2
  have hs2 : SrcOk (M2.minus (logB g p b es)) 1 a2 n2 ((segsR D fun k => decide (k < L.first)).map intV) := hN2.src.minus fun q hq hb => h1.full hb (hN2.block hq).1
  have hbl2 : (M2.minus (logB g p b es)).has bq T.p_wal_Log [ptr g] := by
    have := hb1.le hle2
    unfold Mem.has at this ⊢
    unfold Mem.minus
    rw [if_neg fun hb => h0.full hb hbl]
    exact this
  have hsl : (segsR D fun k => decide (k < L.first)).length ≤ 64 := by
    have := h.disk.inv.len
    refine Nat.le_trans (List.length_filter_le _ _) ?_
    simpa using this
  refine (remove_okL h2.base.1 hs2 (by omega)).mono ?_
  rintro v M3 ⟨es3, rfl, h3⟩
  have hz23 := h2.z h3
  obtain ⟨r, hr⟩ : ∃ r, r = removeAll D (segsR D fun k => decide (k < L.first)) := ⟨_, rfl⟩
  have hO : openR D L = if r.2 ≠ 0 then (r.1, L, [], r.2) else
    if (openLoop (100000 - L.first).toNat r.1 L.first L.last []).2.2.2.2 ≠ 0 then ((openLoop (100000 - L.first).toNat r.1 L.first L.last []).1, { L with last := (openLoop (100000 - L.first).toNat r.1 L.first L.last []).2.2.1 }, [], (openLoop (100000 - L.first).toNat r.1 L.first L.last []).2.2.2.2)
    else ((removeAll (openLoop (100000 - L.first).toNat r.1 L.first L.last []).1 (segsR (openLoop (100000 - L.first).toNat r.1 L.first L.last []).1 fun k => decide ((openLoop (100000 - L.first).toNat r.1 L.first L.last []).2.1 ≤ k)).reverse).1,
      { L with last := (openLoop (100000 - L.first).toNat r.1 L.first L.last []).2.2.1 }, (openLoop (100000 - L.first).toNat r.1 L.first L.last []).2.2.2.1,
      (removeAll (openLoop (100000 - L.first).toNat r.1 L.first L.last []).1 (segsR (openLoop (100000 - L.first).toNat r.1 L.first L.last []).1 fun k => decide ((openLoop (100000 - L.first).toNat r.1 L.first L.last []).2.1 ≤ k)).reverse).2) := by rw [hr]; rfl
  rw [← hr] at h3 ⊢
  have hWr : NamesW r.1 := hr ▸ hW.removeAll
  replace h3 : LogAt B0 M3 g p b r.1 es3 L := h3.mono h2.base.2
  have hbl3 := hbl2.le hz23
  clear hbl2 hz23 hs2 h2 hN2 hle2 hsl
  (conv => whnf); refine brn (fun e => ?_) (fun e => ?_)
  · have e1 : r.2 ≠ 0 := by simpa using e
    repeat' ((conv => whnf); first | refine ⟨?_, True.intro⟩ | refine brn_t rfl ?_ | refine brn_f rfl ?_ | refine ob rfl ?_ | refine ob (by decide) ?_ | refine grow_same (Mem.le_refl _) ?_ | refine ob (Mem.le_refl _) ?_ | refine ⟨_, Mem.le_refl _, ?_⟩ | fail)
    rw [hO, if_pos e1]
    exact ⟨es3, none, 0, 0, rfl, h3.mono hM0, fun h => absurd h e1⟩
  have e1 : ¬ r.2 ≠ 0 := by simpa using e
  rw [if_neg e1] at hO
  repeat' ((conv => whnf); first | refine ⟨?_, True.intro⟩ | refine brn_t rfl ?_ | refine brn_f rfl ?_ | refine ob rfl ?_ | refine ob (by decide) ?_ | refine grow_same (Mem.le_refl _) ?_ | refine ob (Mem.le_refl _) ?_ | refine ⟨_, Mem.le_refl _, ?_⟩ | fail)
  refine on ((hbl3.le (Mem.minus_le _ _)).c1 rfl) ?_
  (conv => whnf); refine on (h3.self.c1 rfl) ?_
  (conv => whnf)
  obtain ⟨R, hR⟩ : ∃ R, R = openLoop (100000 - L.first).toNat r.1 L.first L.last [] := ⟨_, rfl⟩
  rw [← hR] at hO
  refine loopF (σ := OpS) [5] (fun y => [(5, .slice y.a y.all.length y.c)]) (fun y => [.gone bq, .live T.int [.v (.int .i64 y.next)]]) (fun y => y.M) (OpI B0 g p b bq L R) (fun y => y.f) ⟨(100000 - L.first).toNat, L.first, M3, r.1, es3, L.last, none, 0, []⟩
    ⟨⟨rfl, by dsimp only; omega, by dsimp only; omega⟩, h3, hbl3, (NewEls.nil _ _ _ _).mono h3.base.2, hWr, hR, by dsimp only [List.length_nil]; omega⟩ ⟨(by repeat' first | exact True.intro | refine ⟨rfl, ?_⟩), (by repeat' first | exact True.intro | refine ⟨rfl, ?_⟩), Mem.le_refl _, rfl⟩ ?_
  rintro ⟨f, nx, Mc, Dc, ec, la, aa, ac, all⟩ ⟨⟨hfu, hnx1, hnx2⟩, hL, hbx, hA, hWc, hE, hlen⟩
  dsimp only at hfu hnx1 hnx2 hL hbx hA hWc hE hlen
  have hbM := hbx.le (Mem.minus_le Mc (logB g p b ec))
  repeat' ((conv => whnf); first | refine ⟨?_, True.intro⟩ | refine brn_t rfl ?_ | refine brn_f rfl ?_ | refine ob rfl ?_ | refine ob (by decide) ?_ | refine grow_same (Mem.le_refl _) ?_ | refine ob (Mem.le_refl _) ?_ | refine ⟨_, Mem.le_refl _, ?_⟩ | fail)
  refine on (hbM.c1 rfl) ?_
  (conv => whnf); refine on (hL.self.c1 rfl) ?_
  repeat' ((conv => whnf); first | refine ⟨?_, True.intro⟩ | refine brn_t rfl ?_ | refine brn_f rfl ?_ | refine ob rfl ?_ | refine ob (by decide) ?_ | refine grow_same (Mem.le_refl _) ?_ | refine ob (Mem.le_refl _) ?_ | refine ⟨_, Mem.le_refl _, ?_⟩ | fail)
  refine (name_ok nx).mono ?_
  rintro v M4 ⟨rfl, hle4⟩
  have hL4 := hL.to hle4
  repeat' ((conv => whnf); first | refine ob rfl ?_ | refine grow_same hle4 ?_ | refine ob hle4 ?_ | refine ⟨?_, True.intro⟩ | fail)
  repeat' ((conv => whnf); first | refine ⟨?_, True.intro⟩ | refine brn_t rfl ?_ | refine brn_f rfl ?_ | refine ob rfl ?_ | refine ob (by decide) ?_ | refine grow_same (Mem.le_refl _) ?_ | refine ob (Mem.le_refl _) ?_ | refine ⟨_, Mem.le_refl _, ?_⟩ | fail)
  refine (readF hL4.disk (name_size nx)).mono ?_
  rintro v M5 ⟨pa, pn, pc, rfl, hpn, hpN⟩
  have hL5 := hL4.to hpN.le
  have hz5 := hL.zle (Mem.le_trans hle4 hpN.le)
  have hbx5 := hbx.le hz5
  have hA5 := hA.up hz5
  have hp5 : SrcOk (M5.minus (logB g p b ec)) 1 pa pn ((bl (readR Dc (nameB nx)).1).map byteV) := hpN.src.minus fun q hq hb => hL4.full hb (hpN.block hq).1
  have hb5 := hbx5.le (Mem.minus_le M5 (logB g p b ec))
  have hus := hL.disk.inv.used
  (conv => whnf); refine brn (fun e => ?_) (fun e => ?_)
  · have e2 : 99999 < nx := of_decide_eq_true e
    have hRe : R = (Dc, nx, la, all, 0) := by
      rw [hE]
      cases f with
      | zero => rfl
      | succ f => rw [openLoop, if_pos (.inl e2)]
    rw [if_neg (by rw [hRe]; simp)] at hO
    have hbMe := hbx5.le (Mem.minus_le M5 (logB g p b ec))
    repeat' ((conv => whnf); first | refine ⟨?_, True.intro⟩ | refine brn_t rfl ?_ | refine brn_f rfl ?_ | refine ob rfl ?_ | refine ob (by decide) ?_ | refine grow_same (Mem.le_refl _) ?_ | refine ob (Mem.le_refl _) ?_ | refine ⟨_, Mem.le_refl _, ?_⟩ | fail)
    refine on (hbMe.c1 rfl) ?_
    repeat' ((conv => whnf); first | refine ⟨?_, True.intro⟩ | refine brn_t rfl ?_ | refine brn_f rfl ?_ | refine ob rfl ?_ | refine ob (by decide) ?_ | refine grow_same (Mem.le_refl _) ?_ | refine ob (Mem.le_refl _) ?_ | refine ⟨_, Mem.le_refl _, ?_⟩ | fail)
    refine new (fun b2 hb2 => ?_)
    replace hb2 : M5 b2 = none := hb2
    have hle6 : M5.le (M5.setCells b2 T.int [.int .i64 nx]) := Mem.le_setCells hb2
    have hb6 : (M5.setCells b2 T.int [.int .i64 nx]).has b2 T.int [.int .i64 nx] := Mem.has_setCells
    obtain ⟨M6, hM6⟩ : ∃ M6, M6 = M5.setCells b2 T.int [.int .i64 nx] := ⟨_, rfl⟩
    rw [← hM6] at hle6 hb6
    (conv => whnf)
    erw [← hM6]
    have hL6 := hL5.to hle6
    refine (segs_ok hL6 hWc (pick2_ok hb6)).mono ?_
    rintro v M7 ⟨a7, n7, c7, rfl, hn7, hN7⟩
    have hsl7 : n7 ≤ 64 := by
      have := hL5.disk.inv.len
      rw [hn7]
      refine Nat.le_trans (List.length_filter_le _ _) ?_
      simpa using this
    repeat' ((conv => whnf); first | refine ⟨?_, True.intro⟩ | refine brn_t rfl ?_ | refine brn_f rfl ?_ | refine ob rfl ?_ | refine ob (by decide) ?_ | refine grow_same (Mem.le_refl _) ?_ | refine ob (Mem.le_refl _) ?_ | refine ⟨_, Mem.le_refl _, ?_⟩ | fail)
    refine (reverse_okL hN7 (by omega)).mono ?_
    rintro v M8 ⟨rfl, hN8, -⟩
    have hL8 := hL6.to hN8.le
    have hs8 : SrcOk (M8.minus (logB g p b ec)) 1 a7 n7 ((segsR Dc fun k => decide (nx ≤ k)).reverse.map intV) := hN8.src.minus fun q hq hb => hL6.full hb (hN8.block hq).1
    have hz8 := hL5.zle (Mem.le_trans hle6 hN8.le)
    have hb8 := (hbx5.le hz8).le (Mem.minus_le M8 (logB g p b ec))
    repeat' ((conv => whnf); first | refine ⟨?_, True.intro⟩ | refine brn_t rfl ?_ | refine brn_f rfl ?_ | refine ob rfl ?_ | refine ob (by decide) ?_ | refine grow_same (Mem.le_refl _) ?_ | refine ob (Mem.le_refl _) ?_ | refine ⟨_, Mem.le_refl _, ?_⟩ | fail)
    refine on (hb8.c1 rfl) ?_
    repeat' ((conv => whnf); first | refine ⟨?_, True.intro⟩ | refine brn_t rfl ?_ | refine brn_f rfl ?_ | refine ob rfl ?_ | refine ob (by decide) ?_ | refine grow_same (Mem.le_refl _) ?_ | refine ob (Mem.le_refl _) ?_ | refine ⟨_, Mem.le_refl _, ?_⟩ | fail)
    refine (remove_okL hL8.base.1 hs8 (by omega)).mono ?_
    rintro v M9 ⟨es9, rfl, h9⟩
    repeat' ((conv => whnf); first | refine ⟨?_, True.intro⟩ | refine brn_t rfl ?_ | refine brn_f rfl ?_ | refine ob rfl ?_ | refine ob (by decide) ?_ | refine grow_same (Mem.le_refl _) ?_ | refine ob (Mem.le_refl _) ?_ | refine ⟨_, Mem.le_refl _, ?_⟩ | fail)
    rw [hO, hRe]
    exact ⟨es9, aa, all.length, ac, rfl, h9.mono (Mem.le_trans hM0 hL8.base.2), fun _ => ((hA5.up hz8).up (hL8.z h9)).mono hM0⟩
  have e2 : ¬ 99999 < nx := of_decide_eq_false e
  repeat' ((conv => whnf); first | refine ⟨?_, True.intro⟩ | refine brn_t rfl ?_ | refine brn_f rfl ?_ | refine ob rfl ?_ | refine ob (by decide) ?_ | refine grow_same (Mem.le_refl _) ?_ | refine ob (Mem.le_refl _) ?_ | refine ⟨_, Mem.le_refl _, ?_⟩ | fail)
  refine brn (fun e => ?_) (fun e => ?_)
  · have e3 : (readR Dc (nameB nx)).2 = 4 := of_decide_eq_true e
    have hRe : R = (Dc, nx, la, all, 0) := by
      rw [hE]
      cases f with
      | zero => rfl
      | succ f => rw [openLoop, if_pos (.inr e3)]
    rw [if_neg (by rw [hRe]; simp)] at hO
    have hbMe := hbx5.le (Mem.minus_le M5 (logB g p b ec))
    repeat' ((conv => whnf); first | refine ⟨?_, True.intro⟩ | refine brn_t rfl ?_ | refine brn_f rfl ?_ | refine ob rfl ?_ | refine ob (by decide) ?_ | refine grow_same (Mem.le_refl _) ?_ | refine ob (Mem.le_refl _) ?_ | refine ⟨_, Mem.le_refl _, ?_⟩ | fail)
    refine on (hbMe.c1 rfl) ?_
    repeat' ((conv => whnf); first | refine ⟨?_, True.intro⟩ | refine brn_t rfl ?_ | refine brn_f rfl ?_ | refine ob rfl ?_ | refine ob (by decide) ?_ | refine grow_same (Mem.le_refl _) ?_ | refine ob (Mem.le_refl _) ?_ | refine ⟨_, Mem.le_refl _, ?_⟩ | fail)
    refine new (fun b2 hb2 => ?_)
    replace hb2 : M5 b2 = none := hb2
    have hle6 : M5.le (M5.setCells b2 T.int [.int .i64 nx]) := Mem.le_setCells hb2
    have hb6 : (M5.setCells b2 T.int [.int .i64 nx]).has b2 T.int [.int .i64 nx] := Mem.has_setCells
    obtain ⟨M6, hM6⟩ : ∃ M6, M6 = M5.setCells b2 T.int [.int .i64 nx] := ⟨_, rfl⟩
    rw [← hM6] at hle6 hb6
    (conv => whnf)
    erw [← hM6]
    have hL6 := hL5.to hle6
    refine (segs_ok hL6 hWc (pick2_ok hb6)).mono ?_
    rintro v M7 ⟨a7, n7, c7, rfl, hn7, hN7⟩
    have hsl7 : n7 ≤ 64 := by
      have := hL5.disk.inv.len
      rw [hn7]
      refine Nat.le_trans (List.length_filter_le _ _) ?_
      simpa using this
    repeat' ((conv => whnf); first | refine ⟨?_, True.intro⟩ | refine brn_t rfl ?_ | refine brn_f rfl ?_ | refine ob rfl ?_ | refine ob (by decide) ?_ | refine grow_same (Mem.le_refl _) ?_ | refine ob (Mem.le_refl _) ?_ | refine ⟨_, Mem.le_refl _, ?_⟩ | fail)
    refine (reverse_okL hN7 (by omega)).mono ?_
    rintro v M8 ⟨rfl, hN8, -⟩
    have hL8 := hL6.to hN8.le
    have hs8 : SrcOk (M8.minus (logB g p b ec)) 1 a7 n7 ((segsR Dc fun k => decide (nx ≤ k)).reverse.map intV) := hN8.src.minus fun q hq hb => hL6.full hb (hN8.block hq).1
    have hz8 := hL5.zle (Mem.le_trans hle6 hN8.le)
    have hb8 := (hbx5.le hz8).le (Mem.minus_le M8 (logB g p b ec))
    repeat' ((conv => whnf); first | refine ⟨?_, True.intro⟩ | refine brn_t rfl ?_ | refine brn_f rfl ?_ | refine ob rfl ?_ | refine ob (by decide) ?_ | refine grow_same (Mem.le_refl _) ?_ | refine ob (Mem.le_refl _) ?_ | refine ⟨_, Mem.le_refl _, ?_⟩ | fail)
    refine on (hb8.c1 rfl) ?_
    repeat' ((conv => whnf); first | refine ⟨?_, True.intro⟩ | refine brn_t rfl ?_ | refine brn_f rfl ?_ | refine ob rfl ?_ | refine ob (by decide) ?_ | refine grow_same (Mem.le_refl _) ?_ | refine ob (Mem.le_refl _) ?_ | refine ⟨_, Mem.le_refl _, ?_⟩ | fail)
    refine (remove_okL hL8.base.1 hs8 (by omega)).mono ?_
    rintro v M9 ⟨es9, rfl, h9⟩
    repeat' ((conv => whnf); first | refine ⟨?_, True.intro⟩ | refine brn_t rfl ?_ | refine brn_f rfl ?_ | refine ob rfl ?_ | refine ob (by decide) ?_ | refine grow_same (Mem.le_refl _) ?_ | refine ob (Mem.le_refl _) ?_ | refine ⟨_, Mem.le_refl _, ?_⟩ | fail)
    rw [hO, hRe]
    exact ⟨es9, aa, all.length, ac, rfl, h9.mono (Mem.le_trans hM0 hL8.base.2), fun _ => ((hA5.up hz8).up (hL8.z h9)).mono hM0⟩
  have e3 : ¬ (readR Dc (nameB nx)).2 = 4 := of_decide_eq_false e
  obtain ⟨f', rfl⟩ : ∃ f', f = f' + 1 := ⟨f - 1, by omega⟩
  rw [openLoop, if_neg (by omega)] at hE
  repeat' ((conv => whnf); first | refine ⟨?_, True.intro⟩ | refine brn_t rfl ?_ | refine brn_f rfl ?_ | refine ob rfl ?_ | refine ob (by decide) ?_ | refine grow_same (Mem.le_refl _) ?_ | refine ob (Mem.le_refl _) ?_ | refine ⟨_, Mem.le_refl _, ?_⟩ | fail)
  refine brn (fun e => ?_) (fun e => ?_)
  · have e4 : (readR Dc (nameB nx)).2 ≠ 0 := by simpa using e
    rw [if_pos e4] at hE
    rw [if_pos (by rw [hE]; exact e4)] at hO
    repeat' ((conv => whnf); first | refine ⟨?_, True.intro⟩ | refine brn_t rfl ?_ | refine brn_f rfl ?_ | refine ob rfl ?_ | refine ob (by decide) ?_ | refine grow_same (Mem.le_refl _) ?_ | refine ob (Mem.le_refl _) ?_ | refine ⟨_, Mem.le_refl _, ?_⟩ | fail)
    rw [hO, hE]
    exact ⟨ec, none, 0, 0, rfl, hL5.mono hM0, fun h => absurd h e4⟩
  have e4 : ¬ (readR Dc (nameB nx)).2 ≠ 0 := by simpa using e
  rw [if_neg e4] at hE
  repeat' ((conv => whnf); first | refine ⟨?_, True.intro⟩ | refine brn_t rfl ?_ | refine brn_f rfl ?_ | refine ob rfl ?_ | refine ob (by decide) ?_ | refine grow_same (Mem.le_refl _) ?_ | refine ob (Mem.le_refl _) ?_ | refine ⟨_, Mem.le_refl _, ?_⟩ | fail)
  refine on (hb5.c1 rfl) ?_
  repeat' ((conv => whnf); first | refine ⟨?_, True.intro⟩ | refine brn_t rfl ?_ | refine brn_f rfl ?_ | refine ob rfl ?_ | refine ob (by decide) ?_ | refine grow_same (Mem.le_refl _) ?_ | refine ob (Mem.le_refl _) ?_ | refine ⟨_, Mem.le_refl _, ?_⟩ | fail)
  refine on hL5.self.cells ?_
  (conv => whnf); refine ob (by simp) ?_
  have hL6 := hL5.base.1.set { L with last := nx }
  obtain ⟨M6, hM6⟩ : ∃ M6, M6 = M5.setCells g T.wal_Log (logCs p { L with last := nx }) := ⟨_, rfl⟩
  rw [← hM6] at hL6
  (conv => whnf)
  erw [← hM6]
  have hz6 := hL5.z hL6
  have hb6 := hbx5.le hz6
  have hA6 := hA5.up hz6
  have hp6 := hp5.le hL6.disk.le
  refine ob (inR_i64 (by first | omega | (dsimp only; omega))) ?_
  repeat' ((conv => whnf); first | refine ⟨?_, True.intro⟩ | refine brn_t rfl ?_ | refine brn_f rfl ?_ | refine ob rfl ?_ | refine ob (by decide) ?_ | refine grow_same (Mem.le_refl _) ?_ | refine ob (Mem.le_refl _) ?_ | refine ⟨_, Mem.le_refl _, ?_⟩ | fail)
  have hrow : (bl (readR Dc (nameB nx)).1).length ≤ 1048576 := by
    have h1 : thereE Dc (nameB nx) = 0 := by
      apply Classical.byContradiction
      intro hh
      have : (readR Dc (nameB nx)).2 = thereE Dc (nameB nx) := by unfold readR; rw [if_pos hh]
      exact e4 (by rw [this]; exact hh)
    have h2 : (readR Dc (nameB nx)).1 = (fileR Dc (nameB nx)).all := by unfold readR; rw [if_neg (by simp [h1])]
    have h3 := (without_some hL.disk.inv.sort (thereE_zero h1).2).2
    rw [h2, FileR.all_size]
    omega
  have hp6z : SrcOk (M6.minus (logB g p b ec)) 1 pa pn ((bl (readR Dc (nameB nx)).1).map byteV) := hp5.le hz6
  refine ((scan_ok hp6z (by omega) (by have := (newSl_iff.1 hpN).2.2.1; omega)).frame (Mem.minus_le _ _)).mono ?_
  rintro v M7 ⟨A7, ⟨sa, sn, sc, rfl, hsN⟩, hA7, hrest⟩
  obtain ⟨row, hrw⟩ : ∃ row, row = bl (readR Dc (nameB nx)).1 := ⟨_, rfl⟩
  rw [← hrw] at hE hrow hsN hpn ⊢
  obtain ⟨hi1, hi2, hi3⟩ := scanR_inv row.length row (Nat.le_refl _)
  have hsl := hsN.len
  have hsn : 9 * (scanR row).length ≤ lenR (scanR row) := by
    clear hsN hE hi1 hsl
    generalize scanR row = ps at *
    clear hi3
    induction ps with
    | nil => simp
    | cons q qs ih =>
      have h1 := (hi2 q (by simp)).1
      have h2 := ih fun z hz => hi2 z (by simp [hz])
      simp only [lenR, List.map_cons, List.sum_cons, List.length_cons] at h2 ⊢
      omega
  have hle7 : M6.le M7 := fun y o hy => by
    by_cases hz : (M6.minus (logB g p b ec)) y = none
    · exact (hrest y o hz hy).1
    · obtain ⟨o2, ho2⟩ := Option.ne_none_iff_exists'.1 hz
      have := Mem.minus_le _ _ y o2 ho2
      rw [hy] at this; cases this
      exact hA7 y o (hsN.le y o ho2)
  have hL7 := hL6.to hle7
  have hS1 : ∀ y, logB g p b ec y → A7 y = none := fun y hy => by
    obtain ⟨o, ho⟩ := Option.ne_none_iff_exists'.1 (hL6.full hy)
    exact (hrest y o (Mem.minus_in hy) ho).2
  (conv => whnf)
  refine (hA6.up hsN.le).app hA7 hS1 (fun y hy => hL7.full hy) hsN.elems (by omega) fun a8 c8 M8 hA8 hk8 hab hold8 => ?_
  have hL8 := (hL7.mono hL5.base.2).keepS hk8 hab
  have hb8 : (M8.minus (logB g p b ec)).has bq T.p_wal_Log [ptr g] := hold8 _ _ (hb6.le hsN.le) fun ⟨q, hq, e⟩ => by
    obtain ⟨-, cs, hh⟩ := NewEls.block hA6 hq
    rw [e] at hh
    exact absurd (hh.inj hb6).1 (by decide)
  have hbM8 := hb8.le (Mem.minus_le M8 (logB g p b ec))
  have el : all.length + sn = (all ++ scanR row).length := by rw [List.length_append, hsl]
  dsimp only
  rw [el] at hA8 ⊢
  repeat' ((conv => whnf); first | refine ⟨?_, True.intro⟩ | refine brn_t rfl ?_ | refine brn_f rfl ?_ | refine ob rfl ?_ | refine ob (by decide) ?_ | refine grow_same (Mem.le_refl _) ?_ | refine ob (Mem.le_refl _) ?_ | refine ⟨_, Mem.le_refl _, ?_⟩ | fail)
  have hpl : ((pn : Nat) : Int) = row.length := by rw [hpn]
  refine brn (fun e => ?_) (fun e => ?_)
  · have e5 : lenR (scanR row) < row.length := by have := of_decide_eq_true e; omega
    rw [if_pos e5] at hE
    repeat' ((conv => whnf); first | refine ⟨?_, True.intro⟩ | refine brn_t rfl ?_ | refine brn_f rfl ?_ | refine ob rfl ?_ | refine ob (by decide) ?_ | refine grow_same (Mem.le_refl _) ?_ | refine ob (Mem.le_refl _) ?_ | refine ⟨_, Mem.le_refl _, ?_⟩ | fail)
    refine on (hbM8.c1 rfl) ?_
    (conv => whnf); refine on (hL8.self.c1 rfl) ?_
    (conv => whnf); refine on (hbM8.c1 rfl) ?_
    (conv => whnf); refine on (hL8.self.c1 rfl) ?_
    repeat' ((conv => whnf); first | refine ⟨?_, True.intro⟩ | refine brn_t rfl ?_ | refine brn_f rfl ?_ | refine ob rfl ?_ | refine ob (by decide) ?_ | refine grow_same (Mem.le_refl _) ?_ | refine ob (Mem.le_refl _) ?_ | refine ⟨_, Mem.le_refl _, ?_⟩ | fail)
    refine (name_ok nx).mono ?_
    rintro v M9 ⟨rfl, hle9⟩
    have hL9 := hL8.to hle9
    repeat' ((conv => whnf); first | refine ob rfl ?_ | refine grow_same hle9 ?_ | refine ob hle9 ?_ | refine ⟨?_, True.intro⟩ | fail)
    repeat' ((conv => whnf); first | refine ⟨?_, True.intro⟩ | refine brn_t rfl ?_ | refine brn_f rfl ?_ | refine ob rfl ?_ | refine ob (by decide) ?_ | refine grow_same (Mem.le_refl _) ?_ | refine ob (Mem.le_refl _) ?_ | refine ⟨_, Mem.le_refl _, ?_⟩ | fail)
    refine (cutF hL9.disk.base.1 (name_size nx) (lenR (scanR row))).mono ?_
    rintro v M10 ⟨es10, rfl, h10⟩
    have hL10 := hL9.base.1.call h10
    have hz10 := Mem.le_trans (hL8.zle hle9) (hL9.z hL10)
    replace hL10 := hL10.mono hL9.base.2
    have hb10 := hb8.le hz10
    have hA10 := hA8.up hz10
    have hW10 := hWc.cut nx (lenR (scanR row))
    obtain ⟨C, hC⟩ : ∃ C, C = cutR Dc (nameB nx) (lenR (scanR row)) := ⟨_, rfl⟩
    rw [← hC] at hE hL10 hW10 ⊢
    repeat' ((conv => whnf); first | refine ⟨?_, True.intro⟩ | refine brn_t rfl ?_ | refine brn_f rfl ?_ | refine ob rfl ?_ | refine ob (by decide) ?_ | refine grow_same (Mem.le_refl _) ?_ | refine ob (Mem.le_refl _) ?_ | refine ⟨_, Mem.le_refl _, ?_⟩ | fail)
    refine brn (fun e => ?_) (fun e => ?_)
    · have e6 : C.2 ≠ 0 := by simpa using e
      rw [if_pos e6] at hE
      rw [if_pos (by rw [hE]; exact e6)] at hO
      repeat' ((conv => whnf); first | refine ⟨?_, True.intro⟩ | refine brn_t rfl ?_ | refine brn_f rfl ?_ | refine ob rfl ?_ | refine ob (by decide) ?_ | refine grow_same (Mem.le_refl _) ?_ | refine ob (Mem.le_refl _) ?_ | refine ⟨_, Mem.le_refl _, ?_⟩ | fail)
      rw [hO, hE]
      exact ⟨es10, none, 0, 0, rfl, hL10.mono hM0, fun h => absurd h e6⟩
    have e6 : ¬ C.2 ≠ 0 := by simpa using e
    rw [if_neg e6] at hE
    rw [if_neg (by rw [hE]; simp)] at hO
    have hbMe := hb10.le (Mem.minus_le M10 (logB g p b es10))
    repeat' ((conv => whnf); first | refine ⟨?_, True.intro⟩ | refine brn_t rfl ?_ | refine brn_f rfl ?_ | refine ob rfl ?_ | refine ob (by decide) ?_ | refine grow_same (Mem.le_refl _) ?_ | refine ob (Mem.le_refl _) ?_ | refine ⟨_, Mem.le_refl _, ?_⟩ | fail)
    refine on (hbMe.c1 rfl) ?_
    repeat' ((conv => whnf); first | refine ⟨?_, True.intro⟩ | refine brn_t rfl ?_ | refine brn_f rfl ?_ | refine ob rfl ?_ | refine ob (by decide) ?_ | refine grow_same (Mem.le_refl _) ?_ | refine ob (Mem.le_refl _) ?_ | refine ⟨_, Mem.le_refl _, ?_⟩ | fail)
    refine new (fun b2 hb2 => ?_)
    replace hb2 : M10 b2 = none := hb2
    have hle6 : M10.le (M10.setCells b2 T.int [.int .i64 (nx + 1)]) := Mem.le_setCells hb2
    have hb6 : (M10.setCells b2 T.int [.int .i64 (nx + 1)]).has b2 T.int [.int .i64 (nx + 1)] := Mem.has_setCells
    obtain ⟨M6, hM6⟩ : ∃ M6, M6 = M10.setCells b2 T.int [.int .i64 (nx + 1)] := ⟨_, rfl⟩
    rw [← hM6] at hle6 hb6
    (conv => whnf)
    erw [← hM6]
    have hL6 := hL10.to hle6
    refine (segs_ok hL6 hW10 (pick2_ok hb6)).mono ?_
    rintro v M7 ⟨a7, n7, c7, rfl, hn7, hN7⟩
    have hsl7 : n7 ≤ 64 := by
      have := hL10.disk.inv.len
      rw [hn7]
      refine Nat.le_trans (List.length_filter_le _ _) ?_
      simpa using this
    repeat' ((conv => whnf); first | refine ⟨?_, True.intro⟩ | refine brn_t rfl ?_ | refine brn_f rfl ?_ | refine ob rfl ?_ | refine ob (by decide) ?_ | refine grow_same (Mem.le_refl _) ?_ | refine ob (Mem.le_refl _) ?_ | refine ⟨_, Mem.le_refl _, ?_⟩ | fail)
    refine (reverse_okL hN7 (by omega)).mono ?_
    rintro v M8 ⟨rfl, hN8, -⟩
    have hL8 := hL6.to hN8.le
    have hs8 : SrcOk (M8.minus (logB g p b es10)) 1 a7 n7 ((segsR C.1 fun k => decide ((nx + 1) ≤ k)).reverse.map intV) := hN8.src.minus fun q hq hb => hL6.full hb (hN8.block hq).1
    have hz8 := hL10.zle (Mem.le_trans hle6 hN8.le)
    have hb8 := (hb10.le hz8).le (Mem.minus_le M8 (logB g p b es10))
    repeat' ((conv => whnf); first | refine ⟨?_, True.intro⟩ | refine brn_t rfl ?_ | refine brn_f rfl ?_ | refine ob rfl ?_ | refine ob (by decide) ?_ | refine grow_same (Mem.le_refl _) ?_ | refine ob (Mem.le_refl _) ?_ | refine ⟨_, Mem.le_refl _, ?_⟩ | fail)
    refine on (hb8.c1 rfl) ?_
    repeat' ((conv => whnf); first | refine ⟨?_, True.intro⟩ | refine brn_t rfl ?_ | refine brn_f rfl ?_ | refine ob rfl ?_ | refine ob (by decide) ?_ | refine grow_same (Mem.le_refl _) ?_ | refine ob (Mem.le_refl _) ?_ | refine ⟨_, Mem.le_refl _, ?_⟩ | fail)
    refine (remove_okL hL8.base.1 hs8 (by omega)).mono ?_
    rintro v M9 ⟨es9, rfl, h9⟩
    repeat' ((conv => whnf); first | refine ⟨?_, True.intro⟩ | refine brn_t rfl ?_ | refine brn_f rfl ?_ | refine ob rfl ?_ | refine ob (by decide) ?_ | refine grow_same (Mem.le_refl _) ?_ | refine ob (Mem.le_refl _) ?_ | refine ⟨_, Mem.le_refl _, ?_⟩ | fail)
    rw [hO, hE]
    exact ⟨es9, a8, (all ++ scanR row).length, c8, rfl, h9.mono (Mem.le_trans hM0 hL8.base.2), fun _ => ((hA10.up hz8).up (hL8.z h9)).mono hM0⟩
  have e5 : ¬ lenR (scanR row) < row.length := by have := of_decide_eq_false e; omega
  rw [if_neg e5] at hE
  repeat' ((conv => whnf); first | refine ⟨?_, True.intro⟩ | refine brn_t rfl ?_ | refine brn_f rfl ?_ | refine ob rfl ?_ | refine ob (by decide) ?_ | refine grow_same (Mem.le_refl _) ?_ | refine ob (Mem.le_refl _) ?_ | refine ⟨_, Mem.le_refl _, ?_⟩ | fail)
  refine ⟨⟨f', nx + 1, M8, Dc, ec, nx, a8, c8, all ++ scanR row⟩, ⟨⟨by dsimp only; omega, by dsimp only; omega, by dsimp only; omega⟩, hL8, hb8, hA8, hWc, hE, ?_⟩, by dsimp only; omega, ⟨(by repeat' first | exact True.intro | refine ⟨rfl, ?_⟩), (by repeat' first | exact True.intro | refine ⟨rfl, ?_⟩), Mem.le_refl _, rfl⟩⟩
  dsimp only
  rw [List.length_append]
  omega
end Go.Proofs.Ytnlghoenbhbfhaa

