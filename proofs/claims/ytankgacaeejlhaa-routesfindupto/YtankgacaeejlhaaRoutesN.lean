/- Tables of ways: whatever they have heard, behind 24 rounds they have the shortest ways. -/
import Derived.Test.YtankgacaeejlhaaRoutesM
import Derived.Test.YtankgacaeejlhaaReadsAct18
namespace Go.Proofs.Ytankgacaeejlhaa
open Go Go.Vm
attribute [local irreducible] Brn Ob CallsM inR LoopVC Mem.row Mem.cells Mem.setCells Mem.upd Own AppVC SrcVC StrVC NextVC New SrcOk subA NewSl Mem.textAt Mem.mapAt Mem.iterAt entryOf kfind Wr NewEls Elems
set_option maxRecDepth 10000
variable {M : Mem}
theorem GoodS.put {links : Int} {n : Nat} {S : Nat → List (Int × Hd)} (hg : GoodS links n S) {k : Nat} {x : Int} {l : List Int} {h : Hd} (hx : x ∈ nbOf links n k) (hr : rightC l = true) (hc : ∀ i, i < 64 → l[i]? = some (h.c i)) : GoodS links n (upd S k (aput (S k) x h)) := by
  refine ⟨fun j hj => ?_, fun j hj y z hy => ?_, fun j hj => ?_⟩
  · unfold upd
    split
    · rename_i e; subst e; exact (hg.good j hj).put hr hc
    · exact hg.good j hj
  · unfold upd at hy
    split at hy
    · rename_i e; subst e
      rw [aget_aput] at hy
      split at hy
      · rename_i e; subst e; exact hx
      · exact hg.keys j hj y z hy
    · exact hg.keys j hj y z hy
  · unfold upd
    split
    · rename_i e; subst e; exact aput_nodup (hg.nodup j hj) _ _
    · exact hg.nodup j hj
theorem find_ok (N links : Int) {a : Option Addr} {n c : Nat} {l : List Act} (hl : Elems M 4 a n (ActR M) l) (hn : n ≤ 1048576) :
    CallsM Try.prog F.law18_RoutesFind [.agg #[.int .i64 N, .int .u64 links], .slice a n c] M fun v M' => v = .bool true ∧ M.le M' := by
  refine fo_law18_RoutesFind (by simp) ?_
  repeat' ((conv => whnf); first | refine ⟨?_, True.intro⟩ | refine brn_t rfl ?_ | refine brn_f rfl ?_ | refine ob rfl ?_ | refine ob (by decide) ?_ | refine ob (Mem.le_refl _) ?_ | refine ⟨_, Mem.le_refl _, ?_⟩ | fail)
  refine (tables_ok N links).mono ?_
  rintro v M0 ⟨at', ct, ts, rfl, hlen, hle0, hptr0, hA0, hnb, hfr⟩
  have hn8 := nn_le N
  generalize nn N = k at *
  (conv => whnf); refine brn_f (by simp; omega) ?_
  (conv => whnf)
  refine loopF (σ := Nat × Mem × (Nat → List (Int × Hd))) [7] (fun x => [(7, .int .i64 x.1)]) (fun _ => [.live T.portagelaw18_Net [.v (.int .i64 N), .v (.int .u64 links)]]) (fun x => x.2.1)
    (fun | ⟨i, Mc, S⟩ => i ≤ n ∧ M.le Mc ∧ All Mc ts S ∧ GoodS links k S ∧ SrcOk Mc 1 at' k (ts.map fun t => ptr t.p)) (fun x => n - x.1) ⟨0, M0, fun _ => []⟩
    ⟨by omega, hle0, hA0, ⟨fun i _ => GoodM.nil, fun i _ x h hx => (by cases hx), fun i _ => List.nodup_nil⟩, hptr0⟩ ⟨(by repeat' first | exact True.intro | refine ⟨rfl, ?_⟩), (by repeat' first | exact True.intro | refine ⟨rfl, ?_⟩), Mem.le_refl _, rfl⟩ ?_
  rintro ⟨i, Mc, S⟩ ⟨hi, hle, hA, hg, hptr⟩
  (conv => whnf); refine brn (fun g => ?_) (fun g => ?_)
  · have hi' : i < n := by have := of_decide_eq_true g; dsimp only at this; omega
    (conv => whnf); refine brn (fun g => ?_) (fun g => ?_)
    · obtain ⟨hlt, b, o, cs, rfl, hrows, hrow, hcl, a2, n2, c2, hcs, hsc, hn2⟩ := hl.at (by decide) (i := i) hi'
      have r0 := Mem.row_le hle (hrows 0 1 (by decide))
      have r1 := Mem.row_le hle (hrows 1 1 (by decide))
      have r2 := Mem.row_le hle (hrows 2 1 (by decide))
      have r3 := Mem.row_le hle (hrows 3 1 (by decide))
      rw [hcs] at r0 r1 r2 r3
      generalize l[i] = A at *
      (conv => whnf); refine ob (by first | omega | (dsimp only; omega)) ?_
      (conv => whnf); refine on r0 ?_
      (conv => whnf); refine brn (fun g1 => ?_) (fun g1 => ?_)
      · have hw0 : 0 ≤ IntKind.u64.wrap A.dest := by
          unfold IntKind.wrap
          simp [IntKind.signed, IntKind.bits]
          omega
        have hwk : IntKind.u64.wrap (k : Int) = k := by
          rw [IntKind.wrap_u64]; omega
        have hm1 := Int.tmod_lt_of_pos (IntKind.u64.wrap A.dest) (b := (k : Int)) (by omega)
        have hm2 := Int.tmod_nonneg (k : Int) hw0
        obtain ⟨j, hj⟩ : ∃ j : Nat, (IntKind.u64.wrap A.dest).tmod k = j := ⟨((IntKind.u64.wrap A.dest).tmod k).toNat, by omega⟩
        have hjk : j < k := by omega
        obtain ⟨t, ht⟩ : ∃ t, ts[j]? = some t := ⟨_, List.getElem?_eq_getElem (by omega)⟩
        have hjw : IntKind.i64.wrap (j : Int) = j := by rw [IntKind.wrap_i64]; omega
        have htab := hA.lies j t ht
        have hkm : Mem.keep (one t.b2) Mc (Mc.minus (one t.b2)) := Mem.keep_minus.2 (Mem.le_refl _)
        have hleX : M.le (Mc.minus (one t.b2)) := Mem.le_minus hle fun b hb => by have hb : b = t.b2 := hb; subst hb; exact hfr t (List.mem_of_getElem? ht)
        obtain ⟨q, o2, rfl, hrow2⟩ := (mapAt_src htab.hrd hptr hkm).get (j := j) (v := ptr t.p) (by rw [List.getElem?_map, ht]; rfl)
        have x1 := Mem.row_le hleX (hrows 1 1 (by decide))
        have x2 := Mem.row_le hleX (hrows 2 1 (by decide))
        have x3 := Mem.row_le hleX (hrows 3 1 (by decide))
        rw [hcs] at x1 x2 x3
        obtain ⟨X, hX⟩ : ∃ X, X = Mc.minus (one t.b2) := ⟨_, rfl⟩
        have hXle : X.le Mc := hX ▸ Mem.minus_le _ _
        rw [← hX] at x1 x2 x3 hrow2
        (conv => whnf); refine ⟨X, hXle, ?_⟩
        (conv => whnf); refine ob (by first | omega | (dsimp only; omega)) ?_
        (conv => whnf); refine on x1 ?_
        (conv => whnf)
        rw [hwk]
        refine ob (by omega) ?_
        (conv => whnf)
        rw [hj, hjw]
        refine ob (by omega) ?_
        (conv => whnf); refine on hrow2 ?_
        (conv => whnf); refine ob (by first | omega | (dsimp only; omega)) ?_
        (conv => whnf); refine on x2 ?_
        (conv => whnf); refine ob (by first | omega | (dsimp only; omega)) ?_
        (conv => whnf); refine on x3 ?_
        repeat' ((conv => whnf); first | refine ob rfl ?_ | refine ob (Mem.le_refl _) ?_ | refine ⟨?_, True.intro⟩ | fail)
        refine (Hear_ok htab (by have := nbOf_len links k j; rw [hnb j t ht]; omega) A.via a2 n2 c2 A.costs (hsc.le hle) (by omega)).mono ?_
        rintro v M' ⟨rfl, ⟨_, rfl⟩ | ⟨_, hin, hrt, hkp, x, hx, hleft, hT⟩⟩
        · repeat' ((conv => whnf); first | refine ob rfl ?_ | refine ob hXle ?_ | refine ⟨?_, True.intro⟩ | fail)
          refine ob (inR_i64 (by first | omega | (dsimp only; omega))) ?_
          (conv => whnf)
          exact ⟨⟨i + 1, M', S⟩, ⟨by omega, hle, hA, hg, hptr⟩, by dsimp only; omega, ⟨(by repeat' first | exact True.intro | refine ⟨rfl, ?_⟩), (by repeat' first | exact True.intro | refine ⟨rfl, ?_⟩), Mem.le_refl _, rfl⟩⟩
        · have hle' : M.le M' := hkp.le hle fun b hb => by have hb : b = t.b2 := hb; subst hb; exact hfr t (List.mem_of_getElem? ht)
          repeat' ((conv => whnf); first | refine ob rfl ?_ | refine ob (hX ▸ Mem.keep_minus.1 hkp) ?_ | refine ⟨?_, True.intro⟩ | fail)
          refine ob (inR_i64 (by first | omega | (dsimp only; omega))) ?_
          (conv => whnf)
          exact ⟨⟨i + 1, M', upd S j (aput (S j) A.via x)⟩, ⟨by omega, hle', hA.hear ht hkp hT, hg.put (by rw [← hnb j t ht]; exact hin) hrt hx, mapAt_src htab.hrd hptr hkp⟩, by dsimp only; omega, ⟨(by repeat' first | exact True.intro | refine ⟨rfl, ?_⟩), (by repeat' first | exact True.intro | refine ⟨rfl, ?_⟩), Mem.le_refl _, rfl⟩⟩
      · (conv => whnf); refine ob (inR_i64 (by first | omega | (dsimp only; omega))) ?_
        (conv => whnf)
        exact ⟨⟨i + 1, Mc, S⟩, ⟨by omega, hle, hA, hg, hptr⟩, by dsimp only; omega, ⟨(by repeat' first | exact True.intro | refine ⟨rfl, ?_⟩), (by repeat' first | exact True.intro | refine ⟨rfl, ?_⟩), Mem.le_refl _, rfl⟩⟩
    · skip
      (conv => whnf)
      refine loopF (σ := Nat × Mem × (Nat → Nat → List (Int × Hd))) [8] (fun x => [(8, .int .i64 x.1)]) (fun _ => [.live T.portagelaw18_Net [.v (.int .i64 N), .v (.int .u64 links)]]) (fun x => x.2.1)
        (fun | ⟨r, Mr, f⟩ => r ≤ 24 ∧ M.le Mr ∧ All Mr ts (f r) ∧ Rounds links k r f ∧ SrcOk Mr 1 at' k (ts.map fun t => ptr t.p)) (fun x => 24 - x.1) ⟨0, Mc, fun _ => S⟩
        ⟨by omega, hle, hA, ⟨fun _ _ => hg, fun r hr => by omega⟩, hptr⟩ ⟨(by repeat' first | exact True.intro | refine ⟨rfl, ?_⟩), (by repeat' first | exact True.intro | refine ⟨rfl, ?_⟩), Mem.le_refl _, rfl⟩ ?_
      rintro ⟨r, Mr, f⟩ ⟨hr, hler, hAr, hR, hptrr⟩
      (conv => whnf); refine brn (fun g => ?_) (fun g => ?_)
      · have hr' : r < 24 := by have := of_decide_eq_true g; first | omega | (dsimp only at this; omega)
        (conv => whnf); refine (tell_ok N hn8 hlen hptrr hAr hnb (hR.good r (Nat.le_refl _))).mono ?_
        rintro v M' ⟨rfl, S', hA', hg', hst, hptr', hkp⟩
        have hle' : M.le M' := hkp.le hler fun b hb => by obtain ⟨t, ht, e⟩ := hb; subst e; exact hfr t ht
        (conv => whnf); refine ob (inR_i64 (by first | omega | (dsimp only; omega))) ?_
        (conv => whnf)
        refine ⟨⟨r + 1, M', fun q => if q ≤ r then f q else S'⟩, ⟨by omega, hle', ?_, ⟨fun q hq => ?_, fun q hq => ?_⟩, hptr'⟩, by dsimp only; omega, ⟨(by repeat' first | exact True.intro | refine ⟨rfl, ?_⟩), (by repeat' first | exact True.intro | refine ⟨rfl, ?_⟩), Mem.le_refl _, rfl⟩⟩
        · show All M' ts (if r + 1 ≤ r then f (r + 1) else S')
          rw [if_neg (by omega)]; exact hA'
        · split
          · exact hR.good q (by omega)
          · exact hg'
        · rw [if_pos (by omega)]
          by_cases e : q + 1 ≤ r
          · rw [if_pos e]; exact hR.step q (by omega)
          · rw [if_neg e]
            have : q = r := by omega
            subst this
            exact hst
      · have hr' : r = 24 := by have := of_decide_eq_false g; first | omega | (dsimp only at this; omega)
        subst hr'
        have hg24 := hR.good 24 (Nat.le_refl _)
        (conv => whnf)
        refine loopF (σ := Nat × Mem) [9] (fun x => [(9, .int .i64 x.1)]) (fun _ => [.live T.portagelaw18_Net [.v (.int .i64 N), .v (.int .u64 links)]]) (fun x => x.2)
          (fun | ⟨i, Mi⟩ => i ≤ k ∧ Mr.le Mi) (fun x => k - x.1) ⟨0, Mr⟩ ⟨by omega, Mem.le_refl _⟩ ⟨(by repeat' first | exact True.intro | refine ⟨rfl, ?_⟩), (by repeat' first | exact True.intro | refine ⟨rfl, ?_⟩), Mem.le_refl _, rfl⟩ ?_
        rintro ⟨i3, M3⟩ ⟨hi3, hle3⟩
        (conv => whnf); refine brn (fun g => ?_) (fun g => ?_)
        · have hi3' : i3 < k := by have := of_decide_eq_true g; dsimp only at this; omega
          repeat' ((conv => whnf); first | refine ⟨?_, True.intro⟩ | refine brn_t rfl ?_ | refine brn_f rfl ?_ | refine ob rfl ?_ | refine ob (by decide) ?_ | refine ob (Mem.le_refl _) ?_ | refine ⟨_, Mem.le_refl _, ?_⟩ | fail)
          refine (lengths_ok N links k i3 hn8 hi3').mono ?_
          rintro v M4 ⟨bl, L, rfl, hNl, hLok, hLup⟩
          have hlens := fun d (hd : d < k) => lens_least hLok hLup (by omega) (fun q hq => joined links hi3' hq) (k := d) hd
          (conv => whnf)
          refine loopF (σ := Nat × Mem) [11] (fun x => [(11, .int .i64 x.1)]) (fun _ => [.live T.portagelaw18_Net [.v (.int .i64 N), .v (.int .u64 links)]]) (fun x => x.2)
            (fun | ⟨d, Md⟩ => d ≤ k ∧ M4.le Md) (fun x => k - x.1) ⟨0, M4⟩ ⟨by omega, Mem.le_refl _⟩ ⟨(by repeat' first | exact True.intro | refine ⟨rfl, ?_⟩), (by repeat' first | exact True.intro | refine ⟨rfl, ?_⟩), Mem.le_refl _, rfl⟩ ?_
          rintro ⟨d, M5⟩ ⟨hd, hle5⟩
          have hr5 : Mr.le M5 := Mem.le_trans hle3 (Mem.le_trans hNl.le hle5)
          obtain ⟨t3, ht3⟩ : ∃ t, ts[i3]? = some t := ⟨_, List.getElem?_eq_getElem (by omega)⟩
          obtain ⟨q3, o3, rfl, hrow3⟩ := hptrr.get (j := i3) (v := ptr t3.p) (by rw [List.getElem?_map, ht3]; rfl)
          have hrow35 := Mem.row_le hr5 hrow3
          (conv => whnf); refine brn (fun g => ?_) (fun g => ?_)
          · have hd' : d < k := by have := of_decide_eq_true g; dsimp only at this; omega
            obtain ⟨j, hj, hval, hleast⟩ := hlens d hd'
            obtain ⟨b6, o6, hb6, hrow6⟩ := (hNl.src.le hle5).get (j := d) (v := intV (val L d)) (by rw [List.getElem?_map, val_get (by have := hLok.len; omega)]; rfl)
            cases hb6
            (conv => whnf); refine ⟨M5, Mem.le_refl _, ?_⟩
            (conv => whnf); refine ob (by first | omega | (dsimp only; omega)) ?_
            (conv => whnf); refine on hrow35 ?_
            (conv => whnf); refine ob (by first | omega | (dsimp only; omega)) ?_
            (conv => whnf); refine on hrow6 ?_
            repeat' ((conv => whnf); first | refine ob rfl ?_ | refine ob (Mem.le_refl _) ?_ | refine ⟨?_, True.intro⟩ | fail)
            refine (Cost_ok ((hAr.lies i3 t3 ht3).le hr5) (hg24.good i3 hi3') d).mono ?_
            rintro v M6 ⟨rfl, hle6⟩
            have hcost := cost_exact hR hn8.2 hi3' (by omega) hleast
            rw [hcost]
            repeat' ((conv => whnf); first | refine ob rfl ?_ | refine ob hle6 ?_ | refine ⟨?_, True.intro⟩ | fail)
            refine brn_f (by rw [hval]; simp) ?_
            (conv => whnf)
            refine loopF (σ := Nat × Nat × Mem) [13, 12] (fun x => [(13, .int .i64 x.1), (12, .int .i64 x.2.1)]) (fun _ => [.live T.portagelaw18_Net [.v (.int .i64 N), .v (.int .u64 links)]]) (fun x => x.2.2)
              (fun | ⟨hops, at3, Md⟩ => at3 < k ∧ M6.le Md ∧ ∃ j', hops + j' = j ∧ Least (lnkN links k) j' at3 d) (fun x => j - x.1) ⟨0, i3, M6⟩ ⟨hi3', Mem.le_refl _, j, by omega, hleast⟩ ⟨(by repeat' first | exact True.intro | refine ⟨rfl, ?_⟩), (by repeat' first | exact True.intro | refine ⟨rfl, ?_⟩), Mem.le_refl _, rfl⟩ ?_
            rintro ⟨hops, at3, M7⟩ ⟨hat, hle7, j', hjj, hl7⟩
            have hr7 : Mr.le M7 := Mem.le_trans hr5 (Mem.le_trans hle6 hle7)
            (conv => whnf); refine brn (fun g => ?_) (fun g => ?_)
            · have hne : at3 ≠ d := fun e => by rw [e] at g; simp at g
              obtain ⟨t7, ht7⟩ : ∃ t, ts[at3]? = some t := ⟨_, List.getElem?_eq_getElem (by omega)⟩
              obtain ⟨q7, o7, hq7, hrow7⟩ := (hptrr.le hr7).get (j := at3) (v := ptr t7.p) (by rw [List.getElem?_map, ht7]; rfl)
              cases hq7
              obtain ⟨k7, hnx, hk7, hl77, j2, rfl, hl2⟩ := hop_least hR hn8.2 hat hd' hne (by omega) hl7
              (conv => whnf); refine ob (by first | omega | (dsimp only; omega)) ?_
              (conv => whnf); refine on hrow7 ?_
              (conv => whnf); refine (Next_ok ((hAr.lies at3 t7 ht7).le hr7) (hg24.good at3 hat) (by have := nbOf_len links k at3; rw [hnb at3 t7 ht7]; omega) d).mono ?_
              rintro v M8 ⟨rfl, hle8⟩
              rw [hnb at3 t7 ht7, hnx]
              repeat' ((conv => whnf); first | refine ⟨?_, True.intro⟩ | refine brn_t rfl ?_ | refine brn_f rfl ?_ | refine ob rfl ?_ | refine ob (by decide) ?_ | refine ob (Mem.le_refl _) ?_ | refine ⟨_, Mem.le_refl _, ?_⟩ | fail)
              (conv => whnf); refine ob (by first | omega | (dsimp only; omega)) ?_
              (conv => whnf); refine on (Mem.row_le (Mem.le_trans hle6 (Mem.le_trans hle7 hle8)) hrow6) ?_
              have hvl : val L d = ((hops + (j2 + 1) : Nat) : Int) := by rw [hval]; omega
              (conv => whnf); refine brn_f (by rw [hvl]; simp; omega) ?_
              (conv => whnf); refine brn_f (by simp) ?_
              (conv => whnf); refine brn_f (by simp; omega) ?_
              (conv => whnf); refine (linked_ok N links at3 k7 (by omega) (by omega)).mono ?_
              rintro v _ ⟨rfl, rfl⟩
              rw [hl77]
              repeat' ((conv => whnf); first | refine ⟨?_, True.intro⟩ | refine brn_t rfl ?_ | refine brn_f rfl ?_ | refine ob rfl ?_ | refine ob (by decide) ?_ | refine ob (Mem.le_refl _) ?_ | refine ⟨_, Mem.le_refl _, ?_⟩ | fail)
              refine ob (inR_i64 (by first | omega | (dsimp only; omega))) ?_
              (conv => whnf)
              exact ⟨⟨hops + 1, k7, M8⟩, ⟨hk7, Mem.le_trans hle7 hle8, j2, by omega, hl2⟩, by dsimp only; omega, ⟨(by repeat' first | exact True.intro | refine ⟨rfl, ?_⟩), (by repeat' first | exact True.intro | refine ⟨rfl, ?_⟩), Mem.le_refl _, rfl⟩⟩
            · (conv => whnf); refine ob (inR_i64 (by first | omega | (dsimp only; omega))) ?_
              (conv => whnf)
              exact ⟨⟨d + 1, M7⟩, ⟨by omega, Mem.le_trans hle5 (Mem.le_trans hle6 hle7)⟩, by dsimp only; omega, ⟨(by repeat' first | exact True.intro | refine ⟨rfl, ?_⟩), (by repeat' first | exact True.intro | refine ⟨rfl, ?_⟩), Mem.le_refl _, rfl⟩⟩
          · have hd' : d = k := by have := of_decide_eq_false g; dsimp only at this; omega
            (conv => whnf); refine ob (by first | omega | (dsimp only; omega)) ?_
            (conv => whnf); refine on hrow35 ?_
            (conv => whnf); refine (Cost_ok ((hAr.lies i3 t3 ht3).le hr5) (hg24.good i3 hi3') k).mono ?_
            rintro v M6 ⟨rfl, hle6⟩
            have hcost := cost_far hR hn8.2 hi3' (Nat.le_refl k)
            rw [hcost]
            repeat' ((conv => whnf); first | refine ⟨?_, True.intro⟩ | refine brn_t rfl ?_ | refine brn_f rfl ?_ | refine ob rfl ?_ | refine ob (by decide) ?_ | refine ob (Mem.le_refl _) ?_ | refine ⟨_, Mem.le_refl _, ?_⟩ | fail)
            refine ob (inR_i64 (by first | omega | (dsimp only; omega))) ?_
            (conv => whnf)
            exact ⟨⟨i3 + 1, M6⟩, ⟨by omega, Mem.le_trans hr5 hle6⟩, by dsimp only; omega, ⟨(by repeat' first | exact True.intro | refine ⟨rfl, ?_⟩), (by repeat' first | exact True.intro | refine ⟨rfl, ?_⟩), Mem.le_refl _, rfl⟩⟩
        · (conv => whnf); refine awake_ok.mono ?_
          rintro v M4 ⟨rfl, hle4⟩
          repeat' ((conv => whnf); first | refine ⟨?_, True.intro⟩ | refine brn_t rfl ?_ | refine brn_f rfl ?_ | refine ob rfl ?_ | refine ob (by decide) ?_ | refine ob (Mem.le_refl _) ?_ | refine ⟨_, Mem.le_refl _, ?_⟩ | fail)
          exact ⟨rfl, Mem.le_trans hler (Mem.le_trans hle3 hle4)⟩
  · skip
    (conv => whnf)
    refine loopF (σ := Nat × Mem × (Nat → Nat → List (Int × Hd))) [8] (fun x => [(8, .int .i64 x.1)]) (fun _ => [.live T.portagelaw18_Net [.v (.int .i64 N), .v (.int .u64 links)]]) (fun x => x.2.1)
      (fun | ⟨r, Mr, f⟩ => r ≤ 24 ∧ M.le Mr ∧ All Mr ts (f r) ∧ Rounds links k r f ∧ SrcOk Mr 1 at' k (ts.map fun t => ptr t.p)) (fun x => 24 - x.1) ⟨0, Mc, fun _ => S⟩
      ⟨by omega, hle, hA, ⟨fun _ _ => hg, fun r hr => by omega⟩, hptr⟩ ⟨(by repeat' first | exact True.intro | refine ⟨rfl, ?_⟩), (by repeat' first | exact True.intro | refine ⟨rfl, ?_⟩), Mem.le_refl _, rfl⟩ ?_
    rintro ⟨r, Mr, f⟩ ⟨hr, hler, hAr, hR, hptrr⟩
    (conv => whnf); refine brn (fun g => ?_) (fun g => ?_)
    · have hr' : r < 24 := by have := of_decide_eq_true g; first | omega | (dsimp only at this; omega)
      (conv => whnf); refine (tell_ok N hn8 hlen hptrr hAr hnb (hR.good r (Nat.le_refl _))).mono ?_
      rintro v M' ⟨rfl, S', hA', hg', hst, hptr', hkp⟩
      have hle' : M.le M' := hkp.le hler fun b hb => by obtain ⟨t, ht, e⟩ := hb; subst e; exact hfr t ht
      (conv => whnf); refine ob (inR_i64 (by first | omega | (dsimp only; omega))) ?_
      (conv => whnf)
      refine ⟨⟨r + 1, M', fun q => if q ≤ r then f q else S'⟩, ⟨by omega, hle', ?_, ⟨fun q hq => ?_, fun q hq => ?_⟩, hptr'⟩, by dsimp only; omega, ⟨(by repeat' first | exact True.intro | refine ⟨rfl, ?_⟩), (by repeat' first | exact True.intro | refine ⟨rfl, ?_⟩), Mem.le_refl _, rfl⟩⟩
      · show All M' ts (if r + 1 ≤ r then f (r + 1) else S')
        rw [if_neg (by omega)]; exact hA'
      · split
        · exact hR.good q (by omega)
        · exact hg'
      · rw [if_pos (by omega)]
        by_cases e : q + 1 ≤ r
        · rw [if_pos e]; exact hR.step q (by omega)
        · rw [if_neg e]
          have : q = r := by omega
          subst this
          exact hst
    · have hr' : r = 24 := by have := of_decide_eq_false g; first | omega | (dsimp only at this; omega)
      subst hr'
      have hg24 := hR.good 24 (Nat.le_refl _)
      (conv => whnf)
      refine loopF (σ := Nat × Mem) [9] (fun x => [(9, .int .i64 x.1)]) (fun _ => [.live T.portagelaw18_Net [.v (.int .i64 N), .v (.int .u64 links)]]) (fun x => x.2)
        (fun | ⟨i, Mi⟩ => i ≤ k ∧ Mr.le Mi) (fun x => k - x.1) ⟨0, Mr⟩ ⟨by omega, Mem.le_refl _⟩ ⟨(by repeat' first | exact True.intro | refine ⟨rfl, ?_⟩), (by repeat' first | exact True.intro | refine ⟨rfl, ?_⟩), Mem.le_refl _, rfl⟩ ?_
      rintro ⟨i3, M3⟩ ⟨hi3, hle3⟩
      (conv => whnf); refine brn (fun g => ?_) (fun g => ?_)
      · have hi3' : i3 < k := by have := of_decide_eq_true g; dsimp only at this; omega
        repeat' ((conv => whnf); first | refine ⟨?_, True.intro⟩ | refine brn_t rfl ?_ | refine brn_f rfl ?_ | refine ob rfl ?_ | refine ob (by decide) ?_ | refine ob (Mem.le_refl _) ?_ | refine ⟨_, Mem.le_refl _, ?_⟩ | fail)
        refine (lengths_ok N links k i3 hn8 hi3').mono ?_
        rintro v M4 ⟨bl, L, rfl, hNl, hLok, hLup⟩
        have hlens := fun d (hd : d < k) => lens_least hLok hLup (by omega) (fun q hq => joined links hi3' hq) (k := d) hd
        (conv => whnf)
        refine loopF (σ := Nat × Mem) [11] (fun x => [(11, .int .i64 x.1)]) (fun _ => [.live T.portagelaw18_Net [.v (.int .i64 N), .v (.int .u64 links)]]) (fun x => x.2)
          (fun | ⟨d, Md⟩ => d ≤ k ∧ M4.le Md) (fun x => k - x.1) ⟨0, M4⟩ ⟨by omega, Mem.le_refl _⟩ ⟨(by repeat' first | exact True.intro | refine ⟨rfl, ?_⟩), (by repeat' first | exact True.intro | refine ⟨rfl, ?_⟩), Mem.le_refl _, rfl⟩ ?_
        rintro ⟨d, M5⟩ ⟨hd, hle5⟩
        have hr5 : Mr.le M5 := Mem.le_trans hle3 (Mem.le_trans hNl.le hle5)
        obtain ⟨t3, ht3⟩ : ∃ t, ts[i3]? = some t := ⟨_, List.getElem?_eq_getElem (by omega)⟩
        obtain ⟨q3, o3, rfl, hrow3⟩ := hptrr.get (j := i3) (v := ptr t3.p) (by rw [List.getElem?_map, ht3]; rfl)
        have hrow35 := Mem.row_le hr5 hrow3
        (conv => whnf); refine brn (fun g => ?_) (fun g => ?_)
        · have hd' : d < k := by have := of_decide_eq_true g; dsimp only at this; omega
          obtain ⟨j, hj, hval, hleast⟩ := hlens d hd'
          obtain ⟨b6, o6, hb6, hrow6⟩ := (hNl.src.le hle5).get (j := d) (v := intV (val L d)) (by rw [List.getElem?_map, val_get (by have := hLok.len; omega)]; rfl)
          cases hb6
          (conv => whnf); refine ⟨M5, Mem.le_refl _, ?_⟩
          (conv => whnf); refine ob (by first | omega | (dsimp only; omega)) ?_
          (conv => whnf); refine on hrow35 ?_
          (conv => whnf); refine ob (by first | omega | (dsimp only; omega)) ?_
          (conv => whnf); refine on hrow6 ?_
          repeat' ((conv => whnf); first | refine ob rfl ?_ | refine ob (Mem.le_refl _) ?_ | refine ⟨?_, True.intro⟩ | fail)
          refine (Cost_ok ((hAr.lies i3 t3 ht3).le hr5) (hg24.good i3 hi3') d).mono ?_
          rintro v M6 ⟨rfl, hle6⟩
          have hcost := cost_exact hR hn8.2 hi3' (by omega) hleast
          rw [hcost]
          repeat' ((conv => whnf); first | refine ob rfl ?_ | refine ob hle6 ?_ | refine ⟨?_, True.intro⟩ | fail)
          refine brn_f (by rw [hval]; simp) ?_
          (conv => whnf)
          refine loopF (σ := Nat × Nat × Mem) [13, 12] (fun x => [(13, .int .i64 x.1), (12, .int .i64 x.2.1)]) (fun _ => [.live T.portagelaw18_Net [.v (.int .i64 N), .v (.int .u64 links)]]) (fun x => x.2.2)
            (fun | ⟨hops, at3, Md⟩ => at3 < k ∧ M6.le Md ∧ ∃ j', hops + j' = j ∧ Least (lnkN links k) j' at3 d) (fun x => j - x.1) ⟨0, i3, M6⟩ ⟨hi3', Mem.le_refl _, j, by omega, hleast⟩ ⟨(by repeat' first | exact True.intro | refine ⟨rfl, ?_⟩), (by repeat' first | exact True.intro | refine ⟨rfl, ?_⟩), Mem.le_refl _, rfl⟩ ?_
          rintro ⟨hops, at3, M7⟩ ⟨hat, hle7, j', hjj, hl7⟩
          have hr7 : Mr.le M7 := Mem.le_trans hr5 (Mem.le_trans hle6 hle7)
          (conv => whnf); refine brn (fun g => ?_) (fun g => ?_)
          · have hne : at3 ≠ d := fun e => by rw [e] at g; simp at g
            obtain ⟨t7, ht7⟩ : ∃ t, ts[at3]? = some t := ⟨_, List.getElem?_eq_getElem (by omega)⟩
            obtain ⟨q7, o7, hq7, hrow7⟩ := (hptrr.le hr7).get (j := at3) (v := ptr t7.p) (by rw [List.getElem?_map, ht7]; rfl)
            cases hq7
            obtain ⟨k7, hnx, hk7, hl77, j2, rfl, hl2⟩ := hop_least hR hn8.2 hat hd' hne (by omega) hl7
            (conv => whnf); refine ob (by first | omega | (dsimp only; omega)) ?_
            (conv => whnf); refine on hrow7 ?_
            (conv => whnf); refine (Next_ok ((hAr.lies at3 t7 ht7).le hr7) (hg24.good at3 hat) (by have := nbOf_len links k at3; rw [hnb at3 t7 ht7]; omega) d).mono ?_
            rintro v M8 ⟨rfl, hle8⟩
            rw [hnb at3 t7 ht7, hnx]
            repeat' ((conv => whnf); first | refine ⟨?_, True.intro⟩ | refine brn_t rfl ?_ | refine brn_f rfl ?_ | refine ob rfl ?_ | refine ob (by decide) ?_ | refine ob (Mem.le_refl _) ?_ | refine ⟨_, Mem.le_refl _, ?_⟩ | fail)
            (conv => whnf); refine ob (by first | omega | (dsimp only; omega)) ?_
            (conv => whnf); refine on (Mem.row_le (Mem.le_trans hle6 (Mem.le_trans hle7 hle8)) hrow6) ?_
            have hvl : val L d = ((hops + (j2 + 1) : Nat) : Int) := by rw [hval]; omega
            (conv => whnf); refine brn_f (by rw [hvl]; simp; omega) ?_
            (conv => whnf); refine brn_f (by simp) ?_
            (conv => whnf); refine brn_f (by simp; omega) ?_
            (conv => whnf); refine (linked_ok N links at3 k7 (by omega) (by omega)).mono ?_
            rintro v _ ⟨rfl, rfl⟩
            rw [hl77]
            repeat' ((conv => whnf); first | refine ⟨?_, True.intro⟩ | refine brn_t rfl ?_ | refine brn_f rfl ?_ | refine ob rfl ?_ | refine ob (by decide) ?_ | refine ob (Mem.le_refl _) ?_ | refine ⟨_, Mem.le_refl _, ?_⟩ | fail)
            refine ob (inR_i64 (by first | omega | (dsimp only; omega))) ?_
            (conv => whnf)
            exact ⟨⟨hops + 1, k7, M8⟩, ⟨hk7, Mem.le_trans hle7 hle8, j2, by omega, hl2⟩, by dsimp only; omega, ⟨(by repeat' first | exact True.intro | refine ⟨rfl, ?_⟩), (by repeat' first | exact True.intro | refine ⟨rfl, ?_⟩), Mem.le_refl _, rfl⟩⟩
          · (conv => whnf); refine ob (inR_i64 (by first | omega | (dsimp only; omega))) ?_
            (conv => whnf)
            exact ⟨⟨d + 1, M7⟩, ⟨by omega, Mem.le_trans hle5 (Mem.le_trans hle6 hle7)⟩, by dsimp only; omega, ⟨(by repeat' first | exact True.intro | refine ⟨rfl, ?_⟩), (by repeat' first | exact True.intro | refine ⟨rfl, ?_⟩), Mem.le_refl _, rfl⟩⟩
        · have hd' : d = k := by have := of_decide_eq_false g; dsimp only at this; omega
          (conv => whnf); refine ob (by first | omega | (dsimp only; omega)) ?_
          (conv => whnf); refine on hrow35 ?_
          (conv => whnf); refine (Cost_ok ((hAr.lies i3 t3 ht3).le hr5) (hg24.good i3 hi3') k).mono ?_
          rintro v M6 ⟨rfl, hle6⟩
          have hcost := cost_far hR hn8.2 hi3' (Nat.le_refl k)
          rw [hcost]
          repeat' ((conv => whnf); first | refine ⟨?_, True.intro⟩ | refine brn_t rfl ?_ | refine brn_f rfl ?_ | refine ob rfl ?_ | refine ob (by decide) ?_ | refine ob (Mem.le_refl _) ?_ | refine ⟨_, Mem.le_refl _, ?_⟩ | fail)
          refine ob (inR_i64 (by first | omega | (dsimp only; omega))) ?_
          (conv => whnf)
          exact ⟨⟨i3 + 1, M6⟩, ⟨by omega, Mem.le_trans hr5 hle6⟩, by dsimp only; omega, ⟨(by repeat' first | exact True.intro | refine ⟨rfl, ?_⟩), (by repeat' first | exact True.intro | refine ⟨rfl, ?_⟩), Mem.le_refl _, rfl⟩⟩
      · (conv => whnf); refine awake_ok.mono ?_
        rintro v M4 ⟨rfl, hle4⟩
        repeat' ((conv => whnf); first | refine ⟨?_, True.intro⟩ | refine brn_t rfl ?_ | refine brn_f rfl ?_ | refine ob rfl ?_ | refine ob (by decide) ?_ | refine ob (Mem.le_refl _) ?_ | refine ⟨_, Mem.le_refl _, ?_⟩ | fail)
        exact ⟨rfl, Mem.le_trans hler (Mem.le_trans hle3 hle4)⟩
end Go.Proofs.Ytankgacaeejlhaa
