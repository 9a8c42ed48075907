/- Tables of ways: the next hop has said that it costs it one less. -/
import Derived.Test.YtankgacaeejlhaaRoutesW
namespace Go.Proofs.Ytankgacaeejlhaa
open Go Go.Vm
attribute [local irreducible] Brn Ob CallsM inR LoopVC Mem.row Mem.cells Mem.setCells Mem.upd Own AppVC SrcVC StrVC NextVC New SrcOk subA NewSl Mem.textAt Mem.mapAt Mem.iterAt entryOf kfind Wr NewEls Elems
set_option maxRecDepth 10000
variable {M : Mem}
/-- what each neighbour said lies where it came in -/
def SaidOk (M : Mem) (m : List (Int × Hd)) (S : List Value) : Prop := ∀ k h, aget m k = some h → 0 ≤ k ∧ k < 64 ∧ ∃ a c, S[k.toNat]? = some (.slice a 64 c) ∧ ∀ d, d < 64 → ∃ b o, a = some ⟨b, o, none⟩ ∧ M.row b (o + d * 1) 1 = some [intV (h.c d)]
theorem next_cost {me : Int} {nb : List Int} {m : List (Int × Hd)} {d : Int} {k : Int} (hd : isNode d = true) (h : nextOf me nb [] m d = some k) : ∃ x, aget m k = some x ∧ x.c d.toNat + 1 = costOf me [] m d ∧ costOf me [] m d < 16 := by
  have e0 : aget ([] : List (Int × Int)) d = none := rfl
  unfold nextOf at h
  rw [e0] at h
  split at h
  · dsimp only at h
    split at h
    · rename_i hlt
      have hb := List.find?_some h
      have hb : byC m d k = costOf me [] m d := by simpa using hb
      unfold byC at hb
      cases e : aget m k with
      | none => rw [e] at hb; dsimp only at hb; omega
      | some x => rw [e] at hb; dsimp only at hb; exact ⟨x, rfl, by omega, hlt⟩
    · cases h
  · cases h
theorem next_none {me : Int} {nb : List Int} {m : List (Int × Hd)} {d : Int} (hn : (m.map (·.1)).Nodup) (hk : ∀ x h, aget m x = some h → x ∈ nb) (hd : isNode d = true) (hne : d ≠ me) (h : nextOf me nb [] m d = none) : costOf me [] m d = 16 := by
  have e0 : aget ([] : List (Int × Int)) d = none := rfl
  have hc : costOf me [] m d = lst d m := by simp [costOf, hd, hne, e0]
  have ht := lst_top d m
  by_cases hlt : costOf me [] m d < 16
  · exfalso
    have hf : nb.find? (fun k => decide (byC m d k = costOf me [] m d)) = none := by
      simpa [nextOf, hd, hne, e0, hlt] using h
    rw [List.find?_eq_none] at hf
    obtain ⟨x, y, hm, e⟩ := lst_att' (d := d) (l := m) (by omega)
    have hg := aget_of_mem hn hm
    have := hf x (hk x y hg)
    simp only [byC, hg, decide_eq_true_eq] at this
    omega
  · omega
theorem near_ok' (me age : Int) {a : Option Addr} {n c : Nat} {nb : List Int} (hs : SrcOk M 1 a n (nb.map intV)) (hn : n ≤ 1048576) {a2 : Option Addr} {n2 c2 : Nat} {l : List Act} (hl : Elems M 4 a2 n2 (ActR M) l) (hn2 : n2 ≤ 1048576) :
    CallsM Try.prog F.law18_RoutesNear [setV me age a n c, .slice a2 n2 c2] M fun v M' => v = .bool true ∧ M.le M' := by
  refine fo_law18_RoutesNear (by simp) ?_
  repeat' ((conv => whnf); first | refine ⟨?_, True.intro⟩ | refine brn_t rfl ?_ | refine brn_f rfl ?_ | refine ob rfl ?_ | refine ob (by decide) ?_ | refine ob (Mem.le_refl _) ?_ | refine ⟨_, Mem.le_refl _, ?_⟩ | fail)
  refine (New_ok me age a n c nb hs (by omega)).mono ?_
  rintro v M1 (⟨hne, rfl, rfl⟩ | ⟨he, p, b1, b2, a', c', rfl, hp, hb1, hb2, ha, hle, ht⟩)
  · repeat' ((conv => whnf); first | refine ⟨?_, True.intro⟩ | refine brn_t rfl ?_ | refine brn_f rfl ?_ | refine ob rfl ?_ | refine ob (by decide) ?_ | refine ob (Mem.le_refl _) ?_ | refine ⟨_, Mem.le_refl _, ?_⟩ | fail)
    refine brn_t (by simpa using hne) ?_
    repeat' ((conv => whnf); first | refine ⟨?_, True.intro⟩ | refine brn_t rfl ?_ | refine brn_f rfl ?_ | refine ob rfl ?_ | refine ob (by decide) ?_ | refine ob (Mem.le_refl _) ?_ | refine ⟨_, Mem.le_refl _, ?_⟩ | fail)
    refine (newR_ok me age hs (by omega)).mono ?_
    rintro v M2 (⟨_, rfl, rfl⟩ | ⟨he, _⟩)
    · repeat' ((conv => whnf); first | refine ⟨?_, True.intro⟩ | refine brn_t rfl ?_ | refine brn_f rfl ?_ | refine ob rfl ?_ | refine ob (by decide) ?_ | refine ob (Mem.le_refl _) ?_ | refine ⟨_, Mem.le_refl _, ?_⟩ | fail)
      refine brn_t (by simp) ?_
      repeat' ((conv => whnf); first | refine ⟨?_, True.intro⟩ | refine brn_t rfl ?_ | refine brn_f rfl ?_ | refine ob rfl ?_ | refine ob (by decide) ?_ | refine ob (Mem.le_refl _) ?_ | refine ⟨_, Mem.le_refl _, ?_⟩ | fail)
      refine awake_ok.mono ?_
      rintro v M3 ⟨rfl, hle3⟩
      repeat' ((conv => whnf); first | refine ⟨?_, True.intro⟩ | refine brn_t rfl ?_ | refine brn_f rfl ?_ | refine ob rfl ?_ | refine ob (by decide) ?_ | refine ob (Mem.le_refl _) ?_ | refine ⟨_, Mem.le_refl _, ?_⟩ | fail)
      exact ⟨rfl, hle3⟩
    · exact absurd he hne
  obtain ⟨hok, hage, hme⟩ := newE_ok he
  have hz2 : M b2 = none := hb2
  repeat' ((conv => whnf); first | refine ⟨?_, True.intro⟩ | refine brn_t rfl ?_ | refine brn_f rfl ?_ | refine ob rfl ?_ | refine ob (by decide) ?_ | refine ob (Mem.le_refl _) ?_ | refine ⟨_, Mem.le_refl _, ?_⟩ | fail)
  refine new (fun bs hbs => ?_)
  replace hbs : M1 bs = none := hbs
  have hN0 : NewSl M1 T.s_int 1 (some ⟨bs, 0, none⟩) 64 64 ((List.replicate 64 (Value.slice none 0 0)).map fun x => x) _ := NewSl.lit hbs T.s_int 1 64 ((List.replicate 64 (Value.slice none 0 0)).map fun x => x) (by simp)
  obtain ⟨M0, hM0⟩ : ∃ M0, M0 = M1.setCells bs T.s_int ((List.replicate 64 (Value.slice none 0 0)).map fun x => x) := ⟨_, rfl⟩
  rw [← hM0] at hN0
  have hM0' : M1.setCells bs 28 (List.replicate (Int.toNat 64) [Value.slice none 0 0]).flatten = M0 := by rw [hM0]; rfl
  (conv => whnf)
  rw [hM0']
  refine loopF (σ := Nat × Mem × Mem × List (Int × Hd) × List (Int × Hd) × List Value) [10] (fun y => [(10, .int .i64 y.1)]) (fun _ => [.live T.portagelaw18_Set [.v (.int .i64 me), .v (.slice a n c), .v (.int .i64 age)]]) (fun y => y.2.1)
    (fun | ⟨i, Mc, A, m, lr, S⟩ => i ≤ n2 ∧ i ≤ 40 ∧ M.le A ∧ A.le Mc ∧ A bs = none ∧ TabAt A p b1 b2 a' n c' me age nb [] m ∧ SameT nb [] m [] lr ∧ lr.length ≤ i ∧ Wr Mc T.s_int 1 (some ⟨bs, 0, none⟩) 64 64 (S.map fun x => x) ∧ SaidOk M m S) (fun y => 40 - y.1) ⟨0, M0, M1, [], [], List.replicate 64 (.slice none 0 0)⟩
    ⟨by omega, by omega, hle, hN0.le, hbs, ht, SameT.start, by simp, hN0.wr, fun k h hk => by cases hk⟩ ⟨(by repeat' first | exact True.intro | refine ⟨rfl, ?_⟩), (by repeat' first | exact True.intro | refine ⟨rfl, ?_⟩), Mem.le_refl _, rfl⟩ ?_
  rintro ⟨i, Mc, A, m, lr, S⟩ ⟨hi, hi40, hMA, hAC, hAbs, hT, hsame, hlr, hw, hsaid⟩
  have hleC : M.le Mc := Mem.le_trans hMA hAC
  (conv => whnf); refine brn (fun g => ?_) (fun g => ?_)
  · have hi' : i < n2 := by have := of_decide_eq_true g; dsimp only at this; omega
    (conv => whnf); refine brn (fun g => ?_) (fun g => ?_)
    · have hi4 : i < 40 := by have := of_decide_eq_true g; dsimp only at this; omega
      obtain ⟨hlt, b, o, cs, rfl, hrows, hrow, hcl, a3, n3, c3, hcs, hsc, hn3⟩ := hl.at (by decide) (i := i) hi'
      have r0 := fun (Mx : Mem) (hx : M.le Mx) => Mem.row_le hx (hrows 0 1 (by decide))
      have r2 := fun (Mx : Mem) (hx : M.le Mx) => Mem.row_le hx (hrows 2 1 (by decide))
      have r3 := fun (Mx : Mem) (hx : M.le Mx) => Mem.row_le hx (hrows 3 1 (by decide))
      rw [hcs] at r0 r2 r3
      generalize l[i] = C at *
      (conv => whnf); refine ob (by first | omega | (dsimp only; omega)) ?_
      (conv => whnf); refine on (r0 Mc hleC) ?_
      (conv => whnf); refine brn (fun g1 => ?_) (fun g1 => ?_)
      · (conv => whnf); refine ob (by first | omega | (dsimp only; omega)) ?_
        (conv => whnf); refine on (r2 Mc hleC) ?_
        (conv => whnf); refine ob (by first | omega | (dsimp only; omega)) ?_
        (conv => whnf); refine on (r3 Mc hleC) ?_
        (conv => whnf)
        refine ⟨?_, trivial⟩
        (conv => whnf); refine ((Hear_ok2 hT (by omega) C.via a3 n3 c3 C.costs (hsc.le hMA) (by omega)).frame hAC).mono ?_
        rintro v M3 ⟨A3, ⟨rfl, hcase⟩, hA3, hrest⟩
        obtain ⟨cs0, hh0⟩ := hw.block rfl
        have hb3 := hrest bs _ hAbs hh0
        have hw3 := hw.mono (M' := M3) fun r o hr h1 => by cases hr; exact (hrest bs o hAbs h1).1
        rcases hcase with ⟨hne, rfl⟩ | ⟨he, hin, hrt, hkp, y, hy, hleft, hT3, hyc⟩
        · repeat' ((conv => whnf); first | refine ⟨?_, True.intro⟩ | refine brn_t rfl ?_ | refine brn_f rfl ?_ | refine ob rfl ?_ | refine ob (by decide) ?_ | refine ob (Mem.le_refl _) ?_ | refine ⟨_, Mem.le_refl _, ?_⟩ | fail)
          refine brn_f (by simpa using hne) ?_
          have hle5 : M.le M3 := Mem.le_trans hMA hA3
          obtain ⟨m5, e⟩ : ∃ x, x = m := ⟨_, rfl⟩
          subst e
          obtain ⟨lr5, e⟩ : ∃ x, x = lr := ⟨_, rfl⟩
          subst e
          obtain ⟨S5, e⟩ : ∃ x, x = S := ⟨_, rfl⟩
          subst e
          have hsame5 := hsame
          have hsaid5 := hsaid
          have hw5 := hw3
          obtain ⟨A5, e⟩ : ∃ x, x = A3 := ⟨_, rfl⟩
          subst e
          have hA5 := hA3
          have hT5 := hT
          have hAbs5 := hAbs
          have hMA5 := hMA
          have hlr5 := hlr
          repeat' ((conv => whnf); first | refine ⟨?_, True.intro⟩ | refine brn_t rfl ?_ | refine brn_f rfl ?_ | refine ob rfl ?_ | refine ob (by decide) ?_ | refine ob (Mem.le_refl _) ?_ | refine ⟨_, Mem.le_refl _, ?_⟩ | fail)
          refine ob (by first | omega | (dsimp only; omega)) ?_
          (conv => whnf); refine on (r0 _ hle5) ?_
          (conv => whnf); refine brn (fun g => ?_) (fun g => ?_)
          · have hfr := (Tick_ok hT5 (by rw [hsame5.len]; omega) hsame5.left).frame hA5
            (conv => whnf); refine hfr.mono ?_
            rintro v M6 ⟨A6, ⟨rfl, m6, hkp6, hT6, hm6⟩, hA6, hrest6⟩
            obtain ⟨cs6, hh6⟩ := hw5.block rfl
            have hb6 := hrest6 bs _ hAbs5 hh6
            have hw6 := hw5.mono (M' := M6) fun r o hr h1 => by cases hr; exact (hrest6 bs o hAbs5 h1).1
            have hs6 := hsame5.tick hm6 hT6.hrd.nodup
            have hl6 := tickL_len lr5
            have hsd6 : SaidOk M m6 S5 := fun k h hk => by
              rw [hm6] at hk
              cases e : aget m5 k with
              | none => rw [e] at hk; cases hk
              | some z =>
                rw [e] at hk
                simp only [tickO] at hk
                split at hk
                · cases hk
                · cases hk; exact hsaid5 k z e
            (conv => whnf); refine ob (inR_i64 (by first | omega | (dsimp only; omega))) ?_
            (conv => whnf)
            exact ⟨⟨i + 1, M6, A6, m6, tickL lr5, S5⟩, ⟨by omega, by omega, hkp6.le hMA5 fun y hy => by have hy : y = b2 := hy; subst hy; exact hz2, hA6, hb6.2, hT6, hs6, by omega, hw6, hsd6⟩, by dsimp only; omega, ⟨(by repeat' first | exact True.intro | refine ⟨rfl, ?_⟩), (by repeat' first | exact True.intro | refine ⟨rfl, ?_⟩), Mem.le_refl _, rfl⟩⟩
          · (conv => whnf); refine ob (inR_i64 (by first | omega | (dsimp only; omega))) ?_
            (conv => whnf)
            exact ⟨⟨i + 1, _, A5, m5, lr5, S5⟩, ⟨by omega, by omega, hMA5, hA5, hAbs5, hT5, hsame5, by omega, hw5, hsaid5⟩, by dsimp only; omega, ⟨(by repeat' first | exact True.intro | refine ⟨rfl, ?_⟩), (by repeat' first | exact True.intro | refine ⟨rfl, ?_⟩), Mem.le_refl _, rfl⟩⟩
        · rw [he]
          repeat' ((conv => whnf); first | refine ⟨?_, True.intro⟩ | refine brn_t rfl ?_ | refine brn_f rfl ?_ | refine ob rfl ?_ | refine ob (by decide) ?_ | refine ob (Mem.le_refl _) ?_ | refine ⟨_, Mem.le_refl _, ?_⟩ | fail)
          have hv := okNb_node hok C.via hin
          have hv' : 0 ≤ C.via ∧ C.via < 64 := by simpa [isNode] using hv.1
          have hMA3 : M.le A3 := hkp.le hMA fun y hy => by have hy : y = b2 := hy; subst hy; exact hz2
          have hle3 : M.le M3 := Mem.le_trans hMA3 hA3
          refine ob (by first | omega | (dsimp only; omega)) ?_
          (conv => whnf); refine on (r2 M3 hle3) ?_
          (conv => whnf); refine ob (by first | omega | (dsimp only; omega)) ?_
          (conv => whnf); refine on (r3 M3 hle3) ?_
          (conv => whnf); refine ob (by omega) ?_
          (conv => whnf)
          refine ⟨?_, trivial⟩
          obtain ⟨b', cs', hbb, hcells, hlen, hst⟩ := hw3.store1 (j := C.via.toNat) (by omega)
          cases hbb
          (conv => whnf); refine on hcells ?_
          (conv => whnf); refine ob hlen ?_
          obtain ⟨hw5, hk5⟩ := hst (.slice a3 n3 c3)
          have h64 : n3 = 64 := by have := hsc.maplen; simp [rightC] at hrt; omega
          have hSl : S.length = 64 := hw.maplen
          have hA5 : A3.le _ := hk5.le hA3 fun y ⟨r, hr, e⟩ => by cases hr; subst e; exact hb3.2
          have hle5 := Mem.le_trans hMA3 hA5
          have hsame5 := hsame.hear hin hrt hy (by rw [hleft]; exact hage)
          have hlr5 : (insH C.via y lr).length ≤ i + 1 := by have := insH_len C.via y lr; omega
          have hsaid5 : SaidOk M (aput m C.via y) (S.set C.via.toNat (.slice a3 n3 c3)) := fun k h hk => by
            rw [aget_aput] at hk
            split at hk
            · rename_i e; subst e
              cases hk
              refine ⟨hv'.1, hv'.2, a3, c3, by rw [List.getElem?_set_self (by omega), h64], fun d hd => ?_⟩
              exact hsc.get (j := d) (v := intV (y.c d)) (by rw [List.getElem?_map, hy d hd]; rfl)
            · obtain ⟨k1, k2, a8, c8, k3, k4⟩ := hsaid k h hk
              exact ⟨k1, k2, a8, c8, by rw [List.getElem?_set_ne (by omega)]; exact k3, k4⟩
          obtain ⟨m5, e⟩ : ∃ x, x = aput m C.via y := ⟨_, rfl⟩
          rw [← e] at hsame5 hsaid5 hT3
          obtain ⟨lr5, e⟩ : ∃ x, x = insH C.via y lr := ⟨_, rfl⟩
          rw [← e] at hsame5 hlr5
          obtain ⟨S5, e⟩ : ∃ x, x = S.set C.via.toNat (.slice a3 n3 c3) := ⟨_, rfl⟩
          rw [← e] at hsaid5 hw5
          obtain ⟨A5, e⟩ : ∃ x, x = A3 := ⟨_, rfl⟩
          subst e
          have hT5 := hT3
          have hAbs5 := hb3.2
          have hMA5 := hMA3
          repeat' ((conv => whnf); first | refine ⟨?_, True.intro⟩ | refine brn_t rfl ?_ | refine brn_f rfl ?_ | refine ob rfl ?_ | refine ob (by decide) ?_ | refine ob (Mem.le_refl _) ?_ | refine ⟨_, Mem.le_refl _, ?_⟩ | fail)
          refine ob (by first | omega | (dsimp only; omega)) ?_
          (conv => whnf); refine on (r0 _ hle5) ?_
          (conv => whnf); refine brn (fun g => ?_) (fun g => ?_)
          · have hfr := (Tick_ok hT5 (by rw [hsame5.len]; omega) hsame5.left).frame hA5
            (conv => whnf); refine hfr.mono ?_
            rintro v M6 ⟨A6, ⟨rfl, m6, hkp6, hT6, hm6⟩, hA6, hrest6⟩
            obtain ⟨cs6, hh6⟩ := hw5.block rfl
            have hb6 := hrest6 bs _ hAbs5 hh6
            have hw6 := hw5.mono (M' := M6) fun r o hr h1 => by cases hr; exact (hrest6 bs o hAbs5 h1).1
            have hs6 := hsame5.tick hm6 hT6.hrd.nodup
            have hl6 := tickL_len lr5
            have hsd6 : SaidOk M m6 S5 := fun k h hk => by
              rw [hm6] at hk
              cases e : aget m5 k with
              | none => rw [e] at hk; cases hk
              | some z =>
                rw [e] at hk
                simp only [tickO] at hk
                split at hk
                · cases hk
                · cases hk; exact hsaid5 k z e
            (conv => whnf); refine ob (inR_i64 (by first | omega | (dsimp only; omega))) ?_
            (conv => whnf)
            exact ⟨⟨i + 1, M6, A6, m6, tickL lr5, S5⟩, ⟨by omega, by omega, hkp6.le hMA5 fun y hy => by have hy : y = b2 := hy; subst hy; exact hz2, hA6, hb6.2, hT6, hs6, by omega, hw6, hsd6⟩, by dsimp only; omega, ⟨(by repeat' first | exact True.intro | refine ⟨rfl, ?_⟩), (by repeat' first | exact True.intro | refine ⟨rfl, ?_⟩), Mem.le_refl _, rfl⟩⟩
          · (conv => whnf); refine ob (inR_i64 (by first | omega | (dsimp only; omega))) ?_
            (conv => whnf)
            exact ⟨⟨i + 1, _, A5, m5, lr5, S5⟩, ⟨by omega, by omega, hMA5, hA5, hAbs5, hT5, hsame5, by omega, hw5, hsaid5⟩, by dsimp only; omega, ⟨(by repeat' first | exact True.intro | refine ⟨rfl, ?_⟩), (by repeat' first | exact True.intro | refine ⟨rfl, ?_⟩), Mem.le_refl _, rfl⟩⟩
      · have hle5 := hleC
        obtain ⟨m5, e⟩ : ∃ x, x = m := ⟨_, rfl⟩
        subst e
        obtain ⟨lr5, e⟩ : ∃ x, x = lr := ⟨_, rfl⟩
        subst e
        obtain ⟨S5, e⟩ : ∃ x, x = S := ⟨_, rfl⟩
        subst e
        have hsame5 := hsame
        have hsaid5 := hsaid
        have hw5 := hw
        obtain ⟨A5, e⟩ : ∃ x, x = A := ⟨_, rfl⟩
        subst e
        have hA5 := hAC
        have hT5 := hT
        have hAbs5 := hAbs
        have hMA5 := hMA
        have hlr5 := hlr
        repeat' ((conv => whnf); first | refine ⟨?_, True.intro⟩ | refine brn_t rfl ?_ | refine brn_f rfl ?_ | refine ob rfl ?_ | refine ob (by decide) ?_ | refine ob (Mem.le_refl _) ?_ | refine ⟨_, Mem.le_refl _, ?_⟩ | fail)
        refine ob (by first | omega | (dsimp only; omega)) ?_
        (conv => whnf); refine on (r0 _ hle5) ?_
        (conv => whnf); refine brn (fun g => ?_) (fun g => ?_)
        · have hfr := (Tick_ok hT5 (by rw [hsame5.len]; omega) hsame5.left).frame hA5
          (conv => whnf); refine hfr.mono ?_
          rintro v M6 ⟨A6, ⟨rfl, m6, hkp6, hT6, hm6⟩, hA6, hrest6⟩
          obtain ⟨cs6, hh6⟩ := hw5.block rfl
          have hb6 := hrest6 bs _ hAbs5 hh6
          have hw6 := hw5.mono (M' := M6) fun r o hr h1 => by cases hr; exact (hrest6 bs o hAbs5 h1).1
          have hs6 := hsame5.tick hm6 hT6.hrd.nodup
          have hl6 := tickL_len lr5
          have hsd6 : SaidOk M m6 S5 := fun k h hk => by
            rw [hm6] at hk
            cases e : aget m5 k with
            | none => rw [e] at hk; cases hk
            | some z =>
              rw [e] at hk
              simp only [tickO] at hk
              split at hk
              · cases hk
              · cases hk; exact hsaid5 k z e
          (conv => whnf); refine ob (inR_i64 (by first | omega | (dsimp only; omega))) ?_
          (conv => whnf)
          exact ⟨⟨i + 1, M6, A6, m6, tickL lr5, S5⟩, ⟨by omega, by omega, hkp6.le hMA5 fun y hy => by have hy : y = b2 := hy; subst hy; exact hz2, hA6, hb6.2, hT6, hs6, by omega, hw6, hsd6⟩, by dsimp only; omega, ⟨(by repeat' first | exact True.intro | refine ⟨rfl, ?_⟩), (by repeat' first | exact True.intro | refine ⟨rfl, ?_⟩), Mem.le_refl _, rfl⟩⟩
        · (conv => whnf); refine ob (inR_i64 (by first | omega | (dsimp only; omega))) ?_
          (conv => whnf)
          exact ⟨⟨i + 1, _, A5, m5, lr5, S5⟩, ⟨by omega, by omega, hMA5, hA5, hAbs5, hT5, hsame5, by omega, hw5, hsaid5⟩, by dsimp only; omega, ⟨(by repeat' first | exact True.intro | refine ⟨rfl, ?_⟩), (by repeat' first | exact True.intro | refine ⟨rfl, ?_⟩), Mem.le_refl _, rfl⟩⟩
    · skip
      have hTC := hT.le hAC
      have hg := hsame.good
      (conv => whnf)
      refine loopF (σ := Nat × Mem) [11] (fun y => [(11, .int .i64 y.1)]) (fun _ => [.live T.portagelaw18_Set [.v (.int .i64 me), .v (.slice a n c), .v (.int .i64 age)]]) (fun y => y.2)
        (fun | ⟨d, Md⟩ => d ≤ 64 ∧ Mc.le Md) (fun y => 64 - y.1) ⟨0, Mc⟩ ⟨by omega, Mem.le_refl _⟩ ⟨(by repeat' first | exact True.intro | refine ⟨rfl, ?_⟩), (by repeat' first | exact True.intro | refine ⟨rfl, ?_⟩), Mem.le_refl _, rfl⟩ ?_
      rintro ⟨d, Md⟩ ⟨hd, hleD⟩
      (conv => whnf); refine brn (fun g => ?_) (fun g => ?_)
      · have hd' : d < 64 := by have := of_decide_eq_true g; first | omega | (dsimp only at this; omega)
        have hnode : isNode (d : Int) = true := by simp [isNode]; omega
        (conv => whnf); refine (Next_ok (hTC.le hleD) hg (by omega) d).mono ?_
        rintro v Me ⟨rfl, hleE⟩
        have hCE : Mc.le Me := Mem.le_trans hleD hleE
        cases hnx : nextOf me nb [] m d with
        | none =>
          repeat' ((conv => whnf); first | refine ⟨?_, True.intro⟩ | refine brn_t rfl ?_ | refine brn_f rfl ?_ | refine ob rfl ?_ | refine ob (by decide) ?_ | refine ob (Mem.le_refl _) ?_ | refine ⟨_, Mem.le_refl _, ?_⟩ | fail)
          refine (Cost_ok (hTC.le hCE) hg d).mono ?_
          rintro v Mf ⟨rfl, hleF⟩
          repeat' ((conv => whnf); first | refine ⟨?_, True.intro⟩ | refine brn_t rfl ?_ | refine brn_f rfl ?_ | refine ob rfl ?_ | refine ob (by decide) ?_ | refine ob (Mem.le_refl _) ?_ | refine ⟨_, Mem.le_refl _, ?_⟩ | fail)
          refine brn (fun g1 => ?_) (fun g1 => ?_)
          · have hne : (d : Int) ≠ me := by simpa using g1
            have h16 := next_none hsame.nodup hsame.keys hnode hne hnx
            rw [h16]
            repeat' ((conv => whnf); first | refine ⟨?_, True.intro⟩ | refine brn_t rfl ?_ | refine brn_f rfl ?_ | refine ob rfl ?_ | refine ob (by decide) ?_ | refine ob (Mem.le_refl _) ?_ | refine ⟨_, Mem.le_refl _, ?_⟩ | fail)
            refine ob (inR_i64 (by first | omega | (dsimp only; omega))) ?_
            (conv => whnf)
            exact ⟨⟨d + 1, Mf⟩, ⟨by omega, Mem.le_trans hCE hleF⟩, by dsimp only; omega, ⟨(by repeat' first | exact True.intro | refine ⟨rfl, ?_⟩), (by repeat' first | exact True.intro | refine ⟨rfl, ?_⟩), Mem.le_refl _, rfl⟩⟩
          · repeat' ((conv => whnf); first | refine ⟨?_, True.intro⟩ | refine brn_t rfl ?_ | refine brn_f rfl ?_ | refine ob rfl ?_ | refine ob (by decide) ?_ | refine ob (Mem.le_refl _) ?_ | refine ⟨_, Mem.le_refl _, ?_⟩ | fail)
            refine ob (inR_i64 (by first | omega | (dsimp only; omega))) ?_
            (conv => whnf)
            exact ⟨⟨d + 1, Mf⟩, ⟨by omega, Mem.le_trans hCE hleF⟩, by dsimp only; omega, ⟨(by repeat' first | exact True.intro | refine ⟨rfl, ?_⟩), (by repeat' first | exact True.intro | refine ⟨rfl, ?_⟩), Mem.le_refl _, rfl⟩⟩
        | some k =>
          obtain ⟨z, hz, hzc, hz16⟩ := next_cost hnode hnx
          obtain ⟨hk0, hk1, a8, c8, hS8, hrow8⟩ := hsaid k z hz
          obtain ⟨b9, o9, rfl, hr9⟩ := hrow8 d hd'
          have hzc' : z.c d + 1 = costOf me [] m d := by simpa using hzc
          have hzg := hg k z hz d hd'
          repeat' ((conv => whnf); first | refine ⟨?_, True.intro⟩ | refine brn_t rfl ?_ | refine brn_f rfl ?_ | refine ob rfl ?_ | refine ob (by decide) ?_ | refine ob (Mem.le_refl _) ?_ | refine ⟨_, Mem.le_refl _, ?_⟩ | fail)
          refine (Cost_ok (hTC.le hCE) hg d).mono ?_
          rintro v Mf ⟨rfl, hleF⟩
          have hMf := Mem.le_trans hCE hleF
          obtain ⟨b7, o7, hb7, hr7⟩ := (hw.src.le hMf).get (j := k.toNat) (v := .slice (some ⟨b9, o9, none⟩) 64 c8) (by rw [List.map_id']; exact hS8)
          cases hb7
          have hr9f := Mem.row_le (Mem.le_trans hleC hMf) hr9
          repeat' ((conv => whnf); first | refine ⟨?_, True.intro⟩ | refine brn_t rfl ?_ | refine brn_f rfl ?_ | refine ob rfl ?_ | refine ob (by decide) ?_ | refine ob (Mem.le_refl _) ?_ | refine ⟨_, Mem.le_refl _, ?_⟩ | fail)
          refine ob (by omega) ?_
          (conv => whnf); refine on hr7 ?_
          repeat' ((conv => whnf); first | refine ⟨?_, True.intro⟩ | refine brn_t rfl ?_ | refine brn_f rfl ?_ | refine ob rfl ?_ | refine ob (by decide) ?_ | refine ob (Mem.le_refl _) ?_ | refine ⟨_, Mem.le_refl _, ?_⟩ | fail)
          refine ob (by omega) ?_
          (conv => whnf); refine on hr7 ?_
          repeat' ((conv => whnf); first | refine ⟨?_, True.intro⟩ | refine brn_t rfl ?_ | refine brn_f rfl ?_ | refine ob rfl ?_ | refine ob (by decide) ?_ | refine ob (Mem.le_refl _) ?_ | refine ⟨_, Mem.le_refl _, ?_⟩ | fail)
          refine ob (by first | omega | (dsimp only; omega)) ?_
          (conv => whnf); refine on hr9f ?_
          (conv => whnf); refine ob (inR_i64 (by omega)) ?_
          rw [hzc']
          (conv => whnf); refine brn_f (by simp) ?_
          (conv => whnf); refine brn_f (by simp; omega) ?_
          (conv => whnf); refine brn_f rfl ?_
          (conv => whnf); refine ob (inR_i64 (by first | omega | (dsimp only; omega))) ?_
          (conv => whnf)
          exact ⟨⟨d + 1, Mf⟩, ⟨by omega, Mem.le_trans hCE hleF⟩, by dsimp only; omega, ⟨(by repeat' first | exact True.intro | refine ⟨rfl, ?_⟩), (by repeat' first | exact True.intro | refine ⟨rfl, ?_⟩), Mem.le_refl _, rfl⟩⟩
      · (conv => whnf); refine awake_ok.mono ?_
        rintro v M9 ⟨rfl, hle9⟩
        repeat' ((conv => whnf); first | refine ⟨?_, True.intro⟩ | refine brn_t rfl ?_ | refine brn_f rfl ?_ | refine ob rfl ?_ | refine ob (by decide) ?_ | refine ob (Mem.le_refl _) ?_ | refine ⟨_, Mem.le_refl _, ?_⟩ | fail)
        exact ⟨rfl, Mem.le_trans hleC (Mem.le_trans hleD hle9)⟩
  · skip
    have hTC := hT.le hAC
    have hg := hsame.good
    (conv => whnf)
    refine loopF (σ := Nat × Mem) [11] (fun y => [(11, .int .i64 y.1)]) (fun _ => [.live T.portagelaw18_Set [.v (.int .i64 me), .v (.slice a n c), .v (.int .i64 age)]]) (fun y => y.2)
      (fun | ⟨d, Md⟩ => d ≤ 64 ∧ Mc.le Md) (fun y => 64 - y.1) ⟨0, Mc⟩ ⟨by omega, Mem.le_refl _⟩ ⟨(by repeat' first | exact True.intro | refine ⟨rfl, ?_⟩), (by repeat' first | exact True.intro | refine ⟨rfl, ?_⟩), Mem.le_refl _, rfl⟩ ?_
    rintro ⟨d, Md⟩ ⟨hd, hleD⟩
    (conv => whnf); refine brn (fun g => ?_) (fun g => ?_)
    · have hd' : d < 64 := by have := of_decide_eq_true g; first | omega | (dsimp only at this; omega)
      have hnode : isNode (d : Int) = true := by simp [isNode]; omega
      (conv => whnf); refine (Next_ok (hTC.le hleD) hg (by omega) d).mono ?_
      rintro v Me ⟨rfl, hleE⟩
      have hCE : Mc.le Me := Mem.le_trans hleD hleE
      cases hnx : nextOf me nb [] m d with
      | none =>
        repeat' ((conv => whnf); first | refine ⟨?_, True.intro⟩ | refine brn_t rfl ?_ | refine brn_f rfl ?_ | refine ob rfl ?_ | refine ob (by decide) ?_ | refine ob (Mem.le_refl _) ?_ | refine ⟨_, Mem.le_refl _, ?_⟩ | fail)
        refine (Cost_ok (hTC.le hCE) hg d).mono ?_
        rintro v Mf ⟨rfl, hleF⟩
        repeat' ((conv => whnf); first | refine ⟨?_, True.intro⟩ | refine brn_t rfl ?_ | refine brn_f rfl ?_ | refine ob rfl ?_ | refine ob (by decide) ?_ | refine ob (Mem.le_refl _) ?_ | refine ⟨_, Mem.le_refl _, ?_⟩ | fail)
        refine brn (fun g1 => ?_) (fun g1 => ?_)
        · have hne : (d : Int) ≠ me := by simpa using g1
          have h16 := next_none hsame.nodup hsame.keys hnode hne hnx
          rw [h16]
          repeat' ((conv => whnf); first | refine ⟨?_, True.intro⟩ | refine brn_t rfl ?_ | refine brn_f rfl ?_ | refine ob rfl ?_ | refine ob (by decide) ?_ | refine ob (Mem.le_refl _) ?_ | refine ⟨_, Mem.le_refl _, ?_⟩ | fail)
          refine ob (inR_i64 (by first | omega | (dsimp only; omega))) ?_
          (conv => whnf)
          exact ⟨⟨d + 1, Mf⟩, ⟨by omega, Mem.le_trans hCE hleF⟩, by dsimp only; omega, ⟨(by repeat' first | exact True.intro | refine ⟨rfl, ?_⟩), (by repeat' first | exact True.intro | refine ⟨rfl, ?_⟩), Mem.le_refl _, rfl⟩⟩
        · repeat' ((conv => whnf); first | refine ⟨?_, True.intro⟩ | refine brn_t rfl ?_ | refine brn_f rfl ?_ | refine ob rfl ?_ | refine ob (by decide) ?_ | refine ob (Mem.le_refl _) ?_ | refine ⟨_, Mem.le_refl _, ?_⟩ | fail)
          refine ob (inR_i64 (by first | omega | (dsimp only; omega))) ?_
          (conv => whnf)
          exact ⟨⟨d + 1, Mf⟩, ⟨by omega, Mem.le_trans hCE hleF⟩, by dsimp only; omega, ⟨(by repeat' first | exact True.intro | refine ⟨rfl, ?_⟩), (by repeat' first | exact True.intro | refine ⟨rfl, ?_⟩), Mem.le_refl _, rfl⟩⟩
      | some k =>
        obtain ⟨z, hz, hzc, hz16⟩ := next_cost hnode hnx
        obtain ⟨hk0, hk1, a8, c8, hS8, hrow8⟩ := hsaid k z hz
        obtain ⟨b9, o9, rfl, hr9⟩ := hrow8 d hd'
        have hzc' : z.c d + 1 = costOf me [] m d := by simpa using hzc
        have hzg := hg k z hz d hd'
        repeat' ((conv => whnf); first | refine ⟨?_, True.intro⟩ | refine brn_t rfl ?_ | refine brn_f rfl ?_ | refine ob rfl ?_ | refine ob (by decide) ?_ | refine ob (Mem.le_refl _) ?_ | refine ⟨_, Mem.le_refl _, ?_⟩ | fail)
        refine (Cost_ok (hTC.le hCE) hg d).mono ?_
        rintro v Mf ⟨rfl, hleF⟩
        have hMf := Mem.le_trans hCE hleF
        obtain ⟨b7, o7, hb7, hr7⟩ := (hw.src.le hMf).get (j := k.toNat) (v := .slice (some ⟨b9, o9, none⟩) 64 c8) (by rw [List.map_id']; exact hS8)
        cases hb7
        have hr9f := Mem.row_le (Mem.le_trans hleC hMf) hr9
        repeat' ((conv => whnf); first | refine ⟨?_, True.intro⟩ | refine brn_t rfl ?_ | refine brn_f rfl ?_ | refine ob rfl ?_ | refine ob (by decide) ?_ | refine ob (Mem.le_refl _) ?_ | refine ⟨_, Mem.le_refl _, ?_⟩ | fail)
        refine ob (by omega) ?_
        (conv => whnf); refine on hr7 ?_
        repeat' ((conv => whnf); first | refine ⟨?_, True.intro⟩ | refine brn_t rfl ?_ | refine brn_f rfl ?_ | refine ob rfl ?_ | refine ob (by decide) ?_ | refine ob (Mem.le_refl _) ?_ | refine ⟨_, Mem.le_refl _, ?_⟩ | fail)
        refine ob (by omega) ?_
        (conv => whnf); refine on hr7 ?_
        repeat' ((conv => whnf); first | refine ⟨?_, True.intro⟩ | refine brn_t rfl ?_ | refine brn_f rfl ?_ | refine ob rfl ?_ | refine ob (by decide) ?_ | refine ob (Mem.le_refl _) ?_ | refine ⟨_, Mem.le_refl _, ?_⟩ | fail)
        refine ob (by first | omega | (dsimp only; omega)) ?_
        (conv => whnf); refine on hr9f ?_
        (conv => whnf); refine ob (inR_i64 (by omega)) ?_
        rw [hzc']
        (conv => whnf); refine brn_f (by simp) ?_
        (conv => whnf); refine brn_f (by simp; omega) ?_
        (conv => whnf); refine brn_f rfl ?_
        (conv => whnf); refine ob (inR_i64 (by first | omega | (dsimp only; omega))) ?_
        (conv => whnf)
        exact ⟨⟨d + 1, Mf⟩, ⟨by omega, Mem.le_trans hCE hleF⟩, by dsimp only; omega, ⟨(by repeat' first | exact True.intro | refine ⟨rfl, ?_⟩), (by repeat' first | exact True.intro | refine ⟨rfl, ?_⟩), Mem.le_refl _, rfl⟩⟩
    · (conv => whnf); refine awake_ok.mono ?_
      rintro v M9 ⟨rfl, hle9⟩
      repeat' ((conv => whnf); first | refine ⟨?_, True.intro⟩ | refine brn_t rfl ?_ | refine brn_f rfl ?_ | refine ob rfl ?_ | refine ob (by decide) ?_ | refine ob (Mem.le_refl _) ?_ | refine ⟨_, Mem.le_refl _, ?_⟩ | fail)
      exact ⟨rfl, Mem.le_trans hleC (Mem.le_trans hleD hle9)⟩
end Go.Proofs.Ytankgacaeejlhaa
