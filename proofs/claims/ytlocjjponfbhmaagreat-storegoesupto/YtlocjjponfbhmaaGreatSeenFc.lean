/- The set of any marks. -/
import Derived.Test.YtlocjjponfbhmaaGreatJoin28
namespace Go.Proofs.YtlocjjponfbhmaaGreat
open Go Go.Vm
attribute [local irreducible] Brn Ob Grow CallsM inR LoopVC Mem.row Mem.cells Mem.setCells Mem.upd Own AppVC SrcVC StrVC NextVC New SrcOk subA NewSl Mem.textAt Mem.mapAt Mem.iterAt entryOf kfind Wr NewEls Elems
set_option maxRecDepth 10000
variable {M : Mem}
theorem InvE.of {es : EsT} (h : FormP (es.map mkOf)) : InvE es := by
  have hm : ∀ q ∈ es, RightM (mkOf q) := fun q hq => h.1 _ (List.mem_map.2 ⟨q, hq, rfl⟩)
  refine ⟨?_, fun q hq => ?_, fun q hq => ?_⟩
  · have := h.2
    rw [List.pairwise_map] at this
    unfold List.Nodup
    rw [List.pairwise_map]
    refine this.imp fun {x y} hxy e => ?_
    unfold ltMk mkOf at hxy
    rw [e] at hxy
    dsimp only at hxy
    omega
  · obtain ⟨h1, h2, h3⟩ := hm q hq
    obtain ⟨h4, h5⟩ := h3.can
    dsimp only [mkOf] at h1 h2 h4 h5
    exact ⟨⟨h1.2.2.2.2.1, h4, fun c hc => (h5 c hc).1⟩, h2.imp id fun h e => by rw [e] at h; simp at h⟩
  · obtain ⟨h1, h2, h3⟩ := hm q hq
    obtain ⟨h4, h5⟩ := h3.can
    dsimp only [mkOf] at h1 h2 h4 h5
    refine ⟨⟨by omega, by omega, by omega, by omega⟩, fun c hc => ?_⟩
    rcases hc with hc | hc
    · omega
    · exact (h5 c hc).2
theorem From_ok (gaps : Int) {a : Option Addr} {n c : Nat} {l : List MkC} (ha : MarksR M a n l) (fl : FewM l) (hn : n ≤ 1048576) (hfl : ∀ m ∈ l, m.more.length ≤ 1048576) :
    CallsM Tryz.prog F.seen_From [.int .i64 gaps, .slice a n c] M fun v M' => ∃ k, CheckP gaps (l.map MkC.mk') k ∧
      ((k ≠ 0 ∧ v = .tuple #[.pointer none, .int .i64 k] ∧ M.le M') ∨ (k = 0 ∧ ∃ p b es, v = .tuple #[ptr p, .int .i64 0] ∧ FreshS M M' p b gaps es ∧ es.map mkOf = l.map MkC.mk')) := by
  refine fo_seen_From (by simp) ?_
  have hl := ha.len
  (conv => whnf); refine (New_ok gaps).mono ?_
  rintro v M1 (⟨hg, rfl, rfl⟩ | ⟨hg, p, b, rfl, hp, hb, hle1, hS1⟩)
  · repeat' ((conv => whnf); first | refine ⟨?_, True.intro⟩ | refine brn_t rfl ?_ | refine brn_f rfl ?_ | refine ob rfl ?_ | refine ob (by decide) ?_ | refine grow_same (Mem.le_refl _) ?_ | refine ob (Mem.le_refl _) ?_ | refine ⟨_, Mem.le_refl _, ?_⟩ | fail)
    exact ⟨1, .inl ⟨hg, rfl⟩, .inl ⟨by decide, rfl, Mem.le_refl _⟩⟩
  have hfr0 : ∀ y, setB p b [] y → M y = none := fun y hy => by
    rcases hy with rfl | rfl | ⟨q, hq, _⟩
    · exact hp
    · exact hb
    · cases hq
  repeat' ((conv => whnf); first | refine ⟨?_, True.intro⟩ | refine brn_t rfl ?_ | refine brn_f rfl ?_ | refine ob rfl ?_ | refine ob (by decide) ?_ | refine grow_same (Mem.le_refl _) ?_ | refine ob (Mem.le_refl _) ?_ | refine ⟨_, Mem.le_refl _, ?_⟩ | fail)
  refine loopF (σ := Nat × Mem × EsT) [20] (fun y => [(20, .int .i64 y.1)]) (fun _ => []) (fun y => y.2.1)
    (fun | ⟨i, Mc, es⟩ => i ≤ n ∧ M.le Mc ∧ SetAt Mc p b gaps es ∧ (∀ y, setB p b es y → M y = none) ∧ es.map mkOf = (l.map MkC.mk').take i ∧ FormP ((l.map MkC.mk').take i)) (fun y => n - y.1) ⟨0, M1, []⟩
    ⟨by omega, hle1, hS1, hfr0, by simp, ⟨by simp, by simp⟩⟩ ⟨(by repeat' first | exact True.intro | refine ⟨rfl, ?_⟩), (by repeat' first | exact True.intro | refine ⟨rfl, ?_⟩), Mem.le_refl _, rfl⟩ ?_
  rintro ⟨i, Mc, es⟩ ⟨hi, hle, hS, hfr, hes, hF⟩
  (conv => whnf); refine brn (fun g2 => ?_) (fun g2 => ?_)
  · have hlt : i < n := by have := of_decide_eq_true g2; dsimp only at this; omega
    have hx : l[i]? = some (l[i]'(by omega)) := List.getElem?_eq_getElem (by omega)
    generalize l[i]'(by omega) = x at *
    obtain ⟨b1, o1, hra, hrow⟩ := (ha.row.le hle).fall encM_len (by decide) hx
    have hxm := (ha.more x (List.mem_of_getElem? hx)).le hle
    have hfx := fl x (List.mem_of_getElem? hx)
    have hxk : (l.map MkC.mk')[i]? = some x.mk' := by rw [List.getElem?_map, hx]; rfl
    have hxm' : x.mk' ∈ l.map MkC.mk' := List.mem_of_getElem? hxk
    have htk : (l.map MkC.mk').take (i + 1) = (l.map MkC.mk').take i ++ [x.mk'] := by rw [List.take_add_one, hxk]; rfl
    obtain ⟨b2, o2, hab, hcc⟩ := (ha.row.le hle).fcells encM_len (by decide) hx
    have bad : ∀ {k : Int}, ¬ FormP (l.map MkC.mk') → k = 2 → CheckP gaps (l.map MkC.mk') k := fun h e => .inr (.inl ⟨hg, h, e⟩)
    (conv => whnf); refine ob (by first | omega | (dsimp only; omega)) ?_
    (conv => whnf); refine atp hra ?_
    (conv => whnf); refine on hrow ?_
    repeat' ((conv => whnf); first | refine ⟨?_, True.intro⟩ | refine brn_t rfl ?_ | refine brn_f rfl ?_ | refine ob rfl ?_ | refine ob (by decide) ?_ | refine grow_same (Mem.le_refl _) ?_ | refine ob (Mem.le_refl _) ?_ | refine ⟨_, Mem.le_refl _, ?_⟩ | fail)
    refine (right_ok hxm hfx).mono ?_
    rintro v _ ⟨r, rfl, hr, rfl⟩
    repeat' ((conv => whnf); first | refine ob rfl ?_ | refine grow_same (Mem.le_refl _) ?_ | refine ob (Mem.le_refl _) ?_ | refine ⟨?_, True.intro⟩ | fail)
    refine brn (fun g3 => ?_) (fun g3 => ?_)
    · have nb : CheckP gaps (l.map MkC.mk') 2 := bad (fun h => by
        rw [hr.2 (h.1 _ hxm')] at g3
        cases g3) rfl
      repeat' ((conv => whnf); first | refine ⟨?_, True.intro⟩ | refine ⟨?_, ?_, True.intro⟩ | refine brn_t rfl ?_ | refine brn_f rfl ?_ | refine ob rfl ?_ | refine ob (by decide) ?_ | refine grow_same (Mem.le_refl _) ?_ | refine ob (Mem.le_refl _) ?_ | refine ⟨_, Mem.le_refl _, ?_⟩ | fail)
      all_goals exact ⟨2, nb, .inl ⟨by decide, rfl, hle⟩⟩
    have hR : RightM x.mk' := hr.1 (by cases r <;> simp_all)
    (conv => whnf); refine brn (fun g4 => ?_) (fun g4 => ?_)
    · replace g4 := of_decide_eq_true g4
      obtain ⟨j, hij⟩ : ∃ j, i = j + 1 := ⟨i - 1, by dsimp only at g4; omega⟩
      have hy : l[j]? = some (l[j]'(by omega)) := List.getElem?_eq_getElem (by omega)
      generalize l[j]'(by omega) = y at *
      obtain ⟨b3, o3, hab3, hcc3⟩ := (ha.row.le hle).fcells encM_len (by decide) hy
      have hyk : (l.map MkC.mk')[j]? = some y.mk' := by rw [List.getElem?_map, hy]; rfl
      have hgl : ((l.map MkC.mk').take i).getLast? = some y.mk' := by rw [hij, List.take_add_one, hyk]; simp
      (conv => whnf); refine ob (inR_i64 (by first | omega | (dsimp only; omega))) ?_
      (conv => whnf)
      erw [show ((i : Nat) : Int) - 1 = (j : Nat) from by omega]
      (conv => whnf); refine ob (by first | omega | (dsimp only; omega)) ?_
      (conv => whnf); refine atp hab3 ?_
      (conv => whnf); refine on (hcc3 0 _ rfl) ?_
      (conv => whnf); refine ob (inR_i64 (by first | omega | (dsimp only; omega))) ?_
      (conv => whnf)
      erw [show ((i : Nat) : Int) - 1 = (j : Nat) from by omega]
      (conv => whnf); refine ob (by first | omega | (dsimp only; omega)) ?_
      (conv => whnf); refine atp hab3 ?_
      (conv => whnf); refine on (hcc3 1 _ rfl) ?_
      (conv => whnf)
      refine ⟨?_, ?_, True.intro⟩
      · repeat' ((conv => whnf); first | refine ⟨?_, True.intro⟩ | refine brn_t rfl ?_ | refine brn_f rfl ?_ | refine ob rfl ?_ | refine ob (by decide) ?_ | refine grow_same (Mem.le_refl _) ?_ | refine ob (Mem.le_refl _) ?_ | refine ⟨_, Mem.le_refl _, ?_⟩ | fail)
        refine new (fun b4 hb4 => ?_)
        replace hb4 : Mc b4 = none := hb4
        repeat' ((conv => whnf); first | refine ⟨?_, True.intro⟩ | refine brn_t rfl ?_ | refine brn_f rfl ?_ | refine ob rfl ?_ | refine ob (by decide) ?_ | refine grow_same (Mem.le_refl _) ?_ | refine ob (Mem.le_refl _) ?_ | refine ⟨_, Mem.le_refl _, ?_⟩ | fail)
        refine new (fun b5 hb5 => ?_)
        replace hb5 : (Mc.setCells b4 T.int [.int .i64 y.o, .int .i64 y.e]) b5 = none := hb5
        have hle6 := Mem.le_trans (Mem.le_setCells hb4 (E := T.int) (l := [.int .i64 y.o, .int .i64 y.e])) (Mem.le_setCells hb5 (E := T.int) (l := [.int .i64 x.o, .int .i64 x.e]))
        have hY6 := ((Mem.has_setCells (M := Mc) (b := b4) (E := T.int) (l := [.int .i64 y.o, .int .i64 y.e])).src (size := 1) (n := 2) rfl).le (Mem.le_setCells hb5 (E := T.int) (l := [.int .i64 x.o, .int .i64 x.e]))
        have hX6 := (Mem.has_setCells (M := Mc.setCells b4 T.int [.int .i64 y.o, .int .i64 y.e]) (b := b5) (E := T.int) (l := [.int .i64 x.o, .int .i64 x.e])).src (size := 1) (n := 2) rfl
        obtain ⟨M6, hM6⟩ : ∃ M6, M6 = (Mc.setCells b4 T.int [.int .i64 y.o, .int .i64 y.e]).setCells b5 T.int [.int .i64 x.o, .int .i64 x.e] := ⟨_, rfl⟩
        rw [← hM6] at hle6 hY6 hX6
        repeat' ((conv => whnf); first | refine ⟨?_, True.intro⟩ | refine brn_t rfl ?_ | refine brn_f rfl ?_ | refine ob rfl ?_ | refine ob (by decide) ?_ | refine grow_same (Mem.le_refl _) ?_ | refine ob (Mem.le_refl _) ?_ | refine ⟨_, Mem.le_refl _, ?_⟩ | fail)
        erw [← hM6]
        refine (compare_ok (X := [y.o, y.e]) (Y := [x.o, x.e]) hY6 hX6 (by omega) (by omega)).mono ?_
        rintro v _ ⟨rfl, rfl⟩
        repeat' ((conv => whnf); first | refine ⟨?_, True.intro⟩ | refine brn_t rfl ?_ | refine brn_f rfl ?_ | refine ob rfl ?_ | refine ob (by decide) ?_ | refine grow_same (Mem.le_refl _) ?_ | refine ob (Mem.le_refl _) ?_ | refine ⟨_, Mem.le_refl _, ?_⟩ | fail)
        refine brn (fun g5 => ?_) (fun g5 => ?_)
        · replace g5 := of_decide_eq_true g5
          have nb : CheckP gaps (l.map MkC.mk') 2 := bad (fun h => by
            have h1 := (cmpM_lt y x).2 (show ltMk y.mk' x.mk' from h.lt hyk (hij ▸ hxk))
            unfold cmpM at h1
            omega) rfl
          repeat' ((conv => whnf); first | refine ⟨?_, True.intro⟩ | refine brn_t rfl ?_ | refine brn_f rfl ?_ | refine ob rfl ?_ | refine ob (by decide) ?_ | refine grow_same (Mem.le_refl _) ?_ | refine ob (Mem.le_refl _) ?_ | refine ⟨_, Mem.le_refl _, ?_⟩ | fail)
          exact ⟨2, nb, .inl ⟨by decide, rfl, Mem.le_trans hle hle6⟩⟩
        replace g5 := of_decide_eq_false g5
        have hlt5 : ltMk y.mk' x.mk' := (cmpM_lt y x).1 (by unfold cmpM; omega)
        have hlast : ∀ z, ((l.map MkC.mk').take i).getLast? = some z → ltMk z x.mk' := fun z hz => by
          rw [hgl] at hz; cases hz
          exact hlt5
        have hS6 := hS.le hle6
        have hF' : FormP ((l.map MkC.mk').take (i + 1)) := by rw [htk]; exact hF.snoc hR hlast
        have hnk : aget es (x.o, x.e) = none := by
          rw [aget_none]
          intro hin
          obtain ⟨q, hq, e⟩ := List.mem_map.1 hin
          have hz : mkOf q ∈ (l.map MkC.mk').take i := hes ▸ List.mem_map.2 ⟨q, hq, rfl⟩
          have hp := hF'.2
          rw [htk, List.pairwise_append] at hp
          have h1 := hp.2.2 _ hz x.mk' (by simp)
          have e1 : q.1.1 = x.o := congrArg (·.1) e
          have e2 : q.1.2 = x.e := congrArg (·.2) e
          rcases h1 with h1 | ⟨-, h1⟩
          · exact absurd (show q.1.1 < x.o from h1) (by omega)
          · exact absurd (show q.1.2 < x.e from h1) (by omega)
        have hb6 : ∀ y, M6 y = none → M y = none := fun y hy => by
          cases e : M y with
          | none => rfl
          | some z => rw [hle6 _ _ (hle _ _ e)] at hy; cases hy
        repeat' ((conv => whnf); first | refine ⟨?_, True.intro⟩ | refine brn_t rfl ?_ | refine brn_f rfl ?_ | refine ob rfl ?_ | refine ob (by decide) ?_ | refine grow_same (Mem.le_refl _) ?_ | refine ob (Mem.le_refl _) ?_ | refine ⟨_, Mem.le_refl _, ?_⟩ | fail)
        refine on (hS6.self.c1 rfl) ?_
        repeat' ((conv => whnf); first | refine ⟨?_, True.intro⟩ | refine brn_t rfl ?_ | refine brn_f rfl ?_ | refine ob rfl ?_ | refine ob (by decide) ?_ | refine grow_same (Mem.le_refl _) ?_ | refine ob (Mem.le_refl _) ?_ | refine ⟨_, Mem.le_refl _, ?_⟩ | fail)
        refine new (fun b7 hb7 => ?_)
        replace hb7 : M6 b7 = none := hb7
        have hN7 : NewSl M6 T.int 1 (some ⟨b7, 0, none⟩) 0 0 (([] : List Int).map intV) _ := NewSl.lit hb7 T.int 1 0 [] rfl
        obtain ⟨M7, hM7⟩ : ∃ M7, M7 = M6.setCells b7 T.int [] := ⟨_, rfl⟩
        rw [← hM7] at hN7
        (conv => whnf)
        erw [← hM7]
        repeat' ((conv => whnf); first | refine ob rfl ?_ | refine grow_same hN7.le ?_ | refine ob hN7.le ?_ | refine ⟨?_, True.intro⟩ | fail)
        (conv => whnf)
        refine srcv ((hxm.le hle6).le hN7.le) ?_
        (conv => whnf); refine appNC M6 _ hN7 (by first | omega | (dsimp only; omega)) (by simp [maxLen]; omega) (by simp [Value.oneCell']) fun a8 c8 M8 hcap hN8 => ?_
        repeat' ((conv => whnf); first | refine ob rfl ?_ | refine grow_same hN8.le ?_ | refine ob hN8.le ?_ | refine ⟨?_, True.intro⟩ | fail)
        (conv => whnf)
        refine new (fun r9 hr9 => ?_)
        replace hr9 : M8 r9 = none := hr9
        have hle9 : M8.le (M8.setCells r9 T.seen_row [.int .i64 x.up, .slice a8 x.more.length c8]) := Mem.le_setCells hr9
        have hself9 : (M8.setCells r9 T.seen_row [.int .i64 x.up, .slice a8 x.more.length c8]).has r9 T.seen_row [.int .i64 x.up, .slice a8 x.more.length c8] := Mem.has_setCells
        obtain ⟨M9, hM9⟩ : ∃ M9, M9 = M8.setCells r9 T.seen_row [.int .i64 x.up, .slice a8 x.more.length c8] := ⟨_, rfl⟩
        rw [← hM9] at hle9 hself9
        rw [← Nat.zero_add x.more.length] at hM9
        (conv => whnf)
        erw [← hM9]
        have hle69 : M6.le M9 := Mem.le_trans hN8.le hle9
        have hm9 : MapAt keyV entV M9 b es := hS6.map.mono fun o ho => hle69 _ _ ho
        repeat' ((conv => whnf); first | refine ⟨?_, True.intro⟩ | refine brn_t rfl ?_ | refine brn_f rfl ?_ | refine ob rfl ?_ | refine ob (by decide) ?_ | refine grow_same (Mem.le_refl _) ?_ | refine ob (Mem.le_refl _) ?_ | refine ⟨_, Mem.le_refl _, ?_⟩ | fail)
        refine hm9.put keyK (x.o, x.e) ⟨r9, a8, c8, x.up, x.more⟩ fun q2 f2 hm10 => ?_
        replace hm10 := hm10 M9
        obtain ⟨M10, hM10⟩ : ∃ M10, M10 = M9.upd b (mput q2 f2 (keyV (x.o, x.e)) (entV ⟨r9, a8, c8, x.up, x.more⟩)) := ⟨_, rfl⟩
        have hk10 : Mem.keep (fun y => y = b) M9 M10 := hM10 ▸ Mem.keep_upd _ _ rfl
        rw [← hM10] at hm10
        (conv => whnf)
        erw [← hM10]
        repeat' ((conv => whnf); first | refine ⟨?_, True.intro⟩ | refine brn_t rfl ?_ | refine brn_f rfl ?_ | refine ob rfl ?_ | refine ob (by decide) ?_ | refine grow_same (Mem.le_refl _) ?_ | refine ob (Mem.le_refl _) ?_ | refine ⟨_, Mem.le_refl _, ?_⟩ | fail)
        have hown : ∀ y, Ent.own ⟨r9, a8, c8, x.up, x.more⟩ y → M6 y = none := fun y hy => by
          rcases hy with rfl | ⟨q, hq, rfl⟩
          · cases e : M6 y with
            | none => rfl
            | some z => rw [hN8.le _ _ e] at hr9; cases hr9
          · exact (hN8.block hq).1
        have hrow8 : RowI M8 a8 c8 x.more := by
          have h5 := newSl_iff.1 hN8
          obtain ⟨-, h6, h7, h8⟩ := h5
          rw [Nat.zero_add] at h7 h8 h6
          refine ⟨⟨h7, by rcases hcap with e | e <;> omega⟩, ?_⟩
          rcases h8 with ⟨e1, e2⟩ | ⟨bb, cs, e1, -, e3, e4, e5⟩
          · exact .inl ⟨e1, e2⟩
          · refine .inr ⟨bb, 0, cs, e1, e3, by omega, ?_⟩
            simpa using e5
        have hE9 : EntAt M9 ⟨r9, a8, c8, x.up, x.more⟩ := ⟨hself9, hrow8.mono fun q o hq ho => hle9 _ _ ho⟩
        have hE10 : EntAt M10 ⟨r9, a8, c8, x.up, x.more⟩ := hE9.mono fun y o hy ho => hk10 _ _ (fun e => by
          subst e
          have h1 := hown _ hy
          obtain ⟨l1, cc, hh, _⟩ := hS6.map
          rw [hh] at h1; cases h1) ho
        have hk610 : Mem.keep (fun y => y = b) M6 M10 := fun y o hy ho => hk10 _ _ hy (hle69 _ _ ho)
        have hS10 := hS6.more hnk hk610 hm10 hE10 hown
        have hpa : aput es (x.o, x.e) ⟨r9, a8, c8, x.up, x.more⟩ = es ++ [((x.o, x.e), ⟨r9, a8, c8, x.up, x.more⟩)] := by simp [aput, hnk]
        (conv => whnf)
        refine ob (inR_i64 (by first | omega | (dsimp only; omega))) ?_
        (conv => whnf)
        refine ⟨⟨i + 1, M10, _⟩, ⟨by omega, fun y o hy => hk10 _ _ (fun e => ?_) (hle69 _ _ (hle6 _ _ (hle _ _ hy))), hS10, fun y hy => ?_, ?_, hF'⟩, by dsimp only; omega, ⟨(by repeat' first | exact True.intro | refine ⟨rfl, ?_⟩), (by repeat' first | exact True.intro | refine ⟨rfl, ?_⟩), Mem.le_refl _, rfl⟩⟩
        · have := hfr b (.inr (.inl rfl)); rw [← e, hy] at this; cases this
        · rw [hpa] at hy
          rcases hy with rfl | rfl | ⟨q, hq, hy⟩
          · exact hfr _ (.inl rfl)
          · exact hfr _ (.inr (.inl rfl))
          · rcases List.mem_append.1 hq with h1 | h1
            · exact hfr _ (.inr (.inr ⟨q, h1, hy⟩))
            · simp only [List.mem_singleton] at h1
              subst h1
              exact hb6 _ (hown _ hy)
        · rw [hpa, List.map_append, hes, htk]; rfl
      · repeat' ((conv => whnf); first | refine ⟨?_, True.intro⟩ | refine brn_t rfl ?_ | refine brn_f rfl ?_ | refine ob rfl ?_ | refine ob (by decide) ?_ | refine grow_same (Mem.le_refl _) ?_ | refine ob (Mem.le_refl _) ?_ | refine ⟨_, Mem.le_refl _, ?_⟩ | fail)
        refine new (fun b4 hb4 => ?_)
        replace hb4 : Mc b4 = none := hb4
        repeat' ((conv => whnf); first | refine ⟨?_, True.intro⟩ | refine brn_t rfl ?_ | refine brn_f rfl ?_ | refine ob rfl ?_ | refine ob (by decide) ?_ | refine grow_same (Mem.le_refl _) ?_ | refine ob (Mem.le_refl _) ?_ | refine ⟨_, Mem.le_refl _, ?_⟩ | fail)
        refine new (fun b5 hb5 => ?_)
        replace hb5 : (Mc.setCells b4 T.int [.int .i64 x.o, .int .i64 x.e]) b5 = none := hb5
        have hle6 := Mem.le_trans (Mem.le_setCells hb4 (E := T.int) (l := [.int .i64 x.o, .int .i64 x.e])) (Mem.le_setCells hb5 (E := T.int) (l := [.int .i64 y.o, .int .i64 y.e]))
        have hX6 := ((Mem.has_setCells (M := Mc) (b := b4) (E := T.int) (l := [.int .i64 x.o, .int .i64 x.e])).src (size := 1) (n := 2) rfl).le (Mem.le_setCells hb5 (E := T.int) (l := [.int .i64 y.o, .int .i64 y.e]))
        have hY6 := (Mem.has_setCells (M := Mc.setCells b4 T.int [.int .i64 x.o, .int .i64 x.e]) (b := b5) (E := T.int) (l := [.int .i64 y.o, .int .i64 y.e])).src (size := 1) (n := 2) rfl
        obtain ⟨M6, hM6⟩ : ∃ M6, M6 = (Mc.setCells b4 T.int [.int .i64 x.o, .int .i64 x.e]).setCells b5 T.int [.int .i64 y.o, .int .i64 y.e] := ⟨_, rfl⟩
        rw [← hM6] at hle6 hY6 hX6
        repeat' ((conv => whnf); first | refine ⟨?_, True.intro⟩ | refine brn_t rfl ?_ | refine brn_f rfl ?_ | refine ob rfl ?_ | refine ob (by decide) ?_ | refine grow_same (Mem.le_refl _) ?_ | refine ob (Mem.le_refl _) ?_ | refine ⟨_, Mem.le_refl _, ?_⟩ | fail)
        erw [← hM6]
        refine (compare_ok (X := [y.o, y.e]) (Y := [x.o, x.e]) hY6 hX6 (by omega) (by omega)).mono ?_
        rintro v _ ⟨rfl, rfl⟩
        repeat' ((conv => whnf); first | refine ⟨?_, True.intro⟩ | refine brn_t rfl ?_ | refine brn_f rfl ?_ | refine ob rfl ?_ | refine ob (by decide) ?_ | refine grow_same (Mem.le_refl _) ?_ | refine ob (Mem.le_refl _) ?_ | refine ⟨_, Mem.le_refl _, ?_⟩ | fail)
        refine brn (fun g5 => ?_) (fun g5 => ?_)
        · replace g5 := of_decide_eq_true g5
          have nb : CheckP gaps (l.map MkC.mk') 2 := bad (fun h => by
            have h1 := (cmpM_lt y x).2 (show ltMk y.mk' x.mk' from h.lt hyk (hij ▸ hxk))
            unfold cmpM at h1
            omega) rfl
          repeat' ((conv => whnf); first | refine ⟨?_, True.intro⟩ | refine brn_t rfl ?_ | refine brn_f rfl ?_ | refine ob rfl ?_ | refine ob (by decide) ?_ | refine grow_same (Mem.le_refl _) ?_ | refine ob (Mem.le_refl _) ?_ | refine ⟨_, Mem.le_refl _, ?_⟩ | fail)
          exact ⟨2, nb, .inl ⟨by decide, rfl, Mem.le_trans hle hle6⟩⟩
        replace g5 := of_decide_eq_false g5
        have hlt5 : ltMk y.mk' x.mk' := (cmpM_lt y x).1 (by unfold cmpM; omega)
        have hlast : ∀ z, ((l.map MkC.mk').take i).getLast? = some z → ltMk z x.mk' := fun z hz => by
          rw [hgl] at hz; cases hz
          exact hlt5
        have hS6 := hS.le hle6
        have hF' : FormP ((l.map MkC.mk').take (i + 1)) := by rw [htk]; exact hF.snoc hR hlast
        have hnk : aget es (x.o, x.e) = none := by
          rw [aget_none]
          intro hin
          obtain ⟨q, hq, e⟩ := List.mem_map.1 hin
          have hz : mkOf q ∈ (l.map MkC.mk').take i := hes ▸ List.mem_map.2 ⟨q, hq, rfl⟩
          have hp := hF'.2
          rw [htk, List.pairwise_append] at hp
          have h1 := hp.2.2 _ hz x.mk' (by simp)
          have e1 : q.1.1 = x.o := congrArg (·.1) e
          have e2 : q.1.2 = x.e := congrArg (·.2) e
          rcases h1 with h1 | ⟨-, h1⟩
          · exact absurd (show q.1.1 < x.o from h1) (by omega)
          · exact absurd (show q.1.2 < x.e from h1) (by omega)
        have hb6 : ∀ y, M6 y = none → M y = none := fun y hy => by
          cases e : M y with
          | none => rfl
          | some z => rw [hle6 _ _ (hle _ _ e)] at hy; cases hy
        repeat' ((conv => whnf); first | refine ⟨?_, True.intro⟩ | refine brn_t rfl ?_ | refine brn_f rfl ?_ | refine ob rfl ?_ | refine ob (by decide) ?_ | refine grow_same (Mem.le_refl _) ?_ | refine ob (Mem.le_refl _) ?_ | refine ⟨_, Mem.le_refl _, ?_⟩ | fail)
        refine on (hS6.self.c1 rfl) ?_
        repeat' ((conv => whnf); first | refine ⟨?_, True.intro⟩ | refine brn_t rfl ?_ | refine brn_f rfl ?_ | refine ob rfl ?_ | refine ob (by decide) ?_ | refine grow_same (Mem.le_refl _) ?_ | refine ob (Mem.le_refl _) ?_ | refine ⟨_, Mem.le_refl _, ?_⟩ | fail)
        refine new (fun b7 hb7 => ?_)
        replace hb7 : M6 b7 = none := hb7
        have hN7 : NewSl M6 T.int 1 (some ⟨b7, 0, none⟩) 0 0 (([] : List Int).map intV) _ := NewSl.lit hb7 T.int 1 0 [] rfl
        obtain ⟨M7, hM7⟩ : ∃ M7, M7 = M6.setCells b7 T.int [] := ⟨_, rfl⟩
        rw [← hM7] at hN7
        (conv => whnf)
        erw [← hM7]
        repeat' ((conv => whnf); first | refine ob rfl ?_ | refine grow_same hN7.le ?_ | refine ob hN7.le ?_ | refine ⟨?_, True.intro⟩ | fail)
        (conv => whnf)
        refine srcv ((hxm.le hle6).le hN7.le) ?_
        (conv => whnf); refine appNC M6 _ hN7 (by first | omega | (dsimp only; omega)) (by simp [maxLen]; omega) (by simp [Value.oneCell']) fun a8 c8 M8 hcap hN8 => ?_
        repeat' ((conv => whnf); first | refine ob rfl ?_ | refine grow_same hN8.le ?_ | refine ob hN8.le ?_ | refine ⟨?_, True.intro⟩ | fail)
        (conv => whnf)
        refine new (fun r9 hr9 => ?_)
        replace hr9 : M8 r9 = none := hr9
        have hle9 : M8.le (M8.setCells r9 T.seen_row [.int .i64 x.up, .slice a8 x.more.length c8]) := Mem.le_setCells hr9
        have hself9 : (M8.setCells r9 T.seen_row [.int .i64 x.up, .slice a8 x.more.length c8]).has r9 T.seen_row [.int .i64 x.up, .slice a8 x.more.length c8] := Mem.has_setCells
        obtain ⟨M9, hM9⟩ : ∃ M9, M9 = M8.setCells r9 T.seen_row [.int .i64 x.up, .slice a8 x.more.length c8] := ⟨_, rfl⟩
        rw [← hM9] at hle9 hself9
        rw [← Nat.zero_add x.more.length] at hM9
        (conv => whnf)
        erw [← hM9]
        have hle69 : M6.le M9 := Mem.le_trans hN8.le hle9
        have hm9 : MapAt keyV entV M9 b es := hS6.map.mono fun o ho => hle69 _ _ ho
        repeat' ((conv => whnf); first | refine ⟨?_, True.intro⟩ | refine brn_t rfl ?_ | refine brn_f rfl ?_ | refine ob rfl ?_ | refine ob (by decide) ?_ | refine grow_same (Mem.le_refl _) ?_ | refine ob (Mem.le_refl _) ?_ | refine ⟨_, Mem.le_refl _, ?_⟩ | fail)
        refine hm9.put keyK (x.o, x.e) ⟨r9, a8, c8, x.up, x.more⟩ fun q2 f2 hm10 => ?_
        replace hm10 := hm10 M9
        obtain ⟨M10, hM10⟩ : ∃ M10, M10 = M9.upd b (mput q2 f2 (keyV (x.o, x.e)) (entV ⟨r9, a8, c8, x.up, x.more⟩)) := ⟨_, rfl⟩
        have hk10 : Mem.keep (fun y => y = b) M9 M10 := hM10 ▸ Mem.keep_upd _ _ rfl
        rw [← hM10] at hm10
        (conv => whnf)
        erw [← hM10]
        repeat' ((conv => whnf); first | refine ⟨?_, True.intro⟩ | refine brn_t rfl ?_ | refine brn_f rfl ?_ | refine ob rfl ?_ | refine ob (by decide) ?_ | refine grow_same (Mem.le_refl _) ?_ | refine ob (Mem.le_refl _) ?_ | refine ⟨_, Mem.le_refl _, ?_⟩ | fail)
        have hown : ∀ y, Ent.own ⟨r9, a8, c8, x.up, x.more⟩ y → M6 y = none := fun y hy => by
          rcases hy with rfl | ⟨q, hq, rfl⟩
          · cases e : M6 y with
            | none => rfl
            | some z => rw [hN8.le _ _ e] at hr9; cases hr9
          · exact (hN8.block hq).1
        have hrow8 : RowI M8 a8 c8 x.more := by
          have h5 := newSl_iff.1 hN8
          obtain ⟨-, h6, h7, h8⟩ := h5
          rw [Nat.zero_add] at h7 h8 h6
          refine ⟨⟨h7, by rcases hcap with e | e <;> omega⟩, ?_⟩
          rcases h8 with ⟨e1, e2⟩ | ⟨bb, cs, e1, -, e3, e4, e5⟩
          · exact .inl ⟨e1, e2⟩
          · refine .inr ⟨bb, 0, cs, e1, e3, by omega, ?_⟩
            simpa using e5
        have hE9 : EntAt M9 ⟨r9, a8, c8, x.up, x.more⟩ := ⟨hself9, hrow8.mono fun q o hq ho => hle9 _ _ ho⟩
        have hE10 : EntAt M10 ⟨r9, a8, c8, x.up, x.more⟩ := hE9.mono fun y o hy ho => hk10 _ _ (fun e => by
          subst e
          have h1 := hown _ hy
          obtain ⟨l1, cc, hh, _⟩ := hS6.map
          rw [hh] at h1; cases h1) ho
        have hk610 : Mem.keep (fun y => y = b) M6 M10 := fun y o hy ho => hk10 _ _ hy (hle69 _ _ ho)
        have hS10 := hS6.more hnk hk610 hm10 hE10 hown
        have hpa : aput es (x.o, x.e) ⟨r9, a8, c8, x.up, x.more⟩ = es ++ [((x.o, x.e), ⟨r9, a8, c8, x.up, x.more⟩)] := by simp [aput, hnk]
        (conv => whnf)
        refine ob (inR_i64 (by first | omega | (dsimp only; omega))) ?_
        (conv => whnf)
        refine ⟨⟨i + 1, M10, _⟩, ⟨by omega, fun y o hy => hk10 _ _ (fun e => ?_) (hle69 _ _ (hle6 _ _ (hle _ _ hy))), hS10, fun y hy => ?_, ?_, hF'⟩, by dsimp only; omega, ⟨(by repeat' first | exact True.intro | refine ⟨rfl, ?_⟩), (by repeat' first | exact True.intro | refine ⟨rfl, ?_⟩), Mem.le_refl _, rfl⟩⟩
        · have := hfr b (.inr (.inl rfl)); rw [← e, hy] at this; cases this
        · rw [hpa] at hy
          rcases hy with rfl | rfl | ⟨q, hq, hy⟩
          · exact hfr _ (.inl rfl)
          · exact hfr _ (.inr (.inl rfl))
          · rcases List.mem_append.1 hq with h1 | h1
            · exact hfr _ (.inr (.inr ⟨q, h1, hy⟩))
            · simp only [List.mem_singleton] at h1
              subst h1
              exact hb6 _ (hown _ hy)
        · rw [hpa, List.map_append, hes, htk]; rfl
    · replace g4 := of_decide_eq_false g4
      dsimp only at g4
      have hi0 : i = 0 := by omega
      have hlast : ∀ z, ((l.map MkC.mk').take i).getLast? = some z → ltMk z x.mk' := fun z hz => by
        rw [hi0] at hz; simp at hz
      obtain ⟨M6, hM6⟩ : ∃ M6, M6 = Mc := ⟨_, rfl⟩
      have hle6 : Mc.le M6 := by rw [hM6]; exact Mem.le_refl _
      (conv => whnf)
      refine ⟨?_, ?_, True.intro⟩
      · repeat' ((conv => whnf); first | refine ⟨?_, True.intro⟩ | refine brn_t rfl ?_ | refine brn_f rfl ?_ | refine ob rfl ?_ | refine ob (by decide) ?_ | refine grow_same (Mem.le_refl _) ?_ | refine ob (Mem.le_refl _) ?_ | refine ⟨_, Mem.le_refl _, ?_⟩ | fail)
        erw [← hM6]
        have hS6 := hS.le hle6
        have hF' : FormP ((l.map MkC.mk').take (i + 1)) := by rw [htk]; exact hF.snoc hR hlast
        have hnk : aget es (x.o, x.e) = none := by
          rw [aget_none]
          intro hin
          obtain ⟨q, hq, e⟩ := List.mem_map.1 hin
          have hz : mkOf q ∈ (l.map MkC.mk').take i := hes ▸ List.mem_map.2 ⟨q, hq, rfl⟩
          have hp := hF'.2
          rw [htk, List.pairwise_append] at hp
          have h1 := hp.2.2 _ hz x.mk' (by simp)
          have e1 : q.1.1 = x.o := congrArg (·.1) e
          have e2 : q.1.2 = x.e := congrArg (·.2) e
          rcases h1 with h1 | ⟨-, h1⟩
          · exact absurd (show q.1.1 < x.o from h1) (by omega)
          · exact absurd (show q.1.2 < x.e from h1) (by omega)
        have hb6 : ∀ y, M6 y = none → M y = none := fun y hy => by
          cases e : M y with
          | none => rfl
          | some z => rw [hle6 _ _ (hle _ _ e)] at hy; cases hy
        repeat' ((conv => whnf); first | refine ⟨?_, True.intro⟩ | refine brn_t rfl ?_ | refine brn_f rfl ?_ | refine ob rfl ?_ | refine ob (by decide) ?_ | refine grow_same (Mem.le_refl _) ?_ | refine ob (Mem.le_refl _) ?_ | refine ⟨_, Mem.le_refl _, ?_⟩ | fail)
        refine on (hS6.self.c1 rfl) ?_
        repeat' ((conv => whnf); first | refine ⟨?_, True.intro⟩ | refine brn_t rfl ?_ | refine brn_f rfl ?_ | refine ob rfl ?_ | refine ob (by decide) ?_ | refine grow_same (Mem.le_refl _) ?_ | refine ob (Mem.le_refl _) ?_ | refine ⟨_, Mem.le_refl _, ?_⟩ | fail)
        refine new (fun b7 hb7 => ?_)
        replace hb7 : M6 b7 = none := hb7
        have hN7 : NewSl M6 T.int 1 (some ⟨b7, 0, none⟩) 0 0 (([] : List Int).map intV) _ := NewSl.lit hb7 T.int 1 0 [] rfl
        obtain ⟨M7, hM7⟩ : ∃ M7, M7 = M6.setCells b7 T.int [] := ⟨_, rfl⟩
        rw [← hM7] at hN7
        (conv => whnf)
        erw [← hM7]
        repeat' ((conv => whnf); first | refine ob rfl ?_ | refine grow_same hN7.le ?_ | refine ob hN7.le ?_ | refine ⟨?_, True.intro⟩ | fail)
        (conv => whnf)
        refine srcv ((hxm.le hle6).le hN7.le) ?_
        (conv => whnf); refine appNC M6 _ hN7 (by first | omega | (dsimp only; omega)) (by simp [maxLen]; omega) (by simp [Value.oneCell']) fun a8 c8 M8 hcap hN8 => ?_
        repeat' ((conv => whnf); first | refine ob rfl ?_ | refine grow_same hN8.le ?_ | refine ob hN8.le ?_ | refine ⟨?_, True.intro⟩ | fail)
        (conv => whnf)
        refine new (fun r9 hr9 => ?_)
        replace hr9 : M8 r9 = none := hr9
        have hle9 : M8.le (M8.setCells r9 T.seen_row [.int .i64 x.up, .slice a8 x.more.length c8]) := Mem.le_setCells hr9
        have hself9 : (M8.setCells r9 T.seen_row [.int .i64 x.up, .slice a8 x.more.length c8]).has r9 T.seen_row [.int .i64 x.up, .slice a8 x.more.length c8] := Mem.has_setCells
        obtain ⟨M9, hM9⟩ : ∃ M9, M9 = M8.setCells r9 T.seen_row [.int .i64 x.up, .slice a8 x.more.length c8] := ⟨_, rfl⟩
        rw [← hM9] at hle9 hself9
        rw [← Nat.zero_add x.more.length] at hM9
        (conv => whnf)
        erw [← hM9]
        have hle69 : M6.le M9 := Mem.le_trans hN8.le hle9
        have hm9 : MapAt keyV entV M9 b es := hS6.map.mono fun o ho => hle69 _ _ ho
        repeat' ((conv => whnf); first | refine ⟨?_, True.intro⟩ | refine brn_t rfl ?_ | refine brn_f rfl ?_ | refine ob rfl ?_ | refine ob (by decide) ?_ | refine grow_same (Mem.le_refl _) ?_ | refine ob (Mem.le_refl _) ?_ | refine ⟨_, Mem.le_refl _, ?_⟩ | fail)
        refine hm9.put keyK (x.o, x.e) ⟨r9, a8, c8, x.up, x.more⟩ fun q2 f2 hm10 => ?_
        replace hm10 := hm10 M9
        obtain ⟨M10, hM10⟩ : ∃ M10, M10 = M9.upd b (mput q2 f2 (keyV (x.o, x.e)) (entV ⟨r9, a8, c8, x.up, x.more⟩)) := ⟨_, rfl⟩
        have hk10 : Mem.keep (fun y => y = b) M9 M10 := hM10 ▸ Mem.keep_upd _ _ rfl
        rw [← hM10] at hm10
        (conv => whnf)
        erw [← hM10]
        repeat' ((conv => whnf); first | refine ⟨?_, True.intro⟩ | refine brn_t rfl ?_ | refine brn_f rfl ?_ | refine ob rfl ?_ | refine ob (by decide) ?_ | refine grow_same (Mem.le_refl _) ?_ | refine ob (Mem.le_refl _) ?_ | refine ⟨_, Mem.le_refl _, ?_⟩ | fail)
        have hown : ∀ y, Ent.own ⟨r9, a8, c8, x.up, x.more⟩ y → M6 y = none := fun y hy => by
          rcases hy with rfl | ⟨q, hq, rfl⟩
          · cases e : M6 y with
            | none => rfl
            | some z => rw [hN8.le _ _ e] at hr9; cases hr9
          · exact (hN8.block hq).1
        have hrow8 : RowI M8 a8 c8 x.more := by
          have h5 := newSl_iff.1 hN8
          obtain ⟨-, h6, h7, h8⟩ := h5
          rw [Nat.zero_add] at h7 h8 h6
          refine ⟨⟨h7, by rcases hcap with e | e <;> omega⟩, ?_⟩
          rcases h8 with ⟨e1, e2⟩ | ⟨bb, cs, e1, -, e3, e4, e5⟩
          · exact .inl ⟨e1, e2⟩
          · refine .inr ⟨bb, 0, cs, e1, e3, by omega, ?_⟩
            simpa using e5
        have hE9 : EntAt M9 ⟨r9, a8, c8, x.up, x.more⟩ := ⟨hself9, hrow8.mono fun q o hq ho => hle9 _ _ ho⟩
        have hE10 : EntAt M10 ⟨r9, a8, c8, x.up, x.more⟩ := hE9.mono fun y o hy ho => hk10 _ _ (fun e => by
          subst e
          have h1 := hown _ hy
          obtain ⟨l1, cc, hh, _⟩ := hS6.map
          rw [hh] at h1; cases h1) ho
        have hk610 : Mem.keep (fun y => y = b) M6 M10 := fun y o hy ho => hk10 _ _ hy (hle69 _ _ ho)
        have hS10 := hS6.more hnk hk610 hm10 hE10 hown
        have hpa : aput es (x.o, x.e) ⟨r9, a8, c8, x.up, x.more⟩ = es ++ [((x.o, x.e), ⟨r9, a8, c8, x.up, x.more⟩)] := by simp [aput, hnk]
        (conv => whnf)
        refine ob (inR_i64 (by first | omega | (dsimp only; omega))) ?_
        (conv => whnf)
        refine ⟨⟨i + 1, M10, _⟩, ⟨by omega, fun y o hy => hk10 _ _ (fun e => ?_) (hle69 _ _ (hle6 _ _ (hle _ _ hy))), hS10, fun y hy => ?_, ?_, hF'⟩, by dsimp only; omega, ⟨(by repeat' first | exact True.intro | refine ⟨rfl, ?_⟩), (by repeat' first | exact True.intro | refine ⟨rfl, ?_⟩), Mem.le_refl _, rfl⟩⟩
        · have := hfr b (.inr (.inl rfl)); rw [← e, hy] at this; cases this
        · rw [hpa] at hy
          rcases hy with rfl | rfl | ⟨q, hq, hy⟩
          · exact hfr _ (.inl rfl)
          · exact hfr _ (.inr (.inl rfl))
          · rcases List.mem_append.1 hq with h1 | h1
            · exact hfr _ (.inr (.inr ⟨q, h1, hy⟩))
            · simp only [List.mem_singleton] at h1
              subst h1
              exact hb6 _ (hown _ hy)
        · rw [hpa, List.map_append, hes, htk]; rfl
      · repeat' ((conv => whnf); first | refine ⟨?_, True.intro⟩ | refine brn_t rfl ?_ | refine brn_f rfl ?_ | refine ob rfl ?_ | refine ob (by decide) ?_ | refine grow_same (Mem.le_refl _) ?_ | refine ob (Mem.le_refl _) ?_ | refine ⟨_, Mem.le_refl _, ?_⟩ | fail)
        erw [← hM6]
        have hS6 := hS.le hle6
        have hF' : FormP ((l.map MkC.mk').take (i + 1)) := by rw [htk]; exact hF.snoc hR hlast
        have hnk : aget es (x.o, x.e) = none := by
          rw [aget_none]
          intro hin
          obtain ⟨q, hq, e⟩ := List.mem_map.1 hin
          have hz : mkOf q ∈ (l.map MkC.mk').take i := hes ▸ List.mem_map.2 ⟨q, hq, rfl⟩
          have hp := hF'.2
          rw [htk, List.pairwise_append] at hp
          have h1 := hp.2.2 _ hz x.mk' (by simp)
          have e1 : q.1.1 = x.o := congrArg (·.1) e
          have e2 : q.1.2 = x.e := congrArg (·.2) e
          rcases h1 with h1 | ⟨-, h1⟩
          · exact absurd (show q.1.1 < x.o from h1) (by omega)
          · exact absurd (show q.1.2 < x.e from h1) (by omega)
        have hb6 : ∀ y, M6 y = none → M y = none := fun y hy => by
          cases e : M y with
          | none => rfl
          | some z => rw [hle6 _ _ (hle _ _ e)] at hy; cases hy
        repeat' ((conv => whnf); first | refine ⟨?_, True.intro⟩ | refine brn_t rfl ?_ | refine brn_f rfl ?_ | refine ob rfl ?_ | refine ob (by decide) ?_ | refine grow_same (Mem.le_refl _) ?_ | refine ob (Mem.le_refl _) ?_ | refine ⟨_, Mem.le_refl _, ?_⟩ | fail)
        refine on (hS6.self.c1 rfl) ?_
        repeat' ((conv => whnf); first | refine ⟨?_, True.intro⟩ | refine brn_t rfl ?_ | refine brn_f rfl ?_ | refine ob rfl ?_ | refine ob (by decide) ?_ | refine grow_same (Mem.le_refl _) ?_ | refine ob (Mem.le_refl _) ?_ | refine ⟨_, Mem.le_refl _, ?_⟩ | fail)
        refine new (fun b7 hb7 => ?_)
        replace hb7 : M6 b7 = none := hb7
        have hN7 : NewSl M6 T.int 1 (some ⟨b7, 0, none⟩) 0 0 (([] : List Int).map intV) _ := NewSl.lit hb7 T.int 1 0 [] rfl
        obtain ⟨M7, hM7⟩ : ∃ M7, M7 = M6.setCells b7 T.int [] := ⟨_, rfl⟩
        rw [← hM7] at hN7
        (conv => whnf)
        erw [← hM7]
        repeat' ((conv => whnf); first | refine ob rfl ?_ | refine grow_same hN7.le ?_ | refine ob hN7.le ?_ | refine ⟨?_, True.intro⟩ | fail)
        (conv => whnf)
        refine srcv ((hxm.le hle6).le hN7.le) ?_
        (conv => whnf); refine appNC M6 _ hN7 (by first | omega | (dsimp only; omega)) (by simp [maxLen]; omega) (by simp [Value.oneCell']) fun a8 c8 M8 hcap hN8 => ?_
        repeat' ((conv => whnf); first | refine ob rfl ?_ | refine grow_same hN8.le ?_ | refine ob hN8.le ?_ | refine ⟨?_, True.intro⟩ | fail)
        (conv => whnf)
        refine new (fun r9 hr9 => ?_)
        replace hr9 : M8 r9 = none := hr9
        have hle9 : M8.le (M8.setCells r9 T.seen_row [.int .i64 x.up, .slice a8 x.more.length c8]) := Mem.le_setCells hr9
        have hself9 : (M8.setCells r9 T.seen_row [.int .i64 x.up, .slice a8 x.more.length c8]).has r9 T.seen_row [.int .i64 x.up, .slice a8 x.more.length c8] := Mem.has_setCells
        obtain ⟨M9, hM9⟩ : ∃ M9, M9 = M8.setCells r9 T.seen_row [.int .i64 x.up, .slice a8 x.more.length c8] := ⟨_, rfl⟩
        rw [← hM9] at hle9 hself9
        rw [← Nat.zero_add x.more.length] at hM9
        (conv => whnf)
        erw [← hM9]
        have hle69 : M6.le M9 := Mem.le_trans hN8.le hle9
        have hm9 : MapAt keyV entV M9 b es := hS6.map.mono fun o ho => hle69 _ _ ho
        repeat' ((conv => whnf); first | refine ⟨?_, True.intro⟩ | refine brn_t rfl ?_ | refine brn_f rfl ?_ | refine ob rfl ?_ | refine ob (by decide) ?_ | refine grow_same (Mem.le_refl _) ?_ | refine ob (Mem.le_refl _) ?_ | refine ⟨_, Mem.le_refl _, ?_⟩ | fail)
        refine hm9.put keyK (x.o, x.e) ⟨r9, a8, c8, x.up, x.more⟩ fun q2 f2 hm10 => ?_
        replace hm10 := hm10 M9
        obtain ⟨M10, hM10⟩ : ∃ M10, M10 = M9.upd b (mput q2 f2 (keyV (x.o, x.e)) (entV ⟨r9, a8, c8, x.up, x.more⟩)) := ⟨_, rfl⟩
        have hk10 : Mem.keep (fun y => y = b) M9 M10 := hM10 ▸ Mem.keep_upd _ _ rfl
        rw [← hM10] at hm10
        (conv => whnf)
        erw [← hM10]
        repeat' ((conv => whnf); first | refine ⟨?_, True.intro⟩ | refine brn_t rfl ?_ | refine brn_f rfl ?_ | refine ob rfl ?_ | refine ob (by decide) ?_ | refine grow_same (Mem.le_refl _) ?_ | refine ob (Mem.le_refl _) ?_ | refine ⟨_, Mem.le_refl _, ?_⟩ | fail)
        have hown : ∀ y, Ent.own ⟨r9, a8, c8, x.up, x.more⟩ y → M6 y = none := fun y hy => by
          rcases hy with rfl | ⟨q, hq, rfl⟩
          · cases e : M6 y with
            | none => rfl
            | some z => rw [hN8.le _ _ e] at hr9; cases hr9
          · exact (hN8.block hq).1
        have hrow8 : RowI M8 a8 c8 x.more := by
          have h5 := newSl_iff.1 hN8
          obtain ⟨-, h6, h7, h8⟩ := h5
          rw [Nat.zero_add] at h7 h8 h6
          refine ⟨⟨h7, by rcases hcap with e | e <;> omega⟩, ?_⟩
          rcases h8 with ⟨e1, e2⟩ | ⟨bb, cs, e1, -, e3, e4, e5⟩
          · exact .inl ⟨e1, e2⟩
          · refine .inr ⟨bb, 0, cs, e1, e3, by omega, ?_⟩
            simpa using e5
        have hE9 : EntAt M9 ⟨r9, a8, c8, x.up, x.more⟩ := ⟨hself9, hrow8.mono fun q o hq ho => hle9 _ _ ho⟩
        have hE10 : EntAt M10 ⟨r9, a8, c8, x.up, x.more⟩ := hE9.mono fun y o hy ho => hk10 _ _ (fun e => by
          subst e
          have h1 := hown _ hy
          obtain ⟨l1, cc, hh, _⟩ := hS6.map
          rw [hh] at h1; cases h1) ho
        have hk610 : Mem.keep (fun y => y = b) M6 M10 := fun y o hy ho => hk10 _ _ hy (hle69 _ _ ho)
        have hS10 := hS6.more hnk hk610 hm10 hE10 hown
        have hpa : aput es (x.o, x.e) ⟨r9, a8, c8, x.up, x.more⟩ = es ++ [((x.o, x.e), ⟨r9, a8, c8, x.up, x.more⟩)] := by simp [aput, hnk]
        (conv => whnf)
        refine ob (inR_i64 (by first | omega | (dsimp only; omega))) ?_
        (conv => whnf)
        refine ⟨⟨i + 1, M10, _⟩, ⟨by omega, fun y o hy => hk10 _ _ (fun e => ?_) (hle69 _ _ (hle6 _ _ (hle _ _ hy))), hS10, fun y hy => ?_, ?_, hF'⟩, by dsimp only; omega, ⟨(by repeat' first | exact True.intro | refine ⟨rfl, ?_⟩), (by repeat' first | exact True.intro | refine ⟨rfl, ?_⟩), Mem.le_refl _, rfl⟩⟩
        · have := hfr b (.inr (.inl rfl)); rw [← e, hy] at this; cases this
        · rw [hpa] at hy
          rcases hy with rfl | rfl | ⟨q, hq, hy⟩
          · exact hfr _ (.inl rfl)
          · exact hfr _ (.inr (.inl rfl))
          · rcases List.mem_append.1 hq with h1 | h1
            · exact hfr _ (.inr (.inr ⟨q, h1, hy⟩))
            · simp only [List.mem_singleton] at h1
              subst h1
              exact hb6 _ (hown _ hy)
        · rw [hpa, List.map_append, hes, htk]; rfl
  have hge : i = n := by have := of_decide_eq_false g2; dsimp only at this; omega
  subst hge
  rw [List.take_of_length_le (by simp; omega)] at hF hes
  have hI := InvE.of (es := es) (hes ▸ hF)
  have hge : gapsE es = sumM (l.map MkC.mk') := by rw [← hes, sumM, List.map_map]; rfl
  repeat' ((conv => whnf); first | refine ⟨?_, True.intro⟩ | refine brn_t rfl ?_ | refine brn_f rfl ?_ | refine ob rfl ?_ | refine ob (by decide) ?_ | refine grow_same (Mem.le_refl _) ?_ | refine ob (Mem.le_refl _) ?_ | refine ⟨_, Mem.le_refl _, ?_⟩ | fail)
  have hsl : ∀ L : List MkC, (∀ m ∈ L, m.more.length ≤ 1048576) → sumM (L.map MkC.mk') ≤ L.length * 1048576 := fun L => by
    induction L with
    | nil => intro _; simp [sumM]
    | cons m r ih =>
      intro h
      have h1 := ih fun z hz => h z (by simp [hz])
      have h2 := h m (by simp)
      simp only [sumM, List.map_cons, List.sum_cons, List.length_cons, MkC.mk'] at h1 ⊢
      omega
  have hs2 := hsl l hfl
  refine (Gaps_ok hS (by omega)).mono ?_
  rintro v M2 ⟨rfl, hle2⟩
  rw [hge]
  (conv => whnf)
  refine brn (fun g3 => ?_) (fun g3 => ?_)
  · replace g3 := of_decide_eq_true g3
    repeat' ((conv => whnf); first | refine ⟨?_, True.intro⟩ | refine brn_t rfl ?_ | refine brn_f rfl ?_ | refine ob rfl ?_ | refine ob (by decide) ?_ | refine grow_same (Mem.le_refl _) ?_ | refine ob (Mem.le_refl _) ?_ | refine ⟨_, Mem.le_refl _, ?_⟩ | fail)
    exact ⟨6, .inr (.inr (.inl ⟨hg, hF, g3, rfl⟩)), .inl ⟨by decide, rfl, Mem.le_trans hle hle2⟩⟩
  · replace g3 := of_decide_eq_false g3
    repeat' ((conv => whnf); first | refine ⟨?_, True.intro⟩ | refine brn_t rfl ?_ | refine brn_f rfl ?_ | refine ob rfl ?_ | refine ob (by decide) ?_ | refine grow_same (Mem.le_refl _) ?_ | refine ob (Mem.le_refl _) ?_ | refine ⟨_, Mem.le_refl _, ?_⟩ | fail)
    exact ⟨0, .inr (.inr (.inr ⟨hg, hF, by omega, rfl⟩)), .inr ⟨rfl, p, b, es, rfl, ⟨Mem.le_trans hle hle2, hS.le hle2, hI, ⟨by omega, by omega⟩, hfr⟩, hes⟩⟩
end Go.Proofs.YtlocjjponfbhmaaGreat

