/- SeenAny, as a contract. -/
import Derived.Test.YtmifjilknojkaaaSeenR
namespace Go.Proofs.Ytmifjilknojkaaa
open Go Go.Vm
attribute [local irreducible] Brn Ob Grow CallsM inR LoopVC Mem.row Mem.cells Mem.setCells Mem.upd Own AppVC SrcVC StrVC NextVC New SrcOk subA NewSl Mem.textAt Mem.mapAt Mem.iterAt entryOf kfind Wr NewEls Elems
set_option maxRecDepth 10000
variable {M M0 : Mem} {p b : Nat} {gaps : Int} {es : EsT}
theorem SetAt.mono {M' : Mem} (h : SetAt M p b gaps es) (hk : ∀ y o, setB p b es y → M y = some o → M' y = some o) : SetAt M' p b gaps es :=
  ⟨hk _ _ (.inl rfl) h.self, h.map.mono fun o => hk _ o (.inr (.inl rfl)), fun q hq => (h.ents q hq).mono fun y o hy => hk y o (.inr (.inr ⟨q, hq, hy⟩)), h.apart⟩
theorem SetAt.minus (h : SetAt M p b gaps es) {S : Nat → Prop} (hS : ∀ y, setB p b es y → ¬ S y) : SetAt (M.minus S) p b gaps es :=
  h.mono fun y o hy ho => by unfold Mem.minus; rw [if_neg (hS y hy)]; exact ho
/-- what is there of a list of ids -/
def InL (l : List IdT) (o e c : Int) : Prop := ∃ x ∈ l, idErr x.o x.d x.e x.c = 0 ∧ x.o = o ∧ x.e = e ∧ x.c = c
theorem InL.perm {l l' : List IdT} (h : l.Perm l') (o e c : Int) : InL l o e c ↔ InL l' o e c := by
  unfold InL
  constructor
  · rintro ⟨x, hx, h1⟩; exact ⟨x, h.mem_iff.1 hx, h1⟩
  · rintro ⟨x, hx, h1⟩; exact ⟨x, h.mem_iff.2 hx, h1⟩
theorem step_in {es es' : EsT} (h : InvE es) {l : List IdT} (hin : ∀ o e c, inE es o e c ↔ InL l o e c) {x : IdT} (hst : StepE gaps es es' x.o x.d x.e x.c) (hg : (gapsE es : Int) < gaps) : ∀ o e c, inE es' o e c ↔ InL (l ++ [x]) o e c := by
  intro o e c
  have hl : InL (l ++ [x]) o e c ↔ InL l o e c ∨ (idErr x.o x.d x.e x.c = 0 ∧ x.o = o ∧ x.e = e ∧ x.c = c) := by
    unfold InL
    constructor
    · rintro ⟨y, hy, h1⟩
      rcases List.mem_append.1 hy with h2 | h2
      · exact .inl ⟨y, h2, h1⟩
      · simp only [List.mem_singleton] at h2; subst h2; exact .inr h1
    · rintro (⟨y, hy, h1⟩ | h1)
      · exact ⟨y, by simp [hy], h1⟩
      · exact ⟨x, by simp, h1⟩
  rw [hl, ← hin]
  rcases hst with ⟨hne, rfl⟩ | ⟨hz, y, rfl, hy⟩
  · constructor
    · exact .inl
    · rintro (h1 | ⟨h1, e1, e2, e3⟩)
      · exact h1
      · subst e1; subst e2; subst e3
        apply Classical.byContradiction
        intro hni
        apply hne
        have : hasE es' x.o x.d x.e x.c = false := by rw [← Bool.not_eq_true, hasE_iff h1]; exact hni
        have h3 : ¬ gaps ≤ (gapsE es' : Int) := by omega
        simp [mayE, h1, this, h3]
  · obtain ⟨hid, -, -⟩ := mayE_zero hz
    obtain ⟨-, i2, -, -⟩ := add_inv h hz hy
    rw [i2]
    constructor
    · rintro (⟨e1, e2, e3⟩ | h1)
      · exact .inr ⟨hid, e1.symm, e2.symm, e3.symm⟩
      · exact .inl h1
    · rintro (h1 | ⟨-, e1, e2, e3⟩)
      · exact .inr h1
      · exact .inl ⟨e1.symm, e2.symm, e3.symm⟩
theorem StepE.gapsLe {es es' : EsT} (h : InvE es) {o d e c : Int} (hst : StepE gaps es es' o d e c) : gapsE es' ≤ gapsE es + 1 := by
  rcases hst with ⟨_, rfl⟩ | ⟨hz, y, rfl, hy⟩
  · omega
  · exact (add_inv h hz hy).2.2.2
theorem flat_drop {α : Type} {enc : α → List Value} {k : Nat} (hk : ∀ x, (enc x).length = k) : ∀ (l : List α) (i : Nat), (l.flatMap enc).drop (i * k) = (l.drop i).flatMap enc
  | [], i => by simp
  | x :: r, 0 => by simp
  | x :: r, i + 1 => by
    have ih := flat_drop hk r i
    have e : (i + 1) * k = (enc x).length + i * k := by rw [hk, Nat.succ_mul, Nat.add_comm]
    rw [List.flatMap_cons, e, List.drop_length_add_append, ih, List.drop_succ_cons]
theorem sub_ids {a : Option Addr} {n c : Nat} {L : List IdT} (hs : SrcOk M 4 a n (L.flatMap idCs)) {lo hi : Nat} (h1 : lo ≤ hi) (h2 : hi ≤ n) (hc : n ≤ c) : SrcOk M 4 (subA a lo c 4) (hi - lo) (((L.drop lo).take (hi - lo)).flatMap idCs) := by
  have h := hs.sub h1 h2 hc (by decide)
  rw [flat_drop idCs_len, flat_take idCs_len] at h
  exact h
theorem any_law {a a2 : Option Addr} {n c n2 c2 : Nat} {L : List IdT} {O : List Int} (hs : SrcOk M 4 a n (L.flatMap idCs)) (hn : n ≤ 1048576) (hc : n ≤ c) (hs2 : SrcOk M 1 a2 n2 (O.map intV)) (hn2 : n2 ≤ 1048576) :
    CallsM Try.prog F.law14_SeenAny [.slice a n c, .slice a2 n2 c2] M fun v M' => v = .bool true ∧ M.le M' := by
  refine fo_law14_SeenAny (by simp) ?_
  (conv => whnf); refine (newS 256).mono ?_
  rintro v M1 (⟨hg, -⟩ | ⟨-, pa, ba, rfl, h1⟩)
  · omega
  repeat' ((conv => whnf); first | refine ⟨?_, True.intro⟩ | refine brn_t rfl ?_ | refine brn_f rfl ?_ | refine ob rfl ?_ | refine ob (by decide) ?_ | refine grow_same (Mem.le_refl _) ?_ | refine ob (Mem.le_refl _) ?_ | refine ⟨_, Mem.le_refl _, ?_⟩ | fail)
  refine (newS 256).mono ?_
  rintro v M2 (⟨hg, -⟩ | ⟨-, pb, bb, rfl, h2⟩)
  · omega
  have hbne : ∀ y, setB pa ba [] y → ¬ setB pb bb [] y := fun y h3 h4 => h1.some h3 (h2.fresh y h4)
  have ha0 : FreshS (M2.minus (setB pa ba [])) M2 pa ba 256 [] := ⟨Mem.minus_le _ _, h1.at'.le h2.le, h1.inv, h1.room, fun _ hy => Mem.minus_in hy⟩
  have hb0 : SetAt (M2.minus (setB pa ba [])) pb bb 256 [] := h2.at'.minus fun y h3 h4 => hbne y h4 h3
  have hM0 : M.le (M2.minus (setB pa ba [])) := Mem.le_minus (Mem.le_trans h1.le h2.le) h1.fresh
  obtain ⟨B1, hB1⟩ : ∃ B1, B1 = M2.minus (setB pa ba []) := ⟨_, rfl⟩
  rw [← hB1] at ha0 hb0 hM0
  repeat' ((conv => whnf); first | refine ⟨?_, True.intro⟩ | refine brn_t rfl ?_ | refine brn_f rfl ?_ | refine ob rfl ?_ | refine ob (by decide) ?_ | refine grow_same (Mem.le_refl _) ?_ | refine ob (Mem.le_refl _) ?_ | refine ⟨_, Mem.le_refl _, ?_⟩ | fail)
  refine (cut_ok (hs.le (Mem.le_trans h1.le h2.le)) (by omega) hc).mono ?_
  rintro v _ ⟨⟨a1, n1, c1, rfl, hn1, hc1, hcut⟩, rfl⟩
  have hs1 := hcut M hs
  have hl1 := hs1.flen idCs_len (by decide)
  obtain ⟨Lc, hLc⟩ : ∃ Lc, Lc = L.take 60 := ⟨_, rfl⟩
  rw [← hLc] at hs1 hl1
  clear hcut
  (conv => whnf)
  refine loopF (σ := Nat × Mem × EsT) [9, 0] (fun y => [(9, .int .i64 y.1), (0, .slice a1 n1 c1)]) (fun _ => []) (fun y => y.2.1) (fun | ⟨i, M3, es⟩ => i ≤ n1 ∧ FreshS B1 M3 pa ba 256 es ∧ es.length ≤ i ∧ gapsE es ≤ i ∧ ∀ o e c, inE es o e c ↔ InL (Lc.take i) o e c) (fun y => n1 - y.1) ⟨0, M2, []⟩ ⟨by omega, ha0, by simp, by simp [gapsE], fun o e c => ?_⟩ ⟨(by repeat' first | exact True.intro | refine ⟨rfl, ?_⟩), (by repeat' first | exact True.intro | refine ⟨rfl, ?_⟩), Mem.le_refl _, rfl⟩ ?_
  · simp only [inE, inM, upOf, moreOf, aget, InL, List.take_zero, List.not_mem_nil, false_and, exists_false, or_false, iff_false]; omega
  rintro ⟨i, M3, es⟩ ⟨hi, h3, hlen, hgl, hin⟩
  (conv => whnf); refine brn (fun g => ?_) (fun g => ?_)
  · have hlt : i < n1 := by have := of_decide_eq_true g; dsimp only at this; omega
    have hx : Lc[i]? = some (Lc[i]'(by omega)) := List.getElem?_eq_getElem (by omega)
    have htk : Lc.take (i + 1) = Lc.take i ++ [Lc[i]'(by omega)] := by rw [List.take_add_one, hx]; rfl
    generalize Lc[i]'(by omega) = x at *
    obtain ⟨b1, o1, rfl, hrow⟩ := ((hs1.le hM0).le h3.le).fall idCs_len (by decide) hx
    (conv => whnf); refine ob (by first | omega | (dsimp only; omega)) ?_
    (conv => whnf); refine on hrow ?_
    (conv => whnf); refine (addS h3 x.o x.d x.e x.c).mono ?_
    rintro v M4 ⟨es4, rfl, h4, hst⟩
    repeat' ((conv => whnf); first | refine ⟨?_, True.intro⟩ | refine brn_t rfl ?_ | refine brn_f rfl ?_ | refine ob rfl ?_ | refine ob (by decide) ?_ | refine grow_same (Mem.le_refl _) ?_ | refine ob (Mem.le_refl _) ?_ | refine ⟨_, Mem.le_refl _, ?_⟩ | fail)
    refine ob (inR_i64 (by first | omega | (dsimp only; omega))) ?_
    (conv => whnf)
    refine ⟨⟨i + 1, M4, es4⟩, ⟨by omega, h4, by have := hst.len; omega, by have := hst.gapsLe h3.inv; omega, ?_⟩, by dsimp only; omega, ⟨(by repeat' first | exact True.intro | refine ⟨rfl, ?_⟩), (by repeat' first | exact True.intro | refine ⟨rfl, ?_⟩), Mem.le_refl _, rfl⟩⟩
    rw [htk]
    exact step_in h3.inv hin hst (by omega)
  have hge : i = n1 := by have := of_decide_eq_false g; dsimp only at this; omega
  subst hge
  rw [List.take_of_length_le (by omega)] at hin
  have hbM : SetAt M3 pb bb 256 [] := hb0.le h3.le
  have ha3 := h3.at'
  have hab : ∀ y, setB pb bb [] y → ¬ setB pa ba es y := fun y h4 h5 => by
    have h6 := h3.fresh y h5
    rcases h4 with rfl | rfl | ⟨q, hq, _⟩
    · have := hb0.self; unfold Mem.has at this; rw [h6] at this; cases this
    · obtain ⟨l, c, hh, _⟩ := hb0.map; rw [h6] at hh; cases hh
    · cases hq
  have hbF : FreshS (M3.minus (setB pb bb [])) M3 pb bb 256 [] := ⟨Mem.minus_le _ _, hbM, InvE.nil, ⟨by simp [gapsE], by omega⟩, fun _ hy => Mem.minus_in hy⟩
  have haF : SetAt (M3.minus (setB pb bb [])) pa ba 256 es := ha3.minus fun y h4 h5 => hab y h5 h4
  have hbfr : ∀ y, setB pb bb [] y → M y = none := fun y hy => by
    have h4 := h2.fresh y hy
    cases e1 : M y with
    | none => rfl
    | some z => rw [h1.le _ _ e1] at h4; cases h4
  have hM3 : M.le (M3.minus (setB pb bb [])) := Mem.le_minus (Mem.le_trans hM0 h3.le) hbfr
  obtain ⟨B2, hB2⟩ : ∃ B2, B2 = M3.minus (setB pb bb []) := ⟨_, rfl⟩
  rw [← hB2] at hbF haF hM3
  (conv => whnf)
  refine new (fun b9 hb9 => ?_)
  replace hb9 : M3 b9 = none := hb9
  have hN1 : NewSl M3 T.api_Id 4 (some ⟨b9, 0, none⟩) 0 0 (([] : List IdT).flatMap idCs) _ := NewSl.lit hb9 T.api_Id 4 0 [] rfl
  obtain ⟨M4, hM4⟩ : ∃ M4, M4 = M3.setCells b9 T.api_Id [] := ⟨_, rfl⟩
  rw [← hM4] at hN1
  (conv => whnf)
  erw [← hM4]
  repeat' ((conv => whnf); first | refine ob rfl ?_ | refine grow_same hN1.le ?_ | refine ob hN1.le ?_ | refine ⟨?_, True.intro⟩ | fail)
  (conv => whnf)
  refine srcv (((hs1.le hM3).le hbF.le).le hN1.le) ?_
  have hone : ∀ (l : List IdT), ∀ v ∈ l.flatMap idCs, v.oneCell' = true := fun l v hv => by
    obtain ⟨x, _, hv⟩ := List.mem_flatMap.1 hv
    simp only [idCs, List.mem_cons, List.not_mem_nil, or_false] at hv
    rcases hv with rfl | rfl | rfl | rfl <;> rfl
  (conv => whnf); refine appN M3 _ hN1 (by first | omega | (dsimp only; omega)) (by simp [maxLen]; omega) (hone _) fun a5 c5 M5 hN5 => ?_
  rw [Nat.zero_add i] at hN5 ⊢
  have hne5 : ∀ q, a5 = some q → ¬ setB pb bb [] q.block := fun q hq hb => hbF.some hb (hN5.block hq).1
  have hbF5 := (hbF.to hN5.le)
  obtain ⟨hF5, hB25⟩ := hbF5.base
  have hR5 : SrcOk (M5.minus (setB pb bb [])) 4 a5 i (Lc.flatMap idCs) := by
    have := hN5.src.minus hne5
    simpa using this
  have hcap5 : i ≤ c5 := (newSl_iff.1 hN5).2.2.1
  have hl0 : Lc.length = i := hl1
  (conv => whnf)
  refine loopF (σ := Nat × Mem × Mem × (Option Addr × Nat × Nat) × List IdT × List IdT × EsT) [11, 10, 9, 0] (fun y => [(11, .int .i64 y.1), (10, .slice y.2.2.2.1.1 y.2.2.2.1.2.1 y.2.2.2.1.2.2), (9, .int .i64 i), (0, .slice a1 i c1)]) (fun _ => [.gone b9]) (fun y => y.2.1)
    (fun | ⟨t, Mc, B, (ar, nr, cr), R, D, eb⟩ => B2.le B ∧ FreshS B Mc pb bb 256 eb ∧ SrcOk B 4 ar nr (R.flatMap idCs) ∧ nr ≤ cr ∧ (D ++ R).Perm Lc ∧ (∀ o e c, inE eb o e c ↔ InL D o e c) ∧ t = D.length ∧ eb.length ≤ D.length ∧ gapsE eb ≤ D.length) (fun y => y.2.2.2.2.1.length)
    ⟨0, M5, M5.minus (setB pb bb []), (a5, i, c5), Lc, [], []⟩ ⟨hB25, hF5, hR5, hcap5, by simp, fun o e c => ?_, rfl, by simp, by simp [gapsE]⟩ ⟨(by repeat' first | exact True.intro | refine ⟨rfl, ?_⟩), (by repeat' first | exact True.intro | refine ⟨rfl, ?_⟩), Mem.le_refl _, rfl⟩ ?_
  · simp only [inE, inM, upOf, moreOf, aget, InL, List.not_mem_nil, false_and, exists_false, or_false, iff_false]; omega
  rintro ⟨t, Mc, B, ⟨ar, nr, cr⟩, R, D, eb⟩ ⟨hB2B, hF, hR, hcr, hperm, hinb, ht, hlenb, hgb⟩
  have hlR := hR.flen idCs_len (by decide)
  have hlen6 := hperm.length_eq
  simp only [List.length_append] at hlen6
  (conv => whnf); refine brn (fun g => ?_) (fun g => ?_)
  · have hpos : 0 < nr := by have := of_decide_eq_true g; dsimp only at this; omega
    (conv => whnf); refine brn (fun g1 => ?_) (fun g1 => ?_)
    · have hto : t < n2 := by have := of_decide_eq_true g1; dsimp only at this; omega
      obtain ⟨hk1, bo, oo, hoa, hrowo⟩ := ((hs2.le hM3).le (Mem.le_trans hB2B hF.le)).at (i := t) hto
      (conv => whnf); refine ob (by first | omega | (dsimp only; omega)) ?_
      (conv => whnf); refine atp hoa ?_
      (conv => whnf); refine on hrowo ?_
      have hwr : IntKind.u64.wrap (nr : Int) = nr := by rw [IntKind.wrap_u64]; omega
      (conv => whnf); refine ob (by dsimp only; rw [hwr]; omega) ?_
      (conv => whnf)
      obtain ⟨k, hk, hkv⟩ : ∃ k : Nat, k < nr ∧ IntKind.i64.wrap ((IntKind.u64.wrap O[t]).tmod (IntKind.u64.wrap (nr : Int))) = k := by
        have h0 : 0 ≤ IntKind.u64.wrap O[t] := by rw [IntKind.wrap_u64]; omega
        have e1 : (IntKind.u64.wrap O[t]).tmod (IntKind.u64.wrap (nr : Int)) = IntKind.u64.wrap O[t] % nr := by rw [hwr, Int.tmod_eq_emod_of_nonneg h0]
        have h1 := Int.emod_nonneg (IntKind.u64.wrap O[t]) (b := (nr : Int)) (by omega)
        have h2 := Int.emod_lt_of_pos (IntKind.u64.wrap O[t]) (b := (nr : Int)) (by omega)
        refine ⟨(IntKind.u64.wrap O[t] % nr).toNat, by omega, ?_⟩
        rw [e1, IntKind.wrap_i64]; omega
      erw [hkv]
      (conv => whnf)
      refine ob ⟨by omega, by dsimp only; omega⟩ ?_
      have hx : R[k]? = some (R[k]'(by omega)) := List.getElem?_eq_getElem (by omega)
      obtain ⟨b1, o1, hra, hrow⟩ := (hR.le hF.le).fall idCs_len (by decide) hx
      have hsplit : (R.take k ++ R.drop (k + 1)).length + 1 = R.length ∧ (D ++ [R[k]'(by omega)] ++ (R.take k ++ R.drop (k + 1))).Perm (D ++ R) := by
        refine ⟨by simp; omega, ?_⟩
        have e : R.take k ++ R[k]'(by omega) :: R.drop (k + 1) = R := by rw [← List.drop_eq_getElem_cons, List.take_append_drop]
        have h7 : (R[k]'(by omega) :: (R.take k ++ R.drop (k + 1))).Perm R := by
          have := List.perm_middle (a := R[k]'(by omega)) (l₁ := R.take k) (l₂ := R.drop (k + 1))
          rw [e] at this
          exact this.symm
        rw [List.append_assoc]
        exact List.Perm.append_left _ h7
      generalize R[k]'(by omega) = x at hx hrow hsplit
      obtain ⟨hsl, hsp⟩ := hsplit
      (conv => whnf); refine atp hra ?_
      (conv => whnf); refine on hrow ?_
      (conv => whnf); refine (addS hF x.o x.d x.e x.c).mono ?_
      rintro v M6 ⟨eb6, rfl, h6, hst⟩
      repeat' ((conv => whnf); first | refine ⟨?_, True.intro⟩ | refine brn_t rfl ?_ | refine brn_f rfl ?_ | refine ob rfl ?_ | refine ob (by decide) ?_ | refine grow_same (Mem.le_refl _) ?_ | refine ob (Mem.le_refl _) ?_ | refine ⟨_, Mem.le_refl _, ?_⟩ | fail)
      refine new (fun b7 hb7 => ?_)
      replace hb7 : M6 b7 = none := hb7
      have hN7 : NewSl M6 T.api_Id 4 (some ⟨b7, 0, none⟩) 0 0 (([] : List IdT).flatMap idCs) _ := NewSl.lit hb7 T.api_Id 4 0 [] rfl
      obtain ⟨M7, hM7⟩ : ∃ M7, M7 = M6.setCells b7 T.api_Id [] := ⟨_, rfl⟩
      rw [← hM7] at hN7
      (conv => whnf)
      erw [← hM7]
      (conv => whnf)
      refine ob (by dsimp only; omega) ?_
      (conv => whnf)
      have hR7 := (hR.le h6.le).le hN7.le
      refine srcv (sub_ids hR7 (lo := 0) (hi := k) (Nat.zero_le _) (by omega) hcr) ?_
      (conv => whnf); refine appN M6 _ hN7 (by first | omega | (dsimp only; omega)) (by simp [maxLen] <;> omega) (hone _) fun a8 c8 M8 hN8 => ?_
      (conv => whnf)
      refine ob (inR_i64 (by omega)) ?_
      (conv => whnf)
      refine ob (by dsimp only; omega) ?_
      (conv => whnf)
      refine srcv (sub_ids ((hR.le h6.le).le hN8.le) (lo := k + 1) (hi := nr) (by omega) (Nat.le_refl _) hcr) ?_
      (conv => whnf); refine appN M6 _ hN8 (by first | omega | (dsimp only; omega)) (by simp [maxLen] <;> omega) (hone _) fun a9 c9 M9 hN9 => ?_
      (conv => whnf)
      refine ob (inR_i64 (by first | omega | (dsimp only; omega))) ?_
      (conv => whnf)
      have h9 := h6.to hN9.le
      obtain ⟨h9b, hB9⟩ := h9.base
      have hrow9 := hN9.src.minus (S := setB pb bb eb6) fun q hq hb => h6.some hb (hN9.block hq).1
      have elist : ([] : List IdT).flatMap idCs ++ ((R.drop 0).take (k - 0)).flatMap idCs ++ ((R.drop (k + 1)).take (nr - (k + 1))).flatMap idCs = (R.take k ++ R.drop (k + 1)).flatMap idCs := by
        rw [List.take_of_length_le (l := R.drop (k + 1)) (by simp; omega)]; simp
      rw [elist] at hrow9
      refine ⟨⟨t + 1, M9, M9.minus (setB pb bb eb6), (a9, _, c9), R.take k ++ R.drop (k + 1), D ++ [x], eb6⟩, ⟨Mem.le_trans hB2B hB9, h9b, hrow9, (newSl_iff.1 hN9).2.2.1, hsp.trans hperm, step_in hF.inv hinb hst (by omega), by simp [ht], by have := hst.len; simp; omega, by have := hst.gapsLe hF.inv; simp; omega⟩, by dsimp only; omega, ?_⟩
      exact ⟨(by repeat' first | exact True.intro | refine ⟨rfl, ?_⟩), (by repeat' first | exact True.intro | refine ⟨rfl, ?_⟩), Mem.le_refl _, rfl⟩
    · have hk : 0 < nr := hpos
      (conv => whnf)
      refine ob ⟨by omega, by dsimp only; omega⟩ ?_
      have hx : R[0]? = some (R[0]'(by omega)) := List.getElem?_eq_getElem (by omega)
      obtain ⟨b1, o1, hra, hrow⟩ := (hR.le hF.le).fall idCs_len (by decide) hx
      have hsplit : (R.take 0 ++ R.drop (0 + 1)).length + 1 = R.length ∧ (D ++ [R[0]'(by omega)] ++ (R.take 0 ++ R.drop (0 + 1))).Perm (D ++ R) := by
        refine ⟨by simp; omega, ?_⟩
        have e : R.take 0 ++ R[0]'(by omega) :: R.drop (0 + 1) = R := by rw [← List.drop_eq_getElem_cons, List.take_append_drop]
        have h7 : (R[0]'(by omega) :: (R.take 0 ++ R.drop (0 + 1))).Perm R := by
          have := List.perm_middle (a := R[0]'(by omega)) (l₁ := R.take 0) (l₂ := R.drop (0 + 1))
          rw [e] at this
          exact this.symm
        rw [List.append_assoc]
        exact List.Perm.append_left _ h7
      generalize R[0]'(by omega) = x at hx hrow hsplit
      obtain ⟨hsl, hsp⟩ := hsplit
      (conv => whnf); refine atp hra ?_
      (conv => whnf); refine on hrow ?_
      (conv => whnf); refine (addS hF x.o x.d x.e x.c).mono ?_
      rintro v M6 ⟨eb6, rfl, h6, hst⟩
      repeat' ((conv => whnf); first | refine ⟨?_, True.intro⟩ | refine brn_t rfl ?_ | refine brn_f rfl ?_ | refine ob rfl ?_ | refine ob (by decide) ?_ | refine grow_same (Mem.le_refl _) ?_ | refine ob (Mem.le_refl _) ?_ | refine ⟨_, Mem.le_refl _, ?_⟩ | fail)
      refine new (fun b7 hb7 => ?_)
      replace hb7 : M6 b7 = none := hb7
      have hN7 : NewSl M6 T.api_Id 4 (some ⟨b7, 0, none⟩) 0 0 (([] : List IdT).flatMap idCs) _ := NewSl.lit hb7 T.api_Id 4 0 [] rfl
      obtain ⟨M7, hM7⟩ : ∃ M7, M7 = M6.setCells b7 T.api_Id [] := ⟨_, rfl⟩
      rw [← hM7] at hN7
      (conv => whnf)
      erw [← hM7]
      (conv => whnf)
      refine ob (by dsimp only; omega) ?_
      (conv => whnf)
      have hR7 := (hR.le h6.le).le hN7.le
      refine srcv (sub_ids hR7 (lo := 0) (hi := 0) (Nat.zero_le _) (by omega) hcr) ?_
      (conv => whnf); refine appN M6 _ hN7 (by first | omega | (dsimp only; omega)) (by simp [maxLen] <;> omega) (hone _) fun a8 c8 M8 hN8 => ?_
      (conv => whnf)
      refine ob (inR_i64 (by omega)) ?_
      (conv => whnf)
      refine ob (by dsimp only; omega) ?_
      (conv => whnf)
      refine srcv (sub_ids ((hR.le h6.le).le hN8.le) (lo := 0 + 1) (hi := nr) (by omega) (Nat.le_refl _) hcr) ?_
      (conv => whnf); refine appN M6 _ hN8 (by first | omega | (dsimp only; omega)) (by simp [maxLen] <;> omega) (hone _) fun a9 c9 M9 hN9 => ?_
      (conv => whnf)
      refine ob (inR_i64 (by first | omega | (dsimp only; omega))) ?_
      (conv => whnf)
      have h9 := h6.to hN9.le
      obtain ⟨h9b, hB9⟩ := h9.base
      have hrow9 := hN9.src.minus (S := setB pb bb eb6) fun q hq hb => h6.some hb (hN9.block hq).1
      have elist : ([] : List IdT).flatMap idCs ++ ((R.drop 0).take (0 - 0)).flatMap idCs ++ ((R.drop (0 + 1)).take (nr - (0 + 1))).flatMap idCs = (R.take 0 ++ R.drop (0 + 1)).flatMap idCs := by
        rw [List.take_of_length_le (l := R.drop (0 + 1)) (by simp; omega)]; simp
      rw [elist] at hrow9
      refine ⟨⟨t + 1, M9, M9.minus (setB pb bb eb6), (a9, _, c9), R.take 0 ++ R.drop (0 + 1), D ++ [x], eb6⟩, ⟨Mem.le_trans hB2B hB9, h9b, hrow9, (newSl_iff.1 hN9).2.2.1, hsp.trans hperm, step_in hF.inv hinb hst (by omega), by simp [ht], by have := hst.len; simp; omega, by have := hst.gapsLe hF.inv; simp; omega⟩, by dsimp only; omega, ?_⟩
      exact ⟨(by repeat' first | exact True.intro | refine ⟨rfl, ?_⟩), (by repeat' first | exact True.intro | refine ⟨rfl, ?_⟩), Mem.le_refl _, rfl⟩
  have hn0 : nr = 0 := by have := of_decide_eq_false g; dsimp only at this; omega
  have hR0 : R = [] := List.eq_nil_of_length_eq_zero (by omega)
  rw [hR0, List.append_nil] at hperm
  have hinb' : ∀ o e c, inE eb o e c ↔ InL Lc o e c := fun o e c => (hinb o e c).trans (InL.perm hperm o e c)
  have hs3 : SrcOk B 4 a1 i (Lc.flatMap idCs) := (hs1.le hM3).le hB2B
  (conv => whnf)
  refine loopF (σ := Nat × Mem) [14] (fun y => [(14, .int .i64 y.1)]) (fun _ => [.gone b9]) (fun y => y.2) (fun | ⟨j, M6⟩ => j ≤ i ∧ FreshS B M6 pb bb 256 eb) (fun y => i - y.1) ⟨0, Mc⟩ ⟨by omega, hF⟩ ⟨(by repeat' first | exact True.intro | refine ⟨rfl, ?_⟩), (by repeat' first | exact True.intro | refine ⟨rfl, ?_⟩), Mem.le_refl _, rfl⟩ ?_
  rintro ⟨j, M6⟩ ⟨hj, h6⟩
  (conv => whnf); refine brn (fun g1 => ?_) (fun g1 => ?_)
  · have hlt : j < i := by have := of_decide_eq_true g1; dsimp only at this; omega
    have hx : Lc[j]? = some (Lc[j]'(by omega)) := List.getElem?_eq_getElem (by omega)
    have hxm : Lc[j]'(by omega) ∈ Lc := List.getElem_mem _
    generalize Lc[j]'(by omega) = x at *
    obtain ⟨b1, o1, hra, hrow⟩ := (hs3.le h6.le).fall idCs_len (by decide) hx
    repeat' ((conv => whnf); first | refine ⟨?_, True.intro⟩ | refine brn_t rfl ?_ | refine brn_f rfl ?_ | refine ob rfl ?_ | refine ob (by decide) ?_ | refine grow_same (Mem.le_refl _) ?_ | refine ob (Mem.le_refl _) ?_ | refine ⟨_, Mem.le_refl _, ?_⟩ | fail)
    refine ob (by first | omega | (dsimp only; omega)) ?_
    (conv => whnf); refine atp hra ?_
    (conv => whnf); refine on hrow ?_
    repeat' ((conv => whnf); first | refine ⟨?_, True.intro⟩ | refine brn_t rfl ?_ | refine brn_f rfl ?_ | refine ob rfl ?_ | refine ob (by decide) ?_ | refine grow_same (Mem.le_refl _) ?_ | refine ob (Mem.le_refl _) ?_ | refine ⟨_, Mem.le_refl _, ?_⟩ | fail)
    refine ob (by first | omega | (dsimp only; omega)) ?_
    (conv => whnf); refine atp hra ?_
    (conv => whnf); refine on hrow ?_
    repeat' ((conv => whnf); first | refine ⟨?_, True.intro⟩ | refine brn_t rfl ?_ | refine brn_f rfl ?_ | refine ob rfl ?_ | refine ob (by decide) ?_ | refine grow_same (Mem.le_refl _) ?_ | refine ob (Mem.le_refl _) ?_ | refine ⟨_, Mem.le_refl _, ?_⟩ | fail)
    refine (checkR_ok x.o x.d x.e x.c M6).mono ?_
    rintro v _ ⟨rfl, rfl⟩
    repeat' ((conv => whnf); first | refine ⟨?_, True.intro⟩ | refine brn_t rfl ?_ | refine brn_f rfl ?_ | refine ob rfl ?_ | refine ob (by decide) ?_ | refine grow_same (Mem.le_refl _) ?_ | refine ob (Mem.le_refl _) ?_ | refine ⟨_, Mem.le_refl _, ?_⟩ | fail)
    refine (hasS h6 x.o x.d x.e x.c).mono ?_
    rintro v M7 ⟨rfl, h7⟩
    have hh : hasE eb x.o x.d x.e x.c = decide (idErr x.o x.d x.e x.c = 0) := by
      by_cases e1 : idErr x.o x.d x.e x.c = 0
      · rw [(hasE_iff e1).2 ((hinb' _ _ _).2 ⟨x, hxm, e1, rfl, rfl, rfl⟩)]; simp [e1]
      · simp [hasE, e1]
    rw [hh]
    (conv => whnf); refine brn_f (by simp) ?_
    (conv => whnf); refine ob (inR_i64 (by first | omega | (dsimp only; omega))) ?_
    (conv => whnf)
    exact ⟨⟨j + 1, M7⟩, ⟨by omega, h7⟩, by dsimp only; omega, ⟨(by repeat' first | exact True.intro | refine ⟨rfl, ?_⟩), (by repeat' first | exact True.intro | refine ⟨rfl, ?_⟩), Mem.le_refl _, rfl⟩⟩
  have hla : es.length ≤ 4194000 := by omega
  have haM : SetAt M6 pa ba 256 es := (haF.le hB2B).le h6.le
  repeat' ((conv => whnf); first | refine ⟨?_, True.intro⟩ | refine brn_t rfl ?_ | refine brn_f rfl ?_ | refine ob rfl ?_ | refine ob (by decide) ?_ | refine grow_same (Mem.le_refl _) ?_ | refine ob (Mem.le_refl _) ?_ | refine ⟨_, Mem.le_refl _, ?_⟩ | fail)
  refine (Marks_ok haM (by have := h3.few; omega) hla).mono ?_
  rintro v M7 ⟨am, nm, cm, lm, rfl, hm, hp, hso⟩
  have hcan := marks_canon h3.inv hp hso
  have h7 := h6.to hm.row.le
  repeat' ((conv => whnf); first | refine ⟨?_, True.intro⟩ | refine brn_t rfl ?_ | refine brn_f rfl ?_ | refine ob rfl ?_ | refine ob (by decide) ?_ | refine grow_same (Mem.le_refl _) ?_ | refine ob (Mem.le_refl _) ?_ | refine ⟨_, Mem.le_refl _, ?_⟩ | fail)
  refine (Marks_ok h7.at' (by have := h7.few; omega) (by have := hperm.length_eq; omega)).mono ?_
  rintro v M8 ⟨am2, nm2, cm2, lm2, rfl, hm2, hp2, hso2⟩
  have hcan2 := marks_canon h7.inv hp2 hso2
  have heq : lm.map MkC.mk' = lm2.map MkC.mk' := (hcan.of fun o e c => (hin o e c).symm).uniq (hcan2.of fun o e c => (hinb' o e c).symm)
  have hn7 := hm.len
  have hn8 := hm2.len
  have hl7 := hp.length_eq
  have hl8 := hp2.length_eq
  simp only [List.length_map] at hl7 hl8
  have hlD := hperm.length_eq
  repeat' ((conv => whnf); first | refine ⟨?_, True.intro⟩ | refine brn_t rfl ?_ | refine brn_f rfl ?_ | refine ob rfl ?_ | refine ob (by decide) ?_ | refine grow_same (Mem.le_refl _) ?_ | refine ob (Mem.le_refl _) ?_ | refine ⟨_, Mem.le_refl _, ?_⟩ | fail)
  refine (same_ok (hm.r.le hm2.row.le) hm2.r (fun m hm => Nat.le_trans (h3.fewM hp m hm) (by omega)) (by omega) (by omega)).mono ?_
  rintro v _ ⟨rfl, rfl⟩
  rw [decide_eq_true heq]
  repeat' ((conv => whnf); first | refine ⟨?_, True.intro⟩ | refine brn_t rfl ?_ | refine brn_f rfl ?_ | refine ob rfl ?_ | refine ob (by decide) ?_ | refine grow_same (Mem.le_refl _) ?_ | refine ob (Mem.le_refl _) ?_ | refine ⟨_, Mem.le_refl _, ?_⟩ | fail)
  refine awake_ok.mono ?_
  rintro v M9 ⟨rfl, hle9⟩
  repeat' ((conv => whnf); first | refine ⟨?_, True.intro⟩ | refine brn_t rfl ?_ | refine brn_f rfl ?_ | refine ob rfl ?_ | refine ob (by decide) ?_ | refine grow_same (Mem.le_refl _) ?_ | refine ob (Mem.le_refl _) ?_ | refine ⟨_, Mem.le_refl _, ?_⟩ | fail)
  exact ⟨rfl, Mem.le_trans hM3 (Mem.le_trans hB2B (Mem.le_trans h6.le (Mem.le_trans hm.row.le (Mem.le_trans hm2.row.le hle9))))⟩
end Go.Proofs.Ytmifjilknojkaaa
