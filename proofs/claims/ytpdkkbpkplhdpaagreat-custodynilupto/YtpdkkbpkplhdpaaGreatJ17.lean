/- Part of this proof; laid by program. -/
import Derived.Test.YtpdkkbpkplhdpaaGreatJ16
import Derived.Test.YtpdkkbpkplhdpaaGreatJ10
import Derived.Test.YtpdkkbpkplhdpaaGreatJ15
namespace Go.Proofs.YtpdkkbpkplhdpaaGreat
open Go Go.Vm
attribute [local irreducible] Brn Ob Grow CallsM inR LoopVC LoopVC0 Mem.row Mem.cells Mem.setCells Mem.upd Go.Vm.Own AppVC SrcVC StrVC NextVC New SrcOk subA NewSl Mem.textAt Mem.mapAt Mem.iterAt entryOf kfind Wr NewEls Elems
set_option maxRecDepth 10000
section
variable {M : Mem} {p b : Nat} {gaps : Int} {es : List ((Int × Int) × Ent)}
def insC (c : Int) : List Int → List Int
  | [] => [c]
  | y :: r => if y < c then y :: insC c r else c :: y :: r
theorem insC_eq (c : Int) : ∀ (l : List Int) (i : Nat), i ≤ l.length → (∀ k y, k < i → l[k]? = some y → y < c) → (∀ k y, i ≤ k → l[k]? = some y → c ≤ y) → l.take i ++ c :: l.drop i = insC c l
  | [], i, hi, _, _ => by
    have : i = 0 := by simpa using hi
    subst this; rfl
  | y :: r, 0, _, _, h2 => by
    have := h2 0 y (Nat.le_refl _) rfl
    simp only [List.take_zero, List.drop_zero, List.nil_append, insC]
    rw [if_neg (by omega)]
  | y :: r, i + 1, hi, h1, h2 => by
    have := h1 0 y (by omega) rfl
    simp only [List.take_succ_cons, List.drop_succ_cons, List.cons_append, insC]
    rw [if_pos this, insC_eq c r i (by simpa using hi) (fun k y hk hy => h1 (k + 1) y (by omega) (by simpa using hy)) (fun k y hk hy => h2 (k + 1) y (by omega) (by simpa using hy))]
theorem insC_len (c : Int) : ∀ l : List Int, (insC c l).length = l.length + 1
  | [] => rfl
  | y :: r => by
    simp only [insC]
    split
    · simp [insC_len c r]
    · simp
def normC (up : Int) : List Int → Int × List Int
  | [] => (up, [])
  | y :: r => if y = up + 1 then normC (up + 1) r else (up, y :: r)
theorem RowI.pop {M : Mem} {a : Option Addr} {c : Nat} {y : Int} {r : List Int} (h : RowI M a c (y :: r)) : RowI M (subA a 1 (r.length + 1) 1) r.length r ∧ ∀ q, subA a 1 (r.length + 1) 1 = some q → ∃ q', a = some q' ∧ q'.block = q.block := by
  obtain ⟨⟨h1, h2⟩, ⟨rfl, rfl⟩ | ⟨b, o, cs, rfl, hh, ho, ht⟩⟩ := h
  · simp at h1
  · simp only [List.length_cons] at h1 ht
    unfold subA
    split
    · have hr : r = [] := List.eq_nil_of_length_eq_zero (by omega)
      subst hr
      exact ⟨⟨⟨Nat.le_refl _, Nat.zero_le _⟩, .inr ⟨b, o, cs, rfl, hh, by simp at h1 ⊢; omega, by simp⟩⟩, fun q hq => ⟨_, rfl, by cases hq; rfl⟩⟩
    · refine ⟨⟨⟨Nat.le_refl _, by omega⟩, .inr ⟨b, o + 1, cs, by simp [addr_add], hh, by omega, ?_⟩⟩, fun q hq => ⟨_, rfl, by simp [addr_add] at hq; rw [← hq]⟩⟩
      have h5 : ((cs.drop o).take (r.length + 1)).drop 1 = r.map intV := by rw [ht]; rfl
      rw [List.drop_take, List.drop_drop] at h5
      simpa using h5
theorem SetAt.remap {M' : Mem} (h : SetAt M p b gaps es) (hk : Mem.keep (fun y => y = b) M M') (hm : MapAt keyV entV M' b es) : SetAt M' p b gaps es :=
  ⟨hk _ _ (h.map.nb h.self) h.self, hm, fun q hq => (h.ents q hq).mono fun y o hy ho => hk y o (fun e => by subst e; exact (h.ents q hq).nomap h.map hy) ho, h.apart⟩
def setB (p b : Nat) (es : List ((Int × Int) × Ent)) : Nat → Prop := fun y => y = p ∨ y = b ∨ ∃ q ∈ es, q.2.own y
def addE (es : List ((Int × Int) × Ent)) (o e c : Int) : Int × List Int := normC (upOf es (o, e)) (insC c (moreOf es (o, e)))
theorem Add_ok (h : SetAt M p b gaps es) (hg : gapsE es ≤ 4194000) (hgd : GoodE es) (hso : ∀ q ∈ es, q.2.more.Pairwise (· < ·)) (o d e c : Int) : CallsM Tryz.prog F.seen_Set_Add [ptr p, .agg #[.int .i64 o, .int .i64 d, .int .i64 e, .int .i64 c]] M fun v M' =>
    v = .int .i64 (mayE gaps es o d e c) ∧ ((mayE gaps es o d e c ≠ 0 ∧ M.le M') ∨
      (mayE gaps es o d e c = 0 ∧ Mem.keep (setB p b es) M M' ∧ ∃ x, SetAt M' p b gaps (aput es (o, e) x) ∧ (x.up, x.more) = addE es o e c ∧ ∀ y, x.own y → setB p b es y ∨ M y = none)) := by
  refine fo_seen_Set_Add (by simp) ?_
  (conv => whnf); refine (May_ok h (by omega) hgd o d e c).mono ?_
  rintro v M1 ⟨rfl, hle1⟩
  (conv => whnf); refine brn (fun g => ?_) (fun g => ?_)
  · have hne : ¬ mayE gaps es o d e c = 0 := by simpa using g
    (conv => whnf)
    exact ⟨rfl, .inl ⟨hne, hle1⟩⟩
  have hz : mayE gaps es o d e c = 0 := by simpa using g
  have hok : idErr o d e c = 0 := by
    apply Classical.byContradiction
    intro hn
    simp [mayE, hn] at hz
  have hcr : 1 ≤ c ∧ c ≤ 65535 := by unfold idErr at hok; split at hok <;> (try cases hok); omega
  have h1 := h.le hle1
  have key : CallsM Tryz.prog F.seen_Set_of [ptr p, .agg #[.int .i64 o, .int .i64 d, .int .i64 e, .int .i64 c]] M1 fun v M' => ∃ x0, v = ptr x0.r ∧ M1.le M' ∧ SetAt M' p b gaps es ∧ x0.up = upOf es (o, e) ∧ x0.more = moreOf es (o, e) ∧ (x0.more.Pairwise (· < ·) ∧ x0.more.length ≤ 4194000) ∧ (∀ y, x0.own y → setB p b es y ∨ M y = none) ∧
      ∀ ob, MapAt keyV entV (M'.upd b ob) b (aput es (o, e) x0) → SetAt (M'.upd b ob) p b gaps (aput es (o, e) x0) := (of_ok h1 o d e c).mono fun v M' hv => by
    rcases hv with ⟨x, hx, rfl, rfl⟩ | ⟨hn, r, rfl, hr, rfl⟩
    · have hpa : aput es (o, e) x = es := by simp only [aput, hx]; exact aset_self hx
      refine ⟨x, rfl, Mem.le_refl _, h1, by simp [upOf, hx], by simp [moreOf, hx], ⟨hso _ (aget_mem hx), Nat.le_trans (gapsE_le (aget_mem hx)) hg⟩, fun y hy => .inl (.inr (.inr ⟨_, aget_mem hx, hy⟩)), fun ob hm => ?_⟩
      rw [hpa] at hm ⊢
      exact h1.remap (Mem.keep_upd _ _ rfl) hm
    · have hle := Mem.le_setCells (E := T.seen_row) (l := [.int .i64 0, .slice none 0 0]) hr
      have hrM : M r = none := by
        cases hM : M r with
        | none => rfl
        | some z => rw [hle1 _ _ hM] at hr; cases hr
      refine ⟨⟨r, none, 0, 0, []⟩, rfl, hle, h1.le hle, by simp [upOf, hn], by simp [moreOf, hn], by simp, fun y hy => ?_, fun ob hm => ?_⟩
      · rcases hy with rfl | ⟨q, hq, _⟩
        · exact .inr hrM
        · cases hq
      · have hrb : r ≠ b := fun e => by subst e; obtain ⟨l1, c1, hh, _⟩ := h1.map; rw [hh] at hr; cases hr
        have hk : Mem.keep (fun y => y = b) M1 ((M1.setCells r T.seen_row [.int .i64 0, .slice none 0 0]).upd b ob) := Mem.keep_trans (Mem.keep_of_le hle) (Mem.keep_upd _ _ rfl)
        refine h1.more hn hk hm ⟨Mem.has_setCells.upd hrb ob, ⟨by simp, by simp [maxLen]⟩, .inl ⟨rfl, rfl⟩⟩ fun y hy => ?_
        rcases hy with rfl | ⟨q, hq, _⟩
        · exact hr
        · cases hq
  (conv => whnf); refine key.mono ?_
  rintro v M2 ⟨x0, rfl, hle2, hS2, hup0, hmore0, ⟨hso0, hlen0⟩, hown0, hput⟩
  refine zR ?_
  refine on (hS2.self.c1 rfl) ?_
  (conv => whnf)
  refine ⟨?_, True.intro⟩
  (conv => whnf)
  refine hS2.map.put keyK (o, e) x0 fun q f hm => ?_
  have hS3 := hput _ (hm M2)
  obtain ⟨M3, hM3⟩ : ∃ M3, M3 = M2.upd b (mput q f (keyV (o, e)) (entV x0)) := ⟨_, rfl⟩
  have hk3 : Mem.keep (fun y => y = b) M2 M3 := hM3 ▸ Mem.keep_upd _ _ rfl
  rw [← hM3] at hS3
  (conv => whnf)
  erw [← hM3]
  have hx0 : aget (aput es (o, e) x0) (o, e) = some x0 := by rw [aget_aput, if_pos rfl]
  have hE3 := hS3.ents _ (aget_mem hx0)
  refine zR ?_
  refine on (hE3.self.c1 rfl) ?_
  refine zU ?_
  refine (bsearch_ok hE3.more.src (by dsimp only; omega) hso0 c).mono ?_
  rintro v _ ⟨i, ff, rfl, hi, hlo, hhi, rfl⟩
  dsimp only at hi hlo hhi
  have hinsC := insC_eq c x0.more i hi hlo hhi
  refine zR ?_
  refine on (hE3.self.c1 rfl) ?_
  refine zU ?_
  refine new (fun vb hvb => ?_)
  replace hvb : M3 vb = none := hvb
  have hle4 : M3.le (M3.setCells vb T.int [.int .i64 c]) := Mem.le_setCells hvb
  have hhv : (M3.setCells vb T.int [.int .i64 c]).has vb T.int [.int .i64 c] := Mem.has_setCells
  obtain ⟨M4, hM4⟩ : ∃ M4, M4 = M3.setCells vb T.int [.int .i64 c] := ⟨_, rfl⟩
  rw [← hM4] at hle4 hhv
  (conv => whnf)
  erw [← hM4]
  have hE4 := hE3.le hle4
  refine zU ?_
  refine (insI_ok (vc := 1) Tryz.laysIns (by kernel_rfl) (M := M4) (a := x0.a) (c := x0.c) (l := x0.more) hE4.more (by omega) i hi hhv fun q hq e => by
    obtain ⟨cs, hh⟩ := hE3.more.block hq
    have e : q.block = vb := e
    rw [e] at hh; unfold Mem.has at hh; rw [hvb] at hh; cases hh).mono ?_
  rintro v M5 ⟨a', c', rfl, hrow5, hk5, hblk5⟩
  rw [hinsC] at hrow5
  replace hrow5 : RowI M5 a' c' (insC c x0.more) := hrow5
  have hnr : ¬ blk x0.a x0.r := fun ⟨q, hq, e⟩ => by
    obtain ⟨cs, hh⟩ := hE3.more.block hq
    rw [e] at hh
    exact absurd (hh.inj hE3.self).1 (by decide)
  have hself5 : M5.has x0.r T.seen_row [.int .i64 x0.up, .slice x0.a x0.more.length x0.c] := hk5 _ _ hnr hE4.self
  refine zR ?_
  refine on hself5.cells ?_
  (conv => whnf); refine ob (Nat.le_refl 2) ?_
  have hcap : (insC c x0.more).length = x0.more.length + 1 := insC_len c x0.more
  have hnr5 : ¬ blk a' x0.r := fun ⟨q, hq, e⟩ => by
    rcases hblk5 q hq with h6 | h6
    · rw [e] at h6; exact hnr h6
    · have h7 := hE4.self
      unfold Mem.has at h7
      rw [e] at h6; rw [h6] at h7; cases h7
  obtain ⟨M6, hM6⟩ : ∃ M6, M6 = M5.setCells x0.r T.seen_row [.int .i64 x0.up, .slice a' (insC c x0.more).length c'] := ⟨_, rfl⟩
  have hE6 : EntAt M6 ⟨x0.r, a', c', x0.up, insC c x0.more⟩ := by
    refine ⟨hM6 ▸ Mem.has_setCells, hrow5.mono fun q o' hq ho => ?_⟩
    rw [hM6]; unfold Mem.setCells
    rw [Mem.upd_ne _ _ fun e => hnr5 ⟨q, hq, e⟩]; exact ho
  have hk6 : Mem.keep x0.own M3 M6 := Mem.keep_trans (Mem.keep_of_le hle4) (Mem.keep_trans (Mem.keep_mono hk5 fun y hy => .inr hy) (hM6 ▸ fun y o' hy ho => by
    unfold Mem.setCells
    rw [Mem.upd_ne _ _ fun e => hy (.inl e)]; exact ho))
  have hown6 : ∀ y, Ent.own ⟨x0.r, a', c', x0.up, insC c x0.more⟩ y → x0.own y ∨ M3 y = none := fun y hy => by
    rcases hy with e | ⟨q, hq, e⟩
    · exact .inl (.inl e)
    · rcases hblk5 q hq with h6 | h6
      · exact .inl (.inr (e ▸ h6))
      · right
        rw [e] at h6
        cases hM : M3 y with
        | none => rfl
        | some z => rw [hle4 _ _ hM] at h6; cases h6
  rw [hcap] at hM6
  (conv => whnf)
  erw [← hM6]
  have hup := upOf_range hgd (o, e)
  rw [← hup0] at hup
  have hadd : normC x0.up (insC c x0.more) = addE es o e c := by rw [addE, hup0, hmore0]
  refine loopF (σ := Mem × Ent) [] (fun _ => []) (fun _ => [.live T.api_Id [.v (.int .i64 o), .v (.int .i64 d), .v (.int .i64 e), .v (.int .i64 c)], .gone vb]) (fun y => y.1)
    (fun | ⟨Mc, x⟩ => Mem.keep x0.own M3 Mc ∧ EntAt Mc x ∧ x.r = x0.r ∧ (∀ y, x.own y → x0.own y ∨ M3 y = none) ∧ normC x.up x.more = addE es o e c ∧ 0 ≤ x.up ∧ x.up + x.more.length ≤ 5000000) (fun y => y.2.more.length) ⟨M6, ⟨x0.r, a', c', x0.up, insC c x0.more⟩⟩
    ⟨hk6, hE6, rfl, hown6, hadd, hup.1, by dsimp only; omega⟩ zS ?_
  rintro ⟨Mc, x⟩ ⟨hkC, hEC, hrC, hownC, hnC, hu0, hu1⟩
  have hselfC := hEC.self
  rw [hrC] at hselfC
  refine zR ?_
  refine on (hselfC.c1 rfl) ?_
  (conv => whnf); refine brn (fun g1 => ?_) (fun g1 => ?_)
  · obtain ⟨y, r, hxm⟩ : ∃ y r, x.more = y :: r := by
      cases hxm : x.more with
      | nil => rw [hxm] at g1; simp at g1
      | cons y r => exact ⟨y, r, rfl⟩
    have hxl : x.more.length = r.length + 1 := by rw [hxm]; rfl
    obtain ⟨_, bb, oo, hba, hrow0⟩ := hEC.more.src.at (i := 0) (by omega)
    have hy0 : x.more[0]'(by omega) = y := by simp [hxm]
    rw [hy0] at hrow0
    (conv => whnf); refine on (hselfC.c1 rfl) ?_
    (conv => whnf); refine ob ⟨Int.le_refl _, by omega⟩ ?_
    (conv => whnf); refine atp hba ?_
    (conv => whnf); refine on hrow0 ?_
    (conv => whnf); refine on (hselfC.c1 rfl) ?_
    (conv => whnf); refine ob (inR_i64 (by omega)) ?_
    (conv => whnf); refine brn (fun g2 => ?_) (fun g2 => ?_)
    · have hy : y = x.up + 1 := of_decide_eq_true g2
      (conv => whnf); refine on (hselfC.c1 rfl) ?_
      (conv => whnf); refine ob (inR_i64 (by omega)) ?_
      refine zR ?_
      refine on hselfC.cells ?_
      (conv => whnf); refine ob (Nat.le_succ 1) ?_
      obtain ⟨M7, hM7⟩ : ∃ M7, M7 = Mc.setCells x0.r T.seen_row [.int .i64 (x.up + 1), .slice x.a x.more.length x.c] := ⟨_, rfl⟩
      have hself7 : M7.has x0.r T.seen_row [.int .i64 (x.up + 1), .slice x.a x.more.length x.c] := hM7 ▸ Mem.has_setCells
      (conv => whnf)
      erw [← hM7]
      refine zR ?_
      refine on (hself7.c1 rfl) ?_
      (conv => whnf); refine on (hself7.c1 rfl) ?_
      (conv => whnf); refine on (hself7.c1 rfl) ?_
      (conv => whnf); refine ob ⟨by decide, by omega, by omega, by have := hEC.more.1.1; omega⟩ ?_
      refine zU ?_
      refine on hself7.cells ?_
      (conv => whnf); refine ob (Nat.le_refl 2) ?_
      have e1 : ((x.more.length : Int)).toNat - (1 : Int).toNat = r.length := by omega
      have e2 : ((x.more.length : Int)).toNat = r.length + 1 := by omega
      have e3 : (1 : Int).toNat = 1 := rfl
      obtain ⟨hpop, hpb⟩ := RowI.pop (hxm ▸ hEC.more)
      obtain ⟨M8, hM8⟩ : ∃ M8, M8 = M7.setCells x0.r T.seen_row [.int .i64 (x.up + 1), .slice (subA x.a (1 : Int).toNat ((x.more.length : Int)).toNat 1) (((x.more.length : Int)).toNat - (1 : Int).toNat) (((x.more.length : Int)).toNat - (1 : Int).toNat)] := ⟨_, rfl⟩
      have hself8 : M8.has x0.r T.seen_row [.int .i64 (x.up + 1), .slice (subA x.a 1 (r.length + 1) 1) r.length r.length] := by
        have : M8.has x0.r T.seen_row _ := hM8 ▸ Mem.has_setCells
        rw [e1, e2, e3] at this; exact this
      have hk8 : Mem.keep (fun z => z = x0.r) Mc M8 := fun z oo' hz ho => by
        rw [hM8, hM7]; unfold Mem.setCells
        rw [Mem.upd_ne _ _ hz, Mem.upd_ne _ _ hz]; exact ho
      have hblkr : ∀ q, x.a = some q → q.block ≠ x0.r := fun q hq e => by
        obtain ⟨cs, hh⟩ := hEC.more.block hq
        rw [e] at hh
        exact absurd (hh.inj hselfC).1 (by decide)
      (conv => whnf)
      refine ⟨⟨M8, ⟨x0.r, subA x.a 1 (r.length + 1) 1, r.length, x.up + 1, r⟩⟩, ⟨Mem.keep_trans hkC (Mem.keep_mono hk8 fun z hz => .inl hz), ⟨hself8, hpop.mono fun q o' hq ho => ?_⟩, rfl, fun z hz => ?_, ?_, by dsimp only; omega, by dsimp only; omega⟩, by dsimp only; omega, ?_⟩
      · obtain ⟨q', hq', eb⟩ := hpb q hq
        exact hk8 _ _ (fun e => hblkr q' hq' (eb.trans e)) ho
      · rcases hz with e | ⟨q, hq, e⟩
        · exact .inl (.inl e)
        · obtain ⟨q', hq', eb⟩ := hpb q hq
          exact hownC z (.inr ⟨q', hq', eb.trans e⟩)
      · rw [← hnC, hxm]; simp only [normC, if_pos hy]
      · rw [hM8]; exact zS
    · have hfin : normC x.up x.more = (x.up, x.more) := by
        have : ¬ y = x.up + 1 := of_decide_eq_false g2
        rw [hxm]; simp only [normC, if_neg this]
      refine zR ?_
      have hS := hS3.turn hx0 hkC hEC hrC hownC
      rw [aput_aput] at hS
      refine ⟨by rw [hz], .inr ⟨hz, fun y o' hy ho => ?_, x, hS, ?_, fun y hy => ?_⟩⟩
      · have hM2 : M2 y = some o' := hle2 _ _ (hle1 _ _ ho)
        have hM3 := hk3 y o' (fun e => hy (.inr (.inl e))) hM2
        refine hkC y o' (fun hxy => ?_) hM3
        rcases hown0 y hxy with h8 | h8
        · exact hy h8
        · rw [ho] at h8; cases h8
      · rw [hfin] at hnC; exact hnC
      · rcases hownC y hy with h8 | h8
        · exact hown0 y h8
        · right
          cases hM : M y with
          | none => rfl
          | some z =>
            have hM2 : M2 y = some z := hle2 _ _ (hle1 _ _ hM)
            by_cases e : y = b
            · subst e
              obtain ⟨l1, c1, hh, _⟩ := hS3.map
              rw [hh] at h8; cases h8
            · rw [hk3 y z e hM2] at h8; cases h8
  · have hfin : normC x.up x.more = (x.up, x.more) := by
      have : x.more = [] := List.eq_nil_of_length_eq_zero (by have := of_decide_eq_false g1; omega)
      rw [this]; rfl
    refine zR ?_
    have hS := hS3.turn hx0 hkC hEC hrC hownC
    rw [aput_aput] at hS
    refine ⟨by rw [hz], .inr ⟨hz, fun y o' hy ho => ?_, x, hS, ?_, fun y hy => ?_⟩⟩
    · have hM2 : M2 y = some o' := hle2 _ _ (hle1 _ _ ho)
      have hM3 := hk3 y o' (fun e => hy (.inr (.inl e))) hM2
      refine hkC y o' (fun hxy => ?_) hM3
      rcases hown0 y hxy with h8 | h8
      · exact hy h8
      · rw [ho] at h8; cases h8
    · rw [hfin] at hnC; exact hnC
    · rcases hownC y hy with h8 | h8
      · exact hown0 y h8
      · right
        cases hM : M y with
        | none => rfl
        | some z =>
          have hM2 : M2 y = some z := hle2 _ _ (hle1 _ _ hM)
          by_cases e : y = b
          · subst e
            obtain ⟨l1, c1, hh, _⟩ := hS3.map
            rw [hh] at h8; cases h8
          · rw [hk3 y z e hM2] at h8; cases h8
end
section
@[reducible] def idV (o d e c : Int) : Value := .agg #[.int .i64 o, .int .i64 d, .int .i64 e, .int .i64 c]
structure IdT where
  o : Int
  d : Int
  e : Int
  c : Int
deriving DecidableEq
@[reducible] def idCs (i : IdT) : List Value := [.int .i64 i.o, .int .i64 i.d, .int .i64 i.e, .int .i64 i.c]
end
section
variable {M : Mem}
structure K where
  o : Int
  e : Int
  c : Int
deriving DecidableEq, Inhabited
@[reducible] def encK (k : K) : List Value := [.int .i64 k.o, .int .i64 k.e, .int .i64 k.c]
def lessK (a b : K) : Bool := if a.o ≠ b.o then decide (a.o < b.o) else if a.e ≠ b.e then decide (a.e < b.e) else decide (a.c < b.c)
def putK (k : K) : List K → List K
  | [] => [k]
  | x :: r => if lessK k x then k :: x :: r else x :: putK k r
end
section
variable {M : Mem}
def cmpI (x y : Int) : Int := if x < y then -1 else if y < x then 1 else 0
theorem cmp_ok (x y : Int) : CallsM Tryz.prog F.cmp_Compare_int [.int .i64 x, .int .i64 y] M fun v M' => v = .int .i64 (cmpI x y) ∧ M = M' := by
  refine fo_cmp_Compare_int (by simp) ?_
  (conv => whnf); refine (isNaN_ok x).mono ?_
  rintro v _ ⟨rfl, rfl⟩
  refine zR ?_
  refine (isNaN_ok y).mono ?_
  rintro v _ ⟨rfl, rfl⟩
  refine zR ?_
  refine brn (fun h => ?_) (fun h => ?_)
  · refine zR ?_
    exact ⟨by simp [cmpI, of_decide_eq_true h], rfl⟩
  · have h1 := of_decide_eq_false h
    (conv => whnf); refine brn (fun g => ?_) (fun g => ?_)
    · refine zR ?_
      exact ⟨by simp [cmpI, h1, of_decide_eq_true g], rfl⟩
    · refine zR ?_
      have g1 := of_decide_eq_false g
      refine ⟨?_, rfl⟩
      unfold cmpI
      rw [if_neg h1, if_neg g1]
def cmpL : List Int → List Int → Int
  | [], [] => 0
  | [], _ :: _ => -1
  | _ :: _, [] => 1
  | x :: r, y :: s => if cmpI x y ≠ 0 then cmpI x y else cmpL r s
theorem compare_ok {a b : Option Addr} {n m c d : Nat} {X Y : List Int} (hx : SrcOk M 1 a n (X.map intV)) (hy : SrcOk M 1 b m (Y.map intV)) (hn : n ≤ 4194304) (hm : m ≤ 4194304) :
    CallsM Tryz.prog F.slices_Compare_int_int [.slice a n c, .slice b m d] M fun v M' => v = .int .i64 (cmpL X Y) ∧ M = M' := by
  refine fo_slices_Compare_int_int (by simp) ?_
  have hX := hx.maplen
  have hY := hy.maplen
  (conv => whnf)
  refine loopQ [11] (fun (i : Nat) => [(11, .int .i64 i)]) (fun i => i ≤ n ∧ i ≤ m ∧ cmpL X Y = cmpL (X.drop i) (Y.drop i)) (fun i => n - i) 0 ⟨by omega, by omega, rfl⟩ zS ?_
  rintro i ⟨hi, hj, he⟩
  (conv => whnf); refine brn (fun h => ?_) (fun h => ?_)
  · have hlt : i < n := by have := of_decide_eq_true h; omega
    obtain ⟨h1, b1, o1, rfl, hrow1⟩ := hx.at (i := i) hlt
    (conv => whnf); refine ob (by omega) ?_
    (conv => whnf); refine on hrow1 ?_
    (conv => whnf); refine brn (fun g => ?_) (fun g => ?_)
    · have hge : m ≤ i := by have := of_decide_eq_true g; omega
      refine zR ?_
      refine ⟨?_, rfl⟩
      rw [he, List.drop_eq_getElem_cons h1, List.drop_of_length_le (l := Y) (by omega)]; rfl
    · have hlt2 : i < m := by have := of_decide_eq_false g; omega
      obtain ⟨h2, b2, o2, rfl, hrow2⟩ := hy.at (i := i) hlt2
      (conv => whnf); refine ob (by omega) ?_
      (conv => whnf); refine on hrow2 ?_
      (conv => whnf); refine (cmp_ok _ _).mono ?_
      rintro v _ ⟨rfl, rfl⟩
      have he2 : cmpL X Y = if cmpI X[i] Y[i] ≠ 0 then cmpI X[i] Y[i] else cmpL (X.drop (i + 1)) (Y.drop (i + 1)) := by
        rw [he, List.drop_eq_getElem_cons h1, List.drop_eq_getElem_cons h2]; rfl
      (conv => whnf); refine brn (fun k => ?_) (fun k => ?_)
      · have hk : cmpI X[i] Y[i] ≠ 0 := by simpa using k
        refine zR ?_
        refine ⟨?_, rfl⟩
        rw [he2, if_pos hk]
      · have hk : ¬ cmpI X[i] Y[i] ≠ 0 := by simpa using k
        (conv => whnf); refine ob (inR_i64 (by omega)) ?_
        (conv => whnf)
        refine ⟨i + 1, ⟨by omega, by omega, ?_⟩, by omega, zS⟩
        rw [he2, if_neg hk]
  · have hge : n ≤ i := by have := of_decide_eq_false h; omega
    have hdx : X.drop i = [] := List.drop_of_length_le (by omega)
    (conv => whnf); refine brn (fun g => ?_) (fun g => ?_)
    · have hlt2 : i < m := by have := of_decide_eq_true g; omega
      refine zR ?_
      refine ⟨?_, rfl⟩
      rw [he, hdx, List.drop_eq_getElem_cons (l := Y) (by omega)]; rfl
    · have hge2 : m ≤ i := by have := of_decide_eq_false g; omega
      refine zR ?_
      refine ⟨?_, rfl⟩
      rw [he, hdx, List.drop_of_length_le (l := Y) (by omega)]; rfl
structure MkC where
  o : Int
  e : Int
  up : Int
  a : Option Addr
  c : Nat
  more : List Int
deriving Inhabited
@[reducible] def encM (m : MkC) : List Value := [.int .i64 m.o, .int .i64 m.e, .int .i64 m.up, .slice m.a m.more.length m.c]
theorem encM_len (m : MkC) : (encM m).length = 4 := rfl
def cmpM (x y : MkC) : Int := cmpL [x.o, x.e] [y.o, y.e]
theorem cmpM_ok (x y : MkC) : CallsM Tryz.prog F.seen_Set_Marks_1 [.agg (encM x).toArray, .agg (encM y).toArray] M fun v _ => v = .int .i64 (cmpM x y) := by
  refine fo_seen_Set_Marks_1 (by simp) ?_
  refine zR ?_
  refine new (fun b1 hb1 => ?_)
  replace hb1 : M b1 = none := hb1
  refine zR ?_
  refine new (fun b2 hb2 => ?_)
  replace hb2 : (M.setCells b1 T.int [.int .i64 x.o, .int .i64 x.e]) b2 = none := hb2
  refine zR ?_
  refine (compare_ok (X := [x.o, x.e]) (Y := [y.o, y.e]) ?_ ?_ (by omega) (by omega)).mono ?_
  · exact ((Mem.has_setCells (M := M)).src rfl).le (Mem.le_setCells hb2)
  · exact Mem.has_setCells.src rfl
  rintro v _ ⟨rfl, rfl⟩
  refine zR ?_
  rfl
theorem cmpM_lt (x y : MkC) : cmpM x y < 0 ↔ x.o < y.o ∨ (x.o = y.o ∧ x.e < y.e) := by
  unfold cmpM cmpL cmpL cmpL cmpI
  repeat' split
  all_goals omega
theorem cmpM_swo : Go.Sort.SWO (Go.Proofs.ltOf cmpM) := by
  have h : ∀ x y : MkC, Go.Proofs.ltOf cmpM x y = decide (x.o < y.o ∨ (x.o = y.o ∧ x.e < y.e)) := fun x y => by
    unfold Go.Proofs.ltOf
    simp only [cmpM_lt]
  refine ⟨fun x => ?_, fun x y z => ?_, fun x y z => ?_⟩ <;> simp only [h, decide_eq_true_eq, decide_eq_false_iff_not] <;> omega
end
section
variable {M : Mem} {p b : Nat} {gaps : Int} {es : List ((Int × Int) × Ent)}
structure Mk where
  o : Int
  e : Int
  up : Int
  more : List Int
deriving DecidableEq
def MkC.mk' (m : MkC) : Mk := ⟨m.o, m.e, m.up, m.more⟩
def mkOf (q : (Int × Int) × Ent) : Mk := ⟨q.1.1, q.1.2, q.2.up, q.2.more⟩
structure MarksAt (M0 : Mem) (a : Option Addr) (n c : Nat) (l : List MkC) (M' : Mem) : Prop where
  row : NewSl M0 T.api_Mark 4 a n c (l.flatMap encM) M'
  more : ∀ m ∈ l, NewSl M0 T.int 1 m.a m.more.length m.c (m.more.map intV) M'
theorem MarksAt.len {M0 M' : Mem} {a : Option Addr} {n c : Nat} {l : List MkC} (h : MarksAt M0 a n c l M') : l.length = n := h.row.src.flen encM_len (by decide)
theorem encM_one (x : MkC) : ∀ v ∈ encM x, v.oneCell' = true := by
  intro v hv
  simp only [encM, List.mem_cons, List.not_mem_nil, or_false] at hv
  rcases hv with rfl | rfl | rfl | rfl <;> rfl
theorem Marks_ok (h : SetAt M p b gaps es) (hg : gapsE es ≤ 4194304) (hn : es.length ≤ 4194000) : CallsM Tryz.prog F.seen_Set_Marks [ptr p] M fun v M' =>
    ∃ a n c l, v = .slice a n c ∧ MarksAt M a n c l M' ∧ (l.map MkC.mk').Perm (es.map mkOf) ∧ l.Pairwise (fun x y => ¬ cmpM y x < 0) := by
  refine fo_seen_Set_Marks (by simp) ?_
  (conv => whnf); refine brn_f rfl ?_
  (conv => whnf); refine on (h.self.c1 rfl) ?_
  (conv => whnf)
  refine h.map.range fun q bi hbi hI => ?_
  replace hbi : M bi = none := hbi
  (conv => whnf)
  refine loopF (σ := Mem × (Option Addr × Nat × Nat) × List MkC × List ((Int × Int) × Ent)) [3] (fun x => [(3, .slice x.2.1.1 x.2.1.2.1 x.2.1.2.2)]) (fun _ => []) (fun x => x.1)
    (fun | ⟨M1, (a, n, c), l, todo⟩ => MarksAt M a n c l M1 ∧ Iter keyV entV M1 bi b es todo ∧ (l.map MkC.mk' ++ todo.map mkOf).Perm (es.map mkOf)) (fun x => x.2.2.2.length) ⟨_, (none, 0, 0), [], es⟩
    ⟨⟨(NewSl.none M _ _).up (Mem.le_upd hbi), by simp⟩, hI, .refl _⟩ zS ?_
  rintro ⟨M1, ⟨a, n, c⟩, l, todo⟩ ⟨hMk, hI1, hperm⟩
  (conv => whnf)
  refine hI1.next (fun h0 => ?_) (fun i k todo' o' hperm2 hI2 hent => ?_)
  · subst h0
    refine zR ?_
    have hlen := hMk.len
    refine (sortF_ok Tryz.laysF (by kernel_rfl) (k := 4) (by decide) Tryz.isAgg161 Tryz.sizeOf161 encM_len encM_one cmpM_swo (g := F.seen_Set_Marks_1) (fun args w => enters_run (by kernel_rfl) args w) (fun x y => cmpM_ok x y) hMk.row.wr (by have := hperm.length_eq; simp at this; omega)).mono ?_
    rintro v M5 ⟨rfl, l', hp', hs', hw', hk'⟩
    (conv => whnf)
    refine ⟨a, n, c, l', rfl, ⟨hMk.row.ofWr hw' hk' rfl, fun m hm => (hMk.more m (hp'.mem_iff.1 hm)).keep hk' (fun y ⟨q, hq, e⟩ => e ▸ (hMk.row.block hq).1) fun q hq ⟨q', hq', e⟩ => ?_⟩, ?_, hs'⟩
    · exact hMk.row.ne (hMk.more m (hp'.mem_iff.1 hm)) (by decide) hq' hq e
    · simpa using (hp'.map MkC.mk').trans (by simpa using hperm)
  · have hk2 : Mem.keep (fun y => y = bi) M1 (M1.upd bi o') := Mem.keep_upd _ _ rfl
    have hle2 : M.le (M1.upd bi o') := fun y o hb => by
      rw [Mem.upd_ne _ _ (fun e => by subst e; rw [hbi] at hb; cases hb)]; exact hMk.row.le _ _ hb
    have hMk2 : MarksAt M a n c l (M1.upd bi o') := ⟨hMk.row.keep hk2 (fun y e => e ▸ hbi) (fun q hq e => by
        obtain ⟨_, cs, hh⟩ := hMk.row.block hq
        exact (hI1.nb hh).1 e), fun m hm => (hMk.more m hm).keep hk2 (fun y e => e ▸ hbi) (fun q hq e => by
        obtain ⟨_, cs, hh⟩ := (hMk.more m hm).block hq
        exact (hI1.nb hh).1 e)⟩
    obtain ⟨M2, hM2⟩ : ∃ M2, M2 = M1.upd bi o' := ⟨_, rfl⟩
    rw [← hM2] at hI2 hent hle2 hMk2
    have hmem : (i, k) ∈ es := hI1.todo_sub _ (hperm2.mem_iff.2 (by simp))
    have hke := (h.le hle2).ents _ hmem
    have hkl : k.more.length ≤ 4194304 := Nat.le_trans (gapsE_le hmem) hg
    (conv => whnf)
    erw [← hM2]
    refine zR ?_
    refine on hent ?_
    refine zR ?_
    refine on (hke.self.c1 rfl) ?_
    refine zR ?_
    refine on (hke.self.c1 rfl) ?_
    refine zR ?_
    refine new (fun b1 hb1 => ?_)
    replace hb1 : M2 b1 = none := hb1
    have hN1 : NewSl M2 T.int 1 (some ⟨b1, 0, none⟩) 0 0 (([] : List Int).map intV) _ := NewSl.lit hb1 T.int 1 0 [] rfl
    obtain ⟨M3, hM3⟩ : ∃ M3, M3 = M2.setCells b1 T.int [] := ⟨_, rfl⟩
    rw [← hM3] at hN1
    (conv => whnf)
    erw [← hM3]
    refine zT (hN1.le) ?_
    (conv => whnf)
    refine srcv (hke.more.src.le hN1.le) ?_
    (conv => whnf); refine appN M2 _ hN1 (by dsimp only; omega) (by dsimp only; simp [maxLen]; omega) (by simp [Value.oneCell']) fun a5 c5 M4 hN4 => ?_
    have hMk4 : MarksAt M a n c l M4 := ⟨hMk2.row.up hN4.le, fun m hm => (hMk2.more m hm).up hN4.le⟩
    have hnew : NewSl M T.int 1 a5 k.more.length c5 (k.more.map intV) M4 := by
      have := hN4.mono hle2
      simpa using this
    have hlen := hMk.len
    have hlt : l.length < es.length := by have := hperm.length_eq; have := hperm2.length_eq; simp at *; omega
    refine zT (hN4.le) ?_
    (conv => whnf)
    refine appF M hMk4.row ⟨i.1, i.2, k.up, a5, c5, k.more⟩ (by simp) (by dsimp only; omega) (by dsimp only; simp [maxLen]; omega) (by simp [Value.oneCell']) fun a6 c6 M6 hN6 hk6 => ?_
    (conv => whnf)
    have hfr : ∀ y, blk a y → M y = none := fun y ⟨q, hq, e⟩ => e ▸ (hMk4.row.block hq).1
    have hI4 := hI2.le hN4.le
    have hnb : ∀ y, blk a y → y ≠ bi ∧ y ≠ b := fun y ⟨q, hq, e⟩ => by
      obtain ⟨_, cs, hh⟩ := hMk4.row.block hq
      exact e ▸ hI4.nb hh
    have hI6 := hI4.keep hk6 (fun hb => (hnb _ hb).1 rfl) (fun hb => (hnb _ hb).2 rfl)
    refine ⟨⟨M6, (a6, n + 1, c6), l ++ [⟨i.1, i.2, k.up, a5, c5, k.more⟩], todo'⟩, ⟨⟨hN6, fun m hm => ?_⟩, hI6, ?_⟩, by have := hperm2.length_eq; simp at this ⊢; omega, zS⟩
    · rcases List.mem_append.1 hm with hm | hm
      · exact (hMk4.more m hm).keep hk6 hfr fun q hq ⟨q', hq', e⟩ => hMk4.row.ne (hMk4.more m hm) (by decide) hq' hq e
      · simp only [List.mem_singleton] at hm
        subst hm
        exact hnew.keep hk6 hfr fun q hq ⟨q', hq', e⟩ => hMk4.row.ne hnew (by decide) hq' hq e
    · refine List.Perm.trans ?_ hperm
      rw [List.map_append, List.append_assoc]
      refine List.Perm.append_left _ ?_
      have := hperm2.map mkOf
      simpa [MkC.mk', mkOf] using this.symm
end
section
variable {M : Mem}
structure MarksR (M : Mem) (a : Option Addr) (n : Nat) (l : List MkC) : Prop where
  row : SrcOk M 4 a n (l.flatMap encM)
  more : ∀ m ∈ l, SrcOk M 1 m.a m.more.length (m.more.map intV)
theorem MarksAt.r {M0 M' : Mem} {a : Option Addr} {n c : Nat} {l : List MkC} (h : MarksAt M0 a n c l M') : MarksR M' a n l := ⟨h.row.src, fun m hm => (h.more m hm).src⟩
theorem MarksR.le {M M' : Mem} {a : Option Addr} {n : Nat} {l : List MkC} (h : MarksR M a n l) (hle : M.le M') : MarksR M' a n l := ⟨h.row.le hle, fun m hm => (h.more m hm).le hle⟩
theorem MarksR.len {M : Mem} {a : Option Addr} {n : Nat} {l : List MkC} (h : MarksR M a n l) : l.length = n := h.row.flen encM_len (by decide)
def FewM (l : List MkC) : Prop := ∀ m ∈ l, m.more.length ≤ 4194304
theorem same_ok {a b : Option Addr} {n m c d : Nat} {l r : List MkC} (ha : MarksR M a n l) (hb : MarksR M b m r) (fl : FewM l) (hn : n ≤ 4194304) (hm : m ≤ 4194304) :
    CallsM Tryz.prog F.ref14_SameMarks [.slice a n c, .slice b m d] M fun v M' => v = .bool (decide (l.map MkC.mk' = r.map MkC.mk')) ∧ M = M' := by
  refine fo_ref14_SameMarks (by simp) ?_
  have hl := ha.len
  have hr := hb.len
  (conv => whnf); refine brn (fun h => ?_) (fun h => ?_)
  · refine zR ?_
    have h' : ¬ (n : Int) = m := by simpa using h
    refine ⟨?_, rfl⟩
    have : ¬ l.map MkC.mk' = r.map MkC.mk' := fun e => h' (by have := congrArg List.length e; simp at this; omega)
    simp [this]
  have hnm : n = m := by have h' : (n : Int) = m := by simpa using h
                         omega
  subst hnm
  (conv => whnf)
  refine loopQ [5] (fun (i : Nat) => [(5, .int .i64 i)]) (fun i => i ≤ n ∧ (l.map MkC.mk').take i = (r.map MkC.mk').take i) (fun i => n - i) 0 ⟨by omega, by simp⟩ zS ?_
  intro i ⟨hi, hsame⟩
  (conv => whnf); refine brn (fun g => ?_) (fun g => ?_)
  · have hlt : i < n := by have := of_decide_eq_true g; omega
    have hx : l[i]? = some (l[i]'(by omega)) := List.getElem?_eq_getElem (by omega)
    have hy : r[i]? = some (r[i]'(by omega)) := List.getElem?_eq_getElem (by omega)
    generalize l[i]'(by omega) = x at *
    generalize r[i]'(by omega) = y at *
    obtain ⟨b1, o1, rfl, hc1⟩ := ha.row.fcells encM_len (by decide) hx
    obtain ⟨b2, o2, rfl, hc2⟩ := hb.row.fcells encM_len (by decide) hy
    have hxm := ha.more x (List.mem_of_getElem? hx)
    have hym := hb.more y (List.mem_of_getElem? hy)
    have no : ¬ x.mk' = y.mk' → ¬ l.map MkC.mk' = r.map MkC.mk' := fun hne e => by
      have := congrArg (·[i]?) e
      simp [hx, hy] at this
      exact hne this
    refine zR ?_
    refine ob (by omega) ?_
    (conv => whnf); refine on (hc1 0 _ rfl) ?_
    (conv => whnf); refine ob (by omega) ?_
    (conv => whnf); refine on (hc2 0 _ rfl) ?_
    (conv => whnf); refine brn (fun g1 => ?_) (fun g1 => ?_)
    · refine zR ?_
      exact ⟨by simp [no (fun e => by simp at g1; exact g1 (congrArg Mk.o e))], rfl⟩
    have e1 : x.o = y.o := by simpa using g1
    (conv => whnf); refine ob (by omega) ?_
    (conv => whnf); refine on (hc1 1 _ rfl) ?_
    (conv => whnf); refine ob (by omega) ?_
    (conv => whnf); refine on (hc2 1 _ rfl) ?_
    (conv => whnf); refine brn (fun g2 => ?_) (fun g2 => ?_)
    · refine zR ?_
      exact ⟨by simp [no (fun e => by simp at g2; exact g2 (congrArg Mk.e e))], rfl⟩
    have e2 : x.e = y.e := by simpa using g2
    (conv => whnf); refine ob (by omega) ?_
    (conv => whnf); refine on (hc1 2 _ rfl) ?_
    (conv => whnf); refine ob (by omega) ?_
    (conv => whnf); refine on (hc2 2 _ rfl) ?_
    (conv => whnf); refine brn (fun g3 => ?_) (fun g3 => ?_)
    · refine zR ?_
      exact ⟨by simp [no (fun e => by simp at g3; exact g3 (congrArg Mk.up e))], rfl⟩
    have e3 : x.up = y.up := by simpa using g3
    (conv => whnf); refine ob (by omega) ?_
    (conv => whnf); refine on (hc1 3 _ rfl) ?_
    (conv => whnf); refine ob (by omega) ?_
    (conv => whnf); refine on (hc2 3 _ rfl) ?_
    (conv => whnf); refine brn (fun g4 => ?_) (fun g4 => ?_)
    · refine zR ?_
      exact ⟨by simp [no (fun e => by simp at g4; exact g4 (congrArg (fun m : Mk => (m.more.length : Int)) e))], rfl⟩
    have e4 : x.more.length = y.more.length := by
      have : (x.more.length : Int) = y.more.length := by simpa using g4
      omega
    have hfx := fl x (List.mem_of_getElem? hx)
    (conv => whnf)
    refine loopQ [6] (fun (k : Nat) => [(6, .int .i64 k)]) (fun k => k ≤ x.more.length ∧ x.more.take k = y.more.take k) (fun k => x.more.length - k) 0 ⟨by omega, by simp⟩ zS ?_
    intro k ⟨hk, hsk⟩
    (conv => whnf); refine ob (by omega) ?_
    (conv => whnf); refine on (hc1 3 _ rfl) ?_
    (conv => whnf); refine brn (fun g5 => ?_) (fun g5 => ?_)
    · have hlk : k < x.more.length := by have := of_decide_eq_true g5; omega
      obtain ⟨hkx, bx, ox, hax, hrx⟩ := hxm.at (i := k) hlk
      obtain ⟨hky, by', oy, hay, hry⟩ := hym.at (i := k) (by omega)
      refine zR ?_
      refine ob (by omega) ?_
      (conv => whnf); refine on (hc1 3 _ rfl) ?_
      (conv => whnf); refine ob (by omega) ?_
      (conv => whnf); refine atp hax ?_
      (conv => whnf); refine on hrx ?_
      (conv => whnf); refine ob (by omega) ?_
      (conv => whnf); refine on (hc2 3 _ rfl) ?_
      (conv => whnf); refine ob (by omega) ?_
      (conv => whnf); refine atp hay ?_
      (conv => whnf); refine on hry ?_
      (conv => whnf); refine brn (fun g6 => ?_) (fun g6 => ?_)
      · refine zR ?_
        refine ⟨?_, rfl⟩
        have : ¬ x.mk' = y.mk' := fun e => by
          have e5 : x.more = y.more := congrArg Mk.more e
          simp [e5] at g6
        simp [no this]
      · (conv => whnf); refine ob (inR_i64 (by omega)) ?_
        (conv => whnf)
        refine ⟨k + 1, ⟨by omega, ?_⟩, by omega, zS⟩
        have e6 : x.more[k] = y.more[k] := by simpa using g6
        rw [List.take_add_one, List.take_add_one, hsk, List.getElem?_eq_getElem hkx, List.getElem?_eq_getElem hky, e6]
    · have hge : x.more.length ≤ k := by have := of_decide_eq_false g5; omega
      rw [List.take_of_length_le hge, List.take_of_length_le (by omega)] at hsk
      (conv => whnf); refine ob (inR_i64 (by omega)) ?_
      (conv => whnf)
      refine ⟨i + 1, ⟨by omega, ?_⟩, by omega, zS⟩
      rw [List.take_add_one, List.take_add_one, hsame]
      simp [hx, hy, MkC.mk', e1, e2, e3, hsk]
  · have hge : i = n := by have := of_decide_eq_false g; omega
    subst hge
    refine zR ?_
    refine ⟨?_, rfl⟩
    rw [List.take_of_length_le (by simp; omega), List.take_of_length_le (by simp; omega)] at hsame
    simp [hsame]
end
end Go.Proofs.YtpdkkbpkplhdpaaGreat
namespace Go.Proofs.YtpdkkbpkplhdpaaGreat
open Go Go.Vm
section
def CanR (up : Int) (more : List Int) : Prop := 0 ≤ up ∧ more.Pairwise (· < ·) ∧ ∀ c ∈ more, up + 1 < c
def inM (up : Int) (more : List Int) (c : Int) : Prop := (1 ≤ c ∧ c ≤ up) ∨ c ∈ more
theorem sorted_ext {α : Type} {R : α → α → Prop} (irr : ∀ x, ¬ R x x) (asym : ∀ x y, R x y → ¬ R y x) : ∀ {l l' : List α}, l.Pairwise R → l'.Pairwise R → (∀ x, x ∈ l ↔ x ∈ l') → l = l'
  | [], [], _, _, _ => rfl
  | [], y :: s, _, _, h => absurd ((h y).2 (by simp)) (by simp)
  | x :: r, [], _, _, h => absurd ((h x).1 (by simp)) (by simp)
  | x :: r, y :: s, h1, h2, h => by
    obtain ⟨h3, h4⟩ := List.pairwise_cons.1 h1
    obtain ⟨h5, h6⟩ := List.pairwise_cons.1 h2
    have hxy : x = y := by
      rcases List.mem_cons.1 ((h x).1 (by simp)) with e | e
      · exact e
      · rcases List.mem_cons.1 ((h y).2 (by simp)) with e' | e'
        · exact e'.symm
        · exact absurd (h5 x e) (asym _ _ (h3 y e'))
    subst hxy
    rw [sorted_ext irr asym h4 h6 fun z => ?_]
    constructor
    · intro hz
      rcases List.mem_cons.1 ((h z).1 (by simp [hz])) with e | e
      · subst e; exact absurd (h3 z hz) (irr z)
      · exact e
    · intro hz
      rcases List.mem_cons.1 ((h z).2 (by simp [hz])) with e | e
      · subst e; exact absurd (h5 z hz) (irr z)
      · exact e
theorem CanR.up_le {up up' : Int} {more more' : List Int} (h' : CanR up' more') (he : ∀ c, inM up more c ↔ inM up' more' c) : up ≤ up' := by
  apply Classical.byContradiction
  intro hn
  have h1 : inM up' more' (up' + 1) := (he _).1 (.inl ⟨by have := h'.1; omega, by omega⟩)
  rcases h1 with h1 | h1
  · omega
  · have := h'.2.2 _ h1; omega
theorem CanR.uniq {up up' : Int} {more more' : List Int} (h : CanR up more) (h' : CanR up' more') (he : ∀ c, inM up more c ↔ inM up' more' c) : up = up' ∧ more = more' := by
  have e : up = up' := Int.le_antisymm (CanR.up_le h' he) (CanR.up_le h fun c => (he c).symm)
  subst e
  refine ⟨rfl, sorted_ext (R := (· < ·)) (fun x => by omega) (fun x y => by omega) h.2.1 h'.2.1 fun c => ⟨fun hc => ?_, fun hc => ?_⟩⟩
  · have h1 := h.2.2 c hc
    rcases (he c).1 (.inr hc) with h2 | h2
    · omega
    · exact h2
  · have h1 := h'.2.2 c hc
    rcases (he c).2 (.inr hc) with h2 | h2
    · omega
    · exact h2
def ltMk (x y : Mk) : Prop := x.o < y.o ∨ (x.o = y.o ∧ x.e < y.e)
theorem ltMk_key : ∀ {l : List Mk}, l.Pairwise ltMk → ∀ {x y : Mk}, x ∈ l → y ∈ l → x.o = y.o → x.e = y.e → x = y
  | [], _, x, y, hx, _, _, _ => by cases hx
  | z :: r, h, x, y, hx, hy, h1, h2 => by
    obtain ⟨h3, h4⟩ := List.pairwise_cons.1 h
    rcases List.mem_cons.1 hx with e | e
    · rcases List.mem_cons.1 hy with e' | e'
      · rw [e, e']
      · subst e; have := h3 y e'; unfold ltMk at this; omega
    · rcases List.mem_cons.1 hy with e' | e'
      · subst e'; have := h3 x e; unfold ltMk at this; omega
      · exact ltMk_key h4 e e' h1 h2
structure Canon (S : Int → Int → Int → Prop) (l : List Mk) : Prop where
  sorted : l.Pairwise ltMk
  can : ∀ m ∈ l, CanR m.up m.more ∧ (0 < m.up ∨ m.more ≠ [])
  mem : ∀ o e c, S o e c ↔ ∃ m ∈ l, m.o = o ∧ m.e = e ∧ inM m.up m.more c
theorem CanR.some {up : Int} {more : List Int} (h : 0 < up ∨ more ≠ []) : ∃ c, inM up more c := by
  rcases h with h | h
  · exact ⟨up, .inl ⟨by omega, Int.le_refl _⟩⟩
  · obtain ⟨x, r, rfl⟩ := List.exists_cons_of_ne_nil h
    exact ⟨x, .inr (by simp)⟩
theorem Canon.sub {S : Int → Int → Int → Prop} {l l' : List Mk} (h : Canon S l) (h' : Canon S l') {m : Mk} (hm : m ∈ l) : m ∈ l' := by
  obtain ⟨h1, h2⟩ := h.can m hm
  obtain ⟨c0, hc0⟩ := CanR.some h2
  obtain ⟨m', hm', e1, e2, -⟩ := (h'.mem _ _ _).1 ((h.mem _ _ _).2 ⟨m, hm, rfl, rfl, hc0⟩)
  have he : ∀ c, inM m.up m.more c ↔ inM m'.up m'.more c := fun c => by
    constructor
    · intro hc
      obtain ⟨m2, hm2, e3, e4, hc2⟩ := (h'.mem _ _ _).1 ((h.mem _ _ _).2 ⟨m, hm, rfl, rfl, hc⟩)
      rw [ltMk_key h'.sorted hm' hm2 (by omega) (by omega)]; exact hc2
    · intro hc
      obtain ⟨m2, hm2, e3, e4, hc2⟩ := (h.mem _ _ _).1 ((h'.mem _ _ _).2 ⟨m', hm', rfl, rfl, hc⟩)
      rw [ltMk_key h.sorted hm hm2 (by omega) (by omega)]; exact hc2
  obtain ⟨e3, e4⟩ := h1.uniq (h'.can m' hm').1 he
  have : m = m' := by
    obtain ⟨a, b, c, d⟩ := m
    obtain ⟨a', b', c', d'⟩ := m'
    simp only at e1 e2 e3 e4
    rw [e1, e2, e3, e4]
  rw [this]; exact hm'
theorem Canon.uniq {S : Int → Int → Int → Prop} {l l' : List Mk} (h : Canon S l) (h' : Canon S l') : l = l' :=
  sorted_ext (R := ltMk) (fun x => by unfold ltMk; omega) (fun x y => by unfold ltMk; omega) h.sorted h'.sorted fun _ => ⟨fun hm => h.sub h' hm, fun hm => h'.sub h hm⟩
theorem insC_mem (c : Int) : ∀ (l : List Int) (x : Int), x ∈ insC c l ↔ x = c ∨ x ∈ l
  | [], x => by simp [insC]
  | y :: r, x => by
    simp only [insC]
    split
    · simp only [List.mem_cons, insC_mem c r x]
      constructor
      · rintro (h | h | h) <;> simp [h]
      · rintro (h | h | h) <;> simp [h]
    · simp only [List.mem_cons]
theorem insC_sorted (c : Int) : ∀ (l : List Int), l.Pairwise (· < ·) → c ∉ l → (insC c l).Pairwise (· < ·)
  | [], _, _ => by simp [insC]
  | y :: r, h, hn => by
    obtain ⟨h1, h2⟩ := List.pairwise_cons.1 h
    simp only [List.mem_cons, not_or] at hn
    simp only [insC]
    split
    · refine List.pairwise_cons.2 ⟨fun z hz => ?_, insC_sorted c r h2 hn.2⟩
      rcases (insC_mem c r z).1 hz with e | e
      · omega
      · exact h1 z e
    · refine List.pairwise_cons.2 ⟨fun z hz => ?_, h⟩
      rcases List.mem_cons.1 hz with e | e
      · omega
      · have := h1 z e; omega
theorem normC_ok : ∀ (l : List Int) (up : Int), 0 ≤ up → l.Pairwise (· < ·) → (∀ x ∈ l, up < x) → CanR (normC up l).1 (normC up l).2 ∧ (∀ c, inM (normC up l).1 (normC up l).2 c ↔ inM up l c) ∧ (normC up l).2.length ≤ l.length
  | [], up, h0, _, _ => by simp [normC, CanR, h0]
  | y :: r, up, h0, h1, h2 => by
    obtain ⟨h3, h4⟩ := List.pairwise_cons.1 h1
    simp only [normC]
    split
    · rename_i e
      obtain ⟨i1, i2, i3⟩ := normC_ok r (up + 1) (by omega) h4 (fun x hx => by have := h3 x hx; omega)
      refine ⟨i1, fun c => (i2 c).trans ?_, by simp; omega⟩
      unfold inM
      simp only [List.mem_cons]
      constructor
      · rintro (h | h)
        · by_cases h5 : c = up + 1
          · exact .inr (.inl (by omega))
          · exact .inl (by omega)
        · exact .inr (.inr h)
      · rintro (h | h | h)
        · exact .inl (by omega)
        · exact .inl (by omega)
        · exact .inr h
    · rename_i e
      refine ⟨⟨h0, h1, fun x hx => ?_⟩, fun c => .rfl, by simp⟩
      have hy := h2 y (by simp)
      rcases List.mem_cons.1 hx with e' | e'
      · omega
      · have := h3 x e'; omega
theorem normC_pop (up : Int) (r : List Int) (h0 : 0 ≤ up) (h : ((up + 1) :: r).Pairwise (· < ·)) : (normC up ((up + 1) :: r)).2.length ≤ r.length := by
  obtain ⟨h3, h4⟩ := List.pairwise_cons.1 h
  simp only [normC, if_true]
  exact (normC_ok r (up + 1) (by omega) h4 h3).2.2
end
section
abbrev EsT := List ((Int × Int) × Ent)
def inE (es : EsT) (o e c : Int) : Prop := inM (upOf es (o, e)) (moreOf es (o, e)) c
def RightK (o e : Int) : Prop := 0 ≤ o ∧ o ≤ 63 ∧ 1 ≤ e ∧ e ≤ 65535
structure InvE (es : EsT) : Prop where
  nodup : (es.map (·.1)).Nodup
  can : ∀ q ∈ es, CanR q.2.up q.2.more ∧ (0 < q.2.up ∨ q.2.more ≠ [])
  range : ∀ q ∈ es, RightK q.1.1 q.1.2 ∧ ∀ c, inM q.2.up q.2.more c → c ≤ 65535
theorem InvE.nil : InvE [] := ⟨by simp, by simp, by simp⟩
theorem InvE.good {es : EsT} (h : InvE es) : GoodE es := fun q hq => by
  obtain ⟨h1, _⟩ := h.can q hq
  have h0 := h1.1
  refine ⟨h0, ?_⟩
  by_cases e : q.2.up = 0
  · omega
  · exact (h.range q hq).2 _ (.inl ⟨by omega, Int.le_refl _⟩)
theorem InvE.sorted {es : EsT} (h : InvE es) : ∀ q ∈ es, q.2.more.Pairwise (· < ·) := fun q hq => (h.can q hq).1.2.1
theorem inE_mem {es : EsT} (h : InvE es) (o e c : Int) : inE es o e c ↔ ∃ q ∈ es, q.1.1 = o ∧ q.1.2 = e ∧ inM q.2.up q.2.more c := by
  unfold inE upOf moreOf
  cases hx : aget es (o, e) with
  | none =>
    refine ⟨fun hc => ?_, fun ⟨q, hq, e1, e2, _⟩ => ?_⟩
    · simp only [inM, List.not_mem_nil, or_false] at hc; omega
    · have := aget_none.1 hx
      exact absurd (List.mem_map.2 ⟨q, hq, by obtain ⟨⟨a, b⟩, z⟩ := q; simp only at e1 e2 ⊢; rw [e1, e2]⟩) this
  | some x =>
    refine ⟨fun hc => ⟨((o, e), x), aget_mem hx, rfl, rfl, hc⟩, fun ⟨q, hq, e1, e2, hc⟩ => ?_⟩
    have : aget es (o, e) = some q.2 := aget_of_mem h.nodup (by obtain ⟨⟨a, b⟩, z⟩ := q; simp only at e1 e2 ⊢; rw [← e1, ← e2]; exact hq)
    rw [hx] at this
    cases this
    exact hc
theorem canR_at {es : EsT} (h : InvE es) (k : Int × Int) : CanR (upOf es k) (moreOf es k) := by
  unfold upOf moreOf
  cases hx : aget es k with
  | none => simp [CanR]
  | some x => exact (h.can _ (aget_mem hx)).1
theorem marks_canon {es : EsT} (h : InvE es) {l : List MkC} (hp : (l.map MkC.mk').Perm (es.map mkOf)) (hs : l.Pairwise (fun x y => ¬ cmpM y x < 0)) : Canon (inE es) (l.map MkC.mk') := by
  have hkeys : ((l.map MkC.mk').map fun m => (m.o, m.e)).Nodup := by
    rw [(hp.map _).nodup_iff, List.map_map]
    exact h.nodup
  refine ⟨?_, fun m hm => ?_, fun o e c => ?_⟩
  · rw [List.map_map, List.Nodup, List.pairwise_map] at hkeys
    rw [List.pairwise_map]
    refine (hs.and hkeys).imp fun {x y} ⟨h1, h2⟩ => ?_
    rw [cmpM_lt] at h1
    have h3 : ¬ (x.o = y.o ∧ x.e = y.e) := fun ⟨e1, e2⟩ => h2 (by simp [MkC.mk', e1, e2])
    show x.o < y.o ∨ (x.o = y.o ∧ x.e < y.e)
    omega
  · obtain ⟨q, hq, rfl⟩ := List.mem_map.1 (hp.mem_iff.1 hm)
    exact h.can q hq
  · rw [inE_mem h]
    constructor
    · rintro ⟨q, hq, e1, e2, hc⟩
      exact ⟨mkOf q, hp.mem_iff.2 (List.mem_map.2 ⟨q, hq, rfl⟩), e1, e2, hc⟩
    · rintro ⟨m, hm, e1, e2, hc⟩
      obtain ⟨q, hq, rfl⟩ := List.mem_map.1 (hp.mem_iff.1 hm)
      exact ⟨q, hq, e1, e2, hc⟩
theorem sum_aset : ∀ (es : EsT) (k : Int × Int) (x x0 : Ent), aget es k = some x0 → gapsE (aset es k x) + x0.more.length = gapsE es + x.more.length
  | [], k, x, x0, h => by simp [aget] at h
  | (k1, y) :: r, k, x, x0, h => by
    simp only [aget] at h
    by_cases e : k1 = k
    · subst e
      simp only [if_true, Option.some.injEq] at h
      subst h
      simp only [aset, if_true, gapsE, List.map_cons, List.sum_cons]
      omega
    · rw [if_neg e] at h
      have ih := sum_aset r k x x0 h
      simp only [aset, if_neg e, gapsE, List.map_cons, List.sum_cons] at ih ⊢
      omega
theorem gaps_aput (es : EsT) (k : Int × Int) (x : Ent) : gapsE (aput es k x) + (moreOf es k).length = gapsE es + x.more.length := by
  unfold moreOf aput
  cases hx : aget es k with
  | none => simp [gapsE]
  | some x0 => exact sum_aset es k x x0 hx
theorem aput_mem {es : EsT} (hn : (es.map (·.1)).Nodup) {k : Int × Int} {x : Ent} {q : (Int × Int) × Ent} (hq : q ∈ aput es k x) : q = (k, x) ∨ (q ∈ es ∧ q.1 ≠ k) := by
  unfold aput at hq
  cases hx : aget es k with
  | none =>
    rw [hx] at hq
    rcases List.mem_append.1 hq with h | h
    · refine .inr ⟨h, fun e => aget_none.1 hx (List.mem_map.2 ⟨q, h, e⟩)⟩
    · exact .inl (by simpa using h)
  | some x0 =>
    rw [hx] at hq
    obtain ⟨u, v, h1, h2, h3, h4⟩ := aset_split hn hx x
    rw [h2] at hq
    rcases List.mem_append.1 hq with h | h
    · exact .inr ⟨by rw [h1]; simp [h], h3 q h⟩
    · rcases List.mem_cons.1 h with h | h
      · exact .inl h
      · exact .inr ⟨by rw [h1]; simp [h], h4 q h⟩
theorem idErr_zero {o d e c : Int} (h : idErr o d e c = 0) : RightK o e ∧ 1 ≤ c ∧ c ≤ 65535 := by
  unfold idErr at h
  split at h
  · unfold RightK; omega
  · omega
theorem hasE_iff {es : EsT} {o d e c : Int} (h : idErr o d e c = 0) : hasE es o d e c = true ↔ inE es o e c := by
  obtain ⟨_, h1, _⟩ := idErr_zero h
  simp only [hasE, h, decide_true, Bool.true_and, Bool.or_eq_true, decide_eq_true_eq, inE, inM]
  constructor
  · rintro (h2 | h2)
    · exact .inl ⟨h1, h2⟩
    · exact .inr h2
  · rintro (h2 | h2)
    · exact .inl h2.2
    · exact .inr h2
theorem mayE_zero {gaps : Int} {es : EsT} {o d e c : Int} (h : mayE gaps es o d e c = 0) : idErr o d e c = 0 ∧ ¬ inE es o e c ∧ (c = upOf es (o, e) + 1 ∨ (gapsE es : Int) < gaps) := by
  have hid : idErr o d e c = 0 := by
    apply Classical.byContradiction
    intro hn
    simp [mayE, hn] at h
  refine ⟨hid, fun hi => ?_, ?_⟩
  · have := (hasE_iff hid).2 hi
    simp [mayE, hid, this] at h
  · by_cases e1 : c = upOf es (o, e) + 1
    · exact .inl e1
    · right
      by_cases e2 : gaps ≤ (gapsE es : Int)
      · by_cases hh : hasE es o d e c = true <;> simp [mayE, hid, e1, e2, hh] at h
      · omega
theorem add_inv {gaps : Int} {es : EsT} (h : InvE es) {o d e c : Int} (hz : mayE gaps es o d e c = 0) {x : Ent} (hx : (x.up, x.more) = addE es o e c) :
    InvE (aput es (o, e) x) ∧ (∀ o' e' c', inE (aput es (o, e) x) o' e' c' ↔ (o' = o ∧ e' = e ∧ c' = c) ∨ inE es o' e' c') ∧ ((gapsE es : Int) ≤ gaps → (gapsE (aput es (o, e) x) : Int) ≤ gaps) ∧ gapsE (aput es (o, e) x) ≤ gapsE es + 1 := by
  obtain ⟨hid, hni, hroom⟩ := mayE_zero hz
  obtain ⟨hrk, hc1, hc2⟩ := idErr_zero hid
  have hcan := canR_at h (o, e)
  obtain ⟨h0, h1, h2⟩ := hcan
  have hni' : ¬ c ≤ upOf es (o, e) ∧ c ∉ moreOf es (o, e) := by
    unfold inE inM at hni
    exact ⟨fun hh => hni (.inl ⟨hc1, hh⟩), fun hh => hni (.inr hh)⟩
  have hso := insC_sorted c _ h1 hni'.2
  have hab : ∀ y ∈ insC c (moreOf es (o, e)), upOf es (o, e) < y := fun y hy => by
    rcases (insC_mem c _ y).1 hy with e1 | e1
    · omega
    · have := h2 y e1; omega
  obtain ⟨n1, n2, n3⟩ := normC_ok _ _ h0 hso hab
  have hup : x.up = (addE es o e c).1 := congrArg Prod.fst hx
  have hmo : x.more = (addE es o e c).2 := congrArg Prod.snd hx
  unfold addE at hup hmo
  rw [← hup, ← hmo] at n1 n2
  rw [← hmo] at n3
  rw [insC_len] at n3
  have hin : ∀ c', inM x.up x.more c' ↔ c' = c ∨ inE es o e c' := fun c' => by
    rw [n2]
    unfold inE inM
    rw [insC_mem]
    constructor
    · rintro (h | h | h) <;> simp [h]
    · rintro (h | h | h) <;> simp [h]
  have hg := gaps_aput es (o, e) x
  refine ⟨⟨aput_nodup h.nodup _ _, fun q hq => ?_, fun q hq => ?_⟩, fun o' e' c' => ?_, fun hle => ?_, by omega⟩
  · rcases aput_mem h.nodup hq with rfl | ⟨hq, _⟩
    · refine ⟨n1, ?_⟩
      by_cases e1 : x.more = []
      · left
        rcases (hin c).2 (.inl rfl) with h5 | h5
        · show 0 < x.up
          omega
        · rw [e1] at h5; cases h5
      · exact .inr e1
    · exact h.can q hq
  · rcases aput_mem h.nodup hq with rfl | ⟨hq, _⟩
    · refine ⟨hrk, fun c' hc' => ?_⟩
      rcases (hin c').1 hc' with e1 | e1
      · omega
      · obtain ⟨q, hq, _, _, hm⟩ := (inE_mem h _ _ _).1 e1
        exact (h.range q hq).2 _ hm
    · exact h.range q hq
  · unfold inE upOf moreOf
    rw [aget_aput]
    by_cases e1 : (o', e') = (o, e)
    · rw [if_pos e1]
      obtain ⟨rfl, rfl⟩ := Prod.mk.injEq .. ▸ e1
      dsimp only
      rw [hin]
      unfold inE upOf moreOf
      simp
    · rw [if_neg e1]
      have : ¬ (o' = o ∧ e' = e ∧ c' = c) := fun ⟨a1, a2, _⟩ => e1 (by rw [a1, a2])
      simp [this]
  · rcases hroom with e1 | e1
    · have hins : insC c (moreOf es (o, e)) = c :: moreOf es (o, e) := by
        cases hm : moreOf es (o, e) with
        | nil => rfl
        | cons y r =>
          simp only [insC]
          rw [if_neg]
          have := h2 y (by rw [hm]; simp)
          omega
      rw [hins, e1] at hmo hso
      have := normC_pop _ _ h0 hso
      rw [← hmo] at this
      omega
    · omega
end
end Go.Proofs.YtpdkkbpkplhdpaaGreat
namespace Go.Proofs.YtpdkkbpkplhdpaaGreat
open Go Go.Vm
attribute [local irreducible] Brn Ob Grow CallsM inR LoopVC LoopVC0 Mem.row Mem.cells Mem.setCells Mem.upd Go.Vm.Own AppVC SrcVC StrVC NextVC New SrcOk subA NewSl Mem.textAt Mem.mapAt Mem.iterAt entryOf kfind Wr NewEls Elems
set_option maxRecDepth 10000
section
variable {M M0 : Mem} {p b : Nat} {gaps : Int} {es : EsT}
structure FreshS (M0 M : Mem) (p b : Nat) (gaps : Int) (es : EsT) : Prop where
  le : M0.le M
  at' : SetAt M p b gaps es
  inv : InvE es
  room : (gapsE es : Int) ≤ gaps ∧ gaps ≤ 256
  fresh : ∀ y, setB p b es y → M0 y = none
theorem FreshS.few (h : FreshS M0 M p b gaps es) : gapsE es ≤ 256 := by have := h.room; omega
theorem FreshS.to (h : FreshS M0 M p b gaps es) {M' : Mem} (hle : M.le M') : FreshS M0 M' p b gaps es := ⟨Mem.le_trans h.le hle, h.at'.le hle, h.inv, h.room, h.fresh⟩
theorem FreshS.some (h : FreshS M0 M p b gaps es) {y : Nat} (hy : setB p b es y) : M y ≠ none := by
  rcases hy with rfl | rfl | ⟨q, hq, hy⟩
  · have := h.at'.self; unfold Mem.has at this; rw [this]; simp
  · obtain ⟨l, c, hh, _⟩ := h.at'.map; rw [hh]; simp
  · exact (h.at'.ents q hq).some hy
theorem newS (gaps : Int) : CallsM Tryz.prog F.seen_New [.int .i64 gaps] M fun v M' =>
    ((gaps < 0 ∨ 256 < gaps) ∧ v = .tuple #[.pointer none, .int .i64 1] ∧ M' = M) ∨
    (¬ (gaps < 0 ∨ 256 < gaps) ∧ ∃ p b, v = .tuple #[ptr p, .int .i64 0] ∧ FreshS M M' p b gaps []) :=
  (New_ok gaps).mono fun v M' h => by
    rcases h with h | ⟨h1, p, b, h2, h3, h4, h5, h6⟩
    · exact .inl h
    · refine .inr ⟨h1, p, b, h2, h5, h6, InvE.nil, ⟨by simp [gapsE]; omega, by omega⟩, fun y hy => ?_⟩
      rcases hy with rfl | rfl | ⟨q, hq, _⟩
      · exact h3
      · exact h4
      · cases hq
def StepE (gaps : Int) (es es' : EsT) (o d e c : Int) : Prop := (mayE gaps es o d e c ≠ 0 ∧ es' = es) ∨ (mayE gaps es o d e c = 0 ∧ ∃ x : Ent, es' = aput es (o, e) x ∧ (x.up, x.more) = addE es o e c)
theorem addS (h : FreshS M0 M p b gaps es) (o d e c : Int) : CallsM Tryz.prog F.seen_Set_Add [ptr p, idV o d e c] M fun v M' =>
    ∃ es', v = .int .i64 (mayE gaps es o d e c) ∧ FreshS M0 M' p b gaps es' ∧ StepE gaps es es' o d e c :=
  (Add_ok h.at' (by have := h.few; omega) h.inv.good h.inv.sorted o d e c).mono fun v M' hv => by
    obtain ⟨rfl, ⟨hn, hle⟩ | ⟨hz, hk, x, h1, hx, hown⟩⟩ := hv
    · exact ⟨es, rfl, h.to hle, .inl ⟨hn, rfl⟩⟩
    · obtain ⟨i1, i2, i3, i4⟩ := add_inv h.inv hz hx
      refine ⟨aput es (o, e) x, rfl, ⟨hk.le h.le h.fresh, h1, i1, ⟨i3 h.room.1, h.room.2⟩, fun y hy => ?_⟩, .inr ⟨hz, x, rfl, hx⟩⟩
      have lo : ∀ y, M y = none → M0 y = none := fun y hy => by
        cases e1 : M0 y with
        | none => rfl
        | some z => rw [h.le _ _ e1] at hy; cases hy
      rcases hy with rfl | rfl | ⟨q, hq, hy⟩
      · exact h.fresh _ (.inl rfl)
      · exact h.fresh _ (.inr (.inl rfl))
      · rcases aput_mem h.inv.nodup hq with rfl | ⟨hq, _⟩
        · rcases hown y hy with h2 | h2
          · exact h.fresh _ h2
          · exact lo _ h2
        · exact h.fresh _ (.inr (.inr ⟨q, hq, hy⟩))
end
section
variable {M : Mem}
structure MarksW (M0 : Mem) (a : Option Addr) (c : Nat) (l : List MkC) (M' : Mem) : Prop where
  row : NewSl M0 T.api_Mark 4 a l.length c (l.flatMap encM) M'
  more : ∀ m ∈ l, NewSl M0 T.int 1 m.a m.more.length m.c (m.more.map intV) M'
  apart : l.Pairwise fun x y => ∀ z, blk x.a z → ¬ blk y.a z
end
end Go.Proofs.YtpdkkbpkplhdpaaGreat
namespace Go.Proofs.YtpdkkbpkplhdpaaGreat
open Go Go.Vm
section
def SetL (L : List K) (o e c : Int) : Prop := (⟨o, e, c⟩ : K) ∈ L
def SortK (L : List K) : Prop := L.Pairwise (fun a b => lessK a b = true) ∧ ∀ k ∈ L, 1 ≤ k.c
end
section
structure RelS (es : EsT) (L : List K) : Prop where
  inv : InvE es
  sort : SortK L
  same : ∀ o e c, inE es o e c ↔ SetL L o e c
end
end Go.Proofs.YtpdkkbpkplhdpaaGreat
namespace Go.Proofs.YtpdkkbpkplhdpaaGreat
open Go Go.Vm
attribute [local irreducible] Brn Ob Grow CallsM inR LoopVC Mem.row Mem.cells Mem.setCells Mem.upd Go.Vm.Own AppVC SrcVC StrVC NextVC New SrcOk subA
def msgErr (a b c d : Int) (n : Nat) : Int := if idErr a b c d ≠ 0 then idErr a b c d else if n = 0 then 2 else if 48 < n then 3 else 0
set_option maxRecDepth 10000 in
theorem checkMsg_ok (a b c d : Int) (p : Option Addr) (n k : Nat) (M : Mem) : CallsM Tryz.prog F.msg_CheckMsg [.agg #[.int .i64 a, .int .i64 b, .int .i64 c, .int .i64 d, .slice p n k]] M fun v M' => v = .int .i64 (msgErr a b c d n) ∧ M = M' := by
  refine fo_msg_CheckMsg (by simp) ?_
  (conv => whnf)
  repeat' ((conv => whnf); first
    | (refine (check_ok _ _ _ _ _).mono ?_; rintro v M' ⟨rfl, rfl⟩)
    | refine brn (fun h => ?_) (fun h => ?_))
  all_goals (conv => whnf)
  all_goals (refine ⟨?_, rfl⟩; simp_all [msgErr])
  all_goals omega
set_option maxRecDepth 10000 in
theorem sameMsgR_ok (a b c d a' b' c' d' : Int) (p p' : Option Addr) (n k n' k' : Nat) (M : Mem) (l l' : List UInt8) (h1 : SrcOk M 1 p n (l.map byteV)) (h2 : SrcOk M 1 p' n' (l'.map byteV)) :
    CallsM Tryz.prog F.ref13_Same [.agg #[.int .i64 a, .int .i64 b, .int .i64 c, .int .i64 d, .slice p n k], .agg #[.int .i64 a', .int .i64 b', .int .i64 c', .int .i64 d', .slice p' n' k']] M fun v M' =>
      v = .bool (decide ((a = a' ∧ b = b' ∧ c = c' ∧ d = d') ∧ l = l')) ∧ M = M' := by
  refine fo_ref13_Same (by simp) ?_
  (conv => whnf)
  repeat' ((conv => whnf); first
    | refine strv h1 ?_
    | refine strv h2 ?_
    | refine brn (fun h => ?_) (fun h => ?_))
  all_goals (conv => whnf)
  all_goals (refine ⟨?_, rfl⟩; simp_all)
end Go.Proofs.YtpdkkbpkplhdpaaGreat
