/- The set of what was seen: an id is added. -/
import Derived.Test.YtlocjjponfbhmaaGreatJoin15
import Derived.Test.YtlocjjponfbhmaaGreatJoin12
namespace Go.Proofs.YtlocjjponfbhmaaGreat
open Go Go.Vm
attribute [local irreducible] Brn Ob Grow CallsM inR LoopVC Mem.row Mem.cells Mem.setCells Mem.upd Own AppVC SrcVC StrVC NextVC New SrcOk subA NewSl Mem.textAt Mem.mapAt Mem.iterAt entryOf kfind Wr NewEls Elems
set_option maxRecDepth 10000
variable {M : Mem} {p b : Nat} {gaps : Int} {es : List ((Int × Int) × Ent)}
/-- a number at its place -/
def insC (c : Int) : List Int → List Int
  | [] => [c]
  | y :: r => if y < c then y :: insC c r else c :: y :: r
theorem insC_eq (c : Int) : ∀ (l : List Int) (i : Nat), i ≤ l.length → (∀ k y, k < i → l[k]? = some y → y < c) → (∀ k y, i ≤ k → l[k]? = some y → c ≤ y) → l.take i ++ c :: l.drop i = insC c l
  | [], i, hi, _, _ => by
    have : i = 0 := by simpa using hi
    subst this; rfl
  | y :: r, 0, _, _, h2 => by
    have := h2 0 y (Nat.le_refl _) rfl
    simp only [List.take_zero, List.drop_zero, List.nil_append, insC]
    rw [if_neg (by omega)]
  | y :: r, i + 1, hi, h1, h2 => by
    have := h1 0 y (by omega) rfl
    simp only [List.take_succ_cons, List.drop_succ_cons, List.cons_append, insC]
    rw [if_pos this, insC_eq c r i (by simpa using hi) (fun k y hk hy => h1 (k + 1) y (by omega) (by simpa using hy)) (fun k y hk hy => h2 (k + 1) y (by omega) (by simpa using hy))]
theorem insC_len (c : Int) : ∀ l : List Int, (insC c l).length = l.length + 1
  | [] => rfl
  | y :: r => by
    simp only [insC]
    split
    · simp [insC_len c r]
    · simp
/-- what follows on -/
def normC (up : Int) : List Int → Int × List Int
  | [] => (up, [])
  | y :: r => if y = up + 1 then normC (up + 1) r else (up, y :: r)
theorem RowI.pop {M : Mem} {a : Option Addr} {c : Nat} {y : Int} {r : List Int} (h : RowI M a c (y :: r)) : RowI M (subA a 1 (r.length + 1) 1) r.length r ∧ ∀ q, subA a 1 (r.length + 1) 1 = some q → ∃ q', a = some q' ∧ q'.block = q.block := by
  obtain ⟨⟨h1, h2⟩, ⟨rfl, rfl⟩ | ⟨b, o, cs, rfl, hh, ho, ht⟩⟩ := h
  · simp at h1
  · simp only [List.length_cons] at h1 ht
    unfold subA
    split
    · have hr : r = [] := List.eq_nil_of_length_eq_zero (by omega)
      subst hr
      exact ⟨⟨⟨Nat.le_refl _, Nat.zero_le _⟩, .inr ⟨b, o, cs, rfl, hh, by simp at h1 ⊢; omega, by simp⟩⟩, fun q hq => ⟨_, rfl, by cases hq; rfl⟩⟩
    · refine ⟨⟨⟨Nat.le_refl _, by omega⟩, .inr ⟨b, o + 1, cs, by simp [addr_add], hh, by omega, ?_⟩⟩, fun q hq => ⟨_, rfl, by simp [addr_add] at hq; rw [← hq]⟩⟩
      have h5 : ((cs.drop o).take (r.length + 1)).drop 1 = r.map intV := by rw [ht]; rfl
      rw [List.drop_take, List.drop_drop] at h5
      simpa using h5
theorem SetAt.remap {M' : Mem} (h : SetAt M p b gaps es) (hk : Mem.keep (fun y => y = b) M M') (hm : MapAt keyV entV M' b es) : SetAt M' p b gaps es :=
  ⟨hk _ _ (h.map.nb h.self) h.self, hm, fun q hq => (h.ents q hq).mono fun y o hy ho => hk y o (fun e => by subst e; exact (h.ents q hq).nomap h.map hy) ho, h.apart⟩
/-- the blocks of a set -/
def setB (p b : Nat) (es : List ((Int × Int) × Ent)) : Nat → Prop := fun y => y = p ∨ y = b ∨ ∃ q ∈ es, q.2.own y
def addE (es : List ((Int × Int) × Ent)) (o e c : Int) : Int × List Int := normC (upOf es (o, e)) (insC c (moreOf es (o, e)))
theorem Add_ok (h : SetAt M p b gaps es) (hg : gapsE es ≤ 4194000) (hgd : GoodE es) (hso : ∀ q ∈ es, q.2.more.Pairwise (· < ·)) (o d e c : Int) : CallsM Tryz.prog F.seen_Set_Add [ptr p, .agg #[.int .i64 o, .int .i64 d, .int .i64 e, .int .i64 c]] M fun v M' =>
    v = .int .i64 (mayE gaps es o d e c) ∧ ((mayE gaps es o d e c ≠ 0 ∧ M.le M') ∨
      (mayE gaps es o d e c = 0 ∧ Mem.keep (setB p b es) M M' ∧ ∃ x, SetAt M' p b gaps (aput es (o, e) x) ∧ (x.up, x.more) = addE es o e c ∧ ∀ y, x.own y → setB p b es y ∨ M y = none)) := by
  refine fo_seen_Set_Add (by simp) ?_
  (conv => whnf); refine (May_ok h (by omega) hgd o d e c).mono ?_
  rintro v M1 ⟨rfl, hle1⟩
  (conv => whnf); refine brn (fun g => ?_) (fun g => ?_)
  · have hne : ¬ mayE gaps es o d e c = 0 := by simpa using g
    (conv => whnf)
    exact ⟨rfl, .inl ⟨hne, hle1⟩⟩
  have hz : mayE gaps es o d e c = 0 := by simpa using g
  have hok : idErr o d e c = 0 := by
    apply Classical.byContradiction
    intro hn
    simp [mayE, hn] at hz
  have hcr : 1 ≤ c ∧ c ≤ 65535 := by unfold idErr at hok; split at hok <;> (try cases hok); omega
  have h1 := h.le hle1
  have key : CallsM Tryz.prog F.seen_Set_of [ptr p, .agg #[.int .i64 o, .int .i64 d, .int .i64 e, .int .i64 c]] M1 fun v M' => ∃ x0, v = ptr x0.r ∧ M1.le M' ∧ SetAt M' p b gaps es ∧ x0.up = upOf es (o, e) ∧ x0.more = moreOf es (o, e) ∧ (x0.more.Pairwise (· < ·) ∧ x0.more.length ≤ 4194000) ∧ (∀ y, x0.own y → setB p b es y ∨ M y = none) ∧
      ∀ ob, MapAt keyV entV (M'.upd b ob) b (aput es (o, e) x0) → SetAt (M'.upd b ob) p b gaps (aput es (o, e) x0) := (of_ok h1 o d e c).mono fun v M' hv => by
    rcases hv with ⟨x, hx, rfl, rfl⟩ | ⟨hn, r, rfl, hr, rfl⟩
    · have hpa : aput es (o, e) x = es := by simp only [aput, hx]; exact aset_self hx
      refine ⟨x, rfl, Mem.le_refl _, h1, by simp [upOf, hx], by simp [moreOf, hx], ⟨hso _ (aget_mem hx), Nat.le_trans (gapsE_le (aget_mem hx)) hg⟩, fun y hy => .inl (.inr (.inr ⟨_, aget_mem hx, hy⟩)), fun ob hm => ?_⟩
      rw [hpa] at hm ⊢
      exact h1.remap (Mem.keep_upd _ _ rfl) hm
    · have hle := Mem.le_setCells (E := T.seen_row) (l := [.int .i64 0, .slice none 0 0]) hr
      have hrM : M r = none := by
        cases hM : M r with
        | none => rfl
        | some z => rw [hle1 _ _ hM] at hr; cases hr
      refine ⟨⟨r, none, 0, 0, []⟩, rfl, hle, h1.le hle, by simp [upOf, hn], by simp [moreOf, hn], by simp, fun y hy => ?_, fun ob hm => ?_⟩
      · rcases hy with rfl | ⟨q, hq, _⟩
        · exact .inr hrM
        · cases hq
      · have hrb : r ≠ b := fun e => by subst e; obtain ⟨l1, c1, hh, _⟩ := h1.map; rw [hh] at hr; cases hr
        have hk : Mem.keep (fun y => y = b) M1 ((M1.setCells r T.seen_row [.int .i64 0, .slice none 0 0]).upd b ob) := Mem.keep_trans (Mem.keep_of_le hle) (Mem.keep_upd _ _ rfl)
        refine h1.more hn hk hm ⟨Mem.has_setCells.upd hrb ob, ⟨by simp, by simp [maxLen]⟩, .inl ⟨rfl, rfl⟩⟩ fun y hy => ?_
        rcases hy with rfl | ⟨q, hq, _⟩
        · exact hr
        · cases hq
  (conv => whnf); refine key.mono ?_
  rintro v M2 ⟨x0, rfl, hle2, hS2, hup0, hmore0, ⟨hso0, hlen0⟩, hown0, hput⟩
  repeat' ((conv => whnf); first | refine ⟨?_, True.intro⟩ | refine brn_t rfl ?_ | refine brn_f rfl ?_ | refine ob rfl ?_ | refine ob (by decide) ?_ | refine grow_same (Mem.le_refl _) ?_ | refine ob (Mem.le_refl _) ?_ | refine ⟨_, Mem.le_refl _, ?_⟩ | fail)
  refine on (hS2.self.c1 rfl) ?_
  (conv => whnf)
  refine ⟨?_, True.intro⟩
  (conv => whnf)
  refine hS2.map.put keyK (o, e) x0 fun q f hm => ?_
  have hS3 := hput _ (hm M2)
  obtain ⟨M3, hM3⟩ : ∃ M3, M3 = M2.upd b (mput q f (keyV (o, e)) (entV x0)) := ⟨_, rfl⟩
  have hk3 : Mem.keep (fun y => y = b) M2 M3 := hM3 ▸ Mem.keep_upd _ _ rfl
  rw [← hM3] at hS3
  (conv => whnf)
  erw [← hM3]
  have hx0 : aget (aput es (o, e) x0) (o, e) = some x0 := by rw [aget_aput, if_pos rfl]
  have hE3 := hS3.ents _ (aget_mem hx0)
  repeat' ((conv => whnf); first | refine ⟨?_, True.intro⟩ | refine brn_t rfl ?_ | refine brn_f rfl ?_ | refine ob rfl ?_ | refine ob (by decide) ?_ | refine grow_same (Mem.le_refl _) ?_ | refine ob (Mem.le_refl _) ?_ | refine ⟨_, Mem.le_refl _, ?_⟩ | fail)
  refine on (hE3.self.c1 rfl) ?_
  repeat' ((conv => whnf); first | refine ob rfl ?_ | refine grow_same (Mem.le_refl _) ?_ | refine ob (Mem.le_refl _) ?_ | refine ⟨?_, True.intro⟩ | fail)
  refine (bsearch_ok hE3.more.src (by dsimp only; omega) hso0 c).mono ?_
  rintro v _ ⟨i, ff, rfl, hi, hlo, hhi, rfl⟩
  dsimp only at hi hlo hhi
  have hinsC := insC_eq c x0.more i hi hlo hhi
  repeat' ((conv => whnf); first | refine ⟨?_, True.intro⟩ | refine brn_t rfl ?_ | refine brn_f rfl ?_ | refine ob rfl ?_ | refine ob (by decide) ?_ | refine grow_same (Mem.le_refl _) ?_ | refine ob (Mem.le_refl _) ?_ | refine ⟨_, Mem.le_refl _, ?_⟩ | fail)
  refine on (hE3.self.c1 rfl) ?_
  repeat' ((conv => whnf); first | refine ob rfl ?_ | refine grow_same (Mem.le_refl _) ?_ | refine ob (Mem.le_refl _) ?_ | refine ⟨?_, True.intro⟩ | fail)
  refine new (fun vb hvb => ?_)
  replace hvb : M3 vb = none := hvb
  have hle4 : M3.le (M3.setCells vb T.int [.int .i64 c]) := Mem.le_setCells hvb
  have hhv : (M3.setCells vb T.int [.int .i64 c]).has vb T.int [.int .i64 c] := Mem.has_setCells
  obtain ⟨M4, hM4⟩ : ∃ M4, M4 = M3.setCells vb T.int [.int .i64 c] := ⟨_, rfl⟩
  rw [← hM4] at hle4 hhv
  (conv => whnf)
  erw [← hM4]
  have hE4 := hE3.le hle4
  repeat' ((conv => whnf); first | refine ob rfl ?_ | refine grow_same (Mem.le_refl _) ?_ | refine ob (Mem.le_refl _) ?_ | refine ⟨?_, True.intro⟩ | fail)
  refine (insI_ok (vc := 1) Tryz.laysIns (by kernel_rfl) (M := M4) (a := x0.a) (c := x0.c) (l := x0.more) hE4.more (by omega) i hi hhv fun q hq e => by
    obtain ⟨cs, hh⟩ := hE3.more.block hq
    have e : q.block = vb := e
    rw [e] at hh; unfold Mem.has at hh; rw [hvb] at hh; cases hh).mono ?_
  rintro v M5 ⟨a', c', rfl, hrow5, hk5, hblk5⟩
  rw [hinsC] at hrow5
  replace hrow5 : RowI M5 a' c' (insC c x0.more) := hrow5
  have hnr : ¬ blk x0.a x0.r := fun ⟨q, hq, e⟩ => by
    obtain ⟨cs, hh⟩ := hE3.more.block hq
    rw [e] at hh
    exact absurd (hh.inj hE3.self).1 (by decide)
  have hself5 : M5.has x0.r T.seen_row [.int .i64 x0.up, .slice x0.a x0.more.length x0.c] := hk5 _ _ hnr hE4.self
  repeat' ((conv => whnf); first | refine ⟨?_, True.intro⟩ | refine brn_t rfl ?_ | refine brn_f rfl ?_ | refine ob rfl ?_ | refine ob (by decide) ?_ | refine grow_same (Mem.le_refl _) ?_ | refine ob (Mem.le_refl _) ?_ | refine ⟨_, Mem.le_refl _, ?_⟩ | fail)
  refine on hself5.cells ?_
  (conv => whnf); refine ob (Nat.le_refl 2) ?_
  have hcap : (insC c x0.more).length = x0.more.length + 1 := insC_len c x0.more
  have hnr5 : ¬ blk a' x0.r := fun ⟨q, hq, e⟩ => by
    rcases hblk5 q hq with h6 | h6
    · rw [e] at h6; exact hnr h6
    · have h7 := hE4.self
      unfold Mem.has at h7
      rw [e] at h6; rw [h6] at h7; cases h7
  obtain ⟨M6, hM6⟩ : ∃ M6, M6 = M5.setCells x0.r T.seen_row [.int .i64 x0.up, .slice a' (insC c x0.more).length c'] := ⟨_, rfl⟩
  have hE6 : EntAt M6 ⟨x0.r, a', c', x0.up, insC c x0.more⟩ := by
    refine ⟨hM6 ▸ Mem.has_setCells, hrow5.mono fun q o' hq ho => ?_⟩
    rw [hM6]; unfold Mem.setCells
    rw [Mem.upd_ne _ _ fun e => hnr5 ⟨q, hq, e⟩]; exact ho
  have hk6 : Mem.keep x0.own M3 M6 := Mem.keep_trans (Mem.keep_of_le hle4) (Mem.keep_trans (Mem.keep_mono hk5 fun y hy => .inr hy) (hM6 ▸ fun y o' hy ho => by
    unfold Mem.setCells
    rw [Mem.upd_ne _ _ fun e => hy (.inl e)]; exact ho))
  have hown6 : ∀ y, Ent.own ⟨x0.r, a', c', x0.up, insC c x0.more⟩ y → x0.own y ∨ M3 y = none := fun y hy => by
    rcases hy with e | ⟨q, hq, e⟩
    · exact .inl (.inl e)
    · rcases hblk5 q hq with h6 | h6
      · exact .inl (.inr (e ▸ h6))
      · right
        rw [e] at h6
        cases hM : M3 y with
        | none => rfl
        | some z => rw [hle4 _ _ hM] at h6; cases h6
  rw [hcap] at hM6
  (conv => whnf)
  erw [← hM6]
  have hup := upOf_range hgd (o, e)
  rw [← hup0] at hup
  have hadd : normC x0.up (insC c x0.more) = addE es o e c := by rw [addE, hup0, hmore0]
  refine loopF (σ := Mem × Ent) [] (fun _ => []) (fun _ => [.live T.api_Id [.v (.int .i64 o), .v (.int .i64 d), .v (.int .i64 e), .v (.int .i64 c)], .gone vb]) (fun y => y.1)
    (fun | ⟨Mc, x⟩ => Mem.keep x0.own M3 Mc ∧ EntAt Mc x ∧ x.r = x0.r ∧ (∀ y, x.own y → x0.own y ∨ M3 y = none) ∧ normC x.up x.more = addE es o e c ∧ 0 ≤ x.up ∧ x.up + x.more.length ≤ 5000000) (fun y => y.2.more.length) ⟨M6, ⟨x0.r, a', c', x0.up, insC c x0.more⟩⟩
    ⟨hk6, hE6, rfl, hown6, hadd, hup.1, by dsimp only; omega⟩ ⟨(by repeat' first | exact True.intro | refine ⟨rfl, ?_⟩), (by repeat' first | exact True.intro | refine ⟨rfl, ?_⟩), Mem.le_refl _, rfl⟩ ?_
  rintro ⟨Mc, x⟩ ⟨hkC, hEC, hrC, hownC, hnC, hu0, hu1⟩
  have hselfC := hEC.self
  rw [hrC] at hselfC
  repeat' ((conv => whnf); first | refine ⟨?_, True.intro⟩ | refine brn_t rfl ?_ | refine brn_f rfl ?_ | refine ob rfl ?_ | refine ob (by decide) ?_ | refine grow_same (Mem.le_refl _) ?_ | refine ob (Mem.le_refl _) ?_ | refine ⟨_, Mem.le_refl _, ?_⟩ | fail)
  refine on (hselfC.c1 rfl) ?_
  (conv => whnf); refine brn (fun g1 => ?_) (fun g1 => ?_)
  · obtain ⟨y, r, hxm⟩ : ∃ y r, x.more = y :: r := by
      cases hxm : x.more with
      | nil => rw [hxm] at g1; simp at g1
      | cons y r => exact ⟨y, r, rfl⟩
    have hxl : x.more.length = r.length + 1 := by rw [hxm]; rfl
    obtain ⟨_, bb, oo, hba, hrow0⟩ := hEC.more.src.at (i := 0) (by omega)
    have hy0 : x.more[0]'(by omega) = y := by simp [hxm]
    rw [hy0] at hrow0
    (conv => whnf); refine on (hselfC.c1 rfl) ?_
    (conv => whnf); refine ob ⟨Int.le_refl _, by omega⟩ ?_
    (conv => whnf); refine atp hba ?_
    (conv => whnf); refine on hrow0 ?_
    (conv => whnf); refine on (hselfC.c1 rfl) ?_
    (conv => whnf); refine ob (inR_i64 (by omega)) ?_
    (conv => whnf); refine brn (fun g2 => ?_) (fun g2 => ?_)
    · have hy : y = x.up + 1 := of_decide_eq_true g2
      (conv => whnf); refine on (hselfC.c1 rfl) ?_
      (conv => whnf); refine ob (inR_i64 (by omega)) ?_
      repeat' ((conv => whnf); first | refine ⟨?_, True.intro⟩ | refine brn_t rfl ?_ | refine brn_f rfl ?_ | refine ob rfl ?_ | refine ob (by decide) ?_ | refine grow_same (Mem.le_refl _) ?_ | refine ob (Mem.le_refl _) ?_ | refine ⟨_, Mem.le_refl _, ?_⟩ | fail)
      refine on hselfC.cells ?_
      (conv => whnf); refine ob (Nat.le_succ 1) ?_
      obtain ⟨M7, hM7⟩ : ∃ M7, M7 = Mc.setCells x0.r T.seen_row [.int .i64 (x.up + 1), .slice x.a x.more.length x.c] := ⟨_, rfl⟩
      have hself7 : M7.has x0.r T.seen_row [.int .i64 (x.up + 1), .slice x.a x.more.length x.c] := hM7 ▸ Mem.has_setCells
      (conv => whnf)
      erw [← hM7]
      repeat' ((conv => whnf); first | refine ⟨?_, True.intro⟩ | refine brn_t rfl ?_ | refine brn_f rfl ?_ | refine ob rfl ?_ | refine ob (by decide) ?_ | refine grow_same (Mem.le_refl _) ?_ | refine ob (Mem.le_refl _) ?_ | refine ⟨_, Mem.le_refl _, ?_⟩ | fail)
      refine on (hself7.c1 rfl) ?_
      (conv => whnf); refine on (hself7.c1 rfl) ?_
      (conv => whnf); refine on (hself7.c1 rfl) ?_
      (conv => whnf); refine ob ⟨by decide, by omega, by omega, by have := hEC.more.1.1; omega⟩ ?_
      repeat' ((conv => whnf); first | refine ob rfl ?_ | refine grow_same (Mem.le_refl _) ?_ | refine ob (Mem.le_refl _) ?_ | refine ⟨?_, True.intro⟩ | fail)
      refine on hself7.cells ?_
      (conv => whnf); refine ob (Nat.le_refl 2) ?_
      have e1 : ((x.more.length : Int)).toNat - (1 : Int).toNat = r.length := by omega
      have e2 : ((x.more.length : Int)).toNat = r.length + 1 := by omega
      have e3 : (1 : Int).toNat = 1 := rfl
      obtain ⟨hpop, hpb⟩ := RowI.pop (hxm ▸ hEC.more)
      obtain ⟨M8, hM8⟩ : ∃ M8, M8 = M7.setCells x0.r T.seen_row [.int .i64 (x.up + 1), .slice (subA x.a (1 : Int).toNat ((x.more.length : Int)).toNat 1) (((x.more.length : Int)).toNat - (1 : Int).toNat) (((x.more.length : Int)).toNat - (1 : Int).toNat)] := ⟨_, rfl⟩
      have hself8 : M8.has x0.r T.seen_row [.int .i64 (x.up + 1), .slice (subA x.a 1 (r.length + 1) 1) r.length r.length] := by
        have : M8.has x0.r T.seen_row _ := hM8 ▸ Mem.has_setCells
        rw [e1, e2, e3] at this; exact this
      have hk8 : Mem.keep (fun z => z = x0.r) Mc M8 := fun z oo' hz ho => by
        rw [hM8, hM7]; unfold Mem.setCells
        rw [Mem.upd_ne _ _ hz, Mem.upd_ne _ _ hz]; exact ho
      have hblkr : ∀ q, x.a = some q → q.block ≠ x0.r := fun q hq e => by
        obtain ⟨cs, hh⟩ := hEC.more.block hq
        rw [e] at hh
        exact absurd (hh.inj hselfC).1 (by decide)
      (conv => whnf)
      refine ⟨⟨M8, ⟨x0.r, subA x.a 1 (r.length + 1) 1, r.length, x.up + 1, r⟩⟩, ⟨Mem.keep_trans hkC (Mem.keep_mono hk8 fun z hz => .inl hz), ⟨hself8, hpop.mono fun q o' hq ho => ?_⟩, rfl, fun z hz => ?_, ?_, by dsimp only; omega, by dsimp only; omega⟩, by dsimp only; omega, ?_⟩
      · obtain ⟨q', hq', eb⟩ := hpb q hq
        exact hk8 _ _ (fun e => hblkr q' hq' (eb.trans e)) ho
      · rcases hz with e | ⟨q, hq, e⟩
        · exact .inl (.inl e)
        · obtain ⟨q', hq', eb⟩ := hpb q hq
          exact hownC z (.inr ⟨q', hq', eb.trans e⟩)
      · rw [← hnC, hxm]; simp only [normC, if_pos hy]
      · rw [hM8]; exact ⟨(by repeat' first | exact True.intro | refine ⟨rfl, ?_⟩), (by repeat' first | exact True.intro | refine ⟨rfl, ?_⟩), Mem.le_refl _, rfl⟩
    · have hfin : normC x.up x.more = (x.up, x.more) := by
        have : ¬ y = x.up + 1 := of_decide_eq_false g2
        rw [hxm]; simp only [normC, if_neg this]
      repeat' ((conv => whnf); first | refine ⟨?_, True.intro⟩ | refine brn_t rfl ?_ | refine brn_f rfl ?_ | refine ob rfl ?_ | refine ob (by decide) ?_ | refine grow_same (Mem.le_refl _) ?_ | refine ob (Mem.le_refl _) ?_ | refine ⟨_, Mem.le_refl _, ?_⟩ | fail)
      have hS := hS3.turn hx0 hkC hEC hrC hownC
      rw [aput_aput] at hS
      refine ⟨by rw [hz], .inr ⟨hz, fun y o' hy ho => ?_, x, hS, ?_, fun y hy => ?_⟩⟩
      · have hM2 : M2 y = some o' := hle2 _ _ (hle1 _ _ ho)
        have hM3 := hk3 y o' (fun e => hy (.inr (.inl e))) hM2
        refine hkC y o' (fun hxy => ?_) hM3
        rcases hown0 y hxy with h8 | h8
        · exact hy h8
        · rw [ho] at h8; cases h8
      · rw [hfin] at hnC; exact hnC
      · rcases hownC y hy with h8 | h8
        · exact hown0 y h8
        · right
          cases hM : M y with
          | none => rfl
          | some z =>
            have hM2 : M2 y = some z := hle2 _ _ (hle1 _ _ hM)
            by_cases e : y = b
            · subst e
              obtain ⟨l1, c1, hh, _⟩ := hS3.map
              rw [hh] at h8; cases h8
            · rw [hk3 y z e hM2] at h8; cases h8
  · have hfin : normC x.up x.more = (x.up, x.more) := by
      have : x.more = [] := List.eq_nil_of_length_eq_zero (by have := of_decide_eq_false g1; omega)
      rw [this]; rfl
    repeat' ((conv => whnf); first | refine ⟨?_, True.intro⟩ | refine brn_t rfl ?_ | refine brn_f rfl ?_ | refine ob rfl ?_ | refine ob (by decide) ?_ | refine grow_same (Mem.le_refl _) ?_ | refine ob (Mem.le_refl _) ?_ | refine ⟨_, Mem.le_refl _, ?_⟩ | fail)
    have hS := hS3.turn hx0 hkC hEC hrC hownC
    rw [aput_aput] at hS
    refine ⟨by rw [hz], .inr ⟨hz, fun y o' hy ho => ?_, x, hS, ?_, fun y hy => ?_⟩⟩
    · have hM2 : M2 y = some o' := hle2 _ _ (hle1 _ _ ho)
      have hM3 := hk3 y o' (fun e => hy (.inr (.inl e))) hM2
      refine hkC y o' (fun hxy => ?_) hM3
      rcases hown0 y hxy with h8 | h8
      · exact hy h8
      · rw [ho] at h8; cases h8
    · rw [hfin] at hnC; exact hnC
    · rcases hownC y hy with h8 | h8
      · exact hown0 y h8
      · right
        cases hM : M y with
        | none => rfl
        | some z =>
          have hM2 : M2 y = some z := hle2 _ _ (hle1 _ _ hM)
          by_cases e : y = b
          · subst e
            obtain ⟨l1, c1, hh, _⟩ := hS3.map
            rw [hh] at h8; cases h8
          · rw [hk3 y z e hM2] at h8; cases h8
end Go.Proofs.YtlocjjponfbhmaaGreat

/- Rows of structs: one cell read, one cell written, one struct more. -/
namespace Go.Vm
section
variable {α : Type} {enc : α → List Value} {s : Nat} (hk : ∀ x, (enc x).length = s)
include hk
theorem fm_at : ∀ (l : List α) (i j : Nat) (x : α), l[i]? = some x → j < s → (l.flatMap enc)[i * s + j]? = (enc x)[j]?
  | [], i, j, x, h, _ => by simp at h
  | y :: r, 0, j, x, h, hj => by
    simp at h; subst h
    rw [List.flatMap_cons, Nat.zero_mul, Nat.zero_add, List.getElem?_append_left (by rw [hk]; exact hj)]
  | y :: r, i + 1, j, x, h, hj => by
    have := fm_at r i j x (by simpa using h) hj
    rw [List.flatMap_cons, List.getElem?_append_right (by rw [hk, Nat.succ_mul]; omega), hk, ← this]
    congr 1
    rw [Nat.succ_mul]; omega
theorem fm_len (l : List α) : (l.flatMap enc).length = l.length * s := by
  induction l with
  | nil => simp
  | cons y r ih => simp [hk, ih, Nat.succ_mul, Nat.add_comm]
theorem fm_set : ∀ (l : List α) (i j : Nat) (x x' : α) (v : Value), l[i]? = some x → j < s → enc x' = (enc x).set j v → (l.flatMap enc).set (i * s + j) v = (l.set i x').flatMap enc
  | [], i, j, x, x', v, h, _, _ => by simp at h
  | y :: r, 0, j, x, x', v, h, hj, he => by
    simp at h; subst h
    rw [List.flatMap_cons, Nat.zero_mul, Nat.zero_add, List.set_append_left _ _ (by rw [hk]; exact hj), List.set_cons_zero, List.flatMap_cons, he]
  | y :: r, i + 1, j, x, x', v, h, hj, he => by
    have := fm_set r i j x x' v (by simpa using h) hj he
    rw [List.flatMap_cons, List.set_append_right _ _ (by rw [hk, Nat.succ_mul]; omega), hk, List.set_cons_succ, List.flatMap_cons, ← this]
    congr 2
    rw [Nat.succ_mul]; omega
theorem SrcOk.flen {M : Mem} {a : Option Addr} {n : Nat} {l : List α} (h : SrcOk M s a n (l.flatMap enc)) (hs : 0 < s) : l.length = n := by
  have := h.len
  rw [fm_len hk] at this
  exact Nat.eq_of_mul_eq_mul_right hs this
/-- one cell of one struct -/
theorem SrcOk.fcell {M : Mem} {a : Option Addr} {n : Nat} {l : List α} (h : SrcOk M s a n (l.flatMap enc)) {j p : Nat} {x : α} {v : Value} (hx : l[j]? = some x) (hv : (enc x)[p]? = some v) : ∃ b o, a = some ⟨b, o, Option.none⟩ ∧ M.row b (o + j * s + p) 1 = some [v] := by
  have hp : p < s := by rw [← hk x]; exact (List.getElem?_eq_some_iff.1 hv).1
  have hj : j < n := by have := h.flen hk (by omega); have := (List.getElem?_eq_some_iff.1 hx).1; omega
  obtain ⟨b, o, ha, hr⟩ := h.elem hj (by omega)
  refine ⟨b, o, ha, ?_⟩
  rw [hr p 1 (by omega)]
  have hat := fm_at hk l j p x hx hp
  rw [hv] at hat
  obtain ⟨hlt, e⟩ := List.getElem?_eq_some_iff.1 hat
  rw [List.drop_eq_getElem_cons hlt, e]; simp
/-- one struct -/
theorem SrcOk.fall {M : Mem} {a : Option Addr} {n : Nat} {l : List α} (h : SrcOk M s a n (l.flatMap enc)) (hs : 0 < s) {j : Nat} {x : α} (hx : l[j]? = some x) : ∃ b o, a = some ⟨b, o, Option.none⟩ ∧ M.row b (o + j * s) s = some (enc x) := by
  have hj : j < n := by have := h.flen hk hs; have := (List.getElem?_eq_some_iff.1 hx).1; omega
  obtain ⟨b, o, ha, hr⟩ := h.elem hj hs
  refine ⟨b, o, ha, ?_⟩
  have := hr 0 s (by omega)
  rw [Nat.add_zero] at this
  rw [this]
  congr 1
  apply List.ext_getElem?
  intro t
  by_cases ht : t < s
  · rw [List.getElem?_take_of_lt ht, List.getElem?_drop, Nat.add_zero, fm_at hk l j t x hx ht]
  · rw [List.getElem?_eq_none (by simp; omega), List.getElem?_eq_none (by rw [hk]; omega)]
/-- all cells of one struct -/
theorem SrcOk.fcells {M : Mem} {a : Option Addr} {n : Nat} {l : List α} (h : SrcOk M s a n (l.flatMap enc)) (hs : 0 < s) {j : Nat} {x : α} (hx : l[j]? = some x) : ∃ b o, a = some ⟨b, o, Option.none⟩ ∧ ∀ p v, (enc x)[p]? = some v → M.row b (o + j * s + p) 1 = some [v] := by
  obtain ⟨b, o, ha, _⟩ := h.fall hk hs hx
  refine ⟨b, o, ha, fun p v hv => ?_⟩
  obtain ⟨b', o', ha', hr⟩ := h.fcell hk hx hv
  rw [ha] at ha'
  cases ha'
  exact hr
/-- one cell of one struct is written -/
theorem Wr.fstore {M : Mem} {E : TypeId} {a : Option Addr} {n c : Nat} {l : List α} (h : Wr M E s a n c (l.flatMap enc)) {j p : Nat} {x : α} (hx : l[j]? = some x) (hp : p < s) :
    ∃ b cs, a = some ⟨b, 0, Option.none⟩ ∧ M.cells b = some (E, cs) ∧ 0 + j * s + p + 1 ≤ cs.length ∧ ∀ (x' : α) (v : Value), enc x' = (enc x).set p v → Wr (M.setCells b E (splice cs (0 + j * s + p) [v])) E s a n c ((l.set j x').flatMap enc) ∧ Mem.keep (blk a) M (M.setCells b E (splice cs (0 + j * s + p) [v])) := by
  have hl := h.len
  have hjl := (List.getElem?_eq_some_iff.1 hx).1
  rw [fm_len hk] at hl
  have hln : l.length = n := Nat.eq_of_mul_eq_mul_right (by omega) hl
  have hlt : j * s + p < n * s := by
    have : (j + 1) * s ≤ n * s := Nat.mul_le_mul_right _ (by omega)
    rw [Nat.succ_mul] at this; omega
  obtain ⟨h1, h2, ⟨ha, hc⟩ | ⟨b, cs, ha, hh, hcl, ht⟩⟩ := h
  · omega
  · have hle : n * s ≤ c * s := Nat.mul_le_mul_right _ h2
    refine ⟨b, cs, ha, hh.cells, by omega, fun x' v he => ⟨⟨?_, h2, .inr ⟨b, _, ha, Mem.has_setCells, ?_, ?_⟩⟩, ?_⟩⟩
    · rw [fm_len hk]; simp [hln]
    · rw [splice_one _ _ _ (by omega)]; simpa using hcl
    · rw [splice_one _ _ _ (by omega), List.take_set, ht, Nat.zero_add]
      exact fm_set hk l j p x x' v hx hp he
    · intro y o hy hM
      have hne : y ≠ b := fun e => hy ⟨_, ha, e.symm⟩
      unfold Mem.setCells
      rw [Mem.upd_ne _ _ hne]; exact hM
theorem NewSl.fstore {M M2 : Mem} {E : TypeId} {a : Option Addr} {n c : Nat} {l : List α} (h : NewSl M E s a n c (l.flatMap enc) M2) {j p : Nat} {x : α} (hx : l[j]? = some x) (hp : p < s) :
    ∃ b cs, a = some ⟨b, 0, Option.none⟩ ∧ M2.cells b = some (E, cs) ∧ 0 + j * s + p + 1 ≤ cs.length ∧ ∀ (x' : α) (v : Value), enc x' = (enc x).set p v → NewSl M E s a n c ((l.set j x').flatMap enc) (M2.setCells b E (splice cs (0 + j * s + p) [v])) ∧ Mem.keep (blk a) M2 (M2.setCells b E (splice cs (0 + j * s + p) [v])) := by
  obtain ⟨b, cs, ha, hc, hl, hst⟩ := h.wr.fstore hk hx hp
  exact ⟨b, cs, ha, hc, hl, fun x' v he => ⟨h.ofWr (hst x' v he).1 (hst x' v he).2 rfl, (hst x' v he).2⟩⟩
omit hk in
/-- one struct more -/
theorem appF {E : TypeId} {bytes : Nat} {a : Option Addr} {n c : Nat} {news : List Value} {M : Mem} {k : Option Addr → Nat → Mem → Prop} {l : List α} (M0 : Mem) (hown : NewSl M0 E s a n c (l.flatMap enc) M) (x : α) (hx : news = enc x)
    (h1 : (n + 1) * bytes ≤ 140737488355328) (h2 : n + 1 ≤ maxLen) (h3 : ∀ u ∈ news, u.oneCell' = true) (hkk : ∀ a' c' M', NewSl M0 E s a' (n + 1) c' ((l ++ [x]).flatMap enc) M' → Mem.keep (blk a) M M' → k a' c' M') : AppVC E s bytes a n c 1 news M k := by
  subst hx
  refine appK M0 _ hown h1 h2 h3 fun a' c' M' hn hkp => hkk a' c' M' ?_ hkp
  rw [List.flatMap_append]
  simpa using hn
end
end Go.Vm

/- Ids, plainly. -/
namespace Go.Proofs.YtlocjjponfbhmaaGreat
open Go Go.Vm
attribute [local irreducible] Brn Ob Grow CallsM inR LoopVC Mem.row Mem.cells Mem.setCells Mem.upd Own AppVC SrcVC StrVC NextVC New SrcOk subA NewSl Mem.textAt Mem.mapAt Mem.iterAt entryOf kfind Wr NewEls Elems
set_option maxRecDepth 10000
@[reducible] def nilP : Value := .pointer none
@[reducible] def idV (o d e c : Int) : Value := .agg #[.int .i64 o, .int .i64 d, .int .i64 e, .int .i64 c]
structure IdT where
  o : Int
  d : Int
  e : Int
  c : Int
deriving DecidableEq
@[reducible] def idCs (i : IdT) : List Value := [.int .i64 i.o, .int .i64 i.d, .int .i64 i.e, .int .i64 i.c]
end Go.Proofs.YtlocjjponfbhmaaGreat

