/- Findings; found. -/
import Derived.Test.YtjkejbenppeagaaGreatDoorWatO
namespace Go.Proofs.YtjkejbenppeagaaGreatDoor
open Go Go.Vm
attribute [local irreducible] Brn Ob Grow CallsM inR LoopVC LoopVC0 Mem.row Mem.cells Mem.setCells Mem.upd Go.Vm.Own AppVC SrcVC StrVC NextVC New SrcOk subA NewSl Mem.textAt Mem.mapAt Mem.iterAt entryOf kfind Wr NewEls Elems
set_option maxRecDepth 10000
variable {M M0 : Mem}
theorem appSk {α : Type} {M0 Z : Mem} {S : Nat → Prop} {E : TypeId} {s bytes : Nat} {a : Option Addr} {n c : Nat} {R : List Value → α → Prop} {l : List α} (h : NewEls M0 E s a n c R l Z) (hZ : Z.le M) (hS1 : ∀ y, S y → Z y = none) (hS2 : ∀ y, S y → M y ≠ none)
    (news : List Value) (x : α) (hx : R news x) (hns : news.length = s) (hv : ∀ u ∈ news, u.oneCell' = true) {k : Option Addr → Nat → Mem → Prop} (h1 : (n + 1) * bytes ≤ 140737488355328) (h2 : n + 1 ≤ maxLen)
    (hk : ∀ a' c' M', NewEls M0 E s a' (n + 1) c' R (l ++ [x]) (M'.minus S) → Mem.keep (blk a) M M' → (∀ y, blk a y → M0 y = none ∧ ¬ S y) → k a' c' M') : AppVC E s bytes a n c 1 news M k := by
  unfold NewEls at h
  obtain ⟨css, s1, l1, m1, u1, r1⟩ := h
  have hblk : ∀ y, blk a y → M0 y = none ∧ ¬ S y := fun y ⟨q, hq, e⟩ => by
    obtain ⟨h3, cs, h4⟩ := s1.block hq
    rw [e] at h3 h4
    refine ⟨h3, fun hs => ?_⟩
    have := hS1 y hs
    unfold Mem.has at h4; rw [h4] at this; cases this
  have hm0 : M0.le (M.minus (blk a)) := Mem.le_minus (Mem.le_trans s1.le hZ) fun y hy => (hblk y hy).1
  refine appK (M.minus (blk a)) _ (s1.rebase hZ) h1 h2 hv fun a' c' M' hN hkp => ?_
  have hold : ∀ y o, Z y = some o → ¬ blk a y → (M'.minus S) y = some o := fun y o hy hny => by
    unfold Mem.minus
    rw [if_neg fun hs => by rw [hS1 y hs] at hy; cases hy]
    exact hkp y o hny (hZ y o hy)
  have hN2 : NewSl M0 E s a' (n + 1) c' (css.flatten ++ news) (M'.minus S) := by
    obtain ⟨w0, w1, w2, w3⟩ := newSl_iff.1 hN
    refine newSl_iff.2 ⟨fun y o hy => ?_, w1, w2, w3.imp id fun ⟨b1, cs, ha, hb1, hh, hr⟩ => ⟨b1, cs, ha, ?_, ?_, hr⟩⟩
    · exact hold y o (s1.le y o hy) fun hbl => by rw [(hblk y hbl).1] at hy; cases hy
    · cases e : M0 b1 with
      | none => rfl
      | some o => rw [hm0 b1 o e] at hb1; cases hb1
    · unfold Mem.has at hh ⊢
      unfold Mem.minus
      rw [if_neg fun hs => ?_]
      · exact hh
      · rcases Classical.em (blk a b1) with hbl | hbl
        · exact (hblk b1 hbl).2 hs
        · unfold Mem.minus at hb1
          rw [if_neg hbl] at hb1
          exact hS2 b1 hs hb1
  refine hk a' c' M' ?_ hkp hblk
  unfold NewEls
  refine ⟨css ++ [news], by rw [List.flatten_append]; simpa using hN2, by simp [l1], by simp [m1], fun cs hcs => ?_, fun i cs y hi hy => ?_⟩
  · rcases List.mem_append.1 hcs with hcs | hcs
    · exact u1 cs hcs
    · simp at hcs; subst hcs; exact hns
  · by_cases hlt : i < css.length
    · rw [List.getElem?_append_left hlt] at hi
      rw [List.getElem?_append_left (by omega)] at hy
      exact r1 i cs y hi hy
    · rw [List.getElem?_append_right (by omega)] at hi
      rw [List.getElem?_append_right (by omega)] at hy
      have hi0 := (List.getElem?_eq_some_iff.1 hi).1
      simp at hi0
      rw [show i - css.length = 0 by omega] at hi
      rw [show i - l.length = 0 by omega] at hy
      simp at hi hy
      subst hi; subst hy
      exact hx
structure Fd where
  kind : Int
  at' : Int
  id : Id4
@[reducible] def fdC (x : Fd) : List Value := [.int .i64 x.kind, .int .i64 x.at', .int .i64 x.id.o, .int .i64 x.id.d, .int .i64 x.id.e, .int .i64 x.id.c]
@[reducible] def FdR (cs : List Value) (x : Fd) : Prop := cs = fdC x
def addF (b : Bool) (x : Fd) (l : List Fd) : List Fd := if b then l ++ [x] else l
/-- behind 'found': the box of the findings -/
def JuAt (M0 M : Mem) (bo : Nat) (out : List Fd) : Prop := ∃ a c, M.has bo T.s_api_Finding [.slice a out.length c] ∧ NewEls M0 T.api_Finding 6 a out.length c FdR out (M.minus fun y => y = bo) ∧ M0 bo = none
theorem JuAt.to {bo : Nat} {out : List Fd} (h : JuAt M0 M bo out) {M' : Mem} (hle : M.le M') : JuAt M0 M' bo out := by
  obtain ⟨a, c, h1, h2, h3⟩ := h
  refine ⟨a, c, h1.le hle, h2.up fun y o hy => ?_, h3⟩
  unfold Mem.minus at hy ⊢
  split at hy
  · cases hy
  · rename_i hno; rw [if_neg hno]; exact hle _ _ hy
theorem JuAt.le {bo : Nat} {out : List Fd} (h : JuAt M0 M bo out) : M0.le M := by
  obtain ⟨a, c, h1, h2, h3⟩ := h
  exact Mem.le_trans h2.le (Mem.minus_le _ _)
theorem found_ok {bo ba bt : Nat} {out : List Fd} (h : JuAt M0 M bo out) (hout : out.length ≤ 1000000) {at' : Int} (hba : M.has ba T.int [.int .i64 at']) {t : TdR} {ta : Option Addr} {tn tc : Nat} (hbt : M.has bt T.api_Told (tdC t ta tn tc)) (kind : Int) (b : Bool) :
    CallsM Tryz.prog F.watch_Judge_1 [.int .i64 kind, .bool b, ptr bo, ptr ba, ptr bt] M fun v M' => v = .tuple #[] ∧ JuAt M0 M' bo (addF b ⟨kind, at', t.id⟩ out) ∧ M'.has ba T.int [.int .i64 at'] ∧ M'.has bt T.api_Told (tdC t ta tn tc) := by
  refine fo_watch_Judge_1 (by simp) ?_
  cases b
  · (conv => whnf); refine brn_f rfl ?_
    (conv => whnf)
    exact ⟨rfl, h, hba, hbt⟩
  obtain ⟨a, c, h1, h2, h3⟩ := h
  have hid := hbt.row (o := 2) (n := 4) (by show (6 : Nat) ≤ 9; decide)
  (conv => whnf); refine brn_t rfl ?_
  (conv => whnf); refine on (h1.c1 (o := 0) rfl) ?_
  (conv => whnf); refine on (hba.c1 (o := 0) rfl) ?_
  (conv => whnf); refine on hid ?_
  have hcap : ∀ y, (y = bo) → (M.minus fun y => y = bo) y = none := fun y hy => Mem.minus_in hy
  have hful : ∀ y, (y = bo) → M y ≠ none := fun y hy hn => by subst hy; unfold Mem.has at h1; rw [h1] at hn; cases hn
  (conv => whnf)
  refine appSk h2 (Mem.minus_le _ _) hcap hful (fdC ⟨kind, at', t.id⟩) ⟨kind, at', t.id⟩ rfl rfl (by simp [Value.oneCell']) (by omega) (by simp [maxLen]; omega) fun a3 c3 M3 hN3 hk3 hab => ?_
  have hnb : ∀ {y : Nat} {E : TypeId} {l : List Value}, M.has y E l → E ≠ T.api_Finding → ¬ blk a y := fun {y E l} hy hE ⟨q, hq, e⟩ => by
    obtain ⟨-, cs, hh⟩ := NewEls.block h2 hq
    rw [e] at hh
    exact hE ((hy.inj (hh.le (Mem.minus_le _ _))).1)
  have g1 : M3.has bo T.s_api_Finding [.slice a out.length c] := hk3 _ _ (hnb h1 (by decide)) h1
  have g2 : M3.has ba T.int [.int .i64 at'] := hk3 _ _ (hnb hba (by decide)) hba
  have g3 : M3.has bt T.api_Told (tdC t ta tn tc) := hk3 _ _ (hnb hbt (by decide)) hbt
  have n2 : ba ≠ bo := fun e => by subst e; exact absurd (h1.inj hba).1 (by decide)
  have n3 : bt ≠ bo := fun e => by subst e; exact absurd (h1.inj hbt).1 (by decide)
  (conv => whnf); refine on g1.cells ?_
  (conv => whnf); refine ob (by simp) ?_
  obtain ⟨M4, hM4⟩ : ∃ M4, M4 = M3.setCells bo T.s_api_Finding [.slice a3 (out.length + 1) c3] := ⟨_, rfl⟩
  have k1 : M4.has bo T.s_api_Finding [.slice a3 (out.length + 1) c3] := hM4 ▸ Mem.has_setCells
  have k2 : M4.has ba T.int [.int .i64 at'] := by rw [hM4]; unfold Mem.setCells; exact g2.upd n2 _
  have k3 : M4.has bt T.api_Told (tdC t ta tn tc) := by rw [hM4]; unfold Mem.setCells; exact g3.upd n3 _
  have k4 : (M3.minus fun y => y = bo).le (M4.minus fun y => y = bo) := fun y o hy => by
    rw [hM4]
    unfold Mem.minus at hy ⊢
    split at hy
    · cases hy
    · rename_i hno
      rw [if_neg hno]
      unfold Mem.setCells
      rw [Mem.upd_ne _ _ hno]; exact hy
  (conv => whnf)
  erw [← hM4]
  refine ⟨rfl, ⟨a3, c3, ?_, ?_, h3⟩, k2, k3⟩
  · show M4.has bo T.s_api_Finding [.slice a3 (out ++ [_]).length c3]
    rw [List.length_append]; exact k1
  · show NewEls M0 T.api_Finding 6 a3 (out ++ [_]).length c3 FdR (out ++ [_]) _
    rw [List.length_append]; exact hN3.up k4
/-- what is found of one entry -/
def oneP (steps : List StR) (pre : List TdR) (at' : Int) (t : TdR) (out : List Fd) : List Fd :=
  addF (!t.out && decide (t.err = 0) && againB pre t.id) ⟨4, at', t.id⟩
    (if t.out = true then addF (!(stepsB steps t).any (gvP t)) ⟨3, at', t.id⟩ (addF (!decide (t.node = t.d)) ⟨2, at', t.id⟩ (addF (pre.any (twP t.id)) ⟨1, at', t.id⟩ out)) else out)
def judP (steps : List StR) (l : List TdR) : Nat → List Fd
  | 0 => []
  | i + 1 => match l[i]? with | some t => oneP steps (l.take i) i t (judP steps l i) | none => judP steps l i
theorem addF_len (b : Bool) (x : Fd) (l : List Fd) : (addF b x l).length ≤ l.length + 1 := by unfold addF; split <;> simp
theorem oneP_len (steps : List StR) (pre : List TdR) (at' : Int) (t : TdR) (out : List Fd) : (oneP steps pre at' t out).length ≤ out.length + 4 := by
  unfold oneP
  refine Nat.le_trans (addF_len _ _ _) ?_
  split
  · have h1 := addF_len (!(stepsB steps t).any (gvP t)) ⟨3, at', t.id⟩ (addF (!decide (t.node = t.d)) ⟨2, at', t.id⟩ (addF (pre.any (twP t.id)) ⟨1, at', t.id⟩ out))
    have h2 := addF_len (!decide (t.node = t.d)) ⟨2, at', t.id⟩ (addF (pre.any (twP t.id)) ⟨1, at', t.id⟩ out)
    have h3 := addF_len (pre.any (twP t.id)) ⟨1, at', t.id⟩ out
    omega
  · omega
theorem judP_len (steps : List StR) (l : List TdR) : ∀ i, (judP steps l i).length ≤ 4 * i
  | 0 => Nat.le_refl _
  | i + 1 => by
    have ih := judP_len steps l i
    rw [judP]
    split
    · have := oneP_len steps (l.take i) i ‹_› (judP steps l i); omega
    · omega
end Go.Proofs.YtjkejbenppeagaaGreatDoor
