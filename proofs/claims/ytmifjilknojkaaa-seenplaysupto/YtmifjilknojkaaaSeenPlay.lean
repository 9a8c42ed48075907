/- SeenPlays, as a contract. -/
import Derived.Test.YtmifjilknojkaaaSeenY
import Derived.Test.YtmifjilknojkaaaSeenClone
import Derived.Test.YtmifjilknojkaaaSeenT
namespace Go.Proofs.Ytmifjilknojkaaa
open Go Go.Vm
attribute [local irreducible] Brn Ob Grow CallsM inR LoopVC Mem.row Mem.cells Mem.setCells Mem.upd Own AppVC SrcVC StrVC NextVC New SrcOk subA NewSl Mem.textAt Mem.mapAt Mem.iterAt entryOf kfind Wr NewEls Elems
set_option maxRecDepth 10000
variable {M : Mem}
/-- a clone's rows are as good -/
theorem InvE.perm {es es' : EsT} (h : InvE es) (hp : (es'.map mkOf).Perm (es.map mkOf)) : InvE es' ∧ (∀ o e c, inE es' o e c ↔ inE es o e c) ∧ gapsE es' = gapsE es := by
  have hmem : ∀ q ∈ es', ∃ q0 ∈ es, mkOf q0 = mkOf q := fun q hq => by
    obtain ⟨q0, h0, e⟩ := List.mem_map.1 (hp.mem_iff.1 (List.mem_map.2 ⟨q, hq, rfl⟩))
    exact ⟨q0, h0, e⟩
  have hmem' : ∀ q ∈ es, ∃ q0 ∈ es', mkOf q0 = mkOf q := fun q hq => by
    obtain ⟨q0, h0, e⟩ := List.mem_map.1 (hp.mem_iff.2 (List.mem_map.2 ⟨q, hq, rfl⟩))
    exact ⟨q0, h0, e⟩
  have hinv : InvE es' := by
    refine ⟨?_, fun q hq => ?_, fun q hq => ?_⟩
    · have h1 : ((es'.map mkOf).map fun m => (m.o, m.e)).Nodup := by
        rw [(hp.map _).nodup_iff, List.map_map]; exact h.nodup
      rw [List.map_map] at h1
      exact h1
    · obtain ⟨q0, h0, e⟩ := hmem q hq
      have e1 : q0.2.up = q.2.up := congrArg Mk.up e
      have e2 : q0.2.more = q.2.more := congrArg Mk.more e
      have := h.can q0 h0
      rw [e1, e2] at this; exact this
    · obtain ⟨q0, h0, e⟩ := hmem q hq
      have e1 : q0.2.up = q.2.up := congrArg Mk.up e
      have e2 : q0.2.more = q.2.more := congrArg Mk.more e
      have e3 : q0.1.1 = q.1.1 := congrArg Mk.o e
      have e4 : q0.1.2 = q.1.2 := congrArg Mk.e e
      have := h.range q0 h0
      rw [e1, e2, e3, e4] at this; exact this
  refine ⟨hinv, fun o e c => ?_, ?_⟩
  · rw [inE_mem hinv, inE_mem h]
    constructor
    · rintro ⟨q, hq, f1, f2, f3⟩
      obtain ⟨q0, h0, e⟩ := hmem q hq
      exact ⟨q0, h0, (congrArg Mk.o e).trans f1, (congrArg Mk.e e).trans f2, by
        have e1 : q0.2.up = q.2.up := congrArg Mk.up e
        have e2 : q0.2.more = q.2.more := congrArg Mk.more e
        rw [e1, e2]; exact f3⟩
    · rintro ⟨q, hq, f1, f2, f3⟩
      obtain ⟨q0, h0, e⟩ := hmem' q hq
      exact ⟨q0, h0, (congrArg Mk.o e).trans f1, (congrArg Mk.e e).trans f2, by
        have e1 : q0.2.up = q.2.up := congrArg Mk.up e
        have e2 : q0.2.more = q.2.more := congrArg Mk.more e
        rw [e1, e2]; exact f3⟩
  · have := (hp.map fun m => m.more.length).sum_nat
    rw [List.map_map, List.map_map] at this
    exact this
theorem addR2 {B : Mem} {S : Nat → Prop} {a : Option Addr} {n c : Nat} {L : List K} (hs : SrcOk B 3 a n (L.flatMap encK)) (hBM : B.le M) (hS : ∀ y, S y → B y = none ∧ M y ≠ none) (hn : n ≤ 4194000) (room o d e x : Int) :
    CallsM Try.prog F.ref14_Add [refV room a n c, idV o d e x] M fun v M' => ∃ a' n' c' L', v = .tuple #[refV room a' n' c', .int .i64 (mayK room L o d e x)] ∧ M.le M' ∧ SrcOk (M'.minus S) 3 a' n' (L'.flatMap encK) ∧ n' ≤ n + 1 ∧
      ((mayK room L o d e x ≠ 0 ∧ L' = L) ∨ (mayK room L o d e x = 0 ∧ L' = putK ⟨o, e, x⟩ L)) :=
  (addR_ok (hs.le hBM) hn room o d e x).mono fun v M' h => by
    rcases h with ⟨h1, rfl, h2⟩ | ⟨h1, a', c', rfl, h2⟩
    · exact ⟨a, n, c, L, rfl, h2, hs.le (Mem.le_minus (Mem.le_trans hBM h2) fun y hy => (hS y hy).1), by omega, .inl ⟨h1, rfl⟩⟩
    · exact ⟨a', n + 1, c', _, by rw [h1], h2.le, h2.src.minus fun q hq hb => (hS _ hb).2 (h2.block hq).1, Nat.le_refl _, .inr ⟨h1, rfl⟩⟩
theorem RelS.step2 {es es' : EsT} {L L' : List K} (h : RelS es L) {gaps : Int} {o d e c : Int} (hst : StepE gaps es es' o d e c) (hL : (mayK gaps L o d e c ≠ 0 ∧ L' = L) ∨ (mayK gaps L o d e c = 0 ∧ L' = putK ⟨o, e, c⟩ L)) : RelS es' L' := by
  rcases h.step hst with ⟨h1, h2⟩ | ⟨h1, h2⟩ <;> rcases hL with ⟨h3, rfl⟩ | ⟨h3, rfl⟩
  · exact h2
  · exact absurd h3 h1
  · exact absurd h1 h3
  · exact h2
theorem plays_law (gaps : Int) {a : Option Addr} {n c : Nat} {L : List IdT} (hs : SrcOk M 4 a n (L.flatMap idCs)) (hn : n ≤ 1048576) (hc : n ≤ c) :
    CallsM Try.prog F.law14_SeenPlays [.int .i64 gaps, .slice a n c] M fun v M' => v = .bool true ∧ M.le M' := by
  refine fo_law14_SeenPlays (by simp) ?_
  (conv => whnf); refine (newS gaps).mono ?_
  rintro v M1 (⟨hg, rfl, rfl⟩ | ⟨hg, p, b, rfl, h1⟩)
  · repeat' ((conv => whnf); first | refine ⟨?_, True.intro⟩ | refine brn_t rfl ?_ | refine brn_f rfl ?_ | refine ob rfl ?_ | refine ob (by decide) ?_ | refine grow_same (Mem.le_refl _) ?_ | refine ob (Mem.le_refl _) ?_ | refine ⟨_, Mem.le_refl _, ?_⟩ | fail)
    refine (newR_ok gaps).mono ?_
    rintro v _ (⟨-, rfl, rfl⟩ | ⟨hg2, -⟩)
    rotate_left
    · exact absurd hg hg2
    repeat' ((conv => whnf); first | refine ⟨?_, True.intro⟩ | refine brn_t rfl ?_ | refine brn_f rfl ?_ | refine ob rfl ?_ | refine ob (by decide) ?_ | refine grow_same (Mem.le_refl _) ?_ | refine ob (Mem.le_refl _) ?_ | refine ⟨_, Mem.le_refl _, ?_⟩ | fail)
    refine awake_ok.mono ?_
    rintro v M2 ⟨rfl, hle⟩
    repeat' ((conv => whnf); first | refine ⟨?_, True.intro⟩ | refine brn_t rfl ?_ | refine brn_f rfl ?_ | refine ob rfl ?_ | refine ob (by decide) ?_ | refine grow_same (Mem.le_refl _) ?_ | refine ob (Mem.le_refl _) ?_ | refine ⟨_, Mem.le_refl _, ?_⟩ | fail)
    exact ⟨rfl, hle⟩
  repeat' ((conv => whnf); first | refine ⟨?_, True.intro⟩ | refine brn_t rfl ?_ | refine brn_f rfl ?_ | refine ob rfl ?_ | refine ob (by decide) ?_ | refine grow_same (Mem.le_refl _) ?_ | refine ob (Mem.le_refl _) ?_ | refine ⟨_, Mem.le_refl _, ?_⟩ | fail)
  refine (newR_ok gaps).mono ?_
  rintro v _ (⟨hg2, -⟩ | ⟨-, rfl, rfl⟩)
  · exact absurd hg2 hg
  repeat' ((conv => whnf); first | refine ⟨?_, True.intro⟩ | refine brn_t rfl ?_ | refine brn_f rfl ?_ | refine ob rfl ?_ | refine ob (by decide) ?_ | refine grow_same (Mem.le_refl _) ?_ | refine ob (Mem.le_refl _) ?_ | refine ⟨_, Mem.le_refl _, ?_⟩ | fail)
  refine (cut_ok (hs.le h1.le) (by omega) hc).mono ?_
  rintro v _ ⟨⟨a1, n1, c1, rfl, hn1, hc1, hcut⟩, rfl⟩
  have hs1 := hcut M hs
  have hl1 := hs1.flen idCs_len (by decide)
  obtain ⟨hF1, hMB1⟩ := h1.base
  (conv => whnf)
  refine loopF (σ := Nat × Mem × Mem × EsT × (Option Addr × Nat × Nat) × List K) [9, 1] (fun y => [(9, .int .i64 y.1), (1, .slice a1 n1 c1)]) (fun y => [.live T.portageref14_Set [.v (.int .i64 gaps), .v (.slice y.2.2.2.2.1.1 y.2.2.2.2.1.2.1 y.2.2.2.2.1.2.2)]]) (fun y => y.2.1)
    (fun | ⟨i, Mc, B, es, (ak, nk, ck), Lk⟩ => i ≤ n1 ∧ M.le B ∧ FreshS B Mc p b gaps es ∧ SrcOk B 3 ak nk (Lk.flatMap encK) ∧ RelS es Lk ∧ nk ≤ i ∧ es.length ≤ i) (fun y => n1 - y.1) ⟨0, M1, M1.minus (setB p b []), [], (none, 0, 0), []⟩ ⟨by omega, hMB1, hF1, SrcOk.nil _ _, RelS.nil, by omega, by simp⟩ ⟨(by repeat' first | exact True.intro | refine ⟨rfl, ?_⟩), (by repeat' first | exact True.intro | refine ⟨rfl, ?_⟩), Mem.le_refl _, rfl⟩ ?_
  rintro ⟨i, Mc, B, es, ⟨ak, nk, ck⟩, Lk⟩ ⟨hi, hMB, hF, hK, hR, hnk, hne⟩
  (conv => whnf); refine brn (fun g => ?_) (fun g => ?_)
  · have hlt : i < n1 := by have := of_decide_eq_true g; dsimp only at this; omega
    have hx : (L.take 60)[i]? = some ((L.take 60)[i]'(by omega)) := List.getElem?_eq_getElem (by omega)
    generalize (L.take 60)[i]'(by omega) = x at *
    obtain ⟨b1, o1, hra, hrow⟩ := (hs1.le hMB).fall idCs_len (by decide) hx
    repeat' ((conv => whnf); first | refine ⟨?_, True.intro⟩ | refine brn_t rfl ?_ | refine brn_f rfl ?_ | refine ob rfl ?_ | refine ob (by decide) ?_ | refine grow_same (Mem.le_refl _) ?_ | refine ob (Mem.le_refl _) ?_ | refine ⟨_, Mem.le_refl _, ?_⟩ | fail)
    refine (Clone_ok hF.at' (by have := hF.few; omega)).mono ?_
    rintro v M2 ⟨p2, b2, es2, rfl, hle2, hC, hpm, hfr⟩
    have h2 := hF.to hle2
    repeat' ((conv => whnf); first | refine ⟨?_, True.intro⟩ | refine brn_t rfl ?_ | refine brn_f rfl ?_ | refine ob rfl ?_ | refine ob (by decide) ?_ | refine grow_same (Mem.le_refl _) ?_ | refine ob (Mem.le_refl _) ?_ | refine ⟨_, Mem.le_refl _, ?_⟩ | fail)
    refine (marksR_ok (hK.le h2.le) (by omega) gaps).mono ?_
    rintro v M3 ⟨aw, cw, lw, rfl, hW, hlw, hlwn, hfew⟩
    have h3 := h2.to hW.row.le
    repeat' ((conv => whnf); first | refine ⟨?_, True.intro⟩ | refine brn_t rfl ?_ | refine brn_f rfl ?_ | refine ob rfl ?_ | refine ob (by decide) ?_ | refine grow_same (Mem.le_refl _) ?_ | refine ob (Mem.le_refl _) ?_ | refine ⟨_, Mem.le_refl _, ?_⟩ | fail)
    refine ob (by first | omega | (dsimp only; omega)) ?_
    (conv => whnf); refine atp hra ?_
    (conv => whnf); refine on (Mem.row_le h3.le hrow) ?_
    repeat' ((conv => whnf); first | refine ⟨?_, True.intro⟩ | refine brn_t rfl ?_ | refine brn_f rfl ?_ | refine ob rfl ?_ | refine ob (by decide) ?_ | refine grow_same (Mem.le_refl _) ?_ | refine ob (Mem.le_refl _) ?_ | refine ⟨_, Mem.le_refl _, ?_⟩ | fail)
    refine (mayR_ok (hK.le h3.le) (by omega) gaps x.o x.d x.e x.c).mono ?_
    rintro v M4 ⟨rfl, hle4⟩
    have h4 := h3.to hle4
    repeat' ((conv => whnf); first | refine ⟨?_, True.intro⟩ | refine brn_t rfl ?_ | refine brn_f rfl ?_ | refine ob rfl ?_ | refine ob (by decide) ?_ | refine grow_same (Mem.le_refl _) ?_ | refine ob (Mem.le_refl _) ?_ | refine ⟨_, Mem.le_refl _, ?_⟩ | fail)
    refine ob (by first | omega | (dsimp only; omega)) ?_
    (conv => whnf); refine atp hra ?_
    (conv => whnf); refine on (Mem.row_le h4.le hrow) ?_
    have hS5 : ∀ y, setB p b es y → B y = none ∧ M4 y ≠ none := fun y hy => ⟨hF.fresh y hy, h4.some hy⟩
    (conv => whnf)
    refine ⟨?_, ?_, True.intro⟩
    · (conv => whnf)
      refine (addR2 hK h4.le hS5 (by omega) gaps x.o x.d x.e x.c).mono ?_
      rintro v M5 ⟨a5, n5, c5, L5, rfl, hle5, hK5, hn5, hL5⟩
      have h5 := h4.to hle5
      obtain ⟨h5b, hB5⟩ := h5.base
      obtain ⟨B5, hB5e⟩ : ∃ B5, B5 = M5.minus (setB p b es) := ⟨_, rfl⟩
      have hle35 : M3.le M5 := Mem.le_trans hle4 hle5
      have hle25 : M2.le M5 := Mem.le_trans hW.row.le hle35
      have hC5 : SetAt (M5.minus (setB p b es)) p2 b2 gaps es2 := (hC.le hle25).minus fun y hy hb => hF.some hb (hfr y hy)
      have hW5 : MarksR (M5.minus (setB p b es)) aw lw.length lw := ⟨(hW.row.src.le hle35).minus fun q hq hb => h2.some hb (hW.row.block hq).1, fun m hm => ((hW.more m hm).src.le hle35).minus fun q hq hb => h2.some hb ((hW.more m hm).block hq).1⟩
      rw [← hB5e] at h5b hB5 hC5 hW5 hK5
      have hB5M : B5.le M5 := h5b.le
      have hrow5 := Mem.row_le hB5 hrow
      obtain ⟨hI2, hin2, hg2⟩ := hR.inv.perm hpm
      have hl2 := hpm.length_eq
      simp only [List.length_map] at hl2
      repeat' ((conv => whnf); first | refine ⟨?_, True.intro⟩ | fail)
      (conv => whnf); refine ⟨B5, hB5M, ?_⟩
      repeat' ((conv => whnf); first | refine ⟨?_, True.intro⟩ | refine brn_t rfl ?_ | refine brn_f rfl ?_ | refine ob rfl ?_ | refine ob (by decide) ?_ | refine grow_same (Mem.le_refl _) ?_ | refine ob (Mem.le_refl _) ?_ | refine ⟨_, Mem.le_refl _, ?_⟩ | fail)
      refine ob (by first | omega | (dsimp only; omega)) ?_
      (conv => whnf); refine atp hra ?_
      (conv => whnf); refine on hrow5 ?_
      repeat' ((conv => whnf); first | refine ⟨?_, True.intro⟩ | refine brn_t rfl ?_ | refine brn_f rfl ?_ | refine ob rfl ?_ | refine ob (by decide) ?_ | refine grow_same (Mem.le_refl _) ?_ | refine ob (Mem.le_refl _) ?_ | refine ⟨_, Mem.le_refl _, ?_⟩ | fail)
      refine (mayS h5b x.o x.d x.e x.c).mono ?_
      rintro v M6 ⟨rfl, h6⟩
      rw [← hR.may gaps x.o x.d x.e x.c]
      repeat' ((conv => whnf); first | refine ob rfl ?_ | refine grow_same h6.le ?_ | refine ob h6.le ?_ | refine ⟨?_, True.intro⟩ | fail)
      refine brn_f (by simp) ?_
      repeat' ((conv => whnf); first | refine ⟨?_, True.intro⟩ | refine brn_t rfl ?_ | refine brn_f rfl ?_ | refine ob rfl ?_ | refine ob (by decide) ?_ | refine grow_same (Mem.le_refl _) ?_ | refine ob (Mem.le_refl _) ?_ | refine ⟨_, Mem.le_refl _, ?_⟩ | fail)
      refine ob (by first | omega | (dsimp only; omega)) ?_
      (conv => whnf); refine atp hra ?_
      (conv => whnf); refine on hrow5 ?_
      repeat' ((conv => whnf); first | refine ⟨?_, True.intro⟩ | refine brn_t rfl ?_ | refine brn_f rfl ?_ | refine ob rfl ?_ | refine ob (by decide) ?_ | refine grow_same (Mem.le_refl _) ?_ | refine ob (Mem.le_refl _) ?_ | refine ⟨_, Mem.le_refl _, ?_⟩ | fail)
      refine (addS h6 x.o x.d x.e x.c).mono ?_
      rintro v M7 ⟨es7, rfl, h7, hst⟩
      have hR7 := hR.step2 hst hL5
      have hlen7 := hst.len
      repeat' ((conv => whnf); first | refine ob rfl ?_ | refine grow_same h7.le ?_ | refine ob h7.le ?_ | refine ⟨?_, True.intro⟩ | fail)
      refine brn_f (by simp) ?_
      repeat' ((conv => whnf); first | refine ⟨?_, True.intro⟩ | refine brn_t rfl ?_ | refine brn_f rfl ?_ | refine ob rfl ?_ | refine ob (by decide) ?_ | refine grow_same (Mem.le_refl _) ?_ | refine ob (Mem.le_refl _) ?_ | refine ⟨_, Mem.le_refl _, ?_⟩ | fail)
      refine (Marks_ok h7.at' (by have := h7.few; omega) (by omega)).mono ?_
      rintro v M8 ⟨am, nm, cm, lm, rfl, hm, hp, hso⟩
      have e8 : lm.map MkC.mk' = marksK L5 := hR7.marks (marks_canon hR7.inv hp hso)
      have h8 := h7.to hm.row.le
      have hn8 := hm.len
      have hl8 := hp.length_eq
      simp only [List.length_map] at hl8
      repeat' ((conv => whnf); first | refine ob rfl ?_ | refine grow_same h8.le ?_ | refine ob h8.le ?_ | refine ⟨?_, True.intro⟩ | fail)
      refine (marksR_ok (hK5.le h8.le) (by omega) gaps).mono ?_
      rintro v M9 ⟨am9, cm9, lm9, rfl, hm9, e9, hlm9, hfew9⟩
      have h9 := h8.to hm9.row.le
      repeat' ((conv => whnf); first | refine ob rfl ?_ | refine grow_same h9.le ?_ | refine ob h9.le ?_ | refine ⟨?_, True.intro⟩ | fail)
      refine (same_ok (hm.r.le hm9.row.le) ⟨hm9.row.src, fun m h => (hm9.more m h).src⟩ (h7.fewM hp) (by omega) (by omega)).mono ?_
      rintro v _ ⟨rfl, rfl⟩
      rw [decide_eq_true (e8.trans e9.symm)]
      repeat' ((conv => whnf); first | refine ob rfl ?_ | refine grow_same h9.le ?_ | refine ob h9.le ?_ | refine ⟨?_, True.intro⟩ | fail)
      repeat' ((conv => whnf); first | refine ⟨?_, True.intro⟩ | refine brn_t rfl ?_ | refine brn_f rfl ?_ | refine ob rfl ?_ | refine ob (by decide) ?_ | refine grow_same (Mem.le_refl _) ?_ | refine ob (Mem.le_refl _) ?_ | refine ⟨_, Mem.le_refl _, ?_⟩ | fail)
      refine (gapsS h9).mono ?_
      rintro v M10 ⟨rfl, h10⟩
      repeat' ((conv => whnf); first | refine ob rfl ?_ | refine grow_same h10.le ?_ | refine ob h10.le ?_ | refine ⟨?_, True.intro⟩ | fail)
      refine (gapsR_ok (hK5.le h10.le) (by omega) gaps).mono ?_
      rintro v M11 ⟨rfl, hle11⟩
      have h11 := h10.to hle11
      rw [hR7.gaps]
      repeat' ((conv => whnf); first | refine ob rfl ?_ | refine grow_same h11.le ?_ | refine ob h11.le ?_ | refine ⟨?_, True.intro⟩ | fail)
      refine brn_f (by simp) ?_
      repeat' ((conv => whnf); first | refine ob rfl ?_ | refine grow_same h11.le ?_ | refine ob h11.le ?_ | refine ⟨?_, True.intro⟩ | fail)
      refine (Marks_ok (hC5.le h11.le) (by have := hF.few; omega) (by omega)).mono ?_
      rintro v M12 ⟨a12, n12, c12, l12, rfl, hm12, hp12, hso12⟩
      have h12 := h11.to hm12.row.le
      have e12 : l12.map MkC.mk' = marksK Lk := hR.marks ((marks_canon hI2 hp12 hso12).of fun o e c => (hin2 o e c).symm)
      have hn12 := hm12.len
      have hl12 := hp12.length_eq
      simp only [List.length_map] at hl12
      repeat' ((conv => whnf); first | refine ob rfl ?_ | refine grow_same h12.le ?_ | refine ob h12.le ?_ | refine ⟨?_, True.intro⟩ | fail)
      refine (same_ok hm12.r (hW5.le h12.le) (fun m hm => by
        obtain ⟨q, hq, e⟩ := List.mem_map.1 (hp12.mem_iff.1 (List.mem_map.2 ⟨m, hm, rfl⟩))
        have h1 : m.more = q.2.more := (congrArg Mk.more e).symm
        have h2 := gapsE_le hq
        have h3 := hF.few
        rw [h1]; omega) (by omega) (by omega)).mono ?_
      rintro v _ ⟨rfl, rfl⟩
      rw [decide_eq_true (e12.trans hlw.symm)]
      repeat' ((conv => whnf); first | refine ob rfl ?_ | refine grow_same h12.le ?_ | refine ob h12.le ?_ | refine ⟨?_, True.intro⟩ | fail)
      repeat' ((conv => whnf); first | refine ⟨?_, True.intro⟩ | refine brn_t rfl ?_ | refine brn_f rfl ?_ | refine ob rfl ?_ | refine ob (by decide) ?_ | refine grow_same (Mem.le_refl _) ?_ | refine ob (Mem.le_refl _) ?_ | refine ⟨_, Mem.le_refl _, ?_⟩ | fail)
      refine ob (inR_i64 (by first | omega | (dsimp only; omega))) ?_
      (conv => whnf)
      exact ⟨⟨i + 1, M12, B5, es7, (a5, n5, c5), L5⟩, ⟨by omega, Mem.le_trans hMB hB5, h12, hK5, hR7, by omega, by omega⟩, by dsimp only; omega, ⟨(by repeat' first | exact True.intro | refine ⟨rfl, ?_⟩), (by repeat' first | exact True.intro | refine ⟨rfl, ?_⟩), Mem.le_refl _, rfl⟩⟩
    · repeat' ((conv => whnf); first | refine ⟨?_, True.intro⟩ | refine brn_t rfl ?_ | refine brn_f rfl ?_ | refine ob rfl ?_ | refine ob (by decide) ?_ | refine grow_same (Mem.le_refl _) ?_ | refine ob (Mem.le_refl _) ?_ | refine ⟨_, Mem.le_refl _, ?_⟩ | fail)
      refine (addR2 hK h4.le hS5 (by omega) gaps x.o x.d x.e x.c).mono ?_
      rintro v M5 ⟨a5, n5, c5, L5, rfl, hle5, hK5, hn5, hL5⟩
      have h5 := h4.to hle5
      obtain ⟨h5b, hB5⟩ := h5.base
      obtain ⟨B5, hB5e⟩ : ∃ B5, B5 = M5.minus (setB p b es) := ⟨_, rfl⟩
      have hle35 : M3.le M5 := Mem.le_trans hle4 hle5
      have hle25 : M2.le M5 := Mem.le_trans hW.row.le hle35
      have hC5 : SetAt (M5.minus (setB p b es)) p2 b2 gaps es2 := (hC.le hle25).minus fun y hy hb => hF.some hb (hfr y hy)
      have hW5 : MarksR (M5.minus (setB p b es)) aw lw.length lw := ⟨(hW.row.src.le hle35).minus fun q hq hb => h2.some hb (hW.row.block hq).1, fun m hm => ((hW.more m hm).src.le hle35).minus fun q hq hb => h2.some hb ((hW.more m hm).block hq).1⟩
      rw [← hB5e] at h5b hB5 hC5 hW5 hK5
      have hB5M : B5.le M5 := h5b.le
      have hrow5 := Mem.row_le hB5 hrow
      obtain ⟨hI2, hin2, hg2⟩ := hR.inv.perm hpm
      have hl2 := hpm.length_eq
      simp only [List.length_map] at hl2
      repeat' ((conv => whnf); first | refine ⟨?_, True.intro⟩ | fail)
      (conv => whnf); refine ⟨B5, hB5M, ?_⟩
      repeat' ((conv => whnf); first | refine ⟨?_, True.intro⟩ | refine brn_t rfl ?_ | refine brn_f rfl ?_ | refine ob rfl ?_ | refine ob (by decide) ?_ | refine grow_same (Mem.le_refl _) ?_ | refine ob (Mem.le_refl _) ?_ | refine ⟨_, Mem.le_refl _, ?_⟩ | fail)
      refine ob (by first | omega | (dsimp only; omega)) ?_
      (conv => whnf); refine atp hra ?_
      (conv => whnf); refine on hrow5 ?_
      repeat' ((conv => whnf); first | refine ⟨?_, True.intro⟩ | refine brn_t rfl ?_ | refine brn_f rfl ?_ | refine ob rfl ?_ | refine ob (by decide) ?_ | refine grow_same (Mem.le_refl _) ?_ | refine ob (Mem.le_refl _) ?_ | refine ⟨_, Mem.le_refl _, ?_⟩ | fail)
      refine (mayS h5b x.o x.d x.e x.c).mono ?_
      rintro v M6 ⟨rfl, h6⟩
      rw [← hR.may gaps x.o x.d x.e x.c]
      repeat' ((conv => whnf); first | refine ob rfl ?_ | refine grow_same h6.le ?_ | refine ob h6.le ?_ | refine ⟨?_, True.intro⟩ | fail)
      refine brn_f (by simp) ?_
      repeat' ((conv => whnf); first | refine ⟨?_, True.intro⟩ | refine brn_t rfl ?_ | refine brn_f rfl ?_ | refine ob rfl ?_ | refine ob (by decide) ?_ | refine grow_same (Mem.le_refl _) ?_ | refine ob (Mem.le_refl _) ?_ | refine ⟨_, Mem.le_refl _, ?_⟩ | fail)
      refine ob (by first | omega | (dsimp only; omega)) ?_
      (conv => whnf); refine atp hra ?_
      (conv => whnf); refine on hrow5 ?_
      repeat' ((conv => whnf); first | refine ⟨?_, True.intro⟩ | refine brn_t rfl ?_ | refine brn_f rfl ?_ | refine ob rfl ?_ | refine ob (by decide) ?_ | refine grow_same (Mem.le_refl _) ?_ | refine ob (Mem.le_refl _) ?_ | refine ⟨_, Mem.le_refl _, ?_⟩ | fail)
      refine (addS h6 x.o x.d x.e x.c).mono ?_
      rintro v M7 ⟨es7, rfl, h7, hst⟩
      have hR7 := hR.step2 hst hL5
      have hlen7 := hst.len
      repeat' ((conv => whnf); first | refine ob rfl ?_ | refine grow_same h7.le ?_ | refine ob h7.le ?_ | refine ⟨?_, True.intro⟩ | fail)
      refine brn_f (by simp) ?_
      repeat' ((conv => whnf); first | refine ⟨?_, True.intro⟩ | refine brn_t rfl ?_ | refine brn_f rfl ?_ | refine ob rfl ?_ | refine ob (by decide) ?_ | refine grow_same (Mem.le_refl _) ?_ | refine ob (Mem.le_refl _) ?_ | refine ⟨_, Mem.le_refl _, ?_⟩ | fail)
      refine (Marks_ok h7.at' (by have := h7.few; omega) (by omega)).mono ?_
      rintro v M8 ⟨am, nm, cm, lm, rfl, hm, hp, hso⟩
      have e8 : lm.map MkC.mk' = marksK L5 := hR7.marks (marks_canon hR7.inv hp hso)
      have h8 := h7.to hm.row.le
      have hn8 := hm.len
      have hl8 := hp.length_eq
      simp only [List.length_map] at hl8
      repeat' ((conv => whnf); first | refine ob rfl ?_ | refine grow_same h8.le ?_ | refine ob h8.le ?_ | refine ⟨?_, True.intro⟩ | fail)
      refine (marksR_ok (hK5.le h8.le) (by omega) gaps).mono ?_
      rintro v M9 ⟨am9, cm9, lm9, rfl, hm9, e9, hlm9, hfew9⟩
      have h9 := h8.to hm9.row.le
      repeat' ((conv => whnf); first | refine ob rfl ?_ | refine grow_same h9.le ?_ | refine ob h9.le ?_ | refine ⟨?_, True.intro⟩ | fail)
      refine (same_ok (hm.r.le hm9.row.le) ⟨hm9.row.src, fun m h => (hm9.more m h).src⟩ (h7.fewM hp) (by omega) (by omega)).mono ?_
      rintro v _ ⟨rfl, rfl⟩
      rw [decide_eq_true (e8.trans e9.symm)]
      repeat' ((conv => whnf); first | refine ob rfl ?_ | refine grow_same h9.le ?_ | refine ob h9.le ?_ | refine ⟨?_, True.intro⟩ | fail)
      repeat' ((conv => whnf); first | refine ⟨?_, True.intro⟩ | refine brn_t rfl ?_ | refine brn_f rfl ?_ | refine ob rfl ?_ | refine ob (by decide) ?_ | refine grow_same (Mem.le_refl _) ?_ | refine ob (Mem.le_refl _) ?_ | refine ⟨_, Mem.le_refl _, ?_⟩ | fail)
      refine (gapsS h9).mono ?_
      rintro v M10 ⟨rfl, h10⟩
      repeat' ((conv => whnf); first | refine ob rfl ?_ | refine grow_same h10.le ?_ | refine ob h10.le ?_ | refine ⟨?_, True.intro⟩ | fail)
      refine (gapsR_ok (hK5.le h10.le) (by omega) gaps).mono ?_
      rintro v M11 ⟨rfl, hle11⟩
      have h11 := h10.to hle11
      rw [hR7.gaps]
      repeat' ((conv => whnf); first | refine ob rfl ?_ | refine grow_same h11.le ?_ | refine ob h11.le ?_ | refine ⟨?_, True.intro⟩ | fail)
      refine brn_f (by simp) ?_
      repeat' ((conv => whnf); first | refine ob rfl ?_ | refine grow_same h11.le ?_ | refine ob h11.le ?_ | refine ⟨?_, True.intro⟩ | fail)
      refine (Marks_ok (hC5.le h11.le) (by have := hF.few; omega) (by omega)).mono ?_
      rintro v M12 ⟨a12, n12, c12, l12, rfl, hm12, hp12, hso12⟩
      have h12 := h11.to hm12.row.le
      have e12 : l12.map MkC.mk' = marksK Lk := hR.marks ((marks_canon hI2 hp12 hso12).of fun o e c => (hin2 o e c).symm)
      have hn12 := hm12.len
      have hl12 := hp12.length_eq
      simp only [List.length_map] at hl12
      repeat' ((conv => whnf); first | refine ob rfl ?_ | refine grow_same h12.le ?_ | refine ob h12.le ?_ | refine ⟨?_, True.intro⟩ | fail)
      refine (same_ok hm12.r (hW5.le h12.le) (fun m hm => by
        obtain ⟨q, hq, e⟩ := List.mem_map.1 (hp12.mem_iff.1 (List.mem_map.2 ⟨m, hm, rfl⟩))
        have h1 : m.more = q.2.more := (congrArg Mk.more e).symm
        have h2 := gapsE_le hq
        have h3 := hF.few
        rw [h1]; omega) (by omega) (by omega)).mono ?_
      rintro v _ ⟨rfl, rfl⟩
      rw [decide_eq_true (e12.trans hlw.symm)]
      repeat' ((conv => whnf); first | refine ob rfl ?_ | refine grow_same h12.le ?_ | refine ob h12.le ?_ | refine ⟨?_, True.intro⟩ | fail)
      repeat' ((conv => whnf); first | refine ⟨?_, True.intro⟩ | refine brn_t rfl ?_ | refine brn_f rfl ?_ | refine ob rfl ?_ | refine ob (by decide) ?_ | refine grow_same (Mem.le_refl _) ?_ | refine ob (Mem.le_refl _) ?_ | refine ⟨_, Mem.le_refl _, ?_⟩ | fail)
      refine ob (inR_i64 (by first | omega | (dsimp only; omega))) ?_
      (conv => whnf)
      exact ⟨⟨i + 1, M12, B5, es7, (a5, n5, c5), L5⟩, ⟨by omega, Mem.le_trans hMB hB5, h12, hK5, hR7, by omega, by omega⟩, by dsimp only; omega, ⟨(by repeat' first | exact True.intro | refine ⟨rfl, ?_⟩), (by repeat' first | exact True.intro | refine ⟨rfl, ?_⟩), Mem.le_refl _, rfl⟩⟩
  repeat' ((conv => whnf); first | refine ⟨?_, True.intro⟩ | refine brn_t rfl ?_ | refine brn_f rfl ?_ | refine ob rfl ?_ | refine ob (by decide) ?_ | refine grow_same (Mem.le_refl _) ?_ | refine ob (Mem.le_refl _) ?_ | refine ⟨_, Mem.le_refl _, ?_⟩ | fail)
  refine awake_ok.mono ?_
  rintro v M6 ⟨rfl, hle6⟩
  repeat' ((conv => whnf); first | refine ⟨?_, True.intro⟩ | refine brn_t rfl ?_ | refine brn_f rfl ?_ | refine ob rfl ?_ | refine ob (by decide) ?_ | refine grow_same (Mem.le_refl _) ?_ | refine ob (Mem.le_refl _) ?_ | refine ⟨_, Mem.le_refl _, ?_⟩ | fail)
  exact ⟨rfl, Mem.le_trans hMB (Mem.le_trans hF.le hle6)⟩
end Go.Proofs.Ytmifjilknojkaaa
