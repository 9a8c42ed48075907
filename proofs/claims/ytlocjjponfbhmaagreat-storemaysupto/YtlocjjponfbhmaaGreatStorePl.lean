/- StorePlays, as a contract. -/
import Derived.Test.YtlocjjponfbhmaaGreatJoin28
namespace Go.Proofs.YtlocjjponfbhmaaGreat
open Go Go.Vm
attribute [local irreducible] Brn Ob Grow CallsM inR LoopVC Mem.row Mem.cells Mem.setCells Mem.upd Own AppVC SrcVC StrVC NextVC New SrcOk subA NewSl Mem.textAt Mem.mapAt Mem.iterAt entryOf kfind Wr NewEls Elems
set_option maxRecDepth 10000
variable {M B : Mem} {p b sp sb : Nat} {S : StR} {came : Int} {xs : HsT} {es : EsT} {L : List K} {D : DocV} {ms : List MX}
theorem sub_byte (x : UInt8) : Value.int .u8 (IntKind.u8.wrap (255 - (x.toNat : Int))) = byteV (255 - x) := by
  have h : IntKind.u8.wrap (255 - (x.toNat : Int)) = (255 - (x.toNat : Int)) % 256 := by simp [IntKind.wrap, IntKind.signed, IntKind.bits]
  rw [h]
  have hx := x.toNat_lt
  simp only [byteV]
  congr 1
  have : (255 - x).toNat = 255 - x.toNat := by
    rw [UInt8.toNat_sub]
    simp
    omega
  rw [this]
  omega
theorem copied_ok (x : EvX) {a : Option Addr} {c : Nat} (hx : SrcOk M 1 a x.p.length (x.p.map byteV)) (hl : x.p.length ≤ 1048576) : CallsM Tryz.prog F.law15_copied [evV x.kind x.id a x.p.length c] M fun v M' => ∃ a' c', v = evV x.kind x.id a' x.p.length c' ∧ NewSl M T.uint8 1 a' x.p.length c' (x.p.map byteV) M' := by
  refine fo_law15_copied (by simp) ?_
  repeat' ((conv => whnf); first | refine ⟨?_, True.intro⟩ | refine brn_t rfl ?_ | refine brn_f rfl ?_ | refine ob rfl ?_ | refine ob (by decide) ?_ | refine grow_same (Mem.le_refl _) ?_ | refine ob (Mem.le_refl _) ?_ | refine ⟨_, Mem.le_refl _, ?_⟩ | fail)
  refine new (fun b9 hb9 => ?_)
  replace hb9 : M b9 = none := hb9
  have hN : NewSl M T.uint8 1 (some ⟨b9, 0, none⟩) 0 0 (([] : List UInt8).map byteV) _ := NewSl.lit hb9 T.uint8 1 0 [] rfl
  obtain ⟨M3, hM3⟩ : ∃ M3, M3 = M.setCells b9 T.uint8 [] := ⟨_, rfl⟩
  rw [← hM3] at hN
  (conv => whnf)
  erw [← hM3]
  repeat' ((conv => whnf); first | refine ⟨?_, True.intro⟩ | refine brn_t rfl ?_ | refine brn_f rfl ?_ | refine ob rfl ?_ | refine ob (by decide) ?_ | refine grow_same (Mem.le_refl _) ?_ | refine ob (Mem.le_refl _) ?_ | refine ⟨_, Mem.le_refl _, ?_⟩ | fail)
  refine srcv (hx.le hN.le) ?_
  (conv => whnf); refine appN M _ hN (by first | omega | (dsimp only; omega)) (by simp [maxLen] <;> omega) (bytes_one _) fun a8 c8 M8 hN8 => ?_
  rw [Nat.zero_add x.p.length] at hN8
  rw [Nat.zero_add x.p.length]
  repeat' ((conv => whnf); first | refine ob rfl ?_ | refine grow_same hN8.le ?_ | refine ob hN8.le ?_ | refine ⟨?_, True.intro⟩ | fail)
  repeat' ((conv => whnf); first | refine ⟨?_, True.intro⟩ | refine brn_t rfl ?_ | refine brn_f rfl ?_ | refine ob rfl ?_ | refine ob (by decide) ?_ | refine grow_same (Mem.le_refl _) ?_ | refine ob (Mem.le_refl _) ?_ | refine ⟨_, Mem.le_refl _, ?_⟩ | fail)
  exact ⟨a8, c8, rfl, by simpa using hN8⟩
/-- other blocks than the store's turn -/
theorem FreshSt.turned {M' : Mem} (h : FreshSt B M p b sp sb S came xs es) {X : Nat → Prop} (hk : Mem.keep X M M') (hX : ∀ y, X y → B y ≠ none) : FreshSt (M'.minus (stB p b sp sb xs es)) M' p b sp sb S came xs es :=
  ⟨Mem.minus_le _ _, h.at'.mono fun y o hy ho => hk y o (fun hx => hX y hx (h.fresh y hy)) ho, h.inv, h.invE, h.room, fun _ hy => Mem.minus_in hy⟩
structure StP where
  i : Nat
  mem : Mem
  B : Mem
  S : StR
  came : Int
  xs : HsT
  es : EsT
  L : List K
  D : DocV
  ms : List MX
theorem plays_law (self qh qb qg : Int) {a : Option Addr} {n c : Nat} {l : List EvX} (hl : Elems M 6 a n (EvR M) l) (hn : n ≤ 1048576) (hc : n ≤ c) :
    CallsM Tryz.prog F.law15_StorePlays [.agg #[.int .i64 self, .int .i64 qh, .int .i64 qb, .int .i64 qg], .slice a n c] M fun v M' => v = .bool true ∧ M.le M' := by
  refine fo_law15_StorePlays (by simp) ?_
  repeat' ((conv => whnf); first | refine ⟨?_, True.intro⟩ | refine brn_t rfl ?_ | refine brn_f rfl ?_ | refine ob rfl ?_ | refine ob (by decide) ?_ | refine grow_same (Mem.le_refl _) ?_ | refine ob (Mem.le_refl _) ?_ | refine ⟨_, Mem.le_refl _, ?_⟩ | fail)
  refine (New15_ok self qh qb qg).mono ?_
  rintro v M1 (⟨hg, rfl, rfl⟩ | ⟨hg, p, b, sp, sb, rfl, h1⟩)
  · repeat' ((conv => whnf); first | refine ⟨?_, True.intro⟩ | refine brn_t rfl ?_ | refine brn_f rfl ?_ | refine ob rfl ?_ | refine ob (by decide) ?_ | refine grow_same (Mem.le_refl _) ?_ | refine ob (Mem.le_refl _) ?_ | refine ⟨_, Mem.le_refl _, ?_⟩ | fail)
    refine (new15R_ok self qh qb qg).mono ?_
    rintro v _ (⟨-, rfl, rfl⟩ | ⟨hg2, -⟩)
    rotate_left
    · exact absurd hg hg2
    repeat' ((conv => whnf); first | refine ⟨?_, True.intro⟩ | refine brn_t rfl ?_ | refine brn_f rfl ?_ | refine ob rfl ?_ | refine ob (by decide) ?_ | refine grow_same (Mem.le_refl _) ?_ | refine ob (Mem.le_refl _) ?_ | refine ⟨_, Mem.le_refl _, ?_⟩ | fail)
    refine awake_ok.mono ?_
    rintro v M2 ⟨rfl, hle⟩
    repeat' ((conv => whnf); first | refine ⟨?_, True.intro⟩ | refine brn_t rfl ?_ | refine brn_f rfl ?_ | refine ob rfl ?_ | refine ob (by decide) ?_ | refine grow_same (Mem.le_refl _) ?_ | refine ob (Mem.le_refl _) ?_ | refine ⟨_, Mem.le_refl _, ?_⟩ | fail)
    exact ⟨rfl, hle⟩
  repeat' ((conv => whnf); first | refine ⟨?_, True.intro⟩ | refine brn_t rfl ?_ | refine brn_f rfl ?_ | refine ob rfl ?_ | refine ob (by decide) ?_ | refine grow_same (Mem.le_refl _) ?_ | refine ob (Mem.le_refl _) ?_ | refine ⟨_, Mem.le_refl _, ?_⟩ | fail)
  refine (new15R_ok self qh qb qg).mono ?_
  rintro v _ (⟨hg2, -⟩ | ⟨-, rfl, rfl⟩)
  · exact absurd hg2 hg
  repeat' ((conv => whnf); first | refine ⟨?_, True.intro⟩ | refine brn_t rfl ?_ | refine brn_f rfl ?_ | refine ob rfl ?_ | refine ob (by decide) ?_ | refine grow_same (Mem.le_refl _) ?_ | refine ob (Mem.le_refl _) ?_ | refine ⟨_, Mem.le_refl _, ?_⟩ | fail)
  refine (cutEv_ok hl hn hc M1).mono ?_
  rintro v _ ⟨⟨a1, n1, c1, rfl, hn1, hc1, hnl, hcutM⟩, rfl⟩
  (conv => whnf)
  refine loopF (σ := StP) [9, 1] (fun y => [(9, .int .i64 y.i), (1, .slice a1 n1 c1)]) (fun y => [.live T.portagelaw15_Set [.v (.int .i64 self), .v (.int .i64 qh), .v (.int .i64 qb), .v (.int .i64 qg)], .live T.portageref15_Store (docCs y.S y.D)]) (fun y => y.mem)
    (fun y => y.i ≤ n1 ∧ M.le y.B ∧ Both y.B y.mem p b sp sb y.S y.came y.xs y.es y.L y.D y.ms ∧ y.came ≤ y.i ∧ y.D.kn ≤ y.i ∧ y.es.length ≤ y.i) (fun y => n1 - y.i)
    ⟨0, M1, M, newD self qh qb qg, 0, [], [], [], ⟨none, 0, 0, none, 0, 0, none, 0, 0⟩, []⟩ ⟨by simp, Mem.le_refl _, ⟨h1, DocAt.new _ _ _ _ _, RelS.nil⟩, by simp, by simp, by simp⟩ ⟨(by repeat' first | exact True.intro | refine ⟨rfl, ?_⟩), (by repeat' first | exact True.intro | refine ⟨rfl, ?_⟩), Mem.le_refl _, rfl⟩ ?_
  rintro ⟨i, Mc, B, S, came, xs, es, L, D, ms⟩ ⟨hi, hMB, hBo, hca, hkn, hel⟩
  dsimp only at hi hMB hBo hca hkn hel
  (conv => whnf); refine brn (fun g => ?_) (fun g => ?_)
  rotate_left
  · repeat' ((conv => whnf); first | refine ⟨?_, True.intro⟩ | refine brn_t rfl ?_ | refine brn_f rfl ?_ | refine ob rfl ?_ | refine ob (by decide) ?_ | refine grow_same (Mem.le_refl _) ?_ | refine ob (Mem.le_refl _) ?_ | refine ⟨_, Mem.le_refl _, ?_⟩ | fail)
    refine awake_ok.mono ?_
    rintro v M2 ⟨rfl, hle⟩
    repeat' ((conv => whnf); first | refine ⟨?_, True.intro⟩ | refine brn_t rfl ?_ | refine brn_f rfl ?_ | refine ob rfl ?_ | refine ob (by decide) ?_ | refine grow_same (Mem.le_refl _) ?_ | refine ob (Mem.le_refl _) ?_ | refine ⟨_, Mem.le_refl _, ?_⟩ | fail)
    exact ⟨rfl, Mem.le_trans hMB (Mem.le_trans hBo.own.le hle)⟩
  have hlt : i < n1 := by have := of_decide_eq_true g; dsimp only at this; omega
  obtain ⟨hil, bb, o, a2, c2, ha, hrow, hd, hd1, hd2⟩ := ev_at hcutM hlt
  generalize (l.take 50)[i] = x at *
  have hM := Mem.le_trans hMB hBo.own.le
  (conv => whnf); refine ob (by first | omega | (dsimp only; omega)) ?_
  (conv => whnf); refine atp ha ?_
  (conv => whnf); refine on (Mem.row_le hM hrow) ?_
  (conv => whnf); refine (copied_ok x (hd.le hM) hd1).mono ?_
  rintro v M2 ⟨a3, c3, rfl, hN⟩
  have h2 := hBo.own.to hN.le
  -- what lies beside the store and the copy
  obtain ⟨A, hA⟩ : ∃ A : Mem, A = M2.minus (fun y => stB p b sp sb xs es y ∨ blk a3 y) := ⟨_, rfl⟩
  have hA2 : A.le M2 := hA ▸ Mem.minus_le _ _
  have hBA : B.le A := by
    rw [hA]
    refine Mem.le_minus (Mem.le_trans hBo.own.le hN.le) fun y hy => ?_
    rcases hy with hy | ⟨q, hq, rfl⟩
    · exact hBo.own.fresh y hy
    · have := (hN.block hq).1
      cases e : B q.block with
      | none => rfl
      | some o => rw [hBo.own.le _ o e] at this; cases this
  have hdoc := (apply15R_ok (hBo.doc.le hBA) hBo.own.inv (by omega) x.kind x.id ((hd.le hMB).le hBA) hd1 (c := c2)).frame hA2
  repeat' ((conv => whnf); first | refine ⟨?_, True.intro⟩ | refine brn_t rfl ?_ | refine brn_f rfl ?_ | refine ob rfl ?_ | refine ob (by decide) ?_ | refine grow_same (Mem.le_refl _) ?_ | refine ob (Mem.le_refl _) ?_ | refine ⟨_, Mem.le_refl _, ?_⟩ | fail)
  refine ob (by first | omega | (dsimp only; omega)) ?_
  (conv => whnf); refine atp ha ?_
  (conv => whnf); refine on (Mem.row_le (Mem.le_trans hM hN.le) hrow) ?_
  repeat' ((conv => whnf); first | refine ⟨?_, True.intro⟩ | refine ⟨?_, ?_, True.intro⟩ | refine brn_t rfl ?_ | refine brn_f rfl ?_ | refine ob rfl ?_ | refine ob (by decide) ?_ | refine grow_same (Mem.le_refl _) ?_ | refine ob (Mem.le_refl _) ?_ | refine ⟨_, Mem.le_refl _, ?_⟩ | fail)
  · refine hdoc.mono ?_
    repeat' ((conv => whnf); first | refine ⟨?_, True.intro⟩ | refine brn_t rfl ?_ | refine brn_f rfl ?_ | refine ob rfl ?_ | refine ob (by decide) ?_ | refine grow_same (Mem.le_refl _) ?_ | refine ob (Mem.le_refl _) ?_ | refine ⟨_, Mem.le_refl _, ?_⟩ | fail)
    rintro v M3 ⟨A3, ⟨D', ms', rfl, hle3, hd3, hkn3⟩, hA3, hk3⟩
    have hkk : ∀ y o, (stB p b sp sb xs es y ∨ blk a3 y) → M2 y = some o → M3 y = some o ∧ A3 y = none := fun y o hy ho => hk3 y o (by rw [hA]; exact Mem.minus_in hy) ho
    have hS3 : FreshSt (M3.minus (stB p b sp sb xs es)) M3 p b sp sb S came xs es := ⟨Mem.minus_le _ _, h2.at'.mono fun y o hy ho => (hkk y o (.inl hy) ho).1, h2.inv, h2.invE, h2.room, fun _ hy => Mem.minus_in hy⟩
    have hAB3 : A3.le (M3.minus (stB p b sp sb xs es)) := Mem.le_minus hA3 fun y hy => by
      cases e : M2 y with
      | none => exact absurd e (h2.some hy)
      | some o => exact (hkk y o (.inl hy) e).2
    have hnb : ∀ y, blk a3 y → ¬ stB p b sp sb xs es y := fun y ⟨q, hq, e⟩ hy => by
      subst e
      exact hBo.own.some hy (hN.block hq).1
    have hown3 : Wr M3 T.uint8 1 a3 x.p.length c3 (x.p.map byteV) := hN.wr.mono fun q o hq ho => (hkk _ o (.inr ⟨q, hq, rfl⟩) ho).1
    have hownB : Wr (M3.minus (stB p b sp sb xs es)) T.uint8 1 a3 x.p.length c3 (x.p.map byteV) := hown3.mono fun q o hq ho => by
      unfold Mem.minus; rw [if_neg (hnb _ ⟨q, hq, rfl⟩)]; exact ho
    have hAn : ∀ y, blk a3 y → A3 y = none := fun y hy => by
      obtain ⟨q, hq, e⟩ := hy
      obtain ⟨cs, hh⟩ := (hN.block hq).2
      exact (hkk y _ (.inr ⟨q, hq, e⟩) (e ▸ hh)).2
    repeat' ((conv => whnf); first | refine ⟨?_, True.intro⟩ | refine brn_t rfl ?_ | refine brn_f rfl ?_ | refine ob rfl ?_ | refine ob (by decide) ?_ | refine grow_same (Mem.le_refl _) ?_ | refine ob (Mem.le_refl _) ?_ | refine ⟨_, Mem.le_refl _, ?_⟩ | fail)
    refine (Apply15_ok hS3 x.kind x.id hown3.src hd1 (by omega)).mono ?_
    rintro v M4 ⟨came4, xs4, es4, rfl, hcc4, h4, hst⟩
    have hmay := hBo.may x.kind x.id x.p.length
    have hel4 := step_len hst
    have hrel := rel_step hBo.rel hmay hst
    rw [← hmay]
    obtain ⟨S4, hS4⟩ : ∃ S4, S4 = if mayD S (setMay S es) x.kind x.id x.p.length = 0 then applyD S x.kind x.id x.p else S := ⟨_, rfl⟩
    rw [← hmay] at hd3
    rw [← hS4] at h4 hd3 ⊢
    (conv => whnf); refine brn_f (by simp) ?_
    have hAB4 : A3.le M4 := Mem.le_trans hAB3 h4.le
    have hown4 := hownB.le h4.le
    obtain ⟨L4, hL4⟩ : ∃ L4, L4 = if mayD S (setMayK S L) x.kind x.id x.p.length = 0 ∧ x.kind = 4 then putK ⟨x.id.o, x.id.e, x.id.c⟩ L else L := ⟨_, rfl⟩
    rw [← hL4] at hrel
    rw [hmay, ← hL4] at hd3
    (conv => whnf)
    refine loopF (σ := Nat × Mem × List UInt8) [13] (fun y => [(13, .int .i64 y.1)]) (fun _ => [.live T.portagelaw15_Set [.v (.int .i64 self), .v (.int .i64 qh), .v (.int .i64 qb), .v (.int .i64 qg)], .live T.portageref15_Store (docCs S4 D'), .live T.api_Ev [.v (.int .i64 x.kind), .v (.int .i64 x.id.o), .v (.int .i64 x.id.d), .v (.int .i64 x.id.e), .v (.int .i64 x.id.c), .v (.slice a3 x.p.length c3)]]) (fun y => y.2.1)
      (fun | ⟨k, M5, q⟩ => k ≤ x.p.length ∧ Wr M5 T.uint8 1 a3 x.p.length c3 (q.map byteV) ∧ Mem.keep (blk a3) M4 M5) (fun y => x.p.length - y.1) ⟨0, M4, x.p⟩ ⟨by omega, hown4, Mem.keep_refl _ _⟩ ⟨(by repeat' first | exact True.intro | refine ⟨rfl, ?_⟩), (by repeat' first | exact True.intro | refine ⟨rfl, ?_⟩), Mem.le_refl _, rfl⟩ ?_
    rintro ⟨k, M5, q⟩ ⟨hk, hq, hkp⟩
    (conv => whnf); refine brn (fun g1 => ?_) (fun g1 => ?_)
    · have hkl : k < x.p.length := by have := of_decide_eq_true g1; dsimp only at this; omega
      obtain ⟨hlt2, b6, o6, ha6, hrow6⟩ := hq.src.at hkl
      obtain ⟨b7, cs7, ha7, hcells, hlen7, hst7⟩ := hq.store1 hkl
      have hb67 : b7 = b6 ∧ o6 = 0 := by rw [ha7] at ha6; cases ha6; exact ⟨rfl, rfl⟩
      obtain ⟨rfl, rfl⟩ := hb67
      (conv => whnf); refine ob (by first | omega | (dsimp only; omega)) ?_
      (conv => whnf); refine atp ha6 ?_
      (conv => whnf); refine on hrow6 ?_
      (conv => whnf); refine ob (by first | omega | (dsimp only; omega)) ?_
      (conv => whnf); refine atp ha6 ?_
      (conv => whnf)
      rw [sub_byte]
      repeat' ((conv => whnf); first | refine ⟨?_, True.intro⟩ | refine brn_t rfl ?_ | refine brn_f rfl ?_ | refine ob rfl ?_ | refine ob (by decide) ?_ | refine grow_same (Mem.le_refl _) ?_ | refine ob (Mem.le_refl _) ?_ | refine ⟨_, Mem.le_refl _, ?_⟩ | fail)
      refine on hcells ?_
      (conv => whnf); refine ob (by dsimp only; omega) ?_
      obtain ⟨hw8, hk8⟩ := hst7 (255 - q[k])
      repeat' ((conv => whnf); first | refine ⟨?_, True.intro⟩ | refine brn_t rfl ?_ | refine brn_f rfl ?_ | refine ob rfl ?_ | refine ob (by decide) ?_ | refine grow_same (Mem.le_refl _) ?_ | refine ob (Mem.le_refl _) ?_ | refine ⟨_, Mem.le_refl _, ?_⟩ | fail)
      refine ob (inR_i64 (by first | omega | (dsimp only; omega))) ?_
      (conv => whnf)
      exact ⟨⟨k + 1, _, q.set k (255 - q[k])⟩, ⟨by omega, hw8, Mem.keep_trans hkp hk8⟩, by dsimp only; omega, ⟨(by repeat' first | exact True.intro | refine ⟨rfl, ?_⟩), (by repeat' first | exact True.intro | refine ⟨rfl, ?_⟩), Mem.le_refl _, rfl⟩⟩
    have hb3 : ∀ y, blk a3 y → (M3.minus (stB p b sp sb xs es)) y ≠ none := fun y ⟨q', hq', e⟩ => by
      obtain ⟨cs, hh⟩ := hownB.block hq'
      unfold Mem.has at hh
      rw [← e, hh]; simp
    have h5 := h4.turned hkp hb3
    have hAB5 : A3.le (M5.minus (stB p b sp sb xs4 es4)) := fun y o ho => by
      have e1 : ¬ stB p b sp sb xs4 es4 y := fun hy => by
        have := h4.fresh y hy
        rw [hAB3 y o ho] at this
        cases this
      have e2 : ¬ blk a3 y := fun hy => by rw [hAn y hy] at ho; cases ho
      unfold Mem.minus
      rw [if_neg e1]
      exact hkp y o e2 (hAB4 y o ho)
    have hB5 : Both (M5.minus (stB p b sp sb xs4 es4)) M5 p b sp sb S4 came4 xs4 es4 L4 D' ms' := ⟨h5, hd3.le hAB5, hrel⟩
    repeat' ((conv => whnf); first | refine ⟨?_, True.intro⟩ | refine brn_t rfl ?_ | refine brn_f rfl ?_ | refine ob rfl ?_ | refine ob (by decide) ?_ | refine grow_same (Mem.le_refl _) ?_ | refine ob (Mem.le_refl _) ?_ | refine ⟨_, Mem.le_refl _, ?_⟩ | fail)
    refine (told_ok hB5 (by omega) (by omega) (by omega)).mono ?_
    rintro v M6 ⟨rfl, hle6⟩
    repeat' ((conv => whnf); first | refine ⟨?_, True.intro⟩ | refine brn_t rfl ?_ | refine brn_f rfl ?_ | refine ob rfl ?_ | refine ob (by decide) ?_ | refine grow_same (Mem.le_refl _) ?_ | refine ob (Mem.le_refl _) ?_ | refine ⟨_, Mem.le_refl _, ?_⟩ | fail)
    refine ob (inR_i64 (by first | omega | (dsimp only; omega))) ?_
    (conv => whnf)
    exact ⟨⟨i + 1, M6, M5.minus (stB p b sp sb xs4 es4), S4, came4, xs4, es4, L4, D', ms'⟩, ⟨by dsimp only; omega, Mem.le_trans hMB (Mem.le_trans hBA (Mem.le_trans hle3 hAB5)), ⟨h5.to hle6, hB5.doc, hB5.rel⟩, by dsimp only; omega, by dsimp only; omega, by dsimp only; omega⟩, by dsimp only; omega, ⟨(by repeat' first | exact True.intro | refine ⟨rfl, ?_⟩), (by repeat' first | exact True.intro | refine ⟨rfl, ?_⟩), Mem.le_refl _, rfl⟩⟩
  · refine hdoc.mono ?_
    repeat' ((conv => whnf); first | refine ⟨?_, True.intro⟩ | refine brn_t rfl ?_ | refine brn_f rfl ?_ | refine ob rfl ?_ | refine ob (by decide) ?_ | refine grow_same (Mem.le_refl _) ?_ | refine ob (Mem.le_refl _) ?_ | refine ⟨_, Mem.le_refl _, ?_⟩ | fail)
    rintro v M3 ⟨A3, ⟨D', ms', rfl, hle3, hd3, hkn3⟩, hA3, hk3⟩
    have hkk : ∀ y o, (stB p b sp sb xs es y ∨ blk a3 y) → M2 y = some o → M3 y = some o ∧ A3 y = none := fun y o hy ho => hk3 y o (by rw [hA]; exact Mem.minus_in hy) ho
    have hS3 : FreshSt (M3.minus (stB p b sp sb xs es)) M3 p b sp sb S came xs es := ⟨Mem.minus_le _ _, h2.at'.mono fun y o hy ho => (hkk y o (.inl hy) ho).1, h2.inv, h2.invE, h2.room, fun _ hy => Mem.minus_in hy⟩
    have hAB3 : A3.le (M3.minus (stB p b sp sb xs es)) := Mem.le_minus hA3 fun y hy => by
      cases e : M2 y with
      | none => exact absurd e (h2.some hy)
      | some o => exact (hkk y o (.inl hy) e).2
    have hnb : ∀ y, blk a3 y → ¬ stB p b sp sb xs es y := fun y ⟨q, hq, e⟩ hy => by
      subst e
      exact hBo.own.some hy (hN.block hq).1
    have hown3 : Wr M3 T.uint8 1 a3 x.p.length c3 (x.p.map byteV) := hN.wr.mono fun q o hq ho => (hkk _ o (.inr ⟨q, hq, rfl⟩) ho).1
    have hownB : Wr (M3.minus (stB p b sp sb xs es)) T.uint8 1 a3 x.p.length c3 (x.p.map byteV) := hown3.mono fun q o hq ho => by
      unfold Mem.minus; rw [if_neg (hnb _ ⟨q, hq, rfl⟩)]; exact ho
    have hAn : ∀ y, blk a3 y → A3 y = none := fun y hy => by
      obtain ⟨q, hq, e⟩ := hy
      obtain ⟨cs, hh⟩ := (hN.block hq).2
      exact (hkk y _ (.inr ⟨q, hq, e⟩) (e ▸ hh)).2
    repeat' ((conv => whnf); first | refine ⟨?_, True.intro⟩ | refine brn_t rfl ?_ | refine brn_f rfl ?_ | refine ob rfl ?_ | refine ob (by decide) ?_ | refine grow_same (Mem.le_refl _) ?_ | refine ob (Mem.le_refl _) ?_ | refine ⟨_, Mem.le_refl _, ?_⟩ | fail)
    refine (Apply15_ok hS3 x.kind x.id hown3.src hd1 (by omega)).mono ?_
    rintro v M4 ⟨came4, xs4, es4, rfl, hcc4, h4, hst⟩
    have hmay := hBo.may x.kind x.id x.p.length
    have hel4 := step_len hst
    have hrel := rel_step hBo.rel hmay hst
    rw [← hmay]
    obtain ⟨S4, hS4⟩ : ∃ S4, S4 = if mayD S (setMay S es) x.kind x.id x.p.length = 0 then applyD S x.kind x.id x.p else S := ⟨_, rfl⟩
    rw [← hmay] at hd3
    rw [← hS4] at h4 hd3 ⊢
    (conv => whnf); refine brn_f (by simp) ?_
    have hAB4 : A3.le M4 := Mem.le_trans hAB3 h4.le
    have hown4 := hownB.le h4.le
    obtain ⟨L4, hL4⟩ : ∃ L4, L4 = if mayD S (setMayK S L) x.kind x.id x.p.length = 0 ∧ x.kind = 4 then putK ⟨x.id.o, x.id.e, x.id.c⟩ L else L := ⟨_, rfl⟩
    rw [← hL4] at hrel
    rw [hmay, ← hL4] at hd3
    (conv => whnf)
    refine loopF (σ := Nat × Mem × List UInt8) [13] (fun y => [(13, .int .i64 y.1)]) (fun _ => [.live T.portagelaw15_Set [.v (.int .i64 self), .v (.int .i64 qh), .v (.int .i64 qb), .v (.int .i64 qg)], .live T.portageref15_Store (docCs S4 D'), .live T.api_Ev [.v (.int .i64 x.kind), .v (.int .i64 x.id.o), .v (.int .i64 x.id.d), .v (.int .i64 x.id.e), .v (.int .i64 x.id.c), .v (.slice a3 x.p.length c3)]]) (fun y => y.2.1)
      (fun | ⟨k, M5, q⟩ => k ≤ x.p.length ∧ Wr M5 T.uint8 1 a3 x.p.length c3 (q.map byteV) ∧ Mem.keep (blk a3) M4 M5) (fun y => x.p.length - y.1) ⟨0, M4, x.p⟩ ⟨by omega, hown4, Mem.keep_refl _ _⟩ ⟨(by repeat' first | exact True.intro | refine ⟨rfl, ?_⟩), (by repeat' first | exact True.intro | refine ⟨rfl, ?_⟩), Mem.le_refl _, rfl⟩ ?_
    rintro ⟨k, M5, q⟩ ⟨hk, hq, hkp⟩
    (conv => whnf); refine brn (fun g1 => ?_) (fun g1 => ?_)
    · have hkl : k < x.p.length := by have := of_decide_eq_true g1; dsimp only at this; omega
      obtain ⟨hlt2, b6, o6, ha6, hrow6⟩ := hq.src.at hkl
      obtain ⟨b7, cs7, ha7, hcells, hlen7, hst7⟩ := hq.store1 hkl
      have hb67 : b7 = b6 ∧ o6 = 0 := by rw [ha7] at ha6; cases ha6; exact ⟨rfl, rfl⟩
      obtain ⟨rfl, rfl⟩ := hb67
      (conv => whnf); refine ob (by first | omega | (dsimp only; omega)) ?_
      (conv => whnf); refine atp ha6 ?_
      (conv => whnf); refine on hrow6 ?_
      (conv => whnf); refine ob (by first | omega | (dsimp only; omega)) ?_
      (conv => whnf); refine atp ha6 ?_
      (conv => whnf)
      rw [sub_byte]
      repeat' ((conv => whnf); first | refine ⟨?_, True.intro⟩ | refine brn_t rfl ?_ | refine brn_f rfl ?_ | refine ob rfl ?_ | refine ob (by decide) ?_ | refine grow_same (Mem.le_refl _) ?_ | refine ob (Mem.le_refl _) ?_ | refine ⟨_, Mem.le_refl _, ?_⟩ | fail)
      refine on hcells ?_
      (conv => whnf); refine ob (by dsimp only; omega) ?_
      obtain ⟨hw8, hk8⟩ := hst7 (255 - q[k])
      repeat' ((conv => whnf); first | refine ⟨?_, True.intro⟩ | refine brn_t rfl ?_ | refine brn_f rfl ?_ | refine ob rfl ?_ | refine ob (by decide) ?_ | refine grow_same (Mem.le_refl _) ?_ | refine ob (Mem.le_refl _) ?_ | refine ⟨_, Mem.le_refl _, ?_⟩ | fail)
      refine ob (inR_i64 (by first | omega | (dsimp only; omega))) ?_
      (conv => whnf)
      exact ⟨⟨k + 1, _, q.set k (255 - q[k])⟩, ⟨by omega, hw8, Mem.keep_trans hkp hk8⟩, by dsimp only; omega, ⟨(by repeat' first | exact True.intro | refine ⟨rfl, ?_⟩), (by repeat' first | exact True.intro | refine ⟨rfl, ?_⟩), Mem.le_refl _, rfl⟩⟩
    have hb3 : ∀ y, blk a3 y → (M3.minus (stB p b sp sb xs es)) y ≠ none := fun y ⟨q', hq', e⟩ => by
      obtain ⟨cs, hh⟩ := hownB.block hq'
      unfold Mem.has at hh
      rw [← e, hh]; simp
    have h5 := h4.turned hkp hb3
    have hAB5 : A3.le (M5.minus (stB p b sp sb xs4 es4)) := fun y o ho => by
      have e1 : ¬ stB p b sp sb xs4 es4 y := fun hy => by
        have := h4.fresh y hy
        rw [hAB3 y o ho] at this
        cases this
      have e2 : ¬ blk a3 y := fun hy => by rw [hAn y hy] at ho; cases ho
      unfold Mem.minus
      rw [if_neg e1]
      exact hkp y o e2 (hAB4 y o ho)
    have hB5 : Both (M5.minus (stB p b sp sb xs4 es4)) M5 p b sp sb S4 came4 xs4 es4 L4 D' ms' := ⟨h5, hd3.le hAB5, hrel⟩
    repeat' ((conv => whnf); first | refine ⟨?_, True.intro⟩ | refine brn_t rfl ?_ | refine brn_f rfl ?_ | refine ob rfl ?_ | refine ob (by decide) ?_ | refine grow_same (Mem.le_refl _) ?_ | refine ob (Mem.le_refl _) ?_ | refine ⟨_, Mem.le_refl _, ?_⟩ | fail)
    refine (told_ok hB5 (by omega) (by omega) (by omega)).mono ?_
    rintro v M6 ⟨rfl, hle6⟩
    repeat' ((conv => whnf); first | refine ⟨?_, True.intro⟩ | refine brn_t rfl ?_ | refine brn_f rfl ?_ | refine ob rfl ?_ | refine ob (by decide) ?_ | refine grow_same (Mem.le_refl _) ?_ | refine ob (Mem.le_refl _) ?_ | refine ⟨_, Mem.le_refl _, ?_⟩ | fail)
    refine ob (inR_i64 (by first | omega | (dsimp only; omega))) ?_
    (conv => whnf)
    exact ⟨⟨i + 1, M6, M5.minus (stB p b sp sb xs4 es4), S4, came4, xs4, es4, L4, D', ms'⟩, ⟨by dsimp only; omega, Mem.le_trans hMB (Mem.le_trans hBA (Mem.le_trans hle3 hAB5)), ⟨h5.to hle6, hB5.doc, hB5.rel⟩, by dsimp only; omega, by dsimp only; omega, by dsimp only; omega⟩, by dsimp only; omega, ⟨(by repeat' first | exact True.intro | refine ⟨rfl, ?_⟩), (by repeat' first | exact True.intro | refine ⟨rfl, ?_⟩), Mem.le_refl _, rfl⟩⟩
end Go.Proofs.YtlocjjponfbhmaaGreat

