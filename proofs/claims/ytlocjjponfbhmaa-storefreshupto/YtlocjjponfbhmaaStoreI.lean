/- Both stores, behind some events. -/
import Derived.Test.YtlocjjponfbhmaaJoin27
namespace Go.Proofs.Ytlocjjponfbhmaa
open Go Go.Vm
attribute [local irreducible] Brn Ob Grow CallsM inR LoopVC Mem.row Mem.cells Mem.setCells Mem.upd Own AppVC SrcVC StrVC NextVC New SrcOk subA NewSl Mem.textAt Mem.mapAt Mem.iterAt entryOf kfind Wr NewEls Elems
set_option maxRecDepth 10000
variable {M B : Mem} {p b sp sb : Nat} {S : StR} {came : Int} {xs : HsT} {es : EsT} {L : List K} {D : DocV} {ms : List MX}
/-- a store, and the document's beside it -/
structure Both (B M : Mem) (p b sp sb : Nat) (S : StR) (came : Int) (xs : HsT) (es : EsT) (L : List K) (D : DocV) (ms : List MX) : Prop where
  own : FreshSt B M p b sp sb S came xs es
  doc : DocAt B S L D ms
  rel : RelS es L
theorem Both.may (h : Both B M p b sp sb S came xs es L D ms) (k : Int) (i : IdT) (n : Nat) : mayD S (setMay S es) k i n = mayD S (setMayK S L) k i n := by
  have : setMay S es = setMayK S L := by
    funext i
    exact h.rel.may S.qg i.o i.d i.e i.c
  rw [this]
/-- what the set's entries and the document's keys become -/
theorem rel_step (hR : RelS es L) {es' : EsT} {k : Int} {i : IdT} {n : Nat} (hm : mayD S (setMay S es) k i n = mayD S (setMayK S L) k i n)
    (hs : if mayD S (setMay S es) k i n = 0 ∧ k = 4 then StepE S.qg es es' i.o i.d i.e i.c else es' = es) :
    RelS es' (if mayD S (setMayK S L) k i n = 0 ∧ k = 4 then putK ⟨i.o, i.e, i.c⟩ L else L) := by
  rw [hm] at hs
  split at hs
  · rename_i h
    rw [if_pos h]
    rcases hR.step hs with ⟨hne, hR'⟩ | ⟨_, hR'⟩
    · exfalso
      obtain ⟨h1, rfl⟩ := h
      unfold mayD at h1
      split at h1
      · rename_i g4; exact absurd h1 g4
      rw [if_neg (by decide), if_neg (by decide), if_neg (by decide)] at h1
      split at h1
      · cases h1
      · exact hne h1
    · exact hR'
  · rename_i h
    rw [if_neg h, hs]; exact hR
/-- the document's store behind the program's -/
theorem Both.step (h : Both B M p b sp sb S came xs es L D ms) {k : Int} {i : IdT} {l : List UInt8} {v : Value} {M3 : Mem} (ho : ApplyOut B p b sp sb S came es k i l v M3) (hf : D.kn < 4000000) {a : Option Addr} {c : Nat} (hl : SrcOk B 1 a l.length (l.map byteV)) (hn : l.length ≤ 1048576) :
    ∃ e, v = .int .i64 e ∧ e = mayD S (setMay S es) k i l.length ∧ B.le M3 ∧ CallsM Try.prog F.ref15_Apply [docV S D, evV k i a l.length c] M3 fun v' M4 => ∃ B' came' xs' es' L' D' ms', v' = .tuple #[docV (if e = 0 then applyD S k i l else S) D', .int .i64 e] ∧ came' ≤ came + 1 ∧ B.le B' ∧ D'.kn ≤ D.kn + 1 ∧
      Both B' M4 p b sp sb (if e = 0 then applyD S k i l else S) came' xs' es' L' D' ms' := by
  obtain ⟨came', xs', es', rfl, hc, h3, hst⟩ := ho
  refine ⟨_, rfl, rfl, h3.le, ?_⟩
  obtain ⟨h3b, hB3⟩ := h3.base
  refine (h3.aside (apply15R_ok (h.doc.le hB3) h.own.inv hf k i (hl.le hB3) hn)).mono ?_
  rintro v' M4 ⟨A, ⟨D', ms', rfl, hle, hd, hkn⟩, h4⟩
  rw [h.may k i l.length]
  refine ⟨A, came', xs', es', _, D', ms', rfl, hc, Mem.le_trans hB3 hle, hkn, ?_, hd, rel_step h.rel (h.may k i l.length) hst⟩
  rw [← h.may k i l.length]
  exact h4
theorem applyD_self {k : Int} {i : IdT} {l : List UInt8} : (applyD S k i l).self = S.self := by unfold applyD; (repeat' split) <;> rfl
theorem applyD_qh {k : Int} {i : IdT} {l : List UInt8} : (applyD S k i l).qh = S.qh := by unfold applyD; (repeat' split) <;> rfl
theorem applyD_qb {k : Int} {i : IdT} {l : List UInt8} : (applyD S k i l).qb = S.qb := by unfold applyD; (repeat' split) <;> rfl
theorem applyD_qg {k : Int} {i : IdT} {l : List UInt8} : (applyD S k i l).qg = S.qg := by unfold applyD; (repeat' split) <;> rfl
@[reducible] def docCs (S : StR) (D : DocV) : List SC := [.v (.int .i64 S.self), .v (.int .i64 S.qh), .v (.int .i64 S.qb), .v (.int .i64 S.qg), .v (.int .i64 S.epoch), .v (.slice D.ua D.un D.uc), .v (.slice D.la D.ln D.lc), .v (.int .i64 S.qg), .v (.slice D.ka D.kn D.kc)]
structure StB where
  i : Nat
  mem : Mem
  B : Mem
  S : StR
  came : Int
  xs : HsT
  es : EsT
  L : List K
  D : DocV
  ms : List MX
theorem done_ok (self qh qb qg : Int) {a : Option Addr} {n c : Nat} {l : List EvX} (hl : Elems M 6 a n (EvR M) l) (hn : n ≤ 1048576) (hc : n ≤ c) :
    CallsM Try.prog F.law15_done [.agg #[.int .i64 self, .int .i64 qh, .int .i64 qb, .int .i64 qg], .slice a n c] M fun v M' =>
    (badD self qh qb qg ∧ v = .tuple #[.pointer none, docV ⟨0, 0, 0, 0, 0, [], []⟩ ⟨none, 0, 0, none, 0, 0, none, 0, 0⟩, .bool false] ∧ M = M') ∨
    (¬ badD self qh qb qg ∧ ∃ B p b sp sb S came xs es L D ms, v = .tuple #[ptr p, docV S D, .bool true] ∧ M.le B ∧ Both B M' p b sp sb S came xs es L D ms ∧ came ≤ 50 ∧ D.kn ≤ 50 ∧
      S.self = self ∧ S.qh = qh ∧ S.qb = qb ∧ S.qg = qg ∧ (l = [] → S = newD self qh qb qg)) := by
  refine fo_law15_done (by simp) ?_
  repeat' ((conv => whnf); first | refine ⟨?_, True.intro⟩ | refine brn_t rfl ?_ | refine brn_f rfl ?_ | refine ob rfl ?_ | refine ob (by decide) ?_ | refine grow_same (Mem.le_refl _) ?_ | refine ob (Mem.le_refl _) ?_ | refine ⟨_, Mem.le_refl _, ?_⟩ | fail)
  refine (New15_ok self qh qb qg).mono ?_
  rintro v M1 (⟨hg, rfl, rfl⟩ | ⟨hg, p, b, sp, sb, rfl, h1⟩)
  · repeat' ((conv => whnf); first | refine ⟨?_, True.intro⟩ | refine brn_t rfl ?_ | refine brn_f rfl ?_ | refine ob rfl ?_ | refine ob (by decide) ?_ | refine grow_same (Mem.le_refl _) ?_ | refine ob (Mem.le_refl _) ?_ | refine ⟨_, Mem.le_refl _, ?_⟩ | fail)
    refine (new15R_ok self qh qb qg).mono ?_
    rintro v _ (⟨-, rfl, rfl⟩ | ⟨hg2, -⟩)
    rotate_left
    · exact absurd hg hg2
    repeat' ((conv => whnf); first | refine ⟨?_, True.intro⟩ | refine brn_t rfl ?_ | refine brn_f rfl ?_ | refine ob rfl ?_ | refine ob (by decide) ?_ | refine grow_same (Mem.le_refl _) ?_ | refine ob (Mem.le_refl _) ?_ | refine ⟨_, Mem.le_refl _, ?_⟩ | fail)
    exact .inl ⟨hg, rfl, rfl⟩
  repeat' ((conv => whnf); first | refine ⟨?_, True.intro⟩ | refine brn_t rfl ?_ | refine brn_f rfl ?_ | refine ob rfl ?_ | refine ob (by decide) ?_ | refine grow_same (Mem.le_refl _) ?_ | refine ob (Mem.le_refl _) ?_ | refine ⟨_, Mem.le_refl _, ?_⟩ | fail)
  refine (new15R_ok self qh qb qg).mono ?_
  rintro v _ (⟨hg2, -⟩ | ⟨-, rfl, rfl⟩)
  · exact absurd hg2 hg
  repeat' ((conv => whnf); first | refine ⟨?_, True.intro⟩ | refine brn_t rfl ?_ | refine brn_f rfl ?_ | refine ob rfl ?_ | refine ob (by decide) ?_ | refine grow_same (Mem.le_refl _) ?_ | refine ob (Mem.le_refl _) ?_ | refine ⟨_, Mem.le_refl _, ?_⟩ | fail)
  (conv => whnf)
  refine (cutEv_ok hl hn hc M1).mono ?_
  rintro v _ ⟨⟨a1, n1, c1, rfl, hn1, hc1, hnl, hcutM⟩, rfl⟩
  (conv => whnf)
  refine loopF (σ := StB) [11, 1] (fun y => [(11, .int .i64 y.i), (1, .slice a1 n1 c1)]) (fun y => [.live T.portagelaw15_Set [.v (.int .i64 self), .v (.int .i64 qh), .v (.int .i64 qb), .v (.int .i64 qg)], .live T.portageref15_Store [.v (.int .i64 0), .v (.int .i64 0), .v (.int .i64 0), .v (.int .i64 0), .v (.int .i64 0), .v (.slice none 0 0), .v (.slice none 0 0), .v (.int .i64 0), .v (.slice none 0 0)], .live T.portageref15_Store (docCs y.S y.D)]) (fun y => y.mem)
    (fun y => y.i ≤ n1 ∧ M.le y.B ∧ Both y.B y.mem p b sp sb y.S y.came y.xs y.es y.L y.D y.ms ∧ y.came ≤ y.i ∧ y.D.kn ≤ y.i ∧ y.S.self = self ∧ y.S.qh = qh ∧ y.S.qb = qb ∧ y.S.qg = qg ∧ (l = [] → y.S = newD self qh qb qg)) (fun y => n1 - y.i)
    ⟨0, M1, M, newD self qh qb qg, 0, [], [], [], ⟨none, 0, 0, none, 0, 0, none, 0, 0⟩, []⟩ ⟨by simp, Mem.le_refl _, ⟨h1, DocAt.new _ _ _ _ _, RelS.nil⟩, by simp, by simp, rfl, rfl, rfl, rfl, fun _ => rfl⟩ ⟨(by repeat' first | exact True.intro | refine ⟨rfl, ?_⟩), (by repeat' first | exact True.intro | refine ⟨rfl, ?_⟩), Mem.le_refl _, rfl⟩ ?_
  rintro ⟨i, Mc, B, S, came, xs, es, L, D, ms⟩ ⟨hi, hMB, hBo, hca, hkn, hs1, hs2, hs3, hs4, hnew⟩
  dsimp only at hi hMB hBo hca hkn hs1 hs2 hs3 hs4 hnew
  (conv => whnf); refine brn (fun g => ?_) (fun g => ?_)
  rotate_left
  · repeat' ((conv => whnf); first | refine ⟨?_, True.intro⟩ | refine brn_t rfl ?_ | refine brn_f rfl ?_ | refine ob rfl ?_ | refine ob (by decide) ?_ | refine grow_same (Mem.le_refl _) ?_ | refine ob (Mem.le_refl _) ?_ | refine ⟨_, Mem.le_refl _, ?_⟩ | fail)
    exact .inr ⟨hg, B, p, b, sp, sb, S, came, xs, es, L, D, ms, rfl, hMB, hBo, by omega, by omega, hs1, hs2, hs3, hs4, hnew⟩
  have hlt : i < n1 := by have := of_decide_eq_true g; dsimp only at this; omega
  obtain ⟨hil, bb, o, a2, c2, ha, hrow, hd, hd1, hd2⟩ := ev_at hcutM hlt
  generalize (l.take 50)[i] = x at *
  have hM := Mem.le_trans hMB hBo.own.le
  (conv => whnf); refine ob (by first | omega | (dsimp only; omega)) ?_
  (conv => whnf); refine atp ha ?_
  (conv => whnf); refine on (Mem.row_le hM hrow) ?_
  (conv => whnf); refine (Apply15_ok hBo.own x.kind x.id (hd.le hM) hd1 (by omega)).mono ?_
  intro v M3 ho
  obtain ⟨e, rfl, he, hle3, hstep⟩ := hBo.step ho (by omega) (hd.le hMB) hd1
  repeat' ((conv => whnf); first | refine ⟨?_, True.intro⟩ | refine brn_t rfl ?_ | refine brn_f rfl ?_ | refine ob rfl ?_ | refine ob (by decide) ?_ | refine grow_same (Mem.le_refl _) ?_ | refine ob (Mem.le_refl _) ?_ | refine ⟨_, Mem.le_refl _, ?_⟩ | fail)
  refine ob (by first | omega | (dsimp only; omega)) ?_
  (conv => whnf); refine atp ha ?_
  (conv => whnf); refine on (Mem.row_le (Mem.le_trans hMB hle3) hrow) ?_
  repeat' ((conv => whnf); first | refine ⟨?_, True.intro⟩ | refine brn_t rfl ?_ | refine brn_f rfl ?_ | refine ob rfl ?_ | refine ob (by decide) ?_ | refine grow_same (Mem.le_refl _) ?_ | refine ob (Mem.le_refl _) ?_ | refine ⟨_, Mem.le_refl _, ?_⟩ | fail)
  refine hstep.mono ?_
  rintro v M4 ⟨B', came', xs', es', L', D', ms', rfl, hcm, hBB, hkn', hBo'⟩
  repeat' ((conv => whnf); first | refine ⟨?_, True.intro⟩ | refine brn_t rfl ?_ | refine brn_f rfl ?_ | refine ob rfl ?_ | refine ob (by decide) ?_ | refine grow_same (Mem.le_refl _) ?_ | refine ob (Mem.le_refl _) ?_ | refine ⟨_, Mem.le_refl _, ?_⟩ | fail)
  refine ob (inR_i64 (by first | omega | (dsimp only; omega))) ?_
  (conv => whnf)
  refine ⟨⟨i + 1, M4, B', if e = 0 then applyD S x.kind x.id x.p else S, came', xs', es', L', D', ms'⟩, ⟨by dsimp only; omega, Mem.le_trans hMB hBB, hBo', by dsimp only; omega, by dsimp only; omega, ?_, ?_, ?_, ?_, ?_⟩, by dsimp only; omega, ⟨(by repeat' first | exact True.intro | refine ⟨rfl, ?_⟩), (by repeat' first | exact True.intro | refine ⟨rfl, ?_⟩), Mem.le_refl _, rfl⟩⟩
  · dsimp only; split
    · rw [← hs1]; exact applyD_self
    · exact hs1
  · dsimp only; split
    · rw [← hs2]; exact applyD_qh
    · exact hs2
  · dsimp only; split
    · rw [← hs3]; exact applyD_qb
    · exact hs3
  · dsimp only; split
    · rw [← hs4]; exact applyD_qg
    · exact hs4
  · intro e0; subst e0; simp at hil
end Go.Proofs.Ytlocjjponfbhmaa

