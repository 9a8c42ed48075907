/- Both stores, behind some events. -/
import Derived.Test.YtlocjjponfbhmaaJoin27
namespace Go.Proofs.Ytlocjjponfbhmaa
open Go Go.Vm
attribute [local irreducible] Brn Ob Grow CallsM inR LoopVC Mem.row Mem.cells Mem.setCells Mem.upd Own AppVC SrcVC StrVC NextVC New SrcOk subA NewSl Mem.textAt Mem.mapAt Mem.iterAt entryOf kfind Wr NewEls Elems
set_option maxRecDepth 10000
variable {M B : Mem} {p b sp sb : Nat} {S : StR} {came : Int} {xs : HsT} {es : EsT} {L : List K} {D : DocV} {ms : List MX}
/-- a store, and the document's beside it -/
structure Both (B M : Mem) (p b sp sb : Nat) (S : StR) (came : Int) (xs : HsT) (es : EsT) (L : List K) (D : DocV) (ms : List MX) : Prop where
  own : FreshSt B M p b sp sb S came xs es
  doc : DocAt B S L D ms
  rel : RelS es L
theorem Both.may (h : Both B M p b sp sb S came xs es L D ms) (k : Int) (i : IdT) (n : Nat) : mayD S (setMay S es) k i n = mayD S (setMayK S L) k i n := by
  have : setMay S es = setMayK S L := by
    funext i
    exact h.rel.may S.qg i.o i.d i.e i.c
  rw [this]
/-- what the set's entries and the document's keys become -/
theorem rel_step (hR : RelS es L) {es' : EsT} {k : Int} {i : IdT} {n : Nat} (hm : mayD S (setMay S es) k i n = mayD S (setMayK S L) k i n)
    (hs : if mayD S (setMay S es) k i n = 0 ∧ k = 4 then StepE S.qg es es' i.o i.d i.e i.c else es' = es) :
    RelS es' (if mayD S (setMayK S L) k i n = 0 ∧ k = 4 then putK ⟨i.o, i.e, i.c⟩ L else L) := by
  rw [hm] at hs
  split at hs
  · rename_i h
    rw [if_pos h]
    rcases hR.step hs with ⟨hne, hR'⟩ | ⟨_, hR'⟩
    · exfalso
      obtain ⟨h1, rfl⟩ := h
      unfold mayD at h1
      split at h1
      · rename_i g4; exact absurd h1 g4
      rw [if_neg (by decide), if_neg (by decide), if_neg (by decide)] at h1
      split at h1
      · cases h1
      · exact hne h1
    · exact hR'
  · rename_i h
    rw [if_neg h, hs]; exact hR
/-- the document's store behind the program's -/
theorem Both.step (h : Both B M p b sp sb S came xs es L D ms) {k : Int} {i : IdT} {l : List UInt8} {v : Value} {M3 : Mem} (ho : ApplyOut B p b sp sb S came es k i l v M3) (hf : D.kn < 4000000) {a : Option Addr} {c : Nat} (hl : SrcOk B 1 a l.length (l.map byteV)) (hn : l.length ≤ 1048576) :
    ∃ e, v = .int .i64 e ∧ e = mayD S (setMay S es) k i l.length ∧ B.le M3 ∧ CallsM Try.prog F.ref15_Apply [docV S D, evV k i a l.length c] M3 fun v' M4 => ∃ B' came' xs' es' L' D' ms', v' = .tuple #[docV (if e = 0 then applyD S k i l else S) D', .int .i64 e] ∧ came' ≤ came + 1 ∧ B.le B' ∧ D'.kn ≤ D.kn + 1 ∧
      Both B' M4 p b sp sb (if e = 0 then applyD S k i l else S) came' xs' es' L' D' ms' := by
  obtain ⟨came', xs', es', rfl, hc, h3, hst⟩ := ho
  refine ⟨_, rfl, rfl, h3.le, ?_⟩
  obtain ⟨h3b, hB3⟩ := h3.base
  refine (h3.aside (apply15R_ok (h.doc.le hB3) h.own.inv hf k i (hl.le hB3) hn)).mono ?_
  rintro v' M4 ⟨A, ⟨D', ms', rfl, hle, hd, hkn⟩, h4⟩
  rw [h.may k i l.length]
  refine ⟨A, came', xs', es', _, D', ms', rfl, hc, Mem.le_trans hB3 hle, hkn, ?_, hd, rel_step h.rel (h.may k i l.length) hst⟩
  rw [← h.may k i l.length]
  exact h4
theorem applyD_self {k : Int} {i : IdT} {l : List UInt8} : (applyD S k i l).self = S.self := by unfold applyD; (repeat' split) <;> rfl
theorem applyD_qh {k : Int} {i : IdT} {l : List UInt8} : (applyD S k i l).qh = S.qh := by unfold applyD; (repeat' split) <;> rfl
theorem applyD_qb {k : Int} {i : IdT} {l : List UInt8} : (applyD S k i l).qb = S.qb := by unfold applyD; (repeat' split) <;> rfl
theorem applyD_qg {k : Int} {i : IdT} {l : List UInt8} : (applyD S k i l).qg = S.qg := by unfold applyD; (repeat' split) <;> rfl
@[reducible] def docCs (S : StR) (D : DocV) : List SC := [.v (.int .i64 S.self), .v (.int .i64 S.qh), .v (.int .i64 S.qb), .v (.int .i64 S.qg), .v (.int .i64 S.epoch), .v (.slice D.ua D.un D.uc), .v (.slice D.la D.ln D.lc), .v (.int .i64 S.qg), .v (.slice D.ka D.kn D.kc)]
structure StB where
  i : Nat
  mem : Mem
  B : Mem
  S : StR
  came : Int
  xs : HsT
  es : EsT
  L : List K
  D : DocV
  ms : List MX
theorem done_ok (self qh qb qg : Int) {a : Option Addr} {n c : Nat} {l : List EvX} (hl : Elems M 6 a n (EvR M) l) (hn : n ≤ 1048576) (hc : n ≤ c) :
    CallsM Try.prog F.law15_done [.agg #[.int .i64 self, .int .i64 qh, .int .i64 qb, .int .i64 qg], .slice a n c] M fun v M' =>
    (badD self qh qb qg ∧ v = .tuple #[.pointer none, docV ⟨0, 0, 0, 0, 0, [], []⟩ ⟨none, 0, 0, none, 0, 0, none, 0, 0⟩, .bool false] ∧ M = M') ∨
    (¬ badD self qh qb qg ∧ ∃ B p b sp sb S came xs es L D ms, v = .tuple #[ptr p, docV S D, .bool true] ∧ M.le B ∧ Both B M' p b sp sb S came xs es L D ms ∧ came ≤ 50 ∧ D.kn ≤ 50 ∧
      S.self = self ∧ S.qh = qh ∧ S.qb = qb ∧ S.qg = qg ∧ (l = [] → S = newD self qh qb qg)) := by
  refine fo_law15_done (by simp) ?_
  repeat' ((conv => whnf); first | refine ⟨?_, True.intro⟩ | refine brn_t rfl ?_ | refine brn_f rfl ?_ | refine ob rfl ?_ | refine ob (by decide) ?_ | refine grow_same (Mem.le_refl _) ?_ | refine ob (Mem.le_refl _) ?_ | refine ⟨_, Mem.le_refl _, ?_⟩ | fail)
  refine (New15_ok self qh qb qg).mono ?_
  rintro v M1 (⟨hg, rfl, rfl⟩ | ⟨hg, p, b, sp, sb, rfl, h1⟩)
  · repeat' ((conv => whnf); first | refine ⟨?_, True.intro⟩ | refine brn_t rfl ?_ | refine brn_f rfl ?_ | refine ob rfl ?_ | refine ob (by decide) ?_ | refine grow_same (Mem.le_refl _) ?_ | refine ob (Mem.le_refl _) ?_ | refine ⟨_, Mem.le_refl _, ?_⟩ | fail)
    refine (new15R_ok self qh qb qg).mono ?_
    rintro v _ (⟨-, rfl, rfl⟩ | ⟨hg2, -⟩)
    rotate_left
    · exact absurd hg hg2
    repeat' ((conv => whnf); first | refine ⟨?_, True.intro⟩ | refine brn_t rfl ?_ | refine brn_f rfl ?_ | refine ob rfl ?_ | refine ob (by decide) ?_ | refine grow_same (Mem.le_refl _) ?_ | refine ob (Mem.le_refl _) ?_ | refine ⟨_, Mem.le_refl _, ?_⟩ | fail)
    exact .inl ⟨hg, rfl, rfl⟩
  repeat' ((conv => whnf); first | refine ⟨?_, True.intro⟩ | refine brn_t rfl ?_ | refine brn_f rfl ?_ | refine ob rfl ?_ | refine ob (by decide) ?_ | refine grow_same (Mem.le_refl _) ?_ | refine ob (Mem.le_refl _) ?_ | refine ⟨_, Mem.le_refl _, ?_⟩ | fail)
  refine (new15R_ok self qh qb qg).mono ?_
  rintro v _ (⟨hg2, -⟩ | ⟨-, rfl, rfl⟩)
  · exact absurd hg2 hg
  repeat' ((conv => whnf); first | refine ⟨?_, True.intro⟩ | refine brn_t rfl ?_ | refine brn_f rfl ?_ | refine ob rfl ?_ | refine ob (by decide) ?_ | refine grow_same (Mem.le_refl _) ?_ | refine ob (Mem.le_refl _) ?_ | refine ⟨_, Mem.le_refl _, ?_⟩ | fail)
  (conv => whnf)
  refine (cutEv_ok hl hn hc M1).mono ?_
  rintro v _ ⟨⟨a1, n1, c1, rfl, hn1, hc1, hnl, hcutM⟩, rfl⟩
  (conv => whnf)
  refine loopF (σ := StB) [11, 1] (fun y => [(11, .int .i64 y.i), (1, .slice a1 n1 c1)]) (fun y => [.live T.portagelaw15_Set [.v (.int .i64 self), .v (.int .i64 qh), .v (.int .i64 qb), .v (.int .i64 qg)], .live T.portageref15_Store [.v (.int .i64 0), .v (.int .i64 0), .v (.int .i64 0), .v (.int .i64 0), .v (.int .i64 0), .v (.slice none 0 0), .v (.slice none 0 0), .v (.int .i64 0), .v (.slice none 0 0)], .live T.portageref15_Store (docCs y.S y.D)]) (fun y => y.mem)
    (fun y => y.i ≤ n1 ∧ M.le y.B ∧ Both y.B y.mem p b sp sb y.S y.came y.xs y.es y.L y.D y.ms ∧ y.came ≤ y.i ∧ y.D.kn ≤ y.i ∧ y.S.self = self ∧ y.S.qh = qh ∧ y.S.qb = qb ∧ y.S.qg = qg ∧ (l = [] → y.S = newD self qh qb qg)) (fun y => n1 - y.i)
    ⟨0, M1, M, newD self qh qb qg, 0, [], [], [], ⟨none, 0, 0, none, 0, 0, none, 0, 0⟩, []⟩ ⟨by simp, Mem.le_refl _, ⟨h1, DocAt.new _ _ _ _ _, RelS.nil⟩, by simp, by simp, rfl, rfl, rfl, rfl, fun _ => rfl⟩ ⟨(by repeat' first | exact True.intro | refine ⟨rfl, ?_⟩), (by repeat' first | exact True.intro | refine ⟨rfl, ?_⟩), Mem.le_refl _, rfl⟩ ?_
  rintro ⟨i, Mc, B, S, came, xs, es, L, D, ms⟩ ⟨hi, hMB, hBo, hca, hkn, hs1, hs2, hs3, hs4, hnew⟩
  dsimp only at hi hMB hBo hca hkn hs1 hs2 hs3 hs4 hnew
  (conv => whnf); refine brn (fun g => ?_) (fun g => ?_)
  rotate_left
  · repeat' ((conv => whnf); first | refine ⟨?_, True.intro⟩ | refine brn_t rfl ?_ | refine brn_f rfl ?_ | refine ob rfl ?_ | refine ob (by decide) ?_ | refine grow_same (Mem.le_refl _) ?_ | refine ob (Mem.le_refl _) ?_ | refine ⟨_, Mem.le_refl _, ?_⟩ | fail)
    exact .inr ⟨hg, B, p, b, sp, sb, S, came, xs, es, L, D, ms, rfl, hMB, hBo, by omega, by omega, hs1, hs2, hs3, hs4, hnew⟩
  have hlt : i < n1 := by have := of_decide_eq_true g; dsimp only at this; omega
  obtain ⟨hil, bb, o, a2, c2, ha, hrow, hd, hd1, hd2⟩ := ev_at hcutM hlt
  generalize (l.take 50)[i] = x at *
  have hM := Mem.le_trans hMB hBo.own.le
  (conv => whnf); refine ob (by first | omega | (dsimp only; omega)) ?_
  (conv => whnf); refine atp ha ?_
  (conv => whnf); refine on (Mem.row_le hM hrow) ?_
  (conv => whnf); refine (Apply15_ok hBo.own x.kind x.id (hd.le hM) hd1 (by omega)).mono ?_
  intro v M3 ho
  obtain ⟨e, rfl, he, hle3, hstep⟩ := hBo.step ho (by omega) (hd.le hMB) hd1
  repeat' ((conv => whnf); first | refine ⟨?_, True.intro⟩ | refine brn_t rfl ?_ | refine brn_f rfl ?_ | refine ob rfl ?_ | refine ob (by decide) ?_ | refine grow_same (Mem.le_refl _) ?_ | refine ob (Mem.le_refl _) ?_ | refine ⟨_, Mem.le_refl _, ?_⟩ | fail)
  refine ob (by first | omega | (dsimp only; omega)) ?_
  (conv => whnf); refine atp ha ?_
  (conv => whnf); refine on (Mem.row_le (Mem.le_trans hMB hle3) hrow) ?_
  repeat' ((conv => whnf); first | refine ⟨?_, True.intro⟩ | refine brn_t rfl ?_ | refine brn_f rfl ?_ | refine ob rfl ?_ | refine ob (by decide) ?_ | refine grow_same (Mem.le_refl _) ?_ | refine ob (Mem.le_refl _) ?_ | refine ⟨_, Mem.le_refl _, ?_⟩ | fail)
  refine hstep.mono ?_
  rintro v M4 ⟨B', came', xs', es', L', D', ms', rfl, hcm, hBB, hkn', hBo'⟩
  repeat' ((conv => whnf); first | refine ⟨?_, True.intro⟩ | refine brn_t rfl ?_ | refine brn_f rfl ?_ | refine ob rfl ?_ | refine ob (by decide) ?_ | refine grow_same (Mem.le_refl _) ?_ | refine ob (Mem.le_refl _) ?_ | refine ⟨_, Mem.le_refl _, ?_⟩ | fail)
  refine ob (inR_i64 (by first | omega | (dsimp only; omega))) ?_
  (conv => whnf)
  refine ⟨⟨i + 1, M4, B', if e = 0 then applyD S x.kind x.id x.p else S, came', xs', es', L', D', ms'⟩, ⟨by dsimp only; omega, Mem.le_trans hMB hBB, hBo', by dsimp only; omega, by dsimp only; omega, ?_, ?_, ?_, ?_, ?_⟩, by dsimp only; omega, ⟨(by repeat' first | exact True.intro | refine ⟨rfl, ?_⟩), (by repeat' first | exact True.intro | refine ⟨rfl, ?_⟩), Mem.le_refl _, rfl⟩⟩
  · dsimp only; split
    · rw [← hs1]; exact applyD_self
    · exact hs1
  · dsimp only; split
    · rw [← hs2]; exact applyD_qh
    · exact hs2
  · dsimp only; split
    · rw [← hs3]; exact applyD_qb
    · exact hs3
  · dsimp only; split
    · rw [← hs4]; exact applyD_qg
    · exact hs4
  · intro e0; subst e0; simp at hil
end Go.Proofs.Ytlocjjponfbhmaa

/- The store: what is held, in order. -/
namespace Go.Proofs.Ytlocjjponfbhmaa
open Go Go.Vm
attribute [local irreducible] Brn Ob Grow CallsM inR LoopVC Mem.row Mem.cells Mem.setCells Mem.upd Own AppVC SrcVC StrVC NextVC New SrcOk subA NewSl Mem.textAt Mem.mapAt Mem.iterAt entryOf kfind Wr NewEls Elems
set_option maxRecDepth 10000
variable {M M0 : Mem} {p b sp sb : Nat} {S : StR} {came : Int} {xs : HsT} {es : EsT}
@[reducible] def encP (x : PX) : List Value := [.int .i64 x.id.o, .int .i64 x.id.d, .int .i64 x.id.e, .int .i64 x.id.c, .slice x.a x.p.length x.c, .int .i64 x.n]
theorem encP_len (x : PX) : (encP x).length = 6 := rfl
theorem encP_one (x : PX) : ∀ v ∈ encP x, v.oneCell' = true := by
  intro v hv
  simp only [encP, List.mem_cons, List.not_mem_nil, or_false] at hv
  rcases hv with rfl | rfl | rfl | rfl | rfl | rfl <;> rfl
/-- a place whose number is small -/
structure PB where
  x : PX
  h : 0 ≤ x.n ∧ x.n ≤ 4611686018427387904
instance : Inhabited PB := ⟨⟨⟨⟨0, 0, 0, 0⟩, none, 0, [], 0⟩, by simp⟩⟩
def encB (x : PB) : List Value := encP x.x
def cmpP (x y : PB) : Int := x.x.n - y.x.n
theorem cmpP_ok (x y : PB) : CallsM Try.prog F.store_Store_Held_1 [.agg (encB x).toArray, .agg (encB y).toArray] M fun v _ => v = .int .i64 (cmpP x y) := by
  obtain ⟨x, hx⟩ := x
  obtain ⟨y, hy⟩ := y
  unfold encB cmpP
  refine fo_store_Store_Held_1 (by simp) ?_
  (conv => whnf); refine ob (inR_i64 (by first | omega | (dsimp only; omega))) ?_
  (conv => whnf)
theorem cmpP_swo : Go.Sort.SWO (Go.Proofs.ltOf cmpP) := by
  have h : ∀ x y : PB, Go.Proofs.ltOf cmpP x y = decide (x.x.n < y.x.n) := fun x y => by
    unfold Go.Proofs.ltOf cmpP
    rw [decide_eq_decide]
    omega
  refine ⟨fun x => ?_, fun x y z => ?_, fun x y z => ?_⟩ <;> simp only [h, decide_eq_true_eq, decide_eq_false_iff_not] <;> omega
theorem perm_sorted : ∀ {l l' : List PX}, l.Perm l' → l.Pairwise (fun x y => x.n < y.n) → l'.Pairwise (fun x y => x.n ≤ y.n) → l = l'
  | [], l', hp, _, _ => (List.nil_perm.1 hp).symm
  | x :: r, l', hp, h1, h2 => by
    cases l' with
    | nil => exact absurd hp.length_eq (by simp)
    | cons y r' =>
      have hxy : x = y := by
        rcases List.mem_cons.1 (hp.mem_iff.1 (by simp : x ∈ x :: r)) with e | e
        · exact e
        · rcases List.mem_cons.1 (hp.mem_iff.2 (by simp : y ∈ y :: r')) with e' | e'
          · exact e'.symm
          · have g1 := (List.pairwise_cons.1 h1).1 y e'
            have g2 := (List.pairwise_cons.1 h2).1 x e
            omega
      subst hxy
      rw [perm_sorted (List.Perm.cons_inv hp) (List.pairwise_cons.1 h1).2 (List.pairwise_cons.1 h2).2]
theorem to_PB : ∀ (l : List PX), (∀ x ∈ l, 0 ≤ x.n ∧ x.n ≤ 4611686018427387904) → ∃ l' : List PB, l'.map PB.x = l
  | [], _ => ⟨[], rfl⟩
  | x :: r, h => by
    obtain ⟨r', hr⟩ := to_PB r fun y hy => h y (by simp [hy])
    exact ⟨⟨x, h x (by simp)⟩ :: r', by simp [hr]⟩
theorem encB_flat (l : List PB) : l.flatMap encB = (l.map PB.x).flatMap encP := by
  rw [List.flatMap_map]; rfl
/-- messages in new memory -/
structure HeldAt (M0 : Mem) (a : Option Addr) (n c : Nat) (ms : List MX) (M' : Mem) : Prop where
  row : NewSl M0 T.api_Msg 5 a n c (ms.flatMap encX) M'
  data : ∀ m ∈ ms, NewSl M0 T.uint8 1 m.a m.p.length m.c (m.p.map byteV) M'
theorem HeldAt.msgs {a : Option Addr} {n c : Nat} {ms : List MX} {M' : Mem} (h : HeldAt M0 a n c ms M') : MsgsR M' a n ms := ⟨h.row.src, fun m hm => (h.data m hm).src⟩
theorem HeldAt.up {a : Option Addr} {n c : Nat} {ms : List MX} {M' M2 : Mem} (h : HeldAt M0 a n c ms M') (hle : M'.le M2) : HeldAt M0 a n c ms M2 := ⟨h.row.up hle, fun m hm => (h.data m hm).up hle⟩
theorem HeldAt.len {a : Option Addr} {n c : Nat} {ms : List MX} {M' : Mem} (h : HeldAt M0 a n c ms M') : ms.length = n := h.row.src.flen encX_len (by decide)
@[reducible] def mxOf (x : PX) (a : Option Addr) (c : Nat) : MX := ⟨x.id, a, c, x.p⟩
theorem Held_ok (h : FreshSt M0 M p b sp sb S came xs es) (hcm : came ≤ 4611686018427387904) : CallsM Try.prog F.store_Store_Held [ptr p] M fun v M' =>
    ∃ a n c ms, v = .slice a n c ∧ HeldAt M a n c ms M' ∧ ms.map MX.msg = S.l := by
  refine fo_store_Store_Held (by simp) ?_
  have hA := h.at'
  have hI := h.inv
  have hqh := hI.qh
  have hxl : xs.length = S.l.length := by rw [← hA.held, List.length_map]
  have hpl : ∀ q ∈ xs, q.2.p.length ≤ 48 := fun q hq => by
    have hm : q.2.msg ∈ S.l := by rw [← hA.held]; exact List.mem_map.2 ⟨q, hq, rfl⟩
    exact (msgErr_zero (hI.msgs _ hm).1).2.2
  (conv => whnf); refine brn_f rfl ?_
  (conv => whnf); refine on (hA.self.c1 (stCs_map hI.ulen ..)) ?_
  (conv => whnf)
  refine hA.map.range fun q bi hbi hIt => ?_
  replace hbi : M bi = none := hbi
  (conv => whnf)
  refine loopF (σ := Mem × (Option Addr × Nat × Nat) × List PX × HsT) [3] (fun x => [(3, .slice x.2.1.1 x.2.1.2.1 x.2.1.2.2)]) (fun _ => []) (fun x => x.1)
    (fun | ⟨M1, (a, n, c), l, todo⟩ => NewSl M T.store_place 6 a n c (l.flatMap encP) M1 ∧ Iter idA pxV M1 bi b xs todo ∧ (l ++ todo.map (·.2)).Perm (xs.map (·.2))) (fun x => x.2.2.2.length) ⟨_, (none, 0, 0), [], xs⟩
    ⟨(NewSl.none M _ _).up (Mem.le_upd hbi), hIt, .refl _⟩ ⟨(by repeat' first | exact True.intro | refine ⟨rfl, ?_⟩), (by repeat' first | exact True.intro | refine ⟨rfl, ?_⟩), Mem.le_refl _, rfl⟩ ?_
  rintro ⟨M1, ⟨a, n, c⟩, l, todo⟩ ⟨hN, hI1, hperm⟩
  (conv => whnf)
  refine hI1.next (fun h0 => ?_) (fun i k todo' o' hperm2 hI2 hent => ?_)
  · subst h0
    simp only [List.map_nil, List.append_nil] at hperm
    have hll : l.length = n := hN.src.flen encP_len (by decide)
    have hbl : ∀ x ∈ l, 0 ≤ x.n ∧ x.n ≤ 4611686018427387904 := fun x hx => by
      obtain ⟨q, hq, rfl⟩ := List.mem_map.1 (hperm.mem_iff.1 hx)
      have := hA.came.2 q hq
      omega
    obtain ⟨lb, rfl⟩ := to_PB l hbl
    rw [← encB_flat] at hN
    have hnx : n = xs.length := by have := hperm.length_eq; simp at this hll; omega
    repeat' ((conv => whnf); first | refine ⟨?_, True.intro⟩ | refine brn_t rfl ?_ | refine brn_f rfl ?_ | refine ob rfl ?_ | refine ob (by decide) ?_ | refine grow_same (Mem.le_refl _) ?_ | refine ob (Mem.le_refl _) ?_ | refine ⟨_, Mem.le_refl _, ?_⟩ | fail)
    refine (sortF_ok Try.laysP (by kernel_rfl) (enc := encB) (k := 6) (by decide) Try.isAgg94 Try.sizeOf94 (fun x : PB => encP_len x.x) (fun x : PB => encP_one x.x) cmpP_swo (g := F.store_Store_Held_1) (fun args w => enters_run (by kernel_rfl) args w) (fun x y => cmpP_ok x y) hN.wr (by omega)).mono ?_
    rintro v M5 ⟨rfl, l', hp', hs', hw', hk'⟩
    have hN5 := hN.ofWr hw' hk' rfl
    rw [encB_flat] at hN5
    have hl' : l'.map PB.x = xs.map (·.2) := by
      refine (perm_sorted ((hp'.map PB.x).trans hperm).symm ?_ ?_).symm
      · rw [List.pairwise_map]; exact hA.ord
      · rw [List.pairwise_map]
        refine hs'.imp fun {x y} hxy => ?_
        unfold cmpP at hxy
        omega
    rw [hl'] at hN5
    have hle5 : M.le M5 := hN5.le
    (conv => whnf)
    refine loopF (σ := Nat × Mem × (Option Addr × Nat) × List MX) [28, 6] (fun x => [(28, .int .i64 x.1), (6, .slice x.2.2.1.1 x.2.2.2.length x.2.2.1.2)]) (fun _ => []) (fun x => x.2.1)
      (fun | ⟨j, M6, (a6, c6), ms⟩ => j ≤ n ∧ HeldAt M5 a6 ms.length c6 ms M6 ∧ ms.map MX.msg = (xs.take j).map (fun q => q.2.msg)) (fun x => n - x.1) ⟨0, M5, (none, 0), []⟩
      ⟨by omega, ⟨NewSl.none M5 _ _, by simp⟩, by simp⟩ ⟨(by repeat' first | exact True.intro | refine ⟨rfl, ?_⟩), (by repeat' first | exact True.intro | refine ⟨rfl, ?_⟩), Mem.le_refl _, rfl⟩ ?_
    rintro ⟨j, M6, ⟨a6, c6⟩, ms⟩ ⟨hj, hH, hms⟩
    have hle6 := hH.row.le
    have hmsl : ms.length = j := by have := congrArg List.length hms; simp at this; omega
    (conv => whnf); refine brn (fun g => ?_) (fun g => ?_)
    rotate_left
    · have hge : n ≤ j := by have := of_decide_eq_false g; dsimp only at this; omega
      rw [List.take_of_length_le (by omega), hA.held] at hms
      repeat' ((conv => whnf); first | refine ⟨?_, True.intro⟩ | refine brn_t rfl ?_ | refine brn_f rfl ?_ | refine ob rfl ?_ | refine ob (by decide) ?_ | refine grow_same (Mem.le_refl _) ?_ | refine ob (Mem.le_refl _) ?_ | refine ⟨_, Mem.le_refl _, ?_⟩ | fail)
      exact ⟨a6, _, c6, ms, rfl, ⟨hH.row.mono hle5, fun m hm => (hH.data m hm).mono hle5⟩, hms⟩
    have hlt : j < n := by have := of_decide_eq_true g; dsimp only at this; omega
    have hjx : j < xs.length := by omega
    have hx : (xs.map (·.2))[j]? = some xs[j].2 := by rw [List.getElem?_map, List.getElem?_eq_getElem hjx]; rfl
    obtain ⟨b1, o1, ha, hcc⟩ := hN5.src.fparts encP_len (by decide) hx
    have htk : xs.take (j + 1) = xs.take j ++ [xs[j]] := by rw [List.take_add_one, List.getElem?_eq_getElem hjx]; rfl
    have hmem : xs[j] ∈ xs := List.getElem_mem _
    generalize xs[j] = q at *
    have hd6 := (hA.data q hmem).src.le (Mem.le_trans hle5 hle6)
    have hq48 := hpl q hmem
    (conv => whnf); refine ob (by first | omega | (dsimp only; omega)) ?_
    (conv => whnf); refine atp ha ?_
    (conv => whnf); refine on (Mem.row_le hle6 (hcc 0 6 (by decide))) ?_
    repeat' ((conv => whnf); first | refine ⟨?_, True.intro⟩ | refine brn_t rfl ?_ | refine brn_f rfl ?_ | refine ob rfl ?_ | refine ob (by decide) ?_ | refine grow_same (Mem.le_refl _) ?_ | refine ob (Mem.le_refl _) ?_ | refine ⟨_, Mem.le_refl _, ?_⟩ | fail)
    refine new (fun b9 hb9 => ?_)
    replace hb9 : M6 b9 = none := hb9
    have hN7 : NewSl M6 T.uint8 1 (some ⟨b9, 0, none⟩) 0 0 (([] : List UInt8).map byteV) _ := NewSl.lit hb9 T.uint8 1 0 [] rfl
    obtain ⟨M7, hM7⟩ : ∃ M7, M7 = M6.setCells b9 T.uint8 [] := ⟨_, rfl⟩
    rw [← hM7] at hN7
    (conv => whnf)
    erw [← hM7]
    repeat' ((conv => whnf); first | refine ⟨?_, True.intro⟩ | refine brn_t rfl ?_ | refine brn_f rfl ?_ | refine ob rfl ?_ | refine ob (by decide) ?_ | refine grow_same (Mem.le_refl _) ?_ | refine ob (Mem.le_refl _) ?_ | refine ⟨_, Mem.le_refl _, ?_⟩ | fail)
    refine srcv (hd6.le hN7.le) ?_
    (conv => whnf); refine appN M6 _ hN7 (by first | omega | (dsimp only; omega)) (by simp [maxLen] <;> omega) (bytes_one _) fun a8 c8 M8 hN8 => ?_
    rw [Nat.zero_add q.2.p.length] at hN8
    rw [Nat.zero_add q.2.p.length]
    have hH8 := hH.up hN8.le
    repeat' ((conv => whnf); first | refine ob rfl ?_ | refine grow_same hN8.le ?_ | refine ob hN8.le ?_ | refine ⟨?_, True.intro⟩ | fail)
    repeat' ((conv => whnf); first | refine ⟨?_, True.intro⟩ | refine brn_t rfl ?_ | refine brn_f rfl ?_ | refine ob rfl ?_ | refine ob (by decide) ?_ | refine grow_same (Mem.le_refl _) ?_ | refine ob (Mem.le_refl _) ?_ | refine ⟨_, Mem.le_refl _, ?_⟩ | fail)
    refine appF M5 hH8.row (mxOf q.2 a8 c8) rfl (by first | omega | (dsimp only; omega)) (by simp [maxLen]; omega) (by simp [Value.oneCell']) fun a9 c9 M9 hN9 hk9 => ?_
    have hfr : ∀ y, blk a6 y → M5 y = none := fun y ⟨q, hq, e⟩ => e ▸ (hH8.row.block hq).1
    have hnew : NewSl M5 T.uint8 1 a8 q.2.p.length c8 (q.2.p.map byteV) M8 := hN8.mono hle6
    repeat' ((conv => whnf); first | refine ⟨?_, True.intro⟩ | refine brn_t rfl ?_ | refine brn_f rfl ?_ | refine ob rfl ?_ | refine ob (by decide) ?_ | refine grow_same (Mem.le_refl _) ?_ | refine ob (Mem.le_refl _) ?_ | refine ⟨_, Mem.le_refl _, ?_⟩ | fail)
    refine ob (inR_i64 (by first | omega | (dsimp only; omega))) ?_
    (conv => whnf)
    refine ⟨⟨j + 1, M9, (a9, c9), ms ++ [mxOf q.2 a8 c8]⟩, ⟨by omega, ⟨by simpa using hN9, fun m hm => ?_⟩, ?_⟩, by dsimp only; omega, ?_⟩
    · rcases List.mem_append.1 hm with hm | hm
      · exact (hH8.data m hm).keep hk9 hfr fun q hq ⟨q', hq', e⟩ => hH8.row.ne (hH8.data m hm) (by decide) hq' hq e
      · simp only [List.mem_singleton] at hm
        subst hm
        exact hnew.keep hk9 hfr fun q hq ⟨q', hq', e⟩ => hH8.row.ne hnew (by decide) hq' hq e
    · rw [List.map_append, hms, htk, List.map_append]; rfl
    · simp only [List.length_append, List.length_cons, List.length_nil]
      exact ⟨(by repeat' first | exact True.intro | refine ⟨rfl, ?_⟩), (by repeat' first | exact True.intro | refine ⟨rfl, ?_⟩), Mem.le_refl _, rfl⟩
  · have hk2 : Mem.keep (fun y => y = bi) M1 (M1.upd bi o') := Mem.keep_upd _ _ rfl
    have hN2 : NewSl M T.store_place 6 a n c (l.flatMap encP) (M1.upd bi o') := hN.keep hk2 (fun y e => e ▸ hbi) (fun q hq e => by
      obtain ⟨_, cs, hh⟩ := hN.block hq
      exact (hI1.nb hh).1 e)
    obtain ⟨M2, hM2⟩ : ∃ M2, M2 = M1.upd bi o' := ⟨_, rfl⟩
    rw [← hM2] at hI2 hent hN2
    have hlt : l.length < xs.length := by have := hperm.length_eq; have := hperm2.length_eq; simp at *; omega
    have hll : l.length = n := hN2.src.flen encP_len (by decide)
    (conv => whnf)
    erw [← hM2]
    repeat' ((conv => whnf); first | refine ⟨?_, True.intro⟩ | refine brn_t rfl ?_ | refine brn_f rfl ?_ | refine ob rfl ?_ | refine ob (by decide) ?_ | refine grow_same (Mem.le_refl _) ?_ | refine ob (Mem.le_refl _) ?_ | refine ⟨_, Mem.le_refl _, ?_⟩ | fail)
    refine on hent ?_
    repeat' ((conv => whnf); first | refine ⟨?_, True.intro⟩ | refine brn_t rfl ?_ | refine brn_f rfl ?_ | refine ob rfl ?_ | refine ob (by decide) ?_ | refine grow_same (Mem.le_refl _) ?_ | refine ob (Mem.le_refl _) ?_ | refine ⟨_, Mem.le_refl _, ?_⟩ | fail)
    refine appF M hN2 k (by simp) (by first | omega | (dsimp only; omega)) (by simp [maxLen]; omega) (by simp [Value.oneCell']) fun a6 c6 M6 hN6 hk6 => ?_
    have hnb : ∀ y, blk a y → y ≠ bi ∧ y ≠ b := fun y ⟨q, hq, e⟩ => by
      obtain ⟨_, cs, hh⟩ := hN2.block hq
      exact e ▸ hI2.nb hh
    have hI6 := hI2.keep hk6 (fun hb => (hnb _ hb).1 rfl) (fun hb => (hnb _ hb).2 rfl)
    (conv => whnf)
    refine ⟨⟨M6, (a6, n + 1, c6), l ++ [k], todo'⟩, ⟨hN6, hI6, ?_⟩, by have := hperm2.length_eq; simp at this ⊢; omega, ⟨(by repeat' first | exact True.intro | refine ⟨rfl, ?_⟩), (by repeat' first | exact True.intro | refine ⟨rfl, ?_⟩), Mem.le_refl _, rfl⟩⟩
    refine List.Perm.trans ?_ hperm
    rw [List.append_assoc]
    refine List.Perm.append_left _ ?_
    have := hperm2.map (·.2)
    simpa using this.symm
end Go.Proofs.Ytlocjjponfbhmaa

