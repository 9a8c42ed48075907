/- The document's store: New, Fresh, Find, Seen. -/
import Derived.Test.YtlocjjponfbhmaaJoin26
import Derived.Test.YtlocjjponfbhmaaJoin24
import Derived.Test.YtlocjjponfbhmaaBridge
namespace Go.Proofs.Ytlocjjponfbhmaa
open Go Go.Vm
attribute [local irreducible] Brn Ob Grow CallsM inR LoopVC Mem.row Mem.cells Mem.setCells Mem.upd Own AppVC SrcVC StrVC NextVC New SrcOk subA NewSl Mem.textAt Mem.mapAt Mem.iterAt entryOf kfind Wr NewEls Elems
set_option maxRecDepth 10000
variable {M : Mem} {S : StR} {L : List K} {D : DocV} {ms : List MX}
theorem numberR_ok (n most : Int) : CallsM Try.prog F.ref15_number [.int .i64 n, .int .i64 most] M fun v M' => v = .bool (decide (0 ≤ n ∧ n ≤ most)) ∧ M = M' := by
  refine fo_ref15_number (by simp) ?_
  (conv => whnf); refine brn (fun h => ?_) (fun h => ?_)
  all_goals (conv => whnf)
  · exact ⟨by have := of_decide_eq_true h; simp_all, rfl⟩
  · exact ⟨by have := of_decide_eq_false h; simp_all; omega, rfl⟩
theorem new15R_ok (self qh qb qg : Int) : CallsM Try.prog F.ref15_New [.int .i64 self, .agg #[.int .i64 qh, .int .i64 qb, .int .i64 qg]] M fun v M' =>
    (badD self qh qb qg ∧ v = .tuple #[docV ⟨0, 0, 0, 0, 0, [], []⟩ ⟨none, 0, 0, none, 0, 0, none, 0, 0⟩, .int .i64 1] ∧ M = M') ∨
    (¬ badD self qh qb qg ∧ v = .tuple #[docV (newD self qh qb qg) ⟨none, 0, 0, none, 0, 0, none, 0, 0⟩, .int .i64 0] ∧ M = M') := by
  refine fo_ref15_New (by simp) ?_
  repeat' ((conv => whnf); first | refine ⟨?_, True.intro⟩ | refine brn_t rfl ?_ | refine brn_f rfl ?_ | refine ob rfl ?_ | refine ob (by decide) ?_ | refine grow_same (Mem.le_refl _) ?_ | refine ob (Mem.le_refl _) ?_ | refine ⟨_, Mem.le_refl _, ?_⟩ | fail)
  refine (numberR_ok _ _).mono ?_
  rintro v _ ⟨rfl, rfl⟩
  (conv => whnf); refine brn (fun g => ?_) (fun g => ?_)
  · (conv => whnf)
    repeat' ((conv => whnf); first | refine ⟨?_, True.intro⟩ | refine brn_t rfl ?_ | refine brn_f rfl ?_ | refine ob rfl ?_ | refine ob (by decide) ?_ | refine grow_same (Mem.le_refl _) ?_ | refine ob (Mem.le_refl _) ?_ | refine ⟨_, Mem.le_refl _, ?_⟩ | fail)
    exact .inl ⟨by unfold badD; simp only [Bool.not_eq_true', decide_eq_false_iff_not] at *; omega, rfl, rfl⟩
  (conv => whnf); refine (numberR_ok _ _).mono ?_
  rintro v _ ⟨rfl, rfl⟩
  (conv => whnf); refine brn (fun g1 => ?_) (fun g1 => ?_)
  · (conv => whnf)
    repeat' ((conv => whnf); first | refine ⟨?_, True.intro⟩ | refine brn_t rfl ?_ | refine brn_f rfl ?_ | refine ob rfl ?_ | refine ob (by decide) ?_ | refine grow_same (Mem.le_refl _) ?_ | refine ob (Mem.le_refl _) ?_ | refine ⟨_, Mem.le_refl _, ?_⟩ | fail)
    exact .inl ⟨by unfold badD; simp only [Bool.not_eq_true', decide_eq_false_iff_not] at *; omega, rfl, rfl⟩
  (conv => whnf); refine (numberR_ok _ _).mono ?_
  rintro v _ ⟨rfl, rfl⟩
  (conv => whnf); refine brn (fun g2 => ?_) (fun g2 => ?_)
  · (conv => whnf)
    repeat' ((conv => whnf); first | refine ⟨?_, True.intro⟩ | refine brn_t rfl ?_ | refine brn_f rfl ?_ | refine ob rfl ?_ | refine ob (by decide) ?_ | refine grow_same (Mem.le_refl _) ?_ | refine ob (Mem.le_refl _) ?_ | refine ⟨_, Mem.le_refl _, ?_⟩ | fail)
    exact .inl ⟨by unfold badD; simp only [Bool.not_eq_true', decide_eq_false_iff_not] at *; omega, rfl, rfl⟩
  (conv => whnf); refine (numberR_ok _ _).mono ?_
  rintro v _ ⟨rfl, rfl⟩
  (conv => whnf); refine brn (fun g3 => ?_) (fun g3 => ?_)
  · (conv => whnf)
    repeat' ((conv => whnf); first | refine ⟨?_, True.intro⟩ | refine brn_t rfl ?_ | refine brn_f rfl ?_ | refine ob rfl ?_ | refine ob (by decide) ?_ | refine grow_same (Mem.le_refl _) ?_ | refine ob (Mem.le_refl _) ?_ | refine ⟨_, Mem.le_refl _, ?_⟩ | fail)
    exact .inl ⟨by unfold badD; simp only [Bool.not_eq_true', decide_eq_false_iff_not] at *; omega, rfl, rfl⟩
  have hn : ¬ badD self qh qb qg := by
    unfold badD
    simp only [Bool.not_eq_false', decide_eq_true_eq] at *
    omega
  repeat' ((conv => whnf); first | refine ⟨?_, True.intro⟩ | refine brn_t rfl ?_ | refine brn_f rfl ?_ | refine ob rfl ?_ | refine ob (by decide) ?_ | refine grow_same (Mem.le_refl _) ?_ | refine ob (Mem.le_refl _) ?_ | refine ⟨_, Mem.le_refl _, ?_⟩ | fail)
  exact .inr ⟨hn, rfl, rfl⟩
theorem DocAt.new (M : Mem) (self qh qb qg : Int) : DocAt M (newD self qh qb qg) [] ⟨none, 0, 0, none, 0, 0, none, 0, 0⟩ [] :=
  ⟨by show SrcOk M 2 none 0 ((usedD (List.replicate 64 0)).flatMap encN); rw [usedD_zero]; exact SrcOk.nil _ _, ⟨SrcOk.nil _ _, by simp⟩, rfl, SrcOk.nil _ _, by simp⟩
theorem fresh15R_ok (h : DocAt M S L D ms) (hI : InvS S) (d : Int) : CallsM Try.prog F.ref15_Fresh [docV S D, .int .i64 d] M fun v M' =>
    v = .tuple #[idA (freshD S d).1, .int .i64 (freshD S d).2] ∧ M = M' := by
  refine fo_ref15_Fresh (by simp) ?_
  have hr := lastD_range hI d
  repeat' ((conv => whnf); first | refine ⟨?_, True.intro⟩ | refine brn_t rfl ?_ | refine brn_f rfl ?_ | refine ob rfl ?_ | refine ob (by decide) ?_ | refine grow_same (Mem.le_refl _) ?_ | refine ob (Mem.le_refl _) ?_ | refine ⟨_, Mem.le_refl _, ?_⟩ | fail)
  refine brn (fun g => ?_) (fun g => ?_)
  · have g1 : S.epoch = 0 := of_decide_eq_true g
    repeat' ((conv => whnf); first | refine ⟨?_, True.intro⟩ | refine brn_t rfl ?_ | refine brn_f rfl ?_ | refine ob rfl ?_ | refine ob (by decide) ?_ | refine grow_same (Mem.le_refl _) ?_ | refine ob (Mem.le_refl _) ?_ | refine ⟨_, Mem.le_refl _, ?_⟩ | fail)
    exact ⟨by unfold freshD; rw [if_pos g1], rfl⟩
  have g1 : ¬ S.epoch = 0 := of_decide_eq_false g
  repeat' ((conv => whnf); first | refine ⟨?_, True.intro⟩ | refine brn_t rfl ?_ | refine brn_f rfl ?_ | refine ob rfl ?_ | refine ob (by decide) ?_ | refine grow_same (Mem.le_refl _) ?_ | refine ob (Mem.le_refl _) ?_ | refine ⟨_, Mem.le_refl _, ?_⟩ | fail)
  refine (numberR_ok _ _).mono ?_
  rintro v _ ⟨rfl, rfl⟩
  (conv => whnf); refine brn (fun g2 => ?_) (fun g2 => ?_)
  · have g3 : ¬ (0 ≤ d ∧ d ≤ 63) := by simp at g2; omega
    repeat' ((conv => whnf); first | refine ⟨?_, True.intro⟩ | refine brn_t rfl ?_ | refine brn_f rfl ?_ | refine ob rfl ?_ | refine ob (by decide) ?_ | refine grow_same (Mem.le_refl _) ?_ | refine ob (Mem.le_refl _) ?_ | refine ⟨_, Mem.le_refl _, ?_⟩ | fail)
    exact ⟨by unfold freshD; rw [if_neg g1, if_pos g3], rfl⟩
  have g3 : 0 ≤ d ∧ d ≤ 63 := by simpa using g2
  (conv => whnf); refine brn (fun g4 => ?_) (fun g4 => ?_)
  · have g5 : d = S.self := of_decide_eq_true g4
    repeat' ((conv => whnf); first | refine ⟨?_, True.intro⟩ | refine brn_t rfl ?_ | refine brn_f rfl ?_ | refine ob rfl ?_ | refine ob (by decide) ?_ | refine grow_same (Mem.le_refl _) ?_ | refine ob (Mem.le_refl _) ?_ | refine ⟨_, Mem.le_refl _, ?_⟩ | fail)
    exact ⟨by unfold freshD; rw [if_neg g1, if_neg (by omega), if_pos g5], rfl⟩
  have g5 : ¬ d = S.self := of_decide_eq_false g4
  repeat' ((conv => whnf); first | refine ⟨?_, True.intro⟩ | refine brn_t rfl ?_ | refine brn_f rfl ?_ | refine ob rfl ?_ | refine ob (by decide) ?_ | refine grow_same (Mem.le_refl _) ?_ | refine ob (Mem.le_refl _) ?_ | refine ⟨_, Mem.le_refl _, ?_⟩ | fail)
  have hla := lastR_ok h hI.ulen d
  rw [lastD_usedD hI g3.1] at hla
  refine hla.mono ?_
  rintro v _ ⟨rfl, rfl⟩
  (conv => whnf); refine brn (fun g6 => ?_) (fun g6 => ?_)
  · have g7 : lastD S d = 65535 := by have := of_decide_eq_true g6; omega
    repeat' ((conv => whnf); first | refine ⟨?_, True.intro⟩ | refine brn_t rfl ?_ | refine brn_f rfl ?_ | refine ob rfl ?_ | refine ob (by decide) ?_ | refine grow_same (Mem.le_refl _) ?_ | refine ob (Mem.le_refl _) ?_ | refine ⟨_, Mem.le_refl _, ?_⟩ | fail)
    exact ⟨by unfold freshD; rw [if_neg g1, if_neg (by omega), if_neg g5, if_pos g7], rfl⟩
  have g7 : ¬ lastD S d = 65535 := by have := of_decide_eq_false g6; omega
  repeat' ((conv => whnf); first | refine ⟨?_, True.intro⟩ | refine brn_t rfl ?_ | refine brn_f rfl ?_ | refine ob rfl ?_ | refine ob (by decide) ?_ | refine grow_same (Mem.le_refl _) ?_ | refine ob (Mem.le_refl _) ?_ | refine ⟨_, Mem.le_refl _, ?_⟩ | fail)
  refine hla.mono ?_
  rintro v _ ⟨rfl, rfl⟩
  repeat' ((conv => whnf); first | refine ob rfl ?_ | refine grow_same (Mem.le_refl _) ?_ | refine ob (Mem.le_refl _) ?_ | refine ⟨?_, True.intro⟩ | fail)
  refine ob (inR_i64 (by omega)) ?_
  repeat' ((conv => whnf); first | refine ⟨?_, True.intro⟩ | refine brn_t rfl ?_ | refine brn_f rfl ?_ | refine ob rfl ?_ | refine ob (by decide) ?_ | refine grow_same (Mem.le_refl _) ?_ | refine ob (Mem.le_refl _) ?_ | refine ⟨_, Mem.le_refl _, ?_⟩ | fail)
  exact ⟨by unfold freshD; rw [if_neg g1, if_neg (by omega), if_neg g5, if_neg g7], rfl⟩
theorem find15R_ok (h : DocAt M S L D ms) (hI : InvS S) (i : IdT) : CallsM Try.prog F.ref15_Find [docV S D, idA i] M fun v M' => M = M' ∧
    ((v = .tuple #[.agg #[.int .i64 0, .int .i64 0, .int .i64 0, .int .i64 0, .slice none 0 0], .bool false] ∧ hasD S.l i = false) ∨
    (∃ a n c l, v = .tuple #[.agg #[.int .i64 i.o, .int .i64 i.d, .int .i64 i.e, .int .i64 i.c, .slice a n c], .bool true] ∧ hasD S.l i = true ∧ ⟨i, l⟩ ∈ S.l ∧ SrcOk M 1 a n (l.map byteV))) := by
  refine fo_ref15_Find (by simp) ?_
  have hl := h.row.len
  have hln := h.ln
  have hqh := hI.qh
  (conv => whnf)
  refine loopQ [6] (fun (j : Nat) => [(6, .int .i64 j)]) (fun j => j ≤ D.ln ∧ ∀ m ∈ ms.take j, m.id ≠ i) (fun j => D.ln - j) 0 ⟨by omega, by simp⟩ ⟨(by repeat' first | exact True.intro | refine ⟨rfl, ?_⟩), (by repeat' first | exact True.intro | refine ⟨rfl, ?_⟩), Mem.le_refl _, rfl⟩ ?_
  intro j ⟨hj, hnot⟩
  (conv => whnf); refine brn (fun g => ?_) (fun g => ?_)
  · have hlt : j < ms.length := by have := of_decide_eq_true g; omega
    have hx : ms[j]? = some ms[j] := List.getElem?_eq_getElem hlt
    obtain ⟨b, o, ha, hcc⟩ := h.row.row.fparts encX_len (by decide) hx
    have hin : ms[j] ∈ ms := List.getElem_mem _
    have htk : ms.take (j + 1) = ms.take j ++ [ms[j]] := by rw [List.take_add_one, hx]; rfl
    generalize ms[j] = x at *
    (conv => whnf); refine ob (by omega) ?_
    (conv => whnf); refine atp ha ?_
    (conv => whnf); refine on (hcc 0 4 (by decide)) ?_
    (conv => whnf); refine brn (fun g1 => ?_) (fun g1 => ?_)
    · have e1 : x.id = i := by
        obtain ⟨⟨x1, x2, x3, x4⟩, _, _, _⟩ := x
        obtain ⟨k1, k2, k3, k4⟩ := i
        simpa [and_assoc] using g1
      repeat' ((conv => whnf); first | refine ⟨?_, True.intro⟩ | refine brn_t rfl ?_ | refine brn_f rfl ?_ | refine ob rfl ?_ | refine ob (by decide) ?_ | refine grow_same (Mem.le_refl _) ?_ | refine ob (Mem.le_refl _) ?_ | refine ⟨_, Mem.le_refl _, ?_⟩ | fail)
      refine ob (by omega) ?_
      (conv => whnf); refine atp ha ?_
      (conv => whnf); refine on (hcc 0 5 (by decide)) ?_
      repeat' ((conv => whnf); first | refine ⟨?_, True.intro⟩ | refine brn_t rfl ?_ | refine brn_f rfl ?_ | refine ob rfl ?_ | refine ob (by decide) ?_ | refine grow_same (Mem.le_refl _) ?_ | refine ob (Mem.le_refl _) ?_ | refine ⟨_, Mem.le_refl _, ?_⟩ | fail)
      subst e1
      have hxl : x.msg ∈ S.l := by rw [← h.msgs]; exact List.mem_map.2 ⟨x, hin, rfl⟩
      have : hasD S.l x.id = true := by
        unfold hasD
        rw [List.any_eq_true]
        exact ⟨x.msg, hxl, by simp⟩
      exact ⟨rfl, .inr ⟨x.a, x.p.length, x.c, x.p, rfl, this, hxl, h.row.data x hin⟩⟩
    · (conv => whnf); refine ob (inR_i64 (by omega)) ?_
      (conv => whnf)
      refine ⟨j + 1, ⟨by omega, ?_⟩, by omega, ⟨(by repeat' first | exact True.intro | refine ⟨rfl, ?_⟩), (by repeat' first | exact True.intro | refine ⟨rfl, ?_⟩), Mem.le_refl _, rfl⟩⟩
      rw [htk]
      intro m hm
      rcases List.mem_append.1 hm with hm | hm
      · exact hnot m hm
      · simp only [List.mem_singleton] at hm
        subst hm
        intro e
        subst e
        simp at g1
  · have hge : D.ln ≤ j := by have := of_decide_eq_false g; omega
    rw [List.take_of_length_le (by omega)] at hnot
    have : hasD S.l i = false := by
      unfold hasD
      rw [List.any_eq_false, ← h.msgs]
      intro m hm
      obtain ⟨x, hx, rfl⟩ := List.mem_map.1 hm
      simpa using hnot x hx
    repeat' ((conv => whnf); first | refine ⟨?_, True.intro⟩ | refine brn_t rfl ?_ | refine brn_f rfl ?_ | refine ob rfl ?_ | refine ob (by decide) ?_ | refine grow_same (Mem.le_refl _) ?_ | refine ob (Mem.le_refl _) ?_ | refine ⟨_, Mem.le_refl _, ?_⟩ | fail)
    exact ⟨rfl, .inl ⟨rfl, this⟩⟩
theorem seen15R_ok (h : DocAt M S L D ms) (i : IdT) : CallsM Try.prog F.ref15_Seen [docV S D, idA i] M fun v M' => v = .bool (decide (i.d = S.self) && hasK L i.o i.d i.e i.c) ∧ M = M' := by
  refine fo_ref15_Seen (by simp) ?_
  repeat' ((conv => whnf); first | refine ⟨?_, True.intro⟩ | refine brn_t rfl ?_ | refine brn_f rfl ?_ | refine ob rfl ?_ | refine ob (by decide) ?_ | refine grow_same (Mem.le_refl _) ?_ | refine ob (Mem.le_refl _) ?_ | refine ⟨_, Mem.le_refl _, ?_⟩ | fail)
  refine brn (fun g => ?_) (fun g => ?_)
  · have g1 : i.d = S.self := of_decide_eq_true g
    repeat' ((conv => whnf); first | refine ⟨?_, True.intro⟩ | refine brn_t rfl ?_ | refine brn_f rfl ?_ | refine ob rfl ?_ | refine ob (by decide) ?_ | refine grow_same (Mem.le_refl _) ?_ | refine ob (Mem.le_refl _) ?_ | refine ⟨_, Mem.le_refl _, ?_⟩ | fail)
    refine (hasR_ok h.keys (by have := h.few; omega) S.qg i.o i.d i.e i.c).mono ?_
    rintro v _ ⟨rfl, rfl⟩
    repeat' ((conv => whnf); first | refine ⟨?_, True.intro⟩ | refine brn_t rfl ?_ | refine brn_f rfl ?_ | refine ob rfl ?_ | refine ob (by decide) ?_ | refine grow_same (Mem.le_refl _) ?_ | refine ob (Mem.le_refl _) ?_ | refine ⟨_, Mem.le_refl _, ?_⟩ | fail)
    exact ⟨by rw [decide_eq_true g1, Bool.true_and], rfl⟩
  · have g1 : ¬ i.d = S.self := of_decide_eq_false g
    repeat' ((conv => whnf); first | refine ⟨?_, True.intro⟩ | refine brn_t rfl ?_ | refine brn_f rfl ?_ | refine ob rfl ?_ | refine ob (by decide) ?_ | refine grow_same (Mem.le_refl _) ?_ | refine ob (Mem.le_refl _) ?_ | refine ⟨_, Mem.le_refl _, ?_⟩ | fail)
    exact ⟨by rw [decide_eq_false g1, Bool.false_and], rfl⟩
end Go.Proofs.Ytlocjjponfbhmaa

/- The store: calls beside it; awake; quota; events, cut. -/
namespace Go.Proofs.Ytlocjjponfbhmaa
open Go Go.Vm
attribute [local irreducible] Brn Ob Grow CallsM inR LoopVC Mem.row Mem.cells Mem.setCells Mem.upd Own AppVC SrcVC StrVC NextVC New SrcOk subA NewSl Mem.textAt Mem.mapAt Mem.iterAt entryOf kfind Wr NewEls Elems
set_option maxRecDepth 10000
variable {M M0 : Mem} {p b sp sb : Nat} {S : StR} {came : Int} {xs : HsT} {es : EsT}
theorem StAt.some (h : StAt M p b sp sb S came xs es) (hE : InvE es) (hg : (gapsE es : Int) ≤ S.qg ∧ S.qg ≤ 256) {y : Nat} (hy : stB p b sp sb xs es y) : M y ≠ none := by
  rcases hy with rfl | rfl | ⟨q, hq, hy⟩ | hy
  · have := h.self; unfold Mem.has at this; rw [this]; simp
  · obtain ⟨l, c, hh, _⟩ := h.map; rw [hh]; simp
  · obtain ⟨cs, hc⟩ := h.dhas hq hy
    unfold Mem.has at hc; rw [hc]; simp
  · have hF : FreshS (M.minus (setB sp sb es)) M sp sb S.qg es := ⟨Mem.minus_le _ _, h.set, hE, hg, fun _ hy => Mem.minus_in hy⟩
    exact hF.some hy
theorem FreshSt.some (h : FreshSt M0 M p b sp sb S came xs es) {y : Nat} (hy : stB p b sp sb xs es y) : M y ≠ none := h.at'.some h.invE h.room hy
theorem FreshSt.base (h : FreshSt M0 M p b sp sb S came xs es) : FreshSt (M.minus (stB p b sp sb xs es)) M p b sp sb S came xs es ∧ M0.le (M.minus (stB p b sp sb xs es)) :=
  ⟨⟨Mem.minus_le _ _, h.at', h.inv, h.invE, h.room, fun _ hy => Mem.minus_in hy⟩, Mem.le_minus h.le h.fresh⟩
/-- a call that does not touch the store -/
theorem FreshSt.aside (h : FreshSt M0 M p b sp sb S came xs es) {f : Nat} {args : List Value} {R : Value → Mem → Prop} (hc : CallsM Try.prog f args (M.minus (stB p b sp sb xs es)) R) :
    CallsM Try.prog f args M fun v M' => ∃ A, R v A ∧ FreshSt A M' p b sp sb S came xs es :=
  (hc.frame (Mem.minus_le _ _)).mono fun v M' ⟨A, hR, hle, hk⟩ => by
    have hkk : ∀ y o, stB p b sp sb xs es y → M y = Option.some o → M' y = Option.some o ∧ A y = none := fun y o hy ho => hk y o (Mem.minus_in hy) ho
    refine ⟨A, hR, hle, h.at'.mono fun y o hy ho => (hkk y o hy ho).1, h.inv, h.invE, h.room, fun y hy => ?_⟩
    cases e : M y with
    | none => exact absurd e (h.some hy)
    | some o => exact (hkk y o hy e).2
theorem quota_ok : CallsM Try.prog F.law15_quota [] M fun v M' => v = .agg #[.int .i64 256, .int .i64 1048576, .int .i64 256] ∧ M = M' := by
  refine fo_law15_quota (by simp) ?_
  repeat' ((conv => whnf); first | refine ⟨?_, True.intro⟩ | refine brn_t rfl ?_ | refine brn_f rfl ?_ | refine ob rfl ?_ | refine ob (by decide) ?_ | refine grow_same (Mem.le_refl _) ?_ | refine ob (Mem.le_refl _) ?_ | refine ⟨_, Mem.le_refl _, ?_⟩ | fail)
  exact ⟨rfl, rfl⟩
def awS1 : StR := ⟨1, 256, 1048576, 256, 1, List.replicate 64 0, []⟩
def awI : IdT := ⟨1, 2, 1, 1⟩
theorem aw1 (set : IdT → Int) : mayD (newD 1 256 1048576 256) set 1 ⟨0, 0, 0, 0⟩ 0 = 0 := by kernel_rfl
theorem aw2 : applyD (newD 1 256 1048576 256) 1 ⟨0, 0, 0, 0⟩ [] = awS1 := by kernel_rfl
theorem aw3 : freshD awS1 2 = (awI, 0) := by kernel_rfl
theorem aw4 (set : IdT → Int) : mayD awS1 set 2 awI 1 = 0 := by kernel_rfl
theorem aw5 : (applyD awS1 2 awI [97]).l = [⟨awI, [97]⟩] := by kernel_rfl
theorem awake_ok : CallsM Try.prog F.law15_awake [] M fun v M' => v = .bool true ∧ M.le M' := by
  refine fo_law15_awake (by simp) ?_
  (conv => whnf); refine quota_ok.mono ?_
  rintro v _ ⟨rfl, rfl⟩
  repeat' ((conv => whnf); first | refine ⟨?_, True.intro⟩ | refine brn_t rfl ?_ | refine brn_f rfl ?_ | refine ob rfl ?_ | refine ob (by decide) ?_ | refine grow_same (Mem.le_refl _) ?_ | refine ob (Mem.le_refl _) ?_ | refine ⟨_, Mem.le_refl _, ?_⟩ | fail)
  refine (New15_ok 1 256 1048576 256).mono ?_
  rintro v M1 (⟨h, -⟩ | ⟨-, p, b, sp, sb, rfl, h1⟩)
  · unfold badD at h; omega
  repeat' ((conv => whnf); first | refine ⟨?_, True.intro⟩ | refine brn_t rfl ?_ | refine brn_f rfl ?_ | refine ob rfl ?_ | refine ob (by decide) ?_ | refine grow_same (Mem.le_refl _) ?_ | refine ob (Mem.le_refl _) ?_ | refine ⟨_, Mem.le_refl _, ?_⟩ | fail)
  refine (Apply15_ok (c := 0) (l := []) h1 1 ⟨0, 0, 0, 0⟩ (SrcOk.nil _ _) (by simp) (by omega)).mono ?_
  unfold ApplyOut
  simp only [List.length_nil, aw1, aw2, if_true]
  rintro v M2 ⟨c2, xs2, es2, rfl, hc2, h2, -⟩
  repeat' ((conv => whnf); first | refine ⟨?_, True.intro⟩ | refine brn_t rfl ?_ | refine brn_f rfl ?_ | refine ob rfl ?_ | refine ob (by decide) ?_ | refine grow_same (Mem.le_refl _) ?_ | refine ob (Mem.le_refl _) ?_ | refine ⟨_, Mem.le_refl _, ?_⟩ | fail)
  refine (Fresh_ok h2.at' h2.inv 2).mono ?_
  rw [aw3]
  rintro v _ ⟨rfl, rfl⟩
  repeat' ((conv => whnf); first | refine ⟨?_, True.intro⟩ | refine brn_t rfl ?_ | refine brn_f rfl ?_ | refine ob rfl ?_ | refine ob (by decide) ?_ | refine grow_same (Mem.le_refl _) ?_ | refine ob (Mem.le_refl _) ?_ | refine ⟨_, Mem.le_refl _, ?_⟩ | fail)
  refine new (fun b1 hb1 => ?_)
  replace hb1 : M2 b1 = none := hb1
  (conv => whnf); refine on Mem.textAt_setCells ?_
  (conv => whnf)
  have hle1 : M2.le ((M2.setCells b1 T.uint8 [S.u 97]).upd b1 (.cells [S.u 97].toArray T.uint8 (1, 2))) := by
    intro c o hc
    have hne : c ≠ b1 := fun e => by subst e; rw [hb1] at hc; cases hc
    unfold Mem.setCells
    rw [Mem.upd_ne _ _ hne, Mem.upd_ne _ _ hne]; exact hc
  have hs1 : SrcOk ((M2.setCells b1 T.uint8 [S.u 97]).upd b1 (.cells [S.u 97].toArray T.uint8 (1, 2))) 1 (some ⟨b1, 0, none⟩) 1 ([97].map byteV) :=
    by unfold SrcOk; exact ⟨rfl, .inr ⟨b1, 0, rfl, Mem.row_obj (Mem.upd_same _ _ _) (by decide)⟩⟩
  obtain ⟨M3, hM3⟩ : ∃ M3, M3 = (M2.setCells b1 T.uint8 [S.u 97]).upd b1 (.cells [S.u 97].toArray T.uint8 (1, 2)) := ⟨_, rfl⟩
  rw [← hM3] at hle1 hs1
  erw [← hM3]
  refine (Apply15_ok (l := [97]) (h2.to hle1) 2 awI hs1 (by simp) (by omega)).mono ?_
  unfold ApplyOut
  simp only [List.length_cons, List.length_nil, Nat.zero_add, aw4, if_true]
  rintro v M4 ⟨c4, xs4, es4, rfl, hc4, h4, -⟩
  repeat' ((conv => whnf); first | refine ⟨?_, True.intro⟩ | refine brn_t rfl ?_ | refine brn_f rfl ?_ | refine ob rfl ?_ | refine ob (by decide) ?_ | refine grow_same (Mem.le_refl _) ?_ | refine ob (Mem.le_refl _) ?_ | refine ⟨_, Mem.le_refl _, ?_⟩ | fail)
  refine (Find_ok h4.at' h4.inv awI).mono ?_
  rw [aw5]
  rintro v M5 (⟨-, h, -⟩ | ⟨a, n, c, l, rfl, -, hl, hN⟩)
  · cases h
  obtain rfl : l = [97] := by simpa using hl
  repeat' ((conv => whnf); first | refine ⟨?_, True.intro⟩ | refine brn_t rfl ?_ | refine brn_f rfl ?_ | refine ob rfl ?_ | refine ob (by decide) ?_ | refine grow_same (Mem.le_refl _) ?_ | refine ob (Mem.le_refl _) ?_ | refine ⟨_, Mem.le_refl _, ?_⟩ | fail)
  refine strv hN.src ?_
  repeat' ((conv => whnf); first | refine ⟨?_, True.intro⟩ | refine brn_t rfl ?_ | refine brn_f rfl ?_ | refine ob rfl ?_ | refine ob (by decide) ?_ | refine grow_same (Mem.le_refl _) ?_ | refine ob (Mem.le_refl _) ?_ | refine ⟨_, Mem.le_refl _, ?_⟩ | fail)
  exact ⟨rfl, Mem.le_trans h4.le hN.le⟩
structure EvX where
  kind : Int
  id : IdT
  p : List UInt8
@[reducible] def evCs (x : EvX) (a : Option Addr) (n c : Nat) : List Value := [.int .i64 x.kind, .int .i64 x.id.o, .int .i64 x.id.d, .int .i64 x.id.e, .int .i64 x.id.c, .slice a n c]
def EvR (M : Mem) (cs : List Value) (x : EvX) : Prop := ∃ a c, cs = evCs x a x.p.length c ∧ SrcOk M 1 a x.p.length (x.p.map byteV) ∧ x.p.length ≤ 1048576 ∧ x.p.length ≤ c
theorem EvR.le {M M' : Mem} {cs : List Value} {x : EvX} (h : EvR M cs x) (hle : M.le M') : EvR M' cs x := by
  obtain ⟨a, c, h1, h2, h3, h4⟩ := h
  exact ⟨a, c, h1, h2.le hle, h3, h4⟩
theorem ev_at {a : Option Addr} {n : Nat} {l : List EvX} (h : Elems M 6 a n (EvR M) l) {i : Nat} (hi : i < n) :
    ∃ (hl : i < l.length) (bb o : Nat) (a1 : Option Addr) (c1 : Nat), a = some ⟨bb, o, none⟩ ∧ M.row bb (o + i * 6) 6 = some (evCs l[i] a1 l[i].p.length c1) ∧ SrcOk M 1 a1 l[i].p.length (l[i].p.map byteV) ∧ l[i].p.length ≤ 1048576 ∧ l[i].p.length ≤ c1 := by
  obtain ⟨hl, bb, o, cs, ha, _, hrow, _, a1, c1, rfl, h2, h3, h4⟩ := h.at (by decide) hi
  exact ⟨hl, bb, o, a1, c1, ha, hrow, h2, h3, h4⟩
theorem cutEv_ok {a : Option Addr} {n c : Nat} {l : List EvX} (h : Elems M 6 a n (EvR M) l) (hn : n ≤ 1048576) (hc : n ≤ c) (N : Mem) :
    CallsM Try.prog F.law15_cut [.slice a n c] N fun v M' => (∃ a' n' c', v = .slice a' n' c' ∧ n' ≤ 50 ∧ n' ≤ c' ∧ n' = (l.take 50).length ∧ Elems M 6 a' n' (EvR M) (l.take 50)) ∧ N = M' := by
  refine fo_law15_cut (by simp) ?_
  have hl := h.len
  (conv => whnf); refine brn (fun g => ?_) (fun g => ?_)
  · have h1 : 50 < n := by have := of_decide_eq_true g; omega
    (conv => whnf); refine ob ⟨by decide, by omega, by omega⟩ ?_
    (conv => whnf)
    exact ⟨⟨_, 50, c, rfl, Nat.le_refl _, by omega, by simp; omega, h.take (by omega) hc (by decide)⟩, rfl⟩
  · have h1 : n ≤ 50 := by have := of_decide_eq_false g; omega
    (conv => whnf)
    refine ⟨⟨a, n, c, rfl, h1, hc, by simp; omega, ?_⟩, rfl⟩
    rw [List.take_of_length_le (by omega)]; exact h
end Go.Proofs.Ytlocjjponfbhmaa

/- How the arguments of this layer's laws lie in memory. -/
namespace Go.Proofs.Ytlocjjponfbhmaa
open Go Go.Vm
attribute [local irreducible] Brn Ob Grow CallsM inR LoopVC Mem.row Mem.cells Mem.setCells Mem.upd Own AppVC SrcVC StrVC NextVC New SrcOk subA NewSl Mem.textAt Mem.mapAt Mem.iterAt entryOf kfind Wr NewEls Elems
set_option maxRecDepth 10000
open Br
theorem rd_int : Reads T.int 1 fun (_ : Mem) cs (n : Int) => cs = [.int .i64 n] ∧ inKind .i64 n := Reads.int (by kernel_rfl)
theorem rd_byte : Reads T.uint8 1 fun (_ : Mem) cs (n : Int) => cs = [.int .u8 n] ∧ inKind .u8 n := Reads.int (by kernel_rfl)
theorem elems_map {α : Type} {M : Mem} {a : Option Addr} {n : Nat} {R : List Value → α → Prop} {l : List α} {β : Type} (f : β → Value) (h : Elems M 1 a n R l) (hR : ∀ cs x, R cs x → ∃ y, cs = [f y]) : ∃ l' : List β, SrcOk M 1 a n (l'.map f) := by
  unfold Elems at h
  obtain ⟨css, h1, h2, h3, h4, h5⟩ := h
  have : ∃ l' : List β, css.flatten = l'.map f := by
    clear h1 h4
    induction css generalizing l n with
    | nil => exact ⟨[], rfl⟩
    | cons cs r ih =>
      match l, h3 with
      | [], h3 => simp at h2 h3; omega
      | x :: l, h3 =>
        obtain ⟨y, hy⟩ := hR cs x (h5 0 cs x rfl rfl)
        obtain ⟨l', hl'⟩ := ih (n := n - 1) (l := l) (by simp at h2; omega) (by simp at h3; omega) (fun i c z hi hz => h5 (i + 1) c z (by simpa using hi) (by simpa using hz))
        exact ⟨y :: l', by simp [hy, hl']⟩
  obtain ⟨l', e⟩ := this
  exact ⟨l', e ▸ h1⟩
theorem byte_of {n : Int} (h : inKind .u8 n) : Value.int .u8 n = byteV (UInt8.ofNat n.toNat) := by
  have := bounds_u8 h
  simp only [byteV]
  congr 1
  simp
  omega
theorem rd_bytes : Reads T.s_uint8 1 fun M cs (l : List UInt8) => ∃ a n c, cs = [.slice a n c] ∧ SrcOk M 1 a n (l.map byteV) ∧ n ≤ 1048576 ∧ n ≤ c := fun H enc W fuel cs d ps h hb => by
  obtain ⟨h1, l, a, n, c, h2, h3, h4⟩ := Reads.slice (t := T.s_uint8) (e := T.uint8) (by kernel_rfl) (by kernel_rfl) (by decide) rd_byte H enc W fuel cs d ps h hb
  obtain ⟨l', h5⟩ := elems_map byteV h3 (fun cs x hx => ⟨_, hx.1.trans (by rw [byte_of hx.2])⟩)
  exact ⟨h1, l', a, n, c, h2, h5, h4⟩
theorem rd_ints : Reads T.s_int 1 fun M cs (l : List Int) => ∃ a n c, cs = [.slice a n c] ∧ SrcOk M 1 a n (l.map intV) ∧ n ≤ 1048576 ∧ n ≤ c := fun H enc W fuel cs d ps h hb => by
  obtain ⟨h1, l, a, n, c, h2, h3, h4⟩ := Reads.slice (t := T.s_int) (e := T.int) (by kernel_rfl) (by kernel_rfl) (by decide) rd_int H enc W fuel cs d ps h hb
  obtain ⟨l', h5⟩ := elems_map intV h3 (fun cs x hx => ⟨x, hx.1⟩)
  exact ⟨h1, l', a, n, c, h2, h5, h4⟩
theorem rd_id : Reads T.api_Id 4 fun (_ : Mem) cs (i : IdT) => cs = idCs i := fun H enc W fuel cs d ps h hb => by
  obtain ⟨hl, hf⟩ := field Try.underlying45 h hb
  replace hl : cs.length = 4 := hl.trans (by kernel_rfl)
  obtain ⟨-, n0, h0, -⟩ := hf 0 _ rfl 1 rd_int (by kernel_rfl)
  obtain ⟨-, n1, h1, -⟩ := hf 1 _ rfl 1 rd_int (by kernel_rfl)
  obtain ⟨-, n2, h2, -⟩ := hf 2 _ rfl 1 rd_int (by kernel_rfl)
  obtain ⟨-, n3, h3, -⟩ := hf 3 _ rfl 1 rd_int (by kernel_rfl)
  exact ⟨hl, ⟨n0, n1, n2, n3⟩, (show Chunks cs 0 [[_], [_], [_], [_]] from ⟨h0, h1, h2, h3, hl⟩).eq⟩
theorem rd_msg : Reads T.api_Msg 5 fun M cs (m : MsgD) => ∃ a c, cs = [.int .i64 m.id.o, .int .i64 m.id.d, .int .i64 m.id.e, .int .i64 m.id.c, .slice a m.p.length c] ∧ SrcOk M 1 a m.p.length (m.p.map byteV) ∧ m.p.length ≤ 1048576 ∧ m.p.length ≤ c := fun H enc W fuel cs d ps h hb => by
  obtain ⟨hl, hf⟩ := field Try.underlying48 h hb
  replace hl : cs.length = 5 := hl.trans (by kernel_rfl)
  obtain ⟨-, n0, h0⟩ := hf 0 _ rfl 4 rd_id (by kernel_rfl)
  obtain ⟨-, l, a, n, c, h1, h2, h3, h4⟩ := hf 1 _ rfl 1 rd_bytes (by kernel_rfl)
  obtain rfl := h2.maplen
  exact ⟨hl, ⟨n0, l⟩, a, c, (show Chunks cs 0 [[_, _, _, _], [_]] from ⟨h0, h1, hl⟩).eq, h2, h3, h4⟩
theorem rd_ev : Reads T.api_Ev 6 fun M cs (x : EvX) => EvR M cs x := fun H enc W fuel cs d ps h hb => by
  obtain ⟨hl, hf⟩ := field Try.underlying50 h hb
  replace hl : cs.length = 6 := hl.trans (by kernel_rfl)
  obtain ⟨-, n0, h0, -⟩ := hf 0 _ rfl 1 rd_int (by kernel_rfl)
  obtain ⟨-, m, a, c, h1, h2, h3, h4⟩ := hf 1 _ rfl 5 rd_msg (by kernel_rfl)
  exact ⟨hl, ⟨n0, m.id, m.p⟩, a, c, (show Chunks cs 0 [[_], [_, _, _, _, _]] from ⟨h0, h1, hl⟩).eq, h2, h3, h4⟩
theorem rd_evs : Reads T.s_api_Ev 1 fun M cs (l : List EvX) => ∃ a n c, cs = [.slice a n c] ∧ Elems M 6 a n (EvR M) l ∧ n ≤ 1048576 ∧ n ≤ c := fun H enc W fuel cs d ps h hb =>
  Reads.slice Try.underlying26 (by kernel_rfl) (by decide) rd_ev H enc W fuel cs d ps h hb
structure SetX where
  self : Int
  qh : Int
  qb : Int
  qg : Int
@[reducible] def setCs (x : SetX) : List Value := [.int .i64 x.self, .int .i64 x.qh, .int .i64 x.qb, .int .i64 x.qg]
theorem rd_quota : Reads T.api_Quota 3 fun (_ : Mem) cs (x : Int × Int × Int) => cs = [.int .i64 x.1, .int .i64 x.2.1, .int .i64 x.2.2] := fun H enc W fuel cs d ps h hb => by
  obtain ⟨hl, hf⟩ := field Try.underlying23 h hb
  replace hl : cs.length = 3 := hl.trans (by kernel_rfl)
  obtain ⟨-, n0, h0, -⟩ := hf 0 _ rfl 1 rd_int (by kernel_rfl)
  obtain ⟨-, n1, h1, -⟩ := hf 1 _ rfl 1 rd_int (by kernel_rfl)
  obtain ⟨-, n2, h2, -⟩ := hf 2 _ rfl 1 rd_int (by kernel_rfl)
  exact ⟨hl, (n0, n1, n2), (show Chunks cs 0 [[_], [_], [_]] from ⟨h0, h1, h2, hl⟩).eq⟩
theorem rd_set : Reads T.portagelaw15_Set 4 fun (_ : Mem) cs (x : SetX) => cs = setCs x := fun H enc W fuel cs d ps h hb => by
  obtain ⟨hl, hf⟩ := field Try.underlying25 h hb
  replace hl : cs.length = 4 := hl.trans (by kernel_rfl)
  obtain ⟨-, n0, h0, -⟩ := hf 0 _ rfl 1 rd_int (by kernel_rfl)
  obtain ⟨-, q, h1⟩ := hf 1 _ rfl 3 rd_quota (by kernel_rfl)
  exact ⟨hl, ⟨n0, q.1, q.2.1, q.2.2⟩, (show Chunks cs 0 [[_], [_, _, _]] from ⟨h0, h1, hl⟩).eq⟩
end Go.Proofs.Ytlocjjponfbhmaa

