/- States: are the messages right? what the document says; copies. -/
import Derived.Test.YtlocjjponfbhmaaJoin32
namespace Go.Proofs.Ytlocjjponfbhmaa
open Go Go.Vm
attribute [local irreducible] Brn Ob Grow CallsM inR LoopVC Mem.row Mem.cells Mem.setCells Mem.upd Own AppVC SrcVC StrVC NextVC New SrcOk subA NewSl Mem.textAt Mem.mapAt Mem.iterAt entryOf kfind Wr NewEls Elems
set_option maxRecDepth 10000
set_option linter.unusedSimpArgs false
variable {M : Mem} {self epoch : Int} {ul : NxT} {ms : List MX} {mk : List MkC}
theorem lastRl_ok {S : StR} {D : DocV} (hs : SrcOk M 2 D.ua D.un (ul.flatMap encN)) (hun : D.un ≤ 4194000) (d : Int) : CallsM Try.prog F.ref15_Last [docV S D, .int .i64 d] M fun v M' => v = .int .i64 (lastN ul d) ∧ M = M' := by
  refine fo_ref15_Last (by simp) ?_
  have hl := hs.flen encN_len (by decide)
  (conv => whnf)
  refine loopQ [5] (fun (i : Nat) => [(5, .int .i64 i)]) (fun i => i ≤ D.un ∧ lastN ul d = lastN (ul.drop i) d) (fun i => D.un - i) 0 ⟨by omega, by simp⟩ ⟨(by repeat' first | exact True.intro | refine ⟨rfl, ?_⟩), (by repeat' first | exact True.intro | refine ⟨rfl, ?_⟩), Mem.le_refl _, rfl⟩ ?_
  intro i ⟨hi, hnx⟩
  (conv => whnf); refine brn (fun g => ?_) (fun g => ?_)
  · have hlt : i < ul.length := by have := of_decide_eq_true g; omega
    have hx : ul[i]? = some ul[i] := List.getElem?_eq_getElem hlt
    obtain ⟨b1, o1, ha, hcc⟩ := hs.fcells encN_len (by decide) hx
    rw [List.drop_eq_getElem_cons hlt] at hnx
    generalize ul[i] = x at *
    (conv => whnf); refine ob (by first | omega | (dsimp only; omega)) ?_
    (conv => whnf); refine atp ha ?_
    (conv => whnf); refine on (hcc 0 _ rfl) ?_
    (conv => whnf); refine brn (fun g1 => ?_) (fun g1 => ?_)
    · have e1 : x.1 = d := of_decide_eq_true g1
      (conv => whnf); refine ob (by first | omega | (dsimp only; omega)) ?_
      (conv => whnf); refine atp ha ?_
      (conv => whnf); refine on (hcc 1 _ rfl) ?_
      repeat' ((conv => whnf); first | refine ⟨?_, True.intro⟩ | refine brn_t rfl ?_ | refine brn_f rfl ?_ | refine ob rfl ?_ | refine ob (by decide) ?_ | refine grow_same (Mem.le_refl _) ?_ | refine ob (Mem.le_refl _) ?_ | refine ⟨_, Mem.le_refl _, ?_⟩ | fail)
      exact ⟨by rw [hnx, lastN, if_pos e1], rfl⟩
    · have e1 : ¬ x.1 = d := of_decide_eq_false g1
      (conv => whnf); refine ob (inR_i64 (by first | omega | (dsimp only; omega))) ?_
      (conv => whnf)
      exact ⟨i + 1, ⟨by omega, by rw [hnx, lastN, if_neg e1]⟩, by omega, ⟨(by repeat' first | exact True.intro | refine ⟨rfl, ?_⟩), (by repeat' first | exact True.intro | refine ⟨rfl, ?_⟩), Mem.le_refl _, rfl⟩⟩
  · have hge : ul.length ≤ i := by have := of_decide_eq_false g; omega
    rw [List.drop_of_length_le hge] at hnx
    repeat' ((conv => whnf); first | refine ⟨?_, True.intro⟩ | refine brn_t rfl ?_ | refine brn_f rfl ?_ | refine ob rfl ?_ | refine ob (by decide) ?_ | refine grow_same (Mem.le_refl _) ?_ | refine ob (Mem.le_refl _) ?_ | refine ⟨_, Mem.le_refl _, ?_⟩ | fail)
    exact ⟨by rw [hnx]; rfl, rfl⟩
theorem MsgsR.take {a : Option Addr} {n c : Nat} (h : MsgsR M a n ms) {k : Nat} (hk : k ≤ n) (hc : n ≤ c) : MsgsR M (subA a 0 c 5) k (ms.take k) := by
  refine ⟨?_, fun m hm => h.data m (List.mem_of_mem_take hm)⟩
  have h6 := h.row.sub (lo := 0) (hi := k) (by omega) hk hc (by decide)
  rw [Nat.zero_mul, List.drop_zero, Nat.sub_zero, flat_take encX_len] at h6
  exact h6
theorem hasD_iff {l : List MsgD} {i : IdT} : hasD l i = true ↔ i ∈ l.map (·.id) := by
  unfold hasD
  rw [List.any_eq_true]
  constructor
  · rintro ⟨m, hm, h⟩; exact List.mem_map.2 ⟨m, hm, by simpa using h⟩
  · intro h; obtain ⟨m, hm, e⟩ := List.mem_map.1 h; exact ⟨m, hm, by simpa using e⟩
theorem holdsR_ok {ua ha ma : Option Addr} {un uc hn hc mn mc : Nat} (hu : SrcOk M 2 ua un (ul.flatMap encN)) (hun : un ≤ 4194000) (hh : MsgsR M ha hn ms) (hhn : hn ≤ 4194000) (hhc : hn ≤ hc) :
    CallsM Try.prog F.ref15_holds [statV self epoch ua un uc ha hn hc ma mn mc] M fun v M' => ∃ b : Bool, v = .bool b ∧ (b = true ↔ HoldsP self epoch ul (ms.map MX.msg)) ∧ M = M' := by
  refine fo_ref15_holds (by simp) ?_
  have hl := hh.len
  (conv => whnf)
  refine loopQ [4] (fun (i : Nat) => [(4, .int .i64 i)]) (fun i => i ≤ hn ∧ HoldsP self epoch ul ((ms.take i).map MX.msg)) (fun i => hn - i) 0 ⟨by omega, by simp [HoldsP]⟩ ⟨(by repeat' first | exact True.intro | refine ⟨rfl, ?_⟩), (by repeat' first | exact True.intro | refine ⟨rfl, ?_⟩), Mem.le_refl _, rfl⟩ ?_
  rintro i ⟨hi, hH⟩
  (conv => whnf); refine brn (fun g => ?_) (fun g => ?_)
  rotate_left
  · have hge : hn ≤ i := by have := of_decide_eq_false g; omega
    rw [List.take_of_length_le (by omega)] at hH
    repeat' ((conv => whnf); first | refine ⟨?_, True.intro⟩ | refine brn_t rfl ?_ | refine brn_f rfl ?_ | refine ob rfl ?_ | refine ob (by decide) ?_ | refine grow_same (Mem.le_refl _) ?_ | refine ob (Mem.le_refl _) ?_ | refine ⟨_, Mem.le_refl _, ?_⟩ | fail)
    exact ⟨true, rfl, ⟨fun _ => hH, fun _ => rfl⟩, rfl⟩
  have hlt : i < ms.length := by have := of_decide_eq_true g; omega
  have hx : ms[i]? = some ms[i] := List.getElem?_eq_getElem hlt
  obtain ⟨b1, o1, ha1, hc1⟩ := hh.row.fparts encX_len (by decide) hx
  have htk : ms.take (i + 1) = ms.take i ++ [ms[i]] := by rw [List.take_add_one, hx]; rfl
  have hmem : ms[i] ∈ ms := List.getElem_mem _
  have hsplit : ms = ms.take i ++ ms[i] :: ms.drop (i + 1) := by conv => lhs; rw [← List.take_append_drop i ms, List.drop_eq_getElem_cons hlt]
  generalize ms[i] = m at *
  have hnd : HoldsP self epoch ul (ms.map MX.msg) → hasD ((ms.take i).map MX.msg) m.id = false := fun h => by
    rw [← Bool.not_eq_true, hasD_iff]
    have h2 := h.2
    rw [hsplit, List.map_append, List.map_append, List.nodup_append] at h2
    intro hm
    exact h2.2.2 _ hm m.id (by simp) rfl
  have hmm : m.msg ∈ ms.map MX.msg := List.mem_map.2 ⟨m, hmem, rfl⟩
  (conv => whnf); refine ob (by first | omega | (dsimp only; omega)) ?_
  (conv => whnf); refine atp ha1 ?_
  (conv => whnf); refine on (hc1 0 5 (by decide)) ?_
  repeat' ((conv => whnf); first | refine ⟨?_, True.intro⟩ | refine brn_t rfl ?_ | refine brn_f rfl ?_ | refine ob rfl ?_ | refine ob (by decide) ?_ | refine grow_same (Mem.le_refl _) ?_ | refine ob (Mem.le_refl _) ?_ | refine ⟨_, Mem.le_refl _, ?_⟩ | fail)
  refine (checkMsgR_ok _ _ _ _ _ _ _ _).mono ?_
  rintro v _ ⟨rfl, rfl⟩
  repeat' ((conv => whnf); first | refine ob rfl ?_ | refine grow_same (Mem.le_refl _) ?_ | refine ob (Mem.le_refl _) ?_ | refine ⟨?_, True.intro⟩ | fail)
  (conv => whnf); refine brn (fun g1 => ?_) (fun g1 => ?_)
  · repeat' ((conv => whnf); first | refine ⟨?_, True.intro⟩ | refine brn_t rfl ?_ | refine brn_f rfl ?_ | refine ob rfl ?_ | refine ob (by decide) ?_ | refine grow_same (Mem.le_refl _) ?_ | refine ob (Mem.le_refl _) ?_ | refine ⟨_, Mem.le_refl _, ?_⟩ | fail)
    refine ⟨false, rfl, ⟨by simp, fun h => ?_⟩, rfl⟩
    have hok := (h.1 _ hmm).1
    have g2 : ¬ msgErrD m.id m.p.length = 0 := by simpa using g1
    exact absurd hok g2
  have e1 : msgErrD m.id m.p.length = 0 := by simpa using g1
  have hid := idErr_all (msgErr_zero e1).1
  (conv => whnf); refine brn (fun g2 => ?_) (fun g2 => ?_)
  · repeat' ((conv => whnf); first | refine ⟨?_, True.intro⟩ | refine brn_t rfl ?_ | refine brn_f rfl ?_ | refine ob rfl ?_ | refine ob (by decide) ?_ | refine grow_same (Mem.le_refl _) ?_ | refine ob (Mem.le_refl _) ?_ | refine ⟨_, Mem.le_refl _, ?_⟩ | fail)
    refine ⟨false, rfl, ⟨by simp, fun h => ?_⟩, rfl⟩
    exact absurd (of_decide_eq_true g2) (h.1 _ hmm).2.1
  have e2 : m.id.d ≠ self := of_decide_eq_false g2
  (conv => whnf); refine ob ⟨by decide, by omega, by omega⟩ ?_
  repeat' ((conv => whnf); first | refine ⟨?_, True.intro⟩ | refine brn_t rfl ?_ | refine brn_f rfl ?_ | refine ob rfl ?_ | refine ob (by decide) ?_ | refine grow_same (Mem.le_refl _) ?_ | refine ob (Mem.le_refl _) ?_ | refine ⟨_, Mem.le_refl _, ?_⟩ | fail)
  refine (hasMsgR_ok (ms := ms.take i) (by simpa using hh.take (k := i) (by omega) hhc) (by omega) m.id).mono ?_
  rintro v _ ⟨rfl, rfl⟩
  repeat' ((conv => whnf); first | refine ob rfl ?_ | refine grow_same (Mem.le_refl _) ?_ | refine ob (Mem.le_refl _) ?_ | refine ⟨?_, True.intro⟩ | fail)
  (conv => whnf); refine brn (fun g3 => ?_) (fun g3 => ?_)
  · repeat' ((conv => whnf); first | refine ⟨?_, True.intro⟩ | refine brn_t rfl ?_ | refine brn_f rfl ?_ | refine ob rfl ?_ | refine ob (by decide) ?_ | refine grow_same (Mem.le_refl _) ?_ | refine ob (Mem.le_refl _) ?_ | refine ⟨_, Mem.le_refl _, ?_⟩ | fail)
    refine ⟨false, rfl, ⟨by simp, fun h => ?_⟩, rfl⟩
    have := hnd h
    rw [g3] at this
    cases this
  have e3 : hasD ((ms.take i).map MX.msg) m.id = false := g3
  have grow : (m.id.o = self → m.id.e < epoch ∨ (m.id.e = epoch ∧ m.id.c ≤ lastN ul m.id.d)) → HoldsP self epoch ul ((ms.take (i + 1)).map MX.msg) := fun h4 => by
    rw [htk, List.map_append]
    refine ⟨fun x hx => ?_, ?_⟩
    · rcases List.mem_append.1 hx with hx | hx
      · exact hH.1 x hx
      · simp only [List.map_cons, List.map_nil, List.mem_singleton] at hx; subst hx; exact ⟨e1, e2, h4⟩
    · rw [List.map_append, List.nodup_append]
      refine ⟨hH.2, by simp, fun x hx y hy => ?_⟩
      simp at hy
      subst hy
      intro e
      subst e
      have := hasD_iff.2 hx
      rw [e3] at this
      cases this
  repeat' ((conv => whnf); first | refine ⟨?_, True.intro⟩ | refine brn_t rfl ?_ | refine brn_f rfl ?_ | refine ob rfl ?_ | refine ob (by decide) ?_ | refine grow_same (Mem.le_refl _) ?_ | refine ob (Mem.le_refl _) ?_ | refine ⟨_, Mem.le_refl _, ?_⟩ | fail)
  refine brn (fun g4 => ?_) (fun g4 => ?_)
  rotate_left
  · have e4 : ¬ m.id.o = self := of_decide_eq_false g4
    repeat' ((conv => whnf); first | refine ⟨?_, True.intro⟩ | refine brn_t rfl ?_ | refine brn_f rfl ?_ | refine ob rfl ?_ | refine ob (by decide) ?_ | refine grow_same (Mem.le_refl _) ?_ | refine ob (Mem.le_refl _) ?_ | refine ⟨_, Mem.le_refl _, ?_⟩ | fail)
    refine ob (inR_i64 (by first | omega | (dsimp only; omega))) ?_
    (conv => whnf)
    exact ⟨i + 1, ⟨by omega, grow fun h => absurd h e4⟩, by omega, ⟨(by repeat' first | exact True.intro | refine ⟨rfl, ?_⟩), (by repeat' first | exact True.intro | refine ⟨rfl, ?_⟩), Mem.le_refl _, rfl⟩⟩
  have e4 : m.id.o = self := of_decide_eq_true g4
  (conv => whnf); refine brn (fun g5 => ?_) (fun g5 => ?_)
  · repeat' ((conv => whnf); first | refine ⟨?_, True.intro⟩ | refine brn_t rfl ?_ | refine brn_f rfl ?_ | refine ob rfl ?_ | refine ob (by decide) ?_ | refine grow_same (Mem.le_refl _) ?_ | refine ob (Mem.le_refl _) ?_ | refine ⟨_, Mem.le_refl _, ?_⟩ | fail)
    refine ⟨false, rfl, ⟨by simp, fun h => ?_⟩, rfl⟩
    have e5 : epoch < m.id.e := of_decide_eq_true g5
    have := (h.1 _ hmm).2.2 e4
    have e6 : (m.msg).id = m.id := rfl
    rw [e6] at this
    omega
  have e5 : ¬ epoch < m.id.e := of_decide_eq_false g5
  (conv => whnf); refine brn (fun g6 => ?_) (fun g6 => ?_)
  rotate_left
  · have e6 : ¬ m.id.e = epoch := of_decide_eq_false g6
    repeat' ((conv => whnf); first | refine ⟨?_, True.intro⟩ | refine brn_t rfl ?_ | refine brn_f rfl ?_ | refine ob rfl ?_ | refine ob (by decide) ?_ | refine grow_same (Mem.le_refl _) ?_ | refine ob (Mem.le_refl _) ?_ | refine ⟨_, Mem.le_refl _, ?_⟩ | fail)
    refine ob (inR_i64 (by first | omega | (dsimp only; omega))) ?_
    (conv => whnf)
    exact ⟨i + 1, ⟨by omega, grow fun _ => .inl (by omega)⟩, by omega, ⟨(by repeat' first | exact True.intro | refine ⟨rfl, ?_⟩), (by repeat' first | exact True.intro | refine ⟨rfl, ?_⟩), Mem.le_refl _, rfl⟩⟩
  have e6 : m.id.e = epoch := of_decide_eq_true g6
  repeat' ((conv => whnf); first | refine ⟨?_, True.intro⟩ | refine brn_t rfl ?_ | refine brn_f rfl ?_ | refine ob rfl ?_ | refine ob (by decide) ?_ | refine grow_same (Mem.le_refl _) ?_ | refine ob (Mem.le_refl _) ?_ | refine ⟨_, Mem.le_refl _, ?_⟩ | fail)
  refine (lastRl_ok (S := ⟨0, 0, 0, 0, 0, [], []⟩) (D := ⟨ua, un, uc, none, 0, 0, none, 0, 0⟩) hu hun m.id.d).mono ?_
  rintro v _ ⟨rfl, rfl⟩
  repeat' ((conv => whnf); first | refine ob rfl ?_ | refine grow_same (Mem.le_refl _) ?_ | refine ob (Mem.le_refl _) ?_ | refine ⟨?_, True.intro⟩ | fail)
  (conv => whnf); refine brn (fun g7 => ?_) (fun g7 => ?_)
  · repeat' ((conv => whnf); first | refine ⟨?_, True.intro⟩ | refine brn_t rfl ?_ | refine brn_f rfl ?_ | refine ob rfl ?_ | refine ob (by decide) ?_ | refine grow_same (Mem.le_refl _) ?_ | refine ob (Mem.le_refl _) ?_ | refine ⟨_, Mem.le_refl _, ?_⟩ | fail)
    refine ⟨false, rfl, ⟨by simp, fun h => ?_⟩, rfl⟩
    have e7 : lastN ul m.id.d < m.id.c := of_decide_eq_true g7
    have := (h.1 _ hmm).2.2 e4
    have e8 : (m.msg).id = m.id := rfl
    rw [e8] at this
    omega
  have e7 : ¬ lastN ul m.id.d < m.id.c := of_decide_eq_false g7
  repeat' ((conv => whnf); first | refine ⟨?_, True.intro⟩ | refine brn_t rfl ?_ | refine brn_f rfl ?_ | refine ob rfl ?_ | refine ob (by decide) ?_ | refine grow_same (Mem.le_refl _) ?_ | refine ob (Mem.le_refl _) ?_ | refine ⟨_, Mem.le_refl _, ?_⟩ | fail)
  refine ob (inR_i64 (by first | omega | (dsimp only; omega))) ?_
  (conv => whnf)
  exact ⟨i + 1, ⟨by omega, grow fun _ => .inr ⟨e6, by omega⟩⟩, by omega, ⟨(by repeat' first | exact True.intro | refine ⟨rfl, ?_⟩), (by repeat' first | exact True.intro | refine ⟨rfl, ?_⟩), Mem.le_refl _, rfl⟩⟩
theorem bytesRl_ok {S : StR} {D : DocV} (h : MsgsR M D.la D.ln ms) (hn : D.ln ≤ 4194000) (hb : ∀ m ∈ ms, m.p.length ≤ 1048576) : CallsM Try.prog F.ref15_Bytes [docV S D] M fun v M' => v = .int .i64 (bytesD (ms.map MX.msg)) ∧ M = M' := by
  refine fo_ref15_Bytes (by simp) ?_
  have hl := h.len
  (conv => whnf)
  refine loopQ (σ := Nat × Nat) [4, 3] (fun y => [(4, .int .i64 y.1), (3, .int .i64 y.2)]) (fun | ⟨i, s⟩ => i ≤ D.ln ∧ s ≤ i * 1048576 ∧ s + bytesD ((ms.drop i).map MX.msg) = bytesD (ms.map MX.msg)) (fun y => D.ln - y.1) ⟨0, 0⟩ ⟨by omega, by omega, by simp⟩ ⟨(by repeat' first | exact True.intro | refine ⟨rfl, ?_⟩), (by repeat' first | exact True.intro | refine ⟨rfl, ?_⟩), Mem.le_refl _, rfl⟩ ?_
  rintro ⟨i, s⟩ ⟨hi, hs, hsum⟩
  (conv => whnf); refine brn (fun g => ?_) (fun g => ?_)
  · have hlt : i < ms.length := by have := of_decide_eq_true g; dsimp only at this; omega
    have hx : ms[i]? = some ms[i] := List.getElem?_eq_getElem hlt
    obtain ⟨b1, o1, ha, hcc⟩ := h.row.fcells encX_len (by decide) hx
    have hbx := hb ms[i] (List.getElem_mem _)
    rw [List.drop_eq_getElem_cons hlt] at hsum
    generalize ms[i] = x at *
    simp only [bytesD, List.map_cons, List.sum_cons] at hsum
    (conv => whnf); refine ob (by first | omega | (dsimp only; omega)) ?_
    (conv => whnf); refine atp ha ?_
    (conv => whnf); refine on (hcc 4 _ rfl) ?_
    (conv => whnf); refine ob (inR_i64 (by first | omega | (dsimp only; omega))) ?_
    (conv => whnf); refine ob (inR_i64 (by first | omega | (dsimp only; omega))) ?_
    (conv => whnf)
    exact ⟨⟨i + 1, s + x.p.length⟩, ⟨by omega, by omega, by simp only [bytesD]; omega⟩, by dsimp only; omega, ⟨(by repeat' first | exact True.intro | refine ⟨rfl, ?_⟩), (by repeat' first | exact True.intro | refine ⟨rfl, ?_⟩), Mem.le_refl _, rfl⟩⟩
  · have hge : ms.length ≤ i := by have := of_decide_eq_false g; dsimp only at this; omega
    rw [List.drop_of_length_le hge] at hsum
    simp only [bytesD, List.map_nil, List.sum_nil, Nat.add_zero] at hsum
    (conv => whnf)
    exact ⟨by dsimp only; rw [hsum]; rfl, rfl⟩
/-- what is needed of a state that is read -/
structure BigS (ms : List MX) (mk : List MkC) (un hn hc mn : Nat) : Prop where
  b1 : un ≤ 1048576
  b2 : hn ≤ 1048576
  b3 : hn ≤ hc
  b4 : mn ≤ 1048576
  msgs : ∀ m ∈ ms, m.p.length ≤ 1048576
  marks : ∀ m ∈ mk, m.more.length ≤ 1048576
theorem checkS15_ok (qh qb qg : Int) {ua ha ma : Option Addr} {un uc hn hc mn mc : Nat} (h : StatR M ua un ha hn ma mn ul ms mk) (hB : BigS ms mk un hn hc mn) :
    CallsM Try.prog F.ref15_CheckState [.agg #[.int .i64 qh, .int .i64 qb, .int .i64 qg], statV self epoch ua un uc ha hn hc ma mn mc] M fun v M' => ∃ e, v = .int .i64 e ∧ CheckS qh qb qg self epoch ul (ms.map MX.msg) (mk.map MkC.mk') e ∧ M = M' := by
  refine fo_ref15_CheckState (by simp) ?_
  have hb1 := hB.b1
  have hb2 := hB.b2
  have hb3 := hB.b4
  have hhl := h.held.len
  have hml := h.seen.len
  repeat' ((conv => whnf); first | refine ⟨?_, True.intro⟩ | refine brn_t rfl ?_ | refine brn_f rfl ?_ | refine ob rfl ?_ | refine ob (by decide) ?_ | refine grow_same (Mem.le_refl _) ?_ | refine ob (Mem.le_refl _) ?_ | refine ⟨_, Mem.le_refl _, ?_⟩ | fail)
  refine (new15R_ok self qh qb qg).mono ?_
  rintro v _ (⟨hg, rfl, rfl⟩ | ⟨hg, rfl, rfl⟩)
  · repeat' ((conv => whnf); first | refine ⟨?_, True.intro⟩ | refine brn_t rfl ?_ | refine brn_f rfl ?_ | refine ob rfl ?_ | refine ob (by decide) ?_ | refine grow_same (Mem.le_refl _) ?_ | refine ob (Mem.le_refl _) ?_ | refine ⟨_, Mem.le_refl _, ?_⟩ | fail)
    exact ⟨1, rfl, .inl ⟨hg, rfl⟩, rfl⟩
  have bad : ¬ FormS self epoch ul (ms.map MX.msg) (mk.map MkC.mk') → CheckS qh qb qg self epoch ul (ms.map MX.msg) (mk.map MkC.mk') 2 := fun hh => .inr (.inl ⟨hg, hh, rfl⟩)
  repeat' ((conv => whnf); first | refine ⟨?_, True.intro⟩ | refine brn_t rfl ?_ | refine brn_f rfl ?_ | refine ob rfl ?_ | refine ob (by decide) ?_ | refine grow_same (Mem.le_refl _) ?_ | refine ob (Mem.le_refl _) ?_ | refine ⟨_, Mem.le_refl _, ?_⟩ | fail)
  refine loopQ [7] (fun (i : Nat) => [(7, .int .i64 i)]) (fun i => i ≤ mn ∧ ∀ m ∈ (mk.map MkC.mk').take i, m.o ≠ self) (fun i => mn - i) 0 ⟨by omega, by simp⟩ ⟨(by repeat' first | exact True.intro | refine ⟨rfl, ?_⟩), (by repeat' first | exact True.intro | refine ⟨rfl, ?_⟩), Mem.le_refl _, rfl⟩ ?_
  rintro i ⟨hi, hall⟩
  (conv => whnf); refine brn (fun g => ?_) (fun g => ?_)
  · have hlt : i < mk.length := by have := of_decide_eq_true g; omega
    have hx : mk[i]? = some mk[i] := List.getElem?_eq_getElem hlt
    obtain ⟨b1, o1, ha1, hcc⟩ := h.seen.row.fcells encM_len (by decide) hx
    have htk : (mk.map MkC.mk').take (i + 1) = (mk.map MkC.mk').take i ++ [mk[i].mk'] := by rw [List.take_add_one, List.getElem?_map, hx]; rfl
    have hmem : mk[i] ∈ mk := List.getElem_mem _
    generalize mk[i] = x at *
    (conv => whnf); refine ob (by first | omega | (dsimp only; omega)) ?_
    (conv => whnf); refine atp ha1 ?_
    (conv => whnf); refine on (hcc 0 _ rfl) ?_
    (conv => whnf); refine brn (fun g1 => ?_) (fun g1 => ?_)
    · repeat' ((conv => whnf); first | refine ⟨?_, True.intro⟩ | refine brn_t rfl ?_ | refine brn_f rfl ?_ | refine ob rfl ?_ | refine ob (by decide) ?_ | refine grow_same (Mem.le_refl _) ?_ | refine ob (Mem.le_refl _) ?_ | refine ⟨_, Mem.le_refl _, ?_⟩ | fail)
      exact ⟨2, rfl, bad fun hF => hF.2.2.1 x.mk' (List.mem_map.2 ⟨x, hmem, rfl⟩) (of_decide_eq_true g1), rfl⟩
    · (conv => whnf); refine ob (inR_i64 (by first | omega | (dsimp only; omega))) ?_
      (conv => whnf)
      refine ⟨i + 1, ⟨by omega, fun m hm => ?_⟩, by omega, ⟨(by repeat' first | exact True.intro | refine ⟨rfl, ?_⟩), (by repeat' first | exact True.intro | refine ⟨rfl, ?_⟩), Mem.le_refl _, rfl⟩⟩
      rw [htk] at hm
      rcases List.mem_append.1 hm with hm | hm
      · exact hall m hm
      · simp only [List.mem_singleton] at hm; subst hm; exact of_decide_eq_false g1
  have hge : mn ≤ i := by have := of_decide_eq_false g; omega
  rw [List.take_of_length_le (by simp; omega)] at hall
  repeat' ((conv => whnf); first | refine ⟨?_, True.intro⟩ | refine brn_t rfl ?_ | refine brn_f rfl ?_ | refine ob rfl ?_ | refine ob (by decide) ?_ | refine grow_same (Mem.le_refl _) ?_ | refine ob (Mem.le_refl _) ?_ | refine ⟨_, Mem.le_refl _, ?_⟩ | fail)
  refine (checkMs_ok qg h.seen h.few (by omega)).mono ?_
  rintro v _ ⟨f, rfl, hf, rfl⟩
  repeat' ((conv => whnf); first | refine ⟨?_, True.intro⟩ | refine brn_t rfl ?_ | refine brn_f rfl ?_ | refine ob rfl ?_ | refine ob (by decide) ?_ | refine grow_same (Mem.le_refl _) ?_ | refine ob (Mem.le_refl _) ?_ | refine ⟨_, Mem.le_refl _, ?_⟩ | fail)
  refine (nextsR_ok h.used (by omega)).mono ?_
  rintro v _ ⟨bn, rfl, hbn, rfl⟩
  have hgg : ¬ (qg < 0 ∨ 256 < qg) := by unfold badD at hg; omega
  (conv => whnf); refine brn (fun g1 => ?_) (fun g1 => ?_)
  · have e1 : bn = false := by simpa using g1
    repeat' ((conv => whnf); first | refine ⟨?_, True.intro⟩ | refine brn_t rfl ?_ | refine brn_f rfl ?_ | refine ob rfl ?_ | refine ob (by decide) ?_ | refine grow_same (Mem.le_refl _) ?_ | refine ob (Mem.le_refl _) ?_ | refine ⟨_, Mem.le_refl _, ?_⟩ | fail)
    exact ⟨2, rfl, bad (fun hF => by have := hbn.2 hF.1; rw [e1] at this; cases this), rfl⟩
  have hN := hbn.1 (by simpa using g1)
  repeat' ((conv => whnf); first | refine ⟨?_, True.intro⟩ | refine brn_t rfl ?_ | refine brn_f rfl ?_ | refine ob rfl ?_ | refine ob (by decide) ?_ | refine grow_same (Mem.le_refl _) ?_ | refine ob (Mem.le_refl _) ?_ | refine ⟨_, Mem.le_refl _, ?_⟩ | fail)
  refine (holdsR_ok h.used (by omega) h.held (by omega) hB.b3).mono ?_
  rintro v _ ⟨bh, rfl, hbh, rfl⟩
  (conv => whnf); refine brn (fun g2 => ?_) (fun g2 => ?_)
  · have e1 : bh = false := by simpa using g2
    repeat' ((conv => whnf); first | refine ⟨?_, True.intro⟩ | refine brn_t rfl ?_ | refine brn_f rfl ?_ | refine ob rfl ?_ | refine ob (by decide) ?_ | refine grow_same (Mem.le_refl _) ?_ | refine ob (Mem.le_refl _) ?_ | refine ⟨_, Mem.le_refl _, ?_⟩ | fail)
    exact ⟨2, rfl, bad (fun hF => by have := hbh.2 hF.2.1; rw [e1] at this; cases this), rfl⟩
  have hH := hbh.1 (by simpa using g2)
  (conv => whnf); refine brn (fun g3 => ?_) (fun g3 => ?_)
  · have e3 : f = 2 := of_decide_eq_true g3
    repeat' ((conv => whnf); first | refine ⟨?_, True.intro⟩ | refine brn_t rfl ?_ | refine brn_f rfl ?_ | refine ob rfl ?_ | refine ob (by decide) ?_ | refine grow_same (Mem.le_refl _) ?_ | refine ob (Mem.le_refl _) ?_ | refine ⟨_, Mem.le_refl _, ?_⟩ | fail)
    refine ⟨2, rfl, bad fun hF => ?_, rfl⟩
    rcases hf with ⟨h1, h2⟩ | ⟨h1, h2, h3⟩ | ⟨h1, h2, h3, h4⟩ | ⟨h1, h2, h3, h4⟩
    · omega
    · exact h2 hF.2.2.2
    · omega
    · omega
  have e3 : ¬ f = 2 := of_decide_eq_false g3
  have hP : FormP (mk.map MkC.mk') ∧ (f = 0 ∨ f = 6) ∧ (f = 6 ↔ qg < sumM (mk.map MkC.mk')) := by
    rcases hf with ⟨h1, h2⟩ | ⟨h1, h2, h3⟩ | ⟨h1, h2, h3, h4⟩ | ⟨h1, h2, h3, h4⟩
    · exact absurd h1 hgg
    · exact absurd h3 e3
    · exact ⟨h2, .inr h4, by omega⟩
    · exact ⟨h2, .inl h4, by omega⟩
  have hF : FormS self epoch ul (ms.map MX.msg) (mk.map MkC.mk') := ⟨hN, hH, hall, hP.1⟩
  have full : FullS qh qb qg (ms.map MX.msg) (mk.map MkC.mk') → CheckS qh qb qg self epoch ul (ms.map MX.msg) (mk.map MkC.mk') 6 := fun hh => .inr (.inr (.inl ⟨hg, hF, hh, rfl⟩))
  repeat' ((conv => whnf); first | refine ⟨?_, True.intro⟩ | refine brn_t rfl ?_ | refine brn_f rfl ?_ | refine ob rfl ?_ | refine ob (by decide) ?_ | refine grow_same (Mem.le_refl _) ?_ | refine ob (Mem.le_refl _) ?_ | refine ⟨_, Mem.le_refl _, ?_⟩ | fail)
  refine brn (fun g4 => ?_) (fun g4 => ?_)
  · have e4 : f ≠ 0 := by simpa using g4
    repeat' ((conv => whnf); first | refine ⟨?_, True.intro⟩ | refine brn_t rfl ?_ | refine brn_f rfl ?_ | refine ob rfl ?_ | refine ob (by decide) ?_ | refine grow_same (Mem.le_refl _) ?_ | refine ob (Mem.le_refl _) ?_ | refine ⟨_, Mem.le_refl _, ?_⟩ | fail)
    exact ⟨6, rfl, full (.inl (hP.2.2.1 (by omega))), rfl⟩
  have e4 : f = 0 := by simpa using g4
  (conv => whnf); refine brn (fun g5 => ?_) (fun g5 => ?_)
  · have e5 : qh < hn := of_decide_eq_true g5
    repeat' ((conv => whnf); first | refine ⟨?_, True.intro⟩ | refine brn_t rfl ?_ | refine brn_f rfl ?_ | refine ob rfl ?_ | refine ob (by decide) ?_ | refine grow_same (Mem.le_refl _) ?_ | refine ob (Mem.le_refl _) ?_ | refine ⟨_, Mem.le_refl _, ?_⟩ | fail)
    exact ⟨6, rfl, full (.inr (.inl (by rw [List.length_map]; omega))), rfl⟩
  have e5 : ¬ qh < hn := of_decide_eq_false g5
  repeat' ((conv => whnf); first | refine ⟨?_, True.intro⟩ | refine brn_t rfl ?_ | refine brn_f rfl ?_ | refine ob rfl ?_ | refine ob (by decide) ?_ | refine grow_same (Mem.le_refl _) ?_ | refine ob (Mem.le_refl _) ?_ | refine ⟨_, Mem.le_refl _, ?_⟩ | fail)
  refine (bytesRl_ok (S := ⟨0, 0, 0, 0, 0, [], []⟩) (D := ⟨none, 0, 0, ha, hn, hc, none, 0, 0⟩) h.held (by dsimp only; omega) hB.msgs).mono ?_
  rintro v _ ⟨rfl, rfl⟩
  repeat' ((conv => whnf); first | refine ob rfl ?_ | refine grow_same (Mem.le_refl _) ?_ | refine ob (Mem.le_refl _) ?_ | refine ⟨?_, True.intro⟩ | fail)
  (conv => whnf); refine brn (fun g6 => ?_) (fun g6 => ?_)
  · repeat' ((conv => whnf); first | refine ⟨?_, True.intro⟩ | refine brn_t rfl ?_ | refine brn_f rfl ?_ | refine ob rfl ?_ | refine ob (by decide) ?_ | refine grow_same (Mem.le_refl _) ?_ | refine ob (Mem.le_refl _) ?_ | refine ⟨_, Mem.le_refl _, ?_⟩ | fail)
    exact ⟨6, rfl, full (.inr (.inr (of_decide_eq_true g6))), rfl⟩
  · repeat' ((conv => whnf); first | refine ⟨?_, True.intro⟩ | refine brn_t rfl ?_ | refine brn_f rfl ?_ | refine ob rfl ?_ | refine ob (by decide) ?_ | refine grow_same (Mem.le_refl _) ?_ | refine ob (Mem.le_refl _) ?_ | refine ⟨_, Mem.le_refl _, ?_⟩ | fail)
    refine ⟨0, rfl, .inr (.inr (.inr ⟨hg, hF, fun hh => ?_, rfl⟩)), rfl⟩
    rcases hh with hh | hh | hh
    · have := hP.2.2.2 hh; omega
    · rw [List.length_map] at hh; omega
    · exact of_decide_eq_false g6 hh
end Go.Proofs.Ytlocjjponfbhmaa

/- States, copied. -/
namespace Go.Proofs.Ytlocjjponfbhmaa
open Go Go.Vm
attribute [local irreducible] Brn Ob Grow CallsM inR LoopVC Mem.row Mem.cells Mem.setCells Mem.upd Own AppVC SrcVC StrVC NextVC New SrcOk subA NewSl Mem.textAt Mem.mapAt Mem.iterAt entryOf kfind Wr NewEls Elems
set_option maxRecDepth 10000
variable {M : Mem} {self epoch : Int} {ul : NxT} {ms : List MX} {mk : List MkC}
theorem encN_one (l : NxT) : ∀ u ∈ l.flatMap encN, u.oneCell' = true := by
  intro u hu
  obtain ⟨x, _, hx⟩ := List.mem_flatMap.1 hu
  simp only [encN, List.mem_cons, List.not_mem_nil, or_false] at hx
  rcases hx with rfl | rfl <;> rfl
theorem copyMs_ok {a : Option Addr} {n c : Nat} (h : MsgsR M a n ms) (hn : n ≤ 1048576) (hb : ∀ m ∈ ms, m.p.length ≤ 1048576) :
    CallsM Try.prog F.ref13_Copy [.slice a n c] M fun v M' => ∃ a' c' ms', v = .slice a' n c' ∧ HeldAt M a' n c' ms' M' ∧ ms'.map MX.msg = ms.map MX.msg := by
  refine fo_ref13_Copy (by simp) ?_
  have hl := h.len
  (conv => whnf); refine new (fun b9 hb9 => ?_)
  replace hb9 : M b9 = none := hb9
  have hN : NewSl M T.api_Msg 5 (some ⟨b9, 0, none⟩) 0 0 (([] : List MX).flatMap encX) _ := NewSl.lit hb9 T.api_Msg 5 0 [] rfl
  obtain ⟨M3, hM3⟩ : ∃ M3, M3 = M.setCells b9 T.api_Msg [] := ⟨_, rfl⟩
  rw [← hM3] at hN
  (conv => whnf)
  erw [← hM3]
  refine loopF (σ := Nat × Mem × (Option Addr × Nat) × List MX) [4, 3] (fun x => [(4, .int .i64 x.1), (3, .slice x.2.2.1.1 x.2.2.2.length x.2.2.1.2)]) (fun _ => [.gone b9]) (fun x => x.2.1)
    (fun | ⟨j, M6, (a6, c6), r⟩ => j ≤ n ∧ HeldAt M a6 r.length c6 r M6 ∧ r.map MX.msg = (ms.take j).map MX.msg) (fun x => n - x.1) ⟨0, M3, (_, _), []⟩ ⟨by omega, ⟨hN, by simp, by simp⟩, by simp⟩ ⟨(by repeat' first | exact True.intro | refine ⟨rfl, ?_⟩), (by repeat' first | exact True.intro | refine ⟨rfl, ?_⟩), Mem.le_refl _, rfl⟩ ?_
  rintro ⟨j, M6, ⟨a6, c6⟩, r⟩ ⟨hj, hH, hms⟩
  have hrl : r.length = j := by have := congrArg List.length hms; simp at this; omega
  (conv => whnf); refine brn (fun g => ?_) (fun g => ?_)
  rotate_left
  · have hge : n ≤ j := by have := of_decide_eq_false g; dsimp only at this; omega
    rw [List.take_of_length_le (by omega)] at hms
    have hrn : r.length = n := by omega
    rw [hrn] at hH
    repeat' ((conv => whnf); first | refine ⟨?_, True.intro⟩ | refine brn_t rfl ?_ | refine brn_f rfl ?_ | refine ob rfl ?_ | refine ob (by decide) ?_ | refine grow_same (Mem.le_refl _) ?_ | refine ob (Mem.le_refl _) ?_ | refine ⟨_, Mem.le_refl _, ?_⟩ | fail)
    refine ⟨a6, c6, r, ?_, hH, hms⟩
    dsimp only
    rw [hrn]
  have hlt : j < ms.length := by have := of_decide_eq_true g; dsimp only at this; omega
  have hx : ms[j]? = some ms[j] := List.getElem?_eq_getElem hlt
  have htk : ms.take (j + 1) = ms.take j ++ [ms[j]] := by rw [List.take_add_one, hx]; rfl
  obtain ⟨b1, o1, ha, hcc⟩ := (h.row.le hH.row.le).fparts encX_len (by decide) hx
  have hd6 := (h.data ms[j] (List.getElem_mem _)).le hH.row.le
  have hbx := hb ms[j] (List.getElem_mem _)
  generalize ms[j] = q at *
  repeat' ((conv => whnf); first | refine ⟨?_, True.intro⟩ | refine brn_t rfl ?_ | refine brn_f rfl ?_ | refine ob rfl ?_ | refine ob (by decide) ?_ | refine grow_same (Mem.le_refl _) ?_ | refine ob (Mem.le_refl _) ?_ | refine ⟨_, Mem.le_refl _, ?_⟩ | fail)
  refine ob (by first | omega | (dsimp only; omega)) ?_
  (conv => whnf); refine atp ha ?_
  (conv => whnf); refine on (hcc 0 4 (by decide)) ?_
  (conv => whnf); refine ob (by first | omega | (dsimp only; omega)) ?_
  (conv => whnf); refine atp ha ?_
  (conv => whnf); refine on (hcc 4 1 (by decide)) ?_
  repeat' ((conv => whnf); first | refine ⟨?_, True.intro⟩ | refine brn_t rfl ?_ | refine brn_f rfl ?_ | refine ob rfl ?_ | refine ob (by decide) ?_ | refine grow_same (Mem.le_refl _) ?_ | refine ob (Mem.le_refl _) ?_ | refine ⟨_, Mem.le_refl _, ?_⟩ | fail)
  refine new (fun b8 hb8 => ?_)
  replace hb8 : M6 b8 = none := hb8
  have hN7 : NewSl M6 T.uint8 1 (some ⟨b8, 0, none⟩) 0 0 (([] : List UInt8).map byteV) _ := NewSl.lit hb8 T.uint8 1 0 [] rfl
  obtain ⟨M7, hM7⟩ : ∃ M7, M7 = M6.setCells b8 T.uint8 [] := ⟨_, rfl⟩
  rw [← hM7] at hN7
  (conv => whnf)
  erw [← hM7]
  repeat' ((conv => whnf); first | refine ⟨?_, True.intro⟩ | refine brn_t rfl ?_ | refine brn_f rfl ?_ | refine ob rfl ?_ | refine ob (by decide) ?_ | refine grow_same (Mem.le_refl _) ?_ | refine ob (Mem.le_refl _) ?_ | refine ⟨_, Mem.le_refl _, ?_⟩ | fail)
  refine srcv (hd6.le hN7.le) ?_
  (conv => whnf); refine appN M6 _ hN7 (by first | omega | (dsimp only; omega)) (by simp [maxLen] <;> omega) (bytes_one _) fun a8 c8 M8 hN8 => ?_
  rw [Nat.zero_add q.p.length] at hN8
  rw [Nat.zero_add q.p.length]
  have hH8 := hH.up hN8.le
  repeat' ((conv => whnf); first | refine ob rfl ?_ | refine grow_same hN8.le ?_ | refine ob hN8.le ?_ | refine ⟨?_, True.intro⟩ | fail)
  repeat' ((conv => whnf); first | refine ⟨?_, True.intro⟩ | refine brn_t rfl ?_ | refine brn_f rfl ?_ | refine ob rfl ?_ | refine ob (by decide) ?_ | refine grow_same (Mem.le_refl _) ?_ | refine ob (Mem.le_refl _) ?_ | refine ⟨_, Mem.le_refl _, ?_⟩ | fail)
  refine appF M hH8.row (⟨q.id, a8, c8, q.p⟩ : MX) rfl (by first | omega | (dsimp only; omega)) (by simp [maxLen]; omega) (by simp [Value.oneCell']) fun a9 c9 M9 hN9 hk9 => ?_
  have hfr : ∀ y, blk a6 y → M y = none := fun y ⟨q, hq, e⟩ => e ▸ (hH8.row.block hq).1
  have hnew : NewSl M T.uint8 1 a8 q.p.length c8 (q.p.map byteV) M8 := hN8.mono hH.row.le
  repeat' ((conv => whnf); first | refine ⟨?_, True.intro⟩ | refine brn_t rfl ?_ | refine brn_f rfl ?_ | refine ob rfl ?_ | refine ob (by decide) ?_ | refine grow_same (Mem.le_refl _) ?_ | refine ob (Mem.le_refl _) ?_ | refine ⟨_, Mem.le_refl _, ?_⟩ | fail)
  refine ob (inR_i64 (by first | omega | (dsimp only; omega))) ?_
  (conv => whnf)
  refine ⟨⟨j + 1, M9, (a9, c9), r ++ [(⟨q.id, a8, c8, q.p⟩ : MX)]⟩, ⟨by omega, ⟨by simpa using hN9, fun m hm => ?_, ?_⟩, ?_⟩, by dsimp only; omega, ?_⟩
  · rcases List.mem_append.1 hm with hm | hm
    · exact (hH8.data m hm).keep hk9 hfr fun q hq ⟨q', hq', e⟩ => hH8.row.ne (hH8.data m hm) (by decide) hq' hq e
    · simp only [List.mem_singleton] at hm
      subst hm
      exact hnew.keep hk9 hfr fun q hq ⟨q', hq', e⟩ => hH8.row.ne hnew (by decide) hq' hq e
  · rw [List.pairwise_append]
    refine ⟨hH.apart, by simp, fun m hm y hy z hz hz' => ?_⟩
    simp only [List.mem_singleton] at hy
    subst hy
    obtain ⟨q1, hq1, e1⟩ := hz
    obtain ⟨q2, hq2, e2⟩ := hz'
    obtain ⟨_, cs, hh⟩ := (hH.data m hm).block hq1
    have h0 := (hN8.block hq2).1
    unfold Mem.has at hh
    rw [e2, ← e1, hh] at h0
    cases h0
  · rw [List.map_append, hms, htk, List.map_append]; rfl
  · simp only [List.length_append, List.length_cons, List.length_nil]
    exact ⟨(by repeat' first | exact True.intro | refine ⟨rfl, ?_⟩), (by repeat' first | exact True.intro | refine ⟨rfl, ?_⟩), Mem.le_refl _, rfl⟩
theorem copyState_ok {ua ha ma : Option Addr} {un uc hn hc mn mc : Nat} (h : StatR M ua un ha hn ma mn ul ms mk) (hB : BigS ms mk un hn hc mn) :
    CallsM Try.prog F.ref15_CopyState [statV self epoch ua un uc ha hn hc ma mn mc] M fun v M' => ∃ ua' uc' ha' hc' ma' mc' ms' mk', v = statV self epoch ua' un uc' ha' hn hc' ma' mn mc' ∧ M.le M' ∧ StatR M' ua' un ha' hn ma' mn ul ms' mk' ∧ BigS ms' mk' un hn hc' mn ∧ ms'.map MX.msg = ms.map MX.msg ∧ mk'.map MkC.mk' = mk.map MkC.mk' := by
  refine fo_ref15_CopyState (by simp) ?_
  have hb1 := hB.b1
  have hul := h.used.flen encN_len (by decide)
  repeat' ((conv => whnf); first | refine ⟨?_, True.intro⟩ | refine brn_t rfl ?_ | refine brn_f rfl ?_ | refine ob rfl ?_ | refine ob (by decide) ?_ | refine grow_same (Mem.le_refl _) ?_ | refine ob (Mem.le_refl _) ?_ | refine ⟨_, Mem.le_refl _, ?_⟩ | fail)
  refine new (fun b8 hb8 => ?_)
  replace hb8 : M b8 = none := hb8
  have hN7 : NewSl M T.api_Next 2 (some ⟨b8, 0, none⟩) 0 0 (([] : NxT).flatMap encN) _ := NewSl.lit hb8 T.api_Next 2 0 [] rfl
  obtain ⟨M7, hM7⟩ : ∃ M7, M7 = M.setCells b8 T.api_Next [] := ⟨_, rfl⟩
  rw [← hM7] at hN7
  (conv => whnf)
  erw [← hM7]
  repeat' ((conv => whnf); first | refine ⟨?_, True.intro⟩ | refine brn_t rfl ?_ | refine brn_f rfl ?_ | refine ob rfl ?_ | refine ob (by decide) ?_ | refine grow_same (Mem.le_refl _) ?_ | refine ob (Mem.le_refl _) ?_ | refine ⟨_, Mem.le_refl _, ?_⟩ | fail)
  refine srcv (h.used.le hN7.le) ?_
  (conv => whnf); refine appN M _ hN7 (by first | omega | (dsimp only; omega)) (by simp [maxLen] <;> omega) (encN_one _) fun a8 c8 M8 hN8 => ?_
  rw [Nat.zero_add un] at hN8
  rw [Nat.zero_add un]
  repeat' ((conv => whnf); first | refine ob rfl ?_ | refine grow_same hN8.le ?_ | refine ob hN8.le ?_ | refine ⟨?_, True.intro⟩ | fail)
  repeat' ((conv => whnf); first | refine ⟨?_, True.intro⟩ | refine brn_t rfl ?_ | refine brn_f rfl ?_ | refine ob rfl ?_ | refine ob (by decide) ?_ | refine grow_same (Mem.le_refl _) ?_ | refine ob (Mem.le_refl _) ?_ | refine ⟨_, Mem.le_refl _, ?_⟩ | fail)
  refine (copyMs_ok (h.held.le hN8.le) hB.b2 hB.msgs).mono ?_
  rintro v M9 ⟨a9, c9, ms9, rfl, hH9, e9⟩
  have hle9 := Mem.le_trans hN8.le hH9.row.le
  repeat' ((conv => whnf); first | refine ob rfl ?_ | refine grow_same hle9 ?_ | refine ob hle9 ?_ | refine ⟨?_, True.intro⟩ | fail)
  repeat' ((conv => whnf); first | refine ⟨?_, True.intro⟩ | refine brn_t rfl ?_ | refine brn_f rfl ?_ | refine ob rfl ?_ | refine ob (by decide) ?_ | refine grow_same (Mem.le_refl _) ?_ | refine ob (Mem.le_refl _) ?_ | refine ⟨_, Mem.le_refl _, ?_⟩ | fail)
  refine (copy_ok (h.seen.le hle9) h.few (by have := hB.b4; omega)).mono ?_
  rintro v M10 ⟨a10, c10, mk10, rfl, hM10, e10⟩
  have hle10 := Mem.le_trans hle9 hM10.row.le
  repeat' ((conv => whnf); first | refine ob rfl ?_ | refine grow_same hle10 ?_ | refine ob hle10 ?_ | refine ⟨?_, True.intro⟩ | fail)
  repeat' ((conv => whnf); first | refine ⟨?_, True.intro⟩ | refine brn_t rfl ?_ | refine brn_f rfl ?_ | refine ob rfl ?_ | refine ob (by decide) ?_ | refine grow_same (Mem.le_refl _) ?_ | refine ob (Mem.le_refl _) ?_ | refine ⟨_, Mem.le_refl _, ?_⟩ | fail)
  have hb4 := hB.b4
  have hb2 := hB.b2
  have big10 : ∀ m ∈ mk10, m.more.length ≤ 1048576 := fun m hm => by
    have h1 : m.mk' ∈ mk.map MkC.mk' := e10 ▸ List.mem_map.2 ⟨m, hm, rfl⟩
    obtain ⟨m2, hm2, e⟩ := List.mem_map.1 h1
    have h2 : m.more = m2.more := (congrArg Mk.more e).symm
    rw [h2]; exact hB.marks m2 hm2
  have big9 : ∀ m ∈ ms9, m.p.length ≤ 1048576 := fun m hm => by
    have h1 : m.msg ∈ ms.map MX.msg := e9 ▸ List.mem_map.2 ⟨m, hm, rfl⟩
    obtain ⟨m2, hm2, e⟩ := List.mem_map.1 h1
    have h2 : m.p = m2.p := (congrArg MsgD.p e).symm
    rw [h2]; exact hB.msgs m2 hm2
  have hcap : hn ≤ c9 := (newSl_iff.1 hH9.row).2.2.1
  refine ⟨a8, c8, a9, c9, a10, c10, ms9, mk10, rfl, hle10, ⟨?_, hH9.msgs.le hM10.row.le, hM10.r, fun m hm => Nat.le_trans (big10 m hm) (by decide), by omega⟩, ⟨hb1, hb2, hcap, hb4, big9, big10⟩, e9, e10⟩
  have := (hN8.up (Mem.le_trans hH9.row.le hM10.row.le)).src
  simpa using this
end Go.Proofs.Ytlocjjponfbhmaa

