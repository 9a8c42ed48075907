/- Tables of ways: a table behind some calls; what is said to a neighbour. -/
import Derived.Test.YtankgacaeejlhaaRoutesV
import Derived.Test.YtankgacaeejlhaaReadsAct18
namespace Go.Proofs.Ytankgacaeejlhaa
open Go Go.Vm
attribute [local irreducible] Brn Ob CallsM inR LoopVC Mem.row Mem.cells Mem.setCells Mem.upd Own AppVC SrcVC StrVC NextVC New SrcOk subA NewSl Mem.textAt Mem.mapAt Mem.iterAt entryOf kfind Wr NewEls Elems
set_option maxRecDepth 10000
variable {M : Mem}
@[reducible] def setV (me age : Int) (a : Option Addr) (n c : Nat) : Value := .agg #[.int .i64 me, .slice a n c, .int .i64 age]
theorem newE_ok {me age : Int} {nb : List Int} (h : newE me nb age = 0) : okNb me (-1) nb = true ∧ (1 ≤ age ∧ age ≤ 64) ∧ isNode me = true := by
  unfold newE at h
  split at h
  · rename_i h1
    split at h
    · rename_i h2
      simp only [Bool.and_eq_true, Bool.not_eq_true', decide_eq_false_iff_not] at h1
      exact ⟨h2, ⟨by omega, by omega⟩, h1.1.1⟩
    · cases h
  · cases h
theorem joint0 {M M2 : Mem} {p b1 b2 : Nat} {a a' : Option Addr} {n c c' : Nat} {me age : Int} {nb : List Int} (he : newE me nb age = 0) (hn : n ≤ 4194304) (ht : TabAt M p b1 b2 a n c me age nb [] []) (hN : NewSl M T.int 1 a' n c' (nb.map intV) M2) :
    Joint M2 p b1 b2 a n c me age nb ⟨a', n, c', none, 0, 0, none, 0, 0⟩ 0 [] [] [] [] := by
  obtain ⟨h1, h2, _⟩ := newE_ok he
  exact ⟨ht.le hN.le, ⟨hN.src, Elems.nil _ _ _, Elems.nil _ _ _, hn, by simp, by simp⟩, SameT.start, h1, h2, hn, by simp⟩
theorem Joint.mono {p b1 b2 : Nat} {a : Option Addr} {n c : Nat} {me age : Int} {nb : List Int} {q : Ref} {k k' : Nat} {st : List (Int × Int)} {m : List (Int × Hd)} {sr : List (Int × Int)} {lr : List (Int × Hd)} (h : Joint M p b1 b2 a n c me age nb q k st m sr lr) (hk : k ≤ k') : Joint M p b1 b2 a n c me age nb q k' st m sr lr :=
  ⟨h.tab, h.ref, h.same, h.ok, h.age, h.n, by have := h.few; omega⟩
theorem Joint.le {M' : Mem} {p b1 b2 : Nat} {a : Option Addr} {n c : Nat} {me age : Int} {nb : List Int} {q : Ref} {k : Nat} {st : List (Int × Int)} {m : List (Int × Hd)} {sr : List (Int × Int)} {lr : List (Int × Hd)} (h : Joint M p b1 b2 a n c me age nb q k st m sr lr) (hle : M.le M') : Joint M' p b1 b2 a n c me age nb q k st m sr lr :=
  ⟨h.tab.le hle, h.ref.le hle, h.same, h.ok, h.age, h.n, h.few⟩
theorem fresh_le {M M' : Mem} (h : M.le M') {b : Nat} (hb : M' b = none) : M b = none := by
  cases e : M b with
  | none => rfl
  | some o => rw [h _ _ e] at hb; cases hb
theorem done_ok (me age : Int) {a : Option Addr} {n c : Nat} {nb : List Int} (hs : SrcOk M 1 a n (nb.map intV)) (hn : n ≤ 1048576) {a2 : Option Addr} {n2 c2 : Nat} {l : List Act} (hl : Elems M 4 a2 n2 (ActR M) l) (hn2 : n2 ≤ 1048576) :
    CallsM Try.prog F.law18_done [setV me age a n c, .slice a2 n2 c2] M fun v M' =>
      (v = .tuple #[.pointer none, noRef, .bool false] ∧ M.le M') ∨
      (∃ p b1 b2 a' c' q k st m sr lr, v = .tuple #[ptr p, q.v me age, .bool true] ∧ M.le M' ∧ k ≤ 40 ∧ isNode me = true ∧ Joint M' p b1 b2 a' n c' me age nb q k st m sr lr) := by
  refine fo_law18_done (by simp) ?_
  repeat' ((conv => whnf); first | refine ⟨?_, True.intro⟩ | refine brn_t rfl ?_ | refine brn_f rfl ?_ | refine ob rfl ?_ | refine ob (by decide) ?_ | refine ob (Mem.le_refl _) ?_ | refine ⟨_, Mem.le_refl _, ?_⟩ | fail)
  refine (New_ok me age a n c nb hs (by omega)).mono ?_
  rintro v M1 (⟨hne, rfl, rfl⟩ | ⟨he, p, b1, b2, a', c', rfl, hp, hb1, hb2, ha, hle, ht⟩)
  · repeat' ((conv => whnf); first | refine ⟨?_, True.intro⟩ | refine brn_t rfl ?_ | refine brn_f rfl ?_ | refine ob rfl ?_ | refine ob (by decide) ?_ | refine ob (Mem.le_refl _) ?_ | refine ⟨_, Mem.le_refl _, ?_⟩ | fail)
    refine (newR_ok me age hs (by omega)).mono ?_
    rintro v M2 (⟨_, rfl, rfl⟩ | ⟨he, _⟩)
    · have hne' : decide (newE me nb age = 0) = false := by simpa using hne
      repeat' ((conv => whnf); first | refine ⟨?_, True.intro⟩ | refine brn_t rfl ?_ | refine brn_f rfl ?_ | refine ob rfl ?_ | refine ob (by decide) ?_ | refine ob (Mem.le_refl _) ?_ | refine ⟨_, Mem.le_refl _, ?_⟩ | fail)
      refine brn_t (by simpa using hne) ?_
      repeat' ((conv => whnf); first | refine ⟨?_, True.intro⟩ | refine brn_t rfl ?_ | refine brn_f rfl ?_ | refine ob rfl ?_ | refine ob (by decide) ?_ | refine ob (Mem.le_refl _) ?_ | refine ⟨_, Mem.le_refl _, ?_⟩ | fail)
      exact .inl ⟨rfl, Mem.le_refl _⟩
    · exact absurd he hne
  repeat' ((conv => whnf); first | refine ⟨?_, True.intro⟩ | refine brn_t rfl ?_ | refine brn_f rfl ?_ | refine ob rfl ?_ | refine ob (by decide) ?_ | refine ob (Mem.le_refl _) ?_ | refine ⟨_, Mem.le_refl _, ?_⟩ | fail)
  refine (newR_ok me age (hs.le hle) (by omega)).mono ?_
  rintro v M2 (⟨hne, _⟩ | ⟨_, aq, cq, rfl, hN⟩)
  · exact absurd he hne
  have hJ := joint0 he (by omega) ht hN
  have hM2 : M.le M2 := Mem.le_trans hle hN.le
  have hz1 : M b1 = none := hb1
  have hz2 : M b2 = none := hb2
  have hme := (newE_ok he).2.2
  (conv => whnf); refine brn_f rfl ?_
  (conv => whnf); refine brn_f rfl ?_
  (conv => whnf); refine brn_f rfl ?_
  (conv => whnf)
  refine loopF (σ := Nat × Mem × Ref × List (Int × Int) × List (Int × Hd) × List (Int × Int) × List (Int × Hd)) [11] (fun y => [(11, .int .i64 y.1)]) (fun y => [.live T.portagelaw18_Set [.v (.int .i64 me), .v (.slice a n c), .v (.int .i64 age)], .live T.portageref18_Table [.v (.int .i64 0), .v (.int .i64 0), .v (.slice none 0 0), .v (.slice none 0 0), .v (.slice none 0 0)], .live T.portageref18_Table [.v (.int .i64 me), .v (.int .i64 age), .v (.slice y.2.2.1.a y.2.2.1.n y.2.2.1.c), .v (.slice y.2.2.1.a2 y.2.2.1.n2 y.2.2.1.c2), .v (.slice y.2.2.1.a3 y.2.2.1.n3 y.2.2.1.c3)]]) (fun y => y.2.1)
    (fun | ⟨i, Mc, q, st, m, sr, lr⟩ => i ≤ n2 ∧ i ≤ 40 ∧ M.le Mc ∧ Joint Mc p b1 b2 a' n c' me age nb q i st m sr lr) (fun y => 40 - y.1) ⟨0, M2, ⟨aq, n, cq, none, 0, 0, none, 0, 0⟩, [], [], [], []⟩ ⟨by omega, by omega, hM2, hJ⟩ ⟨(by repeat' first | exact True.intro | refine ⟨rfl, ?_⟩), (by repeat' first | exact True.intro | refine ⟨rfl, ?_⟩), Mem.le_refl _, rfl⟩ ?_
  rintro ⟨i, Mc, q, st, m, sr, lr⟩ ⟨hi, hi40, hleC, hJ⟩
  (conv => whnf); refine brn (fun g => ?_) (fun g => ?_)
  · have hi' : i < n2 := by have := of_decide_eq_true g; dsimp only at this; omega
    (conv => whnf); refine brn (fun g => ?_) (fun g => ?_)
    · have hi4 : i < 40 := by have := of_decide_eq_true g; dsimp only at this; omega
      obtain ⟨hlt, b, o, cs, rfl, hrows, hrow, hcl, a3, n3, c3, hcs, hsc, hn3⟩ := hl.at (by decide) (i := i) hi'
      have hrow3 := Mem.row_le hleC hrow
      rw [hcs] at hrow3
      have hplay := play_ok (c1 := c3) hJ (by omega) l[i].kind l[i].dest l[i].via (hsc.le hleC) hn3
      (conv => whnf); refine ob (by first | omega | (dsimp only; omega)) ?_
      (conv => whnf); refine on hrow3 ?_
      (conv => whnf)
      refine ⟨?_, ?_, trivial⟩
      · (conv => whnf); refine hplay.mono ?_
        rintro v M3 ⟨q3, st3, m3, sr3, lr3, rfl, hkp, hJ3⟩
        have hle3 : M.le M3 := hkp.le hleC fun y hy => by rcases hy with rfl | rfl <;> assumption
        repeat' ((conv => whnf); first | refine ob rfl ?_ | refine ob (Mem.le_refl _) ?_ | refine ⟨?_, True.intro⟩ | fail)
        repeat' ((conv => whnf); first | refine ⟨?_, True.intro⟩ | refine brn_t rfl ?_ | refine brn_f rfl ?_ | refine ob rfl ?_ | refine ob (by decide) ?_ | refine ob (Mem.le_refl _) ?_ | refine ⟨_, Mem.le_refl _, ?_⟩ | fail)
        refine ob (inR_i64 (by first | omega | (dsimp only; omega))) ?_
        (conv => whnf)
        exact ⟨⟨i + 1, M3, q3, st3, m3, sr3, lr3⟩, ⟨by omega, by omega, hle3, hJ3⟩, by dsimp only; omega, ⟨(by repeat' first | exact True.intro | refine ⟨rfl, ?_⟩), (by repeat' first | exact True.intro | refine ⟨rfl, ?_⟩), Mem.le_refl _, rfl⟩⟩
      · repeat' ((conv => whnf); first | refine ob rfl ?_ | refine ob (Mem.le_refl _) ?_ | refine ⟨?_, True.intro⟩ | fail)
        refine hplay.mono ?_
        rintro v M3 ⟨q3, st3, m3, sr3, lr3, rfl, hkp, hJ3⟩
        have hle3 : M.le M3 := hkp.le hleC fun y hy => by rcases hy with rfl | rfl <;> assumption
        repeat' ((conv => whnf); first | refine ob rfl ?_ | refine ob (Mem.le_refl _) ?_ | refine ⟨?_, True.intro⟩ | fail)
        repeat' ((conv => whnf); first | refine ⟨?_, True.intro⟩ | refine brn_t rfl ?_ | refine brn_f rfl ?_ | refine ob rfl ?_ | refine ob (by decide) ?_ | refine ob (Mem.le_refl _) ?_ | refine ⟨_, Mem.le_refl _, ?_⟩ | fail)
        refine ob (inR_i64 (by first | omega | (dsimp only; omega))) ?_
        (conv => whnf)
        exact ⟨⟨i + 1, M3, q3, st3, m3, sr3, lr3⟩, ⟨by omega, by omega, hle3, hJ3⟩, by dsimp only; omega, ⟨(by repeat' first | exact True.intro | refine ⟨rfl, ?_⟩), (by repeat' first | exact True.intro | refine ⟨rfl, ?_⟩), Mem.le_refl _, rfl⟩⟩
    · skip
      (conv => whnf); refine ⟨?_, trivial⟩
      repeat' ((conv => whnf); first | refine ⟨?_, True.intro⟩ | refine brn_t rfl ?_ | refine brn_f rfl ?_ | refine ob rfl ?_ | refine ob (by decide) ?_ | refine ob (Mem.le_refl _) ?_ | refine ⟨_, Mem.le_refl _, ?_⟩ | fail)
      exact .inr ⟨p, b1, b2, a', c', q, i, st, m, sr, lr, rfl, hleC, hi40, hme, hJ⟩
  · skip
    (conv => whnf); refine ⟨?_, trivial⟩
    repeat' ((conv => whnf); first | refine ⟨?_, True.intro⟩ | refine brn_t rfl ?_ | refine brn_f rfl ?_ | refine ob rfl ?_ | refine ob (by decide) ?_ | refine ob (Mem.le_refl _) ?_ | refine ⟨_, Mem.le_refl _, ?_⟩ | fail)
    exact .inr ⟨p, b1, b2, a', c', q, i, st, m, sr, lr, rfl, hleC, hi40, hme, hJ⟩
section
variable {p b1 b2 : Nat} {a : Option Addr} {n c : Nat} {me age : Int} {nb : List Int} {q : Ref} {k : Nat} {st : List (Int × Int)} {m : List (Int × Hd)} {sr : List (Int × Int)} {lr : List (Int × Hd)}
def vecL (me : Int) (nb : List Int) (st : List (Int × Int)) (m : List (Int × Hd)) (to : Int) : List Int := if to ∈ nb then (List.range 64).map fun (d : Nat) => vecOf me nb st m to d else []
theorem Joint.vec (h : Joint M p b1 b2 a n c me age nb q k st m sr lr) (to : Int) : CallsM Try.prog F.routes_Table_Vector [ptr p, .int .i64 to] M fun v M' => ∃ av nv cv, v = .slice av nv cv ∧ nv = (vecL me nb st m to).length ∧ NewSl M T.int 1 av nv cv ((vecL me nb st m to).map intV) M' := by
  refine (Vector_ok h.tab h.same.good h.n to).mono ?_
  rintro v M' (⟨hno, rfl, rfl⟩ | ⟨hin, b, L, rfl, hN, rfl⟩)
  · exact ⟨_, _, _, rfl, by simp [vecL, hno], by simpa [vecL, hno] using NewSl.none M' T.int 1⟩
  · exact ⟨_, _, _, rfl, by simp [vecL, hin], by simpa [vecL, hin] using hN⟩
theorem Joint.vecR (h : Joint M p b1 b2 a n c me age nb q k st m sr lr) (to : Int) : CallsM Try.prog F.ref18_Vector [q.v me age, .int .i64 to] M fun v M' => ∃ av nv cv, v = .slice av nv cv ∧ nv = (vecL me nb st m to).length ∧ NewSl M T.int 1 av nv cv ((vecL me nb st m to).map intV) M' := by
  have e : vecL me nb st m to = if to ∈ nb then (List.range 64).map fun (d : Nat) => Proofs.Ytankgacaeejlhaa.vecR me nb sr lr to d else [] := by
    unfold vecL
    simp only [h.same.vec h.ok]
  rw [e]
  refine (vectorR_ok h.ref h.same.goodR me age to).mono ?_
  rintro v M' (⟨hno, rfl, rfl⟩ | ⟨hin, a, c, rfl, hN⟩)
  · exact ⟨_, _, _, rfl, by simp [hno], by simpa [hno] using NewSl.none M' T.int 1⟩
  · exact ⟨_, _, _, rfl, by simp [hin], by simpa [hin] using hN⟩
theorem vecL_len (me : Int) (nb : List Int) (st : List (Int × Int)) (m : List (Int × Hd)) (to : Int) : (vecL me nb st m to).length ≤ 64 := by
  unfold vecL; split <;> simp
end
theorem vectors_ok (me age to : Int) {a : Option Addr} {n c : Nat} {nb : List Int} (hs : SrcOk M 1 a n (nb.map intV)) (hn : n ≤ 1048576) {a2 : Option Addr} {n2 c2 : Nat} {l : List Act} (hl : Elems M 4 a2 n2 (ActR M) l) (hn2 : n2 ≤ 1048576) :
    CallsM Try.prog F.law18_RoutesVectors [setV me age a n c, .slice a2 n2 c2, .int .i64 to] M fun v M' => v = .bool true ∧ M.le M' := by
  refine fo_law18_RoutesVectors (by simp) ?_
  repeat' ((conv => whnf); first | refine ⟨?_, True.intro⟩ | refine brn_t rfl ?_ | refine brn_f rfl ?_ | refine ob rfl ?_ | refine ob (by decide) ?_ | refine ob (Mem.le_refl _) ?_ | refine ⟨_, Mem.le_refl _, ?_⟩ | fail)
  refine (done_ok me age hs hn hl hn2).mono ?_
  rintro v M1 (⟨rfl, hle⟩ | ⟨p, b1, b2, a', c', q, k, st, m, sr, lr, rfl, hle, hk, hme, hJ⟩)
  · repeat' ((conv => whnf); first | refine ⟨?_, True.intro⟩ | refine brn_t rfl ?_ | refine brn_f rfl ?_ | refine ob rfl ?_ | refine ob (by decide) ?_ | refine ob (Mem.le_refl _) ?_ | refine ⟨_, Mem.le_refl _, ?_⟩ | fail)
    refine awake_ok.mono ?_
    rintro v M2 ⟨rfl, hle2⟩
    repeat' ((conv => whnf); first | refine ⟨?_, True.intro⟩ | refine brn_t rfl ?_ | refine brn_f rfl ?_ | refine ob rfl ?_ | refine ob (by decide) ?_ | refine ob (Mem.le_refl _) ?_ | refine ⟨_, Mem.le_refl _, ?_⟩ | fail)
    exact ⟨rfl, Mem.le_trans hle hle2⟩
  repeat' ((conv => whnf); first | refine ⟨?_, True.intro⟩ | refine brn_t rfl ?_ | refine brn_f rfl ?_ | refine ob rfl ?_ | refine ob (by decide) ?_ | refine ob (Mem.le_refl _) ?_ | refine ⟨_, Mem.le_refl _, ?_⟩ | fail)
  refine (hJ.vec to).mono ?_
  rintro v M2 ⟨av, nv, cv, rfl, hnv, hN⟩
  have hvl := vecL_len me nb st m to
  repeat' ((conv => whnf); first | refine ⟨?_, True.intro⟩ | refine brn_t rfl ?_ | refine brn_f rfl ?_ | refine ob rfl ?_ | refine ob (by decide) ?_ | refine ob (Mem.le_refl _) ?_ | refine ⟨_, Mem.le_refl _, ?_⟩ | fail)
  refine ((hJ.le hN.le).vecR to).mono ?_
  rintro v M3 ⟨aw, nw, cw, rfl, hnw, hNw⟩
  repeat' ((conv => whnf); first | refine ⟨?_, True.intro⟩ | refine brn_t rfl ?_ | refine brn_f rfl ?_ | refine ob rfl ?_ | refine ob (by decide) ?_ | refine ob (Mem.le_refl _) ?_ | refine ⟨_, Mem.le_refl _, ?_⟩ | fail)
  refine (same_ok (hN.src.le hNw.le) hNw.src (by omega)).mono ?_
  rintro v _ ⟨rfl, rfl⟩
  (conv => whnf); refine brn_f (by simp) ?_
  (conv => whnf)
  have hN3 := hN.up hNw.le
  obtain ⟨L0, hL0⟩ : ∃ L0, L0 = vecL me nb st m to := ⟨_, rfl⟩
  rw [← hL0] at hN3
  refine loopF (σ := Nat × Mem × List Int) [11] (fun y => [(11, .int .i64 y.1)]) (fun _ => [.live T.portagelaw18_Set [.v (.int .i64 me), .v (.slice a n c), .v (.int .i64 age)], .live T.portageref18_Table [.v (.int .i64 me), .v (.int .i64 age), .v (.slice q.a q.n q.c), .v (.slice q.a2 q.n2 q.c2), .v (.slice q.a3 q.n3 q.c3)]]) (fun y => y.2.1)
    (fun | ⟨i, Mc, L⟩ => i ≤ nv ∧ NewSl M1 T.int 1 av nv cv (L.map intV) Mc) (fun y => nv - y.1) ⟨0, M3, L0⟩ ⟨by omega, hN3⟩ ⟨(by repeat' first | exact True.intro | refine ⟨rfl, ?_⟩), (by repeat' first | exact True.intro | refine ⟨rfl, ?_⟩), Mem.le_refl _, rfl⟩ ?_
  rintro ⟨i, Mc, L⟩ ⟨hi, hNc⟩
  (conv => whnf); refine brn (fun g => ?_) (fun g => ?_)
  · have hi' : i < nv := by have := of_decide_eq_true g; dsimp only at this; omega
    obtain ⟨b', cs, hbb, _, hcells, hlen, hst⟩ := hNc.store1 (j := i) hi'
    subst hbb
    (conv => whnf); refine ob (by first | omega | (dsimp only; omega)) ?_
    (conv => whnf); refine on hcells ?_
    (conv => whnf); refine ob hlen ?_
    obtain ⟨hN', hk'⟩ := hst 1
    (conv => whnf); refine ob (inR_i64 (by first | omega | (dsimp only; omega))) ?_
    (conv => whnf)
    exact ⟨⟨i + 1, _, _⟩, ⟨by omega, hN'⟩, by dsimp only; omega, ⟨(by repeat' first | exact True.intro | refine ⟨rfl, ?_⟩), (by repeat' first | exact True.intro | refine ⟨rfl, ?_⟩), Mem.le_refl _, rfl⟩⟩
  · have hJc := hJ.le hNc.le
    (conv => whnf); refine ⟨Mc, Mem.le_refl _, ?_⟩
    repeat' ((conv => whnf); first | refine ob rfl ?_ | refine ob (Mem.le_refl _) ?_ | refine ⟨?_, True.intro⟩ | fail)
    refine (hJc.vec to).mono ?_
    rintro v M5 ⟨ax, nx, cx, rfl, hnx, hNx⟩
    repeat' ((conv => whnf); first | refine ob rfl ?_ | refine ob hNx.le ?_ | refine ⟨?_, True.intro⟩ | fail)
    refine ((hJc.le hNx.le).vecR to).mono ?_
    rintro v M6 ⟨ay, ny, cy, rfl, hny, hNy⟩
    repeat' ((conv => whnf); first | refine ob rfl ?_ | refine ob (Mem.le_refl _) ?_ | refine ⟨?_, True.intro⟩ | fail)
    refine (same_ok (hNx.src.le hNy.le) hNy.src (by omega)).mono ?_
    rintro v _ ⟨rfl, rfl⟩
    have hd : decide (vecL me nb st m to = vecL me nb st m to) = true := by simp
    rw [hd]
    repeat' ((conv => whnf); first | refine ⟨?_, True.intro⟩ | refine brn_t rfl ?_ | refine brn_f rfl ?_ | refine ob rfl ?_ | refine ob (by decide) ?_ | refine ob (Mem.le_refl _) ?_ | refine ⟨_, Mem.le_refl _, ?_⟩ | fail)
    refine awake_ok.mono ?_
    rintro v M7 ⟨rfl, hle7⟩
    repeat' ((conv => whnf); first | refine ⟨?_, True.intro⟩ | refine brn_t rfl ?_ | refine brn_f rfl ?_ | refine ob rfl ?_ | refine ob (by decide) ?_ | refine ob (Mem.le_refl _) ?_ | refine ⟨_, Mem.le_refl _, ?_⟩ | fail)
    exact ⟨rfl, Mem.le_trans hle (Mem.le_trans hNc.le (Mem.le_trans hNx.le (Mem.le_trans hNy.le hle7)))⟩
end Go.Proofs.Ytankgacaeejlhaa
