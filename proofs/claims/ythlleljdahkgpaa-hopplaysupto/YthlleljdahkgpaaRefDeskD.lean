/- The document's desk: a tick; its plan; sameness. -/
import Derived.Test.YthlleljdahkgpaaRefDeskC
namespace Go.Proofs.Ythlleljdahkgpaa
open Go Go.Vm
attribute [local irreducible] Brn Ob Grow CallsM inR LoopVC Mem.row Mem.cells Mem.setCells Mem.upd Own AppVC SrcVC StrVC NextVC New SrcOk subA NewSl Mem.textAt Mem.mapAt Mem.iterAt entryOf kfind Wr NewEls Elems
set_option maxRecDepth 10000
variable {M : Mem} {L : KL} {a : Option Addr} {n c : Nat} {wait next : Int}
theorem newR_ok (wait : Int) : CallsM Try.prog F.ref20_New [.int .i64 wait] M fun v M' => M = M' ∧ (((wait < 1 ∨ 64 < wait) ∧ v = .tuple #[RD 0 0 none 0 0, .int .i64 1]) ∨ ((1 ≤ wait ∧ wait ≤ 64) ∧ v = .tuple #[RD wait 0 none 0 0, .int .i64 0])) := by
  refine fo_ref20_New (by simp) ?_
  repeat' ((conv => whnf); first | refine ⟨?_, True.intro⟩ | refine brn_t rfl ?_ | refine brn_f rfl ?_ | refine ob rfl ?_ | refine ob (by decide) ?_ | refine grow_same (Mem.le_refl _) ?_ | refine ob (Mem.le_refl _) ?_ | refine ⟨_, Mem.le_refl _, ?_⟩ | fail)
  refine brn (fun g => ?_) (fun g => ?_)
  · repeat' ((conv => whnf); first | refine ⟨?_, True.intro⟩ | refine brn_t rfl ?_ | refine brn_f rfl ?_ | refine ob rfl ?_ | refine ob (by decide) ?_ | refine grow_same (Mem.le_refl _) ?_ | refine ob (Mem.le_refl _) ?_ | refine ⟨_, Mem.le_refl _, ?_⟩ | fail)
    exact ⟨rfl, .inl ⟨.inl (of_decide_eq_true g), rfl⟩⟩
  · have g1 := of_decide_eq_false g
    repeat' ((conv => whnf); first | refine ⟨?_, True.intro⟩ | refine brn_t rfl ?_ | refine brn_f rfl ?_ | refine ob rfl ?_ | refine ob (by decide) ?_ | refine grow_same (Mem.le_refl _) ?_ | refine ob (Mem.le_refl _) ?_ | refine ⟨_, Mem.le_refl _, ?_⟩ | fail)
    refine brn (fun g2 => ?_) (fun g2 => ?_)
    · repeat' ((conv => whnf); first | refine ⟨?_, True.intro⟩ | refine brn_t rfl ?_ | refine brn_f rfl ?_ | refine ob rfl ?_ | refine ob (by decide) ?_ | refine grow_same (Mem.le_refl _) ?_ | refine ob (Mem.le_refl _) ?_ | refine ⟨_, Mem.le_refl _, ?_⟩ | fail)
      exact ⟨rfl, .inl ⟨.inr (of_decide_eq_true g2), rfl⟩⟩
    · have g3 := of_decide_eq_false g2
      repeat' ((conv => whnf); first | refine ⟨?_, True.intro⟩ | refine brn_t rfl ?_ | refine brn_f rfl ?_ | refine ob rfl ?_ | refine ob (by decide) ?_ | refine grow_same (Mem.le_refl _) ?_ | refine ob (Mem.le_refl _) ?_ | refine ⟨_, Mem.le_refl _, ?_⟩ | fail)
      exact ⟨rfl, .inr ⟨by omega, rfl⟩⟩
theorem tick_take (L : KL) {k : Nat} (hk : k < L.length) : tickL (L.take (k + 1)) = tickL (L.take k) ++ (match tickD L[k].2 with | none => [] | some y => [(L[k].1, y)]) := by
  rw [List.take_add_one, List.getElem?_eq_getElem hk, tickL, tickL, List.filterMap_append]
  congr 1
  simp only [Option.toList_some, List.filterMap_cons, List.filterMap_nil]
  cases tickD L[k].2 <;> rfl
theorem tickR_ok (hL : SrcOk M 8 a n (L.flatMap encK)) (hn : n ≤ 99999999) (hK : ∀ x ∈ L, KInv x.2) : CallsM Try.prog F.ref20_Tick [RD wait next a n c] M fun v M' => M.le M' ∧ DeskV wait next (tickL L) M' v := by
  refine fo_ref20_Tick (by simp) ?_
  have hl := hL.flen encK_len (by decide)
  repeat' ((conv => whnf); first | refine ⟨?_, True.intro⟩ | refine brn_t rfl ?_ | refine brn_f rfl ?_ | refine ob rfl ?_ | refine ob (by decide) ?_ | refine grow_same (Mem.le_refl _) ?_ | refine ob (Mem.le_refl _) ?_ | refine ⟨_, Mem.le_refl _, ?_⟩ | fail)
  refine new (fun b1 hb1 => ?_)
  replace hb1 : M b1 = none := hb1
  obtain ⟨M1, hM1⟩ : ∃ M1, M1 = M.setCells b1 T.portageref20_Known [] := ⟨_, rfl⟩
  have hN1 : NewSl M T.portageref20_Known 8 (some ⟨b1, 0, none⟩) 0 0 (([] : KL).flatMap encK) M1 := hM1 ▸ NewSl.lit hb1 T.portageref20_Known 8 0 [] rfl
  (conv => whnf)
  erw [← hM1]
  refine loopF (σ := Nat × Mem × (Option Addr × Nat × Nat)) [4, 3] (fun y => [(4, .int .i64 y.1), (3, .slice y.2.2.1 y.2.2.2.1 y.2.2.2.2)]) (fun _ => [.live T.portageref20_Desk [.v (.int .i64 wait), .v (.int .i64 next), .v (.slice a n c)], .live T.portageref20_Desk [.v (.int .i64 0), .v (.int .i64 0), .v (.slice none 0 0)]]) (fun y => y.2.1)
    (fun | ⟨k, M2, (a2, n2, c2)⟩ => k ≤ n ∧ n2 = (tickL (L.take k)).length ∧ NewSl M T.portageref20_Known 8 a2 n2 c2 ((tickL (L.take k)).flatMap encK) M2) (fun y => n - y.1) ⟨0, M1, (some ⟨b1, 0, none⟩, 0, 0)⟩ ⟨by omega, rfl, hN1⟩ ⟨(by repeat' first | exact True.intro | refine ⟨rfl, ?_⟩), (by repeat' first | exact True.intro | refine ⟨rfl, ?_⟩), Mem.le_refl _, rfl⟩ ?_
  rintro ⟨k, M2, ⟨a2, n2, c2⟩⟩ ⟨hk, hn2, hN⟩
  have hlen : (tickL (L.take k)).length ≤ k := by
    have h9 : (tickL (L.take k)).length ≤ (L.take k).length := List.length_filterMap_le _ _
    rw [List.length_take] at h9; omega
  (conv => whnf); refine brn (fun g => ?_) (fun g => ?_)
  rotate_left
  · have hge : k = n := by have := of_decide_eq_false g; dsimp only at this; omega
    subst hge
    rw [List.take_of_length_le (by omega)] at hN hn2
    subst hn2
    repeat' ((conv => whnf); first | refine ⟨?_, True.intro⟩ | refine brn_t rfl ?_ | refine brn_f rfl ?_ | refine ob rfl ?_ | refine ob (by decide) ?_ | refine grow_same (Mem.le_refl _) ?_ | refine ob (Mem.le_refl _) ?_ | refine ⟨_, Mem.le_refl _, ?_⟩ | fail)
    exact ⟨hN.le, a2, c2, rfl, hN.src⟩
  have hlt : k < L.length := by have := of_decide_eq_true g; dsimp only at this; omega
  have hx : L[k]? = some L[k] := List.getElem?_eq_getElem hlt
  have htk := tick_take L hlt
  have hKx := hK L[k] (List.getElem_mem _)
  obtain ⟨b3, o3, ha3, hc3⟩ := (hL.le hN.le).fparts encK_len (by decide) hx
  generalize L[k] = x at *
  obtain ⟨⟨k1, k2, k3, k4⟩, k5⟩ := hKx
  (conv => whnf); refine ob (by first | omega | (dsimp only; omega)) ?_
  (conv => whnf); refine atp ha3 ?_
  (conv => whnf); refine on (hc3 0 8 (by decide)) ?_
  (conv => whnf); refine brn (fun g1 => ?_) (fun g1 => ?_)
  · have g1' : 1 < x.2.waits := of_decide_eq_true g1
    have hd : tickD x.2 = some ⟨x.2.to, 0, 0, x.2.waits - 1⟩ := by unfold tickD; rw [if_pos g1']
    rw [hd] at htk
    (conv => whnf); refine ob (inR_i64 (by first | omega | (dsimp only; omega))) ?_
    repeat' ((conv => whnf); first | refine ⟨?_, True.intro⟩ | refine brn_t rfl ?_ | refine brn_f rfl ?_ | refine ob rfl ?_ | refine ob (by decide) ?_ | refine grow_same (Mem.le_refl _) ?_ | refine ob (Mem.le_refl _) ?_ | refine ⟨_, Mem.le_refl _, ?_⟩ | fail)
    refine appF M hN (x.1, ⟨x.2.to, 0, 0, x.2.waits - 1⟩) (by simp) (by dsimp only; omega) (by dsimp only; simp [maxLen]; omega) (encK_one (x.1, ⟨x.2.to, 0, 0, x.2.waits - 1⟩)) fun a4 c4 M4 hN4 hk4 => ?_
    repeat' ((conv => whnf); first | refine ⟨?_, True.intro⟩ | refine brn_t rfl ?_ | refine brn_f rfl ?_ | refine ob rfl ?_ | refine ob (by decide) ?_ | refine grow_same (Mem.le_refl _) ?_ | refine ob (Mem.le_refl _) ?_ | refine ⟨_, Mem.le_refl _, ?_⟩ | fail)
    refine brn_f (decide_eq_false (by omega)) ?_
    repeat' ((conv => whnf); first | refine ⟨?_, True.intro⟩ | refine brn_t rfl ?_ | refine brn_f rfl ?_ | refine ob rfl ?_ | refine ob (by decide) ?_ | refine grow_same (Mem.le_refl _) ?_ | refine ob (Mem.le_refl _) ?_ | refine ⟨_, Mem.le_refl _, ?_⟩ | fail)
    refine ob (inR_i64 (by first | omega | (dsimp only; omega))) ?_
    (conv => whnf)
    exact ⟨⟨k + 1, M4, (a4, n2 + 1, c4)⟩, ⟨by omega, by rw [htk, hn2]; simp, htk ▸ hN4⟩, by dsimp only; omega, ⟨(by repeat' first | exact True.intro | refine ⟨rfl, ?_⟩), (by repeat' first | exact True.intro | refine ⟨rfl, ?_⟩), Mem.le_refl _, rfl⟩⟩
  have g1' : ¬ 1 < x.2.waits := of_decide_eq_false g1
  (conv => whnf); refine brn (fun g2 => ?_) (fun g2 => ?_)
  · have g2' : x.2.waits = 0 := of_decide_eq_true g2
    (conv => whnf); refine ob (inR_i64 (by first | omega | (dsimp only; omega))) ?_
    (conv => whnf); refine brn (fun g3 => ?_) (fun g3 => ?_)
    · have g3' : x.2.ticks + 1 < 64 := of_decide_eq_true g3
      have hd : tickD x.2 = some ⟨x.2.to, x.2.n, x.2.ticks + 1, 0⟩ := by unfold tickD; rw [if_neg g1', if_pos ⟨g2', g3'⟩]
      rw [hd] at htk
      (conv => whnf); refine ob (inR_i64 (by first | omega | (dsimp only; omega))) ?_
      repeat' ((conv => whnf); first | refine ⟨?_, True.intro⟩ | refine brn_t rfl ?_ | refine brn_f rfl ?_ | refine ob rfl ?_ | refine ob (by decide) ?_ | refine grow_same (Mem.le_refl _) ?_ | refine ob (Mem.le_refl _) ?_ | refine ⟨_, Mem.le_refl _, ?_⟩ | fail)
      refine appF M hN (x.1, ⟨x.2.to, x.2.n, x.2.ticks + 1, 0⟩) (by simp) (by dsimp only; omega) (by dsimp only; simp [maxLen]; omega) (encK_one (x.1, ⟨x.2.to, x.2.n, x.2.ticks + 1, 0⟩)) fun a4 c4 M4 hN4 hk4 => ?_
      repeat' ((conv => whnf); first | refine ⟨?_, True.intro⟩ | refine brn_t rfl ?_ | refine brn_f rfl ?_ | refine ob rfl ?_ | refine ob (by decide) ?_ | refine grow_same (Mem.le_refl _) ?_ | refine ob (Mem.le_refl _) ?_ | refine ⟨_, Mem.le_refl _, ?_⟩ | fail)
      refine ob (inR_i64 (by first | omega | (dsimp only; omega))) ?_
      (conv => whnf)
      exact ⟨⟨k + 1, M4, (a4, n2 + 1, c4)⟩, ⟨by omega, by rw [htk, hn2]; simp, htk ▸ hN4⟩, by dsimp only; omega, ⟨(by repeat' first | exact True.intro | refine ⟨rfl, ?_⟩), (by repeat' first | exact True.intro | refine ⟨rfl, ?_⟩), Mem.le_refl _, rfl⟩⟩
    · have g3' : ¬ x.2.ticks + 1 < 64 := of_decide_eq_false g3
      have hd : tickD x.2 = none := by unfold tickD; rw [if_neg g1', if_neg (fun h => g3' h.2)]
      rw [hd] at htk
      repeat' ((conv => whnf); first | refine ⟨?_, True.intro⟩ | refine brn_t rfl ?_ | refine brn_f rfl ?_ | refine ob rfl ?_ | refine ob (by decide) ?_ | refine grow_same (Mem.le_refl _) ?_ | refine ob (Mem.le_refl _) ?_ | refine ⟨_, Mem.le_refl _, ?_⟩ | fail)
      refine ob (inR_i64 (by first | omega | (dsimp only; omega))) ?_
      (conv => whnf)
      exact ⟨⟨k + 1, M2, (a2, n2, c2)⟩, ⟨by omega, by rw [htk]; simpa using hn2, by rw [htk]; simpa using hN⟩, by dsimp only; omega, ⟨(by repeat' first | exact True.intro | refine ⟨rfl, ?_⟩), (by repeat' first | exact True.intro | refine ⟨rfl, ?_⟩), Mem.le_refl _, rfl⟩⟩
  · have g2' : ¬ x.2.waits = 0 := of_decide_eq_false g2
    have hd : tickD x.2 = none := by unfold tickD; rw [if_neg g1', if_neg (fun h => g2' h.1)]
    rw [hd] at htk
    repeat' ((conv => whnf); first | refine ⟨?_, True.intro⟩ | refine brn_t rfl ?_ | refine brn_f rfl ?_ | refine ob rfl ?_ | refine ob (by decide) ?_ | refine grow_same (Mem.le_refl _) ?_ | refine ob (Mem.le_refl _) ?_ | refine ⟨_, Mem.le_refl _, ?_⟩ | fail)
    refine ob (inR_i64 (by first | omega | (dsimp only; omega))) ?_
    (conv => whnf)
    exact ⟨⟨k + 1, M2, (a2, n2, c2)⟩, ⟨by omega, by rw [htk]; simpa using hn2, by rw [htk]; simpa using hN⟩, by dsimp only; omega, ⟨(by repeat' first | exact True.intro | refine ⟨rfl, ?_⟩), (by repeat' first | exact True.intro | refine ⟨rfl, ?_⟩), Mem.le_refl _, rfl⟩⟩
theorem nodeR_ok (d : Int) : CallsM Try.prog F.ref18_Node [.int .i64 d] M fun v M' => v = .bool (decide (0 ≤ d ∧ d < 64)) ∧ M = M' := by
  refine fo_ref18_Node (by simp) ?_
  (conv => whnf); refine brn (fun g => ?_) (fun g => ?_)
  · have g' := of_decide_eq_true g
    repeat' ((conv => whnf); first | refine ⟨?_, True.intro⟩ | refine brn_t rfl ?_ | refine brn_f rfl ?_ | refine ob rfl ?_ | refine ob (by decide) ?_ | refine grow_same (Mem.le_refl _) ?_ | refine ob (Mem.le_refl _) ?_ | refine ⟨_, Mem.le_refl _, ?_⟩ | fail)
    refine ⟨?_, rfl⟩
    congr 1
    rw [Bool.eq_iff_iff, decide_eq_true_eq, decide_eq_true_eq]
    omega
  · have g' := of_decide_eq_false g
    repeat' ((conv => whnf); first | refine ⟨?_, True.intro⟩ | refine brn_t rfl ?_ | refine brn_f rfl ?_ | refine ob rfl ?_ | refine ob (by decide) ?_ | refine grow_same (Mem.le_refl _) ?_ | refine ob (Mem.le_refl _) ?_ | refine ⟨_, Mem.le_refl _, ?_⟩ | fail)
    exact ⟨by rw [decide_eq_false (by omega)], rfl⟩
theorem hasR_ok {l : List Int} (hs : SrcOk M 1 a n (l.map intV)) (hn : n ≤ 4194304) (x : Int) : CallsM Try.prog F.ref18_Has [.slice a n c, .int .i64 x] M fun v M' => v = .bool (decide (x ∈ l)) ∧ M = M' := by
  refine fo_ref18_Has (by simp) ?_
  have hl := hs.maplen
  (conv => whnf)
  refine loopQ (σ := Nat) [5] (fun k => [(5, .int .i64 k)]) (fun k => k ≤ n ∧ ∀ j, j < k → ∀ y, l[j]? = some y → y ≠ x) (fun k => n - k) 0 ⟨by omega, by omega⟩ ⟨(by repeat' first | exact True.intro | refine ⟨rfl, ?_⟩), (by repeat' first | exact True.intro | refine ⟨rfl, ?_⟩), Mem.le_refl _, rfl⟩ ?_
  rintro k ⟨hk, hp⟩
  (conv => whnf); refine brn (fun g => ?_) (fun g => ?_)
  · have g' : k < n := by have := of_decide_eq_true g; omega
    obtain ⟨hlt, b1, o1, ha1, hrow⟩ := hs.at g'
    (conv => whnf); refine ob (by first | omega | (dsimp only; omega)) ?_
    (conv => whnf); refine atp ha1 ?_
    (conv => whnf); refine on hrow ?_
    (conv => whnf); refine brn (fun g1 => ?_) (fun g1 => ?_)
    · have g2 : l[k] = x := of_decide_eq_true g1
      repeat' ((conv => whnf); first | refine ⟨?_, True.intro⟩ | refine brn_t rfl ?_ | refine brn_f rfl ?_ | refine ob rfl ?_ | refine ob (by decide) ?_ | refine grow_same (Mem.le_refl _) ?_ | refine ob (Mem.le_refl _) ?_ | refine ⟨_, Mem.le_refl _, ?_⟩ | fail)
      exact ⟨by rw [decide_eq_true (g2 ▸ List.getElem_mem _)], rfl⟩
    · have g2 : ¬ l[k] = x := of_decide_eq_false g1
      repeat' ((conv => whnf); first | refine ⟨?_, True.intro⟩ | refine brn_t rfl ?_ | refine brn_f rfl ?_ | refine ob rfl ?_ | refine ob (by decide) ?_ | refine grow_same (Mem.le_refl _) ?_ | refine ob (Mem.le_refl _) ?_ | refine ⟨_, Mem.le_refl _, ?_⟩ | fail)
      refine ob (inR_i64 (by first | omega | (dsimp only; omega))) ?_
      (conv => whnf)
      refine ⟨k + 1, ⟨by omega, fun j hj y hy => ?_⟩, by omega, ⟨(by repeat' first | exact True.intro | refine ⟨rfl, ?_⟩), (by repeat' first | exact True.intro | refine ⟨rfl, ?_⟩), Mem.le_refl _, rfl⟩⟩
      by_cases e : j = k
      · subst e
        rw [List.getElem?_eq_getElem hlt] at hy
        cases hy; exact g2
      · exact hp j (by omega) y hy
  · have g' : ¬ k < n := by have := of_decide_eq_false g; omega
    repeat' ((conv => whnf); first | refine ⟨?_, True.intro⟩ | refine brn_t rfl ?_ | refine brn_f rfl ?_ | refine ob rfl ?_ | refine ob (by decide) ?_ | refine grow_same (Mem.le_refl _) ?_ | refine ob (Mem.le_refl _) ?_ | refine ⟨_, Mem.le_refl _, ?_⟩ | fail)
    refine ⟨?_, rfl⟩
    have : ¬ x ∈ l := fun hm => by
      obtain ⟨j, hj, e⟩ := List.getElem_of_mem hm
      exact hp j (by omega) x (by rw [List.getElem?_eq_getElem hj, e]) rfl
    rw [decide_eq_false this]
theorem sameIds_ok {a b : Option Addr} {n m c d : Nat} {l r : List Id} (ha : SrcOk M 4 a n (l.flatMap encI)) (hb : SrcOk M 4 b m (r.flatMap encI)) (hn : n ≤ 100000000) (hlr : l = r) : CallsM Try.prog F.ref20_SameIds [.slice a n c, .slice b m d] M fun v M' => v = .bool true ∧ M = M' := by
  subst hlr
  refine fo_ref20_SameIds (by simp) ?_
  have h1 := ha.flen encI_len (by decide)
  have h2 := hb.flen encI_len (by decide)
  have hnm : m = n := by omega
  subst hnm
  (conv => whnf); refine brn_f (by simp) ?_
  (conv => whnf)
  refine loopQ (σ := Nat) [5] (fun k => [(5, .int .i64 k)]) (fun k => k ≤ m) (fun k => m - k) 0 (by omega) ⟨(by repeat' first | exact True.intro | refine ⟨rfl, ?_⟩), (by repeat' first | exact True.intro | refine ⟨rfl, ?_⟩), Mem.le_refl _, rfl⟩ ?_
  intro k hk
  (conv => whnf); refine brn (fun g => ?_) (fun g => ?_)
  · have g' : k < m := by have := of_decide_eq_true g; omega
    have hx : l[k]? = some (l[k]'(by omega)) := List.getElem?_eq_getElem (by omega)
    obtain ⟨b1, o1, ha1, hc1⟩ := ha.fparts encI_len (by decide) hx
    obtain ⟨b2, o2, ha2, hc2⟩ := hb.fparts encI_len (by decide) hx
    (conv => whnf); refine ob (by first | omega | (dsimp only; omega)) ?_
    (conv => whnf); refine atp ha1 ?_
    (conv => whnf); refine on (hc1 0 4 (by decide)) ?_
    (conv => whnf); refine ob (by first | omega | (dsimp only; omega)) ?_
    (conv => whnf); refine atp ha2 ?_
    (conv => whnf); refine on (hc2 0 4 (by decide)) ?_
    (conv => whnf)
    rw [idEq4]
    refine brn_f (by simp) ?_
    repeat' ((conv => whnf); first | refine ⟨?_, True.intro⟩ | refine brn_t rfl ?_ | refine brn_f rfl ?_ | refine ob rfl ?_ | refine ob (by decide) ?_ | refine grow_same (Mem.le_refl _) ?_ | refine ob (Mem.le_refl _) ?_ | refine ⟨_, Mem.le_refl _, ?_⟩ | fail)
    refine ob (inR_i64 (by first | omega | (dsimp only; omega))) ?_
    (conv => whnf)
    exact ⟨k + 1, by omega, by omega, ⟨(by repeat' first | exact True.intro | refine ⟨rfl, ?_⟩), (by repeat' first | exact True.intro | refine ⟨rfl, ?_⟩), Mem.le_refl _, rfl⟩⟩
  · repeat' ((conv => whnf); first | refine ⟨?_, True.intro⟩ | refine brn_t rfl ?_ | refine brn_f rfl ?_ | refine ob rfl ?_ | refine ob (by decide) ?_ | refine grow_same (Mem.le_refl _) ?_ | refine ob (Mem.le_refl _) ?_ | refine ⟨_, Mem.le_refl _, ?_⟩ | fail)
    exact ⟨rfl, rfl⟩
end Go.Proofs.Ythlleljdahkgpaa
