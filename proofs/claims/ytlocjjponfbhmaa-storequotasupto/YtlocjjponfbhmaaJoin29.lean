/- The store: its state. -/
import Derived.Test.YtlocjjponfbhmaaJoin28
namespace Go.Proofs.Ytlocjjponfbhmaa
open Go Go.Vm
attribute [local irreducible] Brn Ob Grow CallsM inR LoopVC Mem.row Mem.cells Mem.setCells Mem.upd Own AppVC SrcVC StrVC NextVC New SrcOk subA NewSl Mem.textAt Mem.mapAt Mem.iterAt entryOf kfind Wr NewEls Elems
set_option maxRecDepth 10000
variable {M M0 : Mem} {p b sp sb : Nat} {S : StR} {came : Int} {xs : HsT} {es : EsT}
@[reducible] def vs64 (c : Nat → Int) : List Value := [.int .i64 (c 0), .int .i64 (c 1), .int .i64 (c 2), .int .i64 (c 3), .int .i64 (c 4), .int .i64 (c 5), .int .i64 (c 6), .int .i64 (c 7), .int .i64 (c 8), .int .i64 (c 9), .int .i64 (c 10), .int .i64 (c 11), .int .i64 (c 12), .int .i64 (c 13), .int .i64 (c 14), .int .i64 (c 15), .int .i64 (c 16), .int .i64 (c 17), .int .i64 (c 18), .int .i64 (c 19), .int .i64 (c 20), .int .i64 (c 21), .int .i64 (c 22), .int .i64 (c 23), .int .i64 (c 24), .int .i64 (c 25), .int .i64 (c 26), .int .i64 (c 27), .int .i64 (c 28), .int .i64 (c 29), .int .i64 (c 30), .int .i64 (c 31), .int .i64 (c 32), .int .i64 (c 33), .int .i64 (c 34), .int .i64 (c 35), .int .i64 (c 36), .int .i64 (c 37), .int .i64 (c 38), .int .i64 (c 39), .int .i64 (c 40), .int .i64 (c 41), .int .i64 (c 42), .int .i64 (c 43), .int .i64 (c 44), .int .i64 (c 45), .int .i64 (c 46), .int .i64 (c 47), .int .i64 (c 48), .int .i64 (c 49), .int .i64 (c 50), .int .i64 (c 51), .int .i64 (c 52), .int .i64 (c 53), .int .i64 (c 54), .int .i64 (c 55), .int .i64 (c 56), .int .i64 (c 57), .int .i64 (c 58), .int .i64 (c 59), .int .i64 (c 60), .int .i64 (c 61), .int .i64 (c 62), .int .i64 (c 63)]
@[reducible] def cs64 (c : Nat → Int) : List SC := [.v (.int .i64 (c 0)), .v (.int .i64 (c 1)), .v (.int .i64 (c 2)), .v (.int .i64 (c 3)), .v (.int .i64 (c 4)), .v (.int .i64 (c 5)), .v (.int .i64 (c 6)), .v (.int .i64 (c 7)), .v (.int .i64 (c 8)), .v (.int .i64 (c 9)), .v (.int .i64 (c 10)), .v (.int .i64 (c 11)), .v (.int .i64 (c 12)), .v (.int .i64 (c 13)), .v (.int .i64 (c 14)), .v (.int .i64 (c 15)), .v (.int .i64 (c 16)), .v (.int .i64 (c 17)), .v (.int .i64 (c 18)), .v (.int .i64 (c 19)), .v (.int .i64 (c 20)), .v (.int .i64 (c 21)), .v (.int .i64 (c 22)), .v (.int .i64 (c 23)), .v (.int .i64 (c 24)), .v (.int .i64 (c 25)), .v (.int .i64 (c 26)), .v (.int .i64 (c 27)), .v (.int .i64 (c 28)), .v (.int .i64 (c 29)), .v (.int .i64 (c 30)), .v (.int .i64 (c 31)), .v (.int .i64 (c 32)), .v (.int .i64 (c 33)), .v (.int .i64 (c 34)), .v (.int .i64 (c 35)), .v (.int .i64 (c 36)), .v (.int .i64 (c 37)), .v (.int .i64 (c 38)), .v (.int .i64 (c 39)), .v (.int .i64 (c 40)), .v (.int .i64 (c 41)), .v (.int .i64 (c 42)), .v (.int .i64 (c 43)), .v (.int .i64 (c 44)), .v (.int .i64 (c 45)), .v (.int .i64 (c 46)), .v (.int .i64 (c 47)), .v (.int .i64 (c 48)), .v (.int .i64 (c 49)), .v (.int .i64 (c 50)), .v (.int .i64 (c 51)), .v (.int .i64 (c 52)), .v (.int .i64 (c 53)), .v (.int .i64 (c 54)), .v (.int .i64 (c 55)), .v (.int .i64 (c 56)), .v (.int .i64 (c 57)), .v (.int .i64 (c 58)), .v (.int .i64 (c 59)), .v (.int .i64 (c 60)), .v (.int .i64 (c 61)), .v (.int .i64 (c 62)), .v (.int .i64 (c 63))]
theorem vs64_eq (c : Nat → Int) : vs64 c = (List.range 64).map (fun i => Value.int .i64 (c i)) := rfl
theorem cs64_eq (c : Nat → Int) : cs64 c = (List.range 64).map (fun i => SC.v (.int .i64 (c i))) := rfl
theorem take64 (c : Nat → Int) {i : Nat} (hi : i < 64) : takeC (cs64 c) (i * 1) 1 = some [.v (.int .i64 (c i))] := by
  have hl : (cs64 c).length = 64 := rfl
  unfold takeC
  rw [if_pos (by rw [hl]; omega), cs64_eq]
  rw [List.drop_eq_getElem_cons (by simp; omega)]
  simp
theorem used64 {u : List Int} (h : u.length = 64) : u.map intV = vs64 (fun i => u.getD i 0) := by
  rw [vs64_eq]
  apply List.ext_getElem (by simp [h])
  intro i h1 h2
  simp only [List.getElem_map, List.getElem_range, intV]
  congr 1
  rw [List.getD_eq_getElem?_getD, List.getElem?_eq_getElem (by simpa using h1)]; rfl
theorem stCs_row (hA : StAt M p b sp sb S came xs es) (hI : InvS S) : M.row p 5 64 = some (vs64 (fun i => S.used.getD i 0)) := by
  rw [hA.self.row (by rw [stCs_len hI.ulen]; omega), ← used64 hI.ulen]
  congr 1
  unfold stCs
  rw [List.append_assoc, List.drop_append]
  simp [hI.ulen]
theorem usedF_take : ∀ (u : List Int) (k j : Nat), j < u.length → usedF k (u.take (j + 1)) = usedF k (u.take j) ++ (if 0 < u.getD j 0 then [(((k + j : Nat) : Int), u.getD j 0)] else [])
  | [], _, _, h => by simp at h
  | n :: r, k, 0, _ => by
    simp only [Nat.zero_add, List.take_succ_cons, List.take_zero, List.getD_cons_zero, Nat.add_zero]
    unfold usedF
    split <;> simp [usedF]
  | n :: r, k, j + 1, h => by
    have ih := usedF_take r (k + 1) j (by simpa using h)
    have e1 : ∀ t, usedF k (n :: t) = if 0 < n then ((k : Int), n) :: usedF (k + 1) t else usedF (k + 1) t := fun _ => rfl
    rw [List.take_succ_cons, List.take_succ_cons, e1, e1, ih, List.getD_cons_succ, show k + 1 + j = k + (j + 1) by omega]
    split
    · rw [List.cons_append]
    · rfl
@[reducible] def stateV (S : StR) (ua : Option Addr) (uc : Nat) (ha : Option Addr) (ms : List MX) (hc : Nat) (ma : Option Addr) (mk : List MkC) (mc : Nat) : Value := .agg #[.int .i64 S.self, .int .i64 S.epoch, .slice ua (usedD S.used).length uc, .slice ha ms.length hc, .slice ma mk.length mc]
def StateOut (S : StR) (es : EsT) (M : Mem) (v : Value) (M' : Mem) : Prop := ∃ ua uc ha hc ms ma mc mk, v = stateV S ua uc ha ms hc ma mk mc ∧ M.le M' ∧ NewSl M T.api_Next 2 ua (usedD S.used).length uc ((usedD S.used).flatMap encN) M' ∧ HeldAt M ha ms.length hc ms M' ∧ ms.map MX.msg = S.l ∧
  MarksAt M ma mk.length mc mk M' ∧ (mk.map MkC.mk').Perm (es.map mkOf) ∧ Canon (inE es) (mk.map MkC.mk')
theorem MarksAt.up {a : Option Addr} {n c : Nat} {l : List MkC} {M' M2 : Mem} (h : MarksAt M0 a n c l M') (hle : M'.le M2) : MarksAt M0 a n c l M2 := ⟨h.row.up hle, fun m hm => (h.more m hm).up hle⟩
theorem MarksAt.mono' {a : Option Addr} {n c : Nat} {l : List MkC} {M' : Mem} (h : MarksAt M a n c l M') (hle : M0.le M) : MarksAt M0 a n c l M' := ⟨h.row.mono hle, fun m hm => (h.more m hm).mono hle⟩
theorem State_ok (h : FreshSt M0 M p b sp sb S came xs es) (hcm : came ≤ 4611686018427387904) (hes : es.length ≤ 4194000) : CallsM Try.prog F.store_Store_State [ptr p] M (StateOut S es M) := by
  refine fo_store_Store_State (by simp) ?_
  have hI := h.inv
  have hA0 := h.at'
  (conv => whnf); refine brn_f rfl ?_
  repeat' ((conv => whnf); first | refine ⟨?_, True.intro⟩ | refine ⟨?_, ?_, True.intro⟩ | refine brn_t rfl ?_ | refine brn_f rfl ?_ | refine ob rfl ?_ | refine ob (by decide) ?_ | refine grow_same (Mem.le_refl _) ?_ | refine ob (Mem.le_refl _) ?_ | refine ⟨_, Mem.le_refl _, ?_⟩ | fail)
  refine on (hA0.self.c1 rfl) ?_
  repeat' ((conv => whnf); first | refine ⟨?_, True.intro⟩ | refine ⟨?_, ?_, True.intro⟩ | refine brn_t rfl ?_ | refine brn_f rfl ?_ | refine ob rfl ?_ | refine ob (by decide) ?_ | refine grow_same (Mem.le_refl _) ?_ | refine ob (Mem.le_refl _) ?_ | refine ⟨_, Mem.le_refl _, ?_⟩ | fail)
  refine on (hA0.self.c1 rfl) ?_
  repeat' ((conv => whnf); first | refine ⟨?_, True.intro⟩ | refine ⟨?_, ?_, True.intro⟩ | refine brn_t rfl ?_ | refine brn_f rfl ?_ | refine ob rfl ?_ | refine ob (by decide) ?_ | refine grow_same (Mem.le_refl _) ?_ | refine ob (Mem.le_refl _) ?_ | refine ⟨_, Mem.le_refl _, ?_⟩ | fail)
  refine on (hA0.self.c1 (stCs_set hI.ulen ..)) ?_
  repeat' ((conv => whnf); first | refine ⟨?_, True.intro⟩ | refine ⟨?_, ?_, True.intro⟩ | refine brn_t rfl ?_ | refine brn_f rfl ?_ | refine ob rfl ?_ | refine ob (by decide) ?_ | refine grow_same (Mem.le_refl _) ?_ | refine ob (Mem.le_refl _) ?_ | refine ⟨_, Mem.le_refl _, ?_⟩ | fail)
  · (conv => whnf)
    refine (Held_ok h hcm).mono ?_
    rintro v M4 ⟨ha, hn, hc, ms, rfl, hH0, hmsg⟩
    have h4 := h.to hH0.row.le
    repeat' ((conv => whnf); first | refine ob rfl ?_ | refine grow_same hH0.row.le ?_ | refine ob hH0.row.le ?_ | refine ⟨?_, True.intro⟩ | fail)
    repeat' ((conv => whnf); first | refine ⟨?_, True.intro⟩ | refine ⟨?_, ?_, True.intro⟩ | refine brn_t rfl ?_ | refine brn_f rfl ?_ | refine ob rfl ?_ | refine ob (by decide) ?_ | refine grow_same (Mem.le_refl _) ?_ | refine ob (Mem.le_refl _) ?_ | refine ⟨_, Mem.le_refl _, ?_⟩ | fail)
    · (conv => whnf)
      refine (Marks_ok h4.at'.set (by have := h.room; omega) hes).mono ?_
      rintro v M5 ⟨ma, mn, mc, mk, rfl, hMk0, hp, hs⟩
      have h5 := h4.to hMk0.row.le
      have hHe := hH0.up hMk0.row.le
      have hMk := hMk0.mono' hH0.row.le
      have hleM := hHe.row.le
      repeat' ((conv => whnf); first | refine ob rfl ?_ | refine grow_same hleM ?_ | refine ob hleM ?_ | refine ⟨?_, True.intro⟩ | fail)
      repeat' ((conv => whnf); first | refine ⟨?_, True.intro⟩ | refine brn_t rfl ?_ | refine brn_f rfl ?_ | refine ob rfl ?_ | refine ob (by decide) ?_ | refine grow_same (Mem.le_refl _) ?_ | refine ob (Mem.le_refl _) ?_ | refine ⟨_, Mem.le_refl _, ?_⟩ | fail)
      have hrow := stCs_row h5.at' hI
      refine on hrow ?_
      (conv => whnf)
      refine loopF (σ := Nat × Mem × (Option Addr × Nat)) [29] (fun x => [(29, .int .i64 x.1)]) (fun x => [.live T.api_State [.v (.int .i64 0), .v (.int .i64 0), .v (.slice none 0 0), .v (.slice none 0 0), .v (.slice none 0 0)], .live T.api_State [.v (.int .i64 S.self), .v (.int .i64 S.epoch), .v (.slice x.2.2.1 (usedD (S.used.take x.1)).length x.2.2.2), .v (.slice ha hn hc), .v (.slice ma mn mc)]]) (fun x => x.2.1)
        (fun | ⟨j, M6, (a6, c6)⟩ => j ≤ 64 ∧ NewSl M5 T.api_Next 2 a6 (usedD (S.used.take j)).length c6 ((usedD (S.used.take j)).flatMap encN) M6) (fun x => 64 - x.1) ⟨0, M5, (none, 0)⟩ ⟨by omega, NewSl.none M5 _ _⟩ ⟨(by repeat' first | exact True.intro | refine ⟨rfl, ?_⟩), (by repeat' first | exact True.intro | refine ⟨rfl, ?_⟩), Mem.le_refl _, rfl⟩ ?_
      rintro ⟨j, M6, ⟨a6, c6⟩⟩ ⟨hj, hN6⟩
      have hul : (usedD (S.used.take j)).length ≤ (S.used.take j).length := usedF_len _ 0
      have huj : (S.used.take j).length ≤ 64 := by simp; omega
      (conv => whnf); refine brn (fun g => ?_) (fun g => ?_)
      rotate_left
      · have hge : 64 ≤ j := by have := of_decide_eq_false g; dsimp only at this; omega
        rw [List.take_of_length_le (by rw [hI.ulen]; omega)] at hN6 ⊢
        repeat' ((conv => whnf); first | refine ⟨?_, True.intro⟩ | refine brn_t rfl ?_ | refine brn_f rfl ?_ | refine ob rfl ?_ | refine ob (by decide) ?_ | refine grow_same (Mem.le_refl _) ?_ | refine ob (Mem.le_refl _) ?_ | refine ⟨_, Mem.le_refl _, ?_⟩ | fail)
        have hl1 := hHe.len
        have hl2 := hMk.len
        subst hl1
        subst hl2
        exact ⟨a6, c6, ha, hc, ms, ma, mc, mk, rfl, Mem.le_trans hleM hN6.le, hN6.mono hleM, hHe.up hN6.le, hmsg, hMk.up hN6.le, hp, marks_canon h.invE hp hs⟩
      have hlt : j < 64 := by have := of_decide_eq_true g; dsimp only at this; omega
      have hnx : usedD (S.used.take (j + 1)) = usedD (S.used.take j) ++ (if 0 < S.used.getD j 0 then [((j : Int), S.used.getD j 0)] else []) := by
        have := usedF_take S.used 0 j (by rw [hI.ulen]; omega)
        rw [Nat.zero_add] at this
        exact this
      (conv => whnf); refine ob (by first | omega | (dsimp only; omega)) ?_
      (conv => whnf); refine on (take64 (fun i => S.used.getD i 0) hlt) ?_
      (conv => whnf); refine brn (fun g1 => ?_) (fun g1 => ?_)
      · have h1 : 0 < S.used.getD j 0 := by simpa using g1
        rw [if_pos h1] at hnx
        repeat' ((conv => whnf); first | refine ⟨?_, True.intro⟩ | refine brn_t rfl ?_ | refine brn_f rfl ?_ | refine ob rfl ?_ | refine ob (by decide) ?_ | refine grow_same (Mem.le_refl _) ?_ | refine ob (Mem.le_refl _) ?_ | refine ⟨_, Mem.le_refl _, ?_⟩ | fail)
        refine appF M5 hN6 ((j : Int), S.used.getD j 0) rfl (by first | omega | (dsimp only; omega)) (by simp [maxLen]; omega) (by simp [Value.oneCell']) fun a7 c7 M7 hN7 _ => ?_
        (conv => whnf); refine ob (inR_i64 (by first | omega | (dsimp only; omega))) ?_
        (conv => whnf)
        rw [← hnx] at hN7
        have hl7 : (usedD (S.used.take (j + 1))).length = (usedD (S.used.take j)).length + 1 := by rw [hnx]; simp
        rw [← hl7] at hN7
        refine ⟨⟨j + 1, M7, (a7, c7)⟩, ⟨by omega, hN7⟩, by dsimp only; omega, ?_⟩
        dsimp only
        rw [hl7]
        exact ⟨(by repeat' first | exact True.intro | refine ⟨rfl, ?_⟩), (by repeat' first | exact True.intro | refine ⟨rfl, ?_⟩), Mem.le_refl _, rfl⟩
      · have h1 : ¬ 0 < S.used.getD j 0 := by simpa using g1
        rw [if_neg h1, List.append_nil] at hnx
        (conv => whnf); refine ob (inR_i64 (by first | omega | (dsimp only; omega))) ?_
        (conv => whnf)
        refine ⟨⟨j + 1, M6, (a6, c6)⟩, ⟨by omega, by rw [hnx]; exact hN6⟩, by dsimp only; omega, ?_⟩
        dsimp only
        rw [hnx]
        exact ⟨(by repeat' first | exact True.intro | refine ⟨rfl, ?_⟩), (by repeat' first | exact True.intro | refine ⟨rfl, ?_⟩), Mem.le_refl _, rfl⟩
    · (conv => whnf)
      refine (Marks_ok h4.at'.set (by have := h.room; omega) hes).mono ?_
      rintro v M5 ⟨ma, mn, mc, mk, rfl, hMk0, hp, hs⟩
      have h5 := h4.to hMk0.row.le
      have hHe := hH0.up hMk0.row.le
      have hMk := hMk0.mono' hH0.row.le
      have hleM := hHe.row.le
      repeat' ((conv => whnf); first | refine ob rfl ?_ | refine grow_same hleM ?_ | refine ob hleM ?_ | refine ⟨?_, True.intro⟩ | fail)
      repeat' ((conv => whnf); first | refine ⟨?_, True.intro⟩ | refine brn_t rfl ?_ | refine brn_f rfl ?_ | refine ob rfl ?_ | refine ob (by decide) ?_ | refine grow_same (Mem.le_refl _) ?_ | refine ob (Mem.le_refl _) ?_ | refine ⟨_, Mem.le_refl _, ?_⟩ | fail)
      have hrow := stCs_row h5.at' hI
      refine on hrow ?_
      (conv => whnf)
      refine loopF (σ := Nat × Mem × (Option Addr × Nat)) [29] (fun x => [(29, .int .i64 x.1)]) (fun x => [.live T.api_State [.v (.int .i64 0), .v (.int .i64 0), .v (.slice none 0 0), .v (.slice none 0 0), .v (.slice none 0 0)], .live T.api_State [.v (.int .i64 S.self), .v (.int .i64 S.epoch), .v (.slice x.2.2.1 (usedD (S.used.take x.1)).length x.2.2.2), .v (.slice ha hn hc), .v (.slice ma mn mc)]]) (fun x => x.2.1)
        (fun | ⟨j, M6, (a6, c6)⟩ => j ≤ 64 ∧ NewSl M5 T.api_Next 2 a6 (usedD (S.used.take j)).length c6 ((usedD (S.used.take j)).flatMap encN) M6) (fun x => 64 - x.1) ⟨0, M5, (none, 0)⟩ ⟨by omega, NewSl.none M5 _ _⟩ ⟨(by repeat' first | exact True.intro | refine ⟨rfl, ?_⟩), (by repeat' first | exact True.intro | refine ⟨rfl, ?_⟩), Mem.le_refl _, rfl⟩ ?_
      rintro ⟨j, M6, ⟨a6, c6⟩⟩ ⟨hj, hN6⟩
      have hul : (usedD (S.used.take j)).length ≤ (S.used.take j).length := usedF_len _ 0
      have huj : (S.used.take j).length ≤ 64 := by simp; omega
      (conv => whnf); refine brn (fun g => ?_) (fun g => ?_)
      rotate_left
      · have hge : 64 ≤ j := by have := of_decide_eq_false g; dsimp only at this; omega
        rw [List.take_of_length_le (by rw [hI.ulen]; omega)] at hN6 ⊢
        repeat' ((conv => whnf); first | refine ⟨?_, True.intro⟩ | refine brn_t rfl ?_ | refine brn_f rfl ?_ | refine ob rfl ?_ | refine ob (by decide) ?_ | refine grow_same (Mem.le_refl _) ?_ | refine ob (Mem.le_refl _) ?_ | refine ⟨_, Mem.le_refl _, ?_⟩ | fail)
        have hl1 := hHe.len
        have hl2 := hMk.len
        subst hl1
        subst hl2
        exact ⟨a6, c6, ha, hc, ms, ma, mc, mk, rfl, Mem.le_trans hleM hN6.le, hN6.mono hleM, hHe.up hN6.le, hmsg, hMk.up hN6.le, hp, marks_canon h.invE hp hs⟩
      have hlt : j < 64 := by have := of_decide_eq_true g; dsimp only at this; omega
      have hnx : usedD (S.used.take (j + 1)) = usedD (S.used.take j) ++ (if 0 < S.used.getD j 0 then [((j : Int), S.used.getD j 0)] else []) := by
        have := usedF_take S.used 0 j (by rw [hI.ulen]; omega)
        rw [Nat.zero_add] at this
        exact this
      (conv => whnf); refine ob (by first | omega | (dsimp only; omega)) ?_
      (conv => whnf); refine on (take64 (fun i => S.used.getD i 0) hlt) ?_
      (conv => whnf); refine brn (fun g1 => ?_) (fun g1 => ?_)
      · have h1 : 0 < S.used.getD j 0 := by simpa using g1
        rw [if_pos h1] at hnx
        repeat' ((conv => whnf); first | refine ⟨?_, True.intro⟩ | refine brn_t rfl ?_ | refine brn_f rfl ?_ | refine ob rfl ?_ | refine ob (by decide) ?_ | refine grow_same (Mem.le_refl _) ?_ | refine ob (Mem.le_refl _) ?_ | refine ⟨_, Mem.le_refl _, ?_⟩ | fail)
        refine appF M5 hN6 ((j : Int), S.used.getD j 0) rfl (by first | omega | (dsimp only; omega)) (by simp [maxLen]; omega) (by simp [Value.oneCell']) fun a7 c7 M7 hN7 _ => ?_
        (conv => whnf); refine ob (inR_i64 (by first | omega | (dsimp only; omega))) ?_
        (conv => whnf)
        rw [← hnx] at hN7
        have hl7 : (usedD (S.used.take (j + 1))).length = (usedD (S.used.take j)).length + 1 := by rw [hnx]; simp
        rw [← hl7] at hN7
        refine ⟨⟨j + 1, M7, (a7, c7)⟩, ⟨by omega, hN7⟩, by dsimp only; omega, ?_⟩
        dsimp only
        rw [hl7]
        exact ⟨(by repeat' first | exact True.intro | refine ⟨rfl, ?_⟩), (by repeat' first | exact True.intro | refine ⟨rfl, ?_⟩), Mem.le_refl _, rfl⟩
      · have h1 : ¬ 0 < S.used.getD j 0 := by simpa using g1
        rw [if_neg h1, List.append_nil] at hnx
        (conv => whnf); refine ob (inR_i64 (by first | omega | (dsimp only; omega))) ?_
        (conv => whnf)
        refine ⟨⟨j + 1, M6, (a6, c6)⟩, ⟨by omega, by rw [hnx]; exact hN6⟩, by dsimp only; omega, ?_⟩
        dsimp only
        rw [hnx]
        exact ⟨(by repeat' first | exact True.intro | refine ⟨rfl, ?_⟩), (by repeat' first | exact True.intro | refine ⟨rfl, ?_⟩), Mem.le_refl _, rfl⟩
  · (conv => whnf)
    refine (Held_ok h hcm).mono ?_
    rintro v M4 ⟨ha, hn, hc, ms, rfl, hH0, hmsg⟩
    have h4 := h.to hH0.row.le
    repeat' ((conv => whnf); first | refine ob rfl ?_ | refine grow_same hH0.row.le ?_ | refine ob hH0.row.le ?_ | refine ⟨?_, True.intro⟩ | fail)
    repeat' ((conv => whnf); first | refine ⟨?_, True.intro⟩ | refine ⟨?_, ?_, True.intro⟩ | refine brn_t rfl ?_ | refine brn_f rfl ?_ | refine ob rfl ?_ | refine ob (by decide) ?_ | refine grow_same (Mem.le_refl _) ?_ | refine ob (Mem.le_refl _) ?_ | refine ⟨_, Mem.le_refl _, ?_⟩ | fail)
    (conv => whnf)
    refine (Marks_ok h4.at'.set (by have := h.room; omega) hes).mono ?_
    rintro v M5 ⟨ma, mn, mc, mk, rfl, hMk0, hp, hs⟩
    have h5 := h4.to hMk0.row.le
    have hHe := hH0.up hMk0.row.le
    have hMk := hMk0.mono' hH0.row.le
    have hleM := hHe.row.le
    repeat' ((conv => whnf); first | refine ob rfl ?_ | refine grow_same hleM ?_ | refine ob hleM ?_ | refine ⟨?_, True.intro⟩ | fail)
    repeat' ((conv => whnf); first | refine ⟨?_, True.intro⟩ | refine brn_t rfl ?_ | refine brn_f rfl ?_ | refine ob rfl ?_ | refine ob (by decide) ?_ | refine grow_same (Mem.le_refl _) ?_ | refine ob (Mem.le_refl _) ?_ | refine ⟨_, Mem.le_refl _, ?_⟩ | fail)
    have hrow := stCs_row h5.at' hI
    refine on hrow ?_
    (conv => whnf)
    refine loopF (σ := Nat × Mem × (Option Addr × Nat)) [29] (fun x => [(29, .int .i64 x.1)]) (fun x => [.live T.api_State [.v (.int .i64 0), .v (.int .i64 0), .v (.slice none 0 0), .v (.slice none 0 0), .v (.slice none 0 0)], .live T.api_State [.v (.int .i64 S.self), .v (.int .i64 S.epoch), .v (.slice x.2.2.1 (usedD (S.used.take x.1)).length x.2.2.2), .v (.slice ha hn hc), .v (.slice ma mn mc)]]) (fun x => x.2.1)
      (fun | ⟨j, M6, (a6, c6)⟩ => j ≤ 64 ∧ NewSl M5 T.api_Next 2 a6 (usedD (S.used.take j)).length c6 ((usedD (S.used.take j)).flatMap encN) M6) (fun x => 64 - x.1) ⟨0, M5, (none, 0)⟩ ⟨by omega, NewSl.none M5 _ _⟩ ⟨(by repeat' first | exact True.intro | refine ⟨rfl, ?_⟩), (by repeat' first | exact True.intro | refine ⟨rfl, ?_⟩), Mem.le_refl _, rfl⟩ ?_
    rintro ⟨j, M6, ⟨a6, c6⟩⟩ ⟨hj, hN6⟩
    have hul : (usedD (S.used.take j)).length ≤ (S.used.take j).length := usedF_len _ 0
    have huj : (S.used.take j).length ≤ 64 := by simp; omega
    (conv => whnf); refine brn (fun g => ?_) (fun g => ?_)
    rotate_left
    · have hge : 64 ≤ j := by have := of_decide_eq_false g; dsimp only at this; omega
      rw [List.take_of_length_le (by rw [hI.ulen]; omega)] at hN6 ⊢
      repeat' ((conv => whnf); first | refine ⟨?_, True.intro⟩ | refine brn_t rfl ?_ | refine brn_f rfl ?_ | refine ob rfl ?_ | refine ob (by decide) ?_ | refine grow_same (Mem.le_refl _) ?_ | refine ob (Mem.le_refl _) ?_ | refine ⟨_, Mem.le_refl _, ?_⟩ | fail)
      have hl1 := hHe.len
      have hl2 := hMk.len
      subst hl1
      subst hl2
      exact ⟨a6, c6, ha, hc, ms, ma, mc, mk, rfl, Mem.le_trans hleM hN6.le, hN6.mono hleM, hHe.up hN6.le, hmsg, hMk.up hN6.le, hp, marks_canon h.invE hp hs⟩
    have hlt : j < 64 := by have := of_decide_eq_true g; dsimp only at this; omega
    have hnx : usedD (S.used.take (j + 1)) = usedD (S.used.take j) ++ (if 0 < S.used.getD j 0 then [((j : Int), S.used.getD j 0)] else []) := by
      have := usedF_take S.used 0 j (by rw [hI.ulen]; omega)
      rw [Nat.zero_add] at this
      exact this
    (conv => whnf); refine ob (by first | omega | (dsimp only; omega)) ?_
    (conv => whnf); refine on (take64 (fun i => S.used.getD i 0) hlt) ?_
    (conv => whnf); refine brn (fun g1 => ?_) (fun g1 => ?_)
    · have h1 : 0 < S.used.getD j 0 := by simpa using g1
      rw [if_pos h1] at hnx
      repeat' ((conv => whnf); first | refine ⟨?_, True.intro⟩ | refine brn_t rfl ?_ | refine brn_f rfl ?_ | refine ob rfl ?_ | refine ob (by decide) ?_ | refine grow_same (Mem.le_refl _) ?_ | refine ob (Mem.le_refl _) ?_ | refine ⟨_, Mem.le_refl _, ?_⟩ | fail)
      refine appF M5 hN6 ((j : Int), S.used.getD j 0) rfl (by first | omega | (dsimp only; omega)) (by simp [maxLen]; omega) (by simp [Value.oneCell']) fun a7 c7 M7 hN7 _ => ?_
      (conv => whnf); refine ob (inR_i64 (by first | omega | (dsimp only; omega))) ?_
      (conv => whnf)
      rw [← hnx] at hN7
      have hl7 : (usedD (S.used.take (j + 1))).length = (usedD (S.used.take j)).length + 1 := by rw [hnx]; simp
      rw [← hl7] at hN7
      refine ⟨⟨j + 1, M7, (a7, c7)⟩, ⟨by omega, hN7⟩, by dsimp only; omega, ?_⟩
      dsimp only
      rw [hl7]
      exact ⟨(by repeat' first | exact True.intro | refine ⟨rfl, ?_⟩), (by repeat' first | exact True.intro | refine ⟨rfl, ?_⟩), Mem.le_refl _, rfl⟩
    · have h1 : ¬ 0 < S.used.getD j 0 := by simpa using g1
      rw [if_neg h1, List.append_nil] at hnx
      (conv => whnf); refine ob (inR_i64 (by first | omega | (dsimp only; omega))) ?_
      (conv => whnf)
      refine ⟨⟨j + 1, M6, (a6, c6)⟩, ⟨by omega, by rw [hnx]; exact hN6⟩, by dsimp only; omega, ?_⟩
      dsimp only
      rw [hnx]
      exact ⟨(by repeat' first | exact True.intro | refine ⟨rfl, ?_⟩), (by repeat' first | exact True.intro | refine ⟨rfl, ?_⟩), Mem.le_refl _, rfl⟩
end Go.Proofs.Ytlocjjponfbhmaa

/- StoreQuotas, as a contract. -/
namespace Go.Proofs.Ytlocjjponfbhmaa
open Go Go.Vm
attribute [local irreducible] Brn Ob Grow CallsM inR LoopVC Mem.row Mem.cells Mem.setCells Mem.upd Own AppVC SrcVC StrVC NextVC New SrcOk subA NewSl Mem.textAt Mem.mapAt Mem.iterAt entryOf kfind Wr NewEls Elems
set_option maxRecDepth 10000
variable {M M0 B : Mem} {p b sp sb : Nat} {S : StR} {came : Int} {xs : HsT} {es : EsT}
theorem Bytes_ok (h : FreshSt M0 M p b sp sb S came xs es) : CallsM Try.prog F.store_Store_Bytes [ptr p] M fun v M' => v = .int .i64 (bytesD S.l) ∧ M = M' := by
  refine fo_store_Store_Bytes (by simp) ?_
  (conv => whnf); refine brn_f rfl ?_
  (conv => whnf); refine on (h.at'.self.c1 (stCs_bytes h.inv.ulen ..)) ?_
  repeat' ((conv => whnf); first | refine ⟨?_, True.intro⟩ | refine brn_t rfl ?_ | refine brn_f rfl ?_ | refine ob rfl ?_ | refine ob (by decide) ?_ | refine grow_same (Mem.le_refl _) ?_ | refine ob (Mem.le_refl _) ?_ | refine ⟨_, Mem.le_refl _, ?_⟩ | fail)
  exact ⟨rfl, rfl⟩
theorem step_len {es' : EsT} {k : Int} {i : IdT} {m : Int} (h : if m = 0 ∧ k = 4 then StepE S.qg es es' i.o i.d i.e i.c else es' = es) : es'.length ≤ es.length + 1 := by
  split at h
  · exact h.len
  · rw [h]; omega
theorem marks_sum {mk : List MkC} (h : (mk.map MkC.mk').Perm (es.map mkOf)) : (mk.map fun m => m.more.length).sum = gapsE es := by
  have := (h.map fun m => m.more.length).sum_nat
  rw [List.map_map, List.map_map] at this
  exact this
theorem msgs_sum {ms : List MX} {l : List MsgD} (h : ms.map MX.msg = l) : (ms.map fun m => m.p.length).sum = bytesD l := by
  rw [← h]
  unfold bytesD
  rw [List.map_map]
  rfl
theorem sum_drop {α : Type} (f : α → Nat) {l : List α} {i : Nat} (hi : i < l.length) : ((l.drop i).map f).sum = f l[i] + ((l.drop (i + 1)).map f).sum := by
  rw [List.drop_eq_getElem_cons hi, List.map_cons, List.sum_cons]
structure StQ where
  i : Nat
  mem : Mem
  S : StR
  came : Int
  xs : HsT
  es : EsT
theorem quotas_law (self qh qb qg : Int) {a : Option Addr} {n c : Nat} {l : List EvX} (hl : Elems M 6 a n (EvR M) l) (hn : n ≤ 1048576) (hc : n ≤ c) :
    CallsM Try.prog F.law15_StoreQuotas [.agg #[.int .i64 self, .int .i64 qh, .int .i64 qb, .int .i64 qg], .slice a n c] M fun v M' => v = .bool true ∧ M.le M' := by
  refine fo_law15_StoreQuotas (by simp) ?_
  repeat' ((conv => whnf); first | refine ⟨?_, True.intro⟩ | refine brn_t rfl ?_ | refine brn_f rfl ?_ | refine ob rfl ?_ | refine ob (by decide) ?_ | refine grow_same (Mem.le_refl _) ?_ | refine ob (Mem.le_refl _) ?_ | refine ⟨_, Mem.le_refl _, ?_⟩ | fail)
  refine (New15_ok self qh qb qg).mono ?_
  rintro v M1 (⟨hg, rfl, rfl⟩ | ⟨hg, p, b, sp, sb, rfl, h1⟩)
  · repeat' ((conv => whnf); first | refine ⟨?_, True.intro⟩ | refine brn_t rfl ?_ | refine brn_f rfl ?_ | refine ob rfl ?_ | refine ob (by decide) ?_ | refine grow_same (Mem.le_refl _) ?_ | refine ob (Mem.le_refl _) ?_ | refine ⟨_, Mem.le_refl _, ?_⟩ | fail)
    refine (new15R_ok self qh qb qg).mono ?_
    rintro v _ (⟨-, rfl, rfl⟩ | ⟨hg2, -⟩)
    rotate_left
    · exact absurd hg hg2
    repeat' ((conv => whnf); first | refine ⟨?_, True.intro⟩ | refine brn_t rfl ?_ | refine brn_f rfl ?_ | refine ob rfl ?_ | refine ob (by decide) ?_ | refine grow_same (Mem.le_refl _) ?_ | refine ob (Mem.le_refl _) ?_ | refine ⟨_, Mem.le_refl _, ?_⟩ | fail)
    refine awake_ok.mono ?_
    rintro v M2 ⟨rfl, hle⟩
    repeat' ((conv => whnf); first | refine ⟨?_, True.intro⟩ | refine brn_t rfl ?_ | refine brn_f rfl ?_ | refine ob rfl ?_ | refine ob (by decide) ?_ | refine grow_same (Mem.le_refl _) ?_ | refine ob (Mem.le_refl _) ?_ | refine ⟨_, Mem.le_refl _, ?_⟩ | fail)
    exact ⟨rfl, hle⟩
  repeat' ((conv => whnf); first | refine ⟨?_, True.intro⟩ | refine brn_t rfl ?_ | refine brn_f rfl ?_ | refine ob rfl ?_ | refine ob (by decide) ?_ | refine grow_same (Mem.le_refl _) ?_ | refine ob (Mem.le_refl _) ?_ | refine ⟨_, Mem.le_refl _, ?_⟩ | fail)
  refine (cutEv_ok hl hn hc M1).mono ?_
  rintro v _ ⟨⟨a1, n1, c1, rfl, hn1, hc1, hnl, hcutM⟩, rfl⟩
  (conv => whnf)
  refine loopF (σ := StQ) [9, 1] (fun y => [(9, .int .i64 y.i), (1, .slice a1 n1 c1)]) (fun _ => [.live T.portagelaw15_Set [.v (.int .i64 self), .v (.int .i64 qh), .v (.int .i64 qb), .v (.int .i64 qg)]]) (fun y => y.mem)
    (fun y => y.i ≤ n1 ∧ FreshSt M y.mem p b sp sb y.S y.came y.xs y.es ∧ y.came ≤ y.i ∧ y.es.length ≤ y.i ∧ y.S.self = self ∧ y.S.qh = qh ∧ y.S.qb = qb ∧ y.S.qg = qg) (fun y => n1 - y.i)
    ⟨0, M1, newD self qh qb qg, 0, [], []⟩ ⟨by simp, h1, by simp, by simp, rfl, rfl, rfl, rfl⟩ ⟨(by repeat' first | exact True.intro | refine ⟨rfl, ?_⟩), (by repeat' first | exact True.intro | refine ⟨rfl, ?_⟩), Mem.le_refl _, rfl⟩ ?_
  rintro ⟨i, Mc, S, came, xs, es⟩ ⟨hi, hF, hca, hel, hs1, hs2, hs3, hs4⟩
  dsimp only at hi hF hca hel hs1 hs2 hs3 hs4
  (conv => whnf); refine brn (fun g => ?_) (fun g => ?_)
  rotate_left
  · repeat' ((conv => whnf); first | refine ⟨?_, True.intro⟩ | refine brn_t rfl ?_ | refine brn_f rfl ?_ | refine ob rfl ?_ | refine ob (by decide) ?_ | refine grow_same (Mem.le_refl _) ?_ | refine ob (Mem.le_refl _) ?_ | refine ⟨_, Mem.le_refl _, ?_⟩ | fail)
    refine awake_ok.mono ?_
    rintro v M2 ⟨rfl, hle⟩
    repeat' ((conv => whnf); first | refine ⟨?_, True.intro⟩ | refine brn_t rfl ?_ | refine brn_f rfl ?_ | refine ob rfl ?_ | refine ob (by decide) ?_ | refine grow_same (Mem.le_refl _) ?_ | refine ob (Mem.le_refl _) ?_ | refine ⟨_, Mem.le_refl _, ?_⟩ | fail)
    exact ⟨rfl, Mem.le_trans hF.le hle⟩
  have hlt : i < n1 := by have := of_decide_eq_true g; dsimp only at this; omega
  obtain ⟨hil, bb, o, a2, c2, ha, hrow, hd, hd1, hd2⟩ := ev_at hcutM hlt
  generalize (l.take 50)[i] = x at *
  (conv => whnf); refine ob (by first | omega | (dsimp only; omega)) ?_
  (conv => whnf); refine atp ha ?_
  (conv => whnf); refine on (Mem.row_le hF.le hrow) ?_
  (conv => whnf); refine (Apply15_ok hF x.kind x.id (hd.le hF.le) hd1 (by omega)).mono ?_
  rintro v M3 ⟨came', xs', es', rfl, hcc, h3, hst⟩
  have hel3 := step_len hst
  obtain ⟨S3, hS3⟩ : ∃ S3, S3 = if mayD S (setMay S es) x.kind x.id x.p.length = 0 then applyD S x.kind x.id x.p else S := ⟨_, rfl⟩
  rw [← hS3] at h3
  have hq : S3.self = self ∧ S3.qh = qh ∧ S3.qb = qb ∧ S3.qg = qg := by
    rw [hS3]; split
    · exact ⟨applyD_self.trans hs1, applyD_qh.trans hs2, applyD_qb.trans hs3, applyD_qg.trans hs4⟩
    · exact ⟨hs1, hs2, hs3, hs4⟩
  have hI3 := h3.inv
  have hroom := h3.room
  have hqh := hI3.qh
  have hqb := hI3.qb
  repeat' ((conv => whnf); first | refine ⟨?_, True.intro⟩ | refine brn_t rfl ?_ | refine brn_f rfl ?_ | refine ob rfl ?_ | refine ob (by decide) ?_ | refine grow_same (Mem.le_refl _) ?_ | refine ob (Mem.le_refl _) ?_ | refine ⟨_, Mem.le_refl _, ?_⟩ | fail)
  refine (State_ok h3 (by omega) (by omega)).mono ?_
  rintro v M5 ⟨ua, uc, ha5, hc5, ms, ma, mc, mk, rfl, hle5, hN5, hH5, hmsg, hMk, hperm, -⟩
  have h5 := h3.to hle5
  have hg5 := marks_sum hperm
  have hb5 := msgs_sum hmsg
  have hml : ms.length = S3.l.length := by rw [← hmsg, List.length_map]
  have hkl : mk.length = es'.length := by have := hperm.length_eq; simpa using this
  (conv => whnf)
  refine loopQ (σ := Nat × Nat) [12, 11] (fun y => [(12, .int .i64 y.1), (11, .int .i64 y.2)]) (fun | ⟨k, s⟩ => k ≤ mk.length ∧ s + ((mk.drop k).map fun m => m.more.length).sum = gapsE es') (fun y => mk.length - y.1) ⟨0, 0⟩ ⟨by omega, by simpa using hg5⟩ ⟨(by repeat' first | exact True.intro | refine ⟨rfl, ?_⟩), (by repeat' first | exact True.intro | refine ⟨rfl, ?_⟩), Mem.le_refl _, rfl⟩ ?_
  rintro ⟨k, s⟩ ⟨hk, hsum⟩
  (conv => whnf); refine brn (fun g1 => ?_) (fun g1 => ?_)
  · have hkl2 : k < mk.length := by have := of_decide_eq_true g1; dsimp only at this; omega
    have hx : mk[k]? = some mk[k] := List.getElem?_eq_getElem hkl2
    obtain ⟨b1, o1, ha1, hcc⟩ := hMk.row.src.fcells encM_len (by decide) hx
    rw [sum_drop _ hkl2] at hsum
    (conv => whnf); refine ob (by first | omega | (dsimp only; omega)) ?_
    (conv => whnf); refine atp ha1 ?_
    (conv => whnf); refine on (hcc 3 _ rfl) ?_
    (conv => whnf); refine ob (inR_i64 (by first | omega | (dsimp only; omega))) ?_
    (conv => whnf); refine ob (inR_i64 (by first | omega | (dsimp only; omega))) ?_
    (conv => whnf)
    exact ⟨⟨k + 1, s + mk[k].more.length⟩, ⟨by omega, by omega⟩, by dsimp only; omega, ⟨(by repeat' first | exact True.intro | refine ⟨rfl, ?_⟩), (by repeat' first | exact True.intro | refine ⟨rfl, ?_⟩), Mem.le_refl _, rfl⟩⟩
  have hge1 : mk.length ≤ k := by have := of_decide_eq_false g1; dsimp only at this; omega
  rw [List.drop_of_length_le hge1] at hsum
  simp only [List.map_nil, List.sum_nil, Nat.add_zero] at hsum
  subst hsum
  (conv => whnf)
  refine loopQ (σ := Nat × Nat) [14, 13] (fun y => [(14, .int .i64 y.1), (13, .int .i64 y.2)]) (fun | ⟨k, s⟩ => k ≤ ms.length ∧ s + ((ms.drop k).map fun m => m.p.length).sum = bytesD S3.l) (fun y => ms.length - y.1) ⟨0, 0⟩ ⟨by omega, by simpa using hb5⟩ ⟨(by repeat' first | exact True.intro | refine ⟨rfl, ?_⟩), (by repeat' first | exact True.intro | refine ⟨rfl, ?_⟩), Mem.le_refl _, rfl⟩ ?_
  rintro ⟨k2, s2⟩ ⟨hk2, hsum2⟩
  (conv => whnf); refine brn (fun g2 => ?_) (fun g2 => ?_)
  · have hkl2 : k2 < ms.length := by have := of_decide_eq_true g2; dsimp only at this; omega
    have hx : ms[k2]? = some ms[k2] := List.getElem?_eq_getElem hkl2
    obtain ⟨b1, o1, ha1, hcc⟩ := hH5.row.src.fcells encX_len (by decide) hx
    rw [sum_drop _ hkl2] at hsum2
    (conv => whnf); refine ob (by first | omega | (dsimp only; omega)) ?_
    (conv => whnf); refine atp ha1 ?_
    (conv => whnf); refine on (hcc 4 _ rfl) ?_
    (conv => whnf); refine ob (inR_i64 (by first | omega | (dsimp only; omega))) ?_
    (conv => whnf); refine ob (inR_i64 (by first | omega | (dsimp only; omega))) ?_
    (conv => whnf)
    exact ⟨⟨k2 + 1, s2 + ms[k2].p.length⟩, ⟨by omega, by omega⟩, by dsimp only; omega, ⟨(by repeat' first | exact True.intro | refine ⟨rfl, ?_⟩), (by repeat' first | exact True.intro | refine ⟨rfl, ?_⟩), Mem.le_refl _, rfl⟩⟩
  have hge2 : ms.length ≤ k2 := by have := of_decide_eq_false g2; dsimp only at this; omega
  rw [List.drop_of_length_le hge2] at hsum2
  simp only [List.map_nil, List.sum_nil, Nat.add_zero] at hsum2
  subst hsum2
  (conv => whnf); refine brn_f (decide_eq_false (by omega)) ?_
  repeat' ((conv => whnf); first | refine ⟨?_, True.intro⟩ | refine brn_t rfl ?_ | refine brn_f rfl ?_ | refine ob rfl ?_ | refine ob (by decide) ?_ | refine grow_same (Mem.le_refl _) ?_ | refine ob (Mem.le_refl _) ?_ | refine ⟨_, Mem.le_refl _, ?_⟩ | fail)
  refine brn_f (decide_eq_false (by dsimp only; omega)) ?_
  repeat' ((conv => whnf); first | refine ⟨?_, True.intro⟩ | refine brn_t rfl ?_ | refine brn_f rfl ?_ | refine ob rfl ?_ | refine ob (by decide) ?_ | refine grow_same (Mem.le_refl _) ?_ | refine ob (Mem.le_refl _) ?_ | refine ⟨_, Mem.le_refl _, ?_⟩ | fail)
  refine (Bytes_ok h5).mono ?_
  rintro v _ ⟨rfl, rfl⟩
  (conv => whnf); refine brn_f (by simp) ?_
  repeat' ((conv => whnf); first | refine ⟨?_, True.intro⟩ | refine brn_t rfl ?_ | refine brn_f rfl ?_ | refine ob rfl ?_ | refine ob (by decide) ?_ | refine grow_same (Mem.le_refl _) ?_ | refine ob (Mem.le_refl _) ?_ | refine ⟨_, Mem.le_refl _, ?_⟩ | fail)
  refine brn_f (decide_eq_false (by dsimp only; omega)) ?_
  repeat' ((conv => whnf); first | refine ⟨?_, True.intro⟩ | refine brn_t rfl ?_ | refine brn_f rfl ?_ | refine ob rfl ?_ | refine ob (by decide) ?_ | refine grow_same (Mem.le_refl _) ?_ | refine ob (Mem.le_refl _) ?_ | refine ⟨_, Mem.le_refl _, ?_⟩ | fail)
  refine ob (inR_i64 (by first | omega | (dsimp only; omega))) ?_
  (conv => whnf)
  exact ⟨⟨i + 1, M5, S3, came', xs', es'⟩, ⟨by dsimp only; omega, h5, by dsimp only; omega, by dsimp only; omega, hq⟩, by dsimp only; omega, ⟨(by repeat' first | exact True.intro | refine ⟨rfl, ?_⟩), (by repeat' first | exact True.intro | refine ⟨rfl, ?_⟩), Mem.le_refl _, rfl⟩⟩
end Go.Proofs.Ytlocjjponfbhmaa

