/- twice, strange, again: whole. -/
import Derived.Test.YtjkejbenppeagaaGreatDoorWatM
namespace Go.Proofs.YtjkejbenppeagaaGreatDoor
open Go Go.Vm
attribute [local irreducible] Brn Ob Grow CallsM inR LoopVC LoopVC0 Mem.row Mem.cells Mem.setCells Mem.upd Go.Vm.Own AppVC SrcVC StrVC NextVC New SrcOk subA NewSl Mem.textAt Mem.mapAt Mem.iterAt entryOf kfind Wr NewEls Elems
set_option maxRecDepth 10000
variable {M : Mem}
@[reducible] def idV (i : Id4) : Value := .agg #[.int .i64 i.o, .int .i64 i.d, .int .i64 i.e, .int .i64 i.c]
def ltW (a b : Id4) : Bool := if a.o ≠ b.o then decide (a.o < b.o) else if a.d ≠ b.d then decide (a.d < b.d) else if a.e ≠ b.e then decide (a.e < b.e) else decide (a.c < b.c)
theorem less_ok (a b : Id4) (M : Mem) : CallsM Tryz.prog F.msg_Less [idV a, idV b] M fun v M' => v = .bool (ltW a b) ∧ M = M' := by
  refine fo_msg_Less (by simp) ?_
  repeat' ((conv => whnf); first | refine brn (fun h => ?_) (fun h => ?_) | fail)
  all_goals (conv => whnf)
  all_goals (refine ⟨?_, rfl⟩; simp_all [ltW])
theorem any_filter {α : Type} (p : α → Bool) (l : List α) : decide ((0 : Int) < (l.filter p).length) = l.any p := by
  cases h : l.any p with
  | true =>
    rw [List.any_eq_true] at h
    obtain ⟨x, hx, hp⟩ := h
    have : 0 < (l.filter p).length := List.length_pos_of_mem (List.mem_filter.2 ⟨hx, hp⟩)
    exact decide_eq_true (by omega)
  | false =>
    rw [List.any_eq_false] at h
    have : l.filter p = [] := List.filter_eq_nil_iff.2 h
    rw [this]; rfl
theorem twice_ok {a : Option Addr} {n c : Nat} {l : List TdR} (hl : Elems M 9 a n (TdL M) l) (hn : n ≤ 1048576) (i : Id4) :
    CallsM Tryz.prog F.watch_twice [.slice a n c, idV i] M fun v M' => v = .bool (l.any (twP i)) ∧ M.le M' := by
  refine fo_watch_twice (by simp) ?_
  repeat' ((conv => whnf); first | refine ⟨?_, True.intro⟩ | refine brn_t rfl ?_ | refine brn_f rfl ?_ | refine ob rfl ?_ | refine ob (by decide) ?_ | refine grow_same (Mem.le_refl _) ?_ | refine ob (Mem.le_refl _) ?_ | refine ⟨_, Mem.le_refl _, ?_⟩ | fail)
  refine new (fun bq hb => ?_)
  replace hb : M bq = none := hb
  have hle1 : M.le (M.setCells bq T.api_Id (id4 i)) := Mem.le_setCells hb
  have hb1 : (M.setCells bq T.api_Id (id4 i)).has bq T.api_Id (id4 i) := Mem.has_setCells
  obtain ⟨M1, hM1⟩ : ∃ M1, M1 = M.setCells bq T.api_Id (id4 i) := ⟨_, rfl⟩
  rw [← hM1] at hle1 hb1
  (conv => whnf)
  erw [← hM1]
  refine (someT_ok (hl.imp hle1 fun _ _ _ hx => hx.le hle1) hn (twice1_ok hb1)).mono ?_
  rintro v M2 ⟨a2, c2, rfl, hN⟩
  repeat' ((conv => whnf); first | refine ⟨?_, True.intro⟩ | refine brn_t rfl ?_ | refine brn_f rfl ?_ | refine ob rfl ?_ | refine ob (by decide) ?_ | refine grow_same (Mem.le_refl _) ?_ | refine ob (Mem.le_refl _) ?_ | refine ⟨_, Mem.le_refl _, ?_⟩ | fail)
  exact ⟨by rw [← any_filter], Mem.le_trans hle1 hN.le⟩
def againB (l : List TdR) (i : Id4) : Bool := match (l.filter (agP i)).getLast? with | some x => !ltW x.id i | none => false
theorem again_ok {a : Option Addr} {n c : Nat} {l : List TdR} (hl : Elems M 9 a n (TdL M) l) (hn : n ≤ 1048576) (i : Id4) :
    CallsM Tryz.prog F.watch_again [.slice a n c, idV i] M fun v M' => v = .bool (againB l i) ∧ M.le M' := by
  refine fo_watch_again (by simp) ?_
  repeat' ((conv => whnf); first | refine ⟨?_, True.intro⟩ | refine brn_t rfl ?_ | refine brn_f rfl ?_ | refine ob rfl ?_ | refine ob (by decide) ?_ | refine grow_same (Mem.le_refl _) ?_ | refine ob (Mem.le_refl _) ?_ | refine ⟨_, Mem.le_refl _, ?_⟩ | fail)
  refine new (fun bq hb => ?_)
  replace hb : M bq = none := hb
  have hle1 : M.le (M.setCells bq T.api_Id (id4 i)) := Mem.le_setCells hb
  have hb1 : (M.setCells bq T.api_Id (id4 i)).has bq T.api_Id (id4 i) := Mem.has_setCells
  obtain ⟨M1, hM1⟩ : ∃ M1, M1 = M.setCells bq T.api_Id (id4 i) := ⟨_, rfl⟩
  rw [← hM1] at hle1 hb1
  (conv => whnf)
  erw [← hM1]
  refine (someT_ok (hl.imp hle1 fun _ _ _ hx => hx.le hle1) hn (again1_ok hb1)).mono ?_
  rintro v M2 ⟨a2, c2, rfl, hN⟩
  obtain ⟨fl, hfl⟩ : ∃ fl, fl = l.filter (agP i) := ⟨_, rfl⟩
  have hB : againB l i = match fl.getLast? with | some x => !ltW x.id i | none => false := by rw [hfl]; rfl
  rw [← hfl] at hN ⊢
  have hle := hN.le
  have hid := (hb1.le hle).row (o := 0) (n := 4) (Nat.le_refl 4)
  (conv => whnf); refine brn (fun e => ?_) (fun e => ?_)
  · have hpos : 0 < fl.length := by have := of_decide_eq_true e; omega
    obtain ⟨hk, b, o, cs, ha, hr, -, -, x3, x1, x2, rfl, -, -⟩ := hN.elems.at (by decide) (i := fl.length - 1) (by omega)
    have hg : fl.getLast? = some fl[fl.length - 1] := by rw [List.getLast?_eq_getElem?, List.getElem?_eq_getElem hk]
    rw [hg] at hB
    generalize fl[fl.length - 1] = x at *
    have ht : ((fl.length : Int) - 1).toNat = fl.length - 1 := by omega
    have hfn : fl.length ≤ 1048576 := by rw [hfl]; exact Nat.le_trans (List.length_filter_le _ _) (by rw [hl.len]; exact hn)
    (conv => whnf); refine ob (inR_i64 (by first | omega | (dsimp only; omega))) ?_
    (conv => whnf); refine ob ⟨by omega, by omega⟩ ?_
    (conv => whnf); refine atp ha ?_
    (conv => whnf)
    rw [ht]
    (conv => whnf); refine on (hr 2 4 (by decide)) ?_
    (conv => whnf); refine on hid ?_
    repeat' ((conv => whnf); first | refine ⟨?_, True.intro⟩ | refine brn_t rfl ?_ | refine brn_f rfl ?_ | refine ob rfl ?_ | refine ob (by decide) ?_ | refine grow_same (Mem.le_refl _) ?_ | refine ob (Mem.le_refl _) ?_ | refine ⟨_, Mem.le_refl _, ?_⟩ | fail)
    refine (less_ok x.id i M2).mono ?_
    rintro v _ ⟨rfl, rfl⟩
    repeat' ((conv => whnf); first | refine ⟨?_, True.intro⟩ | refine brn_t rfl ?_ | refine brn_f rfl ?_ | refine ob rfl ?_ | refine ob (by decide) ?_ | refine grow_same (Mem.le_refl _) ?_ | refine ob (Mem.le_refl _) ?_ | refine ⟨_, Mem.le_refl _, ?_⟩ | fail)
    exact ⟨by rw [hB], Mem.le_trans hle1 hle⟩
  · have hz : fl = [] := List.length_eq_zero_iff.1 (by have := of_decide_eq_false e; omega)
    rw [hz] at hB
    repeat' ((conv => whnf); first | refine ⟨?_, True.intro⟩ | refine brn_t rfl ?_ | refine brn_f rfl ?_ | refine ob rfl ?_ | refine ob (by decide) ?_ | refine grow_same (Mem.le_refl _) ?_ | refine ob (Mem.le_refl _) ?_ | refine ⟨_, Mem.le_refl _, ?_⟩ | fail)
    exact ⟨by rw [hB]; rfl, Mem.le_trans hle1 hle⟩
def stepsB (steps : List StR) (t : TdR) : List StR := if t.step < steps.length then steps.take (max t.step (-1) + 1).toNat else steps
theorem strange_ok {a : Option Addr} {n c : Nat} {l : List StR} (hl : Elems M 5 a n (StL M) l) (hn : n ≤ 1048576) (hc : n ≤ c) {t : TdR} {ta : Option Addr} {tn tc : Nat} (ht : SrcOk M 1 ta tn (t.data.map byteV)) :
    CallsM Tryz.prog F.watch_strange [.slice a n c, .agg (tdC t ta tn tc).toArray] M fun v M' => v = .bool (!(stepsB l t).any (gvP t)) ∧ M.le M' := by
  refine fo_watch_strange (by simp) ?_
  have hll := hl.len
  have fin : ∀ {k : List StR}, decide (((k.filter (gvP t)).length : Int) = 0) = !k.any (gvP t) := fun {k} => by
    rw [← any_filter]
    by_cases h : ((k.filter (gvP t)).length : Int) = 0
    · rw [decide_eq_true h, decide_eq_false (by omega)]; rfl
    · rw [decide_eq_false h, decide_eq_true (by omega)]; rfl
  (conv => whnf); refine brn (fun e => ?_) (fun e => ?_)
  · have e1 : t.step < n := of_decide_eq_true e
    have hB : stepsB l t = l.take (max t.step (-1) + 1).toNat := by unfold stepsB; rw [if_pos (by omega)]
    have hs := hl.take (k := (max t.step (-1) + 1).toNat) (by omega) hc (by decide)
    (conv => whnf); refine ob (inR_i64 (by first | omega | (dsimp only; omega))) ?_
    (conv => whnf); refine ob ⟨by decide, by omega, by omega⟩ ?_
    have t1 : (max t.step (-1) + 1).toNat - Int.toNat 0 = (max t.step (-1) + 1).toNat := by show _ - 0 = _; omega
    have t2 : Int.toNat 0 = 0 := rfl
    rw [t1, t2]
    repeat' ((conv => whnf); first | refine ⟨?_, True.intro⟩ | refine brn_t rfl ?_ | refine brn_f rfl ?_ | refine ob rfl ?_ | refine ob (by decide) ?_ | refine grow_same (Mem.le_refl _) ?_ | refine ob (Mem.le_refl _) ?_ | refine ⟨_, Mem.le_refl _, ?_⟩ | fail)
    refine new (fun bq hb => ?_)
    replace hb : M bq = none := hb
    have hle1 : M.le (M.setCells bq T.api_Told (tdC t ta tn tc)) := Mem.le_setCells hb
    have hb1 : (M.setCells bq T.api_Told (tdC t ta tn tc)).has bq T.api_Told (tdC t ta tn tc) := Mem.has_setCells
    obtain ⟨M1, hM1⟩ : ∃ M1, M1 = M.setCells bq T.api_Told (tdC t ta tn tc) := ⟨_, rfl⟩
    rw [← hM1] at hle1 hb1
    (conv => whnf)
    erw [← hM1]
    refine (someS_ok (hs.imp hle1 fun _ _ _ hx => hx.le hle1) (by omega) (strange1_ok hb1 (ht.le hle1))).mono ?_
    rintro v M2 ⟨a2, c2, rfl, hN⟩
    repeat' ((conv => whnf); first | refine ⟨?_, True.intro⟩ | refine brn_t rfl ?_ | refine brn_f rfl ?_ | refine ob rfl ?_ | refine ob (by decide) ?_ | refine grow_same (Mem.le_refl _) ?_ | refine ob (Mem.le_refl _) ?_ | refine ⟨_, Mem.le_refl _, ?_⟩ | fail)
    exact ⟨by rw [hB, ← fin], Mem.le_trans hle1 hN.le⟩
  · have e1 : ¬ t.step < n := of_decide_eq_false e
    have hB : stepsB l t = l := by unfold stepsB; rw [if_neg (by omega)]
    have hs := hl
    repeat' ((conv => whnf); first | refine ⟨?_, True.intro⟩ | refine brn_t rfl ?_ | refine brn_f rfl ?_ | refine ob rfl ?_ | refine ob (by decide) ?_ | refine grow_same (Mem.le_refl _) ?_ | refine ob (Mem.le_refl _) ?_ | refine ⟨_, Mem.le_refl _, ?_⟩ | fail)
    refine new (fun bq hb => ?_)
    replace hb : M bq = none := hb
    have hle1 : M.le (M.setCells bq T.api_Told (tdC t ta tn tc)) := Mem.le_setCells hb
    have hb1 : (M.setCells bq T.api_Told (tdC t ta tn tc)).has bq T.api_Told (tdC t ta tn tc) := Mem.has_setCells
    obtain ⟨M1, hM1⟩ : ∃ M1, M1 = M.setCells bq T.api_Told (tdC t ta tn tc) := ⟨_, rfl⟩
    rw [← hM1] at hle1 hb1
    (conv => whnf)
    erw [← hM1]
    refine (someS_ok (hs.imp hle1 fun _ _ _ hx => hx.le hle1) (by omega) (strange1_ok hb1 (ht.le hle1))).mono ?_
    rintro v M2 ⟨a2, c2, rfl, hN⟩
    repeat' ((conv => whnf); first | refine ⟨?_, True.intro⟩ | refine brn_t rfl ?_ | refine brn_f rfl ?_ | refine ob rfl ?_ | refine ob (by decide) ?_ | refine grow_same (Mem.le_refl _) ?_ | refine ob (Mem.le_refl _) ?_ | refine ⟨_, Mem.le_refl _, ?_⟩ | fail)
    exact ⟨by rw [hB, ← fin], Mem.le_trans hle1 hN.le⟩
end Go.Proofs.YtjkejbenppeagaaGreatDoor
