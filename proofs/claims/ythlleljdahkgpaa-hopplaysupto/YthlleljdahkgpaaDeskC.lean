/- A desk: begun; is a number among numbers? -/
import Derived.Test.YthlleljdahkgpaaDeskB
namespace Go.Proofs.Ythlleljdahkgpaa
open Go Go.Vm
attribute [local irreducible] Brn Ob Grow CallsM inR LoopVC Mem.row Mem.cells Mem.setCells Mem.upd Own AppVC SrcVC StrVC NextVC New SrcOk subA NewSl Mem.textAt Mem.mapAt Mem.iterAt entryOf kfind Wr NewEls Elems
set_option maxRecDepth 10000
set_option maxRecDepth 10000 in
theorem index_ok (a : Option Addr) (n c : Nat) (x : Int) (M : Mem) (l : List Int) (hs : SrcOk M 1 a n (l.map intV)) (hn : n ≤ 4194304) :
    CallsM Try.prog F.slices_Index_int_int [.slice a n c, .int .i64 x] M fun v M' => (∃ i : Int, v = .int .i64 i ∧ (0 ≤ i ↔ x ∈ l)) ∧ M = M' := by
  refine fo_slices_Index_int_int (by simp) ?_
  have hl := hs.maplen
  (conv => whnf)
  refine loopQ [8] (fun (i : Nat) => [(8, .int .i64 i)]) (fun i => i ≤ n ∧ x ∉ l.take i) (fun i => n - i) 0 ⟨by omega, by simp⟩ ⟨(by repeat' first | exact True.intro | refine ⟨rfl, ?_⟩), (by repeat' first | exact True.intro | refine ⟨rfl, ?_⟩), Mem.le_refl _, rfl⟩ ?_
  intro i ⟨hi, hnot⟩
  (conv => whnf); refine brn (fun h => ?_) (fun h => ?_)
  · simp only [decide_eq_true_eq] at h
    obtain ⟨hlt, b, o, rfl, hrow⟩ := hs.at (i := i) (by omega)
    (conv => whnf); refine ob (by omega) ?_
    (conv => whnf); refine on hrow ?_
    (conv => whnf); refine brn (fun g => ?_) (fun g => ?_)
    · (conv => whnf)
      refine ⟨⟨i, rfl, ?_⟩, rfl⟩
      simp only [decide_eq_true_eq] at g
      subst g
      exact ⟨fun _ => List.getElem_mem _, fun _ => by omega⟩
    · (conv => whnf); refine ob (inR_i64 (by omega)) ?_
      (conv => whnf)
      refine ⟨i + 1, ⟨by omega, ?_⟩, by omega, ⟨(by repeat' first | exact True.intro | refine ⟨rfl, ?_⟩), (by repeat' first | exact True.intro | refine ⟨rfl, ?_⟩), Mem.le_refl _, rfl⟩⟩
      simp only [decide_eq_false_iff_not] at g
      rw [List.take_add_one, List.getElem?_eq_getElem hlt]
      simp only [Option.toList_some, List.mem_append, List.mem_singleton, not_or]
      exact ⟨hnot, g⟩
  · (conv => whnf)
    simp only [decide_eq_false_iff_not] at h
    refine ⟨⟨-1, rfl, ?_⟩, rfl⟩
    rw [List.take_of_length_le (by omega)] at hnot
    simp [hnot]
theorem contains_ok (a : Option Addr) (n c : Nat) (x : Int) (M : Mem) (l : List Int) (hs : SrcOk M 1 a n (l.map intV)) (hn : n ≤ 4194304) :
    CallsM Try.prog F.slices_Contains_int_int [.slice a n c, .int .i64 x] M fun v M' => v = .bool (decide (x ∈ l)) ∧ M = M' := by
  refine fo_slices_Contains_int_int (by simp) ?_
  (conv => whnf); refine (index_ok a n c x M l hs hn).mono ?_
  rintro v M' ⟨⟨i, rfl, hi⟩, rfl⟩
  (conv => whnf)
  exact ⟨by simp [hi], rfl⟩
theorem new_ok (wait : Int) (M : Mem) : CallsM Try.prog F.hop_New [.int .i64 wait] M fun v M' =>
    ((wait < 1 ∨ 64 < wait) ∧ v = .tuple #[.pointer none, .int .i64 1] ∧ M = M') ∨
    ((1 ≤ wait ∧ wait ≤ 64) ∧ ∃ p b, v = .tuple #[ptr p, .int .i64 0] ∧ M p = none ∧ M b = none ∧ M.le M' ∧ DeskAt M' p b wait 0 []) := by
  refine fo_hop_New (by simp) ?_
  (conv => whnf); refine brn (fun h => ?_) (fun h => ?_)
  · (conv => whnf)
    exact .inl ⟨by simp_all, rfl, rfl⟩
  (conv => whnf); refine brn (fun h1 => ?_) (fun h1 => ?_)
  · (conv => whnf)
    exact .inl ⟨by simp_all, rfl, rfl⟩
  (conv => whnf); refine new (fun b hb => ?_)
  replace hb : M b = none := hb
  (conv => whnf); refine new (fun p hp => ?_)
  replace hp : (M.upd b (.map #[] 0)) p = none := hp
  (conv => whnf)
  have hne : p ≠ b := fun e => by subst e; rw [Mem.upd_same] at hp; cases hp
  rw [Mem.upd_ne _ _ hne] at hp
  refine .inr ⟨by simp_all, p, b, rfl, hp, hb, ?_, ?_⟩
  · exact Mem.le_trans (Mem.le_upd hb) (Mem.le_setCells (by rw [Mem.upd_ne _ _ hne]; exact hp))
  · refine ⟨Mem.has_setCells, hne, ?_⟩
    refine (MapAt.new M b).mono fun o ho => ?_
    unfold Mem.setCells
    rw [Mem.upd_ne _ _ (Ne.symm hne)]
    exact ho
end Go.Proofs.Ythlleljdahkgpaa
