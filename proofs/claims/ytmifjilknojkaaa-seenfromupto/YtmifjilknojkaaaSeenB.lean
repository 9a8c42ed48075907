/- The set of what was seen: is it there, how many gaps, may it be added? -/
import Derived.Test.YtmifjilknojkaaaSeenA
namespace Go.Proofs.Ytmifjilknojkaaa
open Go Go.Vm
attribute [local irreducible] Brn Ob Grow CallsM inR LoopVC Mem.row Mem.cells Mem.setCells Mem.upd Own AppVC SrcVC StrVC NextVC New SrcOk subA NewSl Mem.textAt Mem.mapAt Mem.iterAt entryOf kfind Wr NewEls Elems
set_option maxRecDepth 10000
set_option maxRecDepth 10000 in
theorem index_ok (a : Option Addr) (n c : Nat) (x : Int) (M : Mem) (l : List Int) (hs : SrcOk M 1 a n (l.map intV)) (hn : n ≤ 4194304) :
    CallsM Try.prog F.slices_Index_int_int [.slice a n c, .int .i64 x] M fun v M' => (∃ i : Int, v = .int .i64 i ∧ (0 ≤ i ↔ x ∈ l)) ∧ M = M' := by
  refine fo_slices_Index_int_int (by simp) ?_
  have hl := hs.maplen
  (conv => whnf)
  refine loopQ [8] (fun (i : Nat) => [(8, .int .i64 i)]) (fun i => i ≤ n ∧ x ∉ l.take i) (fun i => n - i) 0 ⟨by omega, by simp⟩ ⟨(by repeat' first | exact True.intro | refine ⟨rfl, ?_⟩), (by repeat' first | exact True.intro | refine ⟨rfl, ?_⟩), Mem.le_refl _, rfl⟩ ?_
  intro i ⟨hi, hnot⟩
  (conv => whnf); refine brn (fun h => ?_) (fun h => ?_)
  · simp only [decide_eq_true_eq] at h
    obtain ⟨hlt, b, o, rfl, hrow⟩ := hs.at (i := i) (by omega)
    (conv => whnf); refine ob (by omega) ?_
    (conv => whnf); refine on hrow ?_
    (conv => whnf); refine brn (fun g => ?_) (fun g => ?_)
    · (conv => whnf)
      refine ⟨⟨i, rfl, ?_⟩, rfl⟩
      simp only [decide_eq_true_eq] at g
      subst g
      exact ⟨fun _ => List.getElem_mem _, fun _ => by omega⟩
    · (conv => whnf); refine ob (inR_i64 (by omega)) ?_
      (conv => whnf)
      refine ⟨i + 1, ⟨by omega, ?_⟩, by omega, ⟨(by repeat' first | exact True.intro | refine ⟨rfl, ?_⟩), (by repeat' first | exact True.intro | refine ⟨rfl, ?_⟩), Mem.le_refl _, rfl⟩⟩
      simp only [decide_eq_false_iff_not] at g
      rw [List.take_add_one, List.getElem?_eq_getElem hlt]
      simp only [Option.toList_some, List.mem_append, List.mem_singleton, not_or]
      exact ⟨hnot, g⟩
  · (conv => whnf)
    simp only [decide_eq_false_iff_not] at h
    refine ⟨⟨-1, rfl, ?_⟩, rfl⟩
    rw [List.take_of_length_le (by omega)] at hnot
    simp [hnot]
theorem contains_ok (a : Option Addr) (n c : Nat) (x : Int) (M : Mem) (l : List Int) (hs : SrcOk M 1 a n (l.map intV)) (hn : n ≤ 4194304) :
    CallsM Try.prog F.slices_Contains_int_int [.slice a n c, .int .i64 x] M fun v M' => v = .bool (decide (x ∈ l)) ∧ M = M' := by
  refine fo_slices_Contains_int_int (by simp) ?_
  (conv => whnf); refine (index_ok a n c x M l hs hn).mono ?_
  rintro v M' ⟨⟨i, rfl, hi⟩, rfl⟩
  (conv => whnf)
  exact ⟨by simp [hi], rfl⟩
variable {M : Mem} {p b : Nat} {gaps : Int} {es : List ((Int × Int) × Ent)}
def upOf (es : List ((Int × Int) × Ent)) (k : Int × Int) : Int := match aget es k with | some x => x.up | none => 0
def moreOf (es : List ((Int × Int) × Ent)) (k : Int × Int) : List Int := match aget es k with | some x => x.more | none => []
def hasE (es : List ((Int × Int) × Ent)) (o d e c : Int) : Bool := decide (idErr o d e c = 0) && (decide (c ≤ upOf es (o, e)) || decide (c ∈ moreOf es (o, e)))
def gapsE (es : List ((Int × Int) × Ent)) : Nat := (es.map fun q => q.2.more.length).sum
theorem gapsE_perm {l r : List ((Int × Int) × Ent)} (h : l.Perm r) : gapsE l = gapsE r := (h.map _).sum_nat
theorem gapsE_le {q : (Int × Int) × Ent} : ∀ {es : List ((Int × Int) × Ent)}, q ∈ es → q.2.more.length ≤ gapsE es
  | [], h => by cases h
  | x :: r, h => by
    simp only [gapsE, List.map_cons, List.sum_cons]
    rcases List.mem_cons.1 h with rfl | h
    · omega
    · have := gapsE_le h
      simp only [gapsE] at this
      omega
/-- rows as they should be -/
def GoodE (es : List ((Int × Int) × Ent)) : Prop := ∀ q ∈ es, 0 ≤ q.2.up ∧ q.2.up ≤ 65535
theorem Has_ok (h : SetAt M p b gaps es) (hg : gapsE es ≤ 4194304) (o d e c : Int) : CallsM Try.prog F.seen_Set_Has [ptr p, .agg #[.int .i64 o, .int .i64 d, .int .i64 e, .int .i64 c]] M fun v M' => v = .bool (hasE es o d e c) ∧ M.le M' := by
  refine fo_seen_Set_Has (by simp) ?_
  (conv => whnf); refine brn_f rfl ?_
  (conv => whnf); refine (check_ok o d e c M).mono ?_
  rintro v _ ⟨rfl, rfl⟩
  (conv => whnf); refine brn (fun g => ?_) (fun g => ?_)
  · (conv => whnf)
    have : ¬ idErr o d e c = 0 := by simpa using g
    exact ⟨by simp [hasE, this], Mem.le_refl _⟩
  have hok : idErr o d e c = 0 := by simpa using g
  (conv => whnf); refine (of_ok h o d e c).mono ?_
  rintro v M1 (⟨x, hx, rfl, rfl⟩ | ⟨hn, r, rfl, hr, rfl⟩)
  · have hxe := h.ents _ (aget_mem hx)
    have hlen : x.more.length ≤ 4194304 := Nat.le_trans (gapsE_le (aget_mem hx)) hg
    (conv => whnf); refine on (hxe.self.c1 rfl) ?_
    (conv => whnf); refine brn (fun g1 => ?_) (fun g1 => ?_)
    · have g1' : c ≤ x.up := of_decide_eq_true g1
      repeat' ((conv => whnf); first | refine ⟨?_, True.intro⟩ | refine brn_t rfl ?_ | refine brn_f rfl ?_ | refine ob rfl ?_ | refine ob (by decide) ?_ | refine grow_same (Mem.le_refl _) ?_ | refine ob (Mem.le_refl _) ?_ | refine ⟨_, Mem.le_refl _, ?_⟩ | fail)
      exact ⟨by simp [hasE, hok, upOf, hx, g1'], Mem.le_refl _⟩
    · have g1' : ¬ c ≤ x.up := of_decide_eq_false g1
      (conv => whnf); refine on (hxe.self.c1 rfl) ?_
      repeat' ((conv => whnf); first | refine ob rfl ?_ | refine grow_same (Mem.le_refl _) ?_ | refine ob (Mem.le_refl _) ?_ | refine ⟨?_, True.intro⟩ | fail)
      refine (contains_ok x.a x.more.length x.c c _ x.more hxe.more.src hlen).mono ?_
      rintro v _ ⟨rfl, rfl⟩
      (conv => whnf)
      exact ⟨by simp [hasE, hok, upOf, moreOf, hx, g1'], Mem.le_refl _⟩
  · have hle : M.le (M.setCells r T.seen_row [.int .i64 0, .slice none 0 0]) := Mem.le_setCells hr
    have hh := Mem.has_setCells (M := M) (b := r) (E := T.seen_row) (l := [.int .i64 0, .slice none 0 0])
    obtain ⟨M1, hM1⟩ : ∃ M1, M1 = M.setCells r T.seen_row [.int .i64 0, .slice none 0 0] := ⟨_, rfl⟩
    rw [← hM1] at hle hh ⊢
    have hc : 1 ≤ c := by unfold idErr at hok; split at hok <;> (try cases hok); omega
    (conv => whnf); refine on (hh.c1 rfl) ?_
    (conv => whnf); refine brn_f (by simp; omega) ?_
    (conv => whnf); refine on (hh.c1 rfl) ?_
    repeat' ((conv => whnf); first | refine ob rfl ?_ | refine grow_same (Mem.le_refl _) ?_ | refine ob (Mem.le_refl _) ?_ | refine ⟨?_, True.intro⟩ | fail)
    refine (contains_ok none 0 0 c M1 [] (SrcOk.nil M1 1) (by omega)).mono ?_
    rintro v _ ⟨rfl, rfl⟩
    (conv => whnf)
    have hlt : ¬ c ≤ 0 := by omega
    exact ⟨by simp [hasE, hok, upOf, moreOf, hn, hlt], hle⟩
theorem Gaps_ok (h : SetAt M p b gaps es) (hg : gapsE es ≤ 4611686018427387904) : CallsM Try.prog F.seen_Set_Gaps [ptr p] M fun v M' => v = .int .i64 (gapsE es) ∧ M.le M' := by
  refine fo_seen_Set_Gaps (by simp) ?_
  (conv => whnf); refine brn_t rfl ?_
  (conv => whnf); refine on (h.self.c1 rfl) ?_
  (conv => whnf)
  refine h.map.range fun q bi hbi hI => ?_
  replace hbi : M bi = none := hbi
  (conv => whnf)
  refine loopF (σ := Mem × Nat × List ((Int × Int) × Ent)) [3] (fun x => [(3, .int .i64 x.2.1)]) (fun _ => []) (fun x => x.1)
    (fun | ⟨M1, n, todo⟩ => M.le M1 ∧ Iter keyV entV M1 bi b es todo ∧ n + gapsE todo = gapsE es) (fun x => x.2.2.length) ⟨_, 0, es⟩
    ⟨Mem.le_upd hbi, hI, by omega⟩ ⟨(by repeat' first | exact True.intro | refine ⟨rfl, ?_⟩), (by repeat' first | exact True.intro | refine ⟨rfl, ?_⟩), Mem.le_refl _, rfl⟩ ?_
  rintro ⟨M1, n, todo⟩ ⟨hle, hI1, hsum⟩
  (conv => whnf)
  refine hI1.next (fun h0 => ?_) (fun i k todo' o' hperm hI2 hent => ?_)
  · subst h0
    repeat' ((conv => whnf); first | refine ⟨?_, True.intro⟩ | refine brn_t rfl ?_ | refine brn_f rfl ?_ | refine ob rfl ?_ | refine ob (by decide) ?_ | refine grow_same (Mem.le_refl _) ?_ | refine ob (Mem.le_refl _) ?_ | refine ⟨_, Mem.le_refl _, ?_⟩ | fail)
    refine ⟨?_, hle⟩
    have : gapsE [] = 0 := rfl
    congr 1
    dsimp only
    omega
  · have hle2 : M.le (M1.upd bi o') := fun y o hb => by
      rw [Mem.upd_ne _ _ (fun e => by subst e; rw [hbi] at hb; cases hb)]; exact hle _ _ hb
    obtain ⟨M2, hM2⟩ : ∃ M2, M2 = M1.upd bi o' := ⟨_, rfl⟩
    rw [← hM2] at hI2 hent hle2
    have hmem : (i, k) ∈ es := hI1.todo_sub _ (hperm.mem_iff.2 (by simp))
    have hke := (h.le hle2).ents _ hmem
    have hs := gapsE_perm hperm
    simp only [gapsE, List.map_cons, List.sum_cons] at hs
    have hsum' : n + k.more.length + gapsE todo' = gapsE es := by simp only [gapsE] at hsum ⊢; omega
    (conv => whnf)
    erw [← hM2]
    repeat' ((conv => whnf); first | refine ⟨?_, True.intro⟩ | refine brn_t rfl ?_ | refine brn_f rfl ?_ | refine ob rfl ?_ | refine ob (by decide) ?_ | refine grow_same (Mem.le_refl _) ?_ | refine ob (Mem.le_refl _) ?_ | refine ⟨_, Mem.le_refl _, ?_⟩ | fail)
    refine on hent ?_
    (conv => whnf); refine on (hke.self.c1 rfl) ?_
    (conv => whnf); refine ob (inR_i64 (by dsimp only; omega)) ?_
    (conv => whnf)
    refine ⟨⟨M2, n + k.more.length, todo'⟩, ⟨hle2, hI2, hsum'⟩, by have := hperm.length_eq; simp at this ⊢; omega, ⟨(by repeat' first | exact True.intro | refine ⟨rfl, ?_⟩), (by repeat' first | exact True.intro | refine ⟨rfl, ?_⟩), Mem.le_refl _, rfl⟩⟩
def mayE (gaps : Int) (es : List ((Int × Int) × Ent)) (o d e c : Int) : Int :=
  if idErr o d e c ≠ 0 then idErr o d e c else if hasE es o d e c then 5 else if c ≠ upOf es (o, e) + 1 ∧ gaps ≤ gapsE es then 6 else 0
theorem upOf_range (hgd : GoodE es) (k : Int × Int) : 0 ≤ upOf es k ∧ upOf es k ≤ 65535 := by
  unfold upOf
  cases hx : aget es k with
  | none => dsimp only; omega
  | some x => exact hgd _ (aget_mem hx)
theorem May_ok (h : SetAt M p b gaps es) (hg : gapsE es ≤ 4194304) (hgd : GoodE es) (o d e c : Int) : CallsM Try.prog F.seen_Set_May [ptr p, .agg #[.int .i64 o, .int .i64 d, .int .i64 e, .int .i64 c]] M fun v M' => v = .int .i64 (mayE gaps es o d e c) ∧ M.le M' := by
  refine fo_seen_Set_May (by simp) ?_
  (conv => whnf); refine brn_f rfl ?_
  (conv => whnf); refine (check_ok o d e c M).mono ?_
  rintro v _ ⟨rfl, rfl⟩
  (conv => whnf); refine brn (fun g => ?_) (fun g => ?_)
  · (conv => whnf)
    have : ¬ idErr o d e c = 0 := by simpa using g
    exact ⟨by simp [mayE, this], Mem.le_refl _⟩
  have hok : idErr o d e c = 0 := by simpa using g
  (conv => whnf); refine (Has_ok h hg o d e c).mono ?_
  rintro v M1 ⟨rfl, hle1⟩
  have h1 := h.le hle1
  (conv => whnf); refine brn (fun g => ?_) (fun g => ?_)
  · (conv => whnf)
    exact ⟨by simp [mayE, hok, g], hle1⟩
  have hno : hasE es o d e c = false := g
  have hur := upOf_range hgd (o, e)
  have fin : ∀ (t : Bool), t = (decide (c ≠ upOf es (o, e) + 1) && decide (gaps ≤ gapsE es)) → mayE gaps es o d e c = if t then 6 else 0 := fun t ht => by
    subst ht
    simp only [mayE, hok, hno]
    by_cases e1 : c = upOf es (o, e) + 1 <;> by_cases e2 : gaps ≤ (gapsE es : Int) <;> simp [e1, e2]
  have key : CallsM Try.prog F.seen_Set_of [ptr p, .agg #[.int .i64 o, .int .i64 d, .int .i64 e, .int .i64 c]] M1 fun v M' => ∃ r, v = ptr r ∧ M1.le M' ∧ M'.row r 0 1 = some [.int .i64 (upOf es (o, e))] := (of_ok h1 o d e c).mono fun v M' hv => by
    rcases hv with ⟨x, hx, rfl, rfl⟩ | ⟨hn, r, rfl, hr, rfl⟩
    · refine ⟨x.r, rfl, Mem.le_refl _, ?_⟩
      have := (h1.ents _ (aget_mem hx)).self.c1 (o := 0) rfl
      simpa [upOf, hx] using this
    · refine ⟨r, rfl, Mem.le_setCells hr, ?_⟩
      have := (Mem.has_setCells (M := M1) (b := r) (E := T.seen_row) (l := [.int .i64 0, .slice none 0 0])).c1 (o := 0) rfl
      simpa [upOf, hn] using this
  (conv => whnf); refine ⟨M1, Mem.le_refl _, ?_⟩
  repeat' ((conv => whnf); first | refine ob rfl ?_ | refine grow_same (Mem.le_refl _) ?_ | refine ob (Mem.le_refl _) ?_ | refine ⟨?_, True.intro⟩ | fail)
  refine key.mono ?_
  rintro v M2 ⟨r, rfl, hle2, hrow⟩
  have hself2 := (h1.le hle2).self
  (conv => whnf); refine ob rfl ?_
  (conv => whnf); refine growX M2 hle2 (Mem.le_refl _) ?_
  (conv => whnf); refine on hrow ?_
  (conv => whnf); refine ob (inR_i64 (by omega)) ?_
  (conv => whnf); refine brn (fun g1 => ?_) (fun g1 => ?_)
  · (conv => whnf); refine on (hself2.c1 rfl) ?_
    repeat' ((conv => whnf); first | refine ob rfl ?_ | refine grow_same (Mem.le_refl _) ?_ | refine ob (Mem.le_refl _) ?_ | refine ⟨?_, True.intro⟩ | fail)
    refine (Gaps_ok (h1.le hle2) (by omega)).mono ?_
    rintro v M3 ⟨rfl, hle3⟩
    repeat' ((conv => whnf); first | refine ob rfl ?_ | refine grow_same hle3 ?_ | refine ob hle3 ?_ | refine ⟨?_, True.intro⟩ | fail)
    refine brn (fun g2 => ?_) (fun g2 => ?_)
    · have e := fin true (by rw [Bool.not_eq_true', decide_eq_false_iff_not] at g1; simp [g1, of_decide_eq_true g2])
      (conv => whnf)
      exact ⟨by rw [e]; rfl, Mem.le_trans hle1 (Mem.le_trans hle2 hle3)⟩
    · have e := fin false (by simp [of_decide_eq_false g2])
      (conv => whnf)
      exact ⟨by rw [e]; rfl, Mem.le_trans hle1 (Mem.le_trans hle2 hle3)⟩
  · have e := fin false (by simp at g1; simp [g1])
    repeat' ((conv => whnf); first | refine ob rfl ?_ | refine grow_same (Mem.le_refl _) ?_ | refine ob (Mem.le_refl _) ?_ | refine ⟨?_, True.intro⟩ | fail)
    (conv => whnf)
    exact ⟨by rw [e]; rfl, Mem.le_trans hle1 hle2⟩
end Go.Proofs.Ytmifjilknojkaaa
