/- The set of what was seen: is it there, how many gaps, may it be added? -/
import Derived.Test.YtlocjjponfbhmaaGreatJoin14
import Derived.Test.YtlocjjponfbhmaaGreatJoin12
namespace Go.Proofs.YtlocjjponfbhmaaGreat
open Go Go.Vm
attribute [local irreducible] Brn Ob Grow CallsM inR LoopVC Mem.row Mem.cells Mem.setCells Mem.upd Own AppVC SrcVC StrVC NextVC New SrcOk subA NewSl Mem.textAt Mem.mapAt Mem.iterAt entryOf kfind Wr NewEls Elems
set_option maxRecDepth 10000
set_option maxRecDepth 10000 in
theorem index_ok (a : Option Addr) (n c : Nat) (x : Int) (M : Mem) (l : List Int) (hs : SrcOk M 1 a n (l.map intV)) (hn : n ≤ 4194304) :
    CallsM Tryz.prog F.slices_Index_int_int [.slice a n c, .int .i64 x] M fun v M' => (∃ i : Int, v = .int .i64 i ∧ (0 ≤ i ↔ x ∈ l)) ∧ M = M' := by
  refine fo_slices_Index_int_int (by simp) ?_
  have hl := hs.maplen
  (conv => whnf)
  refine loopQ [8] (fun (i : Nat) => [(8, .int .i64 i)]) (fun i => i ≤ n ∧ x ∉ l.take i) (fun i => n - i) 0 ⟨by omega, by simp⟩ ⟨(by repeat' first | exact True.intro | refine ⟨rfl, ?_⟩), (by repeat' first | exact True.intro | refine ⟨rfl, ?_⟩), Mem.le_refl _, rfl⟩ ?_
  intro i ⟨hi, hnot⟩
  (conv => whnf); refine brn (fun h => ?_) (fun h => ?_)
  · simp only [decide_eq_true_eq] at h
    obtain ⟨hlt, b, o, rfl, hrow⟩ := hs.at (i := i) (by omega)
    (conv => whnf); refine ob (by omega) ?_
    (conv => whnf); refine on hrow ?_
    (conv => whnf); refine brn (fun g => ?_) (fun g => ?_)
    · (conv => whnf)
      refine ⟨⟨i, rfl, ?_⟩, rfl⟩
      simp only [decide_eq_true_eq] at g
      subst g
      exact ⟨fun _ => List.getElem_mem _, fun _ => by omega⟩
    · (conv => whnf); refine ob (inR_i64 (by omega)) ?_
      (conv => whnf)
      refine ⟨i + 1, ⟨by omega, ?_⟩, by omega, ⟨(by repeat' first | exact True.intro | refine ⟨rfl, ?_⟩), (by repeat' first | exact True.intro | refine ⟨rfl, ?_⟩), Mem.le_refl _, rfl⟩⟩
      simp only [decide_eq_false_iff_not] at g
      rw [List.take_add_one, List.getElem?_eq_getElem hlt]
      simp only [Option.toList_some, List.mem_append, List.mem_singleton, not_or]
      exact ⟨hnot, g⟩
  · (conv => whnf)
    simp only [decide_eq_false_iff_not] at h
    refine ⟨⟨-1, rfl, ?_⟩, rfl⟩
    rw [List.take_of_length_le (by omega)] at hnot
    simp [hnot]
theorem contains_ok (a : Option Addr) (n c : Nat) (x : Int) (M : Mem) (l : List Int) (hs : SrcOk M 1 a n (l.map intV)) (hn : n ≤ 4194304) :
    CallsM Tryz.prog F.slices_Contains_int_int [.slice a n c, .int .i64 x] M fun v M' => v = .bool (decide (x ∈ l)) ∧ M = M' := by
  refine fo_slices_Contains_int_int (by simp) ?_
  (conv => whnf); refine (index_ok a n c x M l hs hn).mono ?_
  rintro v M' ⟨⟨i, rfl, hi⟩, rfl⟩
  (conv => whnf)
  exact ⟨by simp [hi], rfl⟩
variable {M : Mem} {p b : Nat} {gaps : Int} {es : List ((Int × Int) × Ent)}
def upOf (es : List ((Int × Int) × Ent)) (k : Int × Int) : Int := match aget es k with | some x => x.up | none => 0
def moreOf (es : List ((Int × Int) × Ent)) (k : Int × Int) : List Int := match aget es k with | some x => x.more | none => []
def hasE (es : List ((Int × Int) × Ent)) (o d e c : Int) : Bool := decide (idErr o d e c = 0) && (decide (c ≤ upOf es (o, e)) || decide (c ∈ moreOf es (o, e)))
def gapsE (es : List ((Int × Int) × Ent)) : Nat := (es.map fun q => q.2.more.length).sum
theorem gapsE_perm {l r : List ((Int × Int) × Ent)} (h : l.Perm r) : gapsE l = gapsE r := (h.map _).sum_nat
theorem gapsE_le {q : (Int × Int) × Ent} : ∀ {es : List ((Int × Int) × Ent)}, q ∈ es → q.2.more.length ≤ gapsE es
  | [], h => by cases h
  | x :: r, h => by
    simp only [gapsE, List.map_cons, List.sum_cons]
    rcases List.mem_cons.1 h with rfl | h
    · omega
    · have := gapsE_le h
      simp only [gapsE] at this
      omega
/-- rows as they should be -/
def GoodE (es : List ((Int × Int) × Ent)) : Prop := ∀ q ∈ es, 0 ≤ q.2.up ∧ q.2.up ≤ 65535
theorem Has_ok (h : SetAt M p b gaps es) (hg : gapsE es ≤ 4194304) (o d e c : Int) : CallsM Tryz.prog F.seen_Set_Has [ptr p, .agg #[.int .i64 o, .int .i64 d, .int .i64 e, .int .i64 c]] M fun v M' => v = .bool (hasE es o d e c) ∧ M.le M' := by
  refine fo_seen_Set_Has (by simp) ?_
  (conv => whnf); refine brn_f rfl ?_
  (conv => whnf); refine (check_ok o d e c M).mono ?_
  rintro v _ ⟨rfl, rfl⟩
  (conv => whnf); refine brn (fun g => ?_) (fun g => ?_)
  · (conv => whnf)
    have : ¬ idErr o d e c = 0 := by simpa using g
    exact ⟨by simp [hasE, this], Mem.le_refl _⟩
  have hok : idErr o d e c = 0 := by simpa using g
  (conv => whnf); refine (of_ok h o d e c).mono ?_
  rintro v M1 (⟨x, hx, rfl, rfl⟩ | ⟨hn, r, rfl, hr, rfl⟩)
  · have hxe := h.ents _ (aget_mem hx)
    have hlen : x.more.length ≤ 4194304 := Nat.le_trans (gapsE_le (aget_mem hx)) hg
    (conv => whnf); refine on (hxe.self.c1 rfl) ?_
    (conv => whnf); refine brn (fun g1 => ?_) (fun g1 => ?_)
    · have g1' : c ≤ x.up := of_decide_eq_true g1
      repeat' ((conv => whnf); first | refine ⟨?_, True.intro⟩ | refine brn_t rfl ?_ | refine brn_f rfl ?_ | refine ob rfl ?_ | refine ob (by decide) ?_ | refine grow_same (Mem.le_refl _) ?_ | refine ob (Mem.le_refl _) ?_ | refine ⟨_, Mem.le_refl _, ?_⟩ | fail)
      exact ⟨by simp [hasE, hok, upOf, hx, g1'], Mem.le_refl _⟩
    · have g1' : ¬ c ≤ x.up := of_decide_eq_false g1
      (conv => whnf); refine on (hxe.self.c1 rfl) ?_
      repeat' ((conv => whnf); first | refine ob rfl ?_ | refine grow_same (Mem.le_refl _) ?_ | refine ob (Mem.le_refl _) ?_ | refine ⟨?_, True.intro⟩ | fail)
      refine (contains_ok x.a x.more.length x.c c _ x.more hxe.more.src hlen).mono ?_
      rintro v _ ⟨rfl, rfl⟩
      (conv => whnf)
      exact ⟨by simp [hasE, hok, upOf, moreOf, hx, g1'], Mem.le_refl _⟩
  · have hle : M.le (M.setCells r T.seen_row [.int .i64 0, .slice none 0 0]) := Mem.le_setCells hr
    have hh := Mem.has_setCells (M := M) (b := r) (E := T.seen_row) (l := [.int .i64 0, .slice none 0 0])
    obtain ⟨M1, hM1⟩ : ∃ M1, M1 = M.setCells r T.seen_row [.int .i64 0, .slice none 0 0] := ⟨_, rfl⟩
    rw [← hM1] at hle hh ⊢
    have hc : 1 ≤ c := by unfold idErr at hok; split at hok <;> (try cases hok); omega
    (conv => whnf); refine on (hh.c1 rfl) ?_
    (conv => whnf); refine brn_f (by simp; omega) ?_
    (conv => whnf); refine on (hh.c1 rfl) ?_
    repeat' ((conv => whnf); first | refine ob rfl ?_ | refine grow_same (Mem.le_refl _) ?_ | refine ob (Mem.le_refl _) ?_ | refine ⟨?_, True.intro⟩ | fail)
    refine (contains_ok none 0 0 c M1 [] (SrcOk.nil M1 1) (by omega)).mono ?_
    rintro v _ ⟨rfl, rfl⟩
    (conv => whnf)
    have hlt : ¬ c ≤ 0 := by omega
    exact ⟨by simp [hasE, hok, upOf, moreOf, hn, hlt], hle⟩
theorem Gaps_ok (h : SetAt M p b gaps es) (hg : gapsE es ≤ 4611686018427387904) : CallsM Tryz.prog F.seen_Set_Gaps [ptr p] M fun v M' => v = .int .i64 (gapsE es) ∧ M.le M' := by
  refine fo_seen_Set_Gaps (by simp) ?_
  (conv => whnf); refine brn_t rfl ?_
  (conv => whnf); refine on (h.self.c1 rfl) ?_
  (conv => whnf)
  refine h.map.range fun q bi hbi hI => ?_
  replace hbi : M bi = none := hbi
  (conv => whnf)
  refine loopF (σ := Mem × Nat × List ((Int × Int) × Ent)) [3] (fun x => [(3, .int .i64 x.2.1)]) (fun _ => []) (fun x => x.1)
    (fun | ⟨M1, n, todo⟩ => M.le M1 ∧ Iter keyV entV M1 bi b es todo ∧ n + gapsE todo = gapsE es) (fun x => x.2.2.length) ⟨_, 0, es⟩
    ⟨Mem.le_upd hbi, hI, by omega⟩ ⟨(by repeat' first | exact True.intro | refine ⟨rfl, ?_⟩), (by repeat' first | exact True.intro | refine ⟨rfl, ?_⟩), Mem.le_refl _, rfl⟩ ?_
  rintro ⟨M1, n, todo⟩ ⟨hle, hI1, hsum⟩
  (conv => whnf)
  refine hI1.next (fun h0 => ?_) (fun i k todo' o' hperm hI2 hent => ?_)
  · subst h0
    repeat' ((conv => whnf); first | refine ⟨?_, True.intro⟩ | refine brn_t rfl ?_ | refine brn_f rfl ?_ | refine ob rfl ?_ | refine ob (by decide) ?_ | refine grow_same (Mem.le_refl _) ?_ | refine ob (Mem.le_refl _) ?_ | refine ⟨_, Mem.le_refl _, ?_⟩ | fail)
    refine ⟨?_, hle⟩
    have : gapsE [] = 0 := rfl
    congr 1
    dsimp only
    omega
  · have hle2 : M.le (M1.upd bi o') := fun y o hb => by
      rw [Mem.upd_ne _ _ (fun e => by subst e; rw [hbi] at hb; cases hb)]; exact hle _ _ hb
    obtain ⟨M2, hM2⟩ : ∃ M2, M2 = M1.upd bi o' := ⟨_, rfl⟩
    rw [← hM2] at hI2 hent hle2
    have hmem : (i, k) ∈ es := hI1.todo_sub _ (hperm.mem_iff.2 (by simp))
    have hke := (h.le hle2).ents _ hmem
    have hs := gapsE_perm hperm
    simp only [gapsE, List.map_cons, List.sum_cons] at hs
    have hsum' : n + k.more.length + gapsE todo' = gapsE es := by simp only [gapsE] at hsum ⊢; omega
    (conv => whnf)
    erw [← hM2]
    repeat' ((conv => whnf); first | refine ⟨?_, True.intro⟩ | refine brn_t rfl ?_ | refine brn_f rfl ?_ | refine ob rfl ?_ | refine ob (by decide) ?_ | refine grow_same (Mem.le_refl _) ?_ | refine ob (Mem.le_refl _) ?_ | refine ⟨_, Mem.le_refl _, ?_⟩ | fail)
    refine on hent ?_
    (conv => whnf); refine on (hke.self.c1 rfl) ?_
    (conv => whnf); refine ob (inR_i64 (by dsimp only; omega)) ?_
    (conv => whnf)
    refine ⟨⟨M2, n + k.more.length, todo'⟩, ⟨hle2, hI2, hsum'⟩, by have := hperm.length_eq; simp at this ⊢; omega, ⟨(by repeat' first | exact True.intro | refine ⟨rfl, ?_⟩), (by repeat' first | exact True.intro | refine ⟨rfl, ?_⟩), Mem.le_refl _, rfl⟩⟩
def mayE (gaps : Int) (es : List ((Int × Int) × Ent)) (o d e c : Int) : Int :=
  if idErr o d e c ≠ 0 then idErr o d e c else if hasE es o d e c then 5 else if c ≠ upOf es (o, e) + 1 ∧ gaps ≤ gapsE es then 6 else 0
theorem upOf_range (hgd : GoodE es) (k : Int × Int) : 0 ≤ upOf es k ∧ upOf es k ≤ 65535 := by
  unfold upOf
  cases hx : aget es k with
  | none => dsimp only; omega
  | some x => exact hgd _ (aget_mem hx)
theorem May_ok (h : SetAt M p b gaps es) (hg : gapsE es ≤ 4194304) (hgd : GoodE es) (o d e c : Int) : CallsM Tryz.prog F.seen_Set_May [ptr p, .agg #[.int .i64 o, .int .i64 d, .int .i64 e, .int .i64 c]] M fun v M' => v = .int .i64 (mayE gaps es o d e c) ∧ M.le M' := by
  refine fo_seen_Set_May (by simp) ?_
  (conv => whnf); refine brn_f rfl ?_
  (conv => whnf); refine (check_ok o d e c M).mono ?_
  rintro v _ ⟨rfl, rfl⟩
  (conv => whnf); refine brn (fun g => ?_) (fun g => ?_)
  · (conv => whnf)
    have : ¬ idErr o d e c = 0 := by simpa using g
    exact ⟨by simp [mayE, this], Mem.le_refl _⟩
  have hok : idErr o d e c = 0 := by simpa using g
  (conv => whnf); refine (Has_ok h hg o d e c).mono ?_
  rintro v M1 ⟨rfl, hle1⟩
  have h1 := h.le hle1
  (conv => whnf); refine brn (fun g => ?_) (fun g => ?_)
  · (conv => whnf)
    exact ⟨by simp [mayE, hok, g], hle1⟩
  have hno : hasE es o d e c = false := g
  have hur := upOf_range hgd (o, e)
  have fin : ∀ (t : Bool), t = (decide (c ≠ upOf es (o, e) + 1) && decide (gaps ≤ gapsE es)) → mayE gaps es o d e c = if t then 6 else 0 := fun t ht => by
    subst ht
    simp only [mayE, hok, hno]
    by_cases e1 : c = upOf es (o, e) + 1 <;> by_cases e2 : gaps ≤ (gapsE es : Int) <;> simp [e1, e2]
  have key : CallsM Tryz.prog F.seen_Set_of [ptr p, .agg #[.int .i64 o, .int .i64 d, .int .i64 e, .int .i64 c]] M1 fun v M' => ∃ r, v = ptr r ∧ M1.le M' ∧ M'.row r 0 1 = some [.int .i64 (upOf es (o, e))] := (of_ok h1 o d e c).mono fun v M' hv => by
    rcases hv with ⟨x, hx, rfl, rfl⟩ | ⟨hn, r, rfl, hr, rfl⟩
    · refine ⟨x.r, rfl, Mem.le_refl _, ?_⟩
      have := (h1.ents _ (aget_mem hx)).self.c1 (o := 0) rfl
      simpa [upOf, hx] using this
    · refine ⟨r, rfl, Mem.le_setCells hr, ?_⟩
      have := (Mem.has_setCells (M := M1) (b := r) (E := T.seen_row) (l := [.int .i64 0, .slice none 0 0])).c1 (o := 0) rfl
      simpa [upOf, hn] using this
  (conv => whnf); refine ⟨M1, Mem.le_refl _, ?_⟩
  repeat' ((conv => whnf); first | refine ob rfl ?_ | refine grow_same (Mem.le_refl _) ?_ | refine ob (Mem.le_refl _) ?_ | refine ⟨?_, True.intro⟩ | fail)
  refine key.mono ?_
  rintro v M2 ⟨r, rfl, hle2, hrow⟩
  have hself2 := (h1.le hle2).self
  (conv => whnf); refine ob rfl ?_
  (conv => whnf); refine growX M2 hle2 (Mem.le_refl _) ?_
  (conv => whnf); refine on hrow ?_
  (conv => whnf); refine ob (inR_i64 (by omega)) ?_
  (conv => whnf); refine brn (fun g1 => ?_) (fun g1 => ?_)
  · (conv => whnf); refine on (hself2.c1 rfl) ?_
    repeat' ((conv => whnf); first | refine ob rfl ?_ | refine grow_same (Mem.le_refl _) ?_ | refine ob (Mem.le_refl _) ?_ | refine ⟨?_, True.intro⟩ | fail)
    refine (Gaps_ok (h1.le hle2) (by omega)).mono ?_
    rintro v M3 ⟨rfl, hle3⟩
    repeat' ((conv => whnf); first | refine ob rfl ?_ | refine grow_same hle3 ?_ | refine ob hle3 ?_ | refine ⟨?_, True.intro⟩ | fail)
    refine brn (fun g2 => ?_) (fun g2 => ?_)
    · have e := fin true (by rw [Bool.not_eq_true', decide_eq_false_iff_not] at g1; simp [g1, of_decide_eq_true g2])
      (conv => whnf)
      exact ⟨by rw [e]; rfl, Mem.le_trans hle1 (Mem.le_trans hle2 hle3)⟩
    · have e := fin false (by simp [of_decide_eq_false g2])
      (conv => whnf)
      exact ⟨by rw [e]; rfl, Mem.le_trans hle1 (Mem.le_trans hle2 hle3)⟩
  · have e := fin false (by simp at g1; simp [g1])
    repeat' ((conv => whnf); first | refine ob rfl ?_ | refine grow_same (Mem.le_refl _) ?_ | refine ob (Mem.le_refl _) ?_ | refine ⟨?_, True.intro⟩ | fail)
    (conv => whnf)
    exact ⟨by rw [e]; rfl, Mem.le_trans hle1 hle2⟩
end Go.Proofs.YtlocjjponfbhmaaGreat

/- The set of what was seen: an id is added. -/
namespace Go.Proofs.YtlocjjponfbhmaaGreat
open Go Go.Vm
attribute [local irreducible] Brn Ob Grow CallsM inR LoopVC Mem.row Mem.cells Mem.setCells Mem.upd Own AppVC SrcVC StrVC NextVC New SrcOk subA NewSl Mem.textAt Mem.mapAt Mem.iterAt entryOf kfind Wr NewEls Elems
set_option maxRecDepth 10000
variable {M : Mem}
theorem isNaN_ok (x : Int) : CallsM Tryz.prog F.cmp_isNaN_int [.int .i64 x] M fun v M' => v = .bool false ∧ M = M' := by
  refine fo_cmp_isNaN_int (by simp) ?_
  repeat' ((conv => whnf); first | refine ⟨?_, True.intro⟩ | refine brn_t rfl ?_ | refine brn_f rfl ?_ | refine ob rfl ?_ | refine ob (by decide) ?_ | refine grow_same (Mem.le_refl _) ?_ | refine ob (Mem.le_refl _) ?_ | refine ⟨_, Mem.le_refl _, ?_⟩ | fail)
  exact ⟨by simp, rfl⟩
theorem nan_ok (x : Int) : CallsM Tryz.prog F.slices_isNaN_int [.int .i64 x] M fun v M' => v = .bool false ∧ M = M' := by
  refine fo_slices_isNaN_int (by simp) ?_
  repeat' ((conv => whnf); first | refine ⟨?_, True.intro⟩ | refine brn_t rfl ?_ | refine brn_f rfl ?_ | refine ob rfl ?_ | refine ob (by decide) ?_ | refine grow_same (Mem.le_refl _) ?_ | refine ob (Mem.le_refl _) ?_ | refine ⟨_, Mem.le_refl _, ?_⟩ | fail)
  exact ⟨by simp, rfl⟩
theorem less_ok (x y : Int) : CallsM Tryz.prog F.cmp_Less_int [.int .i64 x, .int .i64 y] M fun v M' => v = .bool (decide (x < y)) ∧ M = M' := by
  refine fo_cmp_Less_int (by simp) ?_
  (conv => whnf); refine (isNaN_ok x).mono ?_
  rintro v _ ⟨rfl, rfl⟩
  repeat' ((conv => whnf); first | refine ⟨?_, True.intro⟩ | refine brn_t rfl ?_ | refine brn_f rfl ?_ | refine ob rfl ?_ | refine ob (by decide) ?_ | refine grow_same (Mem.le_refl _) ?_ | refine ob (Mem.le_refl _) ?_ | refine ⟨_, Mem.le_refl _, ?_⟩ | fail)
  exact ⟨rfl, rfl⟩
theorem bsearch_ok {a : Option Addr} {n c : Nat} {l : List Int} (hs : SrcOk M 1 a n (l.map intV)) (hn : n ≤ 4194304) (hl : l.Pairwise (· < ·)) (x : Int) :
    CallsM Tryz.prog F.slices_BinarySearch_int_int [.slice a n c, .int .i64 x] M fun v M' => ∃ (i : Nat) (f : Bool), v = .tuple #[.int .i64 i, .bool f] ∧ i ≤ n ∧ (∀ k y, k < i → l[k]? = some y → y < x) ∧ (∀ k y, i ≤ k → l[k]? = some y → x ≤ y) ∧ M = M' := by
  refine fo_slices_BinarySearch_int_int (by simp) ?_
  have hll := hs.maplen
  have hmono : ∀ k k' y y', k ≤ k' → l[k]? = some y → l[k']? = some y' → y ≤ y' := fun k k' y y' hk h1 h2 => by
    rcases Nat.lt_or_ge k k' with h | h
    · have hk' := (List.getElem?_eq_some_iff.1 h2).1
      have := List.pairwise_iff_getElem.1 hl k k' (by omega) hk' h
      rw [List.getElem?_eq_getElem (by omega)] at h1
      rw [List.getElem?_eq_getElem hk'] at h2
      cases h1; cases h2; omega
    · have : k = k' := Nat.le_antisymm hk h
      subst this; rw [h1] at h2; cases h2; omega
  (conv => whnf)
  refine loopQ (σ := Nat × Nat) [7, 8] (fun q => [(7, .int .i64 q.1), (8, .int .i64 q.2)]) (fun | ⟨i, j⟩ => i ≤ j ∧ j ≤ n ∧ (∀ k y, k < i → l[k]? = some y → y < x) ∧ (∀ k y, j ≤ k → l[k]? = some y → x ≤ y)) (fun q => q.2 - q.1) ⟨0, n⟩
    ⟨by omega, by omega, fun k y hk => by omega, fun k y hk hy => by rw [List.getElem?_eq_none (by omega)] at hy; cases hy⟩ ⟨(by repeat' first | exact True.intro | refine ⟨rfl, ?_⟩), (by repeat' first | exact True.intro | refine ⟨rfl, ?_⟩), Mem.le_refl _, rfl⟩ ?_
  rintro ⟨i, j⟩ ⟨hij, hj, h1, h2⟩
  (conv => whnf); refine brn (fun g => ?_) (fun g => ?_)
  · have hlt : i < j := by have := of_decide_eq_true g; dsimp only at this; omega
    (conv => whnf); refine ob (inR_i64 (by first | omega | (dsimp only; omega))) ?_
    (conv => whnf); refine ob (by decide) ?_
    (conv => whnf)
    have hmid : IntKind.i64.wrap ((IntKind.u64.wrap ((i : Int) + j)).fdiv (2 ^ min (Int.toNat 1) IntKind.u64.bits)) = (((i + j) / 2 : Nat) : Int) := by
      have e1 : IntKind.u64.wrap ((i : Int) + j) = ((i + j : Nat) : Int) := by rw [IntKind.wrap_u64]; omega
      have e2 : (2 : Int) ^ min (Int.toNat 1) IntKind.u64.bits = 2 := by decide
      have e3 : ((i + j : Nat) : Int).fdiv 2 = (((i + j) / 2 : Nat) : Int) := by rw [Int.fdiv_eq_ediv_of_nonneg _ (by decide)]; omega
      rw [e1, e2, e3, IntKind.wrap_i64]
      omega
    rw [hmid]
    obtain ⟨m, hm⟩ : ∃ m, m = (i + j) / 2 := ⟨_, rfl⟩
    rw [← hm]
    obtain ⟨hlm, b, o, rfl, hrow⟩ := hs.at (i := m) (by omega)
    have hgm : l[m]? = some l[m] := List.getElem?_eq_getElem hlm
    refine ob (by omega) ?_
    (conv => whnf); refine on hrow ?_
    (conv => whnf); refine (less_ok _ _).mono ?_
    rintro v _ ⟨rfl, rfl⟩
    (conv => whnf); refine brn (fun g1 => ?_) (fun g1 => ?_)
    · have hx : l[m] < x := of_decide_eq_true g1
      (conv => whnf); refine ob (inR_i64 (by omega)) ?_
      (conv => whnf)
      refine ⟨⟨m + 1, j⟩, ⟨by omega, by omega, fun k y hk hy => ?_, h2⟩, by dsimp only; omega, ⟨(by repeat' first | exact True.intro | refine ⟨rfl, ?_⟩), (by repeat' first | exact True.intro | refine ⟨rfl, ?_⟩), Mem.le_refl _, rfl⟩⟩
      have := hmono k m y l[m] (by omega) hy hgm
      omega
    · have hx : ¬ l[m] < x := of_decide_eq_false g1
      (conv => whnf)
      refine ⟨⟨i, m⟩, ⟨by omega, by omega, h1, fun k y hk hy => ?_⟩, by dsimp only; omega, ⟨(by repeat' first | exact True.intro | refine ⟨rfl, ?_⟩), (by repeat' first | exact True.intro | refine ⟨rfl, ?_⟩), Mem.le_refl _, rfl⟩⟩
      have := hmono m k l[m] y hk hgm hy
      omega
  · have he : i = j := by have := of_decide_eq_false g; dsimp only at this; omega
    subst he
    (conv => whnf); refine brn (fun g => ?_) (fun g => ?_)
    · have hlt : i < n := by have := of_decide_eq_true g; dsimp only at this; omega
      obtain ⟨_, b, o, rfl, hrow⟩ := hs.at (i := i) hlt
      (conv => whnf); refine ob (by first | omega | (dsimp only; omega)) ?_
      (conv => whnf); refine on hrow ?_
      (conv => whnf); refine brn (fun g1 => ?_) (fun g1 => ?_)
      · repeat' ((conv => whnf); first | refine ⟨?_, True.intro⟩ | refine brn_t rfl ?_ | refine brn_f rfl ?_ | refine ob rfl ?_ | refine ob (by decide) ?_ | refine grow_same (Mem.le_refl _) ?_ | refine ob (Mem.le_refl _) ?_ | refine ⟨_, Mem.le_refl _, ?_⟩ | fail)
        exact ⟨i, _, rfl, hj, h1, h2, rfl⟩
      · (conv => whnf); refine ob (by first | omega | (dsimp only; omega)) ?_
        (conv => whnf); refine on hrow ?_
        (conv => whnf); refine (nan_ok _).mono ?_
        rintro v _ ⟨rfl, rfl⟩
        repeat' ((conv => whnf); first | refine ⟨?_, True.intro⟩ | refine brn_t rfl ?_ | refine brn_f rfl ?_ | refine ob rfl ?_ | refine ob (by decide) ?_ | refine grow_same (Mem.le_refl _) ?_ | refine ob (Mem.le_refl _) ?_ | refine ⟨_, Mem.le_refl _, ?_⟩ | fail)
        exact ⟨i, _, rfl, hj, h1, h2, rfl⟩
    · repeat' ((conv => whnf); first | refine ⟨?_, True.intro⟩ | refine brn_t rfl ?_ | refine brn_f rfl ?_ | refine ob rfl ?_ | refine ob (by decide) ?_ | refine grow_same (Mem.le_refl _) ?_ | refine ob (Mem.le_refl _) ?_ | refine ⟨_, Mem.le_refl _, ?_⟩ | fail)
      exact ⟨i, _, rfl, hj, h1, h2, rfl⟩
end Go.Proofs.YtlocjjponfbhmaaGreat

/- Maps' values, told otherwise; lists of keys and values. -/
namespace Go.Vm
/-- a map's values may be told otherwise, if they lie the same -/
theorem MapAt.relabel {κ α : Type} [DecidableEq κ] {kv : κ → Value} {vv : α → Value} {M : Mem} {b : Nat} {m : List (κ × α)} (h : MapAt kv vv M b m) (f : κ × α → α) (hf : ∀ q ∈ m, vv (f q) = vv q.2) : MapAt kv vv M b (m.map fun q => (q.1, f q)) := by
  obtain ⟨l, c, h1, h2, rfl⟩ := h
  refine ⟨l.map fun q => (q.1, q.2.1, f q.2), c, ?_, ⟨?_, ?_, ?_⟩, ?_⟩
  · rw [h1]
    unfold mapObj
    congr 2
    rw [List.map_map]
    congr 1
    apply List.map_congr_left
    intro q hq
    simp only [Function.comp_apply, entOf, hf q.2 (List.mem_map.2 ⟨q, hq, rfl⟩)]
  · have := h2.keys
    simpa [List.map_map, Function.comp_def] using this
  · intro q hq
    obtain ⟨q', hq', rfl⟩ := List.mem_map.1 hq
    exact h2.old q' hq'
  · have := h2.apart
    simpa [List.map_map, Function.comp_def] using this
  · simp [List.map_map, Function.comp_def]
section
variable {κ α : Type} [DecidableEq κ]
theorem aset_self {l : List (κ × α)} {k : κ} {x : α} (h : aget l k = some x) : aset l k x = l := by
  induction l with
  | nil => rfl
  | cons q r ih =>
    obtain ⟨a, y⟩ := q
    simp only [aget] at h
    simp only [aset]
    split at h
    · rename_i e; cases h; rw [if_pos e, e]
    · rename_i e; rw [if_neg e, ih h]
theorem aset_aset (l : List (κ × α)) (k : κ) (x y : α) : aset (aset l k x) k y = aset l k y := by
  induction l with
  | nil => rfl
  | cons q r ih =>
    obtain ⟨a, z⟩ := q
    simp only [aset]
    split
    · simp [aset]
    · rename_i e; simp only [aset, if_neg e, ih]
theorem aset_append {l : List (κ × α)} {k : κ} {x y : α} (h : aget l k = none) : aset (l ++ [(k, x)]) k y = l ++ [(k, y)] := by
  induction l with
  | nil => simp [aset]
  | cons q r ih =>
    obtain ⟨a, z⟩ := q
    simp only [aget] at h
    split at h
    · cases h
    · rename_i e; simp only [List.cons_append, aset, if_neg e, ih h]
theorem aput_aput (l : List (κ × α)) (k : κ) (x y : α) : aput (aput l k x) k y = aput l k y := by
  cases h : aget l k with
  | some z =>
    have e1 : ∀ w, aput l k w = aset l k w := fun w => by simp [aput, h]
    have e2 : aget (aset l k x) k = some x := by rw [aget_aset]; simp [h]
    rw [e1, e1]
    simp only [aput, e2, aset_aset]
  | none =>
    have e1 : ∀ w, aput l k w = l ++ [(k, w)] := fun w => by simp [aput, h]
    have e2 : aget (l ++ [(k, x)]) k = some x := by rw [aget_append, h]; simp [aget]
    rw [e1, e1]
    simp only [aput, e2, aset_append h]
/-- what a put list has -/
theorem aset_split {l : List (κ × α)} {k : κ} {x : α} (hn : (l.map (·.1)).Nodup) (h : aget l k = some x) (y : α) : ∃ u v, l = u ++ (k, x) :: v ∧ aset l k y = u ++ (k, y) :: v ∧ (∀ q ∈ u, q.1 ≠ k) ∧ ∀ q ∈ v, q.1 ≠ k := by
  induction l with
  | nil => cases h
  | cons q r ih =>
    obtain ⟨a, z⟩ := q
    simp only [List.map_cons, List.nodup_cons] at hn
    simp only [aget] at h
    split at h
    · rename_i e; subst e; cases h
      exact ⟨[], r, rfl, by simp [aset], by simp, fun q hq e => hn.1 (e ▸ List.mem_map.2 ⟨q, hq, rfl⟩)⟩
    · rename_i e
      obtain ⟨u, v, h1, h2, h3, h4⟩ := ih hn.2 h
      refine ⟨(a, z) :: u, v, by rw [h1]; rfl, by simp only [aset, if_neg e, h2]; rfl, fun q hq => ?_, h4⟩
      rcases List.mem_cons.1 hq with rfl | hq
      · exact e
      · exact h3 q hq
end
end Go.Vm

/- The set of what was seen: an entry turns, or is new. -/
namespace Go.Proofs.YtlocjjponfbhmaaGreat
open Go Go.Vm
attribute [local irreducible] Brn Ob Grow CallsM inR LoopVC Mem.row Mem.cells Mem.setCells Mem.upd Own AppVC SrcVC StrVC NextVC New SrcOk subA NewSl Mem.textAt Mem.mapAt Mem.iterAt entryOf kfind Wr NewEls Elems
set_option maxRecDepth 10000
variable {M : Mem} {p b : Nat} {gaps : Int} {es : List ((Int × Int) × Ent)}
/-- an entry's blocks hold something -/
theorem EntAt.some {x : Ent} (h : EntAt M x) {y : Nat} (hy : x.own y) : M y ≠ none := by
  rcases hy with rfl | ⟨q, hq, rfl⟩
  · have := h.self; unfold Mem.has at this; rw [this]; simp
  · obtain ⟨cs, hh⟩ := h.more.block hq
    unfold Mem.has at hh; rw [hh]; simp
theorem EntAt.noset {x : Ent} (h : EntAt M x) {p : Nat} {l : List Value} (hp : M.has p T.seen_Set l) : ¬ x.own p := by
  rintro (e | ⟨q, hq, e⟩)
  · subst e
    exact absurd (h.self.inj hp).1 (by decide)
  · obtain ⟨cs, hh⟩ := h.more.block hq
    subst e
    exact absurd (hh.inj hp).1 (by decide)
/-- an entry turns -/
theorem SetAt.turn {M' : Mem} (h : SetAt M p b gaps es) {k : Int × Int} {x x' : Ent} (hx : aget es k = some x) (hk : Mem.keep x.own M M') (he : EntAt M' x') (hr : x'.r = x.r) (hown : ∀ y, x'.own y → x.own y ∨ M y = none) : SetAt M' p b gaps (aput es k x') := by
  have hxe := h.ents _ (aget_mem hx)
  have hpa : aput es k x' = aset es k x' := by simp [aput, hx]
  obtain ⟨u, v, h1, h2, h3, h4⟩ := aset_split h.map.nodup hx x'
  have hap := h.apart
  rw [h1] at hap
  have hap' := List.pairwise_append.1 hap
  have hmem : ∀ q, q ∈ u ∨ q ∈ v → q ∈ es := fun q hq => by rw [h1]; rcases hq with hq | hq <;> simp [hq]
  have hfar : ∀ q, q ∈ u ∨ q ∈ v → ∀ y, q.2.own y → ¬ x.own y := fun q hq y hy hxy => by
    rcases hq with hq | hq
    · exact hap'.2.2 q hq (k, x) (by simp) y hy hxy
    · exact (List.pairwise_cons.1 hap'.2.1).1 q hq y hxy hy
  have hfar' : ∀ q, q ∈ u ∨ q ∈ v → ∀ y, q.2.own y → ¬ x'.own y := fun q hq y hy hxy => by
    rcases hown y hxy with h5 | h5
    · exact hfar q hq y hy h5
    · exact (h.ents q (hmem q hq)).some hy h5
  rw [hpa, h2]
  refine ⟨hk _ _ (hxe.noset h.self) h.self, ?_, fun q hq => ?_, ?_⟩
  · have hm := h.map.relabel (fun q => if q.1 = k then x' else q.2) (fun q hq => by
      split
      · rename_i e
        have : aget es k = some q.2 := aget_of_mem h.map.nodup (by obtain ⟨q1, q2⟩ := q; simp only at e; subst e; exact hq)
        rw [hx] at this
        rw [show q.2 = x from (Option.some.inj this).symm]
        simp [entV, hr]
      · rfl)
    have e : (es.map fun q => (q.1, if q.1 = k then x' else q.2)) = u ++ (k, x') :: v := by
      rw [h1, List.map_append, List.map_cons]
      congr 1
      · rw [List.map_congr_left (g := id), List.map_id]
        intro q hq; simp [h3 q hq]
      · congr 1
        · simp
        · rw [List.map_congr_left (g := id), List.map_id]
          intro q hq; simp [h4 q hq]
    rw [e] at hm
    exact hm.mono fun o ho => hk _ o (hxe.nomap h.map) ho
  · rcases List.mem_append.1 hq with hq | hq
    · exact (h.ents q (hmem q (.inl hq))).mono fun y o hy ho => hk y o (hfar q (.inl hq) y hy) ho
    · rcases List.mem_cons.1 hq with rfl | hq
      · exact he
      · exact (h.ents q (hmem q (.inr hq))).mono fun y o hy ho => hk y o (hfar q (.inr hq) y hy) ho
  · rw [List.pairwise_append]
    refine ⟨hap'.1, List.pairwise_cons.2 ⟨fun q hq y hy hqy => hfar' q (.inr hq) y hqy hy, (List.pairwise_cons.1 hap'.2.1).2⟩, fun q hq q' hq' => ?_⟩
    rcases List.mem_cons.1 hq' with rfl | hq'
    · exact fun y hy hxy => hfar' q (.inl hq) y hy hxy
    · exact hap'.2.2 q hq q' (List.mem_cons_of_mem _ hq')
/-- a new entry -/
theorem SetAt.more {M' : Mem} (h : SetAt M p b gaps es) {k : Int × Int} {x : Ent} (hx : aget es k = none) (hk : Mem.keep (fun y => y = b) M M') (hm : MapAt keyV entV M' b (aput es k x)) (he : EntAt M' x) (hown : ∀ y, x.own y → M y = none) : SetAt M' p b gaps (aput es k x) := by
  have hpa : aput es k x = es ++ [(k, x)] := by simp [aput, hx]
  refine ⟨hk _ _ (h.map.nb h.self) h.self, hm, fun q hq => ?_, ?_⟩
  · rw [hpa] at hq
    rcases List.mem_append.1 hq with hq | hq
    · exact (h.ents q hq).mono fun y o hy ho => hk y o (fun e => by subst e; exact (h.ents q hq).nomap h.map hy) ho
    · simp at hq; subst hq; exact he
  · rw [hpa, List.pairwise_append]
    refine ⟨h.apart, by simp, fun q hq q' hq' => ?_⟩
    simp at hq'; subst hq'
    exact fun y hy hxy => (h.ents q hq).some hy (hown y hxy)
end Go.Proofs.YtlocjjponfbhmaaGreat

