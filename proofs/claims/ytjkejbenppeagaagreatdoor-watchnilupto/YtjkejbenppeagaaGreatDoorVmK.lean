/- Keys of maps. -/
import Derived.Test.YtjkejbenppeagaaGreatDoorVmC
namespace Go.Vm
open Go.RowKit

theorem sameCs_eq : ∀ {xs ys : List Value}, sameCs xs ys = some true → xs = ys
  | [], [], _ => rfl
  | x :: r, y :: r', h => by
    cases x <;> cases y <;> simp only [sameCs] at h <;> try cases h
    split at h
    · rename_i hk
      split at h
      · rename_i hab
        rw [hk, hab, sameCs_eq h]
      · cases h
    · cases h
  | [], _ :: _, h => by simp [sameCs] at h
  | x :: _, [], h => by cases x <;> simp [sameCs] at h
theorem sameV_eq {a b : Value} (h : sameV a b = some true) : a = b := by
  cases a <;> cases b <;> simp only [sameV] at h <;> try cases h
  · split at h
    · rename_i hk; simp at h; rw [hk, h]
    · cases h
  · simp at h; rw [h]
  · rename_i xs ys
    have := sameCs_eq h
    rw [Array.toList_inj.1 this]
/-- a key as its kind has it -/
def OkKey : KK → Value → Prop
  | .int, v => ∃ q n, v = .int q n
  | .str, v => ∃ b, v = .string b
  | .agg n, v => ∃ l : List (IntKind × Int), l.length = n ∧ v = .agg (l.map fun p => Value.int p.1 p.2).toArray

theorem keyCs_sound {β : List Nat} : ∀ {cs : List SC} {us : List Value} {k : List Value → Prop}, keyCs cs k → vals β cs = some us → k us ∧ ∃ l : List (IntKind × Int), us = l.map fun p => Value.int p.1 p.2
  | [], us, k, h, hv => by simp [vals] at hv; subst hv; exact ⟨h, [], rfl⟩
  | x :: r, us, k, h, hv => by
    unfold keyCs at h
    split at h
    · rename_i e; cases e
    · rename_i q n r' e
      cases e
      simp only [vals, SC.val] at hv
      cases hr : vals β r with
      | none => simp [hr] at hv
      | some vs =>
        simp [hr] at hv
        subst hv
        obtain ⟨h1, l, rfl⟩ := keyCs_sound h hr
        exact ⟨h1, (q, n) :: l, rfl⟩
    · exact h.elim
theorem keyV_sound {β : List Nat} {kk : KK} {sv : SV} {v : Value} {k : Value → Prop} (h : keyV kk sv k) (hv : sv.val β = some v) : k v ∧ OkKey kk v := by
  unfold keyV at h
  split at h
  · simp [SV.val, SC.val] at hv; subst hv; exact ⟨h, _, _, rfl⟩
  · simp [SV.val, SC.val] at hv; subst hv; exact ⟨h, _, rfl⟩
  · rename_i n cs
    unfold lenN at h
    split at h
    · have hl := Nat.eq_of_beq_eq_true ‹_›
      simp [SV.val] at hv
      obtain ⟨vs, hvs, rfl⟩ := hv
      obtain ⟨h1, l, rfl⟩ := keyCs_sound h hvs
      have := vals_length hvs
      exact ⟨h1, l, by simp at this; omega, rfl⟩
    · exact h.elim
  · exact h.elim

section
variable {P : Program}
theorem run_part_int {T : TypeId} {q : IntKind} (hu : P.underlying T = some (.int q)) (xs : Array Value) (i : Nat) {v : Value} (h : xs[i]? = some v) (w : World) : (part T xs i).run P w = .ok v w := by
  have h1 : (isAgg T).run P w = .ok false w := by
    simp [isAgg, run_underlying hu]
  simp only [part, Sem.run_bind, h1, Result.andThen_ok, Bool.false_eq_true, if_false, h]
  rfl
theorem sameCs_cons {q q' : IntKind} {a b : Int} {r r' : List Value} {t : Bool} (h : sameCs (.int q a :: r) (.int q' b :: r') = some t) : q = q' ∧ (a = b → sameCs r r' = some t) ∧ (a ≠ b → t = false) := by
  simp only [sameCs] at h
  split at h
  · refine ⟨‹_›, fun e => ?_, fun e => ?_⟩
    · rw [if_pos e] at h; exact h
    · rw [if_neg e] at h; simpa using h.symm
  · cases h
/-- fields of numbers, compared -/
theorem eqFields_run (d : Nat) (w : World) {xs ys : List Value} : ∀ (us vs : List Value) (i : Nat) (fs : List Field) (t : Bool), sameCs us vs = some t → us = xs.drop i → vs = ys.drop i →
    intFields P i fs = true → fs.length = us.length → (Op.eqFields (d + 1) xs.toArray ys.toArray fs).run P w = .ok t w
  | [], [], i, fs, t, h, _, _, _, hl => by
    simp [sameCs] at h; subst h
    have : fs = [] := by simpa using hl
    subst this
    simp [Op.eqFields]
  | [], _ :: _, _, _, _, h, _, _, _, _ => by simp [sameCs] at h
  | x :: _, [], _, _, _, h, _, _, _, _ => by cases x <;> simp [sameCs] at h
  | x :: us, y :: vs, i, fs, t, h, e1, e2, hi, hl => by
    obtain ⟨q, a, rfl⟩ : ∃ q a, x = .int q a := by cases x <;> cases y <;> simp [sameCs] at h <;> exact ⟨_, _, rfl⟩
    obtain ⟨q', b, rfl⟩ : ∃ q a, y = .int q a := by cases y <;> simp [sameCs] at h <;> exact ⟨_, _, rfl⟩
    obtain ⟨rfl, h1, h2⟩ := sameCs_cons h
    cases fs with
    | nil => simp at hl
    | cons f fs =>
      simp only [intFields, Bool.and_eq_true, bne_iff_ne, ne_eq, beq_iff_eq] at hi
      obtain ⟨⟨⟨hn, ho⟩, hint⟩, hi⟩ := hi
      have g1 : xs[i]? = some (.int q a) := by
        have := congrArg (·[0]?) e1
        simp at this
        exact this.symm
      have g2 : ys[i]? = some (.int q b) := by
        have := congrArg (·[0]?) e2
        simp at this
        exact this.symm
      have g3 : us = xs.drop (i + 1) := by
        have := congrArg (·.drop 1) e1
        simpa using this
      have g4 : vs = ys.drop (i + 1) := by
        have := congrArg (·.drop 1) e2
        simpa using this
      split at hint
      · rename_i q' hq'
        have p1 := run_part_int hq' xs.toArray i (by simpa using g1) w
        have p2 := run_part_int hq' ys.toArray i (by simpa using g2) w
        have p3 := run_equalIn_int w d f.type q q' a b hq'
        simp only [Op.eqFields, hn, ne_eq, not_false_eq_true, if_true, ho, Sem.run_bind, p1, p2, p3, Result.andThen_ok]
        by_cases hab : a = b
        · subst hab
          simp [eqFields_run d w us vs (i + 1) fs t (h1 rfl) g3 g4 hi (by simpa using hl)]
        · simp [hab, h2 hab]
      · cases hint
theorem eqItems_run (d : Nat) (w : World) {e : TypeId} {q0 : IntKind} (he : P.underlying e = some (.int q0)) {xs ys : List Value} : ∀ (us vs : List Value) (i : Nat) (t : Bool), sameCs us vs = some t → us = xs.drop i → vs = ys.drop i →
    (Op.eqItems (d + 1) e 1 xs.toArray ys.toArray (List.range' i us.length)).run P w = .ok t w
  | [], [], i, t, h, _, _ => by
    simp [sameCs] at h; subst h
    simp [Op.eqItems]
  | [], _ :: _, _, _, h, _, _ => by simp [sameCs] at h
  | x :: _, [], _, _, h, _, _ => by cases x <;> simp [sameCs] at h
  | x :: us, y :: vs, i, t, h, e1, e2 => by
    obtain ⟨q, a, rfl⟩ : ∃ q a, x = .int q a := by cases x <;> cases y <;> simp [sameCs] at h <;> exact ⟨_, _, rfl⟩
    obtain ⟨q', b, rfl⟩ : ∃ q a, y = .int q a := by cases y <;> simp [sameCs] at h <;> exact ⟨_, _, rfl⟩
    obtain ⟨rfl, h1, h2⟩ := sameCs_cons h
    have g1 : xs[i]? = some (.int q a) := by
      have := congrArg (·[0]?) e1
      simp at this
      exact this.symm
    have g2 : ys[i]? = some (.int q b) := by
      have := congrArg (·[0]?) e2
      simp at this
      exact this.symm
    have g3 : us = xs.drop (i + 1) := by
      have := congrArg (·.drop 1) e1
      simpa using this
    have g4 : vs = ys.drop (i + 1) := by
      have := congrArg (·.drop 1) e2
      simpa using this
    have p1 := run_part_int he xs.toArray i (by simpa using g1) w
    have p2 := run_part_int he ys.toArray i (by simpa using g2) w
    have p3 := run_equalIn_int w d e q q0 a b he
    simp only [List.length_cons, List.range'_succ, Op.eqItems, Nat.mul_one, Sem.run_bind, p1, p2, p3, Result.andThen_ok]
    by_cases hab : a = b
    · subst hab
      simp [eqItems_run d w he us vs (i + 1) t (h1 rfl) g3 g4]
    · simp [hab, h2 hab]
theorem sameCs_length : ∀ {xs ys : List Value}, sameCs xs ys = some true → xs.length = ys.length := fun h => by rw [sameCs_eq h]

/-- is one aggregate key the other? -/
theorem equal_agg {K : TypeId} {n : Nat} (hk : keyKind P K = some (.agg n)) {l : List (IntKind × Int)} (hl : l.length = n) {v : Value} {t : Bool} (h : sameV (.agg (l.map fun p => Value.int p.1 p.2).toArray) v = some t) (w : World) :
    (Op.equal K (.agg (l.map fun p => Value.int p.1 p.2).toArray) v).run P w = .ok t w := by
  obtain ⟨ys, rfl⟩ : ∃ ys, v = .agg ys := by cases v <;> simp [sameV] at h <;> exact ⟨_, rfl⟩
  simp only [sameV] at h
  unfold keyKind at hk
  split at hk
  · cases hk
  · cases hk
  · rename_i fs hu
    split at hk
    · rename_i hc
      simp only [Bool.and_eq_true, Bool.not_eq_true'] at hc
      simp at hk
      have hfo : P.fieldsOf K = fs := by simp [Program.fieldsOf, hu]
      have := run_equalIn_struct (P := P) w 9999 K (l.map fun p => Value.int p.1 p.2).toArray ys (by rw [hfo]; exact hu) hc.2
      rw [hfo] at this
      have h2 := eqFields_run (P := P) 9998 w (xs := l.map fun p => Value.int p.1 p.2) (ys := ys.toList) _ _ 0 fs.toList t h (by simp) (by simp) hc.1 (by simp; omega)
      rw [show ys.toList.toArray = ys from by simp] at h2
      rw [h2] at this
      exact this
    · cases hk
  · rename_i m e hu
    split at hk
    · rename_i q he hs
      simp at hk
      subst hk
      obtain ⟨i, hi, hsz⟩ : ∃ i, P.info? e = some i ∧ i.size = 1 := by
        unfold sizeOf' at hs
        cases hi : P.info? e with
        | none => simp [hi] at hs
        | some i => simp [hi] at hs; exact ⟨i, rfl, hs⟩
      have hco : P.cellsOf e = 1 := by simp [Program.cellsOf, hi, hsz]
      have := run_equalIn_array (P := P) w 9999 (l.map fun p => Value.int p.1 p.2).toArray ys hu hi
      rw [hco] at this
      have h2 := eqItems_run (P := P) 9998 w he (xs := l.map fun p => Value.int p.1 p.2) (ys := ys.toList) _ _ 0 t h (by simp) (by simp)
      rw [show ys.toList.toArray = ys from by simp] at h2
      simp only [List.length_map] at h2
      simp only [hl] at h2
      rw [← List.range_eq_range'] at h2
      rw [h2] at this
      exact this
    · cases hk
  · cases hk

theorem findAsking_run {K : TypeId} {key : Value} (heq : ∀ (v : Value) (t : Bool) (w : World), sameV key v = some t → (Op.equal K key v).run P w = .ok t w) :
    ∀ (es : List MapEntry) (i : Nat) (f : Option (Nat × Value)) (w : World), kfind key es i = some f → (Instr.findAsking K key es i).run P w = .ok f w
  | [], i, f, w, h => by simp [kfind] at h; subst h; simp [Instr.findAsking]
  | e :: es, i, f, w, h => by
    simp only [kfind] at h
    split at h
    · rename_i hs
      simp at h; subst h
      simp [Instr.findAsking, heq _ _ w hs]
    · rename_i hs
      simp [Instr.findAsking, heq _ _ w hs, findAsking_run heq es (i + 1) f w h]
    · cases h
theorem findNow_run {d : TypeDesc} {key : Value} (heq : ∀ v t, sameV key v = some t → Instr.sameNow d key v = some t) :
    ∀ (es : List MapEntry) (i : Nat) (f : Option (Nat × Value)), kfind key es i = some f → Instr.findNow d key es i = some f
  | [], i, f, h => by simp [kfind] at h; subst h; simp [Instr.findNow]
  | e :: es, i, f, h => by
    simp only [kfind] at h
    simp only [Instr.findNow]
    split at h
    · rename_i hs; rw [heq _ _ hs]; exact h
    · rename_i hs; rw [heq _ _ hs]; exact findNow_run heq es (i + 1) f h
    · cases h
theorem find_run {K : TypeId} {kk : KK} (hk : keyKind P K = some kk) {key : Value} (hok : OkKey kk key) {es : List MapEntry} {f : Option (Nat × Value)} (h : kfind key es 0 = some f) (w : World) :
    (Instr.findKey K key es).run P w = .ok f w := by
  cases kk with
  | int =>
    obtain ⟨q, n, rfl⟩ := hok
    have hu : ∃ q', P.underlying K = some (.int q') := by
      unfold keyKind at hk
      split at hk
      · exact ⟨_, ‹_›⟩
      · cases hk
      · split at hk <;> cases hk
      · split at hk <;> cases hk
      · cases hk
    obtain ⟨q', hu⟩ := hu
    refine MapKept.run_findKey hu (findNow_run (fun v t hv => ?_) es 0 f h)
    cases v <;> simp only [sameV] at hv <;> try cases hv
    split at hv
    · rename_i hq
      simp at hv
      simp only [Instr.sameNow, if_pos hq]
      rw [← hv]
      rename_i b
      by_cases hab : n = b <;> simp [hab]
    · cases hv
  | str =>
    obtain ⟨b, rfl⟩ := hok
    have hu : P.underlying K = some .string := by
      unfold keyKind at hk
      split at hk
      · cases hk
      · exact ‹P.underlying K = _›
      · split at hk <;> cases hk
      · split at hk <;> cases hk
      · cases hk
    refine MapKept.run_findKey hu (findNow_run (fun v t hv => ?_) es 0 f h)
    cases v <;> simp only [sameV] at hv <;> try cases hv
    rename_i b'
    simp only [Instr.sameNow]
    congr 1
    rw [beq_toListBytes]
    by_cases h : b = b'
    · subst h; simp
    · have : ¬ b.toList = b'.toList := fun e => h (by
        rw [ByteArray.toList_eq, ByteArray.toList_eq] at e
        obtain ⟨⟨x⟩⟩ := b
        obtain ⟨⟨y⟩⟩ := b'
        simp at e
        rw [e])
      simp [h, this]
  | agg n =>
    obtain ⟨l, hl, rfl⟩ := hok
    have hw : (match P.underlying K with | some (.array _ _) | some (.struct _) => true | _ => false) = true := by
      unfold keyKind at hk
      split at hk
      · cases hk
      · cases hk
      · rename_i fs hu; rw [hu]
      · rename_i m e hu; rw [hu]
      · cases hk
    rw [run_findKey_eq (P := P) w hw]
    exact findAsking_run (fun v t w hv => equal_agg hk hl hv w) es 0 f w h
theorem mem_zip_self {α : Type} {x y : α} : ∀ {l : List α}, (x, y) ∈ l.zip l → x = y ∧ x ∈ l
  | [], h => by simp at h
  | a :: l, h => by
    simp only [List.zip_cons_cons, List.mem_cons, Prod.mk.injEq] at h
    rcases h with ⟨rfl, rfl⟩ | h
    · exact ⟨rfl, by simp⟩
    · obtain ⟨h1, h2⟩ := mem_zip_self h
      exact ⟨h1, by simp [h2]⟩
theorem checkKey_int {T : TypeId} {q : IntKind} (hu : P.underlying T = some (.int q)) (em : Bool) (n : Nat) (v : Value) (w : World) : (Instr.checkKey em (n + 1) T v).run P w = .ok () w := by
  unfold Instr.checkKey
  simp only [Sem.run_bind, run_underlying hu, Result.andThen]
  cases v <;> rfl
theorem check_run {K : TypeId} {kk : KK} (hk : keyKind P K = some kk) {key : Value} (hok : OkKey kk key) (em : Bool) (n : Nat) (w : World) : (Instr.checkKey em (n + 2) K key).run P w = .ok () w := by
  unfold keyKind at hk
  split at hk
  · rename_i q hu; exact checkKey_int hu em (n + 1) key w
  · rename_i hu
    unfold Instr.checkKey
    simp only [Sem.run_bind, run_underlying hu, Result.andThen]
    cases key <;> rfl
  · rename_i fs hu
    split at hk
    · rename_i hc
      simp only [Bool.and_eq_true, Bool.not_eq_true'] at hc
      simp at hk; subst hk
      obtain ⟨l, hl, rfl⟩ := hok
      unfold Instr.checkKey
      simp only [Sem.run_bind, run_underlying hu, Result.andThen_ok]
      rw [← Array.forIn_toList]
      have key : ∀ (fl : List Field) (i : Nat), intFields P i fl = true → i + fl.length ≤ l.length →
          (forIn fl PUnit.unit fun f _ => (do
            if f.name ≠ "_" then Instr.checkKey em (n + 1) f.type (← part f.type (l.map fun p => Value.int p.1 p.2).toArray f.offset)
            pure (ForInStep.yield PUnit.unit) : Sem (ForInStep PUnit))).run P w = .ok PUnit.unit w := by
        intro fl
        induction fl with
        | nil => intro i _ _; simp
        | cons f fl ih =>
          intro i hi hle
          simp only [intFields, Bool.and_eq_true, bne_iff_ne, ne_eq, beq_iff_eq] at hi
          obtain ⟨⟨⟨hn, ho⟩, hint⟩, hi⟩ := hi
          simp only [List.length_cons] at hle
          split at hint
          · rename_i q hq
            have p1 := run_part_int hq (l.map fun p => Value.int p.1 p.2).toArray i (v := Value.int l[i].1 l[i].2) (by simp [List.getElem?_eq_getElem (show i < l.length by omega)]) w
            have p2 := checkKey_int hq em n (Value.int l[i].1 l[i].2) w
            simp only [List.forIn_cons, hn, ne_eq, not_false_eq_true, if_true, ho, Sem.run_bind, p1, p2, Result.andThen_ok, Sem.run_pure]
            exact ih (i + 1) hi (by omega)
          · cases hint
      have h := key fs.toList 0 hc.1 (by simp [hl])
      simp at h ⊢
      simp [h]
    · cases hk
  · rename_i m e hu
    split at hk
    · rename_i q he hs
      simp at hk; subst hk
      obtain ⟨l, hl, rfl⟩ := hok
      obtain ⟨ti, hti, hsz⟩ : ∃ i, P.info? e = some i ∧ i.size = 1 := by
        unfold sizeOf' at hs
        cases hi : P.info? e with
        | none => simp [hi] at hs
        | some i => simp [hi] at hs; exact ⟨i, rfl, hs⟩
      have hco : P.cellsOf e = 1 := by simp [Program.cellsOf, hti, hsz]
      have hsr : ∀ w : World, (sizeOf e).run P w = .ok 1 w := fun w => by rw [run_sizeOf w hti, hco]
      unfold Instr.checkKey
      simp only [Sem.run_bind, run_underlying hu, Result.andThen_ok]
      simp only [Std.Legacy.Range.forIn_eq_forIn_range', Std.Legacy.Range.size, Nat.sub_zero, Nat.add_one_sub_one, Nat.div_one]
      have key : ∀ (k i : Nat), i + k ≤ l.length →
          (forIn (List.range' i k) PUnit.unit fun i _ => (do
            Instr.checkKey em (n + 1) e (← part e (l.map fun p => Value.int p.1 p.2).toArray (i * (← sizeOf e)))
            pure (ForInStep.yield PUnit.unit) : Sem (ForInStep PUnit))).run P w = .ok PUnit.unit w := by
        intro k
        induction k with
        | zero => intro i _; simp
        | succ k ih =>
          intro i hle
          have p1 := run_part_int he (l.map fun p => Value.int p.1 p.2).toArray i (v := Value.int l[i].1 l[i].2) (by simp [List.getElem?_eq_getElem (show i < l.length by omega)]) w
          have p2 := checkKey_int he em n (Value.int l[i].1 l[i].2) w
          simp only [List.range'_succ, List.forIn_cons, Sem.run_bind, hsr, Nat.mul_one, p1, p2, Result.andThen_ok, Sem.run_pure]
          exact ih (i + 1) (by omega)
      have h := key m 0 (by omega)
      simp at h ⊢
      simp [h]
    · cases hk
  · cases hk
theorem stays_run {kk : KK} {key : Value} (hok : OkKey kk key) (w : World) : (Instr.keyThatStays key key).run P w = .ok key w := by
  have : Instr.sameBits 10000 key key = true := by
    cases kk with
    | int => obtain ⟨q, n, rfl⟩ := hok; simp [Instr.sameBits]
    | str => 
      obtain ⟨b, rfl⟩ := hok
      simp only [Instr.sameBits]
      rw [beq_toListBytes]
      simp
    | agg n =>
      obtain ⟨l, hl, rfl⟩ := hok
      simp only [Instr.sameBits]
      simp only [beq_self_eq_true, Bool.true_and]
      rw [List.all_eq_true]
      rintro ⟨x, y⟩ hxy
      obtain ⟨rfl, hm⟩ := mem_zip_self hxy
      simp at hm
      obtain ⟨a, b, _, rfl⟩ := hm
      simp [Instr.sameBits]
  simp [Instr.keyThatStays, this]
end
end Go.Vm
