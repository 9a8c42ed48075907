/- The document's disk: names; what is used; a file's place; files without one, with one. -/
import Derived.Test.YtdjgmhifocdelaaDiskU
namespace Go.Proofs.Ytdjgmhifocdelaa
open Go Go.Vm
attribute [local irreducible] Brn Ob Grow CallsM inR LoopVC Mem.row Mem.cells Mem.setCells Mem.upd Own AppVC SrcVC StrVC NextVC New SrcOk subA NewSl Mem.textAt Mem.mapAt Mem.iterAt entryOf kfind Wr NewEls Elems
set_option maxRecDepth 10000
variable {M : Mem} {D : DiskR}
@[reducible] def encF (f : FileR) : List Value := [.string f.name, .string f.safe, .string f.tail]
theorem encF_len (f : FileR) : (encF f).length = 3 := rfl
theorem encF_one (f : FileR) : ∀ u ∈ encF f, u.oneCell' = true := by simp [encF, Value.oneCell']
@[reducible] def refV (D : DiskR) (a : Option Addr) (c : Nat) : Value := .agg #[.int .i64 D.limit, .slice a D.l.length c, .int .i64 D.left, .bool D.down]
theorem nameR_ok (s : ByteArray) (hs : s.size ≤ 4611686018427387904) : CallsM Try.prog F.ref10_Name [.string s] M fun v M' => v = .bool (okName s) ∧ M = M' := by
  refine fo_ref10_Name (by simp) ?_
  have okc : ∀ i, okName s = true → i < s.size → ((s.toList.getD i 0).toNat = 46 ∨ (48 ≤ (s.toList.getD i 0).toNat ∧ (s.toList.getD i 0).toNat ≤ 57) ∨ (97 ≤ (s.toList.getD i 0).toNat ∧ (s.toList.getD i 0).toNat ≤ 122)) := fun i h hi => by
    unfold okName at h
    rw [Bool.and_eq_true, List.all_eq_true] at h
    have hl : i < (bl s).length := by rw [bl_len]; exact hi
    have := h.2 _ (List.getElem_mem hl)
    rw [bl_toList, List.getD_eq_getElem?_getD, List.getElem?_eq_getElem hl]
    exact of_decide_eq_true this
  have szo : okName s = true → 0 < s.size ∧ s.size ≤ 12 := fun h => by
    unfold okName at h
    rw [Bool.and_eq_true] at h
    exact of_decide_eq_true h.1
  (conv => whnf); refine brn (fun g => ?_) (fun g => ?_)
  · repeat' ((conv => whnf); first | refine ⟨?_, True.intro⟩ | refine brn_t rfl ?_ | refine brn_f rfl ?_ | refine ob rfl ?_ | refine ob (by decide) ?_ | refine grow_same (Mem.le_refl _) ?_ | refine ob (Mem.le_refl _) ?_ | refine ⟨_, Mem.le_refl _, ?_⟩ | fail)
    refine ⟨?_, rfl⟩
    have : okName s = false := by
      rw [← Bool.not_eq_true]; intro h; have := szo h; have := of_decide_eq_true g; omega
    rw [this]
  replace g := of_decide_eq_false g
  (conv => whnf); refine brn (fun g => ?_) (fun g => ?_)
  · repeat' ((conv => whnf); first | refine ⟨?_, True.intro⟩ | refine brn_t rfl ?_ | refine brn_f rfl ?_ | refine ob rfl ?_ | refine ob (by decide) ?_ | refine grow_same (Mem.le_refl _) ?_ | refine ob (Mem.le_refl _) ?_ | refine ⟨_, Mem.le_refl _, ?_⟩ | fail)
    refine ⟨?_, rfl⟩
    have : okName s = false := by
      rw [← Bool.not_eq_true]; intro h; have := szo h; have := of_decide_eq_true g; omega
    rw [this]
  replace g := of_decide_eq_false g
  (conv => whnf)
  refine loopQ [3] (fun (i : Nat) => [(3, .int .i64 i)]) (fun i => i ≤ s.size ∧ ∀ j, j < i → ((s.toList.getD j 0).toNat = 46 ∨ (48 ≤ (s.toList.getD j 0).toNat ∧ (s.toList.getD j 0).toNat ≤ 57) ∨ (97 ≤ (s.toList.getD j 0).toNat ∧ (s.toList.getD j 0).toNat ≤ 122))) (fun i => s.size - i) 0 ⟨by omega, by omega⟩ ⟨(by repeat' first | exact True.intro | refine ⟨rfl, ?_⟩), (by repeat' first | exact True.intro | refine ⟨rfl, ?_⟩), Mem.le_refl _, rfl⟩ ?_
  rintro i ⟨hi, hall⟩
  (conv => whnf); refine brn (fun g => ?_) (fun g => ?_)
  · have hlt : i < s.size := by have := of_decide_eq_true g; omega
    have hok := fun h => okc i h hlt
    generalize hc : (s.toList.getD i 0).toNat = c at hok
    (conv => whnf); refine ob (by first | omega | (dsimp only; omega)) ?_
    (conv => whnf)
    first | rw [Int.toNat_natCast, hc] | skip
    (conv => whnf); refine brn (fun g1 => ?_) (fun g1 => ?_)
    · replace g1 := of_decide_eq_true g1
      (conv => whnf); refine ob (by first | omega | (dsimp only; omega)) ?_
      (conv => whnf)
      first | rw [Int.toNat_natCast, hc] | skip
      (conv => whnf); refine ob (by first | omega | (dsimp only; omega)) ?_
      (conv => whnf)
      first | rw [Int.toNat_natCast, hc] | skip
      (conv => whnf); refine brn (fun g3 => ?_) (fun g3 => ?_)
      · replace g3 := of_decide_eq_true g3
        (conv => whnf); refine ob (by first | omega | (dsimp only; omega)) ?_
        (conv => whnf)
        first | rw [Int.toNat_natCast, hc] | skip
        (conv => whnf); refine brn (fun g4 => ?_) (fun g4 => ?_)
        · replace g4 : 122 < (c : Int) := by simpa using g4
          (conv => whnf); refine brn (fun g6 => ?_) (fun g6 => ?_)
          · replace g6 : 57 < (c : Int) := by simpa using g6
            (conv => whnf); refine ob (by first | omega | (dsimp only; omega)) ?_
            (conv => whnf)
            first | rw [Int.toNat_natCast, hc] | skip
            (conv => whnf); refine brn (fun g5 => ?_) (fun g5 => ?_)
            · replace g5 : ¬ (c : Int) = 46 := by simpa using g5
              · repeat' ((conv => whnf); first | refine ⟨?_, True.intro⟩ | refine brn_t rfl ?_ | refine brn_f rfl ?_ | refine ob rfl ?_ | refine ob (by decide) ?_ | refine grow_same (Mem.le_refl _) ?_ | refine ob (Mem.le_refl _) ?_ | refine ⟨_, Mem.le_refl _, ?_⟩ | fail)
                refine ⟨?_, rfl⟩
                have : okName s = false := by
                  rw [← Bool.not_eq_true]; intro h; have := hok h; omega
                rw [this]
            · replace g5 : (c : Int) = 46 := by simpa using g5
              (conv => whnf); refine ob (inR_i64 (by first | omega | (dsimp only; omega))) ?_
              (conv => whnf)
              refine ⟨i + 1, ⟨by omega, fun j hj => ?_⟩, by omega, ⟨(by repeat' first | exact True.intro | refine ⟨rfl, ?_⟩), (by repeat' first | exact True.intro | refine ⟨rfl, ?_⟩), Mem.le_refl _, rfl⟩⟩
              by_cases e : j = i
              · subst e; rw [hc]; omega
              · exact hall j (by omega)
          · replace g6 : (c : Int) ≤ 57 := by simpa using g6
            (conv => whnf); refine ob (inR_i64 (by first | omega | (dsimp only; omega))) ?_
            (conv => whnf)
            refine ⟨i + 1, ⟨by omega, fun j hj => ?_⟩, by omega, ⟨(by repeat' first | exact True.intro | refine ⟨rfl, ?_⟩), (by repeat' first | exact True.intro | refine ⟨rfl, ?_⟩), Mem.le_refl _, rfl⟩⟩
            by_cases e : j = i
            · subst e; rw [hc]; omega
            · exact hall j (by omega)
        · replace g4 : (c : Int) ≤ 122 := by simpa using g4
          (conv => whnf); refine ob (inR_i64 (by first | omega | (dsimp only; omega))) ?_
          (conv => whnf)
          refine ⟨i + 1, ⟨by omega, fun j hj => ?_⟩, by omega, ⟨(by repeat' first | exact True.intro | refine ⟨rfl, ?_⟩), (by repeat' first | exact True.intro | refine ⟨rfl, ?_⟩), Mem.le_refl _, rfl⟩⟩
          by_cases e : j = i
          · subst e; rw [hc]; omega
          · exact hall j (by omega)
      · replace g3 := of_decide_eq_false g3
        exfalso; omega
    · replace g1 := of_decide_eq_false g1
      (conv => whnf); refine ob (by first | omega | (dsimp only; omega)) ?_
      (conv => whnf)
      first | rw [Int.toNat_natCast, hc] | skip
      (conv => whnf); refine brn (fun g3 => ?_) (fun g3 => ?_)
      · replace g3 := of_decide_eq_true g3
        (conv => whnf); refine ob (by first | omega | (dsimp only; omega)) ?_
        (conv => whnf)
        first | rw [Int.toNat_natCast, hc] | skip
        (conv => whnf); refine brn (fun g6 => ?_) (fun g6 => ?_)
        · replace g6 : 57 < (c : Int) := by simpa using g6
          (conv => whnf); refine ob (by first | omega | (dsimp only; omega)) ?_
          (conv => whnf)
          first | rw [Int.toNat_natCast, hc] | skip
          (conv => whnf); refine brn (fun g5 => ?_) (fun g5 => ?_)
          · replace g5 : ¬ (c : Int) = 46 := by simpa using g5
            · repeat' ((conv => whnf); first | refine ⟨?_, True.intro⟩ | refine brn_t rfl ?_ | refine brn_f rfl ?_ | refine ob rfl ?_ | refine ob (by decide) ?_ | refine grow_same (Mem.le_refl _) ?_ | refine ob (Mem.le_refl _) ?_ | refine ⟨_, Mem.le_refl _, ?_⟩ | fail)
              refine ⟨?_, rfl⟩
              have : okName s = false := by
                rw [← Bool.not_eq_true]; intro h; have := hok h; omega
              rw [this]
          · replace g5 : (c : Int) = 46 := by simpa using g5
            (conv => whnf); refine ob (inR_i64 (by first | omega | (dsimp only; omega))) ?_
            (conv => whnf)
            refine ⟨i + 1, ⟨by omega, fun j hj => ?_⟩, by omega, ⟨(by repeat' first | exact True.intro | refine ⟨rfl, ?_⟩), (by repeat' first | exact True.intro | refine ⟨rfl, ?_⟩), Mem.le_refl _, rfl⟩⟩
            by_cases e : j = i
            · subst e; rw [hc]; omega
            · exact hall j (by omega)
        · replace g6 : (c : Int) ≤ 57 := by simpa using g6
          (conv => whnf); refine ob (inR_i64 (by first | omega | (dsimp only; omega))) ?_
          (conv => whnf)
          refine ⟨i + 1, ⟨by omega, fun j hj => ?_⟩, by omega, ⟨(by repeat' first | exact True.intro | refine ⟨rfl, ?_⟩), (by repeat' first | exact True.intro | refine ⟨rfl, ?_⟩), Mem.le_refl _, rfl⟩⟩
          by_cases e : j = i
          · subst e; rw [hc]; omega
          · exact hall j (by omega)
      · replace g3 := of_decide_eq_false g3
        (conv => whnf); refine ob (by first | omega | (dsimp only; omega)) ?_
        (conv => whnf)
        first | rw [Int.toNat_natCast, hc] | skip
        (conv => whnf); refine brn (fun g5 => ?_) (fun g5 => ?_)
        · replace g5 : ¬ (c : Int) = 46 := by simpa using g5
          · repeat' ((conv => whnf); first | refine ⟨?_, True.intro⟩ | refine brn_t rfl ?_ | refine brn_f rfl ?_ | refine ob rfl ?_ | refine ob (by decide) ?_ | refine grow_same (Mem.le_refl _) ?_ | refine ob (Mem.le_refl _) ?_ | refine ⟨_, Mem.le_refl _, ?_⟩ | fail)
            refine ⟨?_, rfl⟩
            have : okName s = false := by
              rw [← Bool.not_eq_true]; intro h; have := hok h; omega
            rw [this]
        · replace g5 : (c : Int) = 46 := by simpa using g5
          (conv => whnf); refine ob (inR_i64 (by first | omega | (dsimp only; omega))) ?_
          (conv => whnf)
          refine ⟨i + 1, ⟨by omega, fun j hj => ?_⟩, by omega, ⟨(by repeat' first | exact True.intro | refine ⟨rfl, ?_⟩), (by repeat' first | exact True.intro | refine ⟨rfl, ?_⟩), Mem.le_refl _, rfl⟩⟩
          by_cases e : j = i
          · subst e; rw [hc]; omega
          · exact hall j (by omega)
  have hge : i = s.size := by have := of_decide_eq_false g; omega
  subst hge
  have hv : okName s = true := by
    unfold okName
    rw [Bool.and_eq_true, List.all_eq_true]
    refine ⟨decide_eq_true (by omega), fun c hc => ?_⟩
    obtain ⟨j, hj, rfl⟩ := List.getElem_of_mem hc
    have := hall j (by rw [bl_len] at hj; exact hj)
    rw [bl_toList, List.getD_eq_getElem?_getD, List.getElem?_eq_getElem hj] at this
    exact decide_eq_true this
  repeat' ((conv => whnf); first | refine ⟨?_, True.intro⟩ | refine brn_t rfl ?_ | refine brn_f rfl ?_ | refine ob rfl ?_ | refine ob (by decide) ?_ | refine grow_same (Mem.le_refl _) ?_ | refine ob (Mem.le_refl _) ?_ | refine ⟨_, Mem.le_refl _, ?_⟩ | fail)
  rw [hv]
  exact ⟨rfl, rfl⟩
theorem readyR_ok (a : Option Addr) (c : Nat) (s : ByteArray) (hs : s.size ≤ 4611686018427387904) : CallsM Try.prog F.ref10_Ready [refV D a c, .string s] M fun v M' => v = .int .i64 (readyE D s) ∧ M = M' := by
  refine fo_ref10_Ready (by simp) ?_
  (conv => whnf)
  unfold readyE
  cases D.down
  · repeat' ((conv => whnf); first | refine ⟨?_, True.intro⟩ | refine brn_t rfl ?_ | refine brn_f rfl ?_ | refine ob rfl ?_ | refine ob (by decide) ?_ | refine grow_same (Mem.le_refl _) ?_ | refine ob (Mem.le_refl _) ?_ | refine ⟨_, Mem.le_refl _, ?_⟩ | fail)
    refine (nameR_ok s hs).mono ?_
    rintro v _ ⟨rfl, rfl⟩
    (conv => whnf); refine brn (fun g => ?_) (fun g => ?_)
    · have g1 : okName s = false := by simpa using g
      repeat' ((conv => whnf); first | refine ⟨?_, True.intro⟩ | refine brn_t rfl ?_ | refine brn_f rfl ?_ | refine ob rfl ?_ | refine ob (by decide) ?_ | refine grow_same (Mem.le_refl _) ?_ | refine ob (Mem.le_refl _) ?_ | refine ⟨_, Mem.le_refl _, ?_⟩ | fail)
      rw [g1]; exact ⟨rfl, rfl⟩
    · have g1 : okName s = true := by simpa using g
      repeat' ((conv => whnf); first | refine ⟨?_, True.intro⟩ | refine brn_t rfl ?_ | refine brn_f rfl ?_ | refine ob rfl ?_ | refine ob (by decide) ?_ | refine grow_same (Mem.le_refl _) ?_ | refine ob (Mem.le_refl _) ?_ | refine ⟨_, Mem.le_refl _, ?_⟩ | fail)
      rw [g1]; exact ⟨rfl, rfl⟩
  · repeat' ((conv => whnf); first | refine ⟨?_, True.intro⟩ | refine brn_t rfl ?_ | refine brn_f rfl ?_ | refine ob rfl ?_ | refine ob (by decide) ?_ | refine grow_same (Mem.le_refl _) ?_ | refine ob (Mem.le_refl _) ?_ | refine ⟨_, Mem.le_refl _, ?_⟩ | fail)
    exact ⟨rfl, rfl⟩
theorem usedR_ok {a : Option Addr} {c : Nat} (hs : SrcOk M 3 a D.l.length (D.l.flatMap encF)) (hI : InvD D) : CallsM Try.prog F.ref10_Used [refV D a c] M fun v M' => v = .int .i64 (usedR D.l) ∧ M = M' := by
  refine fo_ref10_Used (by simp) ?_
  have hus := hI.used
  have hln := hI.len
  (conv => whnf)
  refine loopQ (σ := Nat × Nat) [4, 3] (fun y => [(4, .int .i64 y.1), (3, .int .i64 y.2)]) (fun | ⟨i, n⟩ => i ≤ D.l.length ∧ n + usedR (D.l.drop i) = usedR D.l) (fun y => D.l.length - y.1) ⟨0, 0⟩ ⟨by omega, by simp⟩ ⟨(by repeat' first | exact True.intro | refine ⟨rfl, ?_⟩), (by repeat' first | exact True.intro | refine ⟨rfl, ?_⟩), Mem.le_refl _, rfl⟩ ?_
  rintro ⟨i, n⟩ ⟨hi, hsum⟩
  (conv => whnf); refine brn (fun g => ?_) (fun g => ?_)
  · have hlt : i < D.l.length := by have := of_decide_eq_true g; dsimp only at this; omega
    have hx : D.l[i]? = some D.l[i] := List.getElem?_eq_getElem hlt
    rw [List.drop_eq_getElem_cons hlt] at hsum
    generalize D.l[i] = f at *
    obtain ⟨b, o, ha, hc⟩ := hs.fcells encF_len (by decide) hx
    simp only [usedR, List.map_cons, List.sum_cons] at hsum
    have hd : ((D.l.drop (i + 1)).map fun f => f.safe.size + f.tail.size).sum = usedR (D.l.drop (i + 1)) := rfl
    have hu : (D.l.map fun f => f.safe.size + f.tail.size).sum = usedR D.l := rfl
    rw [hd, hu] at hsum
    (conv => whnf); refine ob (by first | omega | (dsimp only; omega)) ?_
    (conv => whnf); refine atp ha ?_
    (conv => whnf); refine on (hc 1 _ rfl) ?_
    (conv => whnf); refine ob (inR_i64 (by first | omega | (dsimp only; omega))) ?_
    (conv => whnf); refine ob (by first | omega | (dsimp only; omega)) ?_
    (conv => whnf); refine atp ha ?_
    (conv => whnf); refine on (hc 2 _ rfl) ?_
    (conv => whnf); refine ob (inR_i64 (by first | omega | (dsimp only; omega))) ?_
    (conv => whnf); refine ob (inR_i64 (by first | omega | (dsimp only; omega))) ?_
    (conv => whnf)
    exact ⟨⟨i + 1, n + f.safe.size + f.tail.size⟩, ⟨by omega, by omega⟩, by dsimp only; omega, ⟨(by repeat' first | exact True.intro | refine ⟨rfl, ?_⟩), (by repeat' first | exact True.intro | refine ⟨rfl, ?_⟩), Mem.le_refl _, rfl⟩⟩
  · have hge : i = D.l.length := by have := of_decide_eq_false g; dsimp only at this; omega
    subst hge
    rw [List.drop_length] at hsum
    repeat' ((conv => whnf); first | refine ⟨?_, True.intro⟩ | refine brn_t rfl ?_ | refine brn_f rfl ?_ | refine ob rfl ?_ | refine ob (by decide) ?_ | refine grow_same (Mem.le_refl _) ?_ | refine ob (Mem.le_refl _) ?_ | refine ⟨_, Mem.le_refl _, ?_⟩ | fail)
    refine ⟨?_, rfl⟩
    have : usedR [] = 0 := rfl
    congr 1
    dsimp only
    omega
theorem placeR_ok {a : Option Addr} {c : Nat} (hs : SrcOk M 3 a D.l.length (D.l.flatMap encF)) (hI : InvD D) (s : ByteArray) : CallsM Try.prog F.ref10_Place [refV D a c, .string s] M fun v M' =>
    M = M' ∧ ((findR D.l s = none ∧ v = .int .i64 (-1)) ∨ ∃ (i : Nat) (f : FileR), i < D.l.length ∧ D.l[i]? = some f ∧ findR D.l s = some f ∧ v = .int .i64 i) := by
  refine fo_ref10_Place (by simp) ?_
  have hln := hI.len
  (conv => whnf)
  refine loopQ [5] (fun (i : Nat) => [(5, .int .i64 i)]) (fun i => i ≤ D.l.length ∧ ∀ f ∈ D.l.take i, f.name ≠ s) (fun i => D.l.length - i) 0 ⟨by omega, by simp⟩ ⟨(by repeat' first | exact True.intro | refine ⟨rfl, ?_⟩), (by repeat' first | exact True.intro | refine ⟨rfl, ?_⟩), Mem.le_refl _, rfl⟩ ?_
  rintro i ⟨hi, hno⟩
  (conv => whnf); refine brn (fun g => ?_) (fun g => ?_)
  · have hlt : i < D.l.length := by have := of_decide_eq_true g; omega
    have hx : D.l[i]? = some D.l[i] := List.getElem?_eq_getElem hlt
    generalize D.l[i] = f at *
    obtain ⟨b, o, ha, hc⟩ := hs.fcells encF_len (by decide) hx
    (conv => whnf); refine ob (by first | omega | (dsimp only; omega)) ?_
    (conv => whnf); refine atp ha ?_
    (conv => whnf); refine on (hc 0 _ rfl) ?_
    (conv => whnf); refine brn (fun g1 => ?_) (fun g1 => ?_)
    · have e := of_decide_eq_true g1
      repeat' ((conv => whnf); first | refine ⟨?_, True.intro⟩ | refine brn_t rfl ?_ | refine brn_f rfl ?_ | refine ob rfl ?_ | refine ob (by decide) ?_ | refine grow_same (Mem.le_refl _) ?_ | refine ob (Mem.le_refl _) ?_ | refine ⟨_, Mem.le_refl _, ?_⟩ | fail)
      exact ⟨rfl, .inr ⟨i, f, hlt, hx, (findR_some hI.sort).2 ⟨List.mem_of_getElem? hx, e⟩, rfl⟩⟩
    · have e := of_decide_eq_false g1
      (conv => whnf); refine ob (inR_i64 (by first | omega | (dsimp only; omega))) ?_
      (conv => whnf)
      refine ⟨i + 1, ⟨by omega, fun x hm => ?_⟩, by omega, ⟨(by repeat' first | exact True.intro | refine ⟨rfl, ?_⟩), (by repeat' first | exact True.intro | refine ⟨rfl, ?_⟩), Mem.le_refl _, rfl⟩⟩
      rw [List.take_add_one, hx] at hm
      rcases List.mem_append.1 hm with h1 | h1
      · exact hno x h1
      · simp at h1; subst h1; exact e
  · have hge : i = D.l.length := by have := of_decide_eq_false g; omega
    subst hge
    rw [List.take_length] at hno
    repeat' ((conv => whnf); first | refine ⟨?_, True.intro⟩ | refine brn_t rfl ?_ | refine brn_f rfl ?_ | refine ob rfl ?_ | refine ob (by decide) ?_ | refine grow_same (Mem.le_refl _) ?_ | refine ob (Mem.le_refl _) ?_ | refine ⟨_, Mem.le_refl _, ?_⟩ | fail)
    exact ⟨rfl, .inl ⟨findR_none.2 hno, rfl⟩⟩
theorem thereR_ok {a : Option Addr} {c : Nat} (hs : SrcOk M 3 a D.l.length (D.l.flatMap encF)) (hI : InvD D) (s : ByteArray) (hsz : s.size ≤ 4611686018427387904) : CallsM Try.prog F.ref10_There [refV D a c, .string s] M fun v M' => v = .int .i64 (thereE D s) ∧ M = M' := by
  refine fo_ref10_There (by simp) ?_
  repeat' ((conv => whnf); first | refine ⟨?_, True.intro⟩ | refine brn_t rfl ?_ | refine brn_f rfl ?_ | refine ob rfl ?_ | refine ob (by decide) ?_ | refine grow_same (Mem.le_refl _) ?_ | refine ob (Mem.le_refl _) ?_ | refine ⟨_, Mem.le_refl _, ?_⟩ | fail)
  refine (readyR_ok (D := D) a c s hsz).mono ?_
  rintro v _ ⟨rfl, rfl⟩
  (conv => whnf); refine brn (fun g => ?_) (fun g => ?_)
  · have g1 : ¬ readyE D s = 0 := by simpa using g
    repeat' ((conv => whnf); first | refine ⟨?_, True.intro⟩ | refine brn_t rfl ?_ | refine brn_f rfl ?_ | refine ob rfl ?_ | refine ob (by decide) ?_ | refine grow_same (Mem.le_refl _) ?_ | refine ob (Mem.le_refl _) ?_ | refine ⟨_, Mem.le_refl _, ?_⟩ | fail)
    refine (readyR_ok (D := D) a c s hsz).mono ?_
    rintro v _ ⟨rfl, rfl⟩
    repeat' ((conv => whnf); first | refine ⟨?_, True.intro⟩ | refine brn_t rfl ?_ | refine brn_f rfl ?_ | refine ob rfl ?_ | refine ob (by decide) ?_ | refine grow_same (Mem.le_refl _) ?_ | refine ob (Mem.le_refl _) ?_ | refine ⟨_, Mem.le_refl _, ?_⟩ | fail)
    exact ⟨by unfold thereE; rw [if_pos g1], rfl⟩
  have g1 : readyE D s = 0 := by simpa using g
  repeat' ((conv => whnf); first | refine ⟨?_, True.intro⟩ | refine brn_t rfl ?_ | refine brn_f rfl ?_ | refine ob rfl ?_ | refine ob (by decide) ?_ | refine grow_same (Mem.le_refl _) ?_ | refine ob (Mem.le_refl _) ?_ | refine ⟨_, Mem.le_refl _, ?_⟩ | fail)
  refine (placeR_ok (c := c) hs hI s).mono ?_
  rintro v _ ⟨rfl, ⟨hf, rfl⟩ | ⟨i, f, hi, hx, hf, rfl⟩⟩
  · repeat' ((conv => whnf); first | refine ⟨?_, True.intro⟩ | refine brn_t rfl ?_ | refine brn_f rfl ?_ | refine ob rfl ?_ | refine ob (by decide) ?_ | refine grow_same (Mem.le_refl _) ?_ | refine ob (Mem.le_refl _) ?_ | refine ⟨_, Mem.le_refl _, ?_⟩ | fail)
    exact ⟨by unfold thereE; rw [if_neg (by simp [g1]), if_pos hf], rfl⟩
  · (conv => whnf); refine brn_f (decide_eq_false (by omega)) ?_
    repeat' ((conv => whnf); first | refine ⟨?_, True.intro⟩ | refine brn_t rfl ?_ | refine brn_f rfl ?_ | refine ob rfl ?_ | refine ob (by decide) ?_ | refine grow_same (Mem.le_refl _) ?_ | refine ob (Mem.le_refl _) ?_ | refine ⟨_, Mem.le_refl _, ?_⟩ | fail)
    exact ⟨by unfold thereE; rw [if_neg (by simp [g1]), hf, if_neg (by simp)], rfl⟩
theorem fileR_ok {a : Option Addr} {c : Nat} (hs : SrcOk M 3 a D.l.length (D.l.flatMap encF)) (hI : InvD D) (s : ByteArray) : CallsM Try.prog F.ref10_file [refV D a c, .string s] M fun v M' => v = .agg (encF (fileR D s)).toArray ∧ M = M' := by
  refine fo_ref10_file (by simp) ?_
  repeat' ((conv => whnf); first | refine ⟨?_, True.intro⟩ | refine brn_t rfl ?_ | refine brn_f rfl ?_ | refine ob rfl ?_ | refine ob (by decide) ?_ | refine grow_same (Mem.le_refl _) ?_ | refine ob (Mem.le_refl _) ?_ | refine ⟨_, Mem.le_refl _, ?_⟩ | fail)
  refine (placeR_ok (c := c) hs hI s).mono ?_
  rintro v _ ⟨rfl, ⟨hf, rfl⟩ | ⟨i, f, hi, hx, hf, rfl⟩⟩
  · have e : fileR D s = ⟨s, .empty, .empty⟩ := by unfold fileR; rw [hf]; rfl
    repeat' ((conv => whnf); first | refine ⟨?_, True.intro⟩ | refine brn_t rfl ?_ | refine brn_f rfl ?_ | refine ob rfl ?_ | refine ob (by decide) ?_ | refine grow_same (Mem.le_refl _) ?_ | refine ob (Mem.le_refl _) ?_ | refine ⟨_, Mem.le_refl _, ?_⟩ | fail)
    rw [e]; exact ⟨rfl, rfl⟩
  · have e : fileR D s = f := by unfold fileR; rw [hf]; rfl
    obtain ⟨b, o, ha, hrow⟩ := hs.fall encF_len (by decide) hx
    (conv => whnf); refine brn_f (decide_eq_false (by omega)) ?_
    repeat' ((conv => whnf); first | refine ⟨?_, True.intro⟩ | refine brn_t rfl ?_ | refine brn_f rfl ?_ | refine ob rfl ?_ | refine ob (by decide) ?_ | refine grow_same (Mem.le_refl _) ?_ | refine ob (Mem.le_refl _) ?_ | refine ⟨_, Mem.le_refl _, ?_⟩ | fail)
    refine (placeR_ok (c := c) hs hI s).mono ?_
    rintro v _ ⟨rfl, ⟨hf2, rfl⟩ | ⟨i2, f2, hi2, hx2, hf2, rfl⟩⟩
    · rw [hf] at hf2; cases hf2
    have hii : i2 = i := hI.sort.idx hx2 hx (by rw [((findR_some hI.sort).1 hf2).2, ((findR_some hI.sort).1 hf).2])
    subst hii
    repeat' ((conv => whnf); first | refine ⟨?_, True.intro⟩ | refine brn_t rfl ?_ | refine brn_f rfl ?_ | refine ob rfl ?_ | refine ob (by decide) ?_ | refine grow_same (Mem.le_refl _) ?_ | refine ob (Mem.le_refl _) ?_ | refine ⟨_, Mem.le_refl _, ?_⟩ | fail)
    refine ob (by omega) ?_
    (conv => whnf); refine atp ha ?_
    (conv => whnf); refine on hrow ?_
    repeat' ((conv => whnf); first | refine ⟨?_, True.intro⟩ | refine brn_t rfl ?_ | refine brn_f rfl ?_ | refine ob rfl ?_ | refine ob (by decide) ?_ | refine grow_same (Mem.le_refl _) ?_ | refine ob (Mem.le_refl _) ?_ | refine ⟨_, Mem.le_refl _, ?_⟩ | fail)
    rw [e]; exact ⟨rfl, rfl⟩
theorem changedR_ok (a : Option Addr) (c : Nat) (hI : InvD D) (l : List FileR) (a' : Option Addr) (c' : Nat) : CallsM Try.prog F.ref10_changed [refV D a c, .slice a' l.length c'] M fun v M' => v = refV (changedR D l) a' c' ∧ M = M' := by
  refine fo_ref10_changed (by simp) ?_
  have hl := hI.left
  (conv => whnf); refine brn (fun g => ?_) (fun g => ?_)
  · replace g := of_decide_eq_true g
    (conv => whnf); refine ob (inR_i64 (by omega)) ?_
    repeat' ((conv => whnf); first | refine ⟨?_, True.intro⟩ | refine brn_t rfl ?_ | refine brn_f rfl ?_ | refine ob rfl ?_ | refine ob (by decide) ?_ | refine grow_same (Mem.le_refl _) ?_ | refine ob (Mem.le_refl _) ?_ | refine ⟨_, Mem.le_refl _, ?_⟩ | fail)
    refine ⟨?_, rfl⟩
    unfold refV changedR
    dsimp only
    rw [if_pos g]
  · replace g := of_decide_eq_false g
    repeat' ((conv => whnf); first | refine ⟨?_, True.intro⟩ | refine brn_t rfl ?_ | refine brn_f rfl ?_ | refine ob rfl ?_ | refine ob (by decide) ?_ | refine grow_same (Mem.le_refl _) ?_ | refine ob (Mem.le_refl _) ?_ | refine ⟨_, Mem.le_refl _, ?_⟩ | fail)
    refine ⟨?_, rfl⟩
    unfold refV changedR
    dsimp only
    rw [if_neg g]
end Go.Proofs.Ytdjgmhifocdelaa
