/- The disk: names; is it ready; is a file there; a change was done. -/
import Derived.Test.YtnlghoenbhbfhaaJoin17
namespace Go.Proofs.Ytnlghoenbhbfhaa
open Go Go.Vm
attribute [local irreducible] Brn Ob Grow CallsM inR LoopVC Mem.row Mem.cells Mem.setCells Mem.upd Go.Vm.Own AppVC SrcVC StrVC NextVC New SrcOk subA NewSl Mem.textAt Mem.mapAt Mem.iterAt entryOf kfind Wr NewEls Elems
set_option maxRecDepth 10000
variable {M : Mem} {p b : Nat} {D : DiskR} {es : FsT}
theorem named_ok (s : ByteArray) (hs : s.size ≤ 4611686018427387904) : CallsM Try.prog F.disk_named [.string s] M fun v M' => v = .bool (okName s) ∧ M = M' := by
  refine fo_disk_named (by simp) ?_
  have okc : ∀ i, okName s = true → i < s.size → ((s.toList.getD i 0).toNat = 46 ∨ (48 ≤ (s.toList.getD i 0).toNat ∧ (s.toList.getD i 0).toNat ≤ 57) ∨ (97 ≤ (s.toList.getD i 0).toNat ∧ (s.toList.getD i 0).toNat ≤ 122)) := fun i h hi => by
    unfold okName at h
    rw [Bool.and_eq_true, List.all_eq_true] at h
    have hl : i < (bl s).length := by rw [bl_len]; exact hi
    have := h.2 _ (List.getElem_mem hl)
    rw [bl_toList, List.getD_eq_getElem?_getD, List.getElem?_eq_getElem hl]
    exact of_decide_eq_true this
  (conv => whnf)
  refine loopQ [7] (fun (i : Nat) => [(7, .int .i64 i)]) (fun i => i ≤ s.size ∧ ∀ j, j < i → ((s.toList.getD j 0).toNat = 46 ∨ (48 ≤ (s.toList.getD j 0).toNat ∧ (s.toList.getD j 0).toNat ≤ 57) ∨ (97 ≤ (s.toList.getD j 0).toNat ∧ (s.toList.getD j 0).toNat ≤ 122))) (fun i => s.size - i) 0 ⟨by omega, by omega⟩ ⟨(by repeat' first | exact True.intro | refine ⟨rfl, ?_⟩), (by repeat' first | exact True.intro | refine ⟨rfl, ?_⟩), Mem.le_refl _, rfl⟩ ?_
  rintro i ⟨hi, hall⟩
  (conv => whnf); refine brn (fun g => ?_) (fun g => ?_)
  · have hlt : i < s.size := by have := of_decide_eq_true g; omega
    have hok := fun h => okc i h hlt
    generalize hc : (s.toList.getD i 0).toNat = c at hok
    (conv => whnf); refine ob (by first | omega | (dsimp only; omega)) ?_
    (conv => whnf)
    rw [Int.toNat_natCast, hc]
    (conv => whnf); refine brn (fun g1 => ?_) (fun g1 => ?_)
    · replace g1 : ¬ (c : Int) = 46 := by simpa using g1
      (conv => whnf); refine brn (fun g2 => ?_) (fun g2 => ?_)
      · replace g2 := of_decide_eq_true g2
        (conv => whnf); refine brn (fun g4 => ?_) (fun g4 => ?_)
        · replace g4 := of_decide_eq_true g4
          · repeat' ((conv => whnf); first | refine ⟨?_, True.intro⟩ | refine brn_t rfl ?_ | refine brn_f rfl ?_ | refine ob rfl ?_ | refine ob (by decide) ?_ | refine grow_same (Mem.le_refl _) ?_ | refine ob (Mem.le_refl _) ?_ | refine ⟨_, Mem.le_refl _, ?_⟩ | fail)
            refine ⟨?_, rfl⟩
            have : okName s = false := by
              rw [← Bool.not_eq_true]; intro h; have := hok h; omega
            rw [this]
        · replace g4 := of_decide_eq_false g4
          (conv => whnf); refine brn (fun g5 => ?_) (fun g5 => ?_)
          · replace g5 := of_decide_eq_true g5
            · repeat' ((conv => whnf); first | refine ⟨?_, True.intro⟩ | refine brn_t rfl ?_ | refine brn_f rfl ?_ | refine ob rfl ?_ | refine ob (by decide) ?_ | refine grow_same (Mem.le_refl _) ?_ | refine ob (Mem.le_refl _) ?_ | refine ⟨_, Mem.le_refl _, ?_⟩ | fail)
              refine ⟨?_, rfl⟩
              have : okName s = false := by
                rw [← Bool.not_eq_true]; intro h; have := hok h; omega
              rw [this]
          · replace g5 := of_decide_eq_false g5
            (conv => whnf); refine ob (inR_i64 (by first | omega | (dsimp only; omega))) ?_
            (conv => whnf)
            refine ⟨i + 1, ⟨by omega, fun j hj => ?_⟩, by omega, ⟨(by repeat' first | exact True.intro | refine ⟨rfl, ?_⟩), (by repeat' first | exact True.intro | refine ⟨rfl, ?_⟩), Mem.le_refl _, rfl⟩⟩
            by_cases e : j = i
            · subst e; rw [hc]; omega
            · exact hall j (by omega)
      · replace g2 := of_decide_eq_false g2
        (conv => whnf); refine brn (fun g3 => ?_) (fun g3 => ?_)
        · replace g3 := of_decide_eq_true g3
          (conv => whnf); refine brn (fun g4 => ?_) (fun g4 => ?_)
          · replace g4 := of_decide_eq_true g4
            · repeat' ((conv => whnf); first | refine ⟨?_, True.intro⟩ | refine brn_t rfl ?_ | refine brn_f rfl ?_ | refine ob rfl ?_ | refine ob (by decide) ?_ | refine grow_same (Mem.le_refl _) ?_ | refine ob (Mem.le_refl _) ?_ | refine ⟨_, Mem.le_refl _, ?_⟩ | fail)
              refine ⟨?_, rfl⟩
              have : okName s = false := by
                rw [← Bool.not_eq_true]; intro h; have := hok h; omega
              rw [this]
          · replace g4 := of_decide_eq_false g4
            (conv => whnf); refine brn (fun g5 => ?_) (fun g5 => ?_)
            · replace g5 := of_decide_eq_true g5
              · repeat' ((conv => whnf); first | refine ⟨?_, True.intro⟩ | refine brn_t rfl ?_ | refine brn_f rfl ?_ | refine ob rfl ?_ | refine ob (by decide) ?_ | refine grow_same (Mem.le_refl _) ?_ | refine ob (Mem.le_refl _) ?_ | refine ⟨_, Mem.le_refl _, ?_⟩ | fail)
                refine ⟨?_, rfl⟩
                have : okName s = false := by
                  rw [← Bool.not_eq_true]; intro h; have := hok h; omega
                rw [this]
            · replace g5 := of_decide_eq_false g5
              (conv => whnf); refine ob (inR_i64 (by first | omega | (dsimp only; omega))) ?_
              (conv => whnf)
              refine ⟨i + 1, ⟨by omega, fun j hj => ?_⟩, by omega, ⟨(by repeat' first | exact True.intro | refine ⟨rfl, ?_⟩), (by repeat' first | exact True.intro | refine ⟨rfl, ?_⟩), Mem.le_refl _, rfl⟩⟩
              by_cases e : j = i
              · subst e; rw [hc]; omega
              · exact hall j (by omega)
        · replace g3 := of_decide_eq_false g3
          (conv => whnf); refine ob (inR_i64 (by first | omega | (dsimp only; omega))) ?_
          (conv => whnf)
          refine ⟨i + 1, ⟨by omega, fun j hj => ?_⟩, by omega, ⟨(by repeat' first | exact True.intro | refine ⟨rfl, ?_⟩), (by repeat' first | exact True.intro | refine ⟨rfl, ?_⟩), Mem.le_refl _, rfl⟩⟩
          by_cases e : j = i
          · subst e; rw [hc]; omega
          · exact hall j (by omega)
    · replace g1 : (c : Int) = 46 := by simpa using g1
      (conv => whnf); refine ob (inR_i64 (by first | omega | (dsimp only; omega))) ?_
      (conv => whnf)
      refine ⟨i + 1, ⟨by omega, fun j hj => ?_⟩, by omega, ⟨(by repeat' first | exact True.intro | refine ⟨rfl, ?_⟩), (by repeat' first | exact True.intro | refine ⟨rfl, ?_⟩), Mem.le_refl _, rfl⟩⟩
      by_cases e : j = i
      · subst e; rw [hc]; omega
      · exact hall j (by omega)
  have hge : i = s.size := by have := of_decide_eq_false g; omega
  subst hge
  have hv : okName s = decide (0 < s.size ∧ s.size ≤ 12) := by
    unfold okName
    have : ((bl s).all fun c => decide (c.toNat = 46 ∨ (48 ≤ c.toNat ∧ c.toNat ≤ 57) ∨ (97 ≤ c.toNat ∧ c.toNat ≤ 122))) = true := by
      rw [List.all_eq_true]
      intro c hc
      obtain ⟨j, hj, rfl⟩ := List.getElem_of_mem hc
      have := hall j (by rw [bl_len] at hj; exact hj)
      rw [bl_toList, List.getD_eq_getElem?_getD, List.getElem?_eq_getElem hj] at this
      exact decide_eq_true this
    rw [this, Bool.and_true]
  (conv => whnf); refine brn (fun g1 => ?_) (fun g1 => ?_)
  · replace g1 := of_decide_eq_true g1
    repeat' ((conv => whnf); first | refine ⟨?_, True.intro⟩ | refine brn_t rfl ?_ | refine brn_f rfl ?_ | refine ob rfl ?_ | refine ob (by decide) ?_ | refine grow_same (Mem.le_refl _) ?_ | refine ob (Mem.le_refl _) ?_ | refine ⟨_, Mem.le_refl _, ?_⟩ | fail)
    refine ⟨?_, rfl⟩
    rw [hv]
    congr 1
    exact decide_eq_decide.2 ⟨fun h => by omega, fun h => by omega⟩
  · replace g1 := of_decide_eq_false g1
    repeat' ((conv => whnf); first | refine ⟨?_, True.intro⟩ | refine brn_t rfl ?_ | refine brn_f rfl ?_ | refine ob rfl ?_ | refine ob (by decide) ?_ | refine grow_same (Mem.le_refl _) ?_ | refine ob (Mem.le_refl _) ?_ | refine ⟨_, Mem.le_refl _, ?_⟩ | fail)
    refine ⟨?_, rfl⟩
    rw [hv, decide_eq_false (by omega)]
/-- is the disk ready for some names -/
theorem ready_ok (h : DAt M p b D es) {a : Option Addr} {n c : Nat} {ns : List ByteArray} (hs : SrcOk M 1 a n (ns.map strV)) (hn : n ≤ 4194304) (hsz : ∀ s ∈ ns, s.size ≤ 4611686018427387904) :
    CallsM Try.prog F.disk_Disk_ready [ptr p, .slice a n c] M fun v M' => v = .int .i64 (if D.down = true then 9 else if ns.all okName = true then 0 else 2) ∧ M = M' := by
  refine fo_disk_Disk_ready (by simp) ?_
  have hl := hs.maplen
  repeat' ((conv => whnf); first | refine ⟨?_, True.intro⟩ | refine brn_t rfl ?_ | refine brn_f rfl ?_ | refine ob rfl ?_ | refine ob (by decide) ?_ | refine grow_same (Mem.le_refl _) ?_ | refine ob (Mem.le_refl _) ?_ | refine ⟨_, Mem.le_refl _, ?_⟩ | fail)
  refine on (h.self.c1 rfl) ?_
  (conv => whnf)
  cases g : D.down
  rotate_left
  · repeat' ((conv => whnf); first | refine ⟨?_, True.intro⟩ | refine brn_t rfl ?_ | refine brn_f rfl ?_ | refine ob rfl ?_ | refine ob (by decide) ?_ | refine grow_same (Mem.le_refl _) ?_ | refine ob (Mem.le_refl _) ?_ | refine ⟨_, Mem.le_refl _, ?_⟩ | fail)
    exact ⟨by simp, rfl⟩
  (conv => whnf)
  refine loopQ [15] (fun (i : Nat) => [(15, .int .i64 i)]) (fun i => i ≤ n ∧ ∀ j s, j < i → ns[j]? = some s → okName s = true) (fun i => n - i) 0 ⟨by omega, by omega⟩ ⟨(by repeat' first | exact True.intro | refine ⟨rfl, ?_⟩), (by repeat' first | exact True.intro | refine ⟨rfl, ?_⟩), Mem.le_refl _, rfl⟩ ?_
  rintro i ⟨hi, hall⟩
  (conv => whnf); refine brn (fun g1 => ?_) (fun g1 => ?_)
  · have hlt : i < n := by have := of_decide_eq_true g1; omega
    obtain ⟨hkx, bx, ox, hax, hrx⟩ := hs.at (i := i) hlt
    have hxi : ns[i]? = some ns[i] := List.getElem?_eq_getElem hkx
    have hxm : ns[i] ∈ ns := List.getElem_mem hkx
    generalize ns[i] = x at *
    (conv => whnf); refine ob (by first | omega | (dsimp only; omega)) ?_
    (conv => whnf); refine atp hax ?_
    (conv => whnf); refine on hrx ?_
    (conv => whnf); refine (named_ok x (hsz x hxm)).mono ?_
    rintro v _ ⟨rfl, rfl⟩
    (conv => whnf); refine brn (fun g2 => ?_) (fun g2 => ?_)
    · repeat' ((conv => whnf); first | refine ⟨?_, True.intro⟩ | refine brn_t rfl ?_ | refine brn_f rfl ?_ | refine ob rfl ?_ | refine ob (by decide) ?_ | refine grow_same (Mem.le_refl _) ?_ | refine ob (Mem.le_refl _) ?_ | refine ⟨_, Mem.le_refl _, ?_⟩ | fail)
      refine ⟨?_, rfl⟩
      rw [if_neg (by simp), if_neg]
      intro h2
      rw [List.all_eq_true] at h2
      rw [h2 x hxm] at g2
      cases g2
    · have g3 : okName x = true := by simpa using g2
      (conv => whnf); refine ob (inR_i64 (by first | omega | (dsimp only; omega))) ?_
      (conv => whnf)
      refine ⟨i + 1, ⟨by omega, fun j s hj hs => ?_⟩, by omega, ⟨(by repeat' first | exact True.intro | refine ⟨rfl, ?_⟩), (by repeat' first | exact True.intro | refine ⟨rfl, ?_⟩), Mem.le_refl _, rfl⟩⟩
      by_cases e : j = i
      · subst e; rw [hxi] at hs; cases hs; exact g3
      · exact hall j s (by omega) hs
  have hge : i = n := by have := of_decide_eq_false g1; omega
  repeat' ((conv => whnf); first | refine ⟨?_, True.intro⟩ | refine brn_t rfl ?_ | refine brn_f rfl ?_ | refine ob rfl ?_ | refine ob (by decide) ?_ | refine grow_same (Mem.le_refl _) ?_ | refine ob (Mem.le_refl _) ?_ | refine ⟨_, Mem.le_refl _, ?_⟩ | fail)
  refine ⟨?_, rfl⟩
  rw [if_neg (by simp), if_pos]
  rw [List.all_eq_true]
  intro s hs
  obtain ⟨j, hj, rfl⟩ := List.getElem_of_mem hs
  exact hall j _ (by omega) (List.getElem?_eq_getElem hj)
theorem ready0 (D : DiskR) : (if D.down = true then (9 : Int) else if ([] : List ByteArray).all okName = true then 0 else 2) = if D.down = true then 9 else 0 := by simp
theorem ready1 (D : DiskR) (s : ByteArray) : (if D.down = true then (9 : Int) else if [s].all okName = true then 0 else 2) = readyE D s := by
  unfold readyE
  by_cases h : okName s = true <;> simp [h]
/-- a file, or why there is none -/
theorem there_ok (h : DAt M p b D es) (hr : RelD es D.l) (s : ByteArray) (hs : s.size ≤ 4611686018427387904) :
    CallsM Try.prog F.disk_Disk_there [ptr p, .string s] M fun v M' => M.le M' ∧ ((thereE D s ≠ 0 ∧ v = .tuple #[.pointer none, .int .i64 (thereE D s)]) ∨ (thereE D s = 0 ∧ ∃ x, aget es s = some x ∧ v = .tuple #[ptr x.f, .int .i64 0])) := by
  refine fo_disk_Disk_there (by simp) ?_
  repeat' ((conv => whnf); first | refine ⟨?_, True.intro⟩ | refine brn_t rfl ?_ | refine brn_f rfl ?_ | refine ob rfl ?_ | refine ob (by decide) ?_ | refine grow_same (Mem.le_refl _) ?_ | refine ob (Mem.le_refl _) ?_ | refine ⟨_, Mem.le_refl _, ?_⟩ | fail)
  refine new (fun b1 hb1 => ?_)
  replace hb1 : M b1 = none := hb1
  have hle1 : M.le (M.setCells b1 T.string [.string s]) := Mem.le_setCells hb1
  have hs1 : SrcOk (M.setCells b1 T.string [.string s]) 1 (some ⟨b1, 0, none⟩) 1 ([s].map strV) := SrcOk.lit rfl
  obtain ⟨M1, hM1⟩ : ∃ M1, M1 = M.setCells b1 T.string [.string s] := ⟨_, rfl⟩
  rw [← hM1] at hle1 hs1
  (conv => whnf)
  erw [← hM1]
  refine (ready_ok (h.le hle1) hs1 (by omega) (by simpa using hs)).mono ?_
  rintro v _ ⟨rfl, rfl⟩
  rw [ready1]
  (conv => whnf); refine brn (fun g => ?_) (fun g => ?_)
  · have g1 : ¬ readyE D s = 0 := by simpa using g
    have e : thereE D s = readyE D s := by unfold thereE; rw [if_pos g1]
    repeat' ((conv => whnf); first | refine ⟨?_, True.intro⟩ | refine brn_t rfl ?_ | refine brn_f rfl ?_ | refine ob rfl ?_ | refine ob (by decide) ?_ | refine grow_same (Mem.le_refl _) ?_ | refine ob (Mem.le_refl _) ?_ | refine ⟨_, Mem.le_refl _, ?_⟩ | fail)
    exact ⟨hle1, .inl ⟨by rw [e]; exact g1, by rw [e]⟩⟩
  have g1 : readyE D s = 0 := by simpa using g
  repeat' ((conv => whnf); first | refine ⟨?_, True.intro⟩ | refine brn_t rfl ?_ | refine brn_f rfl ?_ | refine ob rfl ?_ | refine ob (by decide) ?_ | refine grow_same (Mem.le_refl _) ?_ | refine ob (Mem.le_refl _) ?_ | refine ⟨_, Mem.le_refl _, ?_⟩ | fail)
  refine on ((h.le hle1).self.c1 rfl) ?_
  (conv => whnf)
  refine (h.le hle1).map.get strK s (fun hn => ?_) (fun x j hx => ?_)
  · have e : thereE D s = 4 := by unfold thereE; rw [if_neg (by simp [g1]), if_pos (hr.none.1 hn)]
    repeat' ((conv => whnf); first | refine ⟨?_, True.intro⟩ | refine brn_t rfl ?_ | refine brn_f rfl ?_ | refine ob rfl ?_ | refine ob (by decide) ?_ | refine grow_same (Mem.le_refl _) ?_ | refine ob (Mem.le_refl _) ?_ | refine ⟨_, Mem.le_refl _, ?_⟩ | fail)
    exact ⟨hle1, .inl ⟨by rw [e]; decide, by rw [e]⟩⟩
  · have e : thereE D s = 0 := by
      unfold thereE
      rw [if_neg (by simp [g1]), if_neg]
      intro hf; rw [hr.none.2 hf] at hx; cases hx
    repeat' ((conv => whnf); first | refine ⟨?_, True.intro⟩ | refine brn_t rfl ?_ | refine brn_f rfl ?_ | refine ob rfl ?_ | refine ob (by decide) ?_ | refine grow_same (Mem.le_refl _) ?_ | refine ob (Mem.le_refl _) ?_ | refine ⟨_, Mem.le_refl _, ?_⟩ | fail)
    exact ⟨hle1, .inr ⟨e, x, hx, rfl⟩⟩
/-- a change was done -/
theorem changed_ok (h : DAt M p b D es) (hd : D.down = false) (l : List FileR) (hl : D.left ≤ 9223372036854775807) :
    CallsM Try.prog F.disk_Disk_changed [ptr p] M fun v M' => v = .int .i64 0 ∧ DAt M' p b (changedR D l) es ∧ Mem.keep (fun y => y = p) M M' := by
  refine fo_disk_Disk_changed (by simp) ?_
  repeat' ((conv => whnf); first | refine ⟨?_, True.intro⟩ | refine brn_t rfl ?_ | refine brn_f rfl ?_ | refine ob rfl ?_ | refine ob (by decide) ?_ | refine grow_same (Mem.le_refl _) ?_ | refine ob (Mem.le_refl _) ?_ | refine ⟨_, Mem.le_refl _, ?_⟩ | fail)
  refine on (h.self.c1 rfl) ?_
  (conv => whnf); refine brn (fun g => ?_) (fun g => ?_)
  · replace g := of_decide_eq_true g
    repeat' ((conv => whnf); first | refine ⟨?_, True.intro⟩ | refine brn_t rfl ?_ | refine brn_f rfl ?_ | refine ob rfl ?_ | refine ob (by decide) ?_ | refine grow_same (Mem.le_refl _) ?_ | refine ob (Mem.le_refl _) ?_ | refine ⟨_, Mem.le_refl _, ?_⟩ | fail)
    refine on (h.self.c1 rfl) ?_
    (conv => whnf); refine ob (inR_i64 (by omega)) ?_
    (conv => whnf); refine on h.self.cells ?_
    (conv => whnf); refine ob (by simp) ?_
    have hk1 : Mem.keep (fun y => y = p) M (M.setCells p T.disk_Disk [.int .i64 D.limit, .map (some b), .int .i64 (D.left - 1), .bool D.down]) := fun y o hy ho => by
      unfold Mem.setCells; rw [Mem.upd_ne _ _ hy]; exact ho
    have hs1 : (M.setCells p T.disk_Disk [.int .i64 D.limit, .map (some b), .int .i64 (D.left - 1), .bool D.down]).has p T.disk_Disk [.int .i64 D.limit, .map (some b), .int .i64 (D.left - 1), .bool D.down] := Mem.has_setCells
    obtain ⟨M1, hM1⟩ : ∃ M1, M1 = M.setCells p T.disk_Disk [.int .i64 D.limit, .map (some b), .int .i64 (D.left - 1), .bool D.down] := ⟨_, rfl⟩
    rw [← hM1] at hk1 hs1
    (conv => whnf)
    erw [← hM1]
    refine on (hs1.c1 rfl) ?_
    (conv => whnf); refine on hs1.cells ?_
    (conv => whnf); refine ob (by simp) ?_
    have hk2 : Mem.keep (fun y => y = p) M1 (M1.setCells p T.disk_Disk [.int .i64 D.limit, .map (some b), .int .i64 (D.left - 1), .bool (decide (D.left - 1 = 0))]) := fun y o hy ho => by
      unfold Mem.setCells; rw [Mem.upd_ne _ _ hy]; exact ho
    have hs2 : (M1.setCells p T.disk_Disk [.int .i64 D.limit, .map (some b), .int .i64 (D.left - 1), .bool (decide (D.left - 1 = 0))]).has p T.disk_Disk [.int .i64 D.limit, .map (some b), .int .i64 (D.left - 1), .bool (decide (D.left - 1 = 0))] := Mem.has_setCells
    obtain ⟨M2, hM2⟩ : ∃ M2, M2 = M1.setCells p T.disk_Disk [.int .i64 D.limit, .map (some b), .int .i64 (D.left - 1), .bool (decide (D.left - 1 = 0))] := ⟨_, rfl⟩
    rw [← hM2] at hk2 hs2
    (conv => whnf)
    erw [← hM2]
    repeat' ((conv => whnf); first | refine ⟨?_, True.intro⟩ | refine brn_t rfl ?_ | refine brn_f rfl ?_ | refine ob rfl ?_ | refine ob (by decide) ?_ | refine grow_same (Mem.le_refl _) ?_ | refine ob (Mem.le_refl _) ?_ | refine ⟨_, Mem.le_refl _, ?_⟩ | fail)
    have e : changedR D l = ⟨D.limit, l, D.left - 1, decide (D.left - 1 = 0)⟩ := by
      unfold changedR; rw [if_pos g]
      congr 1
      exact decide_eq_decide.2 ⟨fun h => by omega, fun h => by omega⟩
    rw [e]
    have hk12 := Mem.keep_trans hk1 hk2
    exact ⟨rfl, h.head ⟨D.limit, l, D.left - 1, decide (D.left - 1 = 0)⟩ hk12 hs2, hk12⟩
  · replace g := of_decide_eq_false g
    repeat' ((conv => whnf); first | refine ⟨?_, True.intro⟩ | refine brn_t rfl ?_ | refine brn_f rfl ?_ | refine ob rfl ?_ | refine ob (by decide) ?_ | refine grow_same (Mem.le_refl _) ?_ | refine ob (Mem.le_refl _) ?_ | refine ⟨_, Mem.le_refl _, ?_⟩ | fail)
    refine ⟨rfl, ?_, Mem.keep_refl _ _⟩
    have e : changedR D l = ⟨D.limit, l, D.left, D.down⟩ := by
      unfold changedR; rw [if_neg g, hd, decide_eq_false (by omega)]
    rw [e]
    exact ⟨h.self, h.map, h.ents, h.apart⟩
end Go.Proofs.Ytnlghoenbhbfhaa

