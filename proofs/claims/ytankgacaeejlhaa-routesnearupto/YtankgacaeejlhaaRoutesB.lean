/- Tables of ways: what a destination costs, and by whom one comes there. -/
import Derived.Test.YtankgacaeejlhaaRoutesA
namespace Go.Proofs.Ytankgacaeejlhaa
open Go Go.Vm
attribute [local irreducible] Brn Ob CallsM inR LoopVC Mem.row Mem.cells Mem.setCells Mem.upd Own AppVC SrcVC StrVC NextVC New SrcOk subA NewSl Mem.textAt Mem.mapAt Mem.iterAt entryOf kfind Wr NewEls Elems
set_option maxRecDepth 10000
variable {M : Mem} {p b1 b2 : Nat} {a : Option Addr} {n c : Nat} {me age : Int} {nb : List Int} {st : List (Int × Int)} {m : List (Int × Hd)}
theorem TabAt.le {M' : Mem} (ht : TabAt M p b1 b2 a n c me age nb st m) (h : M.le M') : TabAt M' p b1 b2 a n c me age nb st m :=
  ⟨ht.self.le h, ht.n1, ht.n2, ht.n12, ht.nbs.le h, ht.na, ht.set.mono fun o => h _ o, ht.hrd.mono fun o => h _ o⟩
/-- the least of what was said -/
def lst (d : Int) (l : List (Int × Hd)) : Int := l.foldr (fun q x => min (min 16 (q.2.c d.toNat + 1)) x) 16
theorem lst_perm {d : Int} {l r : List (Int × Hd)} (h : l.Perm r) : lst d l = lst d r := by
  induction h with
  | nil => rfl
  | cons q _ ih => simp only [lst, List.foldr_cons] at ih ⊢; rw [ih]
  | swap q r l => simp only [lst, List.foldr_cons]; omega
  | trans _ _ h1 h2 => exact h1.trans h2
theorem lst_top (d : Int) (l : List (Int × Hd)) : lst d l ≤ 16 := by
  cases l with
  | nil => exact Int.le_refl _
  | cons q l => simp only [lst, List.foldr_cons]; omega
def costOf (me : Int) (st : List (Int × Int)) (m : List (Int × Hd)) (d : Int) : Int :=
  if isNode d then (if d = me then 0 else match aget st d with | some via => byC m d via | none => lst d m) else 16
theorem Cost_ok (ht : TabAt M p b1 b2 a n c me age nb st m) (hg : GoodM m) (d : Int) : CallsM Try.prog F.routes_Table_Cost [ptr p, .int .i64 d] M fun v M' => v = .int .i64 (costOf me st m d) ∧ M.le M' := by
  refine fo_routes_Table_Cost (by simp) ?_
  (conv => whnf); refine brn_f rfl ?_
  (conv => whnf); refine (node_ok d M).mono ?_
  rintro v _ ⟨rfl, rfl⟩
  (conv => whnf); refine brn (fun h => ?_) (fun h => ?_)
  · (conv => whnf)
    exact ⟨by simp at h; simp [costOf, h], Mem.le_refl _⟩
  have hd : isNode d = true := by simpa using h
  have hd' : 0 ≤ d ∧ d < 64 := by simpa [isNode] using hd
  (conv => whnf); refine on (ht.self.c1 rfl) ?_
  (conv => whnf); refine brn (fun h => ?_) (fun h => ?_)
  · (conv => whnf)
    exact ⟨by simp at h; subst h; simp [costOf, hd], Mem.le_refl _⟩
  have hne : d ≠ me := by simpa using h
  (conv => whnf); refine on (ht.self.c1 rfl) ?_
  (conv => whnf)
  refine ht.set.get intKey d (fun h => ?_) (fun via j hh => ?_)
  · repeat' ((conv => whnf); first | refine ⟨?_, True.intro⟩ | refine brn_t rfl ?_ | refine brn_f rfl ?_ | refine ob rfl ?_ | refine ob (by decide) ?_ | refine ob (Mem.le_refl _) ?_ | refine ⟨_, Mem.le_refl _, ?_⟩ | fail)
    refine on (ht.self.c1 rfl) ?_
    (conv => whnf)
    refine ht.hrd.range fun q bi hbi hI => ?_
    replace hbi : M bi = none := hbi
    (conv => whnf)
    refine loopF (σ := Mem × Int × List (Int × Hd)) [7] (fun x => [(7, .int .i64 x.2.1)]) (fun _ => []) (fun x => x.1)
      (fun | ⟨M1, x, todo⟩ => M.le M1 ∧ Iter intV Hd.v M1 bi b2 m todo ∧ x ≤ 16 ∧ min x (lst d todo) = lst d m) (fun x => x.2.2.length) ⟨_, 16, m⟩
      ⟨Mem.le_upd hbi, hI, by omega, by have := lst_top d m; omega⟩ ⟨(by repeat' first | exact True.intro | refine ⟨rfl, ?_⟩), (by repeat' first | exact True.intro | refine ⟨rfl, ?_⟩), Mem.le_refl _, rfl⟩ ?_
    rintro ⟨M1, x, todo⟩ ⟨hle, hI1, hx, hl⟩
    (conv => whnf)
    refine hI1.next (fun h0 => ?_) (fun i k todo' o' hperm hI2 hent => ?_)
    · subst h0
      repeat' ((conv => whnf); first | refine ⟨?_, True.intro⟩ | refine brn_t rfl ?_ | refine brn_f rfl ?_ | refine ob rfl ?_ | refine ob (by decide) ?_ | refine ob (Mem.le_refl _) ?_ | refine ⟨_, Mem.le_refl _, ?_⟩ | fail)
      refine ⟨?_, hle⟩
      have : lst d [] = 16 := rfl
      simp only [costOf, hd, hne, h, if_true, if_false]
      congr 1
      omega
    · have hle2 : M.le (M1.upd bi o') := fun b o hb => by
        rw [Mem.upd_ne _ _ (fun e => by subst e; rw [hbi] at hb; cases hb)]; exact hle _ _ hb
      obtain ⟨M2, hM2⟩ : ∃ M2, M2 = M1.upd bi o' := ⟨_, rfl⟩
      rw [← hM2] at hI2 hent hle2
      (conv => whnf)
      erw [← hM2]
      repeat' ((conv => whnf); first | refine ⟨?_, True.intro⟩ | refine brn_t rfl ?_ | refine brn_f rfl ?_ | refine ob rfl ?_ | refine ob (by decide) ?_ | refine ob (Mem.le_refl _) ?_ | refine ⟨_, Mem.le_refl _, ?_⟩ | fail)
      refine on hent ?_
      (conv => whnf); refine (cost_ok (ht.le hle2) hg d i hd').mono ?_
      rintro v _ ⟨rfl, rfl⟩
      (conv => whnf)
      have hmem : (i, k) ∈ m := hI1.todo_sub _ (hperm.mem_iff.2 (by simp))
      have hget : aget m i = some k := aget_of_mem ht.hrd.nodup hmem
      have hby : byC m d i = min 16 (k.c d.toNat + 1) := by simp [byC, hget]
      rw [hby]
      refine ⟨⟨M2, min x (min 16 (k.c d.toNat + 1)), todo'⟩, ⟨hle2, hI2, by omega, ?_⟩, by have := hperm.length_eq; simp at this ⊢; omega, ⟨(by repeat' first | exact True.intro | refine ⟨rfl, ?_⟩), (by repeat' first | exact True.intro | refine ⟨rfl, ?_⟩), Mem.le_refl _, rfl⟩⟩
      rw [lst_perm hperm] at hl
      simp only [lst, List.foldr_cons] at hl ⊢
      omega
  · repeat' ((conv => whnf); first | refine ⟨?_, True.intro⟩ | refine brn_t rfl ?_ | refine brn_f rfl ?_ | refine ob rfl ?_ | refine ob (by decide) ?_ | refine ob (Mem.le_refl _) ?_ | refine ⟨_, Mem.le_refl _, ?_⟩ | fail)
    (conv => whnf); refine (cost_ok ht hg d via hd').mono ?_
    rintro v _ ⟨rfl, rfl⟩
    (conv => whnf)
    exact ⟨by simp [costOf, hd, hne, hh], Mem.le_refl _⟩
/-- the next hop -/
def nextOf (me : Int) (nb : List Int) (st : List (Int × Int)) (m : List (Int × Hd)) (d : Int) : Option Int :=
  if isNode d && decide (d ≠ me) then (match aget st d with
    | some via => some via
    | none => if costOf me st m d < 16 then nb.find? (fun k => decide (byC m d k = costOf me st m d)) else none) else none
def optT (o : Option Int) : Value := match o with | some k => .tuple #[.int .i64 k, .bool true] | none => .tuple #[.int .i64 0, .bool false]
theorem Next_ok (ht : TabAt M p b1 b2 a n c me age nb st m) (hg : GoodM m) (hn : n ≤ 4194304) (d : Int) : CallsM Try.prog F.routes_Table_Next [ptr p, .int .i64 d] M fun v M' => v = optT (nextOf me nb st m d) ∧ M.le M' := by
  refine fo_routes_Table_Next (by simp) ?_
  (conv => whnf); refine brn_f rfl ?_
  (conv => whnf); refine (node_ok d M).mono ?_
  rintro v _ ⟨rfl, rfl⟩
  (conv => whnf); refine brn (fun h => ?_) (fun h => ?_)
  · (conv => whnf)
    exact ⟨by simp at h; simp [nextOf, h, optT], Mem.le_refl _⟩
  have hd : isNode d = true := by simpa using h
  have hd' : 0 ≤ d ∧ d < 64 := by simpa [isNode] using hd
  (conv => whnf); refine on (ht.self.c1 rfl) ?_
  (conv => whnf); refine brn (fun h => ?_) (fun h => ?_)
  · (conv => whnf)
    exact ⟨by simp at h; simp [nextOf, hd, h, optT], Mem.le_refl _⟩
  have hne : d ≠ me := by simpa using h
  (conv => whnf); refine on (ht.self.c1 rfl) ?_
  (conv => whnf)
  refine ht.set.get intKey d (fun h => ?_) (fun via j hh => ?_)
  · repeat' ((conv => whnf); first | refine ⟨?_, True.intro⟩ | refine brn_t rfl ?_ | refine brn_f rfl ?_ | refine ob rfl ?_ | refine ob (by decide) ?_ | refine ob (Mem.le_refl _) ?_ | refine ⟨_, Mem.le_refl _, ?_⟩ | fail)
    refine (Cost_ok ht hg d).mono ?_
    rintro v M1 ⟨rfl, hle⟩
    have ht1 := ht.le hle
    have hl := ht.nbs.maplen
    (conv => whnf); refine on (ht1.self.c1 rfl) ?_
    (conv => whnf)
    refine loopF (σ := Mem × Nat) [45] (fun x => [(45, .int .i64 x.2)]) (fun _ => []) (fun x => x.1)
      (fun | ⟨M2, i⟩ => M.le M2 ∧ i ≤ n ∧ (costOf me st m d < 16 → nb.find? (fun k => decide (byC m d k = costOf me st m d)) = (nb.drop i).find? (fun k => decide (byC m d k = costOf me st m d)))) (fun x => n - x.2) ⟨M1, 0⟩
      ⟨hle, by omega, fun _ => rfl⟩ ⟨(by repeat' first | exact True.intro | refine ⟨rfl, ?_⟩), (by repeat' first | exact True.intro | refine ⟨rfl, ?_⟩), Mem.le_refl _, rfl⟩ ?_
    rintro ⟨M2, i⟩ ⟨hle2, hi, hf⟩
    have ht2 := ht.le hle2
    (conv => whnf); refine brn (fun g => ?_) (fun g => ?_)
    · have hi' : i < n := by simpa using g
      obtain ⟨hlt, b, o, rfl, hrow⟩ := ht2.nbs.at (i := i) hi'
      rw [List.drop_eq_getElem_cons hlt] at hf
      (conv => whnf); refine ob (by omega) ?_
      (conv => whnf); refine on hrow ?_
      (conv => whnf); refine brn (fun g1 => ?_) (fun g1 => ?_)
      · (conv => whnf); refine (cost_ok ht2 hg d _ hd').mono ?_
        rintro v _ ⟨rfl, rfl⟩
        (conv => whnf); refine brn (fun g2 => ?_) (fun g2 => ?_)
        · (conv => whnf)
          have g1' : costOf me st m d < 16 := by simpa using g1
          have := hf g1'
          rw [List.find?_cons_of_pos (by simpa using g2)] at this
          exact ⟨by simp [nextOf, hd, hne, h, g1', this, optT], hle2⟩
        · (conv => whnf); refine ob (inR_i64 (by omega)) ?_
          (conv => whnf)
          refine ⟨⟨M2, i + 1⟩, ⟨hle2, by omega, fun hc => ?_⟩, by dsimp only; omega, ⟨(by repeat' first | exact True.intro | refine ⟨rfl, ?_⟩), (by repeat' first | exact True.intro | refine ⟨rfl, ?_⟩), Mem.le_refl _, rfl⟩⟩
          rw [hf hc, List.find?_cons_of_neg (by simpa using g2)]
      · have g1' : ¬ costOf me st m d < 16 := by simpa using g1
        (conv => whnf); refine ob (inR_i64 (by omega)) ?_
        (conv => whnf)
        refine ⟨⟨M2, i + 1⟩, ⟨hle2, by omega, fun hc => absurd hc g1'⟩, by dsimp only; omega, ⟨(by repeat' first | exact True.intro | refine ⟨rfl, ?_⟩), (by repeat' first | exact True.intro | refine ⟨rfl, ?_⟩), Mem.le_refl _, rfl⟩⟩
    · have hi' : i = n := by have : ¬ i < n := by simpa using g
                             omega
      subst hi'
      (conv => whnf)
      refine ⟨?_, hle2⟩
      rw [List.drop_of_length_le (by omega)] at hf
      by_cases hc : costOf me st m d < 16
      · simp [nextOf, hd, hne, h, hc, hf hc, optT]
      · simp [nextOf, hd, hne, h, hc, optT]
  · repeat' ((conv => whnf); first | refine ⟨?_, True.intro⟩ | refine brn_t rfl ?_ | refine brn_f rfl ?_ | refine ob rfl ?_ | refine ob (by decide) ?_ | refine ob (Mem.le_refl _) ?_ | refine ⟨_, Mem.le_refl _, ?_⟩ | fail)
    exact ⟨by simp [nextOf, hd, hne, hh, optT], Mem.le_refl _⟩
end Go.Proofs.Ytankgacaeejlhaa
