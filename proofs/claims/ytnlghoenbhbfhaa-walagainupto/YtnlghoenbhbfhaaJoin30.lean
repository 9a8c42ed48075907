/- WalAgain, plainly: opened again, nothing changes. -/
import Derived.Test.YtnlghoenbhbfhaaJoin29
import Derived.Test.YtnlghoenbhbfhaaJoin22
namespace Go.Proofs.Ytnlghoenbhbfhaa
open Go Go.Vm
variable {D E : DiskR}
/-- a disk with power, of segments -/
structure PowW (D : DiskR) : Prop where
  inv : InvD D
  nm : NamesW D
  down : D.down = false
  left : D.left = -1
def okK (k : Int) : Prop := 1 ≤ k ∧ k ≤ 99999
theorem PowW.crash (h : InvD D) (hn : NamesW D) (keep : List Int) : PowW (crashR D keep) := ⟨crashR_inv h keep, hn.crash keep, rfl, rfl⟩
theorem PowW.read (h : PowW D) {k : Int} (hk : okK k) {f : FileR} (hf : findR D.l (nameB k) = some f) : readR D (nameB k) = (f.all, 0) ∧ thereE D (nameB k) = 0 ∧ fileR D (nameB k) = f := readR_there h.down (nameB_size hk) hf
theorem PowW.not (h : PowW D) {k : Int} (hk : okK k) (hf : findR D.l (nameB k) = none) : (readR D (nameB k)).2 = 4 := readR_not h.down (nameB_size hk) hf
theorem changed_pow (h : PowW D) (l : List FileR) : changedR D l = ⟨D.limit, l, -1, false⟩ := by unfold changedR; rw [h.left]; rfl
/-- a file is cut -/
theorem PowW.cut (h : PowW D) {k : Int} (hk : okK k) {f : FileR} (hf : findR D.l (nameB k) = some f) {m : Nat} (hm : m ≤ f.all.size) :
    (cutR D (nameB k) m).2 = 0 ∧ PowW (cutR D (nameB k) m).1 ∧ ∀ n, findR (cutR D (nameB k) m).1.l n = if n = nameB k then some ⟨nameB k, f.all.extract 0 m, .empty⟩ else findR D.l n := by
  obtain ⟨-, h2, h3⟩ := h.read hk hf
  have e : cutR D (nameB k) m = (changedR D (withR D.l ⟨nameB k, f.all.extract 0 m, .empty⟩), 0) := by
    unfold cutR
    rw [if_neg (by simp [h2]), h3, if_neg (by omega)]
    rfl
  have hi := cutR_inv h.inv (nameB k) (m : Int)
  have hn := h.nm.cut k (m : Int)
  rw [e] at hi hn ⊢
  refine ⟨rfl, ⟨hi, hn, by rw [changed_pow h], by rw [changed_pow h]⟩, fun n => ?_⟩
  exact findR_with h.inv.sort _ n
theorem PowW.remove (h : PowW D) {k : Int} (hk : okK k) {f : FileR} (hf : findR D.l (nameB k) = some f) :
    (removeR D (nameB k)).2 = 0 ∧ PowW (removeR D (nameB k)).1 ∧ ∀ n, findR (removeR D (nameB k)).1.l n = if n = nameB k then none else findR D.l n := by
  obtain ⟨-, h2, -⟩ := h.read hk hf
  have e : removeR D (nameB k) = (changedR D (withoutR D.l (nameB k)), 0) := by unfold removeR; rw [if_neg (by simp [h2])]
  have hi := removeR_inv h.inv (nameB k)
  have hn := h.nm.remove (nameB k)
  rw [e] at hi hn ⊢
  refine ⟨rfl, ⟨hi, hn, by rw [changed_pow h], by rw [changed_pow h]⟩, fun n => ?_⟩
  exact findR_without h.inv.sort _ n
theorem name_okK {j k : Int} (hj : okK j) (hk : okK k) : nameB j = nameB k ↔ j = k := ⟨fun e => name_inj (by unfold okK at hj; omega) (by unfold okK at hk; omega) e, fun e => by rw [e]⟩
theorem removeAll_pow : ∀ {ks : List Int} {D : DiskR}, PowW D → ks.Nodup → (∀ k ∈ ks, okK k ∧ ∃ f, findR D.l (nameB k) = some f) →
    (removeAll D ks).2 = 0 ∧ PowW (removeAll D ks).1 ∧ ∀ k, okK k → findR (removeAll D ks).1.l (nameB k) = if k ∈ ks then none else findR D.l (nameB k)
  | [], D, h, _, _ => ⟨rfl, h, fun k _ => by simp [removeAll]⟩
  | k :: r, D, h, hn, hk => by
    obtain ⟨h1, f, h2⟩ := hk k (by simp)
    obtain ⟨g1, g2, g3⟩ := h.remove h1 h2
    rw [List.nodup_cons] at hn
    rw [removeAll, if_neg (by simp [g1])]
    obtain ⟨a1, a2, a3⟩ := removeAll_pow g2 hn.2 fun j hj => by
      obtain ⟨b1, f2, b2⟩ := hk j (by simp [hj])
      refine ⟨b1, f2, ?_⟩
      have hne : ¬ nameB j = nameB k := fun e => hn.1 ((name_okK b1 h1).1 e ▸ hj)
      rw [g3, if_neg hne]
      exact b2
    refine ⟨a1, a2, fun j hj => ?_⟩
    rw [a3 j hj]
    have g := g3 (nameB j)
    by_cases e : j = k
    · rw [if_pos (congrArg nameB e)] at g
      rw [g, e]
      simp
    · have hne : ¬ nameB j = nameB k := fun q => e ((name_okK hj h1).1 q)
      rw [if_neg hne] at g
      by_cases e2 : j ∈ r
      · rw [if_pos e2, if_pos (by simp [e2])]
      · rw [if_neg e2, if_neg (by simp [e, e2]), g]
/-- one goes through the files; gone through again the same is found -/
theorem openLoop_pow : ∀ (f : Nat) (D : DiskR) (next la : Int) (all : List (List UInt8)), PowW D → 1 ≤ next → next ≤ 100000 → f = (100000 - next).toNat →
    ∃ (E : DiskR) (nx la2 : Int) (all2 : List (List UInt8)), openLoop f D next la all = (E, nx, la2, all2, 0) ∧ PowW E ∧ next ≤ nx ∧ nx ≤ 100000 ∧
      (∀ k, okK k → k < next → findR E.l (nameB k) = findR D.l (nameB k)) ∧
      ∀ E', PowW E' → (∀ k, okK k → next ≤ k → k < nx → findR E'.l (nameB k) = findR E.l (nameB k)) → (nx ≤ 99999 → findR E'.l (nameB nx) = none) → openLoop f E' next la all = (E', nx, la2, all2, 0)
  | 0, D, next, la, all, h, h1, h2, hf => ⟨D, next, la, all, rfl, h, Int.le_refl _, h2, fun _ _ _ => rfl, fun E' _ _ _ => rfl⟩
  | f + 1, D, next, la, all, h, h1, h2, hf => by
    have hk : okK next := ⟨h1, by omega⟩
    have stop : ∀ (f : Nat) (E' : DiskR) (nx la2 : Int) (all2 : List (List UInt8)), PowW E' → 1 ≤ nx → f = (100000 - nx).toNat → (nx ≤ 99999 → findR E'.l (nameB nx) = none) → openLoop f E' nx la2 all2 = (E', nx, la2, all2, 0) := fun f E' nx la2 all2 hE hnx hff hno => by
      cases f with
      | zero => rfl
      | succ f =>
        have hk2 : okK nx := ⟨hnx, by omega⟩
        rw [openLoop, if_pos (.inr (hE.not hk2 (hno hk2.2)))]
    cases hfi : findR D.l (nameB next) with
    | none => exact ⟨D, next, la, all, stop (f + 1) D next la all h h1 hf (fun _ => hfi), h, Int.le_refl _, h2, fun _ _ _ => rfl, fun E' hE _ hno => stop (f + 1) E' next la all hE h1 hf hno⟩
    | some x =>
      obtain ⟨r1, r2, r3⟩ := h.read hk hfi
      obtain ⟨s1, s2, s3⟩ := scanR_inv (bl x.all).length (bl x.all) (Nat.le_refl _)
      have whole : ∀ (E' : DiskR) (y : FileR), PowW E' → findR E'.l (nameB next) = some y → lenR (scanR (bl y.all)) = (bl y.all).length → openLoop (f + 1) E' next la all = openLoop f E' (next + 1) next (all ++ scanR (bl y.all)) := fun E' y hE hy hw => by
        obtain ⟨q1, q2, q3⟩ := hE.read hk hy
        rw [openLoop, q1]
        dsimp only
        rw [if_neg (by have := hk.2; omega), if_neg (by simp), if_neg (by omega)]
      by_cases hw : lenR (scanR (bl x.all)) = (bl x.all).length
      · obtain ⟨E, nx, la2, all2, a1, a2, a3, a4, a5, a6⟩ := openLoop_pow f D (next + 1) next (all ++ scanR (bl x.all)) h (by omega) (by have := hk.2; omega) (by omega)
        refine ⟨E, nx, la2, all2, by rw [whole D x h hfi hw]; exact a1, a2, by omega, a4, fun k hk2 hlt => a5 k hk2 (by omega), fun E' hE hag hno => ?_⟩
        have hx : findR E'.l (nameB next) = some x := by rw [hag next hk (Int.le_refl _) (by omega), a5 next hk (by omega)]; exact hfi
        rw [whole E' x hE hx hw]
        exact a6 E' hE (fun k hk2 h3 h4 => hag k hk2 (by omega) h4) hno
      · have hsz : (bl x.all).length = x.all.size := bl_len _
        obtain ⟨c1, c2, c3⟩ := h.cut hk hfi (m := lenR (scanR (bl x.all))) (by omega)
        refine ⟨_, next + 1, next, all ++ scanR (bl x.all), ?_, c2, by omega, by have := hk.2; omega, fun k hk2 hlt => ?_, fun E' hE hag hno => ?_⟩
        · rw [openLoop, r1]
          dsimp only
          rw [if_neg (by have := hk.2; omega), if_neg (by simp), if_pos (by omega), if_neg (by simp [c1])]
        · rw [c3, if_neg (by rw [name_okK hk2 hk]; omega)]
        · have hx := hag next hk (Int.le_refl _) (by omega)
          rw [c3, if_pos rfl] at hx
          have hb : bl (FileR.all ⟨nameB next, x.all.extract 0 (lenR (scanR (bl x.all))), .empty⟩) = (bl x.all).take (lenR (scanR (bl x.all))) := by
            unfold FileR.all
            dsimp only
            rw [bl_append, bl_extract, bl_empty, List.append_nil]
          have hag2 := scanR_again (bl x.all)
          rw [whole E' _ hE hx (by rw [hb, hag2, List.length_take]; omega), hb, hag2]
          exact stop f E' (next + 1) next _ hE (by omega) (by omega) hno
theorem nodup_num (h : PowW D) : (D.l.map fun f => numR f.name).Nodup := by
  unfold List.Nodup
  rw [List.pairwise_map]
  refine List.Pairwise.imp_of_mem (fun {x y} hx hy hxy e => ?_) h.inv.sort
  have h1 := (h.nm.num hx).2
  have h2 := (h.nm.num hy).2
  rw [h1, h2, e, lessT_irrefl] at hxy
  cases hxy
/-- opened, and opened again -/
theorem open_again (h : PowW D) (size : Int) : ∃ (E : DiskR) (la : Int) (all : List (List UInt8)), openR D (L0 1 size) = (E, { L0 1 size with last := la }, all, 0) ∧ PowW E ∧ openR E (L0 1 size) = (E, { L0 1 size with last := la }, all, 0) := by
  have seg1 : ∀ {D : DiskR}, PowW D → segsR D (fun k => decide (k < (L0 1 size).first)) = [] := fun {D} h => segs_none fun f hf => by
    have := (h.nm.num hf).1
    exact decide_eq_false (by show ¬ numR f.name < 1; omega)
  have hfu : (100000 - (L0 1 size).first).toNat = 99999 := by show (100000 - (1 : Int)).toNat = 99999; decide
  have form : ∀ {D : DiskR}, PowW D → ∀ {E : DiskR} {nx la : Int} {all : List (List UInt8)}, openLoop 99999 D 1 1 [] = (E, nx, la, all, 0) →
      openR D (L0 1 size) = ((removeAll E (segsR E fun k => decide (nx ≤ k)).reverse).1, { L0 1 size with last := la }, all, (removeAll E (segsR E fun k => decide (nx ≤ k)).reverse).2) := fun {D} h {E nx la all} he => by
    have he' : openLoop 99999 D (L0 1 size).first (L0 1 size).last [] = (E, nx, la, all, 0) := he
    unfold openR
    rw [seg1 h]
    simp only [removeAll, hfu, he']
    simp
  obtain ⟨E, nx, la, all, a1, a2, a3, a4, -, a6⟩ := openLoop_pow 99999 D 1 1 [] h (by omega) (by omega) (by decide)
  have hks : ((segsR E fun k => decide (nx ≤ k)).reverse).Nodup := by
    have : (segsR E fun k => decide (nx ≤ k)).Nodup := (nodup_num a2).filter _
    unfold List.Nodup
    rw [List.pairwise_reverse]
    exact List.Pairwise.imp (fun h => Ne.symm h) this
  have hmem : ∀ k, k ∈ (segsR E fun k => decide (nx ≤ k)).reverse ↔ ∃ f ∈ E.l, numR f.name = k ∧ nx ≤ k := fun k => by
    rw [List.mem_reverse]
    unfold segsR
    rw [List.mem_filter, List.mem_map]
    constructor
    · rintro ⟨⟨f, hf, rfl⟩, hk⟩; exact ⟨f, hf, rfl, of_decide_eq_true hk⟩
    · rintro ⟨f, hf, rfl, hk⟩; exact ⟨⟨f, hf, rfl⟩, decide_eq_true hk⟩
  obtain ⟨r1, r2, r3⟩ := removeAll_pow a2 hks fun k hk => by
    obtain ⟨f, hf, rfl, -⟩ := (hmem k).1 hk
    obtain ⟨h1, h2⟩ := a2.nm.num hf
    exact ⟨⟨by omega, by omega⟩, f, (findR_some a2.inv.sort).2 ⟨hf, h2⟩⟩
  obtain ⟨G, hG⟩ : ∃ G, G = (removeAll E (segsR E fun k => decide (nx ≤ k)).reverse).1 := ⟨_, rfl⟩
  have hform := form h a1
  rw [r1, ← hG] at hform
  rw [← hG] at r2 r3
  have hlow : ∀ f ∈ G.l, ¬ nx ≤ numR f.name := fun f hf hle => by
    obtain ⟨h1, h2⟩ := r2.nm.num hf
    have hk : okK (numR f.name) := ⟨by omega, by omega⟩
    have hg := (findR_some r2.inv.sort).2 ⟨hf, h2⟩
    rw [r3 _ hk] at hg
    split at hg
    · cases hg
    · rename_i hno
      obtain ⟨h3, h4⟩ := (findR_some a2.inv.sort).1 hg
      exact hno ((hmem _).2 ⟨f, h3, rfl, hle⟩)
  have hagain := a6 G r2 (fun k hk h1 h2 => by
    rw [r3 k hk, if_neg fun hm => ?_]
    obtain ⟨_, _, _, h3⟩ := (hmem k).1 hm
    omega) fun hnx => by
      rw [findR_none]
      intro f hf e
      refine hlow f hf ?_
      rw [e, numR_name (by omega)]
      exact Int.le_refl _
  refine ⟨G, la, all, hform, r2, ?_⟩
  rw [form r2 hagain]
  have : segsR G (fun k => decide (nx ≤ k)) = [] := segs_none fun f hf => decide_eq_false (hlow f hf)
  rw [this]
  rfl
end Go.Proofs.Ytnlghoenbhbfhaa

/- WalAgain: Log.Size; bounds of the last segment. -/
namespace Go.Proofs.Ytnlghoenbhbfhaa
open Go Go.Vm
attribute [local irreducible] Brn Ob Grow CallsM inR LoopVC Mem.row Mem.cells Mem.setCells Mem.upd Go.Vm.Own AppVC SrcVC StrVC NextVC New SrcOk subA NewSl Mem.textAt Mem.mapAt Mem.iterAt entryOf kfind Wr NewEls Elems
set_option maxRecDepth 10000
variable {M M0 : Mem} {g p b : Nat} {D : DiskR} {es : FsT}
theorem beginL_le (D : DiskR) (L : LogR) : L.last ≤ (beginL D L).2.1.last ∧ (beginL D L).2.1.last ≤ L.last + 1 := by
  have h := (syncL_last D L).1
  unfold beginL
  repeat' split
  all_goals (dsimp only; omega)
theorem appendL_le (D : DiskR) (L : LogR) (q : List UInt8) : L.last ≤ (appendL D L q).2.1.last ∧ (appendL D L q).2.1.last ≤ L.last + 1 := by
  have h := beginL_le D L
  have hr : L.last ≤ (roomL D L (putB q).length).2.1.last ∧ (roomL D L (putB q).length).2.1.last ≤ L.last + 1 := by
    unfold roomL; split
    · exact h
    · dsimp only; omega
  unfold appendL
  repeat' split
  all_goals first | exact hr | (dsimp only [downL]; omega)
theorem NamesW.syncL (h : NamesW D) (L : LogR) : NamesW (syncL D L).1 := by
  unfold Go.Proofs.Ytnlghoenbhbfhaa.syncL; repeat' split
  all_goals first | exact h | exact h.sync _
theorem NamesW.beginL (h : NamesW D) (L : LogR) : NamesW (beginL D L).1 := by
  unfold Go.Proofs.Ytnlghoenbhbfhaa.beginL; repeat' split
  all_goals exact h.syncL L
theorem NamesW.appendL (h : NamesW D) (L : LogR) (q : List UInt8) : NamesW (appendL D L q).1 := by
  have hr : NamesW (roomL D L (putB q).length).1 := by
    unfold roomL; split
    · exact h.beginL L
    · exact h
  unfold Go.Proofs.Ytnlghoenbhbfhaa.appendL; repeat' split
  all_goals first | exact h | exact hr | exact hr.append _ _
theorem read_le (h : InvD D) (s : ByteArray) : (readR D s).1.size ≤ 1048576 := by
  have hu := h.used
  unfold readR
  split
  · exact Nat.zero_le _
  · rename_i g
    have h1 := (thereE_zero (by simpa using g)).2
    have := (without_some h.sort h1).2
    rw [all_size]; omega
theorem openLoop_len (h : InvD D) : ∀ (f : Nat) (next last : Int) (all : List (List UInt8)), (openLoop f D next last all).2.2.2.1.length ≤ all.length + f * 1048576
  | 0, _, _, all => by simp [openLoop]
  | f + 1, next, last, all => by
    have h1 : (scanR (bl (readR D (nameB next)).1)).length ≤ 1048576 := by
      obtain ⟨-, -, h1⟩ := scanR_inv (bl (readR D (nameB next)).1).length (bl (readR D (nameB next)).1) (Nat.le_refl _)
      have h3 := read_le h (nameB next)
      rw [bl_len] at h1
      have h4 : (scanR (bl (readR D (nameB next)).1)).length ≤ lenR (scanR (bl (readR D (nameB next)).1)) := by
        generalize scanR (bl (readR D (nameB next)).1) = ps
        clear h1
        induction ps with
        | nil => simp
        | cons q qs ih => simp only [lenR, List.map_cons, List.sum_cons, List.length_cons] at ih ⊢; omega
      omega
    have ih := openLoop_len h f (next + 1) next (all ++ scanR (bl (readR D (nameB next)).1))
    rw [List.length_append] at ih
    rw [openLoop]
    repeat' split
    all_goals first | exact Nat.le_trans ih (by omega) | (dsimp only; first | (rw [List.length_append]; omega) | (rw [List.length_nil]; omega) | omega)
theorem openR_len (h : InvD D) (hW : NamesW D) (size : Int) : (openR D (L0 1 size)).2.2.1.length ≤ 4000000000000 := by
  have h0 : removeAll D (segsR D fun k => decide (k < (L0 1 size).first)) = (D, 0) := by
    have : segsR D (fun k => decide (k < (L0 1 size).first)) = [] := segs_none fun f hf => by
      have := (hW.num hf).1
      exact decide_eq_false (by show ¬ numR f.name < 1; omega)
    rw [this]; rfl
  have h1 := openLoop_len h (100000 - (L0 1 size).first).toNat (L0 1 size).first (L0 1 size).last []
  have h2 : (100000 - (L0 1 size).first).toNat = 99999 := by show (100000 - (1 : Int)).toNat = 99999; decide
  rw [h2] at h1
  unfold openR
  rw [h0, h2]
  dsimp only
  repeat' split
  all_goals first | exact Nat.zero_le _ | (simp only [List.length_nil] at h1 ⊢; omega)
/-- the bytes of a log -/
def sizeL (D : DiskR) (L : LogR) : Int := ((segsR D fun k => decide (L.first ≤ k) && decide (k ≤ L.last)).map fun k => ((readR D (nameB k)).1.size : Int)).sum
theorem size_ok {L : LogR} (h : LogAt M0 M g p b D es L) (hW : NamesW D) : CallsM Try.prog F.wal_Log_Size [ptr g] M fun v M' => v = .int .i64 (sizeL D L) ∧ M.le M' := by
  refine fo_wal_Log_Size (by simp) ?_
  repeat' ((conv => whnf); first | refine ⟨?_, True.intro⟩ | refine brn_t rfl ?_ | refine brn_f rfl ?_ | refine ob rfl ?_ | refine ob (by decide) ?_ | refine grow_same (Mem.le_refl _) ?_ | refine ob (Mem.le_refl _) ?_ | refine ⟨_, Mem.le_refl _, ?_⟩ | fail)
  refine new (fun bq hbl => ?_)
  replace hbl : M bq = none := hbl
  have hle1 : M.le (M.setCells bq T.p_wal_Log [ptr g]) := Mem.le_setCells hbl
  have hb1 : (M.setCells bq T.p_wal_Log [ptr g]).has bq T.p_wal_Log [ptr g] := Mem.has_setCells
  obtain ⟨M1, hM1⟩ : ∃ M1, M1 = M.setCells bq T.p_wal_Log [ptr g] := ⟨_, rfl⟩
  rw [← hM1] at hle1 hb1
  (conv => whnf)
  erw [← hM1]
  have h1 := h.to hle1
  refine (segs_ok h1 hW (pickS_ok hb1 h1.self)).mono ?_
  rintro v M2 ⟨a2, n2, c2, rfl, hn2, hN2⟩
  have hle2 := hN2.le
  have h2 := h1.to hle2
  have hb2 := hb1.le hle2
  have hsl : n2 ≤ 64 := by
    have := h.disk.inv.len
    rw [hn2]
    refine Nat.le_trans (List.length_filter_le _ _) ?_
    simpa using this
  have hs2 := hN2.src
  have hsz : sizeL D L = ((segsR D fun k => decide (L.first ≤ k) && decide (k ≤ L.last)).map fun k => ((readR D (nameB k)).1.size : Int)).sum := rfl
  generalize (segsR D fun k => decide (L.first ≤ k) && decide (k ≤ L.last)) = ks at hn2 hs2 hsz
  clear hN2
  rw [hsz]
  (conv => whnf)
  refine loopF (σ := Nat × Mem × Int) [14, 3] (fun y => [(14, .int .i64 y.1), (3, .int .i64 y.2.2)]) (fun _ => [.gone bq]) (fun y => y.2.1)
    (fun | ⟨i, Mc, s⟩ => i ≤ n2 ∧ M2.le Mc ∧ s = ((ks.take i).map fun k => ((readR D (nameB k)).1.size : Int)).sum ∧ 0 ≤ s ∧ s ≤ i * 1048576) (fun y => n2 - y.1) ⟨0, M2, 0⟩ ⟨by omega, Mem.le_refl _, by simp, by omega, by simp⟩ ⟨(by repeat' first | exact True.intro | refine ⟨rfl, ?_⟩), (by repeat' first | exact True.intro | refine ⟨rfl, ?_⟩), Mem.le_refl _, rfl⟩ ?_
  rintro ⟨i, Mc, s⟩ ⟨hi, hle, hs, hs0, hsm⟩
  (conv => whnf); refine brn (fun e => ?_) (fun e => ?_)
  · have hlt : i < n2 := by have := of_decide_eq_true e; dsimp only at this; omega
    obtain ⟨hk1, b1, o1, e1, hr1⟩ := (hs2.le hle).at hlt
    have htk : ((ks.take (i + 1)).map fun k => ((readR D (nameB k)).1.size : Int)).sum = s + ((readR D (nameB ks[i])).1.size : Int) := by
      rw [List.take_add_one, List.getElem?_eq_getElem hk1, List.map_append, List.sum_append, ← hs]; simp
    have hrl := read_le h.disk.inv (nameB ks[i])
    generalize ks[i] = k at *
    (conv => whnf); refine ob (by first | omega | (dsimp only; omega)) ?_
    (conv => whnf); refine atp e1 ?_
    (conv => whnf); refine on hr1 ?_
    repeat' ((conv => whnf); first | refine ⟨?_, True.intro⟩ | refine brn_t rfl ?_ | refine brn_f rfl ?_ | refine ob rfl ?_ | refine ob (by decide) ?_ | refine grow_same (Mem.le_refl _) ?_ | refine ob (Mem.le_refl _) ?_ | refine ⟨_, Mem.le_refl _, ?_⟩ | fail)
    refine on ((hb2.le hle).c1 rfl) ?_
    repeat' ((conv => whnf); first | refine ⟨?_, True.intro⟩ | refine brn_t rfl ?_ | refine brn_f rfl ?_ | refine ob rfl ?_ | refine ob (by decide) ?_ | refine grow_same (Mem.le_refl _) ?_ | refine ob (Mem.le_refl _) ?_ | refine ⟨_, Mem.le_refl _, ?_⟩ | fail)
    refine on ((h2.to hle).self.c1 rfl) ?_
    repeat' ((conv => whnf); first | refine ⟨?_, True.intro⟩ | refine brn_t rfl ?_ | refine brn_f rfl ?_ | refine ob rfl ?_ | refine ob (by decide) ?_ | refine grow_same (Mem.le_refl _) ?_ | refine ob (Mem.le_refl _) ?_ | refine ⟨_, Mem.le_refl _, ?_⟩ | fail)
    refine (name_ok k).mono ?_
    rintro v M3 ⟨rfl, hle3⟩
    have h3 := (h2.to hle).to hle3
    repeat' ((conv => whnf); first | refine ob rfl ?_ | refine grow_same hle3 ?_ | refine ob hle3 ?_ | refine ⟨?_, True.intro⟩ | fail)
    repeat' ((conv => whnf); first | refine ⟨?_, True.intro⟩ | refine brn_t rfl ?_ | refine brn_f rfl ?_ | refine ob rfl ?_ | refine ob (by decide) ?_ | refine grow_same (Mem.le_refl _) ?_ | refine ob (Mem.le_refl _) ?_ | refine ⟨_, Mem.le_refl _, ?_⟩ | fail)
    refine (readF h3.disk (name_size k)).mono ?_
    rintro v M4 ⟨a4, n4, c4, rfl, hn4, hN4⟩
    rw [bl_len] at hn4
    repeat' ((conv => whnf); first | refine ⟨?_, True.intro⟩ | refine brn_t rfl ?_ | refine brn_f rfl ?_ | refine ob rfl ?_ | refine ob (by decide) ?_ | refine grow_same (Mem.le_refl _) ?_ | refine ob (Mem.le_refl _) ?_ | refine ⟨_, Mem.le_refl _, ?_⟩ | fail)
    refine ob (inR_i64 (by first | omega | (dsimp only; omega))) ?_
    (conv => whnf); refine ob (inR_i64 (by first | omega | (dsimp only; omega))) ?_
    (conv => whnf)
    exact ⟨⟨i + 1, M4, s + (n4 : Int)⟩, ⟨by omega, Mem.le_trans hle (Mem.le_trans hle3 hN4.le), by rw [htk, hn4], by omega, by omega⟩, by dsimp only; omega, ⟨(by repeat' first | exact True.intro | refine ⟨rfl, ?_⟩), (by repeat' first | exact True.intro | refine ⟨rfl, ?_⟩), Mem.le_refl _, rfl⟩⟩
  · have hge : i = n2 := by have := of_decide_eq_false e; dsimp only at this; omega
    subst hge
    rw [List.take_of_length_le (by omega)] at hs
    repeat' ((conv => whnf); first | refine ⟨?_, True.intro⟩ | refine brn_t rfl ?_ | refine brn_f rfl ?_ | refine ob rfl ?_ | refine ob (by decide) ?_ | refine grow_same (Mem.le_refl _) ?_ | refine ob (Mem.le_refl _) ?_ | refine ⟨_, Mem.le_refl _, ?_⟩ | fail)
    exact ⟨by rw [hs], Mem.le_trans hle1 (Mem.le_trans hle2 hle)⟩
end Go.Proofs.Ytnlghoenbhbfhaa

