/- The disk: a crash. -/
import Derived.Test.YtdjgmhifocdelaaDiskF
namespace Go.Proofs.Ytdjgmhifocdelaa
open Go Go.Vm
attribute [local irreducible] Brn Ob Grow CallsM inR LoopVC Mem.row Mem.cells Mem.setCells Mem.upd Own AppVC SrcVC StrVC NextVC New SrcOk subA NewSl Mem.textAt Mem.mapAt Mem.iterAt entryOf kfind Wr NewEls Elems
set_option maxRecDepth 10000
variable {M : Mem} {p b : Nat} {D : DiskR} {es : FsT}
def crashTo (keep : List Int) (i : Nat) (L : List FileR) : List FileR := L.mapIdx fun j f => if j < i then crashF keep j f else f
theorem crashTo_names (keep : List Int) (i : Nat) (L : List FileR) : (crashTo keep i L).map (·.name) = L.map (·.name) := by
  apply List.ext_getElem?
  intro j
  simp only [crashTo, List.getElem?_map, List.getElem?_mapIdx, Option.map_map]
  cases L[j]? with
  | none => rfl
  | some f => simp only [Option.map_some, Function.comp_apply]; split <;> rfl
theorem sortedR_names {L L' : List FileR} (h : SortedR L) (e : L'.map (·.name) = L.map (·.name)) : SortedR L' := by
  have h1 : (L.map (·.name)).Pairwise fun x y => lessT x y = true := by rw [List.pairwise_map]; exact h
  rw [← e, List.pairwise_map] at h1
  exact h1
theorem crashTo_mem {keep : List Int} {i : Nat} {L : List FileR} {x : FileR} : x ∈ crashTo keep i L ↔ ∃ j f, L[j]? = some f ∧ x = if j < i then crashF keep j f else f := by
  unfold crashTo
  rw [List.mem_iff_getElem?]
  constructor
  · rintro ⟨j, hj⟩
    rw [List.getElem?_mapIdx] at hj
    obtain ⟨f, hf, e⟩ := Option.map_eq_some_iff.1 hj
    exact ⟨j, f, hf, e.symm⟩
  · rintro ⟨j, f, hf, rfl⟩
    exact ⟨j, by rw [List.getElem?_mapIdx, hf]; rfl⟩
theorem SortedR.idx {L : List FileR} (h : SortedR L) {i j : Nat} {f g : FileR} (hf : L[i]? = some f) (hg : L[j]? = some g) (e : f.name = g.name) : i = j := by
  obtain ⟨h1, rfl⟩ := List.getElem?_eq_some_iff.1 hf
  obtain ⟨h2, rfl⟩ := List.getElem?_eq_some_iff.1 hg
  have hp := List.pairwise_iff_getElem.1 h
  rcases Nat.lt_trichotomy i j with h3 | h3 | h3
  · have := hp i j h1 h2 h3; rw [e, lessT_irrefl] at this; cases this
  · exact h3
  · have := hp j i h2 h1 h3; rw [← e, lessT_irrefl] at this; cases this
theorem sorted_ext' {L L' : List FileR} (h : SortedR L) (h' : SortedR L') (hm : ∀ x, x ∈ L ↔ x ∈ L') : L = L' := by
  have nd : ∀ {L : List FileR}, SortedR L → L.Nodup := fun {L} h => h.imp fun {x y} hxy e => by rw [e, lessT_irrefl] at hxy; cases hxy
  refine List.Perm.eq_of_pairwise (le := fun (x y : FileR) => lessT x.name y.name = true) (fun x y _ _ h1 h2 => ?_) h h' ((List.perm_ext_iff_of_nodup (nd h) (nd h')).2 hm)
  have := lessT_trans h1 h2; rw [lessT_irrefl] at this; cases this
theorem crashTo_step {keep : List Int} {i : Nat} {L : List FileR} (h : SortedR L) {f : FileR} (hf : L[i]? = some f) : withR (crashTo keep i L) (crashF keep i f) = crashTo keep (i + 1) L := by
  have s1 : SortedR (crashTo keep i L) := sortedR_names h (crashTo_names keep i L)
  have s2 : SortedR (crashTo keep (i + 1) L) := sortedR_names h (crashTo_names keep (i + 1) L)
  refine sorted_ext' (withR_sorted s1 _) s2 fun x => ?_
  rw [withR_mem, crashTo_mem, crashTo_mem]
  constructor
  · rintro (rfl | ⟨⟨j, g, hg, rfl⟩, hne⟩)
    · exact ⟨i, f, hf, by rw [if_pos (by omega)]⟩
    · refine ⟨j, g, hg, ?_⟩
      by_cases hj : j < i
      · rw [if_pos hj, if_pos (by omega)]
      · rw [if_neg hj] at hne ⊢
        rw [if_neg]
        intro hj2
        have : j = i := by omega
        subst this
        rw [hf] at hg; cases hg
        exact hne rfl
  · rintro ⟨j, g, hg, rfl⟩
    by_cases hj : j = i
    · subst hj
      rw [hf] at hg; cases hg
      left; rw [if_pos (by omega)]
    · right
      have e : (if j < i + 1 then crashF keep j g else g) = if j < i then crashF keep j g else g := by
        by_cases hj2 : j < i
        · rw [if_pos hj2, if_pos (by omega)]
        · rw [if_neg hj2, if_neg (by omega)]
      rw [e]
      refine ⟨⟨j, g, hg, rfl⟩, fun e2 => hj (h.idx hg hf ?_)⟩
      split at e2 <;> exact e2
theorem crashTo_zero (keep : List Int) (L : List FileR) : crashTo keep 0 L = L := by
  unfold crashTo
  apply List.ext_getElem?
  intro j
  rw [List.getElem?_mapIdx]
  cases L[j]? <;> simp
theorem crashTo_all (keep : List Int) (L : List FileR) : crashTo keep L.length L = L.mapIdx fun i f => crashF keep i f := by
  unfold crashTo
  apply List.ext_getElem?
  intro j
  rw [List.getElem?_mapIdx, List.getElem?_mapIdx]
  cases hj : L[j]? with
  | none => rfl
  | some f =>
    have := (List.getElem?_eq_some_iff.1 hj).1
    simp only [Option.map_some, if_pos this]
theorem le_sum_mem : ∀ {l : List Nat} {x : Nat}, x ∈ l → x ≤ l.sum
  | y :: r, x, h => by
    rw [List.sum_cons]
    rcases List.mem_cons.1 h with rfl | h
    · omega
    · have := le_sum_mem h; omega
theorem keptN_le (keep : List Int) (i : Nat) (f : FileR) : keptN keep i f ≤ f.tail.size := by
  unfold keptN
  split
  · split
    · exact Nat.min_le_right _ _
    · omega
  · omega
theorem Crash_ok (h : DAt M p b D es) (hr : RelD es D.l) (hI : InvD D) {ka : Option Addr} {kn kc : Nat} {keep : List Int} (hk : SrcOk (M.minus (diskB p b es)) 1 ka kn (keep.map intV)) (hkn : kn ≤ 4194304) :
    CallsM Try.prog F.disk_Disk_Crash [ptr p, .slice ka kn kc] M fun v M' => v = .int .i64 0 ∧ ∃ es', StepD M M' p b es es' (crashR D keep) := by
  refine fo_disk_Disk_Crash (by simp) ?_
  have hlen := hI.len
  have hkl := hk.maplen
  repeat' ((conv => whnf); first | refine ⟨?_, True.intro⟩ | refine brn_t rfl ?_ | refine brn_f rfl ?_ | refine ob rfl ?_ | refine ob (by decide) ?_ | refine grow_same (Mem.le_refl _) ?_ | refine ob (Mem.le_refl _) ?_ | refine ⟨_, Mem.le_refl _, ?_⟩ | fail)
  refine (Names_ok h hr hI).mono ?_
  rintro v M1 ⟨na, nc, rfl, hN⟩
  have hle1 := hN.le
  obtain ⟨B, hB⟩ : ∃ B, B = M1.minus (diskB p b es) := ⟨_, rfl⟩
  have hBM : B.le M1 := hB ▸ Mem.minus_le _ _
  have hkB : SrcOk B 1 ka kn (keep.map intV) := hk.le (fun y o hy => by
    rw [hB]
    unfold Mem.minus at hy ⊢
    split at hy
    · cases hy
    · rw [if_neg ‹_›]; exact hle1 _ _ hy)
  have hnB : SrcOk B 1 na D.l.length ((D.l.map (·.name)).map strV) := hB ▸ hN.src.minus fun q hq hb => h.full hb (hN.block hq).1
  have hBn : ∀ y, diskB p b es y → B y = none := fun y hy => hB ▸ Mem.minus_in hy
  (conv => whnf)
  refine loopF (σ := Nat × Mem × FsT) [14] (fun y => [(14, .int .i64 y.1)]) (fun _ => []) (fun y => y.2.1)
    (fun | ⟨i, Mc, ec⟩ => i ≤ D.l.length ∧ B.le Mc ∧ DAt Mc p b D ec ∧ RelD ec (crashTo keep i D.l) ∧ (∀ y, diskB p b ec y → diskB p b es y)) (fun y => D.l.length - y.1) ⟨0, M1, es⟩
    ⟨by omega, hBM, h.le hle1, by rw [crashTo_zero]; exact hr, fun _ hy => hy⟩ ⟨(by repeat' first | exact True.intro | refine ⟨rfl, ?_⟩), (by repeat' first | exact True.intro | refine ⟨rfl, ?_⟩), Mem.le_refl _, rfl⟩ ?_
  rintro ⟨i, Mc, ec⟩ ⟨hi, hBc, hc, hrc, hoc⟩
  (conv => whnf); refine brn (fun g => ?_) (fun g => ?_)
  · have hlt : i < D.l.length := by have := of_decide_eq_true g; dsimp only at this; omega
    have hfi : D.l[i]? = some D.l[i] := List.getElem?_eq_getElem hlt
    obtain ⟨hkx, bx, ox, hax, hrx⟩ := (hnB.le hBc).at (i := i) hlt
    have hnm : (D.l.map (·.name))[i] = D.l[i].name := by simp
    rw [hnm] at hrx
    generalize hf : D.l[i] = f at *
    have hfm : findR (crashTo keep i D.l) f.name = some f := (findR_some hrc.sort).2 ⟨crashTo_mem.2 ⟨i, f, hfi, by rw [if_neg (by omega)]⟩, rfl⟩
    (conv => whnf); refine ob (by first | omega | (dsimp only; omega)) ?_
    (conv => whnf); refine atp hax ?_
    (conv => whnf); refine on hrx ?_
    (conv => whnf); refine on (hc.self.c1 rfl) ?_
    (conv => whnf)
    refine hc.map.get strK f.name (fun hn => ?_) (fun x j hx => ?_)
    · rw [hrc.none.1 hn] at hfm; cases hfm
    obtain ⟨f', hf', -, hxp, hxs⟩ := hrc.get hx
    rw [hfm] at hf'; cases hf'
    have hxe : FXAt Mc x := hc.ents _ (aget_mem hx)
    have hxl : x.p.length = f.safe.size + f.tail.size := by rw [hxp, FileR.all_size]
    have hfu : f.safe.size + f.tail.size ≤ 1048576 := by
      have h1 : f ∈ D.l := List.mem_of_getElem? hfi
      have h2 := hI.used
      unfold usedR at h2
      have h3 := le_sum_mem (List.mem_map.2 ⟨f, h1, rfl⟩ : f.safe.size + f.tail.size ∈ D.l.map fun f => f.safe.size + f.tail.size)
      omega
    obtain ⟨k, hkk⟩ : ∃ k, k = keptN keep i f := ⟨_, rfl⟩
    have hkt := keptN_le keep i f
    rw [← hkk] at hkt
    (conv => whnf)
    refine brn (fun g1 => ?_) (fun g1 => ?_)
    · have hik : i < kn := by have := of_decide_eq_true g1; dsimp only at this; omega
      obtain ⟨hky, by', oy, hay, hry⟩ := (hkB.le hBc).at (i := i) hik
      have hkv : keep[i]? = some keep[i] := List.getElem?_eq_getElem hky
      generalize keep[i] = v at *
      (conv => whnf); refine ob (by first | omega | (dsimp only; omega)) ?_
      (conv => whnf); refine atp hay ?_
      (conv => whnf); refine on hry ?_
      (conv => whnf); refine on (hxe.self.c1 rfl) ?_
      (conv => whnf); refine on (hxe.self.c1 rfl) ?_
      (conv => whnf); refine ob (inR_i64 (by omega)) ?_
      (conv => whnf)
      erw [show max 0 (min v ((x.p.length : Int) - x.safe)) = (k : Int) from by
        rw [hkk, hxl, hxs]; unfold keptN; rw [hkv]; dsimp only
        split <;> omega]
      repeat' ((conv => whnf); first | refine ⟨?_, True.intro⟩ | refine brn_t rfl ?_ | refine brn_f rfl ?_ | refine ob rfl ?_ | refine ob (by decide) ?_ | refine grow_same (Mem.le_refl _) ?_ | refine ob (Mem.le_refl _) ?_ | refine ⟨_, Mem.le_refl _, ?_⟩ | fail)
      refine on (hxe.self.c1 rfl) ?_
      (conv => whnf); refine ob (inR_i64 (by rw [hxs]; omega)) ?_
      (conv => whnf); refine on hxe.self.cells ?_
      (conv => whnf); refine ob (by simp) ?_
      have hk2 : Mem.keep (fun y => y = x.f) Mc (Mc.setCells x.f T.disk_file [.slice x.a x.p.length x.c, .int .i64 (x.safe + k)]) := fun y o hy ho => by
        unfold Mem.setCells; rw [Mem.upd_ne _ _ hy]; exact ho
      have hs2 : (Mc.setCells x.f T.disk_file [.slice x.a x.p.length x.c, .int .i64 (x.safe + k)]).has x.f T.disk_file [.slice x.a x.p.length x.c, .int .i64 (x.safe + k)] := Mem.has_setCells
      have hse : ∀ (cs : List Value), (Mc.setCells x.f T.disk_file [.slice x.a x.p.length x.c, .int .i64 (x.safe + k)]).setCells x.f T.disk_file cs = Mc.setCells x.f T.disk_file cs := fun cs => Mem.setCells_setCells ..
      obtain ⟨M2, hM2⟩ : ∃ M2, M2 = Mc.setCells x.f T.disk_file [.slice x.a x.p.length x.c, .int .i64 (x.safe + k)] := ⟨_, rfl⟩
      rw [← hM2] at hk2 hs2 hse
      (conv => whnf)
      erw [← hM2]
      have hrow := hxe.row
      have hsub := Wr.subA0 hrow
      have hrow' := hrow
      unfold Wr at hrow'
      repeat' ((conv => whnf); first | refine ⟨?_, True.intro⟩ | refine brn_t rfl ?_ | refine brn_f rfl ?_ | refine ob rfl ?_ | refine ob (by decide) ?_ | refine grow_same (Mem.le_refl _) ?_ | refine ob (Mem.le_refl _) ?_ | refine ⟨_, Mem.le_refl _, ?_⟩ | fail)
      refine on (hs2.c1 rfl) ?_
      (conv => whnf); refine on (hs2.c1 rfl) ?_
      (conv => whnf); refine ob ⟨by decide, by rw [hxs]; omega, by have := hrow'.2.1; rw [hxs]; omega⟩ ?_
      (conv => whnf); refine ⟨?_, True.intro⟩
      (conv => whnf); refine on hs2.cells ?_
      (conv => whnf); refine ob (by simp) ?_
      obtain ⟨x', hx'⟩ : ∃ x' : FX, x' = ⟨x.f, x.a, x.c, x.p.take (x.safe + k), x.safe + k⟩ := ⟨_, rfl⟩
      have hlen' : x'.p.length = x.safe + k := by rw [hx']; simp; rw [hxs, hxl]; omega
      have hrow2 : Wr Mc T.uint8 1 x'.a x'.p.length x'.c (x'.p.map byteV) := by
        rw [hlen', hx']
        unfold Wr
        obtain ⟨w1, w2, w3⟩ := hrow'
        refine ⟨by simp; rw [hxs, hxl]; omega, by dsimp only; rw [hxs]; omega, w3.imp id fun ⟨bb, cs, e1, e2, e3, e4⟩ => ⟨bb, cs, e1, e2, e3, ?_⟩⟩
        rw [Nat.mul_one] at e4 ⊢
        rw [List.map_take, ← e4, List.take_take, Nat.min_eq_left (by rw [hxs, hxl]; omega)]
      obtain ⟨h3, hk3, ho3⟩ := hc.setFile (x' := x') hx (by rw [hx']) hrow2 (fun y hy => by rw [hx'] at hy; exact hy) rfl
      have hcells : [Value.slice x'.a x'.p.length x'.c, .int .i64 x'.safe] = [.slice (subA x.a 0 x.c 1) (((x.safe : Int) + k).toNat - 0) (x.c - 0), .int .i64 (x.safe + k)] := by
        rw [hsub, hlen', hx', Nat.sub_zero, Nat.sub_zero]
        have : ((x.safe : Int) + k).toNat = x.safe + k := by omega
        rw [this]
        rfl
      rw [hcells, ← hse] at h3 hk3
      obtain ⟨M3, hM3⟩ : ∃ M3, M3 = M2.setCells x.f T.disk_file [.slice (subA x.a 0 x.c 1) (((x.safe : Int) + k).toNat - 0) (x.c - 0), .int .i64 (x.safe + k)] := ⟨_, rfl⟩
      rw [← hM3] at h3 hk3
      (conv => whnf)
      erw [← hM3]
      repeat' ((conv => whnf); first | refine ⟨?_, True.intro⟩ | refine brn_t rfl ?_ | refine brn_f rfl ?_ | refine ob rfl ?_ | refine ob (by decide) ?_ | refine grow_same (Mem.le_refl _) ?_ | refine ob (Mem.le_refl _) ?_ | refine ⟨_, Mem.le_refl _, ?_⟩ | fail)
      refine ob (inR_i64 (by first | omega | (dsimp only; omega))) ?_
      (conv => whnf)
      have hxin : ∀ y, y = x.f → diskB p b es y := fun y e => hoc y (.inr (.inr ⟨_, aget_mem hx, .inl e⟩))
      refine ⟨⟨i + 1, M3, aput ec f.name x'⟩, ⟨by omega, hk3.le hBc (fun y e => hBn y (hxin y e)), h3, ?_, fun y hy => hoc y (ho3 y hy)⟩, by dsimp only; omega, ⟨(by repeat' first | exact True.intro | refine ⟨rfl, ?_⟩), (by repeat' first | exact True.intro | refine ⟨rfl, ?_⟩), Mem.le_refl _, rfl⟩⟩
      rw [← crashTo_step hI.sort hfi]
      refine hrc.put (x := x') (f := crashF keep i f) ?_
      rw [hx']
      simp only [cont, FileR.all, crashF, Prod.mk.injEq, ← hkk]
      constructor
      · rw [bl_append, show bl ByteArray.empty = [] from rfl, List.append_nil, bl_append, bl_extract, hxp, FileR.all, bl_append, hxs]
        rw [← bl_len f.safe, List.take_length_add_append]
      · rw [hxs, ← bl_len (f.safe ++ f.tail.extract 0 k), bl_append, bl_extract, List.length_append, List.length_take, bl_len, bl_len]
        omega
    · have hik : ¬ i < kn := by have := of_decide_eq_false g1; dsimp only at this; omega
      have hk0 : k = 0 := by rw [hkk]; unfold keptN; rw [List.getElem?_eq_none (by omega)]
      (conv => whnf)
      erw [show (0 : Int) = (k : Int) from by rw [hk0]; rfl]
      repeat' ((conv => whnf); first | refine ⟨?_, True.intro⟩ | refine brn_t rfl ?_ | refine brn_f rfl ?_ | refine ob rfl ?_ | refine ob (by decide) ?_ | refine grow_same (Mem.le_refl _) ?_ | refine ob (Mem.le_refl _) ?_ | refine ⟨_, Mem.le_refl _, ?_⟩ | fail)
      refine on (hxe.self.c1 rfl) ?_
      (conv => whnf); refine ob (inR_i64 (by rw [hxs]; omega)) ?_
      (conv => whnf); refine on hxe.self.cells ?_
      (conv => whnf); refine ob (by simp) ?_
      have hk2 : Mem.keep (fun y => y = x.f) Mc (Mc.setCells x.f T.disk_file [.slice x.a x.p.length x.c, .int .i64 (x.safe + k)]) := fun y o hy ho => by
        unfold Mem.setCells; rw [Mem.upd_ne _ _ hy]; exact ho
      have hs2 : (Mc.setCells x.f T.disk_file [.slice x.a x.p.length x.c, .int .i64 (x.safe + k)]).has x.f T.disk_file [.slice x.a x.p.length x.c, .int .i64 (x.safe + k)] := Mem.has_setCells
      have hse : ∀ (cs : List Value), (Mc.setCells x.f T.disk_file [.slice x.a x.p.length x.c, .int .i64 (x.safe + k)]).setCells x.f T.disk_file cs = Mc.setCells x.f T.disk_file cs := fun cs => Mem.setCells_setCells ..
      obtain ⟨M2, hM2⟩ : ∃ M2, M2 = Mc.setCells x.f T.disk_file [.slice x.a x.p.length x.c, .int .i64 (x.safe + k)] := ⟨_, rfl⟩
      rw [← hM2] at hk2 hs2 hse
      (conv => whnf)
      erw [← hM2]
      have hrow := hxe.row
      have hsub := Wr.subA0 hrow
      have hrow' := hrow
      unfold Wr at hrow'
      repeat' ((conv => whnf); first | refine ⟨?_, True.intro⟩ | refine brn_t rfl ?_ | refine brn_f rfl ?_ | refine ob rfl ?_ | refine ob (by decide) ?_ | refine grow_same (Mem.le_refl _) ?_ | refine ob (Mem.le_refl _) ?_ | refine ⟨_, Mem.le_refl _, ?_⟩ | fail)
      refine on (hs2.c1 rfl) ?_
      (conv => whnf); refine on (hs2.c1 rfl) ?_
      (conv => whnf); refine ob ⟨by decide, by rw [hxs]; omega, by have := hrow'.2.1; rw [hxs]; omega⟩ ?_
      (conv => whnf); refine ⟨?_, True.intro⟩
      (conv => whnf); refine on hs2.cells ?_
      (conv => whnf); refine ob (by simp) ?_
      obtain ⟨x', hx'⟩ : ∃ x' : FX, x' = ⟨x.f, x.a, x.c, x.p.take (x.safe + k), x.safe + k⟩ := ⟨_, rfl⟩
      have hlen' : x'.p.length = x.safe + k := by rw [hx']; simp; rw [hxs, hxl]; omega
      have hrow2 : Wr Mc T.uint8 1 x'.a x'.p.length x'.c (x'.p.map byteV) := by
        rw [hlen', hx']
        unfold Wr
        obtain ⟨w1, w2, w3⟩ := hrow'
        refine ⟨by simp; rw [hxs, hxl]; omega, by dsimp only; rw [hxs]; omega, w3.imp id fun ⟨bb, cs, e1, e2, e3, e4⟩ => ⟨bb, cs, e1, e2, e3, ?_⟩⟩
        rw [Nat.mul_one] at e4 ⊢
        rw [List.map_take, ← e4, List.take_take, Nat.min_eq_left (by rw [hxs, hxl]; omega)]
      obtain ⟨h3, hk3, ho3⟩ := hc.setFile (x' := x') hx (by rw [hx']) hrow2 (fun y hy => by rw [hx'] at hy; exact hy) rfl
      have hcells : [Value.slice x'.a x'.p.length x'.c, .int .i64 x'.safe] = [.slice (subA x.a 0 x.c 1) (((x.safe : Int) + k).toNat - 0) (x.c - 0), .int .i64 (x.safe + k)] := by
        rw [hsub, hlen', hx', Nat.sub_zero, Nat.sub_zero]
        have : ((x.safe : Int) + k).toNat = x.safe + k := by omega
        rw [this]
        rfl
      rw [hcells, ← hse] at h3 hk3
      obtain ⟨M3, hM3⟩ : ∃ M3, M3 = M2.setCells x.f T.disk_file [.slice (subA x.a 0 x.c 1) (((x.safe : Int) + k).toNat - 0) (x.c - 0), .int .i64 (x.safe + k)] := ⟨_, rfl⟩
      rw [← hM3] at h3 hk3
      (conv => whnf)
      erw [← hM3]
      repeat' ((conv => whnf); first | refine ⟨?_, True.intro⟩ | refine brn_t rfl ?_ | refine brn_f rfl ?_ | refine ob rfl ?_ | refine ob (by decide) ?_ | refine grow_same (Mem.le_refl _) ?_ | refine ob (Mem.le_refl _) ?_ | refine ⟨_, Mem.le_refl _, ?_⟩ | fail)
      refine ob (inR_i64 (by first | omega | (dsimp only; omega))) ?_
      (conv => whnf)
      have hxin : ∀ y, y = x.f → diskB p b es y := fun y e => hoc y (.inr (.inr ⟨_, aget_mem hx, .inl e⟩))
      refine ⟨⟨i + 1, M3, aput ec f.name x'⟩, ⟨by omega, hk3.le hBc (fun y e => hBn y (hxin y e)), h3, ?_, fun y hy => hoc y (ho3 y hy)⟩, by dsimp only; omega, ⟨(by repeat' first | exact True.intro | refine ⟨rfl, ?_⟩), (by repeat' first | exact True.intro | refine ⟨rfl, ?_⟩), Mem.le_refl _, rfl⟩⟩
      rw [← crashTo_step hI.sort hfi]
      refine hrc.put (x := x') (f := crashF keep i f) ?_
      rw [hx']
      simp only [cont, FileR.all, crashF, Prod.mk.injEq, ← hkk]
      constructor
      · rw [bl_append, show bl ByteArray.empty = [] from rfl, List.append_nil, bl_append, bl_extract, hxp, FileR.all, bl_append, hxs]
        rw [← bl_len f.safe, List.take_length_add_append]
      · rw [hxs, ← bl_len (f.safe ++ f.tail.extract 0 k), bl_append, bl_extract, List.length_append, List.length_take, bl_len, bl_len]
        omega
  have hge : i = D.l.length := by have := of_decide_eq_false g; dsimp only at this; omega
  subst hge
  rw [crashTo_all] at hrc
  repeat' ((conv => whnf); first | refine ⟨?_, True.intro⟩ | refine brn_t rfl ?_ | refine brn_f rfl ?_ | refine ob rfl ?_ | refine ob (by decide) ?_ | refine grow_same (Mem.le_refl _) ?_ | refine ob (Mem.le_refl _) ?_ | refine ⟨_, Mem.le_refl _, ?_⟩ | fail)
  refine on hc.self.cells ?_
  (conv => whnf); refine ob (by simp) ?_
  have hk2 : Mem.keep (fun y => y = p) Mc (Mc.setCells p T.disk_Disk [.int .i64 D.limit, .map (some b), .int .i64 D.left, .bool false]) := fun y o hy ho => by
    unfold Mem.setCells; rw [Mem.upd_ne _ _ hy]; exact ho
  have hs2 : (Mc.setCells p T.disk_Disk [.int .i64 D.limit, .map (some b), .int .i64 D.left, .bool false]).has p T.disk_Disk [.int .i64 D.limit, .map (some b), .int .i64 D.left, .bool false] := Mem.has_setCells
  obtain ⟨M2, hM2⟩ : ∃ M2, M2 = Mc.setCells p T.disk_Disk [.int .i64 D.limit, .map (some b), .int .i64 D.left, .bool false] := ⟨_, rfl⟩
  rw [← hM2] at hs2 hk2
  (conv => whnf)
  erw [← hM2]
  repeat' ((conv => whnf); first | refine ⟨?_, True.intro⟩ | refine brn_t rfl ?_ | refine brn_f rfl ?_ | refine ob rfl ?_ | refine ob (by decide) ?_ | refine grow_same (Mem.le_refl _) ?_ | refine ob (Mem.le_refl _) ?_ | refine ⟨_, Mem.le_refl _, ?_⟩ | fail)
  refine on hs2.cells ?_
  (conv => whnf); refine ob (by simp) ?_
  have hk3 : Mem.keep (fun y => y = p) M2 (M2.setCells p T.disk_Disk [.int .i64 D.limit, .map (some b), .int .i64 (-1), .bool false]) := fun y o hy ho => by
    unfold Mem.setCells; rw [Mem.upd_ne _ _ hy]; exact ho
  have h3 := hc.head (crashR D keep) (Mem.keep_trans hk2 hk3) Mem.has_setCells
  obtain ⟨M3, hM3⟩ : ∃ M3, M3 = M2.setCells p T.disk_Disk [.int .i64 D.limit, .map (some b), .int .i64 (-1), .bool false] := ⟨_, rfl⟩
  rw [← hM3] at hk3 h3
  (conv => whnf)
  erw [← hM3]
  repeat' ((conv => whnf); first | refine ⟨?_, True.intro⟩ | refine brn_t rfl ?_ | refine brn_f rfl ?_ | refine ob rfl ?_ | refine ob (by decide) ?_ | refine grow_same (Mem.le_refl _) ?_ | refine ob (Mem.le_refl _) ?_ | refine ⟨_, Mem.le_refl _, ?_⟩ | fail)
  have hkk := Mem.keep_trans hk2 hk3
  refine ⟨rfl, ec, h3, hrc, fun y o hy ho => ?_, fun y hy => .inl (hoc y hy)⟩
  refine hkk _ _ (fun e => hy (.inl e)) (hBc _ _ ?_)
  rw [hB]; unfold Mem.minus; rw [if_neg hy]; exact hle1 _ _ ho
end Go.Proofs.Ytdjgmhifocdelaa
