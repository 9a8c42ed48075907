/- The disk: a fork. -/
import Derived.Test.YtnlghoenbhbfhaaJoin21
namespace Go.Proofs.Ytnlghoenbhbfhaa
open Go Go.Vm
attribute [local irreducible] Brn Ob Grow CallsM inR LoopVC Mem.row Mem.cells Mem.setCells Mem.upd Go.Vm.Own AppVC SrcVC StrVC NextVC New SrcOk subA NewSl Mem.textAt Mem.mapAt Mem.iterAt entryOf kfind Wr NewEls Elems
set_option maxRecDepth 10000
variable {M : Mem} {p b : Nat} {D : DiskR} {es : FsT}
def qOf (q : ByteArray × FX) : ByteArray × List UInt8 × Nat := (q.1, q.2.p, q.2.safe)
theorem RelD.of_perm {es' : FsT} {L : List FileR} (h : RelD es L) (hp : (es'.map qOf).Perm (es.map qOf)) : RelD es' L := by
  have hn : (es'.map (·.1)).Nodup := by
    have : ((es'.map qOf).map (·.1)).Perm ((es.map qOf).map (·.1)) := hp.map _
    rw [List.map_map, List.map_map] at this
    exact this.nodup_iff.2 h.nodup
  refine ⟨h.sort, hn, fun n => ?_⟩
  cases hg : aget es' n with
  | some x =>
    have : qOf (n, x) ∈ es.map qOf := hp.mem_iff.1 (List.mem_map.2 ⟨_, aget_mem hg, rfl⟩)
    obtain ⟨q, hq, e⟩ := List.mem_map.1 this
    have e1 : q.1 = n := congrArg (·.1) e
    have e2 : q.2.p = x.p := congrArg (fun z => z.2.1) e
    have e3 : q.2.safe = x.safe := congrArg (fun z => z.2.2) e
    have hg2 : aget es n = some q.2 := aget_of_mem h.nodup (by rw [← e1]; exact hq)
    rw [← h.same n, hg2]
    simp [e2, e3]
  | none =>
    rw [← h.same n]
    cases hg2 : aget es n with
    | none => rfl
    | some y =>
      have : qOf (n, y) ∈ es'.map qOf := hp.mem_iff.2 (List.mem_map.2 ⟨_, aget_mem hg2, rfl⟩)
      obtain ⟨q, hq, e⟩ := List.mem_map.1 this
      have e1 : q.1 = n := congrArg (·.1) e
      exact absurd (List.mem_map.2 ⟨q, hq, e1⟩) (aget_none.1 hg)
theorem Fork_ok (h : DAt M p b D es) (hr : RelD es D.l) (hI : InvD D) : CallsM Try.prog F.disk_Disk_Fork [ptr p] M fun v M' =>
    ∃ p' b' es', v = ptr p' ∧ M.le M' ∧ DAt M' p' b' D es' ∧ RelD es' D.l ∧ ∀ y, diskB p' b' es' y → M y = none := by
  refine fo_disk_Disk_Fork (by simp) ?_
  have hus := hr.used
  have hIu := hI.used
  (conv => whnf); refine brn_f rfl ?_
  (conv => whnf); refine ⟨M, Mem.le_refl _, ?_⟩
  (conv => whnf); refine on (h.self.c1 rfl) ?_
  (conv => whnf); refine on (h.self.c1 rfl) ?_
  (conv => whnf); refine on (h.self.c1 rfl) ?_
  (conv => whnf); refine ⟨?_, True.intro⟩
  (conv => whnf); refine new (fun b' hb' => ?_)
  replace hb' : M b' = none := hb'
  have hle1 : M.le (M.upd b' (.map #[] 0)) := Mem.le_upd hb'
  have hm1 := MapAt.new (kv := strV) (vv := fxV) M b'
  obtain ⟨M1, hM1⟩ : ∃ M1, M1 = M.upd b' (.map #[] 0) := ⟨_, rfl⟩
  rw [← hM1] at hle1 hm1
  (conv => whnf)
  erw [← hM1]
  repeat' ((conv => whnf); first | refine ob rfl ?_ | refine grow_same hle1 ?_ | refine ob hle1 ?_ | refine ⟨?_, True.intro⟩ | fail)
  repeat' ((conv => whnf); first | refine ⟨?_, True.intro⟩ | refine brn_t rfl ?_ | refine brn_f rfl ?_ | refine ob rfl ?_ | refine ob (by decide) ?_ | refine grow_same (Mem.le_refl _) ?_ | refine ob (Mem.le_refl _) ?_ | refine ⟨_, Mem.le_refl _, ?_⟩ | fail)
  refine on ((h.le hle1).self.c1 rfl) ?_
  (conv => whnf)
  refine (h.le hle1).map.range fun q bi hbi hI2 => ?_
  replace hbi : M1 bi = none := hbi
  (conv => whnf)
  have hb'1 : M1 b' ≠ none := by obtain ⟨l, cc, hh, _⟩ := hm1; rw [hh]; simp [mapObj]
  refine loopF (σ := Mem × FsT × FsT) [] (fun _ => []) (fun _ => [.live T.disk_Disk [.v (.int .i64 D.limit), .v (.map (some b')), .v (.int .i64 D.left), .v (.bool D.down)]]) (fun x => x.1)
    (fun | ⟨M2, es', todo⟩ => M.le M2 ∧ Iter strV fxV M2 bi b es todo ∧ MapAt strV fxV M2 b' es' ∧ (∀ q ∈ es', FXAt M2 q.2) ∧ es'.Pairwise (fun x y => apartF x.2 y.2) ∧ (es'.map qOf ++ todo.map qOf).Perm (es.map qOf) ∧ ∀ q ∈ es', ∀ y, q.2.own y → M y = none) (fun x => x.2.2.length) ⟨_, [], es⟩
    ⟨Mem.le_trans hle1 (Mem.le_upd hbi), hI2, hm1.mono fun o ho => Mem.le_upd hbi _ _ ho, by simp, by simp, .refl _, by simp⟩ ⟨(by repeat' first | exact True.intro | refine ⟨rfl, ?_⟩), (by repeat' first | exact True.intro | refine ⟨rfl, ?_⟩), Mem.le_refl _, rfl⟩ ?_
  rintro ⟨M2, es', todo⟩ ⟨hle2, hI3, hm2, hE2, hA2, hperm, hfr2⟩
  (conv => whnf)
  refine hI3.next (fun h0 => ?_) (fun i k todo' o' hperm2 hI4 hent => ?_)
  · subst h0
    repeat' ((conv => whnf); first | refine ⟨?_, True.intro⟩ | refine brn_t rfl ?_ | refine brn_f rfl ?_ | refine ob rfl ?_ | refine ob (by decide) ?_ | refine grow_same (Mem.le_refl _) ?_ | refine ob (Mem.le_refl _) ?_ | refine ⟨_, Mem.le_refl _, ?_⟩ | fail)
    refine new (fun p' hp' => ?_)
    replace hp' : M2 p' = none := hp'
    have hpM : M p' = none := by
      cases e : M p' with
      | none => rfl
      | some z => rw [hle2 _ _ e] at hp'; cases hp'
    have hle8 : M2.le (M2.setCells p' T.disk_Disk [.int .i64 D.limit, .map (some b'), .int .i64 D.left, .bool D.down]) := Mem.le_setCells hp'
    have hself8 : (M2.setCells p' T.disk_Disk [.int .i64 D.limit, .map (some b'), .int .i64 D.left, .bool D.down]).has p' T.disk_Disk [.int .i64 D.limit, .map (some b'), .int .i64 D.left, .bool D.down] := Mem.has_setCells
    obtain ⟨M8, hM8⟩ : ∃ M8, M8 = M2.setCells p' T.disk_Disk [.int .i64 D.limit, .map (some b'), .int .i64 D.left, .bool D.down] := ⟨_, rfl⟩
    rw [← hM8] at hle8 hself8
    (conv => whnf)
    erw [← hM8]
    refine ⟨p', b', es', rfl, Mem.le_trans hle2 hle8, ⟨hself8, hm2.mono fun o ho => hle8 _ _ ho, fun q hq => (hE2 q hq).le hle8, hA2⟩, hr.of_perm (by simpa using hperm), fun y hy => ?_⟩
    rcases hy with rfl | rfl | ⟨q, hq, hy⟩
    · exact hpM
    · exact hb'
    · exact hfr2 q hq y hy
  · have hk3 : Mem.keep (fun y => y = bi) M2 (M2.upd bi o') := Mem.keep_upd _ _ rfl
    have hle3 : M.le (M2.upd bi o') := fun y o hy => by
      rw [Mem.upd_ne _ _ (fun e => by subst e; rw [hle1 _ _ hy] at hbi; cases hbi)]; exact hle2 _ _ hy
    have hm3 : MapAt strV fxV (M2.upd bi o') b' es' := hm2.mono fun o ho => hk3 _ _ (fun e => by
      subst e; exact hb'1 hbi) ho
    obtain ⟨M3, hM3⟩ : ∃ M3, M3 = M2.upd bi o' := ⟨_, rfl⟩
    rw [← hM3] at hI4 hent hle3 hm3
    have hmem : (i, k) ∈ es := hI3.todo_sub _ (hperm2.mem_iff.2 (by simp))
    have hke : FXAt M3 k := (h.le hle3).ents _ hmem
    have hkl : k.p.length ≤ 1048576 := by have := usedE_le hmem; dsimp only at this; omega
    (conv => whnf)
    erw [← hM3]
    repeat' ((conv => whnf); first | refine ⟨?_, True.intro⟩ | refine brn_t rfl ?_ | refine brn_f rfl ?_ | refine ob rfl ?_ | refine ob (by decide) ?_ | refine grow_same (Mem.le_refl _) ?_ | refine ob (Mem.le_refl _) ?_ | refine ⟨_, Mem.le_refl _, ?_⟩ | fail)
    refine on hent ?_
    repeat' ((conv => whnf); first | refine ⟨?_, True.intro⟩ | refine brn_t rfl ?_ | refine brn_f rfl ?_ | refine ob rfl ?_ | refine ob (by decide) ?_ | refine grow_same (Mem.le_refl _) ?_ | refine ob (Mem.le_refl _) ?_ | refine ⟨_, Mem.le_refl _, ?_⟩ | fail)
    refine on (hke.self.c1 rfl) ?_
    repeat' ((conv => whnf); first | refine ⟨?_, True.intro⟩ | refine brn_t rfl ?_ | refine brn_f rfl ?_ | refine ob rfl ?_ | refine ob (by decide) ?_ | refine grow_same (Mem.le_refl _) ?_ | refine ob (Mem.le_refl _) ?_ | refine ⟨_, Mem.le_refl _, ?_⟩ | fail)
    refine on (hke.self.c1 rfl) ?_
    repeat' ((conv => whnf); first | refine ⟨?_, True.intro⟩ | refine brn_t rfl ?_ | refine brn_f rfl ?_ | refine ob rfl ?_ | refine ob (by decide) ?_ | refine grow_same (Mem.le_refl _) ?_ | refine ob (Mem.le_refl _) ?_ | refine ⟨_, Mem.le_refl _, ?_⟩ | fail)
    refine new (fun b1 hb1 => ?_)
    replace hb1 : M3 b1 = none := hb1
    have hN1 : NewSl M3 T.uint8 1 (some ⟨b1, 0, none⟩) 0 0 (([] : List UInt8).map byteV) _ := NewSl.lit hb1 T.uint8 1 0 [] rfl
    obtain ⟨M4, hM4⟩ : ∃ M4, M4 = M3.setCells b1 T.uint8 [] := ⟨_, rfl⟩
    rw [← hM4] at hN1
    (conv => whnf)
    erw [← hM4]
    repeat' ((conv => whnf); first | refine ob rfl ?_ | refine grow_same hN1.le ?_ | refine ob hN1.le ?_ | refine ⟨?_, True.intro⟩ | fail)
    (conv => whnf)
    refine srcv (hke.row.src.le hN1.le) ?_
    (conv => whnf); refine appNC M3 _ hN1 (by first | omega | (dsimp only; omega)) (by simp [maxLen]; omega) (bytes_one _) fun a5 c5 M5 hcap hN5 => ?_
    repeat' ((conv => whnf); first | refine ob rfl ?_ | refine grow_same hN5.le ?_ | refine ob hN5.le ?_ | refine ⟨?_, True.intro⟩ | fail)
    (conv => whnf)
    refine new (fun r hr0 => ?_)
    replace hr0 : M5 r = none := hr0
    have hb'5 : M5 b' ≠ none := by obtain ⟨l, cc, hh, _⟩ := hm3.mono fun o ho => hN5.le _ _ ho; rw [hh]; simp [mapObj]
    have hrb : r ≠ b' := fun e => hb'5 (e ▸ hr0)
    have hle6 : M5.le (M5.setCells r T.disk_file [.slice a5 k.p.length c5, .int .i64 k.safe]) := Mem.le_setCells hr0
    have hself6 : (M5.setCells r T.disk_file [.slice a5 k.p.length c5, .int .i64 k.safe]).has r T.disk_file [.slice a5 k.p.length c5, .int .i64 k.safe] := Mem.has_setCells
    obtain ⟨M6, hM6⟩ : ∃ M6, M6 = M5.setCells r T.disk_file [.slice a5 k.p.length c5, .int .i64 k.safe] := ⟨_, rfl⟩
    rw [← hM6] at hle6 hself6
    rw [← Nat.zero_add k.p.length] at hM6
    (conv => whnf)
    erw [← hM6]
    have hm6 : MapAt strV fxV M6 b' es' := hm3.mono fun o ho => hle6 _ _ (hN5.le _ _ ho)
    repeat' ((conv => whnf); first | refine ⟨?_, True.intro⟩ | refine brn_t rfl ?_ | refine brn_f rfl ?_ | refine ob rfl ?_ | refine ob (by decide) ?_ | refine grow_same (Mem.le_refl _) ?_ | refine ob (Mem.le_refl _) ?_ | refine ⟨_, Mem.le_refl _, ?_⟩ | fail)
    refine hm6.put strK i ⟨r, a5, c5, k.p, k.safe⟩ fun q2 f2 hm7 => ?_
    replace hm7 := hm7 M6
    obtain ⟨M7, hM7⟩ : ∃ M7, M7 = M6.upd b' (mput q2 f2 (strV i) (fxV ⟨r, a5, c5, k.p, k.safe⟩)) := ⟨_, rfl⟩
    have hk7 : Mem.keep (fun y => y = b') M6 M7 := hM7 ▸ Mem.keep_upd _ _ rfl
    rw [← hM7] at hm7
    (conv => whnf)
    erw [← hM7]
    repeat' ((conv => whnf); first | refine ⟨?_, True.intro⟩ | refine brn_t rfl ?_ | refine brn_f rfl ?_ | refine ob rfl ?_ | refine ob (by decide) ?_ | refine grow_same (Mem.le_refl _) ?_ | refine ob (Mem.le_refl _) ?_ | refine ⟨_, Mem.le_refl _, ?_⟩ | fail)
    have hle5 : M3.le M6 := Mem.le_trans hN5.le hle6
    have hlow : ∀ y, M3 y = none → M y = none := fun y hy => by
      cases e : M y with
      | none => rfl
      | some z => rw [hle3 _ _ e] at hy; cases hy
    have hE3 : ∀ q ∈ es', FXAt M3 q.2 := fun q hq => (hE2 q hq).mono fun y o hy ho => by
      have hne : y ≠ bi := fun e => by
        subst e
        rcases hy with e1 | ⟨q1, hq1, e1⟩
        · exact (hI3.nb (hE2 q hq).self).1 e1.symm
        · obtain ⟨cs, hh⟩ := (hE2 q hq).row.block hq1
          exact (hI3.nb hh).1 e1
      rw [hM3]; exact hk3 _ _ hne ho
    have hnk : aget es' i = none := by
      rw [aget_none]
      intro hin
      obtain ⟨q, hq, e⟩ := List.mem_map.1 hin
      have hnd : ((es'.map qOf ++ todo.map qOf).map fun m => m.1).Nodup := by
        rw [(hperm.map _).nodup_iff, List.map_map]; exact hr.nodup
      rw [List.map_append, List.nodup_append] at hnd
      have h1 : i ∈ (es'.map qOf).map fun m => m.1 := List.mem_map.2 ⟨qOf q, List.mem_map.2 ⟨q, hq, rfl⟩, e⟩
      have h2 : i ∈ (todo.map qOf).map fun m => m.1 := List.mem_map.2 ⟨qOf (i, k), List.mem_map.2 ⟨(i, k), hperm2.mem_iff.2 (by simp), rfl⟩, rfl⟩
      exact hnd.2.2 _ h1 _ h2 rfl
    have hput : aput es' i ⟨r, a5, c5, k.p, k.safe⟩ = es' ++ [(i, ⟨r, a5, c5, k.p, k.safe⟩)] := by simp [aput, hnk]
    have hb'own : ∀ q ∈ es', ∀ y, q.2.own y → y ≠ b' := fun q hq y hy e => by subst e; exact (hE2 q hq).nomap hm2 hy
    have hown : ∀ y, FX.own ⟨r, a5, c5, k.p, k.safe⟩ y → M3 y = none := fun y hy => by
      rcases hy with rfl | ⟨q, hq, rfl⟩
      · cases e : M3 y with
        | none => rfl
        | some z => rw [hN5.le _ _ e] at hr0; cases hr0
      · exact (hN5.block hq).1
    have hnew7 : FXAt M7 ⟨r, a5, c5, k.p, k.safe⟩ := by
      have hE6 : FXAt M6 ⟨r, a5, c5, k.p, k.safe⟩ := ⟨hself6, (by have := hN5.wr; simpa using this : Wr M5 T.uint8 1 a5 k.p.length c5 (k.p.map byteV)).le hle6⟩
      refine hE6.mono fun y o hy ho => hk7 _ _ (fun e => ?_) ho
      subst e
      have := hown _ hy
      obtain ⟨l, cc, hh, _⟩ := hm3
      rw [hh] at this; cases this
    have hI7 : Iter strV fxV M7 bi b es todo' := ((hI4.le hle5).mono fun x o hx ho => hk7 _ _ (fun e => by
      subst e
      rcases hx with e1 | e1
      · exact hb'1 (e1 ▸ hbi)
      · obtain ⟨l, cc, hh, _⟩ := h.map
        rw [← e1, hb'] at hh; cases hh) ho)
    rw [hput] at hm7
    refine ⟨⟨M7, es' ++ [(i, ⟨r, a5, c5, k.p, k.safe⟩)], todo'⟩, ⟨fun y o hy => ?_, hI7, hm7, fun q hq => ?_, ?_, ?_, fun q hq y hy => ?_⟩, by have := hperm2.length_eq; simp at this ⊢; omega, ⟨(by repeat' first | exact True.intro | refine ⟨rfl, ?_⟩), (by repeat' first | exact True.intro | refine ⟨rfl, ?_⟩), Mem.le_refl _, rfl⟩⟩
    · exact hk7 _ _ (fun e => by subst e; rw [hb'] at hy; cases hy) (hle5 _ _ (hle3 _ _ hy))
    · rcases List.mem_append.1 hq with h1 | h1
      · exact (hE3 q h1).mono fun y o hy ho => hk7 _ _ (hb'own q h1 y hy) (hle5 _ _ ho)
      · simp only [List.mem_singleton] at h1
        subst h1; exact hnew7
    · rw [List.pairwise_append]
      refine ⟨hA2, by simp, fun q hq q' hq' => ?_⟩
      simp only [List.mem_singleton] at hq'
      subst hq'
      exact fun y hy hxy => (hE3 q hq).full hy (hown y hxy)
    · refine List.Perm.trans ?_ hperm
      rw [List.map_append, List.append_assoc]
      refine List.Perm.append_left _ ?_
      have := hperm2.map qOf
      simpa [qOf] using this.symm
    · rcases List.mem_append.1 hq with h1 | h1
      · exact hfr2 q h1 y hy
      · simp only [List.mem_singleton] at h1
        subst h1; exact hlow y (hown y hy)
end Go.Proofs.Ytnlghoenbhbfhaa

/- The disk: a crash. -/
namespace Go.Proofs.Ytnlghoenbhbfhaa
open Go Go.Vm
attribute [local irreducible] Brn Ob Grow CallsM inR LoopVC Mem.row Mem.cells Mem.setCells Mem.upd Go.Vm.Own AppVC SrcVC StrVC NextVC New SrcOk subA NewSl Mem.textAt Mem.mapAt Mem.iterAt entryOf kfind Wr NewEls Elems
set_option maxRecDepth 10000
variable {M : Mem} {p b : Nat} {D : DiskR} {es : FsT}
def crashTo (keep : List Int) (i : Nat) (L : List FileR) : List FileR := L.mapIdx fun j f => if j < i then crashF keep j f else f
theorem crashTo_names (keep : List Int) (i : Nat) (L : List FileR) : (crashTo keep i L).map (·.name) = L.map (·.name) := by
  apply List.ext_getElem?
  intro j
  simp only [crashTo, List.getElem?_map, List.getElem?_mapIdx, Option.map_map]
  cases L[j]? with
  | none => rfl
  | some f => simp only [Option.map_some, Function.comp_apply]; split <;> rfl
theorem sortedR_names {L L' : List FileR} (h : SortedR L) (e : L'.map (·.name) = L.map (·.name)) : SortedR L' := by
  have h1 : (L.map (·.name)).Pairwise fun x y => lessT x y = true := by rw [List.pairwise_map]; exact h
  rw [← e, List.pairwise_map] at h1
  exact h1
theorem crashTo_mem {keep : List Int} {i : Nat} {L : List FileR} {x : FileR} : x ∈ crashTo keep i L ↔ ∃ j f, L[j]? = some f ∧ x = if j < i then crashF keep j f else f := by
  unfold crashTo
  rw [List.mem_iff_getElem?]
  constructor
  · rintro ⟨j, hj⟩
    rw [List.getElem?_mapIdx] at hj
    obtain ⟨f, hf, e⟩ := Option.map_eq_some_iff.1 hj
    exact ⟨j, f, hf, e.symm⟩
  · rintro ⟨j, f, hf, rfl⟩
    exact ⟨j, by rw [List.getElem?_mapIdx, hf]; rfl⟩
theorem SortedR.idx {L : List FileR} (h : SortedR L) {i j : Nat} {f g : FileR} (hf : L[i]? = some f) (hg : L[j]? = some g) (e : f.name = g.name) : i = j := by
  obtain ⟨h1, rfl⟩ := List.getElem?_eq_some_iff.1 hf
  obtain ⟨h2, rfl⟩ := List.getElem?_eq_some_iff.1 hg
  have hp := List.pairwise_iff_getElem.1 h
  rcases Nat.lt_trichotomy i j with h3 | h3 | h3
  · have := hp i j h1 h2 h3; rw [e, lessT_irrefl] at this; cases this
  · exact h3
  · have := hp j i h2 h1 h3; rw [← e, lessT_irrefl] at this; cases this
theorem sorted_ext' {L L' : List FileR} (h : SortedR L) (h' : SortedR L') (hm : ∀ x, x ∈ L ↔ x ∈ L') : L = L' := by
  have nd : ∀ {L : List FileR}, SortedR L → L.Nodup := fun {L} h => h.imp fun {x y} hxy e => by rw [e, lessT_irrefl] at hxy; cases hxy
  refine List.Perm.eq_of_pairwise (le := fun (x y : FileR) => lessT x.name y.name = true) (fun x y _ _ h1 h2 => ?_) h h' ((List.perm_ext_iff_of_nodup (nd h) (nd h')).2 hm)
  have := lessT_trans h1 h2; rw [lessT_irrefl] at this; cases this
theorem crashTo_step {keep : List Int} {i : Nat} {L : List FileR} (h : SortedR L) {f : FileR} (hf : L[i]? = some f) : withR (crashTo keep i L) (crashF keep i f) = crashTo keep (i + 1) L := by
  have s1 : SortedR (crashTo keep i L) := sortedR_names h (crashTo_names keep i L)
  have s2 : SortedR (crashTo keep (i + 1) L) := sortedR_names h (crashTo_names keep (i + 1) L)
  refine sorted_ext' (withR_sorted s1 _) s2 fun x => ?_
  rw [withR_mem, crashTo_mem, crashTo_mem]
  constructor
  · rintro (rfl | ⟨⟨j, g, hg, rfl⟩, hne⟩)
    · exact ⟨i, f, hf, by rw [if_pos (by omega)]⟩
    · refine ⟨j, g, hg, ?_⟩
      by_cases hj : j < i
      · rw [if_pos hj, if_pos (by omega)]
      · rw [if_neg hj] at hne ⊢
        rw [if_neg]
        intro hj2
        have : j = i := by omega
        subst this
        rw [hf] at hg; cases hg
        exact hne rfl
  · rintro ⟨j, g, hg, rfl⟩
    by_cases hj : j = i
    · subst hj
      rw [hf] at hg; cases hg
      left; rw [if_pos (by omega)]
    · right
      have e : (if j < i + 1 then crashF keep j g else g) = if j < i then crashF keep j g else g := by
        by_cases hj2 : j < i
        · rw [if_pos hj2, if_pos (by omega)]
        · rw [if_neg hj2, if_neg (by omega)]
      rw [e]
      refine ⟨⟨j, g, hg, rfl⟩, fun e2 => hj (h.idx hg hf ?_)⟩
      split at e2 <;> exact e2
theorem crashTo_zero (keep : List Int) (L : List FileR) : crashTo keep 0 L = L := by
  unfold crashTo
  apply List.ext_getElem?
  intro j
  rw [List.getElem?_mapIdx]
  cases L[j]? <;> simp
theorem crashTo_all (keep : List Int) (L : List FileR) : crashTo keep L.length L = L.mapIdx fun i f => crashF keep i f := by
  unfold crashTo
  apply List.ext_getElem?
  intro j
  rw [List.getElem?_mapIdx, List.getElem?_mapIdx]
  cases hj : L[j]? with
  | none => rfl
  | some f =>
    have := (List.getElem?_eq_some_iff.1 hj).1
    simp only [Option.map_some, if_pos this]
theorem le_sum_mem : ∀ {l : List Nat} {x : Nat}, x ∈ l → x ≤ l.sum
  | y :: r, x, h => by
    rw [List.sum_cons]
    rcases List.mem_cons.1 h with rfl | h
    · omega
    · have := le_sum_mem h; omega
theorem keptN_le (keep : List Int) (i : Nat) (f : FileR) : keptN keep i f ≤ f.tail.size := by
  unfold keptN
  split
  · split
    · exact Nat.min_le_right _ _
    · omega
  · omega
theorem Crash_ok (h : DAt M p b D es) (hr : RelD es D.l) (hI : InvD D) {ka : Option Addr} {kn kc : Nat} {keep : List Int} (hk : SrcOk (M.minus (diskB p b es)) 1 ka kn (keep.map intV)) (hkn : kn ≤ 4194304) :
    CallsM Try.prog F.disk_Disk_Crash [ptr p, .slice ka kn kc] M fun v M' => v = .int .i64 0 ∧ ∃ es', StepD M M' p b es es' (crashR D keep) := by
  refine fo_disk_Disk_Crash (by simp) ?_
  have hlen := hI.len
  have hkl := hk.maplen
  repeat' ((conv => whnf); first | refine ⟨?_, True.intro⟩ | refine brn_t rfl ?_ | refine brn_f rfl ?_ | refine ob rfl ?_ | refine ob (by decide) ?_ | refine grow_same (Mem.le_refl _) ?_ | refine ob (Mem.le_refl _) ?_ | refine ⟨_, Mem.le_refl _, ?_⟩ | fail)
  refine (Names_ok h hr hI).mono ?_
  rintro v M1 ⟨na, nc, rfl, hN⟩
  have hle1 := hN.le
  obtain ⟨B, hB⟩ : ∃ B, B = M1.minus (diskB p b es) := ⟨_, rfl⟩
  have hBM : B.le M1 := hB ▸ Mem.minus_le _ _
  have hkB : SrcOk B 1 ka kn (keep.map intV) := hk.le (fun y o hy => by
    rw [hB]
    unfold Mem.minus at hy ⊢
    split at hy
    · cases hy
    · rw [if_neg ‹_›]; exact hle1 _ _ hy)
  have hnB : SrcOk B 1 na D.l.length ((D.l.map (·.name)).map strV) := hB ▸ hN.src.minus fun q hq hb => h.full hb (hN.block hq).1
  have hBn : ∀ y, diskB p b es y → B y = none := fun y hy => hB ▸ Mem.minus_in hy
  (conv => whnf)
  refine loopF (σ := Nat × Mem × FsT) [14] (fun y => [(14, .int .i64 y.1)]) (fun _ => []) (fun y => y.2.1)
    (fun | ⟨i, Mc, ec⟩ => i ≤ D.l.length ∧ B.le Mc ∧ DAt Mc p b D ec ∧ RelD ec (crashTo keep i D.l) ∧ (∀ y, diskB p b ec y → diskB p b es y)) (fun y => D.l.length - y.1) ⟨0, M1, es⟩
    ⟨by omega, hBM, h.le hle1, by rw [crashTo_zero]; exact hr, fun _ hy => hy⟩ ⟨(by repeat' first | exact True.intro | refine ⟨rfl, ?_⟩), (by repeat' first | exact True.intro | refine ⟨rfl, ?_⟩), Mem.le_refl _, rfl⟩ ?_
  rintro ⟨i, Mc, ec⟩ ⟨hi, hBc, hc, hrc, hoc⟩
  (conv => whnf); refine brn (fun g => ?_) (fun g => ?_)
  · have hlt : i < D.l.length := by have := of_decide_eq_true g; dsimp only at this; omega
    have hfi : D.l[i]? = some D.l[i] := List.getElem?_eq_getElem hlt
    obtain ⟨hkx, bx, ox, hax, hrx⟩ := (hnB.le hBc).at (i := i) hlt
    have hnm : (D.l.map (·.name))[i] = D.l[i].name := by simp
    rw [hnm] at hrx
    generalize hf : D.l[i] = f at *
    have hfm : findR (crashTo keep i D.l) f.name = some f := (findR_some hrc.sort).2 ⟨crashTo_mem.2 ⟨i, f, hfi, by rw [if_neg (by omega)]⟩, rfl⟩
    (conv => whnf); refine ob (by first | omega | (dsimp only; omega)) ?_
    (conv => whnf); refine atp hax ?_
    (conv => whnf); refine on hrx ?_
    (conv => whnf); refine on (hc.self.c1 rfl) ?_
    (conv => whnf)
    refine hc.map.get strK f.name (fun hn => ?_) (fun x j hx => ?_)
    · rw [hrc.none.1 hn] at hfm; cases hfm
    obtain ⟨f', hf', -, hxp, hxs⟩ := hrc.get hx
    rw [hfm] at hf'; cases hf'
    have hxe : FXAt Mc x := hc.ents _ (aget_mem hx)
    have hxl : x.p.length = f.safe.size + f.tail.size := by rw [hxp, FileR.all_size]
    have hfu : f.safe.size + f.tail.size ≤ 1048576 := by
      have h1 : f ∈ D.l := List.mem_of_getElem? hfi
      have h2 := hI.used
      unfold usedR at h2
      have h3 := le_sum_mem (List.mem_map.2 ⟨f, h1, rfl⟩ : f.safe.size + f.tail.size ∈ D.l.map fun f => f.safe.size + f.tail.size)
      omega
    obtain ⟨k, hkk⟩ : ∃ k, k = keptN keep i f := ⟨_, rfl⟩
    have hkt := keptN_le keep i f
    rw [← hkk] at hkt
    (conv => whnf)
    refine brn (fun g1 => ?_) (fun g1 => ?_)
    · have hik : i < kn := by have := of_decide_eq_true g1; dsimp only at this; omega
      obtain ⟨hky, by', oy, hay, hry⟩ := (hkB.le hBc).at (i := i) hik
      have hkv : keep[i]? = some keep[i] := List.getElem?_eq_getElem hky
      generalize keep[i] = v at *
      (conv => whnf); refine ob (by first | omega | (dsimp only; omega)) ?_
      (conv => whnf); refine atp hay ?_
      (conv => whnf); refine on hry ?_
      (conv => whnf); refine on (hxe.self.c1 rfl) ?_
      (conv => whnf); refine on (hxe.self.c1 rfl) ?_
      (conv => whnf); refine ob (inR_i64 (by omega)) ?_
      (conv => whnf)
      erw [show max 0 (min v ((x.p.length : Int) - x.safe)) = (k : Int) from by
        rw [hkk, hxl, hxs]; unfold keptN; rw [hkv]; dsimp only
        split <;> omega]
      repeat' ((conv => whnf); first | refine ⟨?_, True.intro⟩ | refine brn_t rfl ?_ | refine brn_f rfl ?_ | refine ob rfl ?_ | refine ob (by decide) ?_ | refine grow_same (Mem.le_refl _) ?_ | refine ob (Mem.le_refl _) ?_ | refine ⟨_, Mem.le_refl _, ?_⟩ | fail)
      refine on (hxe.self.c1 rfl) ?_
      (conv => whnf); refine ob (inR_i64 (by rw [hxs]; omega)) ?_
      (conv => whnf); refine on hxe.self.cells ?_
      (conv => whnf); refine ob (by simp) ?_
      have hk2 : Mem.keep (fun y => y = x.f) Mc (Mc.setCells x.f T.disk_file [.slice x.a x.p.length x.c, .int .i64 (x.safe + k)]) := fun y o hy ho => by
        unfold Mem.setCells; rw [Mem.upd_ne _ _ hy]; exact ho
      have hs2 : (Mc.setCells x.f T.disk_file [.slice x.a x.p.length x.c, .int .i64 (x.safe + k)]).has x.f T.disk_file [.slice x.a x.p.length x.c, .int .i64 (x.safe + k)] := Mem.has_setCells
      have hse : ∀ (cs : List Value), (Mc.setCells x.f T.disk_file [.slice x.a x.p.length x.c, .int .i64 (x.safe + k)]).setCells x.f T.disk_file cs = Mc.setCells x.f T.disk_file cs := fun cs => Mem.setCells_setCells ..
      obtain ⟨M2, hM2⟩ : ∃ M2, M2 = Mc.setCells x.f T.disk_file [.slice x.a x.p.length x.c, .int .i64 (x.safe + k)] := ⟨_, rfl⟩
      rw [← hM2] at hk2 hs2 hse
      (conv => whnf)
      erw [← hM2]
      have hrow := hxe.row
      have hsub := Wr.subA0 hrow
      have hrow' := hrow
      unfold Wr at hrow'
      repeat' ((conv => whnf); first | refine ⟨?_, True.intro⟩ | refine brn_t rfl ?_ | refine brn_f rfl ?_ | refine ob rfl ?_ | refine ob (by decide) ?_ | refine grow_same (Mem.le_refl _) ?_ | refine ob (Mem.le_refl _) ?_ | refine ⟨_, Mem.le_refl _, ?_⟩ | fail)
      refine on (hs2.c1 rfl) ?_
      (conv => whnf); refine on (hs2.c1 rfl) ?_
      (conv => whnf); refine ob ⟨by decide, by rw [hxs]; omega, by have := hrow'.2.1; rw [hxs]; omega⟩ ?_
      (conv => whnf); refine ⟨?_, True.intro⟩
      (conv => whnf); refine on hs2.cells ?_
      (conv => whnf); refine ob (by simp) ?_
      obtain ⟨x', hx'⟩ : ∃ x' : FX, x' = ⟨x.f, x.a, x.c, x.p.take (x.safe + k), x.safe + k⟩ := ⟨_, rfl⟩
      have hlen' : x'.p.length = x.safe + k := by rw [hx']; simp; rw [hxs, hxl]; omega
      have hrow2 : Wr Mc T.uint8 1 x'.a x'.p.length x'.c (x'.p.map byteV) := by
        rw [hlen', hx']
        unfold Wr
        obtain ⟨w1, w2, w3⟩ := hrow'
        refine ⟨by simp; rw [hxs, hxl]; omega, by dsimp only; rw [hxs]; omega, w3.imp id fun ⟨bb, cs, e1, e2, e3, e4⟩ => ⟨bb, cs, e1, e2, e3, ?_⟩⟩
        rw [Nat.mul_one] at e4 ⊢
        rw [List.map_take, ← e4, List.take_take, Nat.min_eq_left (by rw [hxs, hxl]; omega)]
      obtain ⟨h3, hk3, ho3⟩ := hc.setFile (x' := x') hx (by rw [hx']) hrow2 (fun y hy => by rw [hx'] at hy; exact hy) rfl
      have hcells : [Value.slice x'.a x'.p.length x'.c, .int .i64 x'.safe] = [.slice (subA x.a 0 x.c 1) (((x.safe : Int) + k).toNat - 0) (x.c - 0), .int .i64 (x.safe + k)] := by
        rw [hsub, hlen', hx', Nat.sub_zero, Nat.sub_zero]
        have : ((x.safe : Int) + k).toNat = x.safe + k := by omega
        rw [this]
        rfl
      rw [hcells, ← hse] at h3 hk3
      obtain ⟨M3, hM3⟩ : ∃ M3, M3 = M2.setCells x.f T.disk_file [.slice (subA x.a 0 x.c 1) (((x.safe : Int) + k).toNat - 0) (x.c - 0), .int .i64 (x.safe + k)] := ⟨_, rfl⟩
      rw [← hM3] at h3 hk3
      (conv => whnf)
      erw [← hM3]
      repeat' ((conv => whnf); first | refine ⟨?_, True.intro⟩ | refine brn_t rfl ?_ | refine brn_f rfl ?_ | refine ob rfl ?_ | refine ob (by decide) ?_ | refine grow_same (Mem.le_refl _) ?_ | refine ob (Mem.le_refl _) ?_ | refine ⟨_, Mem.le_refl _, ?_⟩ | fail)
      refine ob (inR_i64 (by first | omega | (dsimp only; omega))) ?_
      (conv => whnf)
      have hxin : ∀ y, y = x.f → diskB p b es y := fun y e => hoc y (.inr (.inr ⟨_, aget_mem hx, .inl e⟩))
      refine ⟨⟨i + 1, M3, aput ec f.name x'⟩, ⟨by omega, hk3.le hBc (fun y e => hBn y (hxin y e)), h3, ?_, fun y hy => hoc y (ho3 y hy)⟩, by dsimp only; omega, ⟨(by repeat' first | exact True.intro | refine ⟨rfl, ?_⟩), (by repeat' first | exact True.intro | refine ⟨rfl, ?_⟩), Mem.le_refl _, rfl⟩⟩
      rw [← crashTo_step hI.sort hfi]
      refine hrc.put (x := x') (f := crashF keep i f) ?_
      rw [hx']
      simp only [cont, FileR.all, crashF, Prod.mk.injEq, ← hkk]
      constructor
      · rw [bl_append, show bl ByteArray.empty = [] from rfl, List.append_nil, bl_append, bl_extract, hxp, FileR.all, bl_append, hxs]
        rw [← bl_len f.safe, List.take_length_add_append]
      · rw [hxs, ← bl_len (f.safe ++ f.tail.extract 0 k), bl_append, bl_extract, List.length_append, List.length_take, bl_len, bl_len]
        omega
    · have hik : ¬ i < kn := by have := of_decide_eq_false g1; dsimp only at this; omega
      have hk0 : k = 0 := by rw [hkk]; unfold keptN; rw [List.getElem?_eq_none (by omega)]
      (conv => whnf)
      erw [show (0 : Int) = (k : Int) from by rw [hk0]; rfl]
      repeat' ((conv => whnf); first | refine ⟨?_, True.intro⟩ | refine brn_t rfl ?_ | refine brn_f rfl ?_ | refine ob rfl ?_ | refine ob (by decide) ?_ | refine grow_same (Mem.le_refl _) ?_ | refine ob (Mem.le_refl _) ?_ | refine ⟨_, Mem.le_refl _, ?_⟩ | fail)
      refine on (hxe.self.c1 rfl) ?_
      (conv => whnf); refine ob (inR_i64 (by rw [hxs]; omega)) ?_
      (conv => whnf); refine on hxe.self.cells ?_
      (conv => whnf); refine ob (by simp) ?_
      have hk2 : Mem.keep (fun y => y = x.f) Mc (Mc.setCells x.f T.disk_file [.slice x.a x.p.length x.c, .int .i64 (x.safe + k)]) := fun y o hy ho => by
        unfold Mem.setCells; rw [Mem.upd_ne _ _ hy]; exact ho
      have hs2 : (Mc.setCells x.f T.disk_file [.slice x.a x.p.length x.c, .int .i64 (x.safe + k)]).has x.f T.disk_file [.slice x.a x.p.length x.c, .int .i64 (x.safe + k)] := Mem.has_setCells
      have hse : ∀ (cs : List Value), (Mc.setCells x.f T.disk_file [.slice x.a x.p.length x.c, .int .i64 (x.safe + k)]).setCells x.f T.disk_file cs = Mc.setCells x.f T.disk_file cs := fun cs => Mem.setCells_setCells ..
      obtain ⟨M2, hM2⟩ : ∃ M2, M2 = Mc.setCells x.f T.disk_file [.slice x.a x.p.length x.c, .int .i64 (x.safe + k)] := ⟨_, rfl⟩
      rw [← hM2] at hk2 hs2 hse
      (conv => whnf)
      erw [← hM2]
      have hrow := hxe.row
      have hsub := Wr.subA0 hrow
      have hrow' := hrow
      unfold Wr at hrow'
      repeat' ((conv => whnf); first | refine ⟨?_, True.intro⟩ | refine brn_t rfl ?_ | refine brn_f rfl ?_ | refine ob rfl ?_ | refine ob (by decide) ?_ | refine grow_same (Mem.le_refl _) ?_ | refine ob (Mem.le_refl _) ?_ | refine ⟨_, Mem.le_refl _, ?_⟩ | fail)
      refine on (hs2.c1 rfl) ?_
      (conv => whnf); refine on (hs2.c1 rfl) ?_
      (conv => whnf); refine ob ⟨by decide, by rw [hxs]; omega, by have := hrow'.2.1; rw [hxs]; omega⟩ ?_
      (conv => whnf); refine ⟨?_, True.intro⟩
      (conv => whnf); refine on hs2.cells ?_
      (conv => whnf); refine ob (by simp) ?_
      obtain ⟨x', hx'⟩ : ∃ x' : FX, x' = ⟨x.f, x.a, x.c, x.p.take (x.safe + k), x.safe + k⟩ := ⟨_, rfl⟩
      have hlen' : x'.p.length = x.safe + k := by rw [hx']; simp; rw [hxs, hxl]; omega
      have hrow2 : Wr Mc T.uint8 1 x'.a x'.p.length x'.c (x'.p.map byteV) := by
        rw [hlen', hx']
        unfold Wr
        obtain ⟨w1, w2, w3⟩ := hrow'
        refine ⟨by simp; rw [hxs, hxl]; omega, by dsimp only; rw [hxs]; omega, w3.imp id fun ⟨bb, cs, e1, e2, e3, e4⟩ => ⟨bb, cs, e1, e2, e3, ?_⟩⟩
        rw [Nat.mul_one] at e4 ⊢
        rw [List.map_take, ← e4, List.take_take, Nat.min_eq_left (by rw [hxs, hxl]; omega)]
      obtain ⟨h3, hk3, ho3⟩ := hc.setFile (x' := x') hx (by rw [hx']) hrow2 (fun y hy => by rw [hx'] at hy; exact hy) rfl
      have hcells : [Value.slice x'.a x'.p.length x'.c, .int .i64 x'.safe] = [.slice (subA x.a 0 x.c 1) (((x.safe : Int) + k).toNat - 0) (x.c - 0), .int .i64 (x.safe + k)] := by
        rw [hsub, hlen', hx', Nat.sub_zero, Nat.sub_zero]
        have : ((x.safe : Int) + k).toNat = x.safe + k := by omega
        rw [this]
        rfl
      rw [hcells, ← hse] at h3 hk3
      obtain ⟨M3, hM3⟩ : ∃ M3, M3 = M2.setCells x.f T.disk_file [.slice (subA x.a 0 x.c 1) (((x.safe : Int) + k).toNat - 0) (x.c - 0), .int .i64 (x.safe + k)] := ⟨_, rfl⟩
      rw [← hM3] at h3 hk3
      (conv => whnf)
      erw [← hM3]
      repeat' ((conv => whnf); first | refine ⟨?_, True.intro⟩ | refine brn_t rfl ?_ | refine brn_f rfl ?_ | refine ob rfl ?_ | refine ob (by decide) ?_ | refine grow_same (Mem.le_refl _) ?_ | refine ob (Mem.le_refl _) ?_ | refine ⟨_, Mem.le_refl _, ?_⟩ | fail)
      refine ob (inR_i64 (by first | omega | (dsimp only; omega))) ?_
      (conv => whnf)
      have hxin : ∀ y, y = x.f → diskB p b es y := fun y e => hoc y (.inr (.inr ⟨_, aget_mem hx, .inl e⟩))
      refine ⟨⟨i + 1, M3, aput ec f.name x'⟩, ⟨by omega, hk3.le hBc (fun y e => hBn y (hxin y e)), h3, ?_, fun y hy => hoc y (ho3 y hy)⟩, by dsimp only; omega, ⟨(by repeat' first | exact True.intro | refine ⟨rfl, ?_⟩), (by repeat' first | exact True.intro | refine ⟨rfl, ?_⟩), Mem.le_refl _, rfl⟩⟩
      rw [← crashTo_step hI.sort hfi]
      refine hrc.put (x := x') (f := crashF keep i f) ?_
      rw [hx']
      simp only [cont, FileR.all, crashF, Prod.mk.injEq, ← hkk]
      constructor
      · rw [bl_append, show bl ByteArray.empty = [] from rfl, List.append_nil, bl_append, bl_extract, hxp, FileR.all, bl_append, hxs]
        rw [← bl_len f.safe, List.take_length_add_append]
      · rw [hxs, ← bl_len (f.safe ++ f.tail.extract 0 k), bl_append, bl_extract, List.length_append, List.length_take, bl_len, bl_len]
        omega
  have hge : i = D.l.length := by have := of_decide_eq_false g; dsimp only at this; omega
  subst hge
  rw [crashTo_all] at hrc
  repeat' ((conv => whnf); first | refine ⟨?_, True.intro⟩ | refine brn_t rfl ?_ | refine brn_f rfl ?_ | refine ob rfl ?_ | refine ob (by decide) ?_ | refine grow_same (Mem.le_refl _) ?_ | refine ob (Mem.le_refl _) ?_ | refine ⟨_, Mem.le_refl _, ?_⟩ | fail)
  refine on hc.self.cells ?_
  (conv => whnf); refine ob (by simp) ?_
  have hk2 : Mem.keep (fun y => y = p) Mc (Mc.setCells p T.disk_Disk [.int .i64 D.limit, .map (some b), .int .i64 D.left, .bool false]) := fun y o hy ho => by
    unfold Mem.setCells; rw [Mem.upd_ne _ _ hy]; exact ho
  have hs2 : (Mc.setCells p T.disk_Disk [.int .i64 D.limit, .map (some b), .int .i64 D.left, .bool false]).has p T.disk_Disk [.int .i64 D.limit, .map (some b), .int .i64 D.left, .bool false] := Mem.has_setCells
  obtain ⟨M2, hM2⟩ : ∃ M2, M2 = Mc.setCells p T.disk_Disk [.int .i64 D.limit, .map (some b), .int .i64 D.left, .bool false] := ⟨_, rfl⟩
  rw [← hM2] at hs2 hk2
  (conv => whnf)
  erw [← hM2]
  repeat' ((conv => whnf); first | refine ⟨?_, True.intro⟩ | refine brn_t rfl ?_ | refine brn_f rfl ?_ | refine ob rfl ?_ | refine ob (by decide) ?_ | refine grow_same (Mem.le_refl _) ?_ | refine ob (Mem.le_refl _) ?_ | refine ⟨_, Mem.le_refl _, ?_⟩ | fail)
  refine on hs2.cells ?_
  (conv => whnf); refine ob (by simp) ?_
  have hk3 : Mem.keep (fun y => y = p) M2 (M2.setCells p T.disk_Disk [.int .i64 D.limit, .map (some b), .int .i64 (-1), .bool false]) := fun y o hy ho => by
    unfold Mem.setCells; rw [Mem.upd_ne _ _ hy]; exact ho
  have h3 := hc.head (crashR D keep) (Mem.keep_trans hk2 hk3) Mem.has_setCells
  obtain ⟨M3, hM3⟩ : ∃ M3, M3 = M2.setCells p T.disk_Disk [.int .i64 D.limit, .map (some b), .int .i64 (-1), .bool false] := ⟨_, rfl⟩
  rw [← hM3] at hk3 h3
  (conv => whnf)
  erw [← hM3]
  repeat' ((conv => whnf); first | refine ⟨?_, True.intro⟩ | refine brn_t rfl ?_ | refine brn_f rfl ?_ | refine ob rfl ?_ | refine ob (by decide) ?_ | refine grow_same (Mem.le_refl _) ?_ | refine ob (Mem.le_refl _) ?_ | refine ⟨_, Mem.le_refl _, ?_⟩ | fail)
  have hkk := Mem.keep_trans hk2 hk3
  refine ⟨rfl, ec, h3, hrc, fun y o hy ho => ?_, fun y hy => .inl (hoc y hy)⟩
  refine hkk _ _ (fun e => hy (.inl e)) (hBc _ _ ?_)
  rw [hB]; unfold Mem.minus; rw [if_neg hy]; exact hle1 _ _ ho
end Go.Proofs.Ytnlghoenbhbfhaa

