/- The disk: a fork. -/
import Derived.Test.YtdjgmhifocdelaaDiskE
namespace Go.Proofs.Ytdjgmhifocdelaa
open Go Go.Vm
attribute [local irreducible] Brn Ob Grow CallsM inR LoopVC Mem.row Mem.cells Mem.setCells Mem.upd Own AppVC SrcVC StrVC NextVC New SrcOk subA NewSl Mem.textAt Mem.mapAt Mem.iterAt entryOf kfind Wr NewEls Elems
set_option maxRecDepth 10000
variable {M : Mem} {p b : Nat} {D : DiskR} {es : FsT}
def qOf (q : ByteArray × FX) : ByteArray × List UInt8 × Nat := (q.1, q.2.p, q.2.safe)
theorem RelD.of_perm {es' : FsT} {L : List FileR} (h : RelD es L) (hp : (es'.map qOf).Perm (es.map qOf)) : RelD es' L := by
  have hn : (es'.map (·.1)).Nodup := by
    have : ((es'.map qOf).map (·.1)).Perm ((es.map qOf).map (·.1)) := hp.map _
    rw [List.map_map, List.map_map] at this
    exact this.nodup_iff.2 h.nodup
  refine ⟨h.sort, hn, fun n => ?_⟩
  cases hg : aget es' n with
  | some x =>
    have : qOf (n, x) ∈ es.map qOf := hp.mem_iff.1 (List.mem_map.2 ⟨_, aget_mem hg, rfl⟩)
    obtain ⟨q, hq, e⟩ := List.mem_map.1 this
    have e1 : q.1 = n := congrArg (·.1) e
    have e2 : q.2.p = x.p := congrArg (fun z => z.2.1) e
    have e3 : q.2.safe = x.safe := congrArg (fun z => z.2.2) e
    have hg2 : aget es n = some q.2 := aget_of_mem h.nodup (by rw [← e1]; exact hq)
    rw [← h.same n, hg2]
    simp [e2, e3]
  | none =>
    rw [← h.same n]
    cases hg2 : aget es n with
    | none => rfl
    | some y =>
      have : qOf (n, y) ∈ es'.map qOf := hp.mem_iff.2 (List.mem_map.2 ⟨_, aget_mem hg2, rfl⟩)
      obtain ⟨q, hq, e⟩ := List.mem_map.1 this
      have e1 : q.1 = n := congrArg (·.1) e
      exact absurd (List.mem_map.2 ⟨q, hq, e1⟩) (aget_none.1 hg)
theorem Fork_ok (h : DAt M p b D es) (hr : RelD es D.l) (hI : InvD D) : CallsM Try.prog F.disk_Disk_Fork [ptr p] M fun v M' =>
    ∃ p' b' es', v = ptr p' ∧ M.le M' ∧ DAt M' p' b' D es' ∧ RelD es' D.l ∧ ∀ y, diskB p' b' es' y → M y = none := by
  refine fo_disk_Disk_Fork (by simp) ?_
  have hus := hr.used
  have hIu := hI.used
  (conv => whnf); refine brn_f rfl ?_
  (conv => whnf); refine ⟨M, Mem.le_refl _, ?_⟩
  (conv => whnf); refine on (h.self.c1 rfl) ?_
  (conv => whnf); refine on (h.self.c1 rfl) ?_
  (conv => whnf); refine on (h.self.c1 rfl) ?_
  (conv => whnf); refine ⟨?_, True.intro⟩
  (conv => whnf); refine new (fun b' hb' => ?_)
  replace hb' : M b' = none := hb'
  have hle1 : M.le (M.upd b' (.map #[] 0)) := Mem.le_upd hb'
  have hm1 := MapAt.new (kv := strV) (vv := fxV) M b'
  obtain ⟨M1, hM1⟩ : ∃ M1, M1 = M.upd b' (.map #[] 0) := ⟨_, rfl⟩
  rw [← hM1] at hle1 hm1
  (conv => whnf)
  erw [← hM1]
  repeat' ((conv => whnf); first | refine ob rfl ?_ | refine grow_same hle1 ?_ | refine ob hle1 ?_ | refine ⟨?_, True.intro⟩ | fail)
  repeat' ((conv => whnf); first | refine ⟨?_, True.intro⟩ | refine brn_t rfl ?_ | refine brn_f rfl ?_ | refine ob rfl ?_ | refine ob (by decide) ?_ | refine grow_same (Mem.le_refl _) ?_ | refine ob (Mem.le_refl _) ?_ | refine ⟨_, Mem.le_refl _, ?_⟩ | fail)
  refine on ((h.le hle1).self.c1 rfl) ?_
  (conv => whnf)
  refine (h.le hle1).map.range fun q bi hbi hI2 => ?_
  replace hbi : M1 bi = none := hbi
  (conv => whnf)
  have hb'1 : M1 b' ≠ none := by obtain ⟨l, cc, hh, _⟩ := hm1; rw [hh]; simp [mapObj]
  refine loopF (σ := Mem × FsT × FsT) [] (fun _ => []) (fun _ => [.live T.disk_Disk [.v (.int .i64 D.limit), .v (.map (some b')), .v (.int .i64 D.left), .v (.bool D.down)]]) (fun x => x.1)
    (fun | ⟨M2, es', todo⟩ => M.le M2 ∧ Iter strV fxV M2 bi b es todo ∧ MapAt strV fxV M2 b' es' ∧ (∀ q ∈ es', FXAt M2 q.2) ∧ es'.Pairwise (fun x y => apartF x.2 y.2) ∧ (es'.map qOf ++ todo.map qOf).Perm (es.map qOf) ∧ ∀ q ∈ es', ∀ y, q.2.own y → M y = none) (fun x => x.2.2.length) ⟨_, [], es⟩
    ⟨Mem.le_trans hle1 (Mem.le_upd hbi), hI2, hm1.mono fun o ho => Mem.le_upd hbi _ _ ho, by simp, by simp, .refl _, by simp⟩ ⟨(by repeat' first | exact True.intro | refine ⟨rfl, ?_⟩), (by repeat' first | exact True.intro | refine ⟨rfl, ?_⟩), Mem.le_refl _, rfl⟩ ?_
  rintro ⟨M2, es', todo⟩ ⟨hle2, hI3, hm2, hE2, hA2, hperm, hfr2⟩
  (conv => whnf)
  refine hI3.next (fun h0 => ?_) (fun i k todo' o' hperm2 hI4 hent => ?_)
  · subst h0
    repeat' ((conv => whnf); first | refine ⟨?_, True.intro⟩ | refine brn_t rfl ?_ | refine brn_f rfl ?_ | refine ob rfl ?_ | refine ob (by decide) ?_ | refine grow_same (Mem.le_refl _) ?_ | refine ob (Mem.le_refl _) ?_ | refine ⟨_, Mem.le_refl _, ?_⟩ | fail)
    refine new (fun p' hp' => ?_)
    replace hp' : M2 p' = none := hp'
    have hpM : M p' = none := by
      cases e : M p' with
      | none => rfl
      | some z => rw [hle2 _ _ e] at hp'; cases hp'
    have hle8 : M2.le (M2.setCells p' T.disk_Disk [.int .i64 D.limit, .map (some b'), .int .i64 D.left, .bool D.down]) := Mem.le_setCells hp'
    have hself8 : (M2.setCells p' T.disk_Disk [.int .i64 D.limit, .map (some b'), .int .i64 D.left, .bool D.down]).has p' T.disk_Disk [.int .i64 D.limit, .map (some b'), .int .i64 D.left, .bool D.down] := Mem.has_setCells
    obtain ⟨M8, hM8⟩ : ∃ M8, M8 = M2.setCells p' T.disk_Disk [.int .i64 D.limit, .map (some b'), .int .i64 D.left, .bool D.down] := ⟨_, rfl⟩
    rw [← hM8] at hle8 hself8
    (conv => whnf)
    erw [← hM8]
    refine ⟨p', b', es', rfl, Mem.le_trans hle2 hle8, ⟨hself8, hm2.mono fun o ho => hle8 _ _ ho, fun q hq => (hE2 q hq).le hle8, hA2⟩, hr.of_perm (by simpa using hperm), fun y hy => ?_⟩
    rcases hy with rfl | rfl | ⟨q, hq, hy⟩
    · exact hpM
    · exact hb'
    · exact hfr2 q hq y hy
  · have hk3 : Mem.keep (fun y => y = bi) M2 (M2.upd bi o') := Mem.keep_upd _ _ rfl
    have hle3 : M.le (M2.upd bi o') := fun y o hy => by
      rw [Mem.upd_ne _ _ (fun e => by subst e; rw [hle1 _ _ hy] at hbi; cases hbi)]; exact hle2 _ _ hy
    have hm3 : MapAt strV fxV (M2.upd bi o') b' es' := hm2.mono fun o ho => hk3 _ _ (fun e => by
      subst e; exact hb'1 hbi) ho
    obtain ⟨M3, hM3⟩ : ∃ M3, M3 = M2.upd bi o' := ⟨_, rfl⟩
    rw [← hM3] at hI4 hent hle3 hm3
    have hmem : (i, k) ∈ es := hI3.todo_sub _ (hperm2.mem_iff.2 (by simp))
    have hke : FXAt M3 k := (h.le hle3).ents _ hmem
    have hkl : k.p.length ≤ 1048576 := by have := usedE_le hmem; dsimp only at this; omega
    (conv => whnf)
    erw [← hM3]
    repeat' ((conv => whnf); first | refine ⟨?_, True.intro⟩ | refine brn_t rfl ?_ | refine brn_f rfl ?_ | refine ob rfl ?_ | refine ob (by decide) ?_ | refine grow_same (Mem.le_refl _) ?_ | refine ob (Mem.le_refl _) ?_ | refine ⟨_, Mem.le_refl _, ?_⟩ | fail)
    refine on hent ?_
    repeat' ((conv => whnf); first | refine ⟨?_, True.intro⟩ | refine brn_t rfl ?_ | refine brn_f rfl ?_ | refine ob rfl ?_ | refine ob (by decide) ?_ | refine grow_same (Mem.le_refl _) ?_ | refine ob (Mem.le_refl _) ?_ | refine ⟨_, Mem.le_refl _, ?_⟩ | fail)
    refine on (hke.self.c1 rfl) ?_
    repeat' ((conv => whnf); first | refine ⟨?_, True.intro⟩ | refine brn_t rfl ?_ | refine brn_f rfl ?_ | refine ob rfl ?_ | refine ob (by decide) ?_ | refine grow_same (Mem.le_refl _) ?_ | refine ob (Mem.le_refl _) ?_ | refine ⟨_, Mem.le_refl _, ?_⟩ | fail)
    refine on (hke.self.c1 rfl) ?_
    repeat' ((conv => whnf); first | refine ⟨?_, True.intro⟩ | refine brn_t rfl ?_ | refine brn_f rfl ?_ | refine ob rfl ?_ | refine ob (by decide) ?_ | refine grow_same (Mem.le_refl _) ?_ | refine ob (Mem.le_refl _) ?_ | refine ⟨_, Mem.le_refl _, ?_⟩ | fail)
    refine new (fun b1 hb1 => ?_)
    replace hb1 : M3 b1 = none := hb1
    have hN1 : NewSl M3 T.uint8 1 (some ⟨b1, 0, none⟩) 0 0 (([] : List UInt8).map byteV) _ := NewSl.lit hb1 T.uint8 1 0 [] rfl
    obtain ⟨M4, hM4⟩ : ∃ M4, M4 = M3.setCells b1 T.uint8 [] := ⟨_, rfl⟩
    rw [← hM4] at hN1
    (conv => whnf)
    erw [← hM4]
    repeat' ((conv => whnf); first | refine ob rfl ?_ | refine grow_same hN1.le ?_ | refine ob hN1.le ?_ | refine ⟨?_, True.intro⟩ | fail)
    (conv => whnf)
    refine srcv (hke.row.src.le hN1.le) ?_
    (conv => whnf); refine appNC M3 _ hN1 (by first | omega | (dsimp only; omega)) (by simp [maxLen]; omega) (bytes_one _) fun a5 c5 M5 hcap hN5 => ?_
    repeat' ((conv => whnf); first | refine ob rfl ?_ | refine grow_same hN5.le ?_ | refine ob hN5.le ?_ | refine ⟨?_, True.intro⟩ | fail)
    (conv => whnf)
    refine new (fun r hr0 => ?_)
    replace hr0 : M5 r = none := hr0
    have hb'5 : M5 b' ≠ none := by obtain ⟨l, cc, hh, _⟩ := hm3.mono fun o ho => hN5.le _ _ ho; rw [hh]; simp [mapObj]
    have hrb : r ≠ b' := fun e => hb'5 (e ▸ hr0)
    have hle6 : M5.le (M5.setCells r T.disk_file [.slice a5 k.p.length c5, .int .i64 k.safe]) := Mem.le_setCells hr0
    have hself6 : (M5.setCells r T.disk_file [.slice a5 k.p.length c5, .int .i64 k.safe]).has r T.disk_file [.slice a5 k.p.length c5, .int .i64 k.safe] := Mem.has_setCells
    obtain ⟨M6, hM6⟩ : ∃ M6, M6 = M5.setCells r T.disk_file [.slice a5 k.p.length c5, .int .i64 k.safe] := ⟨_, rfl⟩
    rw [← hM6] at hle6 hself6
    rw [← Nat.zero_add k.p.length] at hM6
    (conv => whnf)
    erw [← hM6]
    have hm6 : MapAt strV fxV M6 b' es' := hm3.mono fun o ho => hle6 _ _ (hN5.le _ _ ho)
    repeat' ((conv => whnf); first | refine ⟨?_, True.intro⟩ | refine brn_t rfl ?_ | refine brn_f rfl ?_ | refine ob rfl ?_ | refine ob (by decide) ?_ | refine grow_same (Mem.le_refl _) ?_ | refine ob (Mem.le_refl _) ?_ | refine ⟨_, Mem.le_refl _, ?_⟩ | fail)
    refine hm6.put strK i ⟨r, a5, c5, k.p, k.safe⟩ fun q2 f2 hm7 => ?_
    replace hm7 := hm7 M6
    obtain ⟨M7, hM7⟩ : ∃ M7, M7 = M6.upd b' (mput q2 f2 (strV i) (fxV ⟨r, a5, c5, k.p, k.safe⟩)) := ⟨_, rfl⟩
    have hk7 : Mem.keep (fun y => y = b') M6 M7 := hM7 ▸ Mem.keep_upd _ _ rfl
    rw [← hM7] at hm7
    (conv => whnf)
    erw [← hM7]
    repeat' ((conv => whnf); first | refine ⟨?_, True.intro⟩ | refine brn_t rfl ?_ | refine brn_f rfl ?_ | refine ob rfl ?_ | refine ob (by decide) ?_ | refine grow_same (Mem.le_refl _) ?_ | refine ob (Mem.le_refl _) ?_ | refine ⟨_, Mem.le_refl _, ?_⟩ | fail)
    have hle5 : M3.le M6 := Mem.le_trans hN5.le hle6
    have hlow : ∀ y, M3 y = none → M y = none := fun y hy => by
      cases e : M y with
      | none => rfl
      | some z => rw [hle3 _ _ e] at hy; cases hy
    have hE3 : ∀ q ∈ es', FXAt M3 q.2 := fun q hq => (hE2 q hq).mono fun y o hy ho => by
      have hne : y ≠ bi := fun e => by
        subst e
        rcases hy with e1 | ⟨q1, hq1, e1⟩
        · exact (hI3.nb (hE2 q hq).self).1 e1.symm
        · obtain ⟨cs, hh⟩ := (hE2 q hq).row.block hq1
          exact (hI3.nb hh).1 e1
      rw [hM3]; exact hk3 _ _ hne ho
    have hnk : aget es' i = none := by
      rw [aget_none]
      intro hin
      obtain ⟨q, hq, e⟩ := List.mem_map.1 hin
      have hnd : ((es'.map qOf ++ todo.map qOf).map fun m => m.1).Nodup := by
        rw [(hperm.map _).nodup_iff, List.map_map]; exact hr.nodup
      rw [List.map_append, List.nodup_append] at hnd
      have h1 : i ∈ (es'.map qOf).map fun m => m.1 := List.mem_map.2 ⟨qOf q, List.mem_map.2 ⟨q, hq, rfl⟩, e⟩
      have h2 : i ∈ (todo.map qOf).map fun m => m.1 := List.mem_map.2 ⟨qOf (i, k), List.mem_map.2 ⟨(i, k), hperm2.mem_iff.2 (by simp), rfl⟩, rfl⟩
      exact hnd.2.2 _ h1 _ h2 rfl
    have hput : aput es' i ⟨r, a5, c5, k.p, k.safe⟩ = es' ++ [(i, ⟨r, a5, c5, k.p, k.safe⟩)] := by simp [aput, hnk]
    have hb'own : ∀ q ∈ es', ∀ y, q.2.own y → y ≠ b' := fun q hq y hy e => by subst e; exact (hE2 q hq).nomap hm2 hy
    have hown : ∀ y, FX.own ⟨r, a5, c5, k.p, k.safe⟩ y → M3 y = none := fun y hy => by
      rcases hy with rfl | ⟨q, hq, rfl⟩
      · cases e : M3 y with
        | none => rfl
        | some z => rw [hN5.le _ _ e] at hr0; cases hr0
      · exact (hN5.block hq).1
    have hnew7 : FXAt M7 ⟨r, a5, c5, k.p, k.safe⟩ := by
      have hE6 : FXAt M6 ⟨r, a5, c5, k.p, k.safe⟩ := ⟨hself6, (by have := hN5.wr; simpa using this : Wr M5 T.uint8 1 a5 k.p.length c5 (k.p.map byteV)).le hle6⟩
      refine hE6.mono fun y o hy ho => hk7 _ _ (fun e => ?_) ho
      subst e
      have := hown _ hy
      obtain ⟨l, cc, hh, _⟩ := hm3
      rw [hh] at this; cases this
    have hI7 : Iter strV fxV M7 bi b es todo' := ((hI4.le hle5).mono fun x o hx ho => hk7 _ _ (fun e => by
      subst e
      rcases hx with e1 | e1
      · exact hb'1 (e1 ▸ hbi)
      · obtain ⟨l, cc, hh, _⟩ := h.map
        rw [← e1, hb'] at hh; cases hh) ho)
    rw [hput] at hm7
    refine ⟨⟨M7, es' ++ [(i, ⟨r, a5, c5, k.p, k.safe⟩)], todo'⟩, ⟨fun y o hy => ?_, hI7, hm7, fun q hq => ?_, ?_, ?_, fun q hq y hy => ?_⟩, by have := hperm2.length_eq; simp at this ⊢; omega, ⟨(by repeat' first | exact True.intro | refine ⟨rfl, ?_⟩), (by repeat' first | exact True.intro | refine ⟨rfl, ?_⟩), Mem.le_refl _, rfl⟩⟩
    · exact hk7 _ _ (fun e => by subst e; rw [hb'] at hy; cases hy) (hle5 _ _ (hle3 _ _ hy))
    · rcases List.mem_append.1 hq with h1 | h1
      · exact (hE3 q h1).mono fun y o hy ho => hk7 _ _ (hb'own q h1 y hy) (hle5 _ _ ho)
      · simp only [List.mem_singleton] at h1
        subst h1; exact hnew7
    · rw [List.pairwise_append]
      refine ⟨hA2, by simp, fun q hq q' hq' => ?_⟩
      simp only [List.mem_singleton] at hq'
      subst hq'
      exact fun y hy hxy => (hE3 q hq).full hy (hown y hxy)
    · refine List.Perm.trans ?_ hperm
      rw [List.map_append, List.append_assoc]
      refine List.Perm.append_left _ ?_
      have := hperm2.map qOf
      simpa [qOf] using this.symm
    · rcases List.mem_append.1 hq with h1 | h1
      · exact hfr2 q h1 y hy
      · simp only [List.mem_singleton] at h1
        subst h1; exact hlow y (hown y hy)
end Go.Proofs.Ytdjgmhifocdelaa
