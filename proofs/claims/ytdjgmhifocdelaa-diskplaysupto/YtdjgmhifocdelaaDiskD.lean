/- The disk: Sync, Cut, Remove, Rename, Read, Safe, Limit, Arm, Down. -/
import Derived.Test.YtdjgmhifocdelaaDiskC
namespace Go.Proofs.Ytdjgmhifocdelaa
open Go Go.Vm
attribute [local irreducible] Brn Ob Grow CallsM inR LoopVC Mem.row Mem.cells Mem.setCells Mem.upd Own AppVC SrcVC StrVC NextVC New SrcOk subA NewSl Mem.textAt Mem.mapAt Mem.iterAt entryOf kfind Wr NewEls Elems
set_option maxRecDepth 10000
variable {M : Mem} {p b : Nat} {D : DiskR} {es : FsT}
/-- a file's own words turn -/
theorem DAt.setFile (h : DAt M p b D es) {k : ByteArray} {x x' : FX} (hx : aget es k = some x) (hf : x'.f = x.f) (hrow : Wr M T.uint8 1 x'.a x'.p.length x'.c (x'.p.map byteV)) (hb : ∀ y, blk x'.a y → blk x.a y) {M' : Mem}
    (hM : M' = M.setCells x.f T.disk_file [.slice x'.a x'.p.length x'.c, .int .i64 x'.safe]) :
    DAt M' p b D (aput es k x') ∧ Mem.keep (fun y => y = x.f) M M' ∧ ∀ y, diskB p b (aput es k x') y → diskB p b es y := by
  have hxe : FXAt M x := h.ents _ (aget_mem hx)
  have hk : Mem.keep (fun y => y = x.f) M M' := fun y o hy ho => by
    rw [hM]; unfold Mem.setCells; rw [Mem.upd_ne _ _ hy]; exact ho
  have hown : ∀ y, x'.own y → x.own y := fun y hy => by
    rcases hy with rfl | hy
    · exact .inl hf
    · exact .inr (hb y hy)
  have hE : FXAt M' x' := by
    refine ⟨?_, hrow.mono fun q o hq ho => hk _ _ (fun e => ?_) ho⟩
    · rw [hf, hM]; exact Mem.has_setCells
    · obtain ⟨q', hq', e'⟩ := hb _ ⟨q, hq, rfl⟩
      obtain ⟨cs, hh⟩ := hxe.row.block hq'
      rw [e', e] at hh
      exact absurd (hh.inj hxe.self).1 (by decide)
  refine ⟨h.turn hx (fun y o hy ho => hk _ _ (fun e => hy (.inl e)) ho) hE hf fun y hy => .inl (hown y hy), hk, fun y hy => ?_⟩
  rcases diskB_aput hy h.map.nodup with h1 | h1
  · exact h1
  · exact .inr (.inr ⟨_, aget_mem hx, hown y h1⟩)
theorem Wr.subA0 {E : TypeId} {s : Nat} {a : Option Addr} {n c : Nat} {L : List Value} (h : Wr M E s a n c L) : subA a 0 c s = a := by
  unfold Wr at h
  obtain ⟨-, -, ⟨rfl, rfl⟩ | ⟨bb, cs, rfl, -⟩⟩ := h
  · simp [subA]
  · unfold subA; split
    · rfl
    · simp [addr_add]
theorem mem_aput {k : ByteArray} {x : FX} {q : ByteArray × FX} (hn : (es.map (·.1)).Nodup) (hq : q ∈ aput es k x) : q = (k, x) ∨ (q ∈ es ∧ q.1 ≠ k) := by
  by_cases e : q.1 = k
  · have hg : aget (aput es k x) k = some q.2 := aget_of_mem (aput_nodup hn k x) (by obtain ⟨q1, q2⟩ := q; simp only at e; subst e; exact hq)
    rw [aget_aput, if_pos rfl] at hg
    left; obtain ⟨q1, q2⟩ := q; simp only at e; subst e; simp only [Option.some.injEq] at hg; rw [hg]
  · have hg : aget (aput es k x) q.1 = some q.2 := aget_of_mem (aput_nodup hn k x) hq
    rw [aget_aput, if_neg e] at hg
    exact .inr ⟨aget_mem hg, e⟩
theorem aput_apart {k : ByteArray} {x : FX} (hp : es.Pairwise fun x y => apartF x.2 y.2) (hn : (es.map (·.1)).Nodup) (hx : ∀ q ∈ es, ∀ y, x.own y → ¬ q.2.own y) : (aput es k x).Pairwise fun x y => apartF x.2 y.2 := by
  cases hg : aget es k with
  | none =>
    have hpa : aput es k x = es ++ [(k, x)] := by simp [aput, hg]
    rw [hpa, List.pairwise_append]
    refine ⟨hp, by simp, fun q hq q' hq' => ?_⟩
    simp at hq'; subst hq'
    exact fun y hy hxy => hx q hq y hxy hy
  | some z =>
    have hpa : aput es k x = aset es k x := by simp [aput, hg]
    obtain ⟨u, v, h1, h2, h3, h4⟩ := aset_split hn hg x
    rw [hpa, h2]
    rw [h1] at hp
    have hp' := List.pairwise_append.1 hp
    have hmem : ∀ q, q ∈ u ∨ q ∈ v → q ∈ es := fun q hq => by rw [h1]; rcases hq with hq | hq <;> simp [hq]
    rw [List.pairwise_append]
    refine ⟨hp'.1, List.pairwise_cons.2 ⟨fun q hq y hy hqy => hx q (hmem q (.inr hq)) y hy hqy, (List.pairwise_cons.1 hp'.2.1).2⟩, fun q hq q' hq' => ?_⟩
    rcases List.mem_cons.1 hq' with rfl | hq'
    · exact fun y hy hxy => hx q (hmem q (.inl hq)) y hxy hy
    · exact hp'.2.2 q hq q' (List.mem_cons_of_mem _ hq')
theorem bl_extract (b : ByteArray) (k : Nat) : bl (b.extract 0 k) = (bl b).take k := by simp [bl]
theorem StepD.fin {M1 M2 M3 : Mem} {es2 : FsT} {D' : DiskR} (hle : M.le M1) (hk : Mem.keep (diskB p b es) M1 M2) (hown : ∀ y, diskB p b es2 y → diskB p b es y) (h3 : DAt M3 p b D' es2) (hk3 : Mem.keep (fun y => y = p) M2 M3) (hrel : RelD es2 D'.l) : StepD M M3 p b es es2 D' :=
  ⟨h3, hrel, fun y o hy ho => hk3 _ _ (fun e => hy (.inl e)) (hk _ _ hy (hle _ _ ho)), fun y hy => .inl (hown y hy)⟩
theorem down_of {s : ByteArray} (h : thereE D s = 0) : D.down = false ∧ readyE D s = 0 := by
  unfold thereE at h
  split at h
  · rename_i g; exact absurd h g
  · rename_i g
    have g1 : readyE D s = 0 := by simpa using g
    refine ⟨?_, g1⟩
    rw [← Bool.not_eq_true]; intro hd; unfold readyE at g1; rw [if_pos hd] at g1; cases g1
theorem fileR_of (hr : RelD es D.l) {s : ByteArray} {x : FX} (hx : aget es s = some x) : (fileR D s).name = s ∧ x.p = bl (fileR D s).all ∧ x.safe = (fileR D s).safe.size ∧ findR D.l s = some (fileR D s) := by
  obtain ⟨f, hf, hfn, hfp, hfs⟩ := hr.get hx
  have hfile : fileR D s = f := by unfold fileR; rw [hf]; rfl
  rw [hfile]; exact ⟨hfn, hfp, hfs, hf⟩
theorem Sync_ok (h : DAt M p b D es) (hr : RelD es D.l) (hI : InvD D) (s : ByteArray) (hs : s.size ≤ 4611686018427387904) :
    CallsM Try.prog F.disk_Disk_Sync [ptr p, .string s] M fun v M' => v = .int .i64 (syncR D s).2 ∧ ∃ es', StepD M M' p b es es' (syncR D s).1 := by
  refine fo_disk_Disk_Sync (by simp) ?_
  repeat' ((conv => whnf); first | refine ⟨?_, True.intro⟩ | refine brn_t rfl ?_ | refine brn_f rfl ?_ | refine ob rfl ?_ | refine ob (by decide) ?_ | refine grow_same (Mem.le_refl _) ?_ | refine ob (Mem.le_refl _) ?_ | refine ⟨_, Mem.le_refl _, ?_⟩ | fail)
  refine (there_ok h hr s hs).mono ?_
  rintro v M1 ⟨hle1, ⟨hne, rfl⟩ | ⟨h0, x, hx, rfl⟩⟩
  · (conv => whnf)
    refine brn_t (by simp [hne]) ?_
    repeat' ((conv => whnf); first | refine ⟨?_, True.intro⟩ | refine brn_t rfl ?_ | refine brn_f rfl ?_ | refine ob rfl ?_ | refine ob (by decide) ?_ | refine grow_same (Mem.le_refl _) ?_ | refine ob (Mem.le_refl _) ?_ | refine ⟨_, Mem.le_refl _, ?_⟩ | fail)
    have e : syncR D s = (D, thereE D s) := by unfold syncR; rw [if_pos hne]
    rw [e]
    exact ⟨rfl, es, .same h hr hle1⟩
  have h1 := h.le hle1
  have hx1 : FXAt M1 x := h1.ents _ (aget_mem hx)
  obtain ⟨hfn, hfp, hfs, hff⟩ := fileR_of hr hx
  obtain ⟨hdn, -⟩ := down_of h0
  repeat' ((conv => whnf); first | refine ⟨?_, True.intro⟩ | refine brn_t rfl ?_ | refine brn_f rfl ?_ | refine ob rfl ?_ | refine ob (by decide) ?_ | refine grow_same (Mem.le_refl _) ?_ | refine ob (Mem.le_refl _) ?_ | refine ⟨_, Mem.le_refl _, ?_⟩ | fail)
  refine on (hx1.self.c1 rfl) ?_
  (conv => whnf); refine on hx1.self.cells ?_
  (conv => whnf); refine ob (by simp) ?_
  obtain ⟨h2, hk2, ho2⟩ := h1.setFile (x' := ⟨x.f, x.a, x.c, x.p, x.p.length⟩) hx rfl hx1.row (fun y hy => hy) rfl
  obtain ⟨M2, hM2⟩ : ∃ M2, M2 = M1.setCells x.f T.disk_file [.slice x.a x.p.length x.c, .int .i64 x.p.length] := ⟨_, rfl⟩
  dsimp only at h2 hk2
  rw [← hM2] at h2 hk2
  (conv => whnf)
  erw [← hM2]
  repeat' ((conv => whnf); first | refine ⟨?_, True.intro⟩ | refine brn_t rfl ?_ | refine brn_f rfl ?_ | refine ob rfl ?_ | refine ob (by decide) ?_ | refine grow_same (Mem.le_refl _) ?_ | refine ob (Mem.le_refl _) ?_ | refine ⟨_, Mem.le_refl _, ?_⟩ | fail)
  refine (changed_ok h2 hdn (withR D.l ⟨s, (fileR D s).all, .empty⟩) hI.left.2).mono ?_
  rintro v M3 ⟨rfl, h3, hk3⟩
  have e : syncR D s = (changedR D (withR D.l ⟨s, (fileR D s).all, .empty⟩), 0) := by unfold syncR; rw [if_neg (by simp [h0])]
  repeat' ((conv => whnf); first | refine ⟨?_, True.intro⟩ | refine brn_t rfl ?_ | refine brn_f rfl ?_ | refine ob rfl ?_ | refine ob (by decide) ?_ | refine grow_same (Mem.le_refl _) ?_ | refine ob (Mem.le_refl _) ?_ | refine ⟨_, Mem.le_refl _, ?_⟩ | fail)
  rw [e]
  refine ⟨rfl, _, .fin hle1 (fun y o hy ho => hk2 _ _ (fun e => hy (.inr (.inr ⟨_, aget_mem hx, .inl e⟩))) ho) ho2 h3 hk3 ?_⟩
  exact hr.put (x := ⟨x.f, x.a, x.c, x.p, x.p.length⟩) (f := ⟨s, (fileR D s).all, .empty⟩) (by simp [cont, FileR.all, hfp, ← bl_len])
theorem Cut_ok (h : DAt M p b D es) (hr : RelD es D.l) (hI : InvD D) (s : ByteArray) (hs : s.size ≤ 4611686018427387904) (k : Int) :
    CallsM Try.prog F.disk_Disk_Cut [ptr p, .string s, .int .i64 k] M fun v M' => v = .int .i64 (cutR D s k).2 ∧ ∃ es', StepD M M' p b es es' (cutR D s k).1 := by
  refine fo_disk_Disk_Cut (by simp) ?_
  repeat' ((conv => whnf); first | refine ⟨?_, True.intro⟩ | refine brn_t rfl ?_ | refine brn_f rfl ?_ | refine ob rfl ?_ | refine ob (by decide) ?_ | refine grow_same (Mem.le_refl _) ?_ | refine ob (Mem.le_refl _) ?_ | refine ⟨_, Mem.le_refl _, ?_⟩ | fail)
  refine (there_ok h hr s hs).mono ?_
  rintro v M1 ⟨hle1, ⟨hne, rfl⟩ | ⟨h0, x, hx, rfl⟩⟩
  · (conv => whnf)
    refine brn_t (by simp [hne]) ?_
    repeat' ((conv => whnf); first | refine ⟨?_, True.intro⟩ | refine brn_t rfl ?_ | refine brn_f rfl ?_ | refine ob rfl ?_ | refine ob (by decide) ?_ | refine grow_same (Mem.le_refl _) ?_ | refine ob (Mem.le_refl _) ?_ | refine ⟨_, Mem.le_refl _, ?_⟩ | fail)
    have e : cutR D s k = (D, thereE D s) := by unfold cutR; rw [if_pos hne]
    rw [e]
    exact ⟨rfl, es, .same h hr hle1⟩
  have h1 := h.le hle1
  have hx1 : FXAt M1 x := h1.ents _ (aget_mem hx)
  obtain ⟨hfn, hfp, hfs, hff⟩ := fileR_of hr hx
  obtain ⟨hdn, -⟩ := down_of h0
  have hxl : x.p.length = (fileR D s).all.size := by rw [hfp, bl_len]
  repeat' ((conv => whnf); first | refine ⟨?_, True.intro⟩ | refine brn_t rfl ?_ | refine brn_f rfl ?_ | refine ob rfl ?_ | refine ob (by decide) ?_ | refine grow_same (Mem.le_refl _) ?_ | refine ob (Mem.le_refl _) ?_ | refine ⟨_, Mem.le_refl _, ?_⟩ | fail)
  refine brn (fun g => ?_) (fun g => ?_)
  · replace g := of_decide_eq_true g
    have e : cutR D s k = (D, 1) := by unfold cutR; rw [if_neg (by simp [h0]), if_pos (by omega)]
    repeat' ((conv => whnf); first | refine ⟨?_, True.intro⟩ | refine brn_t rfl ?_ | refine brn_f rfl ?_ | refine ob rfl ?_ | refine ob (by decide) ?_ | refine grow_same (Mem.le_refl _) ?_ | refine ob (Mem.le_refl _) ?_ | refine ⟨_, Mem.le_refl _, ?_⟩ | fail)
    rw [e]
    exact ⟨rfl, es, .same h hr hle1⟩
  replace g := of_decide_eq_false g
  repeat' ((conv => whnf); first | refine ⟨?_, True.intro⟩ | refine brn_t rfl ?_ | refine brn_f rfl ?_ | refine ob rfl ?_ | refine ob (by decide) ?_ | refine grow_same (Mem.le_refl _) ?_ | refine ob (Mem.le_refl _) ?_ | refine ⟨_, Mem.le_refl _, ?_⟩ | fail)
  refine on (hx1.self.c1 rfl) ?_
  (conv => whnf); refine brn (fun g1 => ?_) (fun g1 => ?_)
  · replace g1 := of_decide_eq_true g1
    have e : cutR D s k = (D, 1) := by unfold cutR; rw [if_neg (by simp [h0]), if_pos (by omega)]
    repeat' ((conv => whnf); first | refine ⟨?_, True.intro⟩ | refine brn_t rfl ?_ | refine brn_f rfl ?_ | refine ob rfl ?_ | refine ob (by decide) ?_ | refine grow_same (Mem.le_refl _) ?_ | refine ob (Mem.le_refl _) ?_ | refine ⟨_, Mem.le_refl _, ?_⟩ | fail)
    rw [e]
    exact ⟨rfl, es, .same h hr hle1⟩
  replace g1 := of_decide_eq_false g1
  have hrow := hx1.row
  have hsub := Wr.subA0 hrow
  have hrow' := hrow
  unfold Wr at hrow'
  have hkn : k.toNat ≤ x.p.length := by omega
  repeat' ((conv => whnf); first | refine ⟨?_, True.intro⟩ | refine brn_t rfl ?_ | refine brn_f rfl ?_ | refine ob rfl ?_ | refine ob (by decide) ?_ | refine grow_same (Mem.le_refl _) ?_ | refine ob (Mem.le_refl _) ?_ | refine ⟨_, Mem.le_refl _, ?_⟩ | fail)
  refine on (hx1.self.c1 rfl) ?_
  (conv => whnf); refine ob ⟨by decide, by omega, by have := hrow'.2.1; omega⟩ ?_
  (conv => whnf); refine on hx1.self.cells ?_
  (conv => whnf); refine ob (by simp) ?_
  have hk2 : Mem.keep (fun y => y = x.f) M1 (M1.setCells x.f T.disk_file [.slice (subA x.a 0 x.c 1) (k.toNat - 0) (x.c - 0), .int .i64 x.safe]) := fun y o hy ho => by
    unfold Mem.setCells; rw [Mem.upd_ne _ _ hy]; exact ho
  have hs2 : (M1.setCells x.f T.disk_file [.slice (subA x.a 0 x.c 1) (k.toNat - 0) (x.c - 0), .int .i64 x.safe]).has x.f T.disk_file [.slice (subA x.a 0 x.c 1) (k.toNat - 0) (x.c - 0), .int .i64 x.safe] := Mem.has_setCells
  have hse : ∀ (cs : List Value), (M1.setCells x.f T.disk_file [.slice (subA x.a 0 x.c 1) (k.toNat - 0) (x.c - 0), .int .i64 x.safe]).setCells x.f T.disk_file cs = M1.setCells x.f T.disk_file cs := fun cs => Mem.setCells_setCells ..
  obtain ⟨M2, hM2⟩ : ∃ M2, M2 = M1.setCells x.f T.disk_file [.slice (subA x.a 0 x.c 1) (k.toNat - 0) (x.c - 0), .int .i64 x.safe] := ⟨_, rfl⟩
  rw [← hM2] at hk2 hs2 hse
  (conv => whnf)
  erw [← hM2]
  repeat' ((conv => whnf); first | refine ⟨?_, True.intro⟩ | refine brn_t rfl ?_ | refine brn_f rfl ?_ | refine ob rfl ?_ | refine ob (by decide) ?_ | refine grow_same (Mem.le_refl _) ?_ | refine ob (Mem.le_refl _) ?_ | refine ⟨_, Mem.le_refl _, ?_⟩ | fail)
  refine on hs2.cells ?_
  (conv => whnf); refine ob (by simp) ?_
  obtain ⟨x', hx'⟩ : ∃ x' : FX, x' = ⟨x.f, x.a, x.c, x.p.take k.toNat, k.toNat⟩ := ⟨_, rfl⟩
  have hlen' : x'.p.length = k.toNat := by rw [hx']; simp; omega
  have hrow2 : Wr M1 T.uint8 1 x'.a x'.p.length x'.c (x'.p.map byteV) := by
    rw [hlen', hx']
    unfold Wr
    obtain ⟨w1, w2, w3⟩ := hrow'
    refine ⟨by simp; omega, by dsimp only; omega, w3.imp id fun ⟨bb, cs, e1, e2, e3, e4⟩ => ⟨bb, cs, e1, e2, e3, ?_⟩⟩
    rw [Nat.mul_one] at e4 ⊢
    rw [List.map_take, ← e4, List.take_take, Nat.min_eq_left hkn]
  obtain ⟨h3, hk3, ho3⟩ := h1.setFile (x' := x') hx (by rw [hx']) hrow2 (fun y hy => by rw [hx'] at hy; exact hy) rfl
  have hcells : [Value.slice x'.a x'.p.length x'.c, .int .i64 x'.safe] = [.slice (subA x.a 0 x.c 1) (k.toNat - 0) (x.c - 0), .int .i64 k] := by
    rw [hsub, hlen', hx', Nat.sub_zero, Nat.sub_zero]
    have : ((k.toNat : Nat) : Int) = k := by omega
    dsimp only
    rw [this]
  rw [hcells, ← hse] at h3 hk3
  obtain ⟨M3, hM3⟩ : ∃ M3, M3 = M2.setCells x.f T.disk_file [.slice (subA x.a 0 x.c 1) (k.toNat - 0) (x.c - 0), .int .i64 k] := ⟨_, rfl⟩
  rw [← hM3] at h3 hk3
  (conv => whnf)
  erw [← hM3]
  repeat' ((conv => whnf); first | refine ⟨?_, True.intro⟩ | refine brn_t rfl ?_ | refine brn_f rfl ?_ | refine ob rfl ?_ | refine ob (by decide) ?_ | refine grow_same (Mem.le_refl _) ?_ | refine ob (Mem.le_refl _) ?_ | refine ⟨_, Mem.le_refl _, ?_⟩ | fail)
  refine (changed_ok h3 hdn (withR D.l ⟨s, (fileR D s).all.extract 0 k.toNat, .empty⟩) hI.left.2).mono ?_
  rintro v M4 ⟨rfl, h4, hk4⟩
  have e : cutR D s k = (changedR D (withR D.l ⟨s, (fileR D s).all.extract 0 k.toNat, .empty⟩), 0) := by unfold cutR; rw [if_neg (by simp [h0]), if_neg (by omega)]
  repeat' ((conv => whnf); first | refine ⟨?_, True.intro⟩ | refine brn_t rfl ?_ | refine brn_f rfl ?_ | refine ob rfl ?_ | refine ob (by decide) ?_ | refine grow_same (Mem.le_refl _) ?_ | refine ob (Mem.le_refl _) ?_ | refine ⟨_, Mem.le_refl _, ?_⟩ | fail)
  rw [e]
  refine ⟨rfl, _, .fin hle1 (fun y o hy ho => hk3 _ _ (fun e => hy (.inr (.inr ⟨_, aget_mem hx, .inl e⟩))) ho) ho3 h4 hk4 ?_⟩
  refine hr.put (x := x') (f := ⟨s, (fileR D s).all.extract 0 k.toNat, .empty⟩) ?_
  rw [hx']
  simp only [cont, FileR.all, Prod.mk.injEq]
  constructor
  · rw [bl_append, show bl ByteArray.empty = [] from rfl, List.append_nil, hfp, bl_extract]; rfl
  · rw [← bl_len, bl_extract, List.length_take, show bl ((fileR D s).safe ++ (fileR D s).tail) = x.p from hfp.symm]; omega
theorem Remove_ok (h : DAt M p b D es) (hr : RelD es D.l) (hI : InvD D) (s : ByteArray) (hs : s.size ≤ 4611686018427387904) :
    CallsM Try.prog F.disk_Disk_Remove [ptr p, .string s] M fun v M' => v = .int .i64 (removeR D s).2 ∧ ∃ es', StepD M M' p b es es' (removeR D s).1 := by
  refine fo_disk_Disk_Remove (by simp) ?_
  repeat' ((conv => whnf); first | refine ⟨?_, True.intro⟩ | refine brn_t rfl ?_ | refine brn_f rfl ?_ | refine ob rfl ?_ | refine ob (by decide) ?_ | refine grow_same (Mem.le_refl _) ?_ | refine ob (Mem.le_refl _) ?_ | refine ⟨_, Mem.le_refl _, ?_⟩ | fail)
  refine (there_ok h hr s hs).mono ?_
  rintro v M1 ⟨hle1, ⟨hne, rfl⟩ | ⟨h0, x, hx, rfl⟩⟩
  · (conv => whnf)
    refine brn_t (by simp [hne]) ?_
    repeat' ((conv => whnf); first | refine ⟨?_, True.intro⟩ | refine brn_t rfl ?_ | refine brn_f rfl ?_ | refine ob rfl ?_ | refine ob (by decide) ?_ | refine grow_same (Mem.le_refl _) ?_ | refine ob (Mem.le_refl _) ?_ | refine ⟨_, Mem.le_refl _, ?_⟩ | fail)
    have e : removeR D s = (D, thereE D s) := by unfold removeR; rw [if_pos hne]
    rw [e]
    exact ⟨rfl, es, .same h hr hle1⟩
  have h1 := h.le hle1
  obtain ⟨hdn, -⟩ := down_of h0
  repeat' ((conv => whnf); first | refine ⟨?_, True.intro⟩ | refine brn_t rfl ?_ | refine brn_f rfl ?_ | refine ob rfl ?_ | refine ob (by decide) ?_ | refine grow_same (Mem.le_refl _) ?_ | refine ob (Mem.le_refl _) ?_ | refine ⟨_, Mem.le_refl _, ?_⟩ | fail)
  refine on (h1.self.c1 rfl) ?_
  (conv => whnf)
  refine h1.map.del strK s fun q2 f2 hm => ?_
  replace hm := hm M1
  obtain ⟨M2, hM2⟩ : ∃ M2, M2 = M1.upd b (mdrop q2 f2) := ⟨_, rfl⟩
  have hk2 : Mem.keep (fun y => y = b) M1 M2 := hM2 ▸ Mem.keep_upd _ _ rfl
  rw [← hM2] at hm
  (conv => whnf)
  erw [← hM2]
  have h2 := h1.less s hk2 hm
  repeat' ((conv => whnf); first | refine ⟨?_, True.intro⟩ | refine brn_t rfl ?_ | refine brn_f rfl ?_ | refine ob rfl ?_ | refine ob (by decide) ?_ | refine grow_same (Mem.le_refl _) ?_ | refine ob (Mem.le_refl _) ?_ | refine ⟨_, Mem.le_refl _, ?_⟩ | fail)
  refine (changed_ok h2 hdn (withoutR D.l s) hI.left.2).mono ?_
  rintro v M3 ⟨rfl, h3, hk3⟩
  have e : removeR D s = (changedR D (withoutR D.l s), 0) := by unfold removeR; rw [if_neg (by simp [h0])]
  repeat' ((conv => whnf); first | refine ⟨?_, True.intro⟩ | refine brn_t rfl ?_ | refine brn_f rfl ?_ | refine ob rfl ?_ | refine ob (by decide) ?_ | refine grow_same (Mem.le_refl _) ?_ | refine ob (Mem.le_refl _) ?_ | refine ⟨_, Mem.le_refl _, ?_⟩ | fail)
  rw [e]
  exact ⟨rfl, _, .fin hle1 (fun y o hy ho => hk2 _ _ (fun e => hy (.inr (.inl e))) ho) (fun y hy => diskB_adel hy) h3 hk3 (hr.del s)⟩
theorem Rename_ok (h : DAt M p b D es) (hr : RelD es D.l) (hI : InvD D) (s t : ByteArray) (hs : s.size ≤ 4611686018427387904) (ht : t.size ≤ 4611686018427387904) :
    CallsM Try.prog F.disk_Disk_Rename [ptr p, .string s, .string t] M fun v M' => v = .int .i64 (renameR D s t).2 ∧ ∃ es', StepD M M' p b es es' (renameR D s t).1 := by
  refine fo_disk_Disk_Rename (by simp) ?_
  repeat' ((conv => whnf); first | refine ⟨?_, True.intro⟩ | refine brn_t rfl ?_ | refine brn_f rfl ?_ | refine ob rfl ?_ | refine ob (by decide) ?_ | refine grow_same (Mem.le_refl _) ?_ | refine ob (Mem.le_refl _) ?_ | refine ⟨_, Mem.le_refl _, ?_⟩ | fail)
  refine new (fun b1 hb1 => ?_)
  replace hb1 : M b1 = none := hb1
  have hle1 : M.le (M.setCells b1 T.string [.string s, .string t]) := Mem.le_setCells hb1
  have hs1 : SrcOk (M.setCells b1 T.string [.string s, .string t]) 1 (some ⟨b1, 0, none⟩) 2 ([s, t].map strV) := SrcOk.lit rfl
  obtain ⟨M1, hM1⟩ : ∃ M1, M1 = M.setCells b1 T.string [.string s, .string t] := ⟨_, rfl⟩
  rw [← hM1] at hle1 hs1
  (conv => whnf)
  erw [← hM1]
  refine (ready_ok (h.le hle1) hs1 (by omega) (fun z hz => by simp at hz; rcases hz with rfl | rfl <;> assumption)).mono ?_
  rintro v _ ⟨rfl, rfl⟩
  have h2 : (if D.down = true then (9 : Int) else if [s, t].all okName = true then 0 else 2) = if readyE D s ≠ 0 then readyE D s else readyE D t := by
    unfold readyE
    by_cases hd : D.down = true
    · simp [hd]
    · by_cases h1 : okName s = true <;> by_cases h2 : okName t = true <;> simp [hd, h1, h2]
  rw [h2]
  (conv => whnf); refine brn (fun g => ?_) (fun g => ?_)
  · have g1 : ¬ (if readyE D s ≠ 0 then readyE D s else readyE D t) = 0 := by simpa using g
    have e : renameR D s t = (D, if readyE D s ≠ 0 then readyE D s else readyE D t) := by
      unfold renameR
      by_cases h1 : readyE D s ≠ 0
      · rw [if_pos h1, if_pos h1]
      · rw [if_neg h1] at g1
        rw [if_neg h1, if_neg h1, if_pos g1]
    repeat' ((conv => whnf); first | refine ⟨?_, True.intro⟩ | refine brn_t rfl ?_ | refine brn_f rfl ?_ | refine ob rfl ?_ | refine ob (by decide) ?_ | refine grow_same (Mem.le_refl _) ?_ | refine ob (Mem.le_refl _) ?_ | refine ⟨_, Mem.le_refl _, ?_⟩ | fail)
    rw [e]
    exact ⟨rfl, es, .same h hr hle1⟩
  have g1 : (if readyE D s ≠ 0 then readyE D s else readyE D t) = 0 := by simpa using g
  have gs : readyE D s = 0 := by
    apply Classical.byContradiction
    intro hne; rw [if_pos hne] at g1; exact hne g1
  have gt : readyE D t = 0 := by rw [if_neg (by simp [gs])] at g1; exact g1
  clear g
  repeat' ((conv => whnf); first | refine ⟨?_, True.intro⟩ | refine brn_t rfl ?_ | refine brn_f rfl ?_ | refine ob rfl ?_ | refine ob (by decide) ?_ | refine grow_same (Mem.le_refl _) ?_ | refine ob (Mem.le_refl _) ?_ | refine ⟨_, Mem.le_refl _, ?_⟩ | fail)
  refine (there_ok (h.le hle1) hr s hs).mono ?_
  rintro v M2 ⟨hle2, ⟨hne, rfl⟩ | ⟨h0, x, hx, rfl⟩⟩
  · (conv => whnf)
    refine brn_t (by simp [hne]) ?_
    repeat' ((conv => whnf); first | refine ⟨?_, True.intro⟩ | refine brn_t rfl ?_ | refine brn_f rfl ?_ | refine ob rfl ?_ | refine ob (by decide) ?_ | refine grow_same (Mem.le_refl _) ?_ | refine ob (Mem.le_refl _) ?_ | refine ⟨_, Mem.le_refl _, ?_⟩ | fail)
    have e : renameR D s t = (D, thereE D s) := by unfold renameR; rw [if_neg (by simp [gs]), if_neg (by simp [gt]), if_pos hne]
    rw [e]
    exact ⟨rfl, es, .same h hr (Mem.le_trans hle1 hle2)⟩
  have hle12 := Mem.le_trans hle1 hle2
  have h2' := h.le hle12
  have hx2 : FXAt M2 x := h2'.ents _ (aget_mem hx)
  obtain ⟨hfn, hfp, hfs, hff⟩ := fileR_of hr hx
  obtain ⟨hdn, -⟩ := down_of h0
  have hxl : x.p.length = (fileR D s).safe.size + (fileR D s).tail.size := by rw [hfp, FileR.all_size]
  repeat' ((conv => whnf); first | refine ⟨?_, True.intro⟩ | refine brn_t rfl ?_ | refine brn_f rfl ?_ | refine ob rfl ?_ | refine ob (by decide) ?_ | refine grow_same (Mem.le_refl _) ?_ | refine ob (Mem.le_refl _) ?_ | refine ⟨_, Mem.le_refl _, ?_⟩ | fail)
  refine on (hx2.self.c1 rfl) ?_
  (conv => whnf); refine on (hx2.self.c1 rfl) ?_
  (conv => whnf); refine brn (fun g3 => ?_) (fun g3 => ?_)
  · replace g3 := of_decide_eq_true g3
    have e : renameR D s t = (D, 7) := by unfold renameR; rw [if_neg (by simp [gs]), if_neg (by simp [gt]), if_neg (by simp [h0]), if_pos (by omega)]
    repeat' ((conv => whnf); first | refine ⟨?_, True.intro⟩ | refine brn_t rfl ?_ | refine brn_f rfl ?_ | refine ob rfl ?_ | refine ob (by decide) ?_ | refine grow_same (Mem.le_refl _) ?_ | refine ob (Mem.le_refl _) ?_ | refine ⟨_, Mem.le_refl _, ?_⟩ | fail)
    rw [e]
    exact ⟨rfl, es, .same h hr hle12⟩
  replace g3 := of_decide_eq_false g3
  have htl : (fileR D s).tail = .empty := bl_inj (List.eq_nil_of_length_eq_zero (by rw [bl_len]; omega))
  repeat' ((conv => whnf); first | refine ⟨?_, True.intro⟩ | refine brn_t rfl ?_ | refine brn_f rfl ?_ | refine ob rfl ?_ | refine ob (by decide) ?_ | refine grow_same (Mem.le_refl _) ?_ | refine ob (Mem.le_refl _) ?_ | refine ⟨_, Mem.le_refl _, ?_⟩ | fail)
  refine on (h2'.self.c1 rfl) ?_
  (conv => whnf)
  refine h2'.map.del strK s fun q2 f2 hm => ?_
  replace hm := hm M2
  obtain ⟨M3, hM3⟩ : ∃ M3, M3 = M2.upd b (mdrop q2 f2) := ⟨_, rfl⟩
  have hk3 : Mem.keep (fun y => y = b) M2 M3 := hM3 ▸ Mem.keep_upd _ _ rfl
  rw [← hM3] at hm
  (conv => whnf)
  erw [← hM3]
  have h3 := h2'.less s hk3 hm
  have hx3 : FXAt M3 x := hx2.mono fun y o hy ho => hk3 _ _ (fun e => by subst e; exact hx2.nomap h2'.map hy) ho
  repeat' ((conv => whnf); first | refine ⟨?_, True.intro⟩ | refine brn_t rfl ?_ | refine brn_f rfl ?_ | refine ob rfl ?_ | refine ob (by decide) ?_ | refine grow_same (Mem.le_refl _) ?_ | refine ob (Mem.le_refl _) ?_ | refine ⟨_, Mem.le_refl _, ?_⟩ | fail)
  refine on (h3.self.c1 rfl) ?_
  (conv => whnf)
  refine h3.map.put strK t x fun q3 f3 hm4 => ?_
  replace hm4 := hm4 M3
  obtain ⟨M4, hM4⟩ : ∃ M4, M4 = M3.upd b (mput q3 f3 (strV t) (fxV x)) := ⟨_, rfl⟩
  have hk4 : Mem.keep (fun y => y = b) M3 M4 := hM4 ▸ Mem.keep_upd _ _ rfl
  rw [← hM4] at hm4
  (conv => whnf)
  erw [← hM4]
  -- what lies at t now is gone: take it off first
  have hxn : ∀ q ∈ adel es s, ∀ y, x.own y → ¬ q.2.own y := fun q hq y hy hqy => by
    obtain ⟨hq1, hq2⟩ := List.mem_filter.1 hq
    have hq3 : q.1 ≠ s := by simpa using hq2
    have hall : ∀ {l : FsT}, l.Pairwise (fun x y => apartF x.2 y.2) → ∀ q1 ∈ l, ∀ q2 ∈ l, q1.1 ≠ q2.1 → apartF q1.2 q2.2 := fun {l} hp => by
      induction l with
      | nil => intro q1 h1; cases h1
      | cons z r ih =>
        obtain ⟨hz, hp'⟩ := List.pairwise_cons.1 hp
        intro q1 h1 q2 h2 hne
        rcases List.mem_cons.1 h1 with rfl | h1x <;> rcases List.mem_cons.1 h2 with rfl | h2x
        · exact absurd rfl hne
        · exact hz q2 h2x
        · exact fun y hy hy2 => hz q1 h1x y hy2 hy
        · exact ih hp' q1 h1x q2 h2x hne
    exact hall h.apart _ (aget_mem hx) q hq1 (fun e => hq3 e.symm) y hy hqy
  have h4 : DAt M4 p b D (aput (adel es s) t x) := by
    have hx4 : FXAt M4 x := hx3.mono fun y o hy ho => hk4 _ _ (fun e => by subst e; exact hx3.nomap h3.map hy) ho
    refine ⟨hk4 _ _ (h3.map.nb h3.self) h3.self, hm4, fun q hq => ?_, ?_⟩
    · rcases mem_aput h3.map.nodup hq with rfl | ⟨hq, _⟩
      · exact hx4
      · exact (h3.ents q hq).mono fun y o hy ho => hk4 _ _ (fun e => by subst e; exact (h3.ents q hq).nomap h3.map hy) ho
    · exact aput_apart h3.apart h3.map.nodup (fun q hq y hy => hxn q hq y hy)
  repeat' ((conv => whnf); first | refine ⟨?_, True.intro⟩ | refine brn_t rfl ?_ | refine brn_f rfl ?_ | refine ob rfl ?_ | refine ob (by decide) ?_ | refine grow_same (Mem.le_refl _) ?_ | refine ob (Mem.le_refl _) ?_ | refine ⟨_, Mem.le_refl _, ?_⟩ | fail)
  refine (changed_ok h4 hdn (withR (withoutR D.l s) ⟨t, (fileR D s).safe, .empty⟩) hI.left.2).mono ?_
  rintro v M5 ⟨rfl, h5, hk5⟩
  have e : renameR D s t = (changedR D (withR (withoutR D.l s) ⟨t, (fileR D s).safe, .empty⟩), 0) := by unfold renameR; rw [if_neg (by simp [gs]), if_neg (by simp [gt]), if_neg (by simp [h0]), if_neg (by omega)]
  repeat' ((conv => whnf); first | refine ⟨?_, True.intro⟩ | refine brn_t rfl ?_ | refine brn_f rfl ?_ | refine ob rfl ?_ | refine ob (by decide) ?_ | refine grow_same (Mem.le_refl _) ?_ | refine ob (Mem.le_refl _) ?_ | refine ⟨_, Mem.le_refl _, ?_⟩ | fail)
  rw [e]
  refine ⟨rfl, _, .fin hle12 (fun y o hy ho => hk4 _ _ (fun e => hy (.inr (.inl e))) (hk3 _ _ (fun e => hy (.inr (.inl e))) ho)) (fun y hy => ?_) h5 hk5 ?_⟩
  · rcases diskB_aput hy h3.map.nodup with h1 | h1
    · exact diskB_adel h1
    · exact .inr (.inr ⟨_, aget_mem hx, h1⟩)
  · exact (hr.del s).put (x := x) (f := ⟨t, (fileR D s).safe, .empty⟩) (by simp [cont, FileR.all, hfp, hfs, htl])
end Go.Proofs.Ytdjgmhifocdelaa
