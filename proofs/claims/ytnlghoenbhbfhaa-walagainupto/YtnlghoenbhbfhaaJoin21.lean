/- The disk: Sync, Cut, Remove, Rename, Read, Safe, Limit, Arm, Down. -/
import Derived.Test.YtnlghoenbhbfhaaJoin19
import Derived.Shelf.Sort.Plain
import Derived.Test.YtnlghoenbhbfhaaProg
namespace Go.Proofs.Ytnlghoenbhbfhaa
open Go Go.Vm
attribute [local irreducible] Brn Ob Grow CallsM inR LoopVC Mem.row Mem.cells Mem.setCells Mem.upd Go.Vm.Own AppVC SrcVC StrVC NextVC New SrcOk subA NewSl Mem.textAt Mem.mapAt Mem.iterAt entryOf kfind Wr NewEls Elems
set_option maxRecDepth 10000
variable {M : Mem} {p b : Nat} {D : DiskR} {es : FsT}
/-- a file's own words turn -/
theorem DAt.setFile (h : DAt M p b D es) {k : ByteArray} {x x' : FX} (hx : aget es k = some x) (hf : x'.f = x.f) (hrow : Wr M T.uint8 1 x'.a x'.p.length x'.c (x'.p.map byteV)) (hb : ∀ y, blk x'.a y → blk x.a y) {M' : Mem}
    (hM : M' = M.setCells x.f T.disk_file [.slice x'.a x'.p.length x'.c, .int .i64 x'.safe]) :
    DAt M' p b D (aput es k x') ∧ Mem.keep (fun y => y = x.f) M M' ∧ ∀ y, diskB p b (aput es k x') y → diskB p b es y := by
  have hxe : FXAt M x := h.ents _ (aget_mem hx)
  have hk : Mem.keep (fun y => y = x.f) M M' := fun y o hy ho => by
    rw [hM]; unfold Mem.setCells; rw [Mem.upd_ne _ _ hy]; exact ho
  have hown : ∀ y, x'.own y → x.own y := fun y hy => by
    rcases hy with rfl | hy
    · exact .inl hf
    · exact .inr (hb y hy)
  have hE : FXAt M' x' := by
    refine ⟨?_, hrow.mono fun q o hq ho => hk _ _ (fun e => ?_) ho⟩
    · rw [hf, hM]; exact Mem.has_setCells
    · obtain ⟨q', hq', e'⟩ := hb _ ⟨q, hq, rfl⟩
      obtain ⟨cs, hh⟩ := hxe.row.block hq'
      rw [e', e] at hh
      exact absurd (hh.inj hxe.self).1 (by decide)
  refine ⟨h.turn hx (fun y o hy ho => hk _ _ (fun e => hy (.inl e)) ho) hE hf fun y hy => .inl (hown y hy), hk, fun y hy => ?_⟩
  rcases diskB_aput hy h.map.nodup with h1 | h1
  · exact h1
  · exact .inr (.inr ⟨_, aget_mem hx, hown y h1⟩)
theorem Wr.subA0 {E : TypeId} {s : Nat} {a : Option Addr} {n c : Nat} {L : List Value} (h : Wr M E s a n c L) : subA a 0 c s = a := by
  unfold Wr at h
  obtain ⟨-, -, ⟨rfl, rfl⟩ | ⟨bb, cs, rfl, -⟩⟩ := h
  · simp [subA]
  · unfold subA; split
    · rfl
    · simp [addr_add]
theorem mem_aput {k : ByteArray} {x : FX} {q : ByteArray × FX} (hn : (es.map (·.1)).Nodup) (hq : q ∈ aput es k x) : q = (k, x) ∨ (q ∈ es ∧ q.1 ≠ k) := by
  by_cases e : q.1 = k
  · have hg : aget (aput es k x) k = some q.2 := aget_of_mem (aput_nodup hn k x) (by obtain ⟨q1, q2⟩ := q; simp only at e; subst e; exact hq)
    rw [aget_aput, if_pos rfl] at hg
    left; obtain ⟨q1, q2⟩ := q; simp only at e; subst e; simp only [Option.some.injEq] at hg; rw [hg]
  · have hg : aget (aput es k x) q.1 = some q.2 := aget_of_mem (aput_nodup hn k x) hq
    rw [aget_aput, if_neg e] at hg
    exact .inr ⟨aget_mem hg, e⟩
theorem aput_apart {k : ByteArray} {x : FX} (hp : es.Pairwise fun x y => apartF x.2 y.2) (hn : (es.map (·.1)).Nodup) (hx : ∀ q ∈ es, ∀ y, x.own y → ¬ q.2.own y) : (aput es k x).Pairwise fun x y => apartF x.2 y.2 := by
  cases hg : aget es k with
  | none =>
    have hpa : aput es k x = es ++ [(k, x)] := by simp [aput, hg]
    rw [hpa, List.pairwise_append]
    refine ⟨hp, by simp, fun q hq q' hq' => ?_⟩
    simp at hq'; subst hq'
    exact fun y hy hxy => hx q hq y hxy hy
  | some z =>
    have hpa : aput es k x = aset es k x := by simp [aput, hg]
    obtain ⟨u, v, h1, h2, h3, h4⟩ := aset_split hn hg x
    rw [hpa, h2]
    rw [h1] at hp
    have hp' := List.pairwise_append.1 hp
    have hmem : ∀ q, q ∈ u ∨ q ∈ v → q ∈ es := fun q hq => by rw [h1]; rcases hq with hq | hq <;> simp [hq]
    rw [List.pairwise_append]
    refine ⟨hp'.1, List.pairwise_cons.2 ⟨fun q hq y hy hqy => hx q (hmem q (.inr hq)) y hy hqy, (List.pairwise_cons.1 hp'.2.1).2⟩, fun q hq q' hq' => ?_⟩
    rcases List.mem_cons.1 hq' with rfl | hq'
    · exact fun y hy hxy => hx q (hmem q (.inl hq)) y hxy hy
    · exact hp'.2.2 q hq q' (List.mem_cons_of_mem _ hq')
theorem bl_extract (b : ByteArray) (k : Nat) : bl (b.extract 0 k) = (bl b).take k := by simp [bl]
theorem StepD.fin {M1 M2 M3 : Mem} {es2 : FsT} {D' : DiskR} (hle : M.le M1) (hk : Mem.keep (diskB p b es) M1 M2) (hown : ∀ y, diskB p b es2 y → diskB p b es y) (h3 : DAt M3 p b D' es2) (hk3 : Mem.keep (fun y => y = p) M2 M3) (hrel : RelD es2 D'.l) : StepD M M3 p b es es2 D' :=
  ⟨h3, hrel, fun y o hy ho => hk3 _ _ (fun e => hy (.inl e)) (hk _ _ hy (hle _ _ ho)), fun y hy => .inl (hown y hy)⟩
theorem down_of {s : ByteArray} (h : thereE D s = 0) : D.down = false ∧ readyE D s = 0 := by
  unfold thereE at h
  split at h
  · rename_i g; exact absurd h g
  · rename_i g
    have g1 : readyE D s = 0 := by simpa using g
    refine ⟨?_, g1⟩
    rw [← Bool.not_eq_true]; intro hd; unfold readyE at g1; rw [if_pos hd] at g1; cases g1
theorem fileR_of (hr : RelD es D.l) {s : ByteArray} {x : FX} (hx : aget es s = some x) : (fileR D s).name = s ∧ x.p = bl (fileR D s).all ∧ x.safe = (fileR D s).safe.size ∧ findR D.l s = some (fileR D s) := by
  obtain ⟨f, hf, hfn, hfp, hfs⟩ := hr.get hx
  have hfile : fileR D s = f := by unfold fileR; rw [hf]; rfl
  rw [hfile]; exact ⟨hfn, hfp, hfs, hf⟩
theorem Sync_ok (h : DAt M p b D es) (hr : RelD es D.l) (hI : InvD D) (s : ByteArray) (hs : s.size ≤ 4611686018427387904) :
    CallsM Try.prog F.disk_Disk_Sync [ptr p, .string s] M fun v M' => v = .int .i64 (syncR D s).2 ∧ ∃ es', StepD M M' p b es es' (syncR D s).1 := by
  refine fo_disk_Disk_Sync (by simp) ?_
  repeat' ((conv => whnf); first | refine ⟨?_, True.intro⟩ | refine brn_t rfl ?_ | refine brn_f rfl ?_ | refine ob rfl ?_ | refine ob (by decide) ?_ | refine grow_same (Mem.le_refl _) ?_ | refine ob (Mem.le_refl _) ?_ | refine ⟨_, Mem.le_refl _, ?_⟩ | fail)
  refine (there_ok h hr s hs).mono ?_
  rintro v M1 ⟨hle1, ⟨hne, rfl⟩ | ⟨h0, x, hx, rfl⟩⟩
  · (conv => whnf)
    refine brn_t (by simp [hne]) ?_
    repeat' ((conv => whnf); first | refine ⟨?_, True.intro⟩ | refine brn_t rfl ?_ | refine brn_f rfl ?_ | refine ob rfl ?_ | refine ob (by decide) ?_ | refine grow_same (Mem.le_refl _) ?_ | refine ob (Mem.le_refl _) ?_ | refine ⟨_, Mem.le_refl _, ?_⟩ | fail)
    have e : syncR D s = (D, thereE D s) := by unfold syncR; rw [if_pos hne]
    rw [e]
    exact ⟨rfl, es, .same h hr hle1⟩
  have h1 := h.le hle1
  have hx1 : FXAt M1 x := h1.ents _ (aget_mem hx)
  obtain ⟨hfn, hfp, hfs, hff⟩ := fileR_of hr hx
  obtain ⟨hdn, -⟩ := down_of h0
  repeat' ((conv => whnf); first | refine ⟨?_, True.intro⟩ | refine brn_t rfl ?_ | refine brn_f rfl ?_ | refine ob rfl ?_ | refine ob (by decide) ?_ | refine grow_same (Mem.le_refl _) ?_ | refine ob (Mem.le_refl _) ?_ | refine ⟨_, Mem.le_refl _, ?_⟩ | fail)
  refine on (hx1.self.c1 rfl) ?_
  (conv => whnf); refine on hx1.self.cells ?_
  (conv => whnf); refine ob (by simp) ?_
  obtain ⟨h2, hk2, ho2⟩ := h1.setFile (x' := ⟨x.f, x.a, x.c, x.p, x.p.length⟩) hx rfl hx1.row (fun y hy => hy) rfl
  obtain ⟨M2, hM2⟩ : ∃ M2, M2 = M1.setCells x.f T.disk_file [.slice x.a x.p.length x.c, .int .i64 x.p.length] := ⟨_, rfl⟩
  dsimp only at h2 hk2
  rw [← hM2] at h2 hk2
  (conv => whnf)
  erw [← hM2]
  repeat' ((conv => whnf); first | refine ⟨?_, True.intro⟩ | refine brn_t rfl ?_ | refine brn_f rfl ?_ | refine ob rfl ?_ | refine ob (by decide) ?_ | refine grow_same (Mem.le_refl _) ?_ | refine ob (Mem.le_refl _) ?_ | refine ⟨_, Mem.le_refl _, ?_⟩ | fail)
  refine (changed_ok h2 hdn (withR D.l ⟨s, (fileR D s).all, .empty⟩) hI.left.2).mono ?_
  rintro v M3 ⟨rfl, h3, hk3⟩
  have e : syncR D s = (changedR D (withR D.l ⟨s, (fileR D s).all, .empty⟩), 0) := by unfold syncR; rw [if_neg (by simp [h0])]
  repeat' ((conv => whnf); first | refine ⟨?_, True.intro⟩ | refine brn_t rfl ?_ | refine brn_f rfl ?_ | refine ob rfl ?_ | refine ob (by decide) ?_ | refine grow_same (Mem.le_refl _) ?_ | refine ob (Mem.le_refl _) ?_ | refine ⟨_, Mem.le_refl _, ?_⟩ | fail)
  rw [e]
  refine ⟨rfl, _, .fin hle1 (fun y o hy ho => hk2 _ _ (fun e => hy (.inr (.inr ⟨_, aget_mem hx, .inl e⟩))) ho) ho2 h3 hk3 ?_⟩
  exact hr.put (x := ⟨x.f, x.a, x.c, x.p, x.p.length⟩) (f := ⟨s, (fileR D s).all, .empty⟩) (by simp [cont, FileR.all, hfp, ← bl_len])
theorem Cut_ok (h : DAt M p b D es) (hr : RelD es D.l) (hI : InvD D) (s : ByteArray) (hs : s.size ≤ 4611686018427387904) (k : Int) :
    CallsM Try.prog F.disk_Disk_Cut [ptr p, .string s, .int .i64 k] M fun v M' => v = .int .i64 (cutR D s k).2 ∧ ∃ es', StepD M M' p b es es' (cutR D s k).1 := by
  refine fo_disk_Disk_Cut (by simp) ?_
  repeat' ((conv => whnf); first | refine ⟨?_, True.intro⟩ | refine brn_t rfl ?_ | refine brn_f rfl ?_ | refine ob rfl ?_ | refine ob (by decide) ?_ | refine grow_same (Mem.le_refl _) ?_ | refine ob (Mem.le_refl _) ?_ | refine ⟨_, Mem.le_refl _, ?_⟩ | fail)
  refine (there_ok h hr s hs).mono ?_
  rintro v M1 ⟨hle1, ⟨hne, rfl⟩ | ⟨h0, x, hx, rfl⟩⟩
  · (conv => whnf)
    refine brn_t (by simp [hne]) ?_
    repeat' ((conv => whnf); first | refine ⟨?_, True.intro⟩ | refine brn_t rfl ?_ | refine brn_f rfl ?_ | refine ob rfl ?_ | refine ob (by decide) ?_ | refine grow_same (Mem.le_refl _) ?_ | refine ob (Mem.le_refl _) ?_ | refine ⟨_, Mem.le_refl _, ?_⟩ | fail)
    have e : cutR D s k = (D, thereE D s) := by unfold cutR; rw [if_pos hne]
    rw [e]
    exact ⟨rfl, es, .same h hr hle1⟩
  have h1 := h.le hle1
  have hx1 : FXAt M1 x := h1.ents _ (aget_mem hx)
  obtain ⟨hfn, hfp, hfs, hff⟩ := fileR_of hr hx
  obtain ⟨hdn, -⟩ := down_of h0
  have hxl : x.p.length = (fileR D s).all.size := by rw [hfp, bl_len]
  repeat' ((conv => whnf); first | refine ⟨?_, True.intro⟩ | refine brn_t rfl ?_ | refine brn_f rfl ?_ | refine ob rfl ?_ | refine ob (by decide) ?_ | refine grow_same (Mem.le_refl _) ?_ | refine ob (Mem.le_refl _) ?_ | refine ⟨_, Mem.le_refl _, ?_⟩ | fail)
  refine brn (fun g => ?_) (fun g => ?_)
  · replace g := of_decide_eq_true g
    have e : cutR D s k = (D, 1) := by unfold cutR; rw [if_neg (by simp [h0]), if_pos (by omega)]
    repeat' ((conv => whnf); first | refine ⟨?_, True.intro⟩ | refine brn_t rfl ?_ | refine brn_f rfl ?_ | refine ob rfl ?_ | refine ob (by decide) ?_ | refine grow_same (Mem.le_refl _) ?_ | refine ob (Mem.le_refl _) ?_ | refine ⟨_, Mem.le_refl _, ?_⟩ | fail)
    rw [e]
    exact ⟨rfl, es, .same h hr hle1⟩
  replace g := of_decide_eq_false g
  repeat' ((conv => whnf); first | refine ⟨?_, True.intro⟩ | refine brn_t rfl ?_ | refine brn_f rfl ?_ | refine ob rfl ?_ | refine ob (by decide) ?_ | refine grow_same (Mem.le_refl _) ?_ | refine ob (Mem.le_refl _) ?_ | refine ⟨_, Mem.le_refl _, ?_⟩ | fail)
  refine on (hx1.self.c1 rfl) ?_
  (conv => whnf); refine brn (fun g1 => ?_) (fun g1 => ?_)
  · replace g1 := of_decide_eq_true g1
    have e : cutR D s k = (D, 1) := by unfold cutR; rw [if_neg (by simp [h0]), if_pos (by omega)]
    repeat' ((conv => whnf); first | refine ⟨?_, True.intro⟩ | refine brn_t rfl ?_ | refine brn_f rfl ?_ | refine ob rfl ?_ | refine ob (by decide) ?_ | refine grow_same (Mem.le_refl _) ?_ | refine ob (Mem.le_refl _) ?_ | refine ⟨_, Mem.le_refl _, ?_⟩ | fail)
    rw [e]
    exact ⟨rfl, es, .same h hr hle1⟩
  replace g1 := of_decide_eq_false g1
  have hrow := hx1.row
  have hsub := Wr.subA0 hrow
  have hrow' := hrow
  unfold Wr at hrow'
  have hkn : k.toNat ≤ x.p.length := by omega
  repeat' ((conv => whnf); first | refine ⟨?_, True.intro⟩ | refine brn_t rfl ?_ | refine brn_f rfl ?_ | refine ob rfl ?_ | refine ob (by decide) ?_ | refine grow_same (Mem.le_refl _) ?_ | refine ob (Mem.le_refl _) ?_ | refine ⟨_, Mem.le_refl _, ?_⟩ | fail)
  refine on (hx1.self.c1 rfl) ?_
  (conv => whnf); refine ob ⟨by decide, by omega, by have := hrow'.2.1; omega⟩ ?_
  (conv => whnf); refine on hx1.self.cells ?_
  (conv => whnf); refine ob (by simp) ?_
  have hk2 : Mem.keep (fun y => y = x.f) M1 (M1.setCells x.f T.disk_file [.slice (subA x.a 0 x.c 1) (k.toNat - 0) (x.c - 0), .int .i64 x.safe]) := fun y o hy ho => by
    unfold Mem.setCells; rw [Mem.upd_ne _ _ hy]; exact ho
  have hs2 : (M1.setCells x.f T.disk_file [.slice (subA x.a 0 x.c 1) (k.toNat - 0) (x.c - 0), .int .i64 x.safe]).has x.f T.disk_file [.slice (subA x.a 0 x.c 1) (k.toNat - 0) (x.c - 0), .int .i64 x.safe] := Mem.has_setCells
  have hse : ∀ (cs : List Value), (M1.setCells x.f T.disk_file [.slice (subA x.a 0 x.c 1) (k.toNat - 0) (x.c - 0), .int .i64 x.safe]).setCells x.f T.disk_file cs = M1.setCells x.f T.disk_file cs := fun cs => Mem.setCells_setCells ..
  obtain ⟨M2, hM2⟩ : ∃ M2, M2 = M1.setCells x.f T.disk_file [.slice (subA x.a 0 x.c 1) (k.toNat - 0) (x.c - 0), .int .i64 x.safe] := ⟨_, rfl⟩
  rw [← hM2] at hk2 hs2 hse
  (conv => whnf)
  erw [← hM2]
  repeat' ((conv => whnf); first | refine ⟨?_, True.intro⟩ | refine brn_t rfl ?_ | refine brn_f rfl ?_ | refine ob rfl ?_ | refine ob (by decide) ?_ | refine grow_same (Mem.le_refl _) ?_ | refine ob (Mem.le_refl _) ?_ | refine ⟨_, Mem.le_refl _, ?_⟩ | fail)
  refine on hs2.cells ?_
  (conv => whnf); refine ob (by simp) ?_
  obtain ⟨x', hx'⟩ : ∃ x' : FX, x' = ⟨x.f, x.a, x.c, x.p.take k.toNat, k.toNat⟩ := ⟨_, rfl⟩
  have hlen' : x'.p.length = k.toNat := by rw [hx']; simp; omega
  have hrow2 : Wr M1 T.uint8 1 x'.a x'.p.length x'.c (x'.p.map byteV) := by
    rw [hlen', hx']
    unfold Wr
    obtain ⟨w1, w2, w3⟩ := hrow'
    refine ⟨by simp; omega, by dsimp only; omega, w3.imp id fun ⟨bb, cs, e1, e2, e3, e4⟩ => ⟨bb, cs, e1, e2, e3, ?_⟩⟩
    rw [Nat.mul_one] at e4 ⊢
    rw [List.map_take, ← e4, List.take_take, Nat.min_eq_left hkn]
  obtain ⟨h3, hk3, ho3⟩ := h1.setFile (x' := x') hx (by rw [hx']) hrow2 (fun y hy => by rw [hx'] at hy; exact hy) rfl
  have hcells : [Value.slice x'.a x'.p.length x'.c, .int .i64 x'.safe] = [.slice (subA x.a 0 x.c 1) (k.toNat - 0) (x.c - 0), .int .i64 k] := by
    rw [hsub, hlen', hx', Nat.sub_zero, Nat.sub_zero]
    have : ((k.toNat : Nat) : Int) = k := by omega
    dsimp only
    rw [this]
  rw [hcells, ← hse] at h3 hk3
  obtain ⟨M3, hM3⟩ : ∃ M3, M3 = M2.setCells x.f T.disk_file [.slice (subA x.a 0 x.c 1) (k.toNat - 0) (x.c - 0), .int .i64 k] := ⟨_, rfl⟩
  rw [← hM3] at h3 hk3
  (conv => whnf)
  erw [← hM3]
  repeat' ((conv => whnf); first | refine ⟨?_, True.intro⟩ | refine brn_t rfl ?_ | refine brn_f rfl ?_ | refine ob rfl ?_ | refine ob (by decide) ?_ | refine grow_same (Mem.le_refl _) ?_ | refine ob (Mem.le_refl _) ?_ | refine ⟨_, Mem.le_refl _, ?_⟩ | fail)
  refine (changed_ok h3 hdn (withR D.l ⟨s, (fileR D s).all.extract 0 k.toNat, .empty⟩) hI.left.2).mono ?_
  rintro v M4 ⟨rfl, h4, hk4⟩
  have e : cutR D s k = (changedR D (withR D.l ⟨s, (fileR D s).all.extract 0 k.toNat, .empty⟩), 0) := by unfold cutR; rw [if_neg (by simp [h0]), if_neg (by omega)]
  repeat' ((conv => whnf); first | refine ⟨?_, True.intro⟩ | refine brn_t rfl ?_ | refine brn_f rfl ?_ | refine ob rfl ?_ | refine ob (by decide) ?_ | refine grow_same (Mem.le_refl _) ?_ | refine ob (Mem.le_refl _) ?_ | refine ⟨_, Mem.le_refl _, ?_⟩ | fail)
  rw [e]
  refine ⟨rfl, _, .fin hle1 (fun y o hy ho => hk3 _ _ (fun e => hy (.inr (.inr ⟨_, aget_mem hx, .inl e⟩))) ho) ho3 h4 hk4 ?_⟩
  refine hr.put (x := x') (f := ⟨s, (fileR D s).all.extract 0 k.toNat, .empty⟩) ?_
  rw [hx']
  simp only [cont, FileR.all, Prod.mk.injEq]
  constructor
  · rw [bl_append, show bl ByteArray.empty = [] from rfl, List.append_nil, hfp, bl_extract]; rfl
  · rw [← bl_len, bl_extract, List.length_take, show bl ((fileR D s).safe ++ (fileR D s).tail) = x.p from hfp.symm]; omega
theorem Remove_ok (h : DAt M p b D es) (hr : RelD es D.l) (hI : InvD D) (s : ByteArray) (hs : s.size ≤ 4611686018427387904) :
    CallsM Try.prog F.disk_Disk_Remove [ptr p, .string s] M fun v M' => v = .int .i64 (removeR D s).2 ∧ ∃ es', StepD M M' p b es es' (removeR D s).1 := by
  refine fo_disk_Disk_Remove (by simp) ?_
  repeat' ((conv => whnf); first | refine ⟨?_, True.intro⟩ | refine brn_t rfl ?_ | refine brn_f rfl ?_ | refine ob rfl ?_ | refine ob (by decide) ?_ | refine grow_same (Mem.le_refl _) ?_ | refine ob (Mem.le_refl _) ?_ | refine ⟨_, Mem.le_refl _, ?_⟩ | fail)
  refine (there_ok h hr s hs).mono ?_
  rintro v M1 ⟨hle1, ⟨hne, rfl⟩ | ⟨h0, x, hx, rfl⟩⟩
  · (conv => whnf)
    refine brn_t (by simp [hne]) ?_
    repeat' ((conv => whnf); first | refine ⟨?_, True.intro⟩ | refine brn_t rfl ?_ | refine brn_f rfl ?_ | refine ob rfl ?_ | refine ob (by decide) ?_ | refine grow_same (Mem.le_refl _) ?_ | refine ob (Mem.le_refl _) ?_ | refine ⟨_, Mem.le_refl _, ?_⟩ | fail)
    have e : removeR D s = (D, thereE D s) := by unfold removeR; rw [if_pos hne]
    rw [e]
    exact ⟨rfl, es, .same h hr hle1⟩
  have h1 := h.le hle1
  obtain ⟨hdn, -⟩ := down_of h0
  repeat' ((conv => whnf); first | refine ⟨?_, True.intro⟩ | refine brn_t rfl ?_ | refine brn_f rfl ?_ | refine ob rfl ?_ | refine ob (by decide) ?_ | refine grow_same (Mem.le_refl _) ?_ | refine ob (Mem.le_refl _) ?_ | refine ⟨_, Mem.le_refl _, ?_⟩ | fail)
  refine on (h1.self.c1 rfl) ?_
  (conv => whnf)
  refine h1.map.del strK s fun q2 f2 hm => ?_
  replace hm := hm M1
  obtain ⟨M2, hM2⟩ : ∃ M2, M2 = M1.upd b (mdrop q2 f2) := ⟨_, rfl⟩
  have hk2 : Mem.keep (fun y => y = b) M1 M2 := hM2 ▸ Mem.keep_upd _ _ rfl
  rw [← hM2] at hm
  (conv => whnf)
  erw [← hM2]
  have h2 := h1.less s hk2 hm
  repeat' ((conv => whnf); first | refine ⟨?_, True.intro⟩ | refine brn_t rfl ?_ | refine brn_f rfl ?_ | refine ob rfl ?_ | refine ob (by decide) ?_ | refine grow_same (Mem.le_refl _) ?_ | refine ob (Mem.le_refl _) ?_ | refine ⟨_, Mem.le_refl _, ?_⟩ | fail)
  refine (changed_ok h2 hdn (withoutR D.l s) hI.left.2).mono ?_
  rintro v M3 ⟨rfl, h3, hk3⟩
  have e : removeR D s = (changedR D (withoutR D.l s), 0) := by unfold removeR; rw [if_neg (by simp [h0])]
  repeat' ((conv => whnf); first | refine ⟨?_, True.intro⟩ | refine brn_t rfl ?_ | refine brn_f rfl ?_ | refine ob rfl ?_ | refine ob (by decide) ?_ | refine grow_same (Mem.le_refl _) ?_ | refine ob (Mem.le_refl _) ?_ | refine ⟨_, Mem.le_refl _, ?_⟩ | fail)
  rw [e]
  exact ⟨rfl, _, .fin hle1 (fun y o hy ho => hk2 _ _ (fun e => hy (.inr (.inl e))) ho) (fun y hy => diskB_adel hy) h3 hk3 (hr.del s)⟩
end Go.Proofs.Ytnlghoenbhbfhaa

/- The shelf's layings at this program; made by program. -/
namespace Go.Proofs.Ytnlghoenbhbfhaa
open Go Go.Proofs Go.Shelf
def Try.lays190_ren : Go.Shelf.Ren := ⟨fun | 190 => 43 | 125 => 56 | 258 => 55 | 128 => 68 | 129 => 69 | 302 => 59 | 303 => 60 | 304 => 61 | 305 => 62 | 306 => 63 | 307 => 64 | 308 => 65 | 309 => 66 | 310 => 67 | 333 => 72 | 329 => 73 | 330 => 74 | 334 => 75 | 335 => 76 | 336 => 77 | 344 => 79 | n => n, fun | 31 => 50 | 9 => 9 | 3 => 3 | 46 => 88 | 0 => 0 | 51 => 79 | 53 => 78 | 4 => 4 | 183 => 95 | 182 => 94 | 131 => 100 | 5 => 5 | 218 => 107 | 222 => 111 | 228 => 115 | 229 => 116 | n => n, fun | n => n⟩
theorem Try.lays190 : Go.Proofs.Lays.n190 Try.prog Try.lays190_ren := {
  mixed := by kernel_rfl
  f125 := Try.func56.trans (congrArg some (by kernel_rfl))
  f128 := Try.func68.trans (congrArg some (by kernel_rfl))
  f129 := Try.func69.trans (congrArg some (by kernel_rfl))
  f190 := Try.func43.trans (congrArg some (by kernel_rfl))
  f258 := Try.func55.trans (congrArg some (by kernel_rfl))
  f302 := Try.func59.trans (congrArg some (by kernel_rfl))
  f303 := Try.func60.trans (congrArg some (by kernel_rfl))
  f304 := Try.func61.trans (congrArg some (by kernel_rfl))
  f305 := Try.func62.trans (congrArg some (by kernel_rfl))
  f306 := Try.func63.trans (congrArg some (by kernel_rfl))
  f307 := Try.func64.trans (congrArg some (by kernel_rfl))
  f308 := Try.func65.trans (congrArg some (by kernel_rfl))
  f309 := Try.func66.trans (congrArg some (by kernel_rfl))
  f310 := Try.func67.trans (congrArg some (by kernel_rfl))
  f329 := Try.func73.trans (congrArg some (by kernel_rfl))
  f330 := Try.func74.trans (congrArg some (by kernel_rfl))
  f333 := Try.func72.trans (congrArg some (by kernel_rfl))
  f334 := Try.func75.trans (congrArg some (by kernel_rfl))
  f335 := Try.func76.trans (congrArg some (by kernel_rfl))
  f336 := Try.func77.trans (congrArg some (by kernel_rfl))
  f344 := Try.func79.trans (congrArg some (by kernel_rfl))
  t0 := Try.underlying0
  a0 := Try.isAgg0
  z0 := Try.sizeOf0
  v0 := Try.zeroValue0
  t3 := Try.underlying3
  a3 := Try.isAgg3
  z3 := Try.sizeOf3
  v3 := Try.zeroValue3
  t4 := Try.underlying4
  a4 := Try.isAgg4
  z4 := Try.sizeOf4
  v4 := Try.zeroValue4
  t5 := Try.underlying5
  a5 := Try.isAgg5
  z5 := Try.sizeOf5
  v5 := Try.zeroValue5
  t9 := Try.underlying9
  a9 := Try.isAgg9
  z9 := Try.sizeOf9
  v9 := Try.zeroValue9
  t31 := Try.underlying50
  a31 := Try.isAgg50
  z31 := Try.sizeOf50
  v31 := Try.zeroValue50
  t46 := Try.underlying88
  a46 := Try.isAgg88
  z46 := Try.sizeOf88
  v46 := Try.zeroValue88
  t51 := Try.underlying79
  a51 := Try.isAgg79
  z51 := Try.sizeOf79
  v51 := Try.zeroValue79
  t53 := Try.underlying78
  a53 := Try.isAgg78
  z53 := Try.sizeOf78
  v53 := Try.zeroValue78
  t131 := Try.underlying100
  a131 := Try.isAgg100
  z131 := Try.sizeOf100
  v131 := Try.zeroValue100
  t182 := Try.underlying94
  a182 := Try.isAgg94
  z182 := Try.sizeOf94
  v182 := Try.zeroValue94
  t183 := Try.underlying95
  a183 := Try.isAgg95
  z183 := Try.sizeOf95
  v183 := Try.zeroValue95
  t218 := Try.underlying107
  a218 := Try.isAgg107
  z218 := Try.sizeOf107
  v218 := Try.zeroValue107
  t222 := Try.underlying111
  a222 := Try.isAgg111
  z222 := Try.sizeOf111
  v222 := Try.zeroValue111
  t228 := Try.underlying115
  a228 := Try.isAgg115
  z228 := Try.sizeOf115
  v228 := Try.zeroValue115
  t229 := Try.underlying116
  a229 := Try.isAgg116
  z229 := Try.sizeOf116
  v229 := Try.zeroValue116 }
end Go.Proofs.Ytnlghoenbhbfhaa

/- The disk: Read, Safe, Limit, Arm, Down; the names. -/
namespace Go.Proofs.Ytnlghoenbhbfhaa
open Go Go.Vm
attribute [local irreducible] Brn Ob Grow CallsM inR LoopVC Mem.row Mem.cells Mem.setCells Mem.upd Go.Vm.Own AppVC SrcVC StrVC NextVC New SrcOk subA NewSl Mem.textAt Mem.mapAt Mem.iterAt entryOf kfind Wr NewEls Elems
set_option maxRecDepth 10000
variable {M : Mem} {p b : Nat} {D : DiskR} {es : FsT}
theorem splice_all {α : Type} (cs vs : List α) (h : cs.length = vs.length) : splice cs 0 vs = vs := by
  unfold splice; simp; omega
theorem Read_ok (h : DAt M p b D es) (hr : RelD es D.l) (hI : InvD D) (s : ByteArray) (hs : s.size ≤ 4611686018427387904) :
    CallsM Try.prog F.disk_Disk_Read [ptr p, .string s] M fun v M' => ∃ a n c, v = .tuple #[.slice a n c, .int .i64 (readR D s).2] ∧ n = (bl (readR D s).1).length ∧ NewSl M T.uint8 1 a n c ((bl (readR D s).1).map byteV) M' := by
  refine fo_disk_Disk_Read (by simp) ?_
  repeat' ((conv => whnf); first | refine ⟨?_, True.intro⟩ | refine brn_t rfl ?_ | refine brn_f rfl ?_ | refine ob rfl ?_ | refine ob (by decide) ?_ | refine grow_same (Mem.le_refl _) ?_ | refine ob (Mem.le_refl _) ?_ | refine ⟨_, Mem.le_refl _, ?_⟩ | fail)
  refine (there_ok h hr s hs).mono ?_
  rintro v M1 ⟨hle1, ⟨hne, rfl⟩ | ⟨h0, x, hx, rfl⟩⟩
  · (conv => whnf)
    refine brn_t (by simp [hne]) ?_
    repeat' ((conv => whnf); first | refine ⟨?_, True.intro⟩ | refine brn_t rfl ?_ | refine brn_f rfl ?_ | refine ob rfl ?_ | refine ob (by decide) ?_ | refine grow_same (Mem.le_refl _) ?_ | refine ob (Mem.le_refl _) ?_ | refine ⟨_, Mem.le_refl _, ?_⟩ | fail)
    have e : readR D s = (.empty, thereE D s) := by unfold readR; rw [if_pos hne]
    rw [e]
    exact ⟨none, 0, 0, rfl, rfl, (NewSl.none M T.uint8 1).up hle1⟩
  have h1 := h.le hle1
  have hx1 : FXAt M1 x := h1.ents _ (aget_mem hx)
  obtain ⟨hfn, hfp, hfs, hff⟩ := fileR_of hr hx
  have hxl : x.p.length ≤ 1048576 := by
    have h1 := usedE_le (aget_mem hx)
    have h2 := hr.used
    have h3 := hI.used
    dsimp only at h1; omega
  repeat' ((conv => whnf); first | refine ⟨?_, True.intro⟩ | refine brn_t rfl ?_ | refine brn_f rfl ?_ | refine ob rfl ?_ | refine ob (by decide) ?_ | refine grow_same (Mem.le_refl _) ?_ | refine ob (Mem.le_refl _) ?_ | refine ⟨_, Mem.le_refl _, ?_⟩ | fail)
  refine on (hx1.self.c1 rfl) ?_
  (conv => whnf); refine ob ⟨by omega, rfl, by omega, by omega⟩ ?_
  (conv => whnf); refine new (fun b2 hb2 => ?_)
  replace hb2 : M1 b2 = none := hb2
  have hle2 : M1.le (M1.setCells b2 T.uint8 (List.replicate (x.p.length : Int).toNat [Value.int .u8 0]).flatten) := Mem.le_setCells hb2
  have hs2 : (M1.setCells b2 T.uint8 (List.replicate (x.p.length : Int).toNat [Value.int .u8 0]).flatten).has b2 T.uint8 (List.replicate (x.p.length : Int).toNat [Value.int .u8 0]).flatten := Mem.has_setCells
  have hlen2 : (List.replicate (x.p.length : Int).toNat [Value.int .u8 0]).flatten.length = x.p.length := by simp
  generalize (List.replicate (x.p.length : Int).toNat [Value.int .u8 0]).flatten = zs at *
  obtain ⟨M2, hM2⟩ : ∃ M2, M2 = M1.setCells b2 T.uint8 zs := ⟨_, rfl⟩
  rw [← hM2] at hle2 hs2
  (conv => whnf)
  erw [← hM2]
  have hx2 := hx1.le hle2
  refine on (hx2.self.c1 rfl) ?_
  (conv => whnf)
  refine srcv hx2.row.src ?_
  (conv => whnf); refine ob ⟨by omega, bytes_one _⟩ ?_
  (conv => whnf); refine on hs2.cells ?_
  (conv => whnf); refine ob (by dsimp only; omega) ?_
  have hk3 : Mem.keep (fun y => y = b2) M2 (M2.setCells b2 T.uint8 (splice zs 0 (x.p.map byteV))) := fun y o hy ho => by
    unfold Mem.setCells; rw [Mem.upd_ne _ _ hy]; exact ho
  have hs3 : (M2.setCells b2 T.uint8 (splice zs 0 (x.p.map byteV))).has b2 T.uint8 (splice zs 0 (x.p.map byteV)) := Mem.has_setCells
  rw [splice_all zs _ (by simpa using hlen2)] at hk3 hs3
  obtain ⟨M3, hM3⟩ : ∃ M3, M3 = M2.setCells b2 T.uint8 (splice zs 0 (x.p.map byteV)) := ⟨_, rfl⟩
  rw [← splice_all zs (x.p.map byteV) (by simpa using hlen2), ← hM3] at hk3
  have hs3' : M3.has b2 T.uint8 (x.p.map byteV) := by rw [hM3, splice_all zs _ (by simpa using hlen2)]; exact hs3
  (conv => whnf)
  erw [← hM3]
  repeat' ((conv => whnf); first | refine ⟨?_, True.intro⟩ | refine brn_t rfl ?_ | refine brn_f rfl ?_ | refine ob rfl ?_ | refine ob (by decide) ?_ | refine grow_same (Mem.le_refl _) ?_ | refine ob (Mem.le_refl _) ?_ | refine ⟨_, Mem.le_refl _, ?_⟩ | fail)
  have e : readR D s = ((fileR D s).all, 0) := by unfold readR; rw [if_neg (by simp [h0])]
  rw [e]
  dsimp only
  rw [← hfp]
  have hbM : M b2 = none := by
    cases e : M b2 with
    | none => rfl
    | some z => rw [hle1 _ _ e] at hb2; cases hb2
  refine ⟨_, _, _, rfl, by omega, newSl_iff.2 ⟨hk3.le (Mem.le_trans hle1 hle2) (fun y hy => hy ▸ hbM), by simp, by omega, .inr ⟨b2, x.p.map byteV, rfl, hbM, hs3', by simp, by rw [List.take_of_length_le (by simp)]⟩⟩⟩
theorem Safe_ok (h : DAt M p b D es) (hr : RelD es D.l) (s : ByteArray) :
    CallsM Try.prog F.disk_Disk_Safe [ptr p, .string s] M fun v M' => v = .int .i64 (match findR D.l s with | some f => (f.safe.size : Int) | none => 0) ∧ M = M' := by
  refine fo_disk_Disk_Safe (by simp) ?_
  repeat' ((conv => whnf); first | refine ⟨?_, True.intro⟩ | refine brn_t rfl ?_ | refine brn_f rfl ?_ | refine ob rfl ?_ | refine ob (by decide) ?_ | refine grow_same (Mem.le_refl _) ?_ | refine ob (Mem.le_refl _) ?_ | refine ⟨_, Mem.le_refl _, ?_⟩ | fail)
  refine on (h.self.c1 rfl) ?_
  (conv => whnf)
  refine h.map.get strK s (fun hn => ?_) (fun x j hx => ?_)
  · repeat' ((conv => whnf); first | refine ⟨?_, True.intro⟩ | refine brn_t rfl ?_ | refine brn_f rfl ?_ | refine ob rfl ?_ | refine ob (by decide) ?_ | refine grow_same (Mem.le_refl _) ?_ | refine ob (Mem.le_refl _) ?_ | refine ⟨_, Mem.le_refl _, ?_⟩ | fail)
    rw [hr.none.1 hn]
    exact ⟨rfl, rfl⟩
  · obtain ⟨hfn, hfp, hfs, hff⟩ := fileR_of hr hx
    have hx1 : FXAt M x := h.ents _ (aget_mem hx)
    repeat' ((conv => whnf); first | refine ⟨?_, True.intro⟩ | refine brn_t rfl ?_ | refine brn_f rfl ?_ | refine ob rfl ?_ | refine ob (by decide) ?_ | refine grow_same (Mem.le_refl _) ?_ | refine ob (Mem.le_refl _) ?_ | refine ⟨_, Mem.le_refl _, ?_⟩ | fail)
    refine on (h.self.c1 rfl) ?_
    (conv => whnf)
    refine h.map.get strK s (fun hn => ?_) (fun x' j' hx' => ?_)
    · rw [hn] at hx; cases hx
    · rw [hx] at hx'; cases hx'
      repeat' ((conv => whnf); first | refine ⟨?_, True.intro⟩ | refine brn_t rfl ?_ | refine brn_f rfl ?_ | refine ob rfl ?_ | refine ob (by decide) ?_ | refine grow_same (Mem.le_refl _) ?_ | refine ob (Mem.le_refl _) ?_ | refine ⟨_, Mem.le_refl _, ?_⟩ | fail)
      refine on (hx1.self.c1 rfl) ?_
      repeat' ((conv => whnf); first | refine ⟨?_, True.intro⟩ | refine brn_t rfl ?_ | refine brn_f rfl ?_ | refine ob rfl ?_ | refine ob (by decide) ?_ | refine grow_same (Mem.le_refl _) ?_ | refine ob (Mem.le_refl _) ?_ | refine ⟨_, Mem.le_refl _, ?_⟩ | fail)
      rw [hff, hfs]
      exact ⟨rfl, rfl⟩
theorem Down_ok (h : DAt M p b D es) : CallsM Try.prog F.disk_Disk_Down [ptr p] M fun v M' => v = .bool D.down ∧ M = M' := by
  refine fo_disk_Disk_Down (by simp) ?_
  repeat' ((conv => whnf); first | refine ⟨?_, True.intro⟩ | refine brn_t rfl ?_ | refine brn_f rfl ?_ | refine ob rfl ?_ | refine ob (by decide) ?_ | refine grow_same (Mem.le_refl _) ?_ | refine ob (Mem.le_refl _) ?_ | refine ⟨_, Mem.le_refl _, ?_⟩ | fail)
  refine on (h.self.c1 rfl) ?_
  repeat' ((conv => whnf); first | refine ⟨?_, True.intro⟩ | refine brn_t rfl ?_ | refine brn_f rfl ?_ | refine ob rfl ?_ | refine ob (by decide) ?_ | refine grow_same (Mem.le_refl _) ?_ | refine ob (Mem.le_refl _) ?_ | refine ⟨_, Mem.le_refl _, ?_⟩ | fail)
  exact ⟨rfl, rfl⟩
theorem Arm_ok (h : DAt M p b D es) (hr : RelD es D.l) (k : Int) : CallsM Try.prog F.disk_Disk_Arm [ptr p, .int .i64 k] M fun v M' => v = .int .i64 (armR D k).2 ∧ StepD M M' p b es es (armR D k).1 := by
  refine fo_disk_Disk_Arm (by simp) ?_
  repeat' ((conv => whnf); first | refine ⟨?_, True.intro⟩ | refine brn_t rfl ?_ | refine brn_f rfl ?_ | refine ob rfl ?_ | refine ob (by decide) ?_ | refine grow_same (Mem.le_refl _) ?_ | refine ob (Mem.le_refl _) ?_ | refine ⟨_, Mem.le_refl _, ?_⟩ | fail)
  refine (ready_ok h (ns := []) (SrcOk.nil M 1) (by omega) (by simp)).mono ?_
  rintro v _ ⟨rfl, rfl⟩
  rw [ready0]
  by_cases hd : D.down = true
  · rw [if_pos hd]
    have e : armR D k = (D, 9) := by unfold armR; rw [if_pos hd]
    repeat' ((conv => whnf); first | refine ⟨?_, True.intro⟩ | refine brn_t rfl ?_ | refine brn_f rfl ?_ | refine ob rfl ?_ | refine ob (by decide) ?_ | refine grow_same (Mem.le_refl _) ?_ | refine ob (Mem.le_refl _) ?_ | refine ⟨_, Mem.le_refl _, ?_⟩ | fail)
    rw [e]; exact ⟨rfl, .same h hr (Mem.le_refl _)⟩
  rw [if_neg hd]
  have e : armR D k = (⟨D.limit, D.l, if k < 0 then -1 else k, decide (k = 0)⟩, 0) := by unfold armR; rw [if_neg hd]
  repeat' ((conv => whnf); first | refine ⟨?_, True.intro⟩ | refine brn_t rfl ?_ | refine brn_f rfl ?_ | refine ob rfl ?_ | refine ob (by decide) ?_ | refine grow_same (Mem.le_refl _) ?_ | refine ob (Mem.le_refl _) ?_ | refine ⟨_, Mem.le_refl _, ?_⟩ | fail)
  refine on h.self.cells ?_
  (conv => whnf); refine ob (by simp) ?_
  have hk2 : Mem.keep (fun y => y = p) M (M.setCells p T.disk_Disk [.int .i64 D.limit, .map (some b), .int .i64 (max k (-1)), .bool D.down]) := fun y o hy ho => by
    unfold Mem.setCells; rw [Mem.upd_ne _ _ hy]; exact ho
  have hs2 : (M.setCells p T.disk_Disk [.int .i64 D.limit, .map (some b), .int .i64 (max k (-1)), .bool D.down]).has p T.disk_Disk [.int .i64 D.limit, .map (some b), .int .i64 (max k (-1)), .bool D.down] := Mem.has_setCells
  obtain ⟨M2, hM2⟩ : ∃ M2, M2 = M.setCells p T.disk_Disk [.int .i64 D.limit, .map (some b), .int .i64 (max k (-1)), .bool D.down] := ⟨_, rfl⟩
  rw [← hM2] at hs2 hk2
  (conv => whnf)
  erw [← hM2]
  repeat' ((conv => whnf); first | refine ⟨?_, True.intro⟩ | refine brn_t rfl ?_ | refine brn_f rfl ?_ | refine ob rfl ?_ | refine ob (by decide) ?_ | refine grow_same (Mem.le_refl _) ?_ | refine ob (Mem.le_refl _) ?_ | refine ⟨_, Mem.le_refl _, ?_⟩ | fail)
  refine on hs2.cells ?_
  (conv => whnf); refine ob (by simp) ?_
  have hk3 : Mem.keep (fun y => y = p) M2 (M2.setCells p T.disk_Disk [.int .i64 D.limit, .map (some b), .int .i64 (max k (-1)), .bool (decide (k = 0))]) := fun y o hy ho => by
    unfold Mem.setCells; rw [Mem.upd_ne _ _ hy]; exact ho
  have hmx : max k (-1) = if k < 0 then -1 else k := by split <;> omega
  have h3 := h.head ⟨D.limit, D.l, if k < 0 then -1 else k, decide (k = 0)⟩ (Mem.keep_trans hk2 hk3) (by rw [← hmx]; exact Mem.has_setCells)
  obtain ⟨M3, hM3⟩ : ∃ M3, M3 = M2.setCells p T.disk_Disk [.int .i64 D.limit, .map (some b), .int .i64 (max k (-1)), .bool (decide (k = 0))] := ⟨_, rfl⟩
  rw [← hM3] at hk3 h3
  (conv => whnf)
  erw [← hM3]
  repeat' ((conv => whnf); first | refine ⟨?_, True.intro⟩ | refine brn_t rfl ?_ | refine brn_f rfl ?_ | refine ob rfl ?_ | refine ob (by decide) ?_ | refine grow_same (Mem.le_refl _) ?_ | refine ob (Mem.le_refl _) ?_ | refine ⟨_, Mem.le_refl _, ?_⟩ | fail)
  rw [e]
  exact ⟨rfl, h3, hr, Mem.keep_mono (Mem.keep_trans hk2 hk3) fun y e => .inl e, fun y hy => .inl hy⟩
theorem strV_enc (l : List ByteArray) : l.map strV = (l.map bl).map Go.Proofs.encStr := by
  rw [List.map_map]
  apply List.map_congr_left
  intro s _
  exact congrArg Value.string (mk_bl s).symm
theorem Names_ok (h : DAt M p b D es) (hr : RelD es D.l) (hI : InvD D) :
    CallsM Try.prog F.disk_Disk_Names [ptr p] M fun v M' => ∃ a c, v = .slice a D.l.length c ∧ NewSl M T.string 1 a D.l.length c ((D.l.map (·.name)).map strV) M' := by
  refine fo_disk_Disk_Names (by simp) ?_
  have hlen := hr.len
  have hI1 := hI.len
  repeat' ((conv => whnf); first | refine ⟨?_, True.intro⟩ | refine brn_t rfl ?_ | refine brn_f rfl ?_ | refine ob rfl ?_ | refine ob (by decide) ?_ | refine grow_same (Mem.le_refl _) ?_ | refine ob (Mem.le_refl _) ?_ | refine ⟨_, Mem.le_refl _, ?_⟩ | fail)
  refine on (h.self.c1 rfl) ?_
  (conv => whnf)
  refine h.map.range fun q bi hbi hI2 => ?_
  replace hbi : M bi = none := hbi
  (conv => whnf)
  refine loopF (σ := Mem × (Option Addr × Nat × Nat) × List ByteArray × FsT) [3] (fun x => [(3, .slice x.2.1.1 x.2.1.2.1 x.2.1.2.2)]) (fun _ => []) (fun x => x.1)
    (fun | ⟨M1, (a, n, c), l, todo⟩ => NewSl M T.string 1 a n c (l.map strV) M1 ∧ Iter strV fxV M1 bi b es todo ∧ (l ++ todo.map (·.1)).Perm (es.map (·.1))) (fun x => x.2.2.2.length) ⟨_, (none, 0, 0), [], es⟩
    ⟨(NewSl.none M T.string 1).up (Mem.le_upd hbi), hI2, by simp⟩ ⟨(by repeat' first | exact True.intro | refine ⟨rfl, ?_⟩), (by repeat' first | exact True.intro | refine ⟨rfl, ?_⟩), Mem.le_refl _, rfl⟩ ?_
  rintro ⟨M1, ⟨a, n, c⟩, l, todo⟩ ⟨hN, hI3, hperm⟩
  (conv => whnf)
  refine hI3.next (fun h0 => ?_) (fun i k todo' o' hperm2 hI4 hent => ?_)
  · subst h0
    have hl : l.length = n := hN.src.maplen
    have hln : n = D.l.length := by have := hperm.length_eq; simp at this; omega
    repeat' ((conv => whnf); first | refine ⟨?_, True.intro⟩ | refine brn_t rfl ?_ | refine brn_f rfl ?_ | refine ob rfl ?_ | refine ob (by decide) ?_ | refine grow_same (Mem.le_refl _) ?_ | refine ob (Mem.le_refl _) ?_ | refine ⟨_, Mem.le_refl _, ?_⟩ | fail)
    have hw := hN.wr
    rw [strV_enc] at hw
    refine (sortT_ok Try.lays190 (by kernel_rfl) hw (show n < 4611686018427387904 by omega)).mono ?_
    rintro v M2 ⟨rfl, hw2, hk2⟩
    have hnames : sortedT (l.map bl) = (D.l.map (·.name)).map bl := by
      refine List.Perm.eq_of_pairwise (le := fun x y => x ≤ y) (fun x y _ _ h1 h2 => List.le_antisymm h1 h2) ?_ ?_ ?_
      · have := List.pairwise_mergeSort (le := fun (x y : List UInt8) => decide (x ≤ y)) (fun a b c h1 h2 => by simp only [decide_eq_true_eq] at *; exact List.le_trans h1 h2) (fun a b => by simp only [Bool.or_eq_true, decide_eq_true_eq]; exact List.le_total a b) (l.map bl)
        exact this.imp fun h => of_decide_eq_true h
      · rw [List.pairwise_map, List.pairwise_map]
        exact hr.sort.imp fun {x y} hxy => List.le_of_lt ((lessT_iff _ _).1 hxy)
      · refine (sortedT_perm _).trans ?_
        have h1 : l.Perm (es.map (·.1)) := by simpa using hperm
        exact (h1.trans hr.names).map bl
    rw [hnames, ← strV_enc] at hw2
    repeat' ((conv => whnf); first | refine ⟨?_, True.intro⟩ | refine brn_t rfl ?_ | refine brn_f rfl ?_ | refine ob rfl ?_ | refine ob (by decide) ?_ | refine grow_same (Mem.le_refl _) ?_ | refine ob (Mem.le_refl _) ?_ | refine ⟨_, Mem.le_refl _, ?_⟩ | fail)
    rw [hln] at hw2
    dsimp only
    rw [hln]
    exact ⟨a, c, rfl, hN.ofWr hw2 hk2 rfl⟩
  · have hk2 : Mem.keep (fun y => y = bi) M1 (M1.upd bi o') := Mem.keep_upd _ _ rfl
    have hN2 : NewSl M T.string 1 a n c (l.map strV) (M1.upd bi o') := hN.keep hk2 (fun y e => e ▸ hbi) (fun q hq e => by
        obtain ⟨_, cs, hh⟩ := hN.block hq
        exact (hI3.nb hh).1 e)
    obtain ⟨M2, hM2⟩ : ∃ M2, M2 = M1.upd bi o' := ⟨_, rfl⟩
    rw [← hM2] at hI4 hent hN2
    have hl : l.length = n := hN.src.maplen
    have hlt : l.length < es.length := by have := hperm.length_eq; have := hperm2.length_eq; simp at *; omega
    (conv => whnf)
    erw [← hM2]
    repeat' ((conv => whnf); first | refine ⟨?_, True.intro⟩ | refine brn_t rfl ?_ | refine brn_f rfl ?_ | refine ob rfl ?_ | refine ob (by decide) ?_ | refine grow_same (Mem.le_refl _) ?_ | refine ob (Mem.le_refl _) ?_ | refine ⟨_, Mem.le_refl _, ?_⟩ | fail)
    refine on hent ?_
    (conv => whnf)
    refine appK M _ hN2 (by first | omega | (dsimp only; omega)) (by simp [maxLen]; omega) (by simp [Value.oneCell']) fun a6 c6 M6 hN6 hk6 => ?_
    have hnb : ∀ y, blk a y → y ≠ bi ∧ y ≠ b := fun y ⟨q, hq, e⟩ => by
      obtain ⟨_, cs, hh⟩ := hN2.block hq
      exact e ▸ hI4.nb hh
    have hI6 := hI4.keep hk6 (fun hb => (hnb _ hb).1 rfl) (fun hb => (hnb _ hb).2 rfl)
    (conv => whnf)
    refine ⟨⟨M6, (a6, n + 1, c6), l ++ [i], todo'⟩, ⟨by simpa using hN6, hI6, ?_⟩, by have := hperm2.length_eq; simp at this ⊢; omega, ⟨(by repeat' first | exact True.intro | refine ⟨rfl, ?_⟩), (by repeat' first | exact True.intro | refine ⟨rfl, ?_⟩), Mem.le_refl _, rfl⟩⟩
    refine List.Perm.trans ?_ hperm
    rw [List.append_assoc]
    refine List.Perm.append_left _ ?_
    simpa using (hperm2.map (·.1)).symm
end Go.Proofs.Ytnlghoenbhbfhaa

