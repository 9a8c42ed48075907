/- Part of this proof; laid by program. -/
import Derived.Test.YtpdkkbpkplhdpaaGreatJ12
import Derived.Shelf.Sort.Plain
import Derived.Test.YtpdkkbpkplhdpaaGreatProg
namespace Go.Proofs.YtpdkkbpkplhdpaaGreat
open Go Go.Vm
attribute [local irreducible] Brn Ob Grow CallsM inR LoopVC LoopVC0 Mem.row Mem.cells Mem.setCells Mem.upd Go.Vm.Own AppVC SrcVC StrVC NextVC New SrcOk subA NewSl Mem.textAt Mem.mapAt Mem.iterAt entryOf kfind Wr NewEls Elems
set_option maxRecDepth 10000
variable {M : Mem} {p b : Nat} {D : DiskR} {es : FsT}
theorem DAt.setFile (h : DAt M p b D es) {k : ByteArray} {x x' : FX} (hx : aget es k = some x) (hf : x'.f = x.f) (hrow : Wr M T.uint8 1 x'.a x'.p.length x'.c (x'.p.map byteV)) (hb : ∀ y, blk x'.a y → blk x.a y) {M' : Mem}
    (hM : M' = M.setCells x.f T.disk_file [.slice x'.a x'.p.length x'.c, .int .i64 x'.safe]) :
    DAt M' p b D (aput es k x') ∧ Mem.keep (fun y => y = x.f) M M' ∧ ∀ y, diskB p b (aput es k x') y → diskB p b es y := by
  have hxe : FXAt M x := h.ents _ (aget_mem hx)
  have hk : Mem.keep (fun y => y = x.f) M M' := fun y o hy ho => by
    rw [hM]; unfold Mem.setCells; rw [Mem.upd_ne _ _ hy]; exact ho
  have hown : ∀ y, x'.own y → x.own y := fun y hy => by
    rcases hy with rfl | hy
    · exact .inl hf
    · exact .inr (hb y hy)
  have hE : FXAt M' x' := by
    refine ⟨?_, hrow.mono fun q o hq ho => hk _ _ (fun e => ?_) ho⟩
    · rw [hf, hM]; exact Mem.has_setCells
    · obtain ⟨q', hq', e'⟩ := hb _ ⟨q, hq, rfl⟩
      obtain ⟨cs, hh⟩ := hxe.row.block hq'
      rw [e', e] at hh
      exact absurd (hh.inj hxe.self).1 (by decide)
  refine ⟨h.turn hx (fun y o hy ho => hk _ _ (fun e => hy (.inl e)) ho) hE hf fun y hy => .inl (hown y hy), hk, fun y hy => ?_⟩
  rcases diskB_aput hy h.map.nodup with h1 | h1
  · exact h1
  · exact .inr (.inr ⟨_, aget_mem hx, hown y h1⟩)
theorem Wr.subA0 {E : TypeId} {s : Nat} {a : Option Addr} {n c : Nat} {L : List Value} (h : Wr M E s a n c L) : subA a 0 c s = a := by
  unfold Wr at h
  obtain ⟨-, -, ⟨rfl, rfl⟩ | ⟨bb, cs, rfl, -⟩⟩ := h
  · simp [subA]
  · unfold subA; split
    · rfl
    · simp [addr_add]
theorem bl_extract (b : ByteArray) (k : Nat) : bl (b.extract 0 k) = (bl b).take k := by simp [bl]
theorem StepD.fin {M1 M2 M3 : Mem} {es2 : FsT} {D' : DiskR} (hle : M.le M1) (hk : Mem.keep (diskB p b es) M1 M2) (hown : ∀ y, diskB p b es2 y → diskB p b es y) (h3 : DAt M3 p b D' es2) (hk3 : Mem.keep (fun y => y = p) M2 M3) (hrel : RelD es2 D'.l) : StepD M M3 p b es es2 D' :=
  ⟨h3, hrel, fun y o hy ho => hk3 _ _ (fun e => hy (.inl e)) (hk _ _ hy (hle _ _ ho)), fun y hy => .inl (hown y hy)⟩
theorem down_of {s : ByteArray} (h : thereE D s = 0) : D.down = false ∧ readyE D s = 0 := by
  unfold thereE at h
  split at h
  · rename_i g; exact absurd h g
  · rename_i g
    have g1 : readyE D s = 0 := by simpa using g
    refine ⟨?_, g1⟩
    rw [← Bool.not_eq_true]; intro hd; unfold readyE at g1; rw [if_pos hd] at g1; cases g1
theorem fileR_of (hr : RelD es D.l) {s : ByteArray} {x : FX} (hx : aget es s = some x) : (fileR D s).name = s ∧ x.p = bl (fileR D s).all ∧ x.safe = (fileR D s).safe.size ∧ findR D.l s = some (fileR D s) := by
  obtain ⟨f, hf, hfn, hfp, hfs⟩ := hr.get hx
  have hfile : fileR D s = f := by unfold fileR; rw [hf]; rfl
  rw [hfile]; exact ⟨hfn, hfp, hfs, hf⟩
theorem Sync_ok (h : DAt M p b D es) (hr : RelD es D.l) (hI : InvD D) (s : ByteArray) (hs : s.size ≤ 4611686018427387904) :
    CallsM Tryz.prog F.disk_Disk_Sync [ptr p, .string s] M fun v M' => v = .int .i64 (syncR D s).2 ∧ ∃ es', StepD M M' p b es es' (syncR D s).1 := by
  refine fo_disk_Disk_Sync (by simp) ?_
  refine zR ?_
  refine (there_ok h hr s hs).mono ?_
  rintro v M1 ⟨hle1, ⟨hne, rfl⟩ | ⟨h0, x, hx, rfl⟩⟩
  · (conv => whnf)
    refine brn_t (by simp [hne]) ?_
    refine zR ?_
    have e : syncR D s = (D, thereE D s) := by unfold syncR; rw [if_pos hne]
    rw [e]
    exact ⟨rfl, es, .same h hr hle1⟩
  have h1 := h.le hle1
  have hx1 : FXAt M1 x := h1.ents _ (aget_mem hx)
  obtain ⟨hfn, hfp, hfs, hff⟩ := fileR_of hr hx
  obtain ⟨hdn, -⟩ := down_of h0
  refine zR ?_
  refine on (hx1.self.c1 rfl) ?_
  (conv => whnf); refine on hx1.self.cells ?_
  (conv => whnf); refine ob (by simp) ?_
  obtain ⟨h2, hk2, ho2⟩ := h1.setFile (x' := ⟨x.f, x.a, x.c, x.p, x.p.length⟩) hx rfl hx1.row (fun y hy => hy) rfl
  obtain ⟨M2, hM2⟩ : ∃ M2, M2 = M1.setCells x.f T.disk_file [.slice x.a x.p.length x.c, .int .i64 x.p.length] := ⟨_, rfl⟩
  dsimp only at h2 hk2
  rw [← hM2] at h2 hk2
  (conv => whnf)
  erw [← hM2]
  refine zR ?_
  refine (changed_ok h2 hdn (withR D.l ⟨s, (fileR D s).all, .empty⟩) hI.left.2).mono ?_
  rintro v M3 ⟨rfl, h3, hk3⟩
  have e : syncR D s = (changedR D (withR D.l ⟨s, (fileR D s).all, .empty⟩), 0) := by unfold syncR; rw [if_neg (by simp [h0])]
  refine zR ?_
  rw [e]
  refine ⟨rfl, _, .fin hle1 (fun y o hy ho => hk2 _ _ (fun e => hy (.inr (.inr ⟨_, aget_mem hx, .inl e⟩))) ho) ho2 h3 hk3 ?_⟩
  exact hr.put (x := ⟨x.f, x.a, x.c, x.p, x.p.length⟩) (f := ⟨s, (fileR D s).all, .empty⟩) (by simp [cont, FileR.all, hfp, ← bl_len])
theorem Cut_ok (h : DAt M p b D es) (hr : RelD es D.l) (hI : InvD D) (s : ByteArray) (hs : s.size ≤ 4611686018427387904) (k : Int) :
    CallsM Tryz.prog F.disk_Disk_Cut [ptr p, .string s, .int .i64 k] M fun v M' => v = .int .i64 (cutR D s k).2 ∧ ∃ es', StepD M M' p b es es' (cutR D s k).1 := by
  refine fo_disk_Disk_Cut (by simp) ?_
  refine zR ?_
  refine (there_ok h hr s hs).mono ?_
  rintro v M1 ⟨hle1, ⟨hne, rfl⟩ | ⟨h0, x, hx, rfl⟩⟩
  · (conv => whnf)
    refine brn_t (by simp [hne]) ?_
    refine zR ?_
    have e : cutR D s k = (D, thereE D s) := by unfold cutR; rw [if_pos hne]
    rw [e]
    exact ⟨rfl, es, .same h hr hle1⟩
  have h1 := h.le hle1
  have hx1 : FXAt M1 x := h1.ents _ (aget_mem hx)
  obtain ⟨hfn, hfp, hfs, hff⟩ := fileR_of hr hx
  obtain ⟨hdn, -⟩ := down_of h0
  have hxl : x.p.length = (fileR D s).all.size := by rw [hfp, bl_len]
  refine zR ?_
  refine brn (fun g => ?_) (fun g => ?_)
  · replace g := of_decide_eq_true g
    have e : cutR D s k = (D, 1) := by unfold cutR; rw [if_neg (by simp [h0]), if_pos (by omega)]
    refine zR ?_
    rw [e]
    exact ⟨rfl, es, .same h hr hle1⟩
  replace g := of_decide_eq_false g
  refine zR ?_
  refine on (hx1.self.c1 rfl) ?_
  (conv => whnf); refine brn (fun g1 => ?_) (fun g1 => ?_)
  · replace g1 := of_decide_eq_true g1
    have e : cutR D s k = (D, 1) := by unfold cutR; rw [if_neg (by simp [h0]), if_pos (by omega)]
    refine zR ?_
    rw [e]
    exact ⟨rfl, es, .same h hr hle1⟩
  replace g1 := of_decide_eq_false g1
  have hrow := hx1.row
  have hsub := Wr.subA0 hrow
  have hrow' := hrow
  unfold Wr at hrow'
  have hkn : k.toNat ≤ x.p.length := by omega
  refine zR ?_
  refine on (hx1.self.c1 rfl) ?_
  (conv => whnf); refine ob ⟨by decide, by omega, by have := hrow'.2.1; omega⟩ ?_
  (conv => whnf); refine on hx1.self.cells ?_
  (conv => whnf); refine ob (by simp) ?_
  have hk2 : Mem.keep (fun y => y = x.f) M1 (M1.setCells x.f T.disk_file [.slice (subA x.a 0 x.c 1) (k.toNat - 0) (x.c - 0), .int .i64 x.safe]) := fun y o hy ho => by
    unfold Mem.setCells; rw [Mem.upd_ne _ _ hy]; exact ho
  have hs2 : (M1.setCells x.f T.disk_file [.slice (subA x.a 0 x.c 1) (k.toNat - 0) (x.c - 0), .int .i64 x.safe]).has x.f T.disk_file [.slice (subA x.a 0 x.c 1) (k.toNat - 0) (x.c - 0), .int .i64 x.safe] := Mem.has_setCells
  have hse : ∀ (cs : List Value), (M1.setCells x.f T.disk_file [.slice (subA x.a 0 x.c 1) (k.toNat - 0) (x.c - 0), .int .i64 x.safe]).setCells x.f T.disk_file cs = M1.setCells x.f T.disk_file cs := fun cs => Mem.setCells_setCells ..
  obtain ⟨M2, hM2⟩ : ∃ M2, M2 = M1.setCells x.f T.disk_file [.slice (subA x.a 0 x.c 1) (k.toNat - 0) (x.c - 0), .int .i64 x.safe] := ⟨_, rfl⟩
  rw [← hM2] at hk2 hs2 hse
  (conv => whnf)
  erw [← hM2]
  refine zR ?_
  refine on hs2.cells ?_
  (conv => whnf); refine ob (by simp) ?_
  obtain ⟨x', hx'⟩ : ∃ x' : FX, x' = ⟨x.f, x.a, x.c, x.p.take k.toNat, k.toNat⟩ := ⟨_, rfl⟩
  have hlen' : x'.p.length = k.toNat := by rw [hx']; simp; omega
  have hrow2 : Wr M1 T.uint8 1 x'.a x'.p.length x'.c (x'.p.map byteV) := by
    rw [hlen', hx']
    unfold Wr
    obtain ⟨w1, w2, w3⟩ := hrow'
    refine ⟨by simp; omega, by dsimp only; omega, w3.imp id fun ⟨bb, cs, e1, e2, e3, e4⟩ => ⟨bb, cs, e1, e2, e3, ?_⟩⟩
    rw [Nat.mul_one] at e4 ⊢
    rw [List.map_take, ← e4, List.take_take, Nat.min_eq_left hkn]
  obtain ⟨h3, hk3, ho3⟩ := h1.setFile (x' := x') hx (by rw [hx']) hrow2 (fun y hy => by rw [hx'] at hy; exact hy) rfl
  have hcells : [Value.slice x'.a x'.p.length x'.c, .int .i64 x'.safe] = [.slice (subA x.a 0 x.c 1) (k.toNat - 0) (x.c - 0), .int .i64 k] := by
    rw [hsub, hlen', hx', Nat.sub_zero, Nat.sub_zero]
    have : ((k.toNat : Nat) : Int) = k := by omega
    dsimp only
    rw [this]
  rw [hcells, ← hse] at h3 hk3
  obtain ⟨M3, hM3⟩ : ∃ M3, M3 = M2.setCells x.f T.disk_file [.slice (subA x.a 0 x.c 1) (k.toNat - 0) (x.c - 0), .int .i64 k] := ⟨_, rfl⟩
  rw [← hM3] at h3 hk3
  (conv => whnf)
  erw [← hM3]
  refine zR ?_
  refine (changed_ok h3 hdn (withR D.l ⟨s, (fileR D s).all.extract 0 k.toNat, .empty⟩) hI.left.2).mono ?_
  rintro v M4 ⟨rfl, h4, hk4⟩
  have e : cutR D s k = (changedR D (withR D.l ⟨s, (fileR D s).all.extract 0 k.toNat, .empty⟩), 0) := by unfold cutR; rw [if_neg (by simp [h0]), if_neg (by omega)]
  refine zR ?_
  rw [e]
  refine ⟨rfl, _, .fin hle1 (fun y o hy ho => hk3 _ _ (fun e => hy (.inr (.inr ⟨_, aget_mem hx, .inl e⟩))) ho) ho3 h4 hk4 ?_⟩
  refine hr.put (x := x') (f := ⟨s, (fileR D s).all.extract 0 k.toNat, .empty⟩) ?_
  rw [hx']
  simp only [cont, FileR.all, Prod.mk.injEq]
  constructor
  · rw [bl_append, show bl ByteArray.empty = [] from rfl, List.append_nil, hfp, bl_extract]; rfl
  · rw [← bl_len, bl_extract, List.length_take, show bl ((fileR D s).safe ++ (fileR D s).tail) = x.p from hfp.symm]; omega
theorem Remove_ok (h : DAt M p b D es) (hr : RelD es D.l) (hI : InvD D) (s : ByteArray) (hs : s.size ≤ 4611686018427387904) :
    CallsM Tryz.prog F.disk_Disk_Remove [ptr p, .string s] M fun v M' => v = .int .i64 (removeR D s).2 ∧ ∃ es', StepD M M' p b es es' (removeR D s).1 := by
  refine fo_disk_Disk_Remove (by simp) ?_
  refine zR ?_
  refine (there_ok h hr s hs).mono ?_
  rintro v M1 ⟨hle1, ⟨hne, rfl⟩ | ⟨h0, x, hx, rfl⟩⟩
  · (conv => whnf)
    refine brn_t (by simp [hne]) ?_
    refine zR ?_
    have e : removeR D s = (D, thereE D s) := by unfold removeR; rw [if_pos hne]
    rw [e]
    exact ⟨rfl, es, .same h hr hle1⟩
  have h1 := h.le hle1
  obtain ⟨hdn, -⟩ := down_of h0
  refine zR ?_
  refine on (h1.self.c1 rfl) ?_
  (conv => whnf)
  refine h1.map.del strK s fun q2 f2 hm => ?_
  replace hm := hm M1
  obtain ⟨M2, hM2⟩ : ∃ M2, M2 = M1.upd b (mdrop q2 f2) := ⟨_, rfl⟩
  have hk2 : Mem.keep (fun y => y = b) M1 M2 := hM2 ▸ Mem.keep_upd _ _ rfl
  rw [← hM2] at hm
  (conv => whnf)
  erw [← hM2]
  have h2 := h1.less s hk2 hm
  refine zR ?_
  refine (changed_ok h2 hdn (withoutR D.l s) hI.left.2).mono ?_
  rintro v M3 ⟨rfl, h3, hk3⟩
  have e : removeR D s = (changedR D (withoutR D.l s), 0) := by unfold removeR; rw [if_neg (by simp [h0])]
  refine zR ?_
  rw [e]
  exact ⟨rfl, _, .fin hle1 (fun y o hy ho => hk2 _ _ (fun e => hy (.inr (.inl e))) ho) (fun y hy => diskB_adel hy) h3 hk3 (hr.del s)⟩
end Go.Proofs.YtpdkkbpkplhdpaaGreat
namespace Go.Proofs.YtpdkkbpkplhdpaaGreat
open Go Go.Proofs Go.Shelf
def Tryz.lays190_ren : Go.Shelf.Ren := ⟨fun | 190 => 61 | 125 => 96 | 258 => 95 | 128 => 146 | 129 => 147 | 302 => 137 | 303 => 138 | 304 => 139 | 305 => 140 | 306 => 141 | 307 => 142 | 308 => 143 | 309 => 144 | 310 => 145 | 333 => 170 | 329 => 171 | 330 => 172 | 334 => 173 | 335 => 174 | 336 => 175 | 344 => 199 | n => n, fun | 31 => 70 | 9 => 9 | 3 => 3 | 46 => 171 | 0 => 0 | 51 => 189 | 53 => 186 | 4 => 4 | 183 => 218 | 182 => 217 | 131 => 223 | 5 => 5 | 218 => 244 | 222 => 248 | 228 => 266 | 229 => 267 | n => n, fun | n => n⟩
theorem Tryz.lays190 : Go.Proofs.Lays.n190 Tryz.prog Tryz.lays190_ren := {
  mixed := by kernel_rfl
  f125 := Tryz.func96.trans (congrArg some (by kernel_rfl))
  f128 := Tryz.func146.trans (congrArg some (by kernel_rfl))
  f129 := Tryz.func147.trans (congrArg some (by kernel_rfl))
  f190 := Tryz.func61.trans (congrArg some (by kernel_rfl))
  f258 := Tryz.func95.trans (congrArg some (by kernel_rfl))
  f302 := Tryz.func137.trans (congrArg some (by kernel_rfl))
  f303 := Tryz.func138.trans (congrArg some (by kernel_rfl))
  f304 := Tryz.func139.trans (congrArg some (by kernel_rfl))
  f305 := Tryz.func140.trans (congrArg some (by kernel_rfl))
  f306 := Tryz.func141.trans (congrArg some (by kernel_rfl))
  f307 := Tryz.func142.trans (congrArg some (by kernel_rfl))
  f308 := Tryz.func143.trans (congrArg some (by kernel_rfl))
  f309 := Tryz.func144.trans (congrArg some (by kernel_rfl))
  f310 := Tryz.func145.trans (congrArg some (by kernel_rfl))
  f329 := Tryz.func171.trans (congrArg some (by kernel_rfl))
  f330 := Tryz.func172.trans (congrArg some (by kernel_rfl))
  f333 := Tryz.func170.trans (congrArg some (by kernel_rfl))
  f334 := Tryz.func173.trans (congrArg some (by kernel_rfl))
  f335 := Tryz.func174.trans (congrArg some (by kernel_rfl))
  f336 := Tryz.func175.trans (congrArg some (by kernel_rfl))
  f344 := Tryz.func199.trans (congrArg some (by kernel_rfl))
  t0 := Tryz.underlying0
  a0 := Tryz.isAgg0
  z0 := Tryz.sizeOf0
  v0 := Tryz.zeroValue0
  t3 := Tryz.underlying3
  a3 := Tryz.isAgg3
  z3 := Tryz.sizeOf3
  v3 := Tryz.zeroValue3
  t4 := Tryz.underlying4
  a4 := Tryz.isAgg4
  z4 := Tryz.sizeOf4
  v4 := Tryz.zeroValue4
  t5 := Tryz.underlying5
  a5 := Tryz.isAgg5
  z5 := Tryz.sizeOf5
  v5 := Tryz.zeroValue5
  t9 := Tryz.underlying9
  a9 := Tryz.isAgg9
  z9 := Tryz.sizeOf9
  v9 := Tryz.zeroValue9
  t31 := Tryz.underlying70
  a31 := Tryz.isAgg70
  z31 := Tryz.sizeOf70
  v31 := Tryz.zeroValue70
  t46 := Tryz.underlying171
  a46 := Tryz.isAgg171
  z46 := Tryz.sizeOf171
  v46 := Tryz.zeroValue171
  t51 := Tryz.underlying189
  a51 := Tryz.isAgg189
  z51 := Tryz.sizeOf189
  v51 := Tryz.zeroValue189
  t53 := Tryz.underlying186
  a53 := Tryz.isAgg186
  z53 := Tryz.sizeOf186
  v53 := Tryz.zeroValue186
  t131 := Tryz.underlying223
  a131 := Tryz.isAgg223
  z131 := Tryz.sizeOf223
  v131 := Tryz.zeroValue223
  t182 := Tryz.underlying217
  a182 := Tryz.isAgg217
  z182 := Tryz.sizeOf217
  v182 := Tryz.zeroValue217
  t183 := Tryz.underlying218
  a183 := Tryz.isAgg218
  z183 := Tryz.sizeOf218
  v183 := Tryz.zeroValue218
  t218 := Tryz.underlying244
  a218 := Tryz.isAgg244
  z218 := Tryz.sizeOf244
  v218 := Tryz.zeroValue244
  t222 := Tryz.underlying248
  a222 := Tryz.isAgg248
  z222 := Tryz.sizeOf248
  v222 := Tryz.zeroValue248
  t228 := Tryz.underlying266
  a228 := Tryz.isAgg266
  z228 := Tryz.sizeOf266
  v228 := Tryz.zeroValue266
  t229 := Tryz.underlying267
  a229 := Tryz.isAgg267
  z229 := Tryz.sizeOf267
  v229 := Tryz.zeroValue267 }
end Go.Proofs.YtpdkkbpkplhdpaaGreat
namespace Go.Proofs.YtpdkkbpkplhdpaaGreat
open Go Go.Vm
attribute [local irreducible] Brn Ob Grow CallsM inR LoopVC LoopVC0 Mem.row Mem.cells Mem.setCells Mem.upd Go.Vm.Own AppVC SrcVC StrVC NextVC New SrcOk subA NewSl Mem.textAt Mem.mapAt Mem.iterAt entryOf kfind Wr NewEls Elems
set_option maxRecDepth 10000
section
variable {M : Mem} {p b : Nat} {D : DiskR} {es : FsT}
theorem splice_all {α : Type} (cs vs : List α) (h : cs.length = vs.length) : splice cs 0 vs = vs := by
  unfold splice; simp; omega
theorem Read_ok (h : DAt M p b D es) (hr : RelD es D.l) (hI : InvD D) (s : ByteArray) (hs : s.size ≤ 4611686018427387904) :
    CallsM Tryz.prog F.disk_Disk_Read [ptr p, .string s] M fun v M' => ∃ a n c, v = .tuple #[.slice a n c, .int .i64 (readR D s).2] ∧ n = (bl (readR D s).1).length ∧ NewSl M T.uint8 1 a n c ((bl (readR D s).1).map byteV) M' := by
  refine fo_disk_Disk_Read (by simp) ?_
  refine zR ?_
  refine (there_ok h hr s hs).mono ?_
  rintro v M1 ⟨hle1, ⟨hne, rfl⟩ | ⟨h0, x, hx, rfl⟩⟩
  · (conv => whnf)
    refine brn_t (by simp [hne]) ?_
    refine zR ?_
    have e : readR D s = (.empty, thereE D s) := by unfold readR; rw [if_pos hne]
    rw [e]
    exact ⟨none, 0, 0, rfl, rfl, (NewSl.none M T.uint8 1).up hle1⟩
  have h1 := h.le hle1
  have hx1 : FXAt M1 x := h1.ents _ (aget_mem hx)
  obtain ⟨hfn, hfp, hfs, hff⟩ := fileR_of hr hx
  have hxl : x.p.length ≤ 1048576 := by
    have h1 := usedE_le (aget_mem hx)
    have h2 := hr.used
    have h3 := hI.used
    dsimp only at h1; omega
  refine zR ?_
  refine on (hx1.self.c1 rfl) ?_
  (conv => whnf); refine ob ⟨by omega, rfl, by omega, by omega⟩ ?_
  (conv => whnf); refine new (fun b2 hb2 => ?_)
  replace hb2 : M1 b2 = none := hb2
  have hle2 : M1.le (M1.setCells b2 T.uint8 (List.replicate (x.p.length : Int).toNat [Value.int .u8 0]).flatten) := Mem.le_setCells hb2
  have hs2 : (M1.setCells b2 T.uint8 (List.replicate (x.p.length : Int).toNat [Value.int .u8 0]).flatten).has b2 T.uint8 (List.replicate (x.p.length : Int).toNat [Value.int .u8 0]).flatten := Mem.has_setCells
  have hlen2 : (List.replicate (x.p.length : Int).toNat [Value.int .u8 0]).flatten.length = x.p.length := by simp
  generalize (List.replicate (x.p.length : Int).toNat [Value.int .u8 0]).flatten = zs at *
  obtain ⟨M2, hM2⟩ : ∃ M2, M2 = M1.setCells b2 T.uint8 zs := ⟨_, rfl⟩
  rw [← hM2] at hle2 hs2
  (conv => whnf)
  erw [← hM2]
  have hx2 := hx1.le hle2
  refine on (hx2.self.c1 rfl) ?_
  (conv => whnf)
  refine srcv hx2.row.src ?_
  (conv => whnf); refine ob ⟨by omega, bytes_one _⟩ ?_
  (conv => whnf); refine on hs2.cells ?_
  (conv => whnf); refine ob (by dsimp only; omega) ?_
  have hk3 : Mem.keep (fun y => y = b2) M2 (M2.setCells b2 T.uint8 (splice zs 0 (x.p.map byteV))) := fun y o hy ho => by
    unfold Mem.setCells; rw [Mem.upd_ne _ _ hy]; exact ho
  have hs3 : (M2.setCells b2 T.uint8 (splice zs 0 (x.p.map byteV))).has b2 T.uint8 (splice zs 0 (x.p.map byteV)) := Mem.has_setCells
  rw [splice_all zs _ (by simpa using hlen2)] at hk3 hs3
  obtain ⟨M3, hM3⟩ : ∃ M3, M3 = M2.setCells b2 T.uint8 (splice zs 0 (x.p.map byteV)) := ⟨_, rfl⟩
  rw [← splice_all zs (x.p.map byteV) (by simpa using hlen2), ← hM3] at hk3
  have hs3' : M3.has b2 T.uint8 (x.p.map byteV) := by rw [hM3, splice_all zs _ (by simpa using hlen2)]; exact hs3
  (conv => whnf)
  erw [← hM3]
  refine zR ?_
  have e : readR D s = ((fileR D s).all, 0) := by unfold readR; rw [if_neg (by simp [h0])]
  rw [e]
  dsimp only
  rw [← hfp]
  have hbM : M b2 = none := by
    cases e : M b2 with
    | none => rfl
    | some z => rw [hle1 _ _ e] at hb2; cases hb2
  refine ⟨_, _, _, rfl, by omega, newSl_iff.2 ⟨hk3.le (Mem.le_trans hle1 hle2) (fun y hy => hy ▸ hbM), by simp, by omega, .inr ⟨b2, x.p.map byteV, rfl, hbM, hs3', by simp, by rw [List.take_of_length_le (by simp)]⟩⟩⟩
theorem Safe_ok (h : DAt M p b D es) (hr : RelD es D.l) (s : ByteArray) :
    CallsM Tryz.prog F.disk_Disk_Safe [ptr p, .string s] M fun v M' => v = .int .i64 (match findR D.l s with | some f => (f.safe.size : Int) | none => 0) ∧ M = M' := by
  refine fo_disk_Disk_Safe (by simp) ?_
  refine zR ?_
  refine on (h.self.c1 rfl) ?_
  (conv => whnf)
  refine h.map.get strK s (fun hn => ?_) (fun x j hx => ?_)
  · refine zR ?_
    rw [hr.none.1 hn]
    exact ⟨rfl, rfl⟩
  · obtain ⟨hfn, hfp, hfs, hff⟩ := fileR_of hr hx
    have hx1 : FXAt M x := h.ents _ (aget_mem hx)
    refine zR ?_
    refine on (h.self.c1 rfl) ?_
    (conv => whnf)
    refine h.map.get strK s (fun hn => ?_) (fun x' j' hx' => ?_)
    · rw [hn] at hx; cases hx
    · rw [hx] at hx'; cases hx'
      refine zR ?_
      refine on (hx1.self.c1 rfl) ?_
      refine zR ?_
      rw [hff, hfs]
      exact ⟨rfl, rfl⟩
theorem Down_ok (h : DAt M p b D es) : CallsM Tryz.prog F.disk_Disk_Down [ptr p] M fun v M' => v = .bool D.down ∧ M = M' := by
  refine fo_disk_Disk_Down (by simp) ?_
  refine zR ?_
  refine on (h.self.c1 rfl) ?_
  refine zR ?_
  exact ⟨rfl, rfl⟩
theorem strV_enc (l : List ByteArray) : l.map strV = (l.map bl).map Go.Proofs.encStr := by
  rw [List.map_map]
  apply List.map_congr_left
  intro s _
  exact congrArg Value.string (mk_bl s).symm
theorem Names_ok (h : DAt M p b D es) (hr : RelD es D.l) (hI : InvD D) :
    CallsM Tryz.prog F.disk_Disk_Names [ptr p] M fun v M' => ∃ a c, v = .slice a D.l.length c ∧ NewSl M T.string 1 a D.l.length c ((D.l.map (·.name)).map strV) M' := by
  refine fo_disk_Disk_Names (by simp) ?_
  have hlen := hr.len
  have hI1 := hI.len
  refine zR ?_
  refine on (h.self.c1 rfl) ?_
  (conv => whnf)
  refine h.map.range fun q bi hbi hI2 => ?_
  replace hbi : M bi = none := hbi
  (conv => whnf)
  refine loopF (σ := Mem × (Option Addr × Nat × Nat) × List ByteArray × FsT) [3] (fun x => [(3, .slice x.2.1.1 x.2.1.2.1 x.2.1.2.2)]) (fun _ => []) (fun x => x.1)
    (fun | ⟨M1, (a, n, c), l, todo⟩ => NewSl M T.string 1 a n c (l.map strV) M1 ∧ Iter strV fxV M1 bi b es todo ∧ (l ++ todo.map (·.1)).Perm (es.map (·.1))) (fun x => x.2.2.2.length) ⟨_, (none, 0, 0), [], es⟩
    ⟨(NewSl.none M T.string 1).up (Mem.le_upd hbi), hI2, by simp⟩ zS ?_
  rintro ⟨M1, ⟨a, n, c⟩, l, todo⟩ ⟨hN, hI3, hperm⟩
  (conv => whnf)
  refine hI3.next (fun h0 => ?_) (fun i k todo' o' hperm2 hI4 hent => ?_)
  · subst h0
    have hl : l.length = n := hN.src.maplen
    have hln : n = D.l.length := by have := hperm.length_eq; simp at this; omega
    refine zR ?_
    have hw := hN.wr
    rw [strV_enc] at hw
    refine (sortT_ok Tryz.lays190 (by kernel_rfl) hw (show n < 4611686018427387904 by omega)).mono ?_
    rintro v M2 ⟨rfl, hw2, hk2⟩
    have hnames : sortedT (l.map bl) = (D.l.map (·.name)).map bl := by
      refine List.Perm.eq_of_pairwise (le := fun x y => x ≤ y) (fun x y _ _ h1 h2 => List.le_antisymm h1 h2) ?_ ?_ ?_
      · have := List.pairwise_mergeSort (le := fun (x y : List UInt8) => decide (x ≤ y)) (fun a b c h1 h2 => by simp only [decide_eq_true_eq] at *; exact List.le_trans h1 h2) (fun a b => by simp only [Bool.or_eq_true, decide_eq_true_eq]; exact List.le_total a b) (l.map bl)
        exact this.imp fun h => of_decide_eq_true h
      · rw [List.pairwise_map, List.pairwise_map]
        exact hr.sort.imp fun {x y} hxy => List.le_of_lt ((lessT_iff _ _).1 hxy)
      · refine (sortedT_perm _).trans ?_
        have h1 : l.Perm (es.map (·.1)) := by simpa using hperm
        exact (h1.trans hr.names).map bl
    rw [hnames, ← strV_enc] at hw2
    refine zR ?_
    rw [hln] at hw2
    dsimp only
    rw [hln]
    exact ⟨a, c, rfl, hN.ofWr hw2 hk2 rfl⟩
  · have hk2 : Mem.keep (fun y => y = bi) M1 (M1.upd bi o') := Mem.keep_upd _ _ rfl
    have hN2 : NewSl M T.string 1 a n c (l.map strV) (M1.upd bi o') := hN.keep hk2 (fun y e => e ▸ hbi) (fun q hq e => by
        obtain ⟨_, cs, hh⟩ := hN.block hq
        exact (hI3.nb hh).1 e)
    obtain ⟨M2, hM2⟩ : ∃ M2, M2 = M1.upd bi o' := ⟨_, rfl⟩
    rw [← hM2] at hI4 hent hN2
    have hl : l.length = n := hN.src.maplen
    have hlt : l.length < es.length := by have := hperm.length_eq; have := hperm2.length_eq; simp at *; omega
    (conv => whnf)
    erw [← hM2]
    refine zR ?_
    refine on hent ?_
    (conv => whnf)
    refine appK M _ hN2 (by first | omega | (dsimp only; omega)) (by simp [maxLen]; omega) (by simp [Value.oneCell']) fun a6 c6 M6 hN6 hk6 => ?_
    have hnb : ∀ y, blk a y → y ≠ bi ∧ y ≠ b := fun y ⟨q, hq, e⟩ => by
      obtain ⟨_, cs, hh⟩ := hN2.block hq
      exact e ▸ hI4.nb hh
    have hI6 := hI4.keep hk6 (fun hb => (hnb _ hb).1 rfl) (fun hb => (hnb _ hb).2 rfl)
    (conv => whnf)
    refine ⟨⟨M6, (a6, n + 1, c6), l ++ [i], todo'⟩, ⟨by simpa using hN6, hI6, ?_⟩, by have := hperm2.length_eq; simp at this ⊢; omega, zS⟩
    refine List.Perm.trans ?_ hperm
    rw [List.append_assoc]
    refine List.Perm.append_left _ ?_
    simpa using (hperm2.map (·.1)).symm
end
section
variable {M : Mem} {p b : Nat} {D : DiskR} {es : FsT}
def crashTo (keep : List Int) (i : Nat) (L : List FileR) : List FileR := L.mapIdx fun j f => if j < i then crashF keep j f else f
theorem crashTo_names (keep : List Int) (i : Nat) (L : List FileR) : (crashTo keep i L).map (·.name) = L.map (·.name) := by
  apply List.ext_getElem?
  intro j
  simp only [crashTo, List.getElem?_map, List.getElem?_mapIdx, Option.map_map]
  cases L[j]? with
  | none => rfl
  | some f => simp only [Option.map_some, Function.comp_apply]; split <;> rfl
theorem sortedR_names {L L' : List FileR} (h : SortedR L) (e : L'.map (·.name) = L.map (·.name)) : SortedR L' := by
  have h1 : (L.map (·.name)).Pairwise fun x y => lessT x y = true := by rw [List.pairwise_map]; exact h
  rw [← e, List.pairwise_map] at h1
  exact h1
theorem crashTo_mem {keep : List Int} {i : Nat} {L : List FileR} {x : FileR} : x ∈ crashTo keep i L ↔ ∃ j f, L[j]? = some f ∧ x = if j < i then crashF keep j f else f := by
  unfold crashTo
  rw [List.mem_iff_getElem?]
  constructor
  · rintro ⟨j, hj⟩
    rw [List.getElem?_mapIdx] at hj
    obtain ⟨f, hf, e⟩ := Option.map_eq_some_iff.1 hj
    exact ⟨j, f, hf, e.symm⟩
  · rintro ⟨j, f, hf, rfl⟩
    exact ⟨j, by rw [List.getElem?_mapIdx, hf]; rfl⟩
theorem SortedR.idx {L : List FileR} (h : SortedR L) {i j : Nat} {f g : FileR} (hf : L[i]? = some f) (hg : L[j]? = some g) (e : f.name = g.name) : i = j := by
  obtain ⟨h1, rfl⟩ := List.getElem?_eq_some_iff.1 hf
  obtain ⟨h2, rfl⟩ := List.getElem?_eq_some_iff.1 hg
  have hp := List.pairwise_iff_getElem.1 h
  rcases Nat.lt_trichotomy i j with h3 | h3 | h3
  · have := hp i j h1 h2 h3; rw [e, lessT_irrefl] at this; cases this
  · exact h3
  · have := hp j i h2 h1 h3; rw [← e, lessT_irrefl] at this; cases this
theorem sorted_ext' {L L' : List FileR} (h : SortedR L) (h' : SortedR L') (hm : ∀ x, x ∈ L ↔ x ∈ L') : L = L' := by
  have nd : ∀ {L : List FileR}, SortedR L → L.Nodup := fun {L} h => h.imp fun {x y} hxy e => by rw [e, lessT_irrefl] at hxy; cases hxy
  refine List.Perm.eq_of_pairwise (le := fun (x y : FileR) => lessT x.name y.name = true) (fun x y _ _ h1 h2 => ?_) h h' ((List.perm_ext_iff_of_nodup (nd h) (nd h')).2 hm)
  have := lessT_trans h1 h2; rw [lessT_irrefl] at this; cases this
theorem crashTo_step {keep : List Int} {i : Nat} {L : List FileR} (h : SortedR L) {f : FileR} (hf : L[i]? = some f) : withR (crashTo keep i L) (crashF keep i f) = crashTo keep (i + 1) L := by
  have s1 : SortedR (crashTo keep i L) := sortedR_names h (crashTo_names keep i L)
  have s2 : SortedR (crashTo keep (i + 1) L) := sortedR_names h (crashTo_names keep (i + 1) L)
  refine sorted_ext' (withR_sorted s1 _) s2 fun x => ?_
  rw [withR_mem, crashTo_mem, crashTo_mem]
  constructor
  · rintro (rfl | ⟨⟨j, g, hg, rfl⟩, hne⟩)
    · exact ⟨i, f, hf, by rw [if_pos (by omega)]⟩
    · refine ⟨j, g, hg, ?_⟩
      by_cases hj : j < i
      · rw [if_pos hj, if_pos (by omega)]
      · rw [if_neg hj] at hne ⊢
        rw [if_neg]
        intro hj2
        have : j = i := by omega
        subst this
        rw [hf] at hg; cases hg
        exact hne rfl
  · rintro ⟨j, g, hg, rfl⟩
    by_cases hj : j = i
    · subst hj
      rw [hf] at hg; cases hg
      left; rw [if_pos (by omega)]
    · right
      have e : (if j < i + 1 then crashF keep j g else g) = if j < i then crashF keep j g else g := by
        by_cases hj2 : j < i
        · rw [if_pos hj2, if_pos (by omega)]
        · rw [if_neg hj2, if_neg (by omega)]
      rw [e]
      refine ⟨⟨j, g, hg, rfl⟩, fun e2 => hj (h.idx hg hf ?_)⟩
      split at e2 <;> exact e2
theorem crashTo_zero (keep : List Int) (L : List FileR) : crashTo keep 0 L = L := by
  unfold crashTo
  apply List.ext_getElem?
  intro j
  rw [List.getElem?_mapIdx]
  cases L[j]? <;> simp
theorem crashTo_all (keep : List Int) (L : List FileR) : crashTo keep L.length L = L.mapIdx fun i f => crashF keep i f := by
  unfold crashTo
  apply List.ext_getElem?
  intro j
  rw [List.getElem?_mapIdx, List.getElem?_mapIdx]
  cases hj : L[j]? with
  | none => rfl
  | some f =>
    have := (List.getElem?_eq_some_iff.1 hj).1
    simp only [Option.map_some, if_pos this]
theorem le_sum_mem : ∀ {l : List Nat} {x : Nat}, x ∈ l → x ≤ l.sum
  | y :: r, x, h => by
    rw [List.sum_cons]
    rcases List.mem_cons.1 h with rfl | h
    · omega
    · have := le_sum_mem h; omega
theorem keptN_le (keep : List Int) (i : Nat) (f : FileR) : keptN keep i f ≤ f.tail.size := by
  unfold keptN
  split
  · split
    · exact Nat.min_le_right _ _
    · omega
  · omega
theorem Crash_ok (h : DAt M p b D es) (hr : RelD es D.l) (hI : InvD D) {ka : Option Addr} {kn kc : Nat} {keep : List Int} (hk : SrcOk (M.minus (diskB p b es)) 1 ka kn (keep.map intV)) (hkn : kn ≤ 4194304) :
    CallsM Tryz.prog F.disk_Disk_Crash [ptr p, .slice ka kn kc] M fun v M' => v = .int .i64 0 ∧ ∃ es', StepD M M' p b es es' (crashR D keep) := by
  refine fo_disk_Disk_Crash (by simp) ?_
  have hlen := hI.len
  have hkl := hk.maplen
  refine zR ?_
  refine (Names_ok h hr hI).mono ?_
  rintro v M1 ⟨na, nc, rfl, hN⟩
  have hle1 := hN.le
  obtain ⟨B, hB⟩ : ∃ B, B = M1.minus (diskB p b es) := ⟨_, rfl⟩
  have hBM : B.le M1 := hB ▸ Mem.minus_le _ _
  have hkB : SrcOk B 1 ka kn (keep.map intV) := hk.le (fun y o hy => by
    rw [hB]
    unfold Mem.minus at hy ⊢
    split at hy
    · cases hy
    · rw [if_neg ‹_›]; exact hle1 _ _ hy)
  have hnB : SrcOk B 1 na D.l.length ((D.l.map (·.name)).map strV) := hB ▸ hN.src.minus fun q hq hb => h.full hb (hN.block hq).1
  have hBn : ∀ y, diskB p b es y → B y = none := fun y hy => hB ▸ Mem.minus_in hy
  (conv => whnf)
  refine loopF (σ := Nat × Mem × FsT) [14] (fun y => [(14, .int .i64 y.1)]) (fun _ => []) (fun y => y.2.1)
    (fun | ⟨i, Mc, ec⟩ => i ≤ D.l.length ∧ B.le Mc ∧ DAt Mc p b D ec ∧ RelD ec (crashTo keep i D.l) ∧ (∀ y, diskB p b ec y → diskB p b es y)) (fun y => D.l.length - y.1) ⟨0, M1, es⟩
    ⟨by omega, hBM, h.le hle1, by rw [crashTo_zero]; exact hr, fun _ hy => hy⟩ zS ?_
  rintro ⟨i, Mc, ec⟩ ⟨hi, hBc, hc, hrc, hoc⟩
  (conv => whnf); refine brn (fun g => ?_) (fun g => ?_)
  · have hlt : i < D.l.length := by have := of_decide_eq_true g; dsimp only at this; omega
    have hfi : D.l[i]? = some D.l[i] := List.getElem?_eq_getElem hlt
    obtain ⟨hkx, bx, ox, hax, hrx⟩ := (hnB.le hBc).at (i := i) hlt
    have hnm : (D.l.map (·.name))[i] = D.l[i].name := by simp
    rw [hnm] at hrx
    generalize hf : D.l[i] = f at *
    have hfm : findR (crashTo keep i D.l) f.name = some f := (findR_some hrc.sort).2 ⟨crashTo_mem.2 ⟨i, f, hfi, by rw [if_neg (by omega)]⟩, rfl⟩
    (conv => whnf); refine ob (by first | omega | (dsimp only; omega)) ?_
    (conv => whnf); refine atp hax ?_
    (conv => whnf); refine on hrx ?_
    (conv => whnf); refine on (hc.self.c1 rfl) ?_
    (conv => whnf)
    refine hc.map.get strK f.name (fun hn => ?_) (fun x j hx => ?_)
    · rw [hrc.none.1 hn] at hfm; cases hfm
    obtain ⟨f', hf', -, hxp, hxs⟩ := hrc.get hx
    rw [hfm] at hf'; cases hf'
    have hxe : FXAt Mc x := hc.ents _ (aget_mem hx)
    have hxl : x.p.length = f.safe.size + f.tail.size := by rw [hxp, FileR.all_size]
    have hfu : f.safe.size + f.tail.size ≤ 1048576 := by
      have h1 : f ∈ D.l := List.mem_of_getElem? hfi
      have h2 := hI.used
      unfold usedR at h2
      have h3 := le_sum_mem (List.mem_map.2 ⟨f, h1, rfl⟩ : f.safe.size + f.tail.size ∈ D.l.map fun f => f.safe.size + f.tail.size)
      omega
    obtain ⟨k, hkk⟩ : ∃ k, k = keptN keep i f := ⟨_, rfl⟩
    have hkt := keptN_le keep i f
    rw [← hkk] at hkt
    (conv => whnf)
    refine brn (fun g1 => ?_) (fun g1 => ?_)
    · have hik : i < kn := by have := of_decide_eq_true g1; dsimp only at this; omega
      obtain ⟨hky, by', oy, hay, hry⟩ := (hkB.le hBc).at (i := i) hik
      have hkv : keep[i]? = some keep[i] := List.getElem?_eq_getElem hky
      generalize keep[i] = v at *
      (conv => whnf); refine ob (by first | omega | (dsimp only; omega)) ?_
      (conv => whnf); refine atp hay ?_
      (conv => whnf); refine on hry ?_
      (conv => whnf); refine on (hxe.self.c1 rfl) ?_
      (conv => whnf); refine on (hxe.self.c1 rfl) ?_
      (conv => whnf); refine ob (inR_i64 (by omega)) ?_
      (conv => whnf)
      erw [show max 0 (min v ((x.p.length : Int) - x.safe)) = (k : Int) from by
        rw [hkk, hxl, hxs]; unfold keptN; rw [hkv]; dsimp only
        split <;> omega]
      refine zR ?_
      refine on (hxe.self.c1 rfl) ?_
      (conv => whnf); refine ob (inR_i64 (by rw [hxs]; omega)) ?_
      (conv => whnf); refine on hxe.self.cells ?_
      (conv => whnf); refine ob (by simp) ?_
      have hk2 : Mem.keep (fun y => y = x.f) Mc (Mc.setCells x.f T.disk_file [.slice x.a x.p.length x.c, .int .i64 (x.safe + k)]) := fun y o hy ho => by
        unfold Mem.setCells; rw [Mem.upd_ne _ _ hy]; exact ho
      have hs2 : (Mc.setCells x.f T.disk_file [.slice x.a x.p.length x.c, .int .i64 (x.safe + k)]).has x.f T.disk_file [.slice x.a x.p.length x.c, .int .i64 (x.safe + k)] := Mem.has_setCells
      have hse : ∀ (cs : List Value), (Mc.setCells x.f T.disk_file [.slice x.a x.p.length x.c, .int .i64 (x.safe + k)]).setCells x.f T.disk_file cs = Mc.setCells x.f T.disk_file cs := fun cs => Mem.setCells_setCells ..
      obtain ⟨M2, hM2⟩ : ∃ M2, M2 = Mc.setCells x.f T.disk_file [.slice x.a x.p.length x.c, .int .i64 (x.safe + k)] := ⟨_, rfl⟩
      rw [← hM2] at hk2 hs2 hse
      (conv => whnf)
      erw [← hM2]
      have hrow := hxe.row
      have hsub := Wr.subA0 hrow
      have hrow' := hrow
      unfold Wr at hrow'
      refine zR ?_
      refine on (hs2.c1 rfl) ?_
      (conv => whnf); refine on (hs2.c1 rfl) ?_
      (conv => whnf); refine ob ⟨by decide, by rw [hxs]; omega, by have := hrow'.2.1; rw [hxs]; omega⟩ ?_
      (conv => whnf); refine ⟨?_, True.intro⟩
      (conv => whnf); refine on hs2.cells ?_
      (conv => whnf); refine ob (by simp) ?_
      obtain ⟨x', hx'⟩ : ∃ x' : FX, x' = ⟨x.f, x.a, x.c, x.p.take (x.safe + k), x.safe + k⟩ := ⟨_, rfl⟩
      have hlen' : x'.p.length = x.safe + k := by rw [hx']; simp; rw [hxs, hxl]; omega
      have hrow2 : Wr Mc T.uint8 1 x'.a x'.p.length x'.c (x'.p.map byteV) := by
        rw [hlen', hx']
        unfold Wr
        obtain ⟨w1, w2, w3⟩ := hrow'
        refine ⟨by simp; rw [hxs, hxl]; omega, by dsimp only; rw [hxs]; omega, w3.imp id fun ⟨bb, cs, e1, e2, e3, e4⟩ => ⟨bb, cs, e1, e2, e3, ?_⟩⟩
        rw [Nat.mul_one] at e4 ⊢
        rw [List.map_take, ← e4, List.take_take, Nat.min_eq_left (by rw [hxs, hxl]; omega)]
      obtain ⟨h3, hk3, ho3⟩ := hc.setFile (x' := x') hx (by rw [hx']) hrow2 (fun y hy => by rw [hx'] at hy; exact hy) rfl
      have hcells : [Value.slice x'.a x'.p.length x'.c, .int .i64 x'.safe] = [.slice (subA x.a 0 x.c 1) (((x.safe : Int) + k).toNat - 0) (x.c - 0), .int .i64 (x.safe + k)] := by
        rw [hsub, hlen', hx', Nat.sub_zero, Nat.sub_zero]
        have : ((x.safe : Int) + k).toNat = x.safe + k := by omega
        rw [this]
        rfl
      rw [hcells, ← hse] at h3 hk3
      obtain ⟨M3, hM3⟩ : ∃ M3, M3 = M2.setCells x.f T.disk_file [.slice (subA x.a 0 x.c 1) (((x.safe : Int) + k).toNat - 0) (x.c - 0), .int .i64 (x.safe + k)] := ⟨_, rfl⟩
      rw [← hM3] at h3 hk3
      (conv => whnf)
      erw [← hM3]
      refine zR ?_
      refine ob (inR_i64 (by first | omega | (dsimp only; omega))) ?_
      (conv => whnf)
      have hxin : ∀ y, y = x.f → diskB p b es y := fun y e => hoc y (.inr (.inr ⟨_, aget_mem hx, .inl e⟩))
      refine ⟨⟨i + 1, M3, aput ec f.name x'⟩, ⟨by omega, hk3.le hBc (fun y e => hBn y (hxin y e)), h3, ?_, fun y hy => hoc y (ho3 y hy)⟩, by dsimp only; omega, zS⟩
      rw [← crashTo_step hI.sort hfi]
      refine hrc.put (x := x') (f := crashF keep i f) ?_
      rw [hx']
      simp only [cont, FileR.all, crashF, Prod.mk.injEq, ← hkk]
      constructor
      · rw [bl_append, show bl ByteArray.empty = [] from rfl, List.append_nil, bl_append, bl_extract, hxp, FileR.all, bl_append, hxs]
        rw [← bl_len f.safe, List.take_length_add_append]
      · rw [hxs, ← bl_len (f.safe ++ f.tail.extract 0 k), bl_append, bl_extract, List.length_append, List.length_take, bl_len, bl_len]
        omega
    · have hik : ¬ i < kn := by have := of_decide_eq_false g1; dsimp only at this; omega
      have hk0 : k = 0 := by rw [hkk]; unfold keptN; rw [List.getElem?_eq_none (by omega)]
      (conv => whnf)
      erw [show (0 : Int) = (k : Int) from by rw [hk0]; rfl]
      refine zR ?_
      refine on (hxe.self.c1 rfl) ?_
      (conv => whnf); refine ob (inR_i64 (by rw [hxs]; omega)) ?_
      (conv => whnf); refine on hxe.self.cells ?_
      (conv => whnf); refine ob (by simp) ?_
      have hk2 : Mem.keep (fun y => y = x.f) Mc (Mc.setCells x.f T.disk_file [.slice x.a x.p.length x.c, .int .i64 (x.safe + k)]) := fun y o hy ho => by
        unfold Mem.setCells; rw [Mem.upd_ne _ _ hy]; exact ho
      have hs2 : (Mc.setCells x.f T.disk_file [.slice x.a x.p.length x.c, .int .i64 (x.safe + k)]).has x.f T.disk_file [.slice x.a x.p.length x.c, .int .i64 (x.safe + k)] := Mem.has_setCells
      have hse : ∀ (cs : List Value), (Mc.setCells x.f T.disk_file [.slice x.a x.p.length x.c, .int .i64 (x.safe + k)]).setCells x.f T.disk_file cs = Mc.setCells x.f T.disk_file cs := fun cs => Mem.setCells_setCells ..
      obtain ⟨M2, hM2⟩ : ∃ M2, M2 = Mc.setCells x.f T.disk_file [.slice x.a x.p.length x.c, .int .i64 (x.safe + k)] := ⟨_, rfl⟩
      rw [← hM2] at hk2 hs2 hse
      (conv => whnf)
      erw [← hM2]
      have hrow := hxe.row
      have hsub := Wr.subA0 hrow
      have hrow' := hrow
      unfold Wr at hrow'
      refine zR ?_
      refine on (hs2.c1 rfl) ?_
      (conv => whnf); refine on (hs2.c1 rfl) ?_
      (conv => whnf); refine ob ⟨by decide, by rw [hxs]; omega, by have := hrow'.2.1; rw [hxs]; omega⟩ ?_
      (conv => whnf); refine ⟨?_, True.intro⟩
      (conv => whnf); refine on hs2.cells ?_
      (conv => whnf); refine ob (by simp) ?_
      obtain ⟨x', hx'⟩ : ∃ x' : FX, x' = ⟨x.f, x.a, x.c, x.p.take (x.safe + k), x.safe + k⟩ := ⟨_, rfl⟩
      have hlen' : x'.p.length = x.safe + k := by rw [hx']; simp; rw [hxs, hxl]; omega
      have hrow2 : Wr Mc T.uint8 1 x'.a x'.p.length x'.c (x'.p.map byteV) := by
        rw [hlen', hx']
        unfold Wr
        obtain ⟨w1, w2, w3⟩ := hrow'
        refine ⟨by simp; rw [hxs, hxl]; omega, by dsimp only; rw [hxs]; omega, w3.imp id fun ⟨bb, cs, e1, e2, e3, e4⟩ => ⟨bb, cs, e1, e2, e3, ?_⟩⟩
        rw [Nat.mul_one] at e4 ⊢
        rw [List.map_take, ← e4, List.take_take, Nat.min_eq_left (by rw [hxs, hxl]; omega)]
      obtain ⟨h3, hk3, ho3⟩ := hc.setFile (x' := x') hx (by rw [hx']) hrow2 (fun y hy => by rw [hx'] at hy; exact hy) rfl
      have hcells : [Value.slice x'.a x'.p.length x'.c, .int .i64 x'.safe] = [.slice (subA x.a 0 x.c 1) (((x.safe : Int) + k).toNat - 0) (x.c - 0), .int .i64 (x.safe + k)] := by
        rw [hsub, hlen', hx', Nat.sub_zero, Nat.sub_zero]
        have : ((x.safe : Int) + k).toNat = x.safe + k := by omega
        rw [this]
        rfl
      rw [hcells, ← hse] at h3 hk3
      obtain ⟨M3, hM3⟩ : ∃ M3, M3 = M2.setCells x.f T.disk_file [.slice (subA x.a 0 x.c 1) (((x.safe : Int) + k).toNat - 0) (x.c - 0), .int .i64 (x.safe + k)] := ⟨_, rfl⟩
      rw [← hM3] at h3 hk3
      (conv => whnf)
      erw [← hM3]
      refine zR ?_
      refine ob (inR_i64 (by first | omega | (dsimp only; omega))) ?_
      (conv => whnf)
      have hxin : ∀ y, y = x.f → diskB p b es y := fun y e => hoc y (.inr (.inr ⟨_, aget_mem hx, .inl e⟩))
      refine ⟨⟨i + 1, M3, aput ec f.name x'⟩, ⟨by omega, hk3.le hBc (fun y e => hBn y (hxin y e)), h3, ?_, fun y hy => hoc y (ho3 y hy)⟩, by dsimp only; omega, zS⟩
      rw [← crashTo_step hI.sort hfi]
      refine hrc.put (x := x') (f := crashF keep i f) ?_
      rw [hx']
      simp only [cont, FileR.all, crashF, Prod.mk.injEq, ← hkk]
      constructor
      · rw [bl_append, show bl ByteArray.empty = [] from rfl, List.append_nil, bl_append, bl_extract, hxp, FileR.all, bl_append, hxs]
        rw [← bl_len f.safe, List.take_length_add_append]
      · rw [hxs, ← bl_len (f.safe ++ f.tail.extract 0 k), bl_append, bl_extract, List.length_append, List.length_take, bl_len, bl_len]
        omega
  have hge : i = D.l.length := by have := of_decide_eq_false g; dsimp only at this; omega
  subst hge
  rw [crashTo_all] at hrc
  refine zR ?_
  refine on hc.self.cells ?_
  (conv => whnf); refine ob (by simp) ?_
  have hk2 : Mem.keep (fun y => y = p) Mc (Mc.setCells p T.disk_Disk [.int .i64 D.limit, .map (some b), .int .i64 D.left, .bool false]) := fun y o hy ho => by
    unfold Mem.setCells; rw [Mem.upd_ne _ _ hy]; exact ho
  have hs2 : (Mc.setCells p T.disk_Disk [.int .i64 D.limit, .map (some b), .int .i64 D.left, .bool false]).has p T.disk_Disk [.int .i64 D.limit, .map (some b), .int .i64 D.left, .bool false] := Mem.has_setCells
  obtain ⟨M2, hM2⟩ : ∃ M2, M2 = Mc.setCells p T.disk_Disk [.int .i64 D.limit, .map (some b), .int .i64 D.left, .bool false] := ⟨_, rfl⟩
  rw [← hM2] at hs2 hk2
  (conv => whnf)
  erw [← hM2]
  refine zR ?_
  refine on hs2.cells ?_
  (conv => whnf); refine ob (by simp) ?_
  have hk3 : Mem.keep (fun y => y = p) M2 (M2.setCells p T.disk_Disk [.int .i64 D.limit, .map (some b), .int .i64 (-1), .bool false]) := fun y o hy ho => by
    unfold Mem.setCells; rw [Mem.upd_ne _ _ hy]; exact ho
  have h3 := hc.head (crashR D keep) (Mem.keep_trans hk2 hk3) Mem.has_setCells
  obtain ⟨M3, hM3⟩ : ∃ M3, M3 = M2.setCells p T.disk_Disk [.int .i64 D.limit, .map (some b), .int .i64 (-1), .bool false] := ⟨_, rfl⟩
  rw [← hM3] at hk3 h3
  (conv => whnf)
  erw [← hM3]
  refine zR ?_
  have hkk := Mem.keep_trans hk2 hk3
  refine ⟨rfl, ec, h3, hrc, fun y o hy ho => ?_, fun y hy => .inl (hoc y hy)⟩
  refine hkk _ _ (fun e => hy (.inl e)) (hBc _ _ ?_)
  rw [hB]; unfold Mem.minus; rw [if_neg hy]; exact hle1 _ _ ho
end
end Go.Proofs.YtpdkkbpkplhdpaaGreat
namespace Go.Proofs.YtpdkkbpkplhdpaaGreat
open Go Go.Vm
variable {D : DiskR}
theorem readyE_zero {s : ByteArray} (h : readyE D s = 0) : D.down = false ∧ okName s = true := by
  unfold readyE at h
  split at h
  · cases h
  · rename_i hd
    split at h
    · cases h
    · rename_i ho; exact ⟨by simpa using hd, by simpa using ho⟩
theorem thereE_zero {s : ByteArray} (h : thereE D s = 0) : readyE D s = 0 ∧ findR D.l s = some (fileR D s) := by
  unfold thereE at h
  split at h
  · rename_i g; exact absurd h g
  · rename_i g
    split at h
    · cases h
    · rename_i hf
      refine ⟨by simpa using g, ?_⟩
      obtain ⟨f, hf'⟩ := Option.ne_none_iff_exists'.1 hf
      rw [hf']; unfold fileR; rw [hf']; rfl
theorem InvD.with (h : InvD D) {f : FileR} (hl : findR D.l f.name = none → D.l.length < 64) (hu : usedR (withoutR D.l f.name) + (f.safe.size + f.tail.size) ≤ 1048576) : SortedR (withR D.l f) ∧ (withR D.l f).length ≤ 64 ∧ usedR (withR D.l f) ≤ 1048576 := by
  refine ⟨withR_sorted h.sort f, ?_, ?_⟩
  · rw [withR, insR_length]
    cases hf : findR D.l f.name with
    | none => rw [without_none hf]; have := hl hf; omega
    | some x => have := (without_some h.sort hf).1; have := h.len; omega
  · rw [withR, insR_used]; omega
theorem InvD.changed (h : InvD D) {l : List FileR} (h1 : SortedR l ∧ l.length ≤ 64 ∧ usedR l ≤ 1048576) : InvD (changedR D l) := by
  refine ⟨h1.1, h1.2.1, h1.2.2, h.limit, ?_⟩
  have := h.left
  unfold changedR; dsimp only; split <;> omega
theorem InvD.without (h : InvD D) (s : ByteArray) : SortedR (withoutR D.l s) ∧ (withoutR D.l s).length ≤ 64 ∧ usedR (withoutR D.l s) ≤ 1048576 := by
  refine ⟨withoutR_sorted h.sort s, Nat.le_trans (List.length_filter_le _ _) h.len, ?_⟩
  cases hf : findR D.l s with
  | none => rw [without_none hf]; exact h.used
  | some x => have := (without_some h.sort hf).2; have := h.used; omega
theorem newR_inv {limit : Int} (h : ¬ (limit < 1 ∨ 1048576 < limit)) : InvD ⟨limit, [], -1, false⟩ :=
  ⟨by simp [SortedR], by simp, by simp [usedR], by dsimp only; omega, by dsimp only; omega⟩
theorem appendR_inv (h : InvD D) (s : ByteArray) (p : List UInt8) : InvD (appendR D s p).1 := by
  unfold appendR
  split
  · exact h
  · split
    · exact h
    · rename_i h1 h2
      have hu := h.used
      have hlim := h.limit
      refine h.changed (h.with (fun hf => ?_) ?_)
      · dsimp only at hf
        apply Classical.byContradiction
        intro hc
        exact h2 (.inr ⟨hf, by omega⟩)
      · dsimp only
        have hsz : ((fileR D s).tail ++ (⟨p.toArray⟩ : ByteArray)).size = (fileR D s).tail.size + p.length := by rw [← bl_len, bl_append, List.length_append, bl_len, bl_mk]
        rw [hsz]
        cases hf : findR D.l s with
        | none =>
          rw [without_none hf]
          have : fileR D s = ⟨s, .empty, .empty⟩ := by unfold fileR; rw [hf]; rfl
          rw [this]
          have : ByteArray.empty.size = 0 := rfl
          dsimp only; omega
        | some x =>
          have : fileR D s = x := by unfold fileR; rw [hf]; rfl
          rw [this]
          have := (without_some h.sort hf).2
          omega
theorem all_size (f : FileR) : f.all.size = f.safe.size + f.tail.size := by rw [← bl_len, FileR.all_size]
theorem InvD.there (h : InvD D) {s : ByteArray} (h0 : thereE D s = 0) {f : FileR} (hn : f.name = s) (hs : f.safe.size + f.tail.size ≤ (fileR D s).safe.size + (fileR D s).tail.size) : SortedR (withR D.l f) ∧ (withR D.l f).length ≤ 64 ∧ usedR (withR D.l f) ≤ 1048576 := by
  have hf := (thereE_zero h0).2
  refine h.with (fun hn' => ?_) ?_
  · rw [hn, hf] at hn'; cases hn'
  · rw [hn]
    have := (without_some h.sort hf).2
    have := h.used
    omega
theorem syncR_inv (h : InvD D) (s : ByteArray) : InvD (syncR D s).1 := by
  unfold syncR
  split
  · exact h
  · rename_i h0
    refine h.changed (h.there (by simpa using h0) rfl ?_)
    have : ByteArray.empty.size = 0 := rfl
    dsimp only; rw [all_size]; omega
theorem cutR_inv (h : InvD D) (s : ByteArray) (k : Int) : InvD (cutR D s k).1 := by
  unfold cutR
  split
  · exact h
  · split
    · exact h
    · rename_i h0 _
      refine h.changed (h.there (by simpa using h0) rfl ?_)
      have : ByteArray.empty.size = 0 := rfl
      dsimp only
      have : ((fileR D s).all.extract 0 k.toNat).size ≤ (fileR D s).all.size := by rw [← bl_len, ← bl_len, bl_extract, List.length_take]; omega
      rw [all_size] at this; omega
theorem removeR_inv (h : InvD D) (s : ByteArray) : InvD (removeR D s).1 := by
  unfold removeR
  split
  · exact h
  · exact h.changed (h.without s)
theorem crashR_names (keep : List Int) : (crashR D keep).l.map (·.name) = D.l.map (·.name) := by
  have := crashTo_names keep D.l.length D.l
  rwa [crashTo_all] at this
theorem crashR_used (keep : List Int) : usedR (crashR D keep).l ≤ usedR D.l := by
  unfold crashR usedR
  dsimp only
  have : ∀ (l : List FileR) (g : Nat → FileR → FileR), (∀ i f, (g i f).safe.size + (g i f).tail.size ≤ f.safe.size + f.tail.size) → ((l.mapIdx g).map fun f => f.safe.size + f.tail.size).sum ≤ (l.map fun f => f.safe.size + f.tail.size).sum := fun l => by
    induction l with
    | nil => intro g _; simp
    | cons x r ih =>
      intro g hg
      rw [List.mapIdx_cons]
      simp only [List.map_cons, List.sum_cons]
      have h1 := ih (fun i => g (i + 1)) (fun i f => hg (i + 1) f)
      have h2 := hg 0 x
      omega
  refine this _ _ fun i f => ?_
  have h1 := keptN_le keep i f
  have e0 : ByteArray.empty.size = 0 := rfl
  unfold crashF
  dsimp only
  rw [← bl_len (f.safe ++ f.tail.extract 0 (keptN keep i f)), bl_append, bl_extract, List.length_append, List.length_take, bl_len, bl_len]
  omega
theorem crashR_inv (h : InvD D) (keep : List Int) : InvD (crashR D keep) := by
  refine ⟨sortedR_names h.sort (crashR_names keep), ?_, Nat.le_trans (crashR_used keep) h.used, h.limit, by unfold crashR; dsimp only; omega⟩
  have := congrArg List.length (crashR_names (D := D) keep)
  simp only [List.length_map] at this
  rw [this]; exact h.len
end Go.Proofs.YtpdkkbpkplhdpaaGreat
namespace Go.Proofs.YtpdkkbpkplhdpaaGreat
open Go Go.Vm
attribute [local irreducible] Brn Ob Grow CallsM inR LoopVC LoopVC0 Mem.row Mem.cells Mem.setCells Mem.upd Go.Vm.Own AppVC SrcVC StrVC NextVC New SrcOk subA NewSl Mem.textAt Mem.mapAt Mem.iterAt entryOf kfind Wr NewEls Elems
set_option maxRecDepth 10000
variable {M M0 : Mem} {p b : Nat} {D : DiskR} {es : FsT}
structure FreshD (M0 M : Mem) (p b : Nat) (D : DiskR) (es : FsT) : Prop where
  le : M0.le M
  at' : DAt M p b D es
  rel : RelD es D.l
  inv : InvD D
  fresh : ∀ y, diskB p b es y → M0 y = none
theorem FreshD.to (h : FreshD M0 M p b D es) {M' : Mem} (hle : M.le M') : FreshD M0 M' p b D es := ⟨Mem.le_trans h.le hle, h.at'.le hle, h.rel, h.inv, h.fresh⟩
theorem FreshD.base (h : FreshD M0 M p b D es) : FreshD (M.minus (diskB p b es)) M p b D es ∧ M0.le (M.minus (diskB p b es)) :=
  ⟨⟨Mem.minus_le _ _, h.at', h.rel, h.inv, fun _ hy => Mem.minus_in hy⟩, Mem.le_minus h.le h.fresh⟩
theorem FreshD.step (h : FreshD M0 M p b D es) {M' : Mem} {es' : FsT} {D' : DiskR} (hs : StepD M M' p b es es' D') (hi : InvD D') : FreshD M0 M' p b D' es' :=
  ⟨hs.keep.le h.le h.fresh, hs.at', hs.rel, hi, fun y hy => by
    rcases hs.own y hy with h1 | h1
    · exact h.fresh y h1
    · cases e : M0 y with
      | none => rfl
      | some z => rw [h.le _ _ e] at h1; cases h1⟩
theorem newF (limit : Int) : CallsM Tryz.prog F.disk_New [.int .i64 limit] M fun v M' =>
    ((limit < 1 ∨ 1048576 < limit) ∧ v = .tuple #[.pointer none, .int .i64 1] ∧ M' = M) ∨
    (¬ (limit < 1 ∨ 1048576 < limit) ∧ ∃ p b, v = .tuple #[ptr p, .int .i64 0] ∧ FreshD M M' p b ⟨limit, [], -1, false⟩ []) :=
  (DNew_ok limit).mono fun v M' h => by
    rcases h with h | ⟨h1, p, b, h2, h3, h4, h5⟩
    · exact .inl h
    · exact .inr ⟨h1, p, b, h2, h3, h4, RelD.nil, newR_inv h1, h5⟩
theorem appendF (h : FreshD M0 M p b D es) {s : ByteArray} (hs : s.size ≤ 4611686018427387904) {a : Option Addr} {n c : Nat} {l : List UInt8} (hl : SrcOk M 1 a n (l.map byteV)) :
    CallsM Tryz.prog F.disk_Disk_Append [ptr p, .string s, .slice a n c] M fun v M' => ∃ es', v = .int .i64 (appendR D s l).2 ∧ FreshD M0 M' p b (appendR D s l).1 es' :=
  (Append_ok h.at' h.rel h.inv s hs hl).mono fun _ _ ⟨hv, es', h'⟩ => ⟨es', hv, h.step h' (appendR_inv h.inv s l)⟩
theorem syncF (h : FreshD M0 M p b D es) {s : ByteArray} (hs : s.size ≤ 4611686018427387904) : CallsM Tryz.prog F.disk_Disk_Sync [ptr p, .string s] M fun v M' => ∃ es', v = .int .i64 (syncR D s).2 ∧ FreshD M0 M' p b (syncR D s).1 es' :=
  (Sync_ok h.at' h.rel h.inv s hs).mono fun _ _ ⟨hv, es', h'⟩ => ⟨es', hv, h.step h' (syncR_inv h.inv s)⟩
theorem cutF (h : FreshD M0 M p b D es) {s : ByteArray} (hs : s.size ≤ 4611686018427387904) (k : Int) : CallsM Tryz.prog F.disk_Disk_Cut [ptr p, .string s, .int .i64 k] M fun v M' => ∃ es', v = .int .i64 (cutR D s k).2 ∧ FreshD M0 M' p b (cutR D s k).1 es' :=
  (Cut_ok h.at' h.rel h.inv s hs k).mono fun _ _ ⟨hv, es', h'⟩ => ⟨es', hv, h.step h' (cutR_inv h.inv s k)⟩
theorem removeF (h : FreshD M0 M p b D es) {s : ByteArray} (hs : s.size ≤ 4611686018427387904) : CallsM Tryz.prog F.disk_Disk_Remove [ptr p, .string s] M fun v M' => ∃ es', v = .int .i64 (removeR D s).2 ∧ FreshD M0 M' p b (removeR D s).1 es' :=
  (Remove_ok h.at' h.rel h.inv s hs).mono fun _ _ ⟨hv, es', h'⟩ => ⟨es', hv, h.step h' (removeR_inv h.inv s)⟩
theorem crashFr (h : FreshD M0 M p b D es) {ka : Option Addr} {kn kc : Nat} {keep : List Int} (hk : SrcOk M0 1 ka kn (keep.map intV)) (hkn : kn ≤ 4194304) :
    CallsM Tryz.prog F.disk_Disk_Crash [ptr p, .slice ka kn kc] M fun v M' => ∃ es', v = .int .i64 0 ∧ FreshD M0 M' p b (crashR D keep) es' :=
  (Crash_ok h.at' h.rel h.inv (hk.le h.base.2) hkn).mono fun _ _ ⟨hv, es', h'⟩ => ⟨es', hv, h.step h' (crashR_inv h.inv keep)⟩
theorem readF (h : FreshD M0 M p b D es) {s : ByteArray} (hs : s.size ≤ 4611686018427387904) : CallsM Tryz.prog F.disk_Disk_Read [ptr p, .string s] M fun v M' => ∃ a n c, v = .tuple #[.slice a n c, .int .i64 (readR D s).2] ∧ n = (bl (readR D s).1).length ∧ NewSl M T.uint8 1 a n c ((bl (readR D s).1).map byteV) M' :=
  Read_ok h.at' h.rel h.inv s hs
def safeR (D : DiskR) (s : ByteArray) : Nat := match findR D.l s with | some f => f.safe.size | none => 0
theorem safeF (h : FreshD M0 M p b D es) (s : ByteArray) : CallsM Tryz.prog F.disk_Disk_Safe [ptr p, .string s] M fun v M' => v = .int .i64 (safeR D s) ∧ M = M' :=
  (Safe_ok h.at' h.rel s).mono fun _ _ ⟨hv, h'⟩ => ⟨by rw [hv]; unfold safeR; cases findR D.l s <;> rfl, h'⟩
end Go.Proofs.YtpdkkbpkplhdpaaGreat
namespace Go.Proofs.YtpdkkbpkplhdpaaGreat
open Go Go.Vm
theorem byteAt_nat (x : Nat) (s : Nat) : (byteAt (x : Int) (s : Int)).toNat = x / 2 ^ s % 256 := by
  unfold byteAt
  have e : ((x : Int).fdiv (2 ^ ((s : Int)).toNat)) = ((x / 2 ^ s : Nat) : Int) := by
    rw [Int.fdiv_eq_ediv_of_nonneg _ (by exact_mod_cast Nat.zero_le (2 ^ s)), Int.toNat_natCast]
    norm_cast
  rw [e]
  have : (((x / 2 ^ s : Nat) : Int) % 256).toNat = x / 2 ^ s % 256 := by omega
  rw [this]
  simp
theorem num_be4 {x : Nat} (h : x < 4294967296) : num (be 4 (x : Int)) 0 = x := by
  have e : be 4 (x : Int) = [byteAt (x : Int) ((24 : Nat) : Int), byteAt (x : Int) ((16 : Nat) : Int), byteAt (x : Int) ((8 : Nat) : Int), byteAt (x : Int) ((0 : Nat) : Int)] := rfl
  rw [e]
  simp only [num, byteAt_nat]
  omega
theorem be4_num {l : List UInt8} (h : l.length = 4) : be 4 ((num l 0 : Nat) : Int) = l := by
  match l, h with
  | [a, b, c, d], _ =>
    have e : be 4 ((num [a, b, c, d] 0 : Nat) : Int) = [byteAt ((num [a, b, c, d] 0 : Nat) : Int) ((24 : Nat) : Int), byteAt ((num [a, b, c, d] 0 : Nat) : Int) ((16 : Nat) : Int), byteAt ((num [a, b, c, d] 0 : Nat) : Int) ((8 : Nat) : Int), byteAt ((num [a, b, c, d] 0 : Nat) : Int) ((0 : Nat) : Int)] := rfl
    rw [e]
    have h1 := a.toNat_lt; have h2 := b.toNat_lt; have h3 := c.toNat_lt; have h4 := d.toNat_lt
    have key : ∀ (s : Nat) (z : UInt8), num [a, b, c, d] 0 / 2 ^ s % 256 = z.toNat → byteAt ((num [a, b, c, d] 0 : Nat) : Int) (s : Int) = z := fun s z hz => by
      apply UInt8.toNat_inj.1
      rw [byteAt_nat, hz]
    simp only [List.cons.injEq, and_true]
    refine ⟨key 24 a ?_, key 16 b ?_, key 8 c ?_, key 0 d ?_⟩ <;> simp only [num] <;> omega
def okRec (p : List UInt8) : Prop := 1 ≤ p.length ∧ p.length ≤ 65536
theorem putB_len (p : List UInt8) : (putB p).length = 8 + p.length := by unfold putB; simp [be_length]; omega
theorem sum_nat (l : List UInt8) : ∃ q : Nat, sumI l = (q : Int) ∧ q < 4294967296 := ⟨(sumI l).toNat, by have := sumI_range l; omega, by have := sumI_range l; omega⟩
theorem firstR_inv {l p : List UInt8} {k : Nat} (h : firstR l = some (p, k)) : l.take k = putB p ∧ okRec p := by
  obtain ⟨h1, h2, h3, h4, h5⟩ := firstR_some h
  refine ⟨?_, h3, h4⟩
  unfold firstR at h
  split at h
  · cases h
  · rename_i g8
    split at h
    · cases h
    · rename_i g
      split at h
      · rename_i hs
        simp only [Option.some.injEq, Prod.mk.injEq] at h
        obtain ⟨h6, h7⟩ := h
        have hk : num (l.take 4) 0 = p.length := by omega
        rw [h6] at hs
        have e1 : be 4 ((p.length : Nat) : Int) = l.take 4 := by rw [← hk]; exact be4_num (by rw [List.length_take]; omega)
        have e2 : be 4 (sumI (be 4 (p.length : Int) ++ p)) = (l.drop 4).take 4 := by rw [e1, hs]; exact be4_num (by rw [List.length_take, List.length_drop]; omega)
        unfold putB
        rw [e2, e1]
        have a1 : l.take k = l.take 4 ++ ((l.drop 4).take 4 ++ (l.drop 8).take p.length) := by
          have : k = 4 + (4 + p.length) := by omega
          rw [this, List.take_add, List.take_add, List.drop_drop]
        rw [a1, ← h5, List.append_assoc]
      · cases h
def rowsB (ps : List (List UInt8)) : List UInt8 := ps.flatMap putB
theorem scanR_inv : ∀ (m : Nat) (l : List UInt8), l.length ≤ m → l.take (lenR (scanR l)) = rowsB (scanR l) ∧ (∀ p ∈ scanR l, okRec p) ∧ lenR (scanR l) ≤ l.length := by
  intro m
  induction m with
  | zero =>
    intro l hl
    have h0 : firstR l = none := by unfold firstR; rw [if_pos (by omega)]
    rw [scanR_none h0]
    exact ⟨by simp [rowsB, lenR], by simp, by simp [lenR]⟩
  | succ m ih =>
    intro l hl
    cases hx : firstR l with
    | none =>
      rw [scanR_none hx]
      exact ⟨by simp [rowsB, lenR], by simp, by simp [lenR]⟩
    | some q =>
      obtain ⟨p, k⟩ := q
      obtain ⟨h1, h2, h3, -⟩ := firstR_some hx
      obtain ⟨h5, h6⟩ := firstR_inv hx
      obtain ⟨h7, h8, h9⟩ := ih (l.drop k) (by rw [List.length_drop]; omega)
      rw [scanR_some hx]
      have el : lenR (p :: scanR (l.drop k)) = k + lenR (scanR (l.drop k)) := by simp [lenR]; omega
      rw [List.length_drop] at h9
      refine ⟨?_, fun q hq => ?_, by omega⟩
      · rw [el, List.take_add, h5, h7]; simp [rowsB]
      · rcases List.mem_cons.1 hq with rfl | hq
        · exact h6
        · exact h8 q hq
end Go.Proofs.YtpdkkbpkplhdpaaGreat
