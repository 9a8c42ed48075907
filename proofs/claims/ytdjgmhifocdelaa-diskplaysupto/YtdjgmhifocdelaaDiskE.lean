/- The disk: Read, Safe, Limit, Arm, Down; the names. -/
import Derived.Test.YtdjgmhifocdelaaDiskD
import Derived.Test.YtdjgmhifocdelaaLayT
namespace Go.Proofs.Ytdjgmhifocdelaa
open Go Go.Vm
attribute [local irreducible] Brn Ob Grow CallsM inR LoopVC Mem.row Mem.cells Mem.setCells Mem.upd Own AppVC SrcVC StrVC NextVC New SrcOk subA NewSl Mem.textAt Mem.mapAt Mem.iterAt entryOf kfind Wr NewEls Elems
set_option maxRecDepth 10000
variable {M : Mem} {p b : Nat} {D : DiskR} {es : FsT}
theorem splice_all {α : Type} (cs vs : List α) (h : cs.length = vs.length) : splice cs 0 vs = vs := by
  unfold splice; simp; omega
theorem Read_ok (h : DAt M p b D es) (hr : RelD es D.l) (hI : InvD D) (s : ByteArray) (hs : s.size ≤ 4611686018427387904) :
    CallsM Try.prog F.disk_Disk_Read [ptr p, .string s] M fun v M' => ∃ a n c, v = .tuple #[.slice a n c, .int .i64 (readR D s).2] ∧ n = (bl (readR D s).1).length ∧ NewSl M T.uint8 1 a n c ((bl (readR D s).1).map byteV) M' := by
  refine fo_disk_Disk_Read (by simp) ?_
  repeat' ((conv => whnf); first | refine ⟨?_, True.intro⟩ | refine brn_t rfl ?_ | refine brn_f rfl ?_ | refine ob rfl ?_ | refine ob (by decide) ?_ | refine grow_same (Mem.le_refl _) ?_ | refine ob (Mem.le_refl _) ?_ | refine ⟨_, Mem.le_refl _, ?_⟩ | fail)
  refine (there_ok h hr s hs).mono ?_
  rintro v M1 ⟨hle1, ⟨hne, rfl⟩ | ⟨h0, x, hx, rfl⟩⟩
  · (conv => whnf)
    refine brn_t (by simp [hne]) ?_
    repeat' ((conv => whnf); first | refine ⟨?_, True.intro⟩ | refine brn_t rfl ?_ | refine brn_f rfl ?_ | refine ob rfl ?_ | refine ob (by decide) ?_ | refine grow_same (Mem.le_refl _) ?_ | refine ob (Mem.le_refl _) ?_ | refine ⟨_, Mem.le_refl _, ?_⟩ | fail)
    have e : readR D s = (.empty, thereE D s) := by unfold readR; rw [if_pos hne]
    rw [e]
    exact ⟨none, 0, 0, rfl, rfl, (NewSl.none M T.uint8 1).up hle1⟩
  have h1 := h.le hle1
  have hx1 : FXAt M1 x := h1.ents _ (aget_mem hx)
  obtain ⟨hfn, hfp, hfs, hff⟩ := fileR_of hr hx
  have hxl : x.p.length ≤ 1048576 := by
    have h1 := usedE_le (aget_mem hx)
    have h2 := hr.used
    have h3 := hI.used
    dsimp only at h1; omega
  repeat' ((conv => whnf); first | refine ⟨?_, True.intro⟩ | refine brn_t rfl ?_ | refine brn_f rfl ?_ | refine ob rfl ?_ | refine ob (by decide) ?_ | refine grow_same (Mem.le_refl _) ?_ | refine ob (Mem.le_refl _) ?_ | refine ⟨_, Mem.le_refl _, ?_⟩ | fail)
  refine on (hx1.self.c1 rfl) ?_
  (conv => whnf); refine ob ⟨by omega, rfl, by omega, by omega⟩ ?_
  (conv => whnf); refine new (fun b2 hb2 => ?_)
  replace hb2 : M1 b2 = none := hb2
  have hle2 : M1.le (M1.setCells b2 T.uint8 (List.replicate (x.p.length : Int).toNat [Value.int .u8 0]).flatten) := Mem.le_setCells hb2
  have hs2 : (M1.setCells b2 T.uint8 (List.replicate (x.p.length : Int).toNat [Value.int .u8 0]).flatten).has b2 T.uint8 (List.replicate (x.p.length : Int).toNat [Value.int .u8 0]).flatten := Mem.has_setCells
  have hlen2 : (List.replicate (x.p.length : Int).toNat [Value.int .u8 0]).flatten.length = x.p.length := by simp
  generalize (List.replicate (x.p.length : Int).toNat [Value.int .u8 0]).flatten = zs at *
  obtain ⟨M2, hM2⟩ : ∃ M2, M2 = M1.setCells b2 T.uint8 zs := ⟨_, rfl⟩
  rw [← hM2] at hle2 hs2
  (conv => whnf)
  erw [← hM2]
  have hx2 := hx1.le hle2
  refine on (hx2.self.c1 rfl) ?_
  (conv => whnf)
  refine srcv hx2.row.src ?_
  (conv => whnf); refine ob ⟨by omega, bytes_one _⟩ ?_
  (conv => whnf); refine on hs2.cells ?_
  (conv => whnf); refine ob (by dsimp only; omega) ?_
  have hk3 : Mem.keep (fun y => y = b2) M2 (M2.setCells b2 T.uint8 (splice zs 0 (x.p.map byteV))) := fun y o hy ho => by
    unfold Mem.setCells; rw [Mem.upd_ne _ _ hy]; exact ho
  have hs3 : (M2.setCells b2 T.uint8 (splice zs 0 (x.p.map byteV))).has b2 T.uint8 (splice zs 0 (x.p.map byteV)) := Mem.has_setCells
  rw [splice_all zs _ (by simpa using hlen2)] at hk3 hs3
  obtain ⟨M3, hM3⟩ : ∃ M3, M3 = M2.setCells b2 T.uint8 (splice zs 0 (x.p.map byteV)) := ⟨_, rfl⟩
  rw [← splice_all zs (x.p.map byteV) (by simpa using hlen2), ← hM3] at hk3
  have hs3' : M3.has b2 T.uint8 (x.p.map byteV) := by rw [hM3, splice_all zs _ (by simpa using hlen2)]; exact hs3
  (conv => whnf)
  erw [← hM3]
  repeat' ((conv => whnf); first | refine ⟨?_, True.intro⟩ | refine brn_t rfl ?_ | refine brn_f rfl ?_ | refine ob rfl ?_ | refine ob (by decide) ?_ | refine grow_same (Mem.le_refl _) ?_ | refine ob (Mem.le_refl _) ?_ | refine ⟨_, Mem.le_refl _, ?_⟩ | fail)
  have e : readR D s = ((fileR D s).all, 0) := by unfold readR; rw [if_neg (by simp [h0])]
  rw [e]
  dsimp only
  rw [← hfp]
  have hbM : M b2 = none := by
    cases e : M b2 with
    | none => rfl
    | some z => rw [hle1 _ _ e] at hb2; cases hb2
  refine ⟨_, _, _, rfl, by omega, newSl_iff.2 ⟨hk3.le (Mem.le_trans hle1 hle2) (fun y hy => hy ▸ hbM), by simp, by omega, .inr ⟨b2, x.p.map byteV, rfl, hbM, hs3', by simp, by rw [List.take_of_length_le (by simp)]⟩⟩⟩
theorem Safe_ok (h : DAt M p b D es) (hr : RelD es D.l) (s : ByteArray) :
    CallsM Try.prog F.disk_Disk_Safe [ptr p, .string s] M fun v M' => v = .int .i64 (match findR D.l s with | some f => (f.safe.size : Int) | none => 0) ∧ M = M' := by
  refine fo_disk_Disk_Safe (by simp) ?_
  repeat' ((conv => whnf); first | refine ⟨?_, True.intro⟩ | refine brn_t rfl ?_ | refine brn_f rfl ?_ | refine ob rfl ?_ | refine ob (by decide) ?_ | refine grow_same (Mem.le_refl _) ?_ | refine ob (Mem.le_refl _) ?_ | refine ⟨_, Mem.le_refl _, ?_⟩ | fail)
  refine on (h.self.c1 rfl) ?_
  (conv => whnf)
  refine h.map.get strK s (fun hn => ?_) (fun x j hx => ?_)
  · repeat' ((conv => whnf); first | refine ⟨?_, True.intro⟩ | refine brn_t rfl ?_ | refine brn_f rfl ?_ | refine ob rfl ?_ | refine ob (by decide) ?_ | refine grow_same (Mem.le_refl _) ?_ | refine ob (Mem.le_refl _) ?_ | refine ⟨_, Mem.le_refl _, ?_⟩ | fail)
    rw [hr.none.1 hn]
    exact ⟨rfl, rfl⟩
  · obtain ⟨hfn, hfp, hfs, hff⟩ := fileR_of hr hx
    have hx1 : FXAt M x := h.ents _ (aget_mem hx)
    repeat' ((conv => whnf); first | refine ⟨?_, True.intro⟩ | refine brn_t rfl ?_ | refine brn_f rfl ?_ | refine ob rfl ?_ | refine ob (by decide) ?_ | refine grow_same (Mem.le_refl _) ?_ | refine ob (Mem.le_refl _) ?_ | refine ⟨_, Mem.le_refl _, ?_⟩ | fail)
    refine on (h.self.c1 rfl) ?_
    (conv => whnf)
    refine h.map.get strK s (fun hn => ?_) (fun x' j' hx' => ?_)
    · rw [hn] at hx; cases hx
    · rw [hx] at hx'; cases hx'
      repeat' ((conv => whnf); first | refine ⟨?_, True.intro⟩ | refine brn_t rfl ?_ | refine brn_f rfl ?_ | refine ob rfl ?_ | refine ob (by decide) ?_ | refine grow_same (Mem.le_refl _) ?_ | refine ob (Mem.le_refl _) ?_ | refine ⟨_, Mem.le_refl _, ?_⟩ | fail)
      refine on (hx1.self.c1 rfl) ?_
      repeat' ((conv => whnf); first | refine ⟨?_, True.intro⟩ | refine brn_t rfl ?_ | refine brn_f rfl ?_ | refine ob rfl ?_ | refine ob (by decide) ?_ | refine grow_same (Mem.le_refl _) ?_ | refine ob (Mem.le_refl _) ?_ | refine ⟨_, Mem.le_refl _, ?_⟩ | fail)
      rw [hff, hfs]
      exact ⟨rfl, rfl⟩
theorem Down_ok (h : DAt M p b D es) : CallsM Try.prog F.disk_Disk_Down [ptr p] M fun v M' => v = .bool D.down ∧ M = M' := by
  refine fo_disk_Disk_Down (by simp) ?_
  repeat' ((conv => whnf); first | refine ⟨?_, True.intro⟩ | refine brn_t rfl ?_ | refine brn_f rfl ?_ | refine ob rfl ?_ | refine ob (by decide) ?_ | refine grow_same (Mem.le_refl _) ?_ | refine ob (Mem.le_refl _) ?_ | refine ⟨_, Mem.le_refl _, ?_⟩ | fail)
  refine on (h.self.c1 rfl) ?_
  repeat' ((conv => whnf); first | refine ⟨?_, True.intro⟩ | refine brn_t rfl ?_ | refine brn_f rfl ?_ | refine ob rfl ?_ | refine ob (by decide) ?_ | refine grow_same (Mem.le_refl _) ?_ | refine ob (Mem.le_refl _) ?_ | refine ⟨_, Mem.le_refl _, ?_⟩ | fail)
  exact ⟨rfl, rfl⟩
theorem Limit_ok (h : DAt M p b D es) (hr : RelD es D.l) (k : Int) : CallsM Try.prog F.disk_Disk_Limit [ptr p, .int .i64 k] M fun v M' => v = .int .i64 (limitR D k).2 ∧ StepD M M' p b es es (limitR D k).1 := by
  refine fo_disk_Disk_Limit (by simp) ?_
  repeat' ((conv => whnf); first | refine ⟨?_, True.intro⟩ | refine brn_t rfl ?_ | refine brn_f rfl ?_ | refine ob rfl ?_ | refine ob (by decide) ?_ | refine grow_same (Mem.le_refl _) ?_ | refine ob (Mem.le_refl _) ?_ | refine ⟨_, Mem.le_refl _, ?_⟩ | fail)
  refine brn (fun g => ?_) (fun g => ?_)
  · have e : limitR D k = (D, 1) := by unfold limitR; rw [if_pos (.inl (of_decide_eq_true g))]
    repeat' ((conv => whnf); first | refine ⟨?_, True.intro⟩ | refine brn_t rfl ?_ | refine brn_f rfl ?_ | refine ob rfl ?_ | refine ob (by decide) ?_ | refine grow_same (Mem.le_refl _) ?_ | refine ob (Mem.le_refl _) ?_ | refine ⟨_, Mem.le_refl _, ?_⟩ | fail)
    rw [e]; exact ⟨rfl, .same h hr (Mem.le_refl _)⟩
  (conv => whnf); refine brn (fun g1 => ?_) (fun g1 => ?_)
  · have e : limitR D k = (D, 1) := by unfold limitR; rw [if_pos (.inr (of_decide_eq_true g1))]
    repeat' ((conv => whnf); first | refine ⟨?_, True.intro⟩ | refine brn_t rfl ?_ | refine brn_f rfl ?_ | refine ob rfl ?_ | refine ob (by decide) ?_ | refine grow_same (Mem.le_refl _) ?_ | refine ob (Mem.le_refl _) ?_ | refine ⟨_, Mem.le_refl _, ?_⟩ | fail)
    rw [e]; exact ⟨rfl, .same h hr (Mem.le_refl _)⟩
  have e : limitR D k = (⟨k, D.l, D.left, D.down⟩, 0) := by
    unfold limitR; rw [if_neg]
    have := of_decide_eq_false g; have := of_decide_eq_false g1; omega
  repeat' ((conv => whnf); first | refine ⟨?_, True.intro⟩ | refine brn_t rfl ?_ | refine brn_f rfl ?_ | refine ob rfl ?_ | refine ob (by decide) ?_ | refine grow_same (Mem.le_refl _) ?_ | refine ob (Mem.le_refl _) ?_ | refine ⟨_, Mem.le_refl _, ?_⟩ | fail)
  refine on h.self.cells ?_
  (conv => whnf); refine ob (by simp) ?_
  have hk2 : Mem.keep (fun y => y = p) M (M.setCells p T.disk_Disk [.int .i64 k, .map (some b), .int .i64 D.left, .bool D.down]) := fun y o hy ho => by
    unfold Mem.setCells; rw [Mem.upd_ne _ _ hy]; exact ho
  have h2 := h.head ⟨k, D.l, D.left, D.down⟩ hk2 Mem.has_setCells
  obtain ⟨M2, hM2⟩ : ∃ M2, M2 = M.setCells p T.disk_Disk [.int .i64 k, .map (some b), .int .i64 D.left, .bool D.down] := ⟨_, rfl⟩
  rw [← hM2] at h2 hk2
  (conv => whnf)
  erw [← hM2]
  repeat' ((conv => whnf); first | refine ⟨?_, True.intro⟩ | refine brn_t rfl ?_ | refine brn_f rfl ?_ | refine ob rfl ?_ | refine ob (by decide) ?_ | refine grow_same (Mem.le_refl _) ?_ | refine ob (Mem.le_refl _) ?_ | refine ⟨_, Mem.le_refl _, ?_⟩ | fail)
  rw [e]
  exact ⟨rfl, h2, hr, Mem.keep_mono hk2 fun y e => .inl e, fun y hy => .inl hy⟩
theorem Arm_ok (h : DAt M p b D es) (hr : RelD es D.l) (k : Int) : CallsM Try.prog F.disk_Disk_Arm [ptr p, .int .i64 k] M fun v M' => v = .int .i64 (armR D k).2 ∧ StepD M M' p b es es (armR D k).1 := by
  refine fo_disk_Disk_Arm (by simp) ?_
  repeat' ((conv => whnf); first | refine ⟨?_, True.intro⟩ | refine brn_t rfl ?_ | refine brn_f rfl ?_ | refine ob rfl ?_ | refine ob (by decide) ?_ | refine grow_same (Mem.le_refl _) ?_ | refine ob (Mem.le_refl _) ?_ | refine ⟨_, Mem.le_refl _, ?_⟩ | fail)
  refine (ready_ok h (ns := []) (SrcOk.nil M 1) (by omega) (by simp)).mono ?_
  rintro v _ ⟨rfl, rfl⟩
  rw [ready0]
  by_cases hd : D.down = true
  · rw [if_pos hd]
    have e : armR D k = (D, 9) := by unfold armR; rw [if_pos hd]
    repeat' ((conv => whnf); first | refine ⟨?_, True.intro⟩ | refine brn_t rfl ?_ | refine brn_f rfl ?_ | refine ob rfl ?_ | refine ob (by decide) ?_ | refine grow_same (Mem.le_refl _) ?_ | refine ob (Mem.le_refl _) ?_ | refine ⟨_, Mem.le_refl _, ?_⟩ | fail)
    rw [e]; exact ⟨rfl, .same h hr (Mem.le_refl _)⟩
  rw [if_neg hd]
  have e : armR D k = (⟨D.limit, D.l, if k < 0 then -1 else k, decide (k = 0)⟩, 0) := by unfold armR; rw [if_neg hd]
  repeat' ((conv => whnf); first | refine ⟨?_, True.intro⟩ | refine brn_t rfl ?_ | refine brn_f rfl ?_ | refine ob rfl ?_ | refine ob (by decide) ?_ | refine grow_same (Mem.le_refl _) ?_ | refine ob (Mem.le_refl _) ?_ | refine ⟨_, Mem.le_refl _, ?_⟩ | fail)
  refine on h.self.cells ?_
  (conv => whnf); refine ob (by simp) ?_
  have hk2 : Mem.keep (fun y => y = p) M (M.setCells p T.disk_Disk [.int .i64 D.limit, .map (some b), .int .i64 (max k (-1)), .bool D.down]) := fun y o hy ho => by
    unfold Mem.setCells; rw [Mem.upd_ne _ _ hy]; exact ho
  have hs2 : (M.setCells p T.disk_Disk [.int .i64 D.limit, .map (some b), .int .i64 (max k (-1)), .bool D.down]).has p T.disk_Disk [.int .i64 D.limit, .map (some b), .int .i64 (max k (-1)), .bool D.down] := Mem.has_setCells
  obtain ⟨M2, hM2⟩ : ∃ M2, M2 = M.setCells p T.disk_Disk [.int .i64 D.limit, .map (some b), .int .i64 (max k (-1)), .bool D.down] := ⟨_, rfl⟩
  rw [← hM2] at hs2 hk2
  (conv => whnf)
  erw [← hM2]
  repeat' ((conv => whnf); first | refine ⟨?_, True.intro⟩ | refine brn_t rfl ?_ | refine brn_f rfl ?_ | refine ob rfl ?_ | refine ob (by decide) ?_ | refine grow_same (Mem.le_refl _) ?_ | refine ob (Mem.le_refl _) ?_ | refine ⟨_, Mem.le_refl _, ?_⟩ | fail)
  refine on hs2.cells ?_
  (conv => whnf); refine ob (by simp) ?_
  have hk3 : Mem.keep (fun y => y = p) M2 (M2.setCells p T.disk_Disk [.int .i64 D.limit, .map (some b), .int .i64 (max k (-1)), .bool (decide (k = 0))]) := fun y o hy ho => by
    unfold Mem.setCells; rw [Mem.upd_ne _ _ hy]; exact ho
  have hmx : max k (-1) = if k < 0 then -1 else k := by split <;> omega
  have h3 := h.head ⟨D.limit, D.l, if k < 0 then -1 else k, decide (k = 0)⟩ (Mem.keep_trans hk2 hk3) (by rw [← hmx]; exact Mem.has_setCells)
  obtain ⟨M3, hM3⟩ : ∃ M3, M3 = M2.setCells p T.disk_Disk [.int .i64 D.limit, .map (some b), .int .i64 (max k (-1)), .bool (decide (k = 0))] := ⟨_, rfl⟩
  rw [← hM3] at hk3 h3
  (conv => whnf)
  erw [← hM3]
  repeat' ((conv => whnf); first | refine ⟨?_, True.intro⟩ | refine brn_t rfl ?_ | refine brn_f rfl ?_ | refine ob rfl ?_ | refine ob (by decide) ?_ | refine grow_same (Mem.le_refl _) ?_ | refine ob (Mem.le_refl _) ?_ | refine ⟨_, Mem.le_refl _, ?_⟩ | fail)
  rw [e]
  exact ⟨rfl, h3, hr, Mem.keep_mono (Mem.keep_trans hk2 hk3) fun y e => .inl e, fun y hy => .inl hy⟩
theorem strV_enc (l : List ByteArray) : l.map strV = (l.map bl).map Go.Proofs.encStr := by
  rw [List.map_map]
  apply List.map_congr_left
  intro s _
  exact congrArg Value.string (mk_bl s).symm
theorem Names_ok (h : DAt M p b D es) (hr : RelD es D.l) (hI : InvD D) :
    CallsM Try.prog F.disk_Disk_Names [ptr p] M fun v M' => ∃ a c, v = .slice a D.l.length c ∧ NewSl M T.string 1 a D.l.length c ((D.l.map (·.name)).map strV) M' := by
  refine fo_disk_Disk_Names (by simp) ?_
  have hlen := hr.len
  have hI1 := hI.len
  repeat' ((conv => whnf); first | refine ⟨?_, True.intro⟩ | refine brn_t rfl ?_ | refine brn_f rfl ?_ | refine ob rfl ?_ | refine ob (by decide) ?_ | refine grow_same (Mem.le_refl _) ?_ | refine ob (Mem.le_refl _) ?_ | refine ⟨_, Mem.le_refl _, ?_⟩ | fail)
  refine on (h.self.c1 rfl) ?_
  (conv => whnf)
  refine h.map.range fun q bi hbi hI2 => ?_
  replace hbi : M bi = none := hbi
  (conv => whnf)
  refine loopF (σ := Mem × (Option Addr × Nat × Nat) × List ByteArray × FsT) [3] (fun x => [(3, .slice x.2.1.1 x.2.1.2.1 x.2.1.2.2)]) (fun _ => []) (fun x => x.1)
    (fun | ⟨M1, (a, n, c), l, todo⟩ => NewSl M T.string 1 a n c (l.map strV) M1 ∧ Iter strV fxV M1 bi b es todo ∧ (l ++ todo.map (·.1)).Perm (es.map (·.1))) (fun x => x.2.2.2.length) ⟨_, (none, 0, 0), [], es⟩
    ⟨(NewSl.none M T.string 1).up (Mem.le_upd hbi), hI2, by simp⟩ ⟨(by repeat' first | exact True.intro | refine ⟨rfl, ?_⟩), (by repeat' first | exact True.intro | refine ⟨rfl, ?_⟩), Mem.le_refl _, rfl⟩ ?_
  rintro ⟨M1, ⟨a, n, c⟩, l, todo⟩ ⟨hN, hI3, hperm⟩
  (conv => whnf)
  refine hI3.next (fun h0 => ?_) (fun i k todo' o' hperm2 hI4 hent => ?_)
  · subst h0
    have hl : l.length = n := hN.src.maplen
    have hln : n = D.l.length := by have := hperm.length_eq; simp at this; omega
    repeat' ((conv => whnf); first | refine ⟨?_, True.intro⟩ | refine brn_t rfl ?_ | refine brn_f rfl ?_ | refine ob rfl ?_ | refine ob (by decide) ?_ | refine grow_same (Mem.le_refl _) ?_ | refine ob (Mem.le_refl _) ?_ | refine ⟨_, Mem.le_refl _, ?_⟩ | fail)
    have hw := hN.wr
    rw [strV_enc] at hw
    refine (sortT_ok Try.lays190 (by kernel_rfl) hw (show n < 4611686018427387904 by omega)).mono ?_
    rintro v M2 ⟨rfl, hw2, hk2⟩
    have hnames : sortedT (l.map bl) = (D.l.map (·.name)).map bl := by
      refine List.Perm.eq_of_pairwise (le := fun x y => x ≤ y) (fun x y _ _ h1 h2 => List.le_antisymm h1 h2) ?_ ?_ ?_
      · have := List.pairwise_mergeSort (le := fun (x y : List UInt8) => decide (x ≤ y)) (fun a b c h1 h2 => by simp only [decide_eq_true_eq] at *; exact List.le_trans h1 h2) (fun a b => by simp only [Bool.or_eq_true, decide_eq_true_eq]; exact List.le_total a b) (l.map bl)
        exact this.imp fun h => of_decide_eq_true h
      · rw [List.pairwise_map, List.pairwise_map]
        exact hr.sort.imp fun {x y} hxy => List.le_of_lt ((lessT_iff _ _).1 hxy)
      · refine (sortedT_perm _).trans ?_
        have h1 : l.Perm (es.map (·.1)) := by simpa using hperm
        exact (h1.trans hr.names).map bl
    rw [hnames, ← strV_enc] at hw2
    repeat' ((conv => whnf); first | refine ⟨?_, True.intro⟩ | refine brn_t rfl ?_ | refine brn_f rfl ?_ | refine ob rfl ?_ | refine ob (by decide) ?_ | refine grow_same (Mem.le_refl _) ?_ | refine ob (Mem.le_refl _) ?_ | refine ⟨_, Mem.le_refl _, ?_⟩ | fail)
    rw [hln] at hw2
    dsimp only
    rw [hln]
    exact ⟨a, c, rfl, hN.ofWr hw2 hk2 rfl⟩
  · have hk2 : Mem.keep (fun y => y = bi) M1 (M1.upd bi o') := Mem.keep_upd _ _ rfl
    have hN2 : NewSl M T.string 1 a n c (l.map strV) (M1.upd bi o') := hN.keep hk2 (fun y e => e ▸ hbi) (fun q hq e => by
        obtain ⟨_, cs, hh⟩ := hN.block hq
        exact (hI3.nb hh).1 e)
    obtain ⟨M2, hM2⟩ : ∃ M2, M2 = M1.upd bi o' := ⟨_, rfl⟩
    rw [← hM2] at hI4 hent hN2
    have hl : l.length = n := hN.src.maplen
    have hlt : l.length < es.length := by have := hperm.length_eq; have := hperm2.length_eq; simp at *; omega
    (conv => whnf)
    erw [← hM2]
    repeat' ((conv => whnf); first | refine ⟨?_, True.intro⟩ | refine brn_t rfl ?_ | refine brn_f rfl ?_ | refine ob rfl ?_ | refine ob (by decide) ?_ | refine grow_same (Mem.le_refl _) ?_ | refine ob (Mem.le_refl _) ?_ | refine ⟨_, Mem.le_refl _, ?_⟩ | fail)
    refine on hent ?_
    (conv => whnf)
    refine appK M _ hN2 (by first | omega | (dsimp only; omega)) (by simp [maxLen]; omega) (by simp [Value.oneCell']) fun a6 c6 M6 hN6 hk6 => ?_
    have hnb : ∀ y, blk a y → y ≠ bi ∧ y ≠ b := fun y ⟨q, hq, e⟩ => by
      obtain ⟨_, cs, hh⟩ := hN2.block hq
      exact e ▸ hI4.nb hh
    have hI6 := hI4.keep hk6 (fun hb => (hnb _ hb).1 rfl) (fun hb => (hnb _ hb).2 rfl)
    (conv => whnf)
    refine ⟨⟨M6, (a6, n + 1, c6), l ++ [i], todo'⟩, ⟨by simpa using hN6, hI6, ?_⟩, by have := hperm2.length_eq; simp at this ⊢; omega, ⟨(by repeat' first | exact True.intro | refine ⟨rfl, ?_⟩), (by repeat' first | exact True.intro | refine ⟨rfl, ?_⟩), Mem.le_refl _, rfl⟩⟩
    refine List.Perm.trans ?_ hperm
    rw [List.append_assoc]
    refine List.Perm.append_left _ ?_
    simpa using (hperm2.map (·.1)).symm
end Go.Proofs.Ytdjgmhifocdelaa
