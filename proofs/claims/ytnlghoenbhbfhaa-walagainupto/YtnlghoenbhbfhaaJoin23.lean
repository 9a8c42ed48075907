/- The disk, plainly: what holds of each disk stays. -/
import Derived.Test.YtnlghoenbhbfhaaJoin22
import Derived.Test.YtnlghoenbhbfhaaJoin19
import Derived.Test.YtnlghoenbhbfhaaJoin20
namespace Go.Proofs.Ytnlghoenbhbfhaa
open Go Go.Vm
variable {D : DiskR}
theorem readyE_zero {s : ByteArray} (h : readyE D s = 0) : D.down = false ∧ okName s = true := by
  unfold readyE at h
  split at h
  · cases h
  · rename_i hd
    split at h
    · cases h
    · rename_i ho; exact ⟨by simpa using hd, by simpa using ho⟩
theorem thereE_zero {s : ByteArray} (h : thereE D s = 0) : readyE D s = 0 ∧ findR D.l s = some (fileR D s) := by
  unfold thereE at h
  split at h
  · rename_i g; exact absurd h g
  · rename_i g
    split at h
    · cases h
    · rename_i hf
      refine ⟨by simpa using g, ?_⟩
      obtain ⟨f, hf'⟩ := Option.ne_none_iff_exists'.1 hf
      rw [hf']; unfold fileR; rw [hf']; rfl
theorem InvD.with (h : InvD D) {f : FileR} (hl : findR D.l f.name = none → D.l.length < 64) (hu : usedR (withoutR D.l f.name) + (f.safe.size + f.tail.size) ≤ 1048576) : SortedR (withR D.l f) ∧ (withR D.l f).length ≤ 64 ∧ usedR (withR D.l f) ≤ 1048576 := by
  refine ⟨withR_sorted h.sort f, ?_, ?_⟩
  · rw [withR, insR_length]
    cases hf : findR D.l f.name with
    | none => rw [without_none hf]; have := hl hf; omega
    | some x => have := (without_some h.sort hf).1; have := h.len; omega
  · rw [withR, insR_used]; omega
theorem InvD.changed (h : InvD D) {l : List FileR} (h1 : SortedR l ∧ l.length ≤ 64 ∧ usedR l ≤ 1048576) : InvD (changedR D l) := by
  refine ⟨h1.1, h1.2.1, h1.2.2, h.limit, ?_⟩
  have := h.left
  unfold changedR; dsimp only; split <;> omega
theorem InvD.without (h : InvD D) (s : ByteArray) : SortedR (withoutR D.l s) ∧ (withoutR D.l s).length ≤ 64 ∧ usedR (withoutR D.l s) ≤ 1048576 := by
  refine ⟨withoutR_sorted h.sort s, Nat.le_trans (List.length_filter_le _ _) h.len, ?_⟩
  cases hf : findR D.l s with
  | none => rw [without_none hf]; exact h.used
  | some x => have := (without_some h.sort hf).2; have := h.used; omega
theorem newR_inv {limit : Int} (h : ¬ (limit < 1 ∨ 1048576 < limit)) : InvD ⟨limit, [], -1, false⟩ :=
  ⟨by simp [SortedR], by simp, by simp [usedR], by dsimp only; omega, by dsimp only; omega⟩
theorem appendR_inv (h : InvD D) (s : ByteArray) (p : List UInt8) : InvD (appendR D s p).1 := by
  unfold appendR
  split
  · exact h
  · split
    · exact h
    · rename_i h1 h2
      have hu := h.used
      have hlim := h.limit
      refine h.changed (h.with (fun hf => ?_) ?_)
      · dsimp only at hf
        apply Classical.byContradiction
        intro hc
        exact h2 (.inr ⟨hf, by omega⟩)
      · dsimp only
        have hsz : ((fileR D s).tail ++ (⟨p.toArray⟩ : ByteArray)).size = (fileR D s).tail.size + p.length := by rw [← bl_len, bl_append, List.length_append, bl_len, bl_mk]
        rw [hsz]
        cases hf : findR D.l s with
        | none =>
          rw [without_none hf]
          have : fileR D s = ⟨s, .empty, .empty⟩ := by unfold fileR; rw [hf]; rfl
          rw [this]
          have : ByteArray.empty.size = 0 := rfl
          dsimp only; omega
        | some x =>
          have : fileR D s = x := by unfold fileR; rw [hf]; rfl
          rw [this]
          have := (without_some h.sort hf).2
          omega
theorem all_size (f : FileR) : f.all.size = f.safe.size + f.tail.size := by rw [← bl_len, FileR.all_size]
theorem InvD.there (h : InvD D) {s : ByteArray} (h0 : thereE D s = 0) {f : FileR} (hn : f.name = s) (hs : f.safe.size + f.tail.size ≤ (fileR D s).safe.size + (fileR D s).tail.size) : SortedR (withR D.l f) ∧ (withR D.l f).length ≤ 64 ∧ usedR (withR D.l f) ≤ 1048576 := by
  have hf := (thereE_zero h0).2
  refine h.with (fun hn' => ?_) ?_
  · rw [hn, hf] at hn'; cases hn'
  · rw [hn]
    have := (without_some h.sort hf).2
    have := h.used
    omega
theorem syncR_inv (h : InvD D) (s : ByteArray) : InvD (syncR D s).1 := by
  unfold syncR
  split
  · exact h
  · rename_i h0
    refine h.changed (h.there (by simpa using h0) rfl ?_)
    have : ByteArray.empty.size = 0 := rfl
    dsimp only; rw [all_size]; omega
theorem cutR_inv (h : InvD D) (s : ByteArray) (k : Int) : InvD (cutR D s k).1 := by
  unfold cutR
  split
  · exact h
  · split
    · exact h
    · rename_i h0 _
      refine h.changed (h.there (by simpa using h0) rfl ?_)
      have : ByteArray.empty.size = 0 := rfl
      dsimp only
      have : ((fileR D s).all.extract 0 k.toNat).size ≤ (fileR D s).all.size := by rw [← bl_len, ← bl_len, bl_extract, List.length_take]; omega
      rw [all_size] at this; omega
theorem removeR_inv (h : InvD D) (s : ByteArray) : InvD (removeR D s).1 := by
  unfold removeR
  split
  · exact h
  · exact h.changed (h.without s)
theorem renameR_inv (h : InvD D) (s t : ByteArray) : InvD (renameR D s t).1 := by
  unfold renameR
  split
  · exact h
  · split
    · exact h
    · split
      · exact h
      · split
        · exact h
        · rename_i _ _ h0 _
          have hf := (thereE_zero (by simpa using h0)).2
          obtain ⟨w1, w2⟩ := without_some h.sort hf
          have hl := h.len
          have hu := h.used
          have h2 : InvD ⟨D.limit, withoutR D.l s, D.left, D.down⟩ := ⟨(h.without s).1, (h.without s).2.1, (h.without s).2.2, h.limit, h.left⟩
          have := h2.with (f := ⟨t, (fileR D s).safe, .empty⟩) (fun _ => by dsimp only; omega) (by
            have e0 : ByteArray.empty.size = 0 := rfl
            dsimp only
            cases hft : findR (withoutR D.l s) t with
            | none => rw [without_none hft]; omega
            | some x => have := (without_some h2.sort hft).2; dsimp only at this; omega)
          exact h.changed this
theorem limitR_inv (h : InvD D) (k : Int) : InvD (limitR D k).1 := by
  unfold limitR
  split
  · exact h
  · exact ⟨h.sort, h.len, h.used, by dsimp only; omega, h.left⟩
theorem armR_inv (h : InvD D) {k : Int} (hk : k ≤ 9223372036854775807) : InvD (armR D k).1 := by
  unfold armR
  split
  · exact h
  · exact ⟨h.sort, h.len, h.used, h.limit, by dsimp only; split <;> omega⟩
theorem crashR_names (keep : List Int) : (crashR D keep).l.map (·.name) = D.l.map (·.name) := by
  have := crashTo_names keep D.l.length D.l
  rwa [crashTo_all] at this
theorem crashR_used (keep : List Int) : usedR (crashR D keep).l ≤ usedR D.l := by
  unfold crashR usedR
  dsimp only
  have : ∀ (l : List FileR) (g : Nat → FileR → FileR), (∀ i f, (g i f).safe.size + (g i f).tail.size ≤ f.safe.size + f.tail.size) → ((l.mapIdx g).map fun f => f.safe.size + f.tail.size).sum ≤ (l.map fun f => f.safe.size + f.tail.size).sum := fun l => by
    induction l with
    | nil => intro g _; simp
    | cons x r ih =>
      intro g hg
      rw [List.mapIdx_cons]
      simp only [List.map_cons, List.sum_cons]
      have h1 := ih (fun i => g (i + 1)) (fun i f => hg (i + 1) f)
      have h2 := hg 0 x
      omega
  refine this _ _ fun i f => ?_
  have h1 := keptN_le keep i f
  have e0 : ByteArray.empty.size = 0 := rfl
  unfold crashF
  dsimp only
  rw [← bl_len (f.safe ++ f.tail.extract 0 (keptN keep i f)), bl_append, bl_extract, List.length_append, List.length_take, bl_len, bl_len]
  omega
theorem crashR_inv (h : InvD D) (keep : List Int) : InvD (crashR D keep) := by
  refine ⟨sortedR_names h.sort (crashR_names keep), ?_, Nat.le_trans (crashR_used keep) h.used, h.limit, by unfold crashR; dsimp only; omega⟩
  have := congrArg List.length (crashR_names (D := D) keep)
  simp only [List.length_map] at this
  rw [this]; exact h.len
end Go.Proofs.Ytnlghoenbhbfhaa

/- The disk: a disk of one's own; what was safe is there behind a crash. -/
namespace Go.Proofs.Ytnlghoenbhbfhaa
open Go Go.Vm
attribute [local irreducible] Brn Ob Grow CallsM inR LoopVC Mem.row Mem.cells Mem.setCells Mem.upd Go.Vm.Own AppVC SrcVC StrVC NextVC New SrcOk subA NewSl Mem.textAt Mem.mapAt Mem.iterAt entryOf kfind Wr NewEls Elems
set_option maxRecDepth 10000
variable {M M0 : Mem} {p b : Nat} {D : DiskR} {es : FsT}
/-- a disk whose blocks are new to M0 -/
structure FreshD (M0 M : Mem) (p b : Nat) (D : DiskR) (es : FsT) : Prop where
  le : M0.le M
  at' : DAt M p b D es
  rel : RelD es D.l
  inv : InvD D
  fresh : ∀ y, diskB p b es y → M0 y = none
theorem FreshD.to (h : FreshD M0 M p b D es) {M' : Mem} (hle : M.le M') : FreshD M0 M' p b D es := ⟨Mem.le_trans h.le hle, h.at'.le hle, h.rel, h.inv, h.fresh⟩
theorem FreshD.base (h : FreshD M0 M p b D es) : FreshD (M.minus (diskB p b es)) M p b D es ∧ M0.le (M.minus (diskB p b es)) :=
  ⟨⟨Mem.minus_le _ _, h.at', h.rel, h.inv, fun _ hy => Mem.minus_in hy⟩, Mem.le_minus h.le h.fresh⟩
theorem FreshD.step (h : FreshD M0 M p b D es) {M' : Mem} {es' : FsT} {D' : DiskR} (hs : StepD M M' p b es es' D') (hi : InvD D') : FreshD M0 M' p b D' es' :=
  ⟨hs.keep.le h.le h.fresh, hs.at', hs.rel, hi, fun y hy => by
    rcases hs.own y hy with h1 | h1
    · exact h.fresh y h1
    · cases e : M0 y with
      | none => rfl
      | some z => rw [h.le _ _ e] at h1; cases h1⟩
theorem newF (limit : Int) : CallsM Try.prog F.disk_New [.int .i64 limit] M fun v M' =>
    ((limit < 1 ∨ 1048576 < limit) ∧ v = .tuple #[.pointer none, .int .i64 1] ∧ M' = M) ∨
    (¬ (limit < 1 ∨ 1048576 < limit) ∧ ∃ p b, v = .tuple #[ptr p, .int .i64 0] ∧ FreshD M M' p b ⟨limit, [], -1, false⟩ []) :=
  (New_ok limit).mono fun v M' h => by
    rcases h with h | ⟨h1, p, b, h2, h3, h4, h5⟩
    · exact .inl h
    · exact .inr ⟨h1, p, b, h2, h3, h4, RelD.nil, newR_inv h1, h5⟩
theorem appendF (h : FreshD M0 M p b D es) {s : ByteArray} (hs : s.size ≤ 4611686018427387904) {a : Option Addr} {n c : Nat} {l : List UInt8} (hl : SrcOk M 1 a n (l.map byteV)) :
    CallsM Try.prog F.disk_Disk_Append [ptr p, .string s, .slice a n c] M fun v M' => ∃ es', v = .int .i64 (appendR D s l).2 ∧ FreshD M0 M' p b (appendR D s l).1 es' :=
  (Append_ok h.at' h.rel h.inv s hs hl).mono fun _ _ ⟨hv, es', h'⟩ => ⟨es', hv, h.step h' (appendR_inv h.inv s l)⟩
theorem syncF (h : FreshD M0 M p b D es) {s : ByteArray} (hs : s.size ≤ 4611686018427387904) : CallsM Try.prog F.disk_Disk_Sync [ptr p, .string s] M fun v M' => ∃ es', v = .int .i64 (syncR D s).2 ∧ FreshD M0 M' p b (syncR D s).1 es' :=
  (Sync_ok h.at' h.rel h.inv s hs).mono fun _ _ ⟨hv, es', h'⟩ => ⟨es', hv, h.step h' (syncR_inv h.inv s)⟩
theorem cutF (h : FreshD M0 M p b D es) {s : ByteArray} (hs : s.size ≤ 4611686018427387904) (k : Int) : CallsM Try.prog F.disk_Disk_Cut [ptr p, .string s, .int .i64 k] M fun v M' => ∃ es', v = .int .i64 (cutR D s k).2 ∧ FreshD M0 M' p b (cutR D s k).1 es' :=
  (Cut_ok h.at' h.rel h.inv s hs k).mono fun _ _ ⟨hv, es', h'⟩ => ⟨es', hv, h.step h' (cutR_inv h.inv s k)⟩
theorem removeF (h : FreshD M0 M p b D es) {s : ByteArray} (hs : s.size ≤ 4611686018427387904) : CallsM Try.prog F.disk_Disk_Remove [ptr p, .string s] M fun v M' => ∃ es', v = .int .i64 (removeR D s).2 ∧ FreshD M0 M' p b (removeR D s).1 es' :=
  (Remove_ok h.at' h.rel h.inv s hs).mono fun _ _ ⟨hv, es', h'⟩ => ⟨es', hv, h.step h' (removeR_inv h.inv s)⟩
theorem armF (h : FreshD M0 M p b D es) {k : Int} (hk : k ≤ 9223372036854775807) : CallsM Try.prog F.disk_Disk_Arm [ptr p, .int .i64 k] M fun v M' => ∃ es', v = .int .i64 (armR D k).2 ∧ FreshD M0 M' p b (armR D k).1 es' :=
  (Arm_ok h.at' h.rel k).mono fun _ _ ⟨hv, h'⟩ => ⟨es, hv, h.step h' (armR_inv h.inv hk)⟩
theorem crashFr (h : FreshD M0 M p b D es) {ka : Option Addr} {kn kc : Nat} {keep : List Int} (hk : SrcOk M0 1 ka kn (keep.map intV)) (hkn : kn ≤ 4194304) :
    CallsM Try.prog F.disk_Disk_Crash [ptr p, .slice ka kn kc] M fun v M' => ∃ es', v = .int .i64 0 ∧ FreshD M0 M' p b (crashR D keep) es' :=
  (Crash_ok h.at' h.rel h.inv (hk.le h.base.2) hkn).mono fun _ _ ⟨hv, es', h'⟩ => ⟨es', hv, h.step h' (crashR_inv h.inv keep)⟩
theorem readF (h : FreshD M0 M p b D es) {s : ByteArray} (hs : s.size ≤ 4611686018427387904) : CallsM Try.prog F.disk_Disk_Read [ptr p, .string s] M fun v M' => ∃ a n c, v = .tuple #[.slice a n c, .int .i64 (readR D s).2] ∧ n = (bl (readR D s).1).length ∧ NewSl M T.uint8 1 a n c ((bl (readR D s).1).map byteV) M' :=
  Read_ok h.at' h.rel h.inv s hs
def safeR (D : DiskR) (s : ByteArray) : Nat := match findR D.l s with | some f => f.safe.size | none => 0
theorem safeF (h : FreshD M0 M p b D es) (s : ByteArray) : CallsM Try.prog F.disk_Disk_Safe [ptr p, .string s] M fun v M' => v = .int .i64 (safeR D s) ∧ M = M' :=
  (Safe_ok h.at' h.rel s).mono fun _ _ ⟨hv, h'⟩ => ⟨by rw [hv]; unfold safeR; cases findR D.l s <;> rfl, h'⟩
theorem aw1 : appendR ⟨9, [], -1, false⟩ ⟨#[97]⟩ [120, 121, 122] = (⟨9, [⟨⟨#[97]⟩, .empty, ⟨#[120, 121, 122]⟩⟩], -1, false⟩, 0) := by kernel_rfl
theorem aw2 : syncR ⟨9, [⟨⟨#[97]⟩, .empty, ⟨#[120, 121, 122]⟩⟩], -1, false⟩ ⟨#[97]⟩ = (⟨9, [⟨⟨#[97]⟩, ⟨#[120, 121, 122]⟩, .empty⟩], -1, false⟩, 0) := by kernel_rfl
theorem aw3 : appendR ⟨9, [⟨⟨#[97]⟩, ⟨#[120, 121, 122]⟩, .empty⟩], -1, false⟩ ⟨#[97]⟩ [117, 118] = (⟨9, [⟨⟨#[97]⟩, ⟨#[120, 121, 122]⟩, ⟨#[117, 118]⟩⟩], -1, false⟩, 0) := by kernel_rfl
theorem aw4 : crashR ⟨9, [⟨⟨#[97]⟩, ⟨#[120, 121, 122]⟩, ⟨#[117, 118]⟩⟩], -1, false⟩ [1] = ⟨9, [⟨⟨#[97]⟩, ⟨#[120, 121, 122, 117]⟩, .empty⟩], -1, false⟩ := by kernel_rfl
theorem aw5 : readR ⟨9, [⟨⟨#[97]⟩, ⟨#[120, 121, 122, 117]⟩, .empty⟩], -1, false⟩ ⟨#[97]⟩ = (⟨#[120, 121, 122, 117]⟩, 0) := by kernel_rfl
theorem aw6 : safeR ⟨9, [⟨⟨#[97]⟩, ⟨#[120, 121, 122, 117]⟩, .empty⟩], -1, false⟩ ⟨#[97]⟩ = 4 := by kernel_rfl
end Go.Proofs.Ytnlghoenbhbfhaa

/- The log, plainly: records in rows of bytes; what each call does. -/
namespace Go.Proofs.Ytnlghoenbhbfhaa
open Go Go.Vm
/-! numbers of four bytes -/
theorem byteAt_nat (x : Nat) (s : Nat) : (byteAt (x : Int) (s : Int)).toNat = x / 2 ^ s % 256 := by
  unfold byteAt
  have e : ((x : Int).fdiv (2 ^ ((s : Int)).toNat)) = ((x / 2 ^ s : Nat) : Int) := by
    rw [Int.fdiv_eq_ediv_of_nonneg _ (by exact_mod_cast Nat.zero_le (2 ^ s)), Int.toNat_natCast]
    norm_cast
  rw [e]
  have : (((x / 2 ^ s : Nat) : Int) % 256).toNat = x / 2 ^ s % 256 := by omega
  rw [this]
  simp
theorem num_be4 {x : Nat} (h : x < 4294967296) : num (be 4 (x : Int)) 0 = x := by
  have e : be 4 (x : Int) = [byteAt (x : Int) ((24 : Nat) : Int), byteAt (x : Int) ((16 : Nat) : Int), byteAt (x : Int) ((8 : Nat) : Int), byteAt (x : Int) ((0 : Nat) : Int)] := rfl
  rw [e]
  simp only [num, byteAt_nat]
  omega
theorem be4_num {l : List UInt8} (h : l.length = 4) : be 4 ((num l 0 : Nat) : Int) = l := by
  match l, h with
  | [a, b, c, d], _ =>
    have e : be 4 ((num [a, b, c, d] 0 : Nat) : Int) = [byteAt ((num [a, b, c, d] 0 : Nat) : Int) ((24 : Nat) : Int), byteAt ((num [a, b, c, d] 0 : Nat) : Int) ((16 : Nat) : Int), byteAt ((num [a, b, c, d] 0 : Nat) : Int) ((8 : Nat) : Int), byteAt ((num [a, b, c, d] 0 : Nat) : Int) ((0 : Nat) : Int)] := rfl
    rw [e]
    have h1 := a.toNat_lt; have h2 := b.toNat_lt; have h3 := c.toNat_lt; have h4 := d.toNat_lt
    have key : ∀ (s : Nat) (z : UInt8), num [a, b, c, d] 0 / 2 ^ s % 256 = z.toNat → byteAt ((num [a, b, c, d] 0 : Nat) : Int) (s : Int) = z := fun s z hz => by
      apply UInt8.toNat_inj.1
      rw [byteAt_nat, hz]
    simp only [List.cons.injEq, and_true]
    refine ⟨key 24 a ?_, key 16 b ?_, key 8 c ?_, key 0 d ?_⟩ <;> simp only [num] <;> omega
/-! records -/
def okRec (p : List UInt8) : Prop := 1 ≤ p.length ∧ p.length ≤ 65536
theorem putB_len (p : List UInt8) : (putB p).length = 8 + p.length := by unfold putB; simp [be_length]; omega
theorem sum_nat (l : List UInt8) : ∃ q : Nat, sumI l = (q : Int) ∧ q < 4294967296 := ⟨(sumI l).toNat, by have := sumI_range l; omega, by have := sumI_range l; omega⟩
theorem firstR_put {p : List UInt8} (h : okRec p) (r : List UInt8) : firstR (putB p ++ r) = some (p, 8 + p.length) := by
  obtain ⟨q, hq, hq2⟩ := sum_nat (be 4 p.length ++ p)
  have e : putB p = be 4 p.length ++ be 4 (q : Int) ++ p := by unfold putB; rw [hq]
  have l1 : (be 4 (p.length : Int)).length = 4 := be_length 4 _
  have l2 : (be 4 (q : Int)).length = 4 := be_length 4 _
  have t1 : (putB p ++ r).take 4 = be 4 p.length := by rw [e, List.append_assoc, List.append_assoc, List.take_append_of_le_length (by omega), List.take_of_length_le (by omega)]
  have t2 : ((putB p ++ r).drop 4).take 4 = be 4 (q : Int) := by
    rw [e, List.append_assoc, List.append_assoc, List.drop_append_of_le_length (by omega), List.drop_of_length_le (by omega), List.nil_append, List.take_append_of_le_length (by omega), List.take_of_length_le (by omega)]
  have t3 : (putB p ++ r).drop 8 = p ++ r := by
    have : (be 4 (p.length : Int) ++ be 4 (q : Int)).length = 8 := by simp [l1, l2]
    rw [e, List.append_assoc, List.drop_append_of_le_length (by omega), List.drop_of_length_le (by omega), List.nil_append]
  have hk : num (be 4 (p.length : Int)) 0 = p.length := num_be4 (by have := h.2; omega)
  have hl : (putB p ++ r).length = 8 + p.length + r.length := by rw [List.length_append, putB_len]
  unfold firstR
  rw [t1, t2, t3, hk, hl, num_be4 hq2, List.take_append_of_le_length (Nat.le_refl _), List.take_length, if_neg (by omega), if_neg (by have := h.1; have := h.2; omega), if_pos hq]
theorem firstR_inv {l p : List UInt8} {k : Nat} (h : firstR l = some (p, k)) : l.take k = putB p ∧ okRec p := by
  obtain ⟨h1, h2, h3, h4, h5⟩ := firstR_some h
  refine ⟨?_, h3, h4⟩
  unfold firstR at h
  split at h
  · cases h
  · rename_i g8
    split at h
    · cases h
    · rename_i g
      split at h
      · rename_i hs
        simp only [Option.some.injEq, Prod.mk.injEq] at h
        obtain ⟨h6, h7⟩ := h
        have hk : num (l.take 4) 0 = p.length := by omega
        rw [h6] at hs
        have e1 : be 4 ((p.length : Nat) : Int) = l.take 4 := by rw [← hk]; exact be4_num (by rw [List.length_take]; omega)
        have e2 : be 4 (sumI (be 4 (p.length : Int) ++ p)) = (l.drop 4).take 4 := by rw [e1, hs]; exact be4_num (by rw [List.length_take, List.length_drop]; omega)
        unfold putB
        rw [e2, e1]
        have a1 : l.take k = l.take 4 ++ ((l.drop 4).take 4 ++ (l.drop 8).take p.length) := by
          have : k = 4 + (4 + p.length) := by omega
          rw [this, List.take_add, List.take_add, List.drop_drop]
        rw [a1, ← h5, List.append_assoc]
      · cases h
/-- of a beginning of a record nothing is read -/
theorem firstR_short {p : List UInt8} (h : okRec p) {k : Nat} (hk : k < 8 + p.length) : firstR ((putB p).take k) = none := by
  have hlen : ((putB p).take k).length = k := by rw [List.length_take, putB_len]; omega
  unfold firstR
  rw [hlen]
  split
  · rfl
  · rename_i g
    have t1 : ((putB p).take k).take 4 = be 4 p.length := by
      rw [List.take_take, Nat.min_eq_left (by omega)]
      unfold putB
      rw [List.append_assoc, List.take_append_of_le_length (by rw [be_length]; omega), List.take_of_length_le (by rw [be_length]; omega)]
    rw [t1, num_be4 (by have := h.2; omega), if_pos (.inr (.inr (by omega)))]
def rowsB (ps : List (List UInt8)) : List UInt8 := ps.flatMap putB
theorem rowsB_len (ps : List (List UInt8)) : (rowsB ps).length = lenR ps := by
  induction ps with
  | nil => rfl
  | cons p r ih => simp only [rowsB, List.flatMap_cons, List.length_append, putB_len, lenR, List.map_cons, List.sum_cons] at ih ⊢; rw [ih]
theorem rowsB_append (ps qs : List (List UInt8)) : rowsB (ps ++ qs) = rowsB ps ++ rowsB qs := by simp [rowsB]
theorem scanR_rows {ps : List (List UInt8)} (h : ∀ p ∈ ps, okRec p) (r : List UInt8) : scanR (rowsB ps ++ r) = ps ++ scanR r := by
  induction ps with
  | nil => rfl
  | cons p qs ih =>
    have e : rowsB (p :: qs) ++ r = putB p ++ (rowsB qs ++ r) := by simp [rowsB]
    rw [e, scanR_some (firstR_put (h p (by simp)) _), ← putB_len, List.drop_left, ih fun q hq => h q (by simp [hq])]
    rfl
theorem scanR_short {p : List UInt8} (h : okRec p) {k : Nat} (hk : k < 8 + p.length) : scanR ((putB p).take k) = [] := scanR_none (firstR_short h hk)
/-- records whose row has been cut off somewhere -/
theorem scanR_cut {ps : List (List UInt8)} (h : ∀ p ∈ ps, okRec p) {m : Nat} (hm : m ≤ lenR ps) : ∃ j, j ≤ ps.length ∧ scanR ((rowsB ps).take m) = ps.take j ∧ lenR (ps.take j) ≤ m ∧ ∀ i, i ≤ ps.length → lenR (ps.take i) ≤ m → i ≤ j := by
  induction ps generalizing m with
  | nil => exact ⟨0, Nat.le_refl _, by simp [rowsB, scanR, scanF], by simp [lenR], fun i hi _ => by simpa using hi⟩
  | cons p qs ih =>
    have hp := h p (by simp)
    have e : rowsB (p :: qs) = putB p ++ rowsB qs := by simp [rowsB]
    have el : lenR (p :: qs) = (8 + p.length) + lenR qs := by simp [lenR]
    by_cases hlt : m < 8 + p.length
    · refine ⟨0, Nat.zero_le _, ?_, by simp [lenR], fun i hi hle => ?_⟩
      · rw [e, List.take_append_of_le_length (by rw [putB_len]; omega), scanR_short hp hlt]; rfl
      · cases i with
        | zero => exact Nat.le_refl _
        | succ i =>
          rw [List.take_succ_cons] at hle
          have : lenR (p :: qs.take i) = (8 + p.length) + lenR (qs.take i) := by simp [lenR]
          omega
    · obtain ⟨j, h1, h2, h3, h4⟩ := ih (fun q hq => h q (by simp [hq])) (m := m - (8 + p.length)) (by omega)
      refine ⟨j + 1, by simp; omega, ?_, ?_, fun i hi hle => ?_⟩
      · have em : m = (putB p).length + (m - (8 + p.length)) := by rw [putB_len]; omega
        rw [e, em, List.take_length_add_append, scanR_some (firstR_put hp _), ← putB_len, List.drop_left]
        rw [putB_len, h2]; rfl
      · rw [List.take_succ_cons]
        have : lenR (p :: qs.take j) = (8 + p.length) + lenR (qs.take j) := by simp [lenR]
        omega
      · cases i with
        | zero => omega
        | succ i =>
          rw [List.take_succ_cons] at hle
          have : lenR (p :: qs.take i) = (8 + p.length) + lenR (qs.take i) := by simp [lenR]
          have := h4 i (by simpa using hi) (by omega)
          omega
/-- what has been read is there, and is read again -/
theorem scanR_inv : ∀ (m : Nat) (l : List UInt8), l.length ≤ m → l.take (lenR (scanR l)) = rowsB (scanR l) ∧ (∀ p ∈ scanR l, okRec p) ∧ lenR (scanR l) ≤ l.length := by
  intro m
  induction m with
  | zero =>
    intro l hl
    have h0 : firstR l = none := by unfold firstR; rw [if_pos (by omega)]
    rw [scanR_none h0]
    exact ⟨by simp [rowsB, lenR], by simp, by simp [lenR]⟩
  | succ m ih =>
    intro l hl
    cases hx : firstR l with
    | none =>
      rw [scanR_none hx]
      exact ⟨by simp [rowsB, lenR], by simp, by simp [lenR]⟩
    | some q =>
      obtain ⟨p, k⟩ := q
      obtain ⟨h1, h2, h3, -⟩ := firstR_some hx
      obtain ⟨h5, h6⟩ := firstR_inv hx
      obtain ⟨h7, h8, h9⟩ := ih (l.drop k) (by rw [List.length_drop]; omega)
      rw [scanR_some hx]
      have el : lenR (p :: scanR (l.drop k)) = k + lenR (scanR (l.drop k)) := by simp [lenR]; omega
      rw [List.length_drop] at h9
      refine ⟨?_, fun q hq => ?_, by omega⟩
      · rw [el, List.take_add, h5, h7]; simp [rowsB]
      · rcases List.mem_cons.1 hq with rfl | hq
        · exact h6
        · exact h8 q hq
theorem scanR_again (l : List UInt8) : scanR (l.take (lenR (scanR l))) = scanR l := by
  obtain ⟨h1, h2, -⟩ := scanR_inv l.length l (Nat.le_refl _)
  rw [h1]
  have := scanR_rows h2 []
  rw [List.append_nil] at this
  have e0 : scanR ([] : List UInt8) = [] := rfl
  rw [this, e0, List.append_nil]
end Go.Proofs.Ytnlghoenbhbfhaa

