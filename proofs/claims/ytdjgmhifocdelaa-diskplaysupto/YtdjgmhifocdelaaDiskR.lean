/- The disk: a disk of one's own; what was safe is there behind a crash. -/
import Derived.Test.YtdjgmhifocdelaaDiskQ
namespace Go.Proofs.Ytdjgmhifocdelaa
open Go Go.Vm
attribute [local irreducible] Brn Ob Grow CallsM inR LoopVC Mem.row Mem.cells Mem.setCells Mem.upd Own AppVC SrcVC StrVC NextVC New SrcOk subA NewSl Mem.textAt Mem.mapAt Mem.iterAt entryOf kfind Wr NewEls Elems
set_option maxRecDepth 10000
variable {M M0 : Mem} {p b : Nat} {D : DiskR} {es : FsT}
/-- a disk whose blocks are new to M0 -/
structure FreshD (M0 M : Mem) (p b : Nat) (D : DiskR) (es : FsT) : Prop where
  le : M0.le M
  at' : DAt M p b D es
  rel : RelD es D.l
  inv : InvD D
  fresh : ∀ y, diskB p b es y → M0 y = none
theorem FreshD.to (h : FreshD M0 M p b D es) {M' : Mem} (hle : M.le M') : FreshD M0 M' p b D es := ⟨Mem.le_trans h.le hle, h.at'.le hle, h.rel, h.inv, h.fresh⟩
theorem FreshD.base (h : FreshD M0 M p b D es) : FreshD (M.minus (diskB p b es)) M p b D es ∧ M0.le (M.minus (diskB p b es)) :=
  ⟨⟨Mem.minus_le _ _, h.at', h.rel, h.inv, fun _ hy => Mem.minus_in hy⟩, Mem.le_minus h.le h.fresh⟩
theorem FreshD.step (h : FreshD M0 M p b D es) {M' : Mem} {es' : FsT} {D' : DiskR} (hs : StepD M M' p b es es' D') (hi : InvD D') : FreshD M0 M' p b D' es' :=
  ⟨hs.keep.le h.le h.fresh, hs.at', hs.rel, hi, fun y hy => by
    rcases hs.own y hy with h1 | h1
    · exact h.fresh y h1
    · cases e : M0 y with
      | none => rfl
      | some z => rw [h.le _ _ e] at h1; cases h1⟩
theorem newF (limit : Int) : CallsM Try.prog F.disk_New [.int .i64 limit] M fun v M' =>
    ((limit < 1 ∨ 1048576 < limit) ∧ v = .tuple #[.pointer none, .int .i64 1] ∧ M' = M) ∨
    (¬ (limit < 1 ∨ 1048576 < limit) ∧ ∃ p b, v = .tuple #[ptr p, .int .i64 0] ∧ FreshD M M' p b ⟨limit, [], -1, false⟩ []) :=
  (New_ok limit).mono fun v M' h => by
    rcases h with h | ⟨h1, p, b, h2, h3, h4, h5⟩
    · exact .inl h
    · exact .inr ⟨h1, p, b, h2, h3, h4, RelD.nil, newR_inv h1, h5⟩
theorem appendF (h : FreshD M0 M p b D es) {s : ByteArray} (hs : s.size ≤ 4611686018427387904) {a : Option Addr} {n c : Nat} {l : List UInt8} (hl : SrcOk M 1 a n (l.map byteV)) :
    CallsM Try.prog F.disk_Disk_Append [ptr p, .string s, .slice a n c] M fun v M' => ∃ es', v = .int .i64 (appendR D s l).2 ∧ FreshD M0 M' p b (appendR D s l).1 es' :=
  (Append_ok h.at' h.rel h.inv s hs hl).mono fun _ _ ⟨hv, es', h'⟩ => ⟨es', hv, h.step h' (appendR_inv h.inv s l)⟩
theorem syncF (h : FreshD M0 M p b D es) {s : ByteArray} (hs : s.size ≤ 4611686018427387904) : CallsM Try.prog F.disk_Disk_Sync [ptr p, .string s] M fun v M' => ∃ es', v = .int .i64 (syncR D s).2 ∧ FreshD M0 M' p b (syncR D s).1 es' :=
  (Sync_ok h.at' h.rel h.inv s hs).mono fun _ _ ⟨hv, es', h'⟩ => ⟨es', hv, h.step h' (syncR_inv h.inv s)⟩
theorem cutF (h : FreshD M0 M p b D es) {s : ByteArray} (hs : s.size ≤ 4611686018427387904) (k : Int) : CallsM Try.prog F.disk_Disk_Cut [ptr p, .string s, .int .i64 k] M fun v M' => ∃ es', v = .int .i64 (cutR D s k).2 ∧ FreshD M0 M' p b (cutR D s k).1 es' :=
  (Cut_ok h.at' h.rel h.inv s hs k).mono fun _ _ ⟨hv, es', h'⟩ => ⟨es', hv, h.step h' (cutR_inv h.inv s k)⟩
theorem renameF (h : FreshD M0 M p b D es) {s t : ByteArray} (hs : s.size ≤ 4611686018427387904) (ht : t.size ≤ 4611686018427387904) : CallsM Try.prog F.disk_Disk_Rename [ptr p, .string s, .string t] M fun v M' => ∃ es', v = .int .i64 (renameR D s t).2 ∧ FreshD M0 M' p b (renameR D s t).1 es' :=
  (Rename_ok h.at' h.rel h.inv s t hs ht).mono fun _ _ ⟨hv, es', h'⟩ => ⟨es', hv, h.step h' (renameR_inv h.inv s t)⟩
theorem removeF (h : FreshD M0 M p b D es) {s : ByteArray} (hs : s.size ≤ 4611686018427387904) : CallsM Try.prog F.disk_Disk_Remove [ptr p, .string s] M fun v M' => ∃ es', v = .int .i64 (removeR D s).2 ∧ FreshD M0 M' p b (removeR D s).1 es' :=
  (Remove_ok h.at' h.rel h.inv s hs).mono fun _ _ ⟨hv, es', h'⟩ => ⟨es', hv, h.step h' (removeR_inv h.inv s)⟩
theorem limitF (h : FreshD M0 M p b D es) (k : Int) : CallsM Try.prog F.disk_Disk_Limit [ptr p, .int .i64 k] M fun v M' => ∃ es', v = .int .i64 (limitR D k).2 ∧ FreshD M0 M' p b (limitR D k).1 es' :=
  (Limit_ok h.at' h.rel k).mono fun _ _ ⟨hv, h'⟩ => ⟨es, hv, h.step h' (limitR_inv h.inv k)⟩
theorem armF (h : FreshD M0 M p b D es) {k : Int} (hk : k ≤ 9223372036854775807) : CallsM Try.prog F.disk_Disk_Arm [ptr p, .int .i64 k] M fun v M' => ∃ es', v = .int .i64 (armR D k).2 ∧ FreshD M0 M' p b (armR D k).1 es' :=
  (Arm_ok h.at' h.rel k).mono fun _ _ ⟨hv, h'⟩ => ⟨es, hv, h.step h' (armR_inv h.inv hk)⟩
theorem crashFr (h : FreshD M0 M p b D es) {ka : Option Addr} {kn kc : Nat} {keep : List Int} (hk : SrcOk M0 1 ka kn (keep.map intV)) (hkn : kn ≤ 4194304) :
    CallsM Try.prog F.disk_Disk_Crash [ptr p, .slice ka kn kc] M fun v M' => ∃ es', v = .int .i64 0 ∧ FreshD M0 M' p b (crashR D keep) es' :=
  (Crash_ok h.at' h.rel h.inv (hk.le h.base.2) hkn).mono fun _ _ ⟨hv, es', h'⟩ => ⟨es', hv, h.step h' (crashR_inv h.inv keep)⟩
theorem readF (h : FreshD M0 M p b D es) {s : ByteArray} (hs : s.size ≤ 4611686018427387904) : CallsM Try.prog F.disk_Disk_Read [ptr p, .string s] M fun v M' => ∃ a n c, v = .tuple #[.slice a n c, .int .i64 (readR D s).2] ∧ n = (bl (readR D s).1).length ∧ NewSl M T.uint8 1 a n c ((bl (readR D s).1).map byteV) M' :=
  Read_ok h.at' h.rel h.inv s hs
def safeR (D : DiskR) (s : ByteArray) : Nat := match findR D.l s with | some f => f.safe.size | none => 0
theorem safeF (h : FreshD M0 M p b D es) (s : ByteArray) : CallsM Try.prog F.disk_Disk_Safe [ptr p, .string s] M fun v M' => v = .int .i64 (safeR D s) ∧ M = M' :=
  (Safe_ok h.at' h.rel s).mono fun _ _ ⟨hv, h'⟩ => ⟨by rw [hv]; unfold safeR; cases findR D.l s <;> rfl, h'⟩
theorem aw1 : appendR ⟨9, [], -1, false⟩ ⟨#[97]⟩ [120, 121, 122] = (⟨9, [⟨⟨#[97]⟩, .empty, ⟨#[120, 121, 122]⟩⟩], -1, false⟩, 0) := by kernel_rfl
theorem aw2 : syncR ⟨9, [⟨⟨#[97]⟩, .empty, ⟨#[120, 121, 122]⟩⟩], -1, false⟩ ⟨#[97]⟩ = (⟨9, [⟨⟨#[97]⟩, ⟨#[120, 121, 122]⟩, .empty⟩], -1, false⟩, 0) := by kernel_rfl
theorem aw3 : appendR ⟨9, [⟨⟨#[97]⟩, ⟨#[120, 121, 122]⟩, .empty⟩], -1, false⟩ ⟨#[97]⟩ [117, 118] = (⟨9, [⟨⟨#[97]⟩, ⟨#[120, 121, 122]⟩, ⟨#[117, 118]⟩⟩], -1, false⟩, 0) := by kernel_rfl
theorem aw4 : crashR ⟨9, [⟨⟨#[97]⟩, ⟨#[120, 121, 122]⟩, ⟨#[117, 118]⟩⟩], -1, false⟩ [1] = ⟨9, [⟨⟨#[97]⟩, ⟨#[120, 121, 122, 117]⟩, .empty⟩], -1, false⟩ := by kernel_rfl
theorem aw5 : readR ⟨9, [⟨⟨#[97]⟩, ⟨#[120, 121, 122, 117]⟩, .empty⟩], -1, false⟩ ⟨#[97]⟩ = (⟨#[120, 121, 122, 117]⟩, 0) := by kernel_rfl
theorem aw6 : safeR ⟨9, [⟨⟨#[97]⟩, ⟨#[120, 121, 122, 117]⟩, .empty⟩], -1, false⟩ ⟨#[97]⟩ = 4 := by kernel_rfl
end Go.Proofs.Ytdjgmhifocdelaa
