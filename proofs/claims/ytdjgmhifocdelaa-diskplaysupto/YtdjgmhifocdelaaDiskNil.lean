/- DiskNil, as a contract; calls as the laws have them. -/
import Derived.Test.YtdjgmhifocdelaaDiskS
namespace Go.Proofs.Ytdjgmhifocdelaa
open Go Go.Vm
attribute [local irreducible] Brn Ob Grow CallsM inR LoopVC Mem.row Mem.cells Mem.setCells Mem.upd Own AppVC SrcVC StrVC NextVC New SrcOk subA NewSl Mem.textAt Mem.mapAt Mem.iterAt entryOf kfind Wr NewEls Elems
set_option maxRecDepth 10000
variable {M : Mem}
/-- a call, as the laws have it -/
structure ActD where
  kind : Int
  name : ByteArray
  to : ByteArray
  p : List UInt8
  n : Int
  keep : List Int
@[reducible] def actCs (x : ActD) (a1 : Option Addr) (n1 c1 : Nat) (a2 : Option Addr) (n2 c2 : Nat) : List Value := [.int .i64 x.kind, .string x.name, .string x.to, .slice a1 n1 c1, .int .i64 x.n, .slice a2 n2 c2]
def ActR (M : Mem) (cs : List Value) (x : ActD) : Prop := ∃ a1 n1 c1 a2 n2 c2, cs = actCs x a1 n1 c1 a2 n2 c2 ∧ SrcOk M 1 a1 n1 (x.p.map byteV) ∧ n1 ≤ 1048576 ∧ SrcOk M 1 a2 n2 (x.keep.map intV) ∧ n2 ≤ 1048576 ∧ x.name.size ≤ 1048576 ∧ x.to.size ≤ 1048576 ∧ (-9223372036854775808 ≤ x.n ∧ x.n ≤ 9223372036854775807)
theorem ActR.le {M M' : Mem} {cs : List Value} {x : ActD} (h : ActR M cs x) (hle : M.le M') : ActR M' cs x := by
  obtain ⟨a1, n1, c1, a2, n2, c2, h1, h2, h3, h4, h5⟩ := h
  exact ⟨a1, n1, c1, a2, n2, c2, h1, h2.le hle, h3, h4.le hle, h5⟩
set_option maxRecDepth 100000 in
theorem nil_law {cs : List Value} {x : ActD} (hx : ActR M cs x) : CallsM Try.prog F.law10_DiskNil [.agg cs.toArray] M fun v M' => v = .bool true ∧ M.le M' := by
  obtain ⟨a1, n1, c1, a2, n2, c2, rfl, h1, hn1, h2, hn2, -⟩ := hx
  refine fo_law10_DiskNil (by simp) ?_
  repeat' ((conv => whnf); first | refine ⟨?_, True.intro⟩ | refine brn_t rfl ?_ | refine brn_f rfl ?_ | refine ob rfl ?_ | refine ob (by decide) ?_ | refine grow_same (Mem.le_refl _) ?_ | refine ob (Mem.le_refl _) ?_ | refine ⟨_, Mem.le_refl _, ?_⟩ | fail)
  refine (nil_read x.name).mono ?_
  rintro v M1 ⟨rfl, hle1⟩
  repeat' ((conv => whnf); first | refine ⟨?_, True.intro⟩ | refine brn_t rfl ?_ | refine brn_f rfl ?_ | refine ob rfl ?_ | refine ob (by decide) ?_ | refine grow_same (Mem.le_refl _) ?_ | refine ob (Mem.le_refl _) ?_ | refine ⟨_, Mem.le_refl _, ?_⟩ | fail)
  refine (nil_append x.name a1 n1 c1).mono ?_
  rintro v M2 ⟨rfl, hle2⟩
  repeat' ((conv => whnf); first | refine ⟨?_, True.intro⟩ | refine brn_t rfl ?_ | refine brn_f rfl ?_ | refine ob rfl ?_ | refine ob (by decide) ?_ | refine grow_same (Mem.le_refl _) ?_ | refine ob (Mem.le_refl _) ?_ | refine ⟨_, Mem.le_refl _, ?_⟩ | fail)
  refine (nil_sync x.name).mono ?_
  rintro v M3 ⟨rfl, hle3⟩
  repeat' ((conv => whnf); first | refine ⟨?_, True.intro⟩ | refine brn_t rfl ?_ | refine brn_f rfl ?_ | refine ob rfl ?_ | refine ob (by decide) ?_ | refine grow_same (Mem.le_refl _) ?_ | refine ob (Mem.le_refl _) ?_ | refine ⟨_, Mem.le_refl _, ?_⟩ | fail)
  refine (nil_cut x.name x.n).mono ?_
  rintro v M4 ⟨rfl, hle4⟩
  repeat' ((conv => whnf); first | refine ⟨?_, True.intro⟩ | refine brn_t rfl ?_ | refine brn_f rfl ?_ | refine ob rfl ?_ | refine ob (by decide) ?_ | refine grow_same (Mem.le_refl _) ?_ | refine ob (Mem.le_refl _) ?_ | refine ⟨_, Mem.le_refl _, ?_⟩ | fail)
  refine (nil_rename x.name x.to).mono ?_
  rintro v M5 ⟨rfl, hle5⟩
  repeat' ((conv => whnf); first | refine ⟨?_, True.intro⟩ | refine brn_t rfl ?_ | refine brn_f rfl ?_ | refine ob rfl ?_ | refine ob (by decide) ?_ | refine grow_same (Mem.le_refl _) ?_ | refine ob (Mem.le_refl _) ?_ | refine ⟨_, Mem.le_refl _, ?_⟩ | fail)
  refine (nil_remove x.name).mono ?_
  rintro v M6 ⟨rfl, hle6⟩
  repeat' ((conv => whnf); first | refine ⟨?_, True.intro⟩ | refine brn_t rfl ?_ | refine brn_f rfl ?_ | refine ob rfl ?_ | refine ob (by decide) ?_ | refine grow_same (Mem.le_refl _) ?_ | refine ob (Mem.le_refl _) ?_ | refine ⟨_, Mem.le_refl _, ?_⟩ | fail)
  refine (nil_safe x.name).mono ?_
  rintro v _ ⟨rfl, rfl⟩
  repeat' ((conv => whnf); first | refine ⟨?_, True.intro⟩ | refine brn_t rfl ?_ | refine brn_f rfl ?_ | refine ob rfl ?_ | refine ob (by decide) ?_ | refine grow_same (Mem.le_refl _) ?_ | refine ob (Mem.le_refl _) ?_ | refine ⟨_, Mem.le_refl _, ?_⟩ | fail)
  refine nil_names.mono ?_
  rintro v _ ⟨rfl, rfl⟩
  repeat' ((conv => whnf); first | refine ⟨?_, True.intro⟩ | refine brn_t rfl ?_ | refine brn_f rfl ?_ | refine ob rfl ?_ | refine ob (by decide) ?_ | refine grow_same (Mem.le_refl _) ?_ | refine ob (Mem.le_refl _) ?_ | refine ⟨_, Mem.le_refl _, ?_⟩ | fail)
  refine nil_used.mono ?_
  rintro v _ ⟨rfl, rfl⟩
  repeat' ((conv => whnf); first | refine ⟨?_, True.intro⟩ | refine brn_t rfl ?_ | refine brn_f rfl ?_ | refine ob rfl ?_ | refine ob (by decide) ?_ | refine grow_same (Mem.le_refl _) ?_ | refine ob (Mem.le_refl _) ?_ | refine ⟨_, Mem.le_refl _, ?_⟩ | fail)
  refine (nil_limit x.n).mono ?_
  rintro v _ ⟨rfl, rfl⟩
  repeat' ((conv => whnf); first | refine ⟨?_, True.intro⟩ | refine brn_t rfl ?_ | refine brn_f rfl ?_ | refine ob rfl ?_ | refine ob (by decide) ?_ | refine grow_same (Mem.le_refl _) ?_ | refine ob (Mem.le_refl _) ?_ | refine ⟨_, Mem.le_refl _, ?_⟩ | fail)
  refine (nil_arm x.n).mono ?_
  rintro v _ ⟨rfl, rfl⟩
  repeat' ((conv => whnf); first | refine ⟨?_, True.intro⟩ | refine brn_t rfl ?_ | refine brn_f rfl ?_ | refine ob rfl ?_ | refine ob (by decide) ?_ | refine grow_same (Mem.le_refl _) ?_ | refine ob (Mem.le_refl _) ?_ | refine ⟨_, Mem.le_refl _, ?_⟩ | fail)
  refine nil_down.mono ?_
  rintro v _ ⟨rfl, rfl⟩
  repeat' ((conv => whnf); first | refine ⟨?_, True.intro⟩ | refine brn_t rfl ?_ | refine brn_f rfl ?_ | refine ob rfl ?_ | refine ob (by decide) ?_ | refine grow_same (Mem.le_refl _) ?_ | refine ob (Mem.le_refl _) ?_ | refine ⟨_, Mem.le_refl _, ?_⟩ | fail)
  refine (nil_crash a2 n2 c2).mono ?_
  rintro v _ ⟨rfl, rfl⟩
  repeat' ((conv => whnf); first | refine ⟨?_, True.intro⟩ | refine brn_t rfl ?_ | refine brn_f rfl ?_ | refine ob rfl ?_ | refine ob (by decide) ?_ | refine grow_same (Mem.le_refl _) ?_ | refine ob (Mem.le_refl _) ?_ | refine ⟨_, Mem.le_refl _, ?_⟩ | fail)
  refine nil_fork.mono ?_
  rintro v _ ⟨rfl, rfl⟩
  repeat' ((conv => whnf); first | refine ⟨?_, True.intro⟩ | refine brn_t rfl ?_ | refine brn_f rfl ?_ | refine ob rfl ?_ | refine ob (by decide) ?_ | refine grow_same (Mem.le_refl _) ?_ | refine ob (Mem.le_refl _) ?_ | refine ⟨_, Mem.le_refl _, ?_⟩ | fail)
  refine awake_ok.mono ?_
  rintro v M7 ⟨rfl, hle7⟩
  repeat' ((conv => whnf); first | refine ⟨?_, True.intro⟩ | refine brn_t rfl ?_ | refine brn_f rfl ?_ | refine ob rfl ?_ | refine ob (by decide) ?_ | refine grow_same (Mem.le_refl _) ?_ | refine ob (Mem.le_refl _) ?_ | refine ⟨_, Mem.le_refl _, ?_⟩ | fail)
  exact ⟨rfl, Mem.le_trans hle1 (Mem.le_trans hle2 (Mem.le_trans hle3 (Mem.le_trans hle4 (Mem.le_trans hle5 (Mem.le_trans hle6 hle7)))))⟩
end Go.Proofs.Ytdjgmhifocdelaa
