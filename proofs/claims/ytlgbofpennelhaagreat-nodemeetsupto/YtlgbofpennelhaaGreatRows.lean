/-
  No cell of these rows narrows 'for every input' (looked for: loops, veiled, ifaces, maps, wideKeys, modest, calm, conditions, laid).
  DERIVED. THE GIVEN ROWS OF THIS SEAT. 4 by the template 'for every input the law returns true; each argument reads behind the call as it read before'; 0 by the template 'total and deterministic' (their statements: YtlgbofpennelhaaGreatTotals.lean).
  GIVEN WITH THE SEED: the statements are not yours to turn. If you find one false, say at which input.
  Laid BY PROGRAM, IN A SANDBOX (cutbox-rows.mjs): the forced cells as the released guide's own fill.sh prints them over the translation 795b0a711fbf7337… (all of the seat's roots in one cut). By AI agents, Wed Nov 11 2026. No macro, syntax, notation, axiom, sorry.
-/
import Derived.Test.YtlgbofpennelhaaGreatChecked
import GoSem.Claim
import GoSem.ClaimJoined
import GoSem.ClaimMapViews
import Derived.JoinedTies
import Derived.KernelRfl
namespace Go.Proofs.YtlgbofpennelhaaGreat
/- THE CELL 'sum', in the pinned program and in every row, IS THE sha256 OF THE DUMP (.gsa) THAT YtlgbofpennelhaaGreatProg.lean LOADS. Nothing in Lean hashes anything: it is a label: what it is worth is what the hold of that sum in a sandbox is worth. -/
noncomputable def Tryz.pinned : Pinned := { name := "ytlgbofpennelhaagreat", sum := "795b0a711fbf73377bccdcc9d3a2c41a118c6859894ae75be64af1ea9622cfa2", checked := Tryz.checked }
namespace Rows
def none {H : Type} : Left H := { results := [], args := [] }

/-- 'portagelaw21.NodeMeets': WHATEVER THE INPUT: true; the input reads as it did. -/
def nodeMeetsSpec : ChangeSpec := { name := "nodeMeets", fn := fun _ => fun
  | [d1, d2] => { results := [.lit (.bool true)], args := [d1, d2] }
  | _ => none }
def nodeMeetsRow : OpenClaim := { program := "ytlgbofpennelhaagreat", sum := "795b0a711fbf73377bccdcc9d3a2c41a118c6859894ae75be64af1ea9622cfa2", func := "portage/portagelaw21.NodeMeets", spec := "nodeMeets", inPlace := ["slices.overlaps[int]"], unfollowed := true, recurses := true, plainKeys := false, apart := false }
def NodeMeetsSaid : Prop := nodeMeetsRow.holds Tryz.pinned (OpenSpec.ofChange nodeMeetsSpec)

/-- ITS FALSE NEIGHBOUR: 'it returns false'. Refute it at one input. -/
def nodeMeetsWrong : ChangeSpec := { name := "nodeMeets", fn := fun _ => fun
  | [d1, d2] => { results := [.lit (.bool false)], args := [d1, d2] }
  | _ => none }
def NodeMeetsWrongFalsely : Prop := nodeMeetsRow.holds Tryz.pinned (OpenSpec.ofChange nodeMeetsWrong)

/-- 'portagelaw21.NodeSafe': WHATEVER THE INPUT: true; the input reads as it did. -/
def nodeSafeSpec : ChangeSpec := { name := "nodeSafe", fn := fun _ => fun
  | [d1, d2] => { results := [.lit (.bool true)], args := [d1, d2] }
  | _ => none }
def nodeSafeRow : OpenClaim := { program := "ytlgbofpennelhaagreat", sum := "795b0a711fbf73377bccdcc9d3a2c41a118c6859894ae75be64af1ea9622cfa2", func := "portage/portagelaw21.NodeSafe", spec := "nodeSafe", inPlace := ["slices.overlaps[int]"], unfollowed := true, recurses := true, plainKeys := false, apart := false }
def NodeSafeSaid : Prop := nodeSafeRow.holds Tryz.pinned (OpenSpec.ofChange nodeSafeSpec)

/-- ITS FALSE NEIGHBOUR: 'it returns false'. Refute it at one input. -/
def nodeSafeWrong : ChangeSpec := { name := "nodeSafe", fn := fun _ => fun
  | [d1, d2] => { results := [.lit (.bool false)], args := [d1, d2] }
  | _ => none }
def NodeSafeWrongFalsely : Prop := nodeSafeRow.holds Tryz.pinned (OpenSpec.ofChange nodeSafeWrong)

/-- 'portagelaw22.MeshQuotas': WHATEVER THE INPUT: true; the input reads as it did. -/
def meshQuotasSpec : ChangeSpec := { name := "meshQuotas", fn := fun _ => fun
  | [d1, d2] => { results := [.lit (.bool true)], args := [d1, d2] }
  | _ => none }
def meshQuotasRow : OpenClaim := { program := "ytlgbofpennelhaagreat", sum := "795b0a711fbf73377bccdcc9d3a2c41a118c6859894ae75be64af1ea9622cfa2", func := "portage/portagelaw22.MeshQuotas", spec := "meshQuotas", inPlace := ["slices.overlaps[int]"], unfollowed := true, recurses := true, plainKeys := false, apart := false }
def MeshQuotasSaid : Prop := meshQuotasRow.holds Tryz.pinned (OpenSpec.ofChange meshQuotasSpec)

/-- ITS FALSE NEIGHBOUR: 'it returns false'. Refute it at one input. -/
def meshQuotasWrong : ChangeSpec := { name := "meshQuotas", fn := fun _ => fun
  | [d1, d2] => { results := [.lit (.bool false)], args := [d1, d2] }
  | _ => none }
def MeshQuotasWrongFalsely : Prop := meshQuotasRow.holds Tryz.pinned (OpenSpec.ofChange meshQuotasWrong)

/-- 'portagelaw22.MeshSame': WHATEVER THE INPUT: true; the input reads as it did. -/
def meshSameSpec : ChangeSpec := { name := "meshSame", fn := fun _ => fun
  | [d1, d2] => { results := [.lit (.bool true)], args := [d1, d2] }
  | _ => none }
def meshSameRow : OpenClaim := { program := "ytlgbofpennelhaagreat", sum := "795b0a711fbf73377bccdcc9d3a2c41a118c6859894ae75be64af1ea9622cfa2", func := "portage/portagelaw22.MeshSame", spec := "meshSame", inPlace := ["slices.overlaps[int]"], unfollowed := true, recurses := true, plainKeys := false, apart := false }
def MeshSameSaid : Prop := meshSameRow.holds Tryz.pinned (OpenSpec.ofChange meshSameSpec)

/-- ITS FALSE NEIGHBOUR: 'it returns false'. Refute it at one input. -/
def meshSameWrong : ChangeSpec := { name := "meshSame", fn := fun _ => fun
  | [d1, d2] => { results := [.lit (.bool false)], args := [d1, d2] }
  | _ => none }
def MeshSameWrongFalsely : Prop := meshSameRow.holds Tryz.pinned (OpenSpec.ofChange meshSameWrong)

/- THE SECOND FORM. 'bulk': how many values and letters a reading holds, each counted each time it is reached (what is shared counts as often as it is met; a slice's spare places count too). A statement '..UptoSaid' is the law's where the arguments, and the package variables that the reading takes, are together of bulk at most 1048576: NARROWER than '..Said'. Prove '..Said' where nothing that the law and all that it calls make is longer than what came in: it says more and counts as full. Else prove '..UptoSaid'. A law counts once. -/
mutual
def uptoBulk {H : Type} : DataW H → Nat
  | .lit (.string bytes) => bytes.length + 1
  | .lit _ => 1
  | .nil => 1
  | .ptr d => uptoBulk d + 1
  | .slice elems spare => uptoBulkAll elems + uptoBulkAll spare + 1
  | .agg parts => uptoBulkAll parts + 1
  | .iface _ d => uptoBulk d + 1
  | .map entries => uptoBulkEntries entries + 1
  | .held _ => 1
def uptoBulkAll {H : Type} : List (DataW H) → Nat
  | [] => 0
  | d :: r => uptoBulk d + uptoBulkAll r
def uptoBulkEntries {H : Type} : List (Lit × DataW H) → Nat
  | [] => 0
  | x :: r => uptoBulkEntry x + uptoBulkEntries r
def uptoBulkEntry {H : Type} : Lit × DataW H → Nat
  | (.string bytes, d) => bytes.length + uptoBulk d + 1
  | (_, d) => uptoBulk d + 1
 end
def uptoSmall : (H : Type) → List (DataW H) → Bool := fun _ ds => decide (uptoBulkAll ds ≤ 1048576)
def OpenSpec.upto (s : _root_.Go.ChangeSpec) : _root_.Go.OpenSpec := { _root_.Go.OpenSpec.ofChange s with cond := some uptoSmall }

/-- 'portagelaw21.NodeMeets', WHERE WHAT IT READS IS OF BULK AT MOST 1048576: true; the input reads as it did. -/
def nodeMeetsUptoRow : OpenClaim := { program := "ytlgbofpennelhaagreat", sum := "795b0a711fbf73377bccdcc9d3a2c41a118c6859894ae75be64af1ea9622cfa2", func := "portage/portagelaw21.NodeMeets", spec := "nodeMeets", inPlace := ["slices.overlaps[int]"], unfollowed := true, recurses := true, plainKeys := false, apart := false, narrowed := true }
def NodeMeetsUptoSaid : Prop := nodeMeetsUptoRow.holds Tryz.pinned (OpenSpec.upto nodeMeetsSpec)

/-- 'portagelaw21.NodeSafe', WHERE WHAT IT READS IS OF BULK AT MOST 1048576: true; the input reads as it did. -/
def nodeSafeUptoRow : OpenClaim := { program := "ytlgbofpennelhaagreat", sum := "795b0a711fbf73377bccdcc9d3a2c41a118c6859894ae75be64af1ea9622cfa2", func := "portage/portagelaw21.NodeSafe", spec := "nodeSafe", inPlace := ["slices.overlaps[int]"], unfollowed := true, recurses := true, plainKeys := false, apart := false, narrowed := true }
def NodeSafeUptoSaid : Prop := nodeSafeUptoRow.holds Tryz.pinned (OpenSpec.upto nodeSafeSpec)

/-- 'portagelaw22.MeshQuotas', WHERE WHAT IT READS IS OF BULK AT MOST 1048576: true; the input reads as it did. -/
def meshQuotasUptoRow : OpenClaim := { program := "ytlgbofpennelhaagreat", sum := "795b0a711fbf73377bccdcc9d3a2c41a118c6859894ae75be64af1ea9622cfa2", func := "portage/portagelaw22.MeshQuotas", spec := "meshQuotas", inPlace := ["slices.overlaps[int]"], unfollowed := true, recurses := true, plainKeys := false, apart := false, narrowed := true }
def MeshQuotasUptoSaid : Prop := meshQuotasUptoRow.holds Tryz.pinned (OpenSpec.upto meshQuotasSpec)

/-- 'portagelaw22.MeshSame', WHERE WHAT IT READS IS OF BULK AT MOST 1048576: true; the input reads as it did. -/
def meshSameUptoRow : OpenClaim := { program := "ytlgbofpennelhaagreat", sum := "795b0a711fbf73377bccdcc9d3a2c41a118c6859894ae75be64af1ea9622cfa2", func := "portage/portagelaw22.MeshSame", spec := "meshSame", inPlace := ["slices.overlaps[int]"], unfollowed := true, recurses := true, plainKeys := false, apart := false, narrowed := true }
def MeshSameUptoSaid : Prop := meshSameUptoRow.holds Tryz.pinned (OpenSpec.upto meshSameSpec)

end Rows
end Go.Proofs.YtlgbofpennelhaaGreat
