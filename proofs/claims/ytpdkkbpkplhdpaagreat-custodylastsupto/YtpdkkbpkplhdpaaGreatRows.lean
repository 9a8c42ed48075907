/-
  No cell of these rows narrows 'for every input' (looked for: loops, veiled, ifaces, maps, wideKeys, modest, calm, conditions, laid).
  DERIVED. THE GIVEN ROWS OF THIS SEAT. 5 by the template 'for every input the law returns true; each argument reads behind the call as it read before'; 0 by the template 'total and deterministic' (their statements: YtpdkkbpkplhdpaaGreatTotals.lean).
  GIVEN WITH THE SEED: the statements are not yours to turn. If you find one false, say at which input.
  Laid BY PROGRAM, IN A SANDBOX (cutbox-rows.mjs): the forced cells as the released guide's own fill.sh prints them over the translation 1eb6fcd87a58cbb5… (all of the seat's roots in one cut). By AI agents, Wed Nov 11 2026. No macro, syntax, notation, axiom, sorry.
-/
import Derived.Test.YtpdkkbpkplhdpaaGreatChecked
import GoSem.Claim
import GoSem.ClaimJoined
import GoSem.ClaimMapViews
import Derived.JoinedTies
import Derived.KernelRfl
namespace Go.Proofs.YtpdkkbpkplhdpaaGreat
/- THE CELL 'sum', in the pinned program and in every row, IS THE sha256 OF THE DUMP (.gsa) THAT YtpdkkbpkplhdpaaGreatProg.lean LOADS. Nothing in Lean hashes anything: it is a label: what it is worth is what the hold of that sum in a sandbox is worth. -/
noncomputable def Tryz.pinned : Pinned := { name := "ytpdkkbpkplhdpaagreat", sum := "1eb6fcd87a58cbb539e135a8ac3cb28481f0ba8f315caf6b1eec32a3d50d8ea1", checked := Tryz.checked }
namespace Rows
def none {H : Type} : Left H := { results := [], args := [] }

/-- 'portagelaw17.CustodyLasts': WHATEVER THE INPUT: true; the input reads as it did. -/
def custodyLastsSpec : ChangeSpec := { name := "custodyLasts", fn := fun _ => fun
  | [d1, d2, d3] => { results := [.lit (.bool true)], args := [d1, d2, d3] }
  | _ => none }
def custodyLastsRow : OpenClaim := { program := "ytpdkkbpkplhdpaagreat", sum := "1eb6fcd87a58cbb539e135a8ac3cb28481f0ba8f315caf6b1eec32a3d50d8ea1", func := "portage/portagelaw17.CustodyLasts", spec := "custodyLasts", inPlace := ["slices.overlaps[int]"], unfollowed := true, recurses := true, plainKeys := false, apart := false }
def CustodyLastsSaid : Prop := custodyLastsRow.holds Tryz.pinned (OpenSpec.ofChange custodyLastsSpec)

/-- ITS FALSE NEIGHBOUR: 'it returns false'. Refute it at one input. -/
def custodyLastsWrong : ChangeSpec := { name := "custodyLasts", fn := fun _ => fun
  | [d1, d2, d3] => { results := [.lit (.bool false)], args := [d1, d2, d3] }
  | _ => none }
def CustodyLastsWrongFalsely : Prop := custodyLastsRow.holds Tryz.pinned (OpenSpec.ofChange custodyLastsWrong)

/-- 'portagelaw17.CustodyCompacts': WHATEVER THE INPUT: true; the input reads as it did. -/
def custodyCompactsSpec : ChangeSpec := { name := "custodyCompacts", fn := fun _ => fun
  | [d1, d2] => { results := [.lit (.bool true)], args := [d1, d2] }
  | _ => none }
def custodyCompactsRow : OpenClaim := { program := "ytpdkkbpkplhdpaagreat", sum := "1eb6fcd87a58cbb539e135a8ac3cb28481f0ba8f315caf6b1eec32a3d50d8ea1", func := "portage/portagelaw17.CustodyCompacts", spec := "custodyCompacts", inPlace := ["slices.overlaps[int]"], unfollowed := true, recurses := true, plainKeys := false, apart := false }
def CustodyCompactsSaid : Prop := custodyCompactsRow.holds Tryz.pinned (OpenSpec.ofChange custodyCompactsSpec)

/-- ITS FALSE NEIGHBOUR: 'it returns false'. Refute it at one input. -/
def custodyCompactsWrong : ChangeSpec := { name := "custodyCompacts", fn := fun _ => fun
  | [d1, d2] => { results := [.lit (.bool false)], args := [d1, d2] }
  | _ => none }
def CustodyCompactsWrongFalsely : Prop := custodyCompactsRow.holds Tryz.pinned (OpenSpec.ofChange custodyCompactsWrong)

/-- 'portagelaw17.CustodyIds': WHATEVER THE INPUT: true; the input reads as it did. -/
def custodyIdsSpec : ChangeSpec := { name := "custodyIds", fn := fun _ => fun
  | [d1, d2] => { results := [.lit (.bool true)], args := [d1, d2] }
  | _ => none }
def custodyIdsRow : OpenClaim := { program := "ytpdkkbpkplhdpaagreat", sum := "1eb6fcd87a58cbb539e135a8ac3cb28481f0ba8f315caf6b1eec32a3d50d8ea1", func := "portage/portagelaw17.CustodyIds", spec := "custodyIds", inPlace := ["slices.overlaps[int]"], unfollowed := true, recurses := true, plainKeys := false, apart := false }
def CustodyIdsSaid : Prop := custodyIdsRow.holds Tryz.pinned (OpenSpec.ofChange custodyIdsSpec)

/-- ITS FALSE NEIGHBOUR: 'it returns false'. Refute it at one input. -/
def custodyIdsWrong : ChangeSpec := { name := "custodyIds", fn := fun _ => fun
  | [d1, d2] => { results := [.lit (.bool false)], args := [d1, d2] }
  | _ => none }
def CustodyIdsWrongFalsely : Prop := custodyIdsRow.holds Tryz.pinned (OpenSpec.ofChange custodyIdsWrong)

/-- 'portagelaw17.CustodyRefuses': WHATEVER THE INPUT: true; the input reads as it did. -/
def custodyRefusesSpec : ChangeSpec := { name := "custodyRefuses", fn := fun _ => fun
  | [d1, d2, d3] => { results := [.lit (.bool true)], args := [d1, d2, d3] }
  | _ => none }
def custodyRefusesRow : OpenClaim := { program := "ytpdkkbpkplhdpaagreat", sum := "1eb6fcd87a58cbb539e135a8ac3cb28481f0ba8f315caf6b1eec32a3d50d8ea1", func := "portage/portagelaw17.CustodyRefuses", spec := "custodyRefuses", inPlace := ["slices.overlaps[int]"], unfollowed := true, recurses := true, plainKeys := false, apart := false }
def CustodyRefusesSaid : Prop := custodyRefusesRow.holds Tryz.pinned (OpenSpec.ofChange custodyRefusesSpec)

/-- ITS FALSE NEIGHBOUR: 'it returns false'. Refute it at one input. -/
def custodyRefusesWrong : ChangeSpec := { name := "custodyRefuses", fn := fun _ => fun
  | [d1, d2, d3] => { results := [.lit (.bool false)], args := [d1, d2, d3] }
  | _ => none }
def CustodyRefusesWrongFalsely : Prop := custodyRefusesRow.holds Tryz.pinned (OpenSpec.ofChange custodyRefusesWrong)

/-- 'portagelaw17.CustodyNil': WHATEVER THE INPUT: true; the input reads as it did. -/
def custodyNilSpec : ChangeSpec := { name := "custodyNil", fn := fun _ => fun
  | [d1, d2] => { results := [.lit (.bool true)], args := [d1, d2] }
  | _ => none }
def custodyNilRow : OpenClaim := { program := "ytpdkkbpkplhdpaagreat", sum := "1eb6fcd87a58cbb539e135a8ac3cb28481f0ba8f315caf6b1eec32a3d50d8ea1", func := "portage/portagelaw17.CustodyNil", spec := "custodyNil", inPlace := ["slices.overlaps[int]"], unfollowed := true, recurses := true, plainKeys := false, apart := false }
def CustodyNilSaid : Prop := custodyNilRow.holds Tryz.pinned (OpenSpec.ofChange custodyNilSpec)

/-- ITS FALSE NEIGHBOUR: 'it returns false'. Refute it at one input. -/
def custodyNilWrong : ChangeSpec := { name := "custodyNil", fn := fun _ => fun
  | [d1, d2] => { results := [.lit (.bool false)], args := [d1, d2] }
  | _ => none }
def CustodyNilWrongFalsely : Prop := custodyNilRow.holds Tryz.pinned (OpenSpec.ofChange custodyNilWrong)

/- THE SECOND FORM. 'bulk': how many values and letters a reading holds, each counted each time it is reached (what is shared counts as often as it is met; a slice's spare places count too). A statement '..UptoSaid' is the law's where the arguments, and the package variables that the reading takes, are together of bulk at most 1048576: NARROWER than '..Said'. Prove '..Said' where nothing that the law and all that it calls make is longer than what came in: it says more and counts as full. Else prove '..UptoSaid'. A law counts once. -/
mutual
def uptoBulk {H : Type} : DataW H → Nat
  | .lit (.string bytes) => bytes.length + 1
  | .lit _ => 1
  | .nil => 1
  | .ptr d => uptoBulk d + 1
  | .slice elems spare => uptoBulkAll elems + uptoBulkAll spare + 1
  | .agg parts => uptoBulkAll parts + 1
  | .iface _ d => uptoBulk d + 1
  | .map entries => uptoBulkEntries entries + 1
  | .held _ => 1
def uptoBulkAll {H : Type} : List (DataW H) → Nat
  | [] => 0
  | d :: r => uptoBulk d + uptoBulkAll r
def uptoBulkEntries {H : Type} : List (Lit × DataW H) → Nat
  | [] => 0
  | x :: r => uptoBulkEntry x + uptoBulkEntries r
def uptoBulkEntry {H : Type} : Lit × DataW H → Nat
  | (.string bytes, d) => bytes.length + uptoBulk d + 1
  | (_, d) => uptoBulk d + 1
 end
def uptoSmall : (H : Type) → List (DataW H) → Bool := fun _ ds => decide (uptoBulkAll ds ≤ 1048576)
def OpenSpec.upto (s : _root_.Go.ChangeSpec) : _root_.Go.OpenSpec := { _root_.Go.OpenSpec.ofChange s with cond := some uptoSmall }

/-- 'portagelaw17.CustodyLasts', WHERE WHAT IT READS IS OF BULK AT MOST 1048576: true; the input reads as it did. -/
def custodyLastsUptoRow : OpenClaim := { program := "ytpdkkbpkplhdpaagreat", sum := "1eb6fcd87a58cbb539e135a8ac3cb28481f0ba8f315caf6b1eec32a3d50d8ea1", func := "portage/portagelaw17.CustodyLasts", spec := "custodyLasts", inPlace := ["slices.overlaps[int]"], unfollowed := true, recurses := true, plainKeys := false, apart := false, narrowed := true }
def CustodyLastsUptoSaid : Prop := custodyLastsUptoRow.holds Tryz.pinned (OpenSpec.upto custodyLastsSpec)

/-- 'portagelaw17.CustodyCompacts', WHERE WHAT IT READS IS OF BULK AT MOST 1048576: true; the input reads as it did. -/
def custodyCompactsUptoRow : OpenClaim := { program := "ytpdkkbpkplhdpaagreat", sum := "1eb6fcd87a58cbb539e135a8ac3cb28481f0ba8f315caf6b1eec32a3d50d8ea1", func := "portage/portagelaw17.CustodyCompacts", spec := "custodyCompacts", inPlace := ["slices.overlaps[int]"], unfollowed := true, recurses := true, plainKeys := false, apart := false, narrowed := true }
def CustodyCompactsUptoSaid : Prop := custodyCompactsUptoRow.holds Tryz.pinned (OpenSpec.upto custodyCompactsSpec)

/-- 'portagelaw17.CustodyIds', WHERE WHAT IT READS IS OF BULK AT MOST 1048576: true; the input reads as it did. -/
def custodyIdsUptoRow : OpenClaim := { program := "ytpdkkbpkplhdpaagreat", sum := "1eb6fcd87a58cbb539e135a8ac3cb28481f0ba8f315caf6b1eec32a3d50d8ea1", func := "portage/portagelaw17.CustodyIds", spec := "custodyIds", inPlace := ["slices.overlaps[int]"], unfollowed := true, recurses := true, plainKeys := false, apart := false, narrowed := true }
def CustodyIdsUptoSaid : Prop := custodyIdsUptoRow.holds Tryz.pinned (OpenSpec.upto custodyIdsSpec)

/-- 'portagelaw17.CustodyRefuses', WHERE WHAT IT READS IS OF BULK AT MOST 1048576: true; the input reads as it did. -/
def custodyRefusesUptoRow : OpenClaim := { program := "ytpdkkbpkplhdpaagreat", sum := "1eb6fcd87a58cbb539e135a8ac3cb28481f0ba8f315caf6b1eec32a3d50d8ea1", func := "portage/portagelaw17.CustodyRefuses", spec := "custodyRefuses", inPlace := ["slices.overlaps[int]"], unfollowed := true, recurses := true, plainKeys := false, apart := false, narrowed := true }
def CustodyRefusesUptoSaid : Prop := custodyRefusesUptoRow.holds Tryz.pinned (OpenSpec.upto custodyRefusesSpec)

/-- 'portagelaw17.CustodyNil', WHERE WHAT IT READS IS OF BULK AT MOST 1048576: true; the input reads as it did. -/
def custodyNilUptoRow : OpenClaim := { program := "ytpdkkbpkplhdpaagreat", sum := "1eb6fcd87a58cbb539e135a8ac3cb28481f0ba8f315caf6b1eec32a3d50d8ea1", func := "portage/portagelaw17.CustodyNil", spec := "custodyNil", inPlace := ["slices.overlaps[int]"], unfollowed := true, recurses := true, plainKeys := false, apart := false, narrowed := true }
def CustodyNilUptoSaid : Prop := custodyNilUptoRow.holds Tryz.pinned (OpenSpec.upto custodyNilSpec)

end Rows
end Go.Proofs.YtpdkkbpkplhdpaaGreat
