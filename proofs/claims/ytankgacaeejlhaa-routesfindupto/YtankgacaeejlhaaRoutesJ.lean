/- Tables of ways: a net's tables are made. -/
import Derived.Test.YtankgacaeejlhaaRoutesI
namespace Go.Proofs.Ytankgacaeejlhaa
open Go Go.Vm
attribute [local irreducible] Brn Ob CallsM inR LoopVC Mem.row Mem.cells Mem.setCells Mem.upd Own AppVC SrcVC StrVC NextVC New SrcOk subA NewSl Mem.textAt Mem.mapAt Mem.iterAt entryOf kfind Wr NewEls Elems
set_option maxRecDepth 10000
variable {M : Mem}
def nbOf (links : Int) (n i : Nat) : List Int := ((List.range n).filter fun (k : Nat) => lnkOf links i k).map fun (k : Nat) => (k : Int)
theorem mem_nbOf {links : Int} {n i : Nat} {x : Int} : x ∈ nbOf links n i ↔ ∃ k : Nat, x = k ∧ k < n ∧ lnkOf links i k = true := by
  simp only [nbOf, List.mem_map, List.mem_filter, List.mem_range]
  constructor
  · rintro ⟨k, ⟨h1, h2⟩, rfl⟩; exact ⟨k, rfl, h1, h2⟩
  · rintro ⟨k, rfl, h1, h2⟩; exact ⟨k, ⟨h1, h2⟩, rfl⟩
theorem nbOf_succ (links : Int) (n i : Nat) : nbOf links (n + 1) i = if lnkOf links i n then nbOf links n i ++ [(n : Int)] else nbOf links n i := by
  simp only [nbOf, List.range_succ, List.filter_append, List.map_append]
  by_cases h : lnkOf links i n = true
  · simp [h]
  · simp [h]
theorem okNb_range (links : Int) (i : Nat) : ∀ (len s : Nat) (last : Int), last < s → s + len ≤ 64 → okNb i last (((List.range' s len).filter fun (k : Nat) => lnkOf links i k).map fun (k : Nat) => (k : Int)) = true := by
  intro len
  induction len with
  | zero => intro s last _ _; rfl
  | succ len ih =>
    intro s last h1 h2
    rw [List.range'_succ, List.filter_cons]
    split
    · rename_i hl
      have hne : ¬ (s : Int) = i := fun e => by rw [e, lnkOf_self] at hl; cases hl
      simp only [List.map_cons, okNb, isNode]
      rw [ih (s + 1) s (by omega) (by omega)]
      have a1 : (0 : Int) ≤ s := by omega
      have a2 : (s : Int) < 64 := by omega
      have a3 : ¬ (s : Int) ≤ last := by omega
      simp [a2, a3, hne]
    · exact ih (s + 1) last (by omega) (by omega)
theorem okNb_nbOf (links : Int) {n i : Nat} (hn : n ≤ 64) : okNb i (-1) (nbOf links n i) = true := by
  rw [nbOf, List.range_eq_range']
  exact okNb_range links i n 0 (-1) (by omega) (by omega)
theorem nbOf_len (links : Int) (n i : Nat) : (nbOf links n i).length ≤ n := by
  simp only [nbOf, List.length_map]
  exact Nat.le_trans (List.length_filter_le _ _) (by simp)
/-- how many nodes a net has -/
def nn (N : Int) : Nat := 1 + ((IntKind.u64.wrap N).tmod 8).toNat
theorem nn_le (N : Int) : 1 ≤ nn N ∧ nn N ≤ 8 := by
  have h : 0 ≤ IntKind.u64.wrap N := by
    unfold IntKind.wrap
    simp [IntKind.signed, IntKind.bits]
    omega
  have := Int.tmod_lt_of_pos (IntKind.u64.wrap N) (b := 8) (by omega)
  unfold nn
  omega
/-- what a net's tables are -/
def nbOk (links : Int) (n : Nat) (ts : List Tab) : Prop := ∀ (i : Nat) (t : Tab), ts[i]? = some t → t.nb = nbOf links n i
end Go.Proofs.Ytankgacaeejlhaa
