/- The disk, plainly: files in the order of their names; what each call does to them. -/
import Derived.Test.YtdjgmhifocdelaaVmU
import Derived.Sort.Walk0
namespace Go.Proofs.Ytdjgmhifocdelaa
open Go Go.Vm
def bl (b : ByteArray) : List UInt8 := b.data.toList
theorem bl_toList (b : ByteArray) : b.toList = bl b := by simp [ByteArray.toList_eq, bl]
theorem bl_inj {a b : ByteArray} (h : bl a = bl b) : a = b := ByteArray.ext (Array.toList_inj.1 h)
theorem bl_mk (l : List UInt8) : bl ⟨l.toArray⟩ = l := by simp [bl]
theorem mk_bl (b : ByteArray) : (⟨(bl b).toArray⟩ : ByteArray) = b := by apply ByteArray.ext; simp [bl]
theorem bl_append (a b : ByteArray) : bl (a ++ b) = bl a ++ bl b := by simp [bl, ByteArray.data_append]
theorem bl_len (b : ByteArray) : (bl b).length = b.size := by simp [bl]
def lessT (a b : ByteArray) : Bool := Op.bytesLess a.toList b.toList
theorem lessT_iff (a b : ByteArray) : lessT a b = true ↔ bl a < bl b := by
  unfold lessT; rw [Go.Proofs.bytesLess_eq, bl_toList, bl_toList]; exact decide_eq_true_iff
theorem lessT_irrefl (a : ByteArray) : lessT a a = false := by
  rw [← Bool.not_eq_true, lessT_iff]; exact List.lt_irrefl _
theorem lessT_trans {a b c : ByteArray} (h : lessT a b = true) (h' : lessT b c = true) : lessT a c = true := by
  rw [lessT_iff] at *; exact List.lt_trans h h'
theorem lessT_tri {a b : ByteArray} (h : lessT a b = false) (hne : a ≠ b) : lessT b a = true := by
  rw [← Bool.not_eq_true, lessT_iff] at h
  rw [lessT_iff]
  apply Classical.byContradiction
  intro h'
  exact hne (bl_inj (List.le_antisymm h' h))
structure FileR where
  name : ByteArray
  safe : ByteArray
  tail : ByteArray
def FileR.all (f : FileR) : ByteArray := f.safe ++ f.tail
structure DiskR where
  limit : Int
  l : List FileR
  left : Int
  down : Bool
def SortedR (L : List FileR) : Prop := L.Pairwise fun x y => lessT x.name y.name = true
def findR (L : List FileR) (n : ByteArray) : Option FileR := L.find? fun f => decide (f.name = n)
def usedR (L : List FileR) : Nat := (L.map fun f => f.safe.size + f.tail.size).sum
def withoutR (L : List FileR) (n : ByteArray) : List FileR := L.filter fun f => decide (f.name ≠ n)
def insR (f : FileR) : List FileR → List FileR
  | [] => [f]
  | x :: r => if lessT f.name x.name = true then f :: x :: r else x :: insR f r
def withR (L : List FileR) (f : FileR) : List FileR := insR f (withoutR L f.name)
theorem insR_mem (f x : FileR) : ∀ L, x ∈ insR f L ↔ x = f ∨ x ∈ L
  | [] => by simp [insR]
  | y :: r => by
    unfold insR
    split
    · simp
    · simp only [List.mem_cons, insR_mem f x r]
      constructor
      · rintro (h | h | h)
        · exact .inr (.inl h)
        · exact .inl h
        · exact .inr (.inr h)
      · rintro (h | h | h)
        · exact .inr (.inl h)
        · exact .inl h
        · exact .inr (.inr h)
theorem insR_sorted {f : FileR} : ∀ {L : List FileR}, SortedR L → (∀ x ∈ L, x.name ≠ f.name) → SortedR (insR f L)
  | [], _, _ => by simp [insR, SortedR]
  | y :: r, h, hne => by
    obtain ⟨h1, h2⟩ := List.pairwise_cons.1 h
    unfold insR
    split
    · rename_i hl
      refine List.pairwise_cons.2 ⟨fun x hx => ?_, h⟩
      rcases List.mem_cons.1 hx with rfl | hx
      · exact hl
      · exact lessT_trans hl (h1 x hx)
    · rename_i hl
      refine List.pairwise_cons.2 ⟨fun x hx => ?_, insR_sorted h2 fun x hx => hne x (by simp [hx])⟩
      rcases (insR_mem f x r).1 hx with rfl | hx
      · exact lessT_tri (by simpa using hl) (fun e => hne y (by simp) e.symm)
      · exact h1 x hx
theorem insR_length (f : FileR) : ∀ L, (insR f L).length = L.length + 1
  | [] => rfl
  | y :: r => by unfold insR; split <;> simp [insR_length f r]
theorem insR_used (f : FileR) : ∀ L, usedR (insR f L) = f.safe.size + f.tail.size + usedR L
  | [] => by simp [insR, usedR]
  | y :: r => by
    unfold insR; split
    · simp [usedR]
    · have := insR_used f r
      simp only [usedR, List.map_cons, List.sum_cons] at this ⊢
      omega
theorem withoutR_sorted {L : List FileR} (h : SortedR L) (n : ByteArray) : SortedR (withoutR L n) := h.filter _
theorem withoutR_mem {L : List FileR} {n : ByteArray} {x : FileR} : x ∈ withoutR L n ↔ x ∈ L ∧ x.name ≠ n := by simp [withoutR]
theorem withR_sorted {L : List FileR} (h : SortedR L) (f : FileR) : SortedR (withR L f) := insR_sorted (withoutR_sorted h _) fun _ hx => (withoutR_mem.1 hx).2
theorem withR_mem {L : List FileR} {f x : FileR} : x ∈ withR L f ↔ x = f ∨ (x ∈ L ∧ x.name ≠ f.name) := by rw [withR, insR_mem, withoutR_mem]
theorem SortedR.uniq {L : List FileR} (h : SortedR L) {x y : FileR} (hx : x ∈ L) (hy : y ∈ L) (e : x.name = y.name) : x = y := by
  induction L with
  | nil => cases hx
  | cons z r ih =>
    obtain ⟨h1, h2⟩ := List.pairwise_cons.1 h
    rcases List.mem_cons.1 hx with rfl | hx'
    · rcases List.mem_cons.1 hy with rfl | hy'
      · rfl
      · have := h1 y hy'; rw [e, lessT_irrefl] at this; cases this
    · rcases List.mem_cons.1 hy with rfl | hy'
      · have := h1 x hx'; rw [← e, lessT_irrefl] at this; cases this
      · exact ih h2 hx' hy'
theorem findR_some {L : List FileR} (h : SortedR L) {n : ByteArray} {x : FileR} : findR L n = some x ↔ x ∈ L ∧ x.name = n := by
  unfold findR
  constructor
  · intro hf
    exact ⟨List.mem_of_find?_eq_some hf, of_decide_eq_true (List.find?_some (p := fun f : FileR => decide (f.name = n)) hf)⟩
  · rintro ⟨hx, rfl⟩
    cases hf : L.find? (fun f => decide (f.name = x.name)) with
    | none =>
      rw [List.find?_eq_none] at hf
      exact absurd (decide_eq_true rfl) (hf x hx)
    | some y =>
      rw [h.uniq (List.mem_of_find?_eq_some hf) hx (of_decide_eq_true (List.find?_some (p := fun f : FileR => decide (f.name = x.name)) hf))]
theorem findR_none {L : List FileR} {n : ByteArray} : findR L n = none ↔ ∀ x ∈ L, x.name ≠ n := by
  unfold findR; rw [List.find?_eq_none]; simp
theorem findR_with {L : List FileR} (h : SortedR L) (f : FileR) (n : ByteArray) : findR (withR L f) n = if n = f.name then some f else findR L n := by
  split
  · rename_i e
    rw [findR_some (withR_sorted h f), withR_mem]; exact ⟨.inl rfl, e.symm⟩
  · rename_i e
    cases hf : findR L n with
    | none =>
      rw [findR_none] at hf ⊢
      intro x hx
      rcases withR_mem.1 hx with rfl | ⟨hx, _⟩
      · exact Ne.symm e
      · exact hf x hx
    | some y =>
      rw [findR_some h] at hf
      rw [findR_some (withR_sorted h f), withR_mem]
      exact ⟨.inr ⟨hf.1, by rw [hf.2]; exact e⟩, hf.2⟩
theorem findR_without {L : List FileR} (h : SortedR L) (m n : ByteArray) : findR (withoutR L m) n = if n = m then none else findR L n := by
  split
  · rename_i e
    rw [findR_none]; intro x hx; rw [e]; exact (withoutR_mem.1 hx).2
  · rename_i e
    cases hf : findR L n with
    | none =>
      rw [findR_none] at hf ⊢
      exact fun x hx => hf x (withoutR_mem.1 hx).1
    | some y =>
      rw [findR_some h] at hf
      rw [findR_some (withoutR_sorted h m), withoutR_mem]
      exact ⟨⟨hf.1, by rw [hf.2]; exact e⟩, hf.2⟩
theorem without_none {L : List FileR} {n : ByteArray} (h : findR L n = none) : withoutR L n = L := by
  rw [findR_none] at h
  unfold withoutR
  rw [List.filter_eq_self]
  intro x hx; simpa using h x hx
theorem without_some {L : List FileR} (h : SortedR L) {n : ByteArray} {x : FileR} (hf : findR L n = some x) : (withoutR L n).length + 1 = L.length ∧ usedR (withoutR L n) + (x.safe.size + x.tail.size) = usedR L := by
  obtain ⟨hx, rfl⟩ := (findR_some h).1 hf
  clear hf
  induction L with
  | nil => cases hx
  | cons z r ih =>
    obtain ⟨h1, h2⟩ := List.pairwise_cons.1 h
    unfold withoutR
    rw [List.filter_cons]
    by_cases e : z.name = x.name
    · have : z = x := h.uniq (by simp) hx e
      subst this
      rw [if_neg (by simp)]
      have hr : withoutR r z.name = r := without_none (findR_none.2 fun y hy e => by have := h1 y hy; rw [e, lessT_irrefl] at this; cases this)
      have hr' : List.filter (fun f => decide (f.name ≠ z.name)) r = r := hr
      rw [hr']
      simp [usedR]; omega
    · rw [if_pos (by simpa using e)]
      have hx' : x ∈ r := by rcases List.mem_cons.1 hx with rfl | h; exact absurd rfl e; exact h
      obtain ⟨h3, h4⟩ := ih h2 hx'
      unfold withoutR at h3 h4
      unfold usedR at h4
      simp only [usedR, List.map_cons, List.sum_cons, List.length_cons]
      omega
/-! a name -/
def okName (b : ByteArray) : Bool := decide (0 < b.size ∧ b.size ≤ 12) && (bl b).all fun c => decide (c.toNat = 46 ∨ (48 ≤ c.toNat ∧ c.toNat ≤ 57) ∨ (97 ≤ c.toNat ∧ c.toNat ≤ 122))
/-! the calls -/
def readyE (D : DiskR) (n : ByteArray) : Int := if D.down = true then 9 else if okName n = false then 2 else 0
def thereE (D : DiskR) (n : ByteArray) : Int := if readyE D n ≠ 0 then readyE D n else if findR D.l n = none then 4 else 0
def changedR (D : DiskR) (l : List FileR) : DiskR := ⟨D.limit, l, if 0 < D.left then D.left - 1 else D.left, decide (D.left = 1)⟩
def fileR (D : DiskR) (n : ByteArray) : FileR := (findR D.l n).getD ⟨n, .empty, .empty⟩
def newR : Int → DiskR × Int := fun limit => if limit < 1 ∨ 1048576 < limit then (⟨0, [], 0, false⟩, 1) else (⟨limit, [], -1, false⟩, 0)
def appendR (D : DiskR) (n : ByteArray) (p : List UInt8) : DiskR × Int :=
  if readyE D n ≠ 0 then (D, readyE D n) else if D.limit - usedR D.l < p.length ∨ (findR D.l n = none ∧ 64 ≤ D.l.length) then (D, 6)
  else (changedR D (withR D.l ⟨n, (fileR D n).safe, (fileR D n).tail ++ ⟨p.toArray⟩⟩), 0)
def syncR (D : DiskR) (n : ByteArray) : DiskR × Int :=
  if thereE D n ≠ 0 then (D, thereE D n) else (changedR D (withR D.l ⟨n, (fileR D n).all, .empty⟩), 0)
def cutR (D : DiskR) (n : ByteArray) (k : Int) : DiskR × Int :=
  if thereE D n ≠ 0 then (D, thereE D n) else if k < 0 ∨ (fileR D n).all.size < k then (D, 1) else (changedR D (withR D.l ⟨n, (fileR D n).all.extract 0 k.toNat, .empty⟩), 0)
def renameR (D : DiskR) (n m : ByteArray) : DiskR × Int :=
  if readyE D n ≠ 0 then (D, readyE D n) else if readyE D m ≠ 0 then (D, readyE D m) else if thereE D n ≠ 0 then (D, thereE D n)
  else if 0 < (fileR D n).tail.size then (D, 7) else (changedR D (withR (withoutR D.l n) ⟨m, (fileR D n).safe, .empty⟩), 0)
def removeR (D : DiskR) (n : ByteArray) : DiskR × Int := if thereE D n ≠ 0 then (D, thereE D n) else (changedR D (withoutR D.l n), 0)
def readR (D : DiskR) (n : ByteArray) : ByteArray × Int := if thereE D n ≠ 0 then (.empty, thereE D n) else ((fileR D n).all, 0)
def limitR (D : DiskR) (k : Int) : DiskR × Int := if k < 0 ∨ 1048576 < k then (D, 1) else (⟨k, D.l, D.left, D.down⟩, 0)
def armR (D : DiskR) (k : Int) : DiskR × Int := if D.down = true then (D, 9) else (⟨D.limit, D.l, if k < 0 then -1 else k, decide (k = 0)⟩, 0)
/-- how much of a tail is kept -/
def keptN (keep : List Int) (i : Nat) (f : FileR) : Nat := match keep[i]? with | some k => if 0 < k then min k.toNat f.tail.size else 0 | none => 0
def crashF (keep : List Int) (i : Nat) (f : FileR) : FileR := ⟨f.name, f.safe ++ f.tail.extract 0 (keptN keep i f), .empty⟩
def crashR (D : DiskR) (keep : List Int) : DiskR := ⟨D.limit, D.l.mapIdx fun i f => crashF keep i f, -1, false⟩
/-- what holds of each disk -/
structure InvD (D : DiskR) : Prop where
  sort : SortedR D.l
  len : D.l.length ≤ 64
  used : usedR D.l ≤ 1048576
  limit : 0 ≤ D.limit ∧ D.limit ≤ 1048576
  left : -1 ≤ D.left ∧ D.left ≤ 9223372036854775807
end Go.Proofs.Ytdjgmhifocdelaa
