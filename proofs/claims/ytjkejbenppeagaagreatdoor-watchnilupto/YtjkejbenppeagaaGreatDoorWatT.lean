/- Texts of numbers and of ids. -/
import Derived.Test.YtjkejbenppeagaaGreatDoorItoaW
import Derived.Test.YtjkejbenppeagaaGreatDoorMsgId
namespace Go.Proofs.YtjkejbenppeagaaGreatDoor
open Go Go.Vm
attribute [local irreducible] Brn Ob Grow CallsM inR LoopVC LoopVC0 Mem.row Mem.cells Mem.setCells Mem.upd Go.Vm.Own AppVC SrcVC StrVC NextVC New SrcOk subA NewSl Mem.textAt Mem.mapAt Mem.iterAt entryOf kfind Wr NewEls Elems
set_option maxRecDepth 10000
variable {M : Mem}
theorem decLen : ∀ (k u : Nat), u < 10 ^ (k + 1) → (Lib.decDigits u).length ≤ k + 1
  | 0, u, h => by rw [Lib.decDigits, dif_pos (by simpa using h)]; simp
  | k + 1, u, h => by
    rw [Lib.decDigits]
    split
    · simp
    · have := decLen k (u / 10) (by rw [Nat.div_lt_iff_lt_mul (by decide)]; rw [Nat.pow_succ] at h; exact h)
      simp; omega
theorem dS_size {n : Int} (h : -9223372036854775808 ≤ n ∧ n ≤ 9223372036854775807) : (dS n).size ≤ 20 := by
  have : (dS n).size = (Lib.itoa n).length := by unfold dS; simp [ByteArray.size]
  rw [this]
  unfold Lib.itoa
  split
  · have := decLen 18 n.natAbs (by have : n.natAbs ≤ 9223372036854775808 := by omega
                                   exact Nat.lt_of_le_of_lt this (by decide))
    simp; omega
  · have := decLen 18 n.toNat (by have : n.toNat ≤ 9223372036854775808 := by omega
                                  exact Nat.lt_of_le_of_lt this (by decide))
    omega
/-- a digit as a text of one letter, in new memory -/
theorem chr_mem {Mc : Mem} {b : Nat} (hb : Mc b = none) {x : Int} (h : 0 ≤ x ∧ x ≤ 9) : Mc.le (Mc.setCells b T.uint8 [.int .u8 (IntKind.u8.wrap (48 + x))]) ∧
    SrcOk (Mc.setCells b T.uint8 [.int .u8 (IntKind.u8.wrap (48 + x))]) 1 (some ⟨b, 0, none⟩) 1 ([UInt8.ofNat (48 + x.toNat)].map byteV) := by
  have e : Value.int .u8 (IntKind.u8.wrap (48 + x)) = byteV (UInt8.ofNat (48 + x.toNat)) := by
    have e0 : IntKind.u8.wrap (48 + x) = 48 + x := by
      simp [IntKind.wrap, IntKind.signed, IntKind.bits]; omega
    rw [e0, byteV]
    congr 1
    simp
    omega
  rw [e]
  exact ⟨Mem.le_setCells hb, SrcOk.lit rfl⟩
theorem tmod_d {u : Int} (h : 0 ≤ u) : 0 ≤ u.tmod 10 ∧ u.tmod 10 ≤ 9 ∧ (u.tmod 10).toNat = u.toNat % 10 ∧ u.tdiv 10 = u / 10 := by
  rw [Int.tmod_eq_emod_of_nonneg h, Int.tdiv_eq_ediv_of_nonneg h]; omega
theorem dS_neg {m : Int} (h : 0 < m) : dS (-m) = ⟨#[45]⟩ ++ dS m := by
  unfold dS Lib.itoa
  rw [if_pos (by omega), if_neg (by omega), show (-m).natAbs = m.toNat by omega]
  apply ByteArray.ext; simp
theorem dS_big {m : Int} (h : 10 ≤ m) : dS m = dS (m / 10) ++ dS (m % 10) := by
  unfold dS Lib.itoa
  rw [if_neg (by omega), if_neg (by omega), if_neg (by omega), Lib.decDigits, dif_neg (by omega), Lib.decDigits.eq_def (m % 10).toNat, dif_pos (by omega), show (m / 10).toNat = m.toNat / 10 by omega, show (m % 10).toNat = m.toNat % 10 by omega]
  apply ByteArray.ext; simp
theorem bsz (s : ByteArray) (t : ByteArray) : (s ++ t).size = s.size + t.size := ByteArray.size_append
/-- an id's text -/
def textI (a b c d : Int) : ByteArray := dS a ++ ⟨#[62]⟩ ++ dS b ++ ⟨#[58]⟩ ++ dS c ++ ⟨#[46]⟩ ++ dS d
def textE (a b c d : Int) : ByteArray := if idErr a b c d ≠ 0 then .empty else textI a b c d
theorem text_ok (hT : TabM Tryz.prog M) (a b c d : Int) : CallsM Tryz.prog F.msg_Text [.agg #[.int .i64 a, .int .i64 b, .int .i64 c, .int .i64 d]] M fun v M' => v = .tuple #[.string (textE a b c d), .int .i64 (idErr a b c d)] ∧ M = M' := by
  refine fo_msg_Text (by simp) ?_
  repeat' ((conv => whnf); first | refine ⟨?_, True.intro⟩ | refine brn_t rfl ?_ | refine brn_f rfl ?_ | refine ob rfl ?_ | refine ob (by decide) ?_ | refine grow_same (Mem.le_refl _) ?_ | refine ob (Mem.le_refl _) ?_ | refine ⟨_, Mem.le_refl _, ?_⟩ | fail)
  refine (check_ok a b c d M).mono ?_
  rintro v _ ⟨rfl, rfl⟩
  (conv => whnf); refine brn (fun e => ?_) (fun e => ?_)
  · have e1 : idErr a b c d ≠ 0 := by simpa using e
    repeat' ((conv => whnf); first | refine ⟨?_, True.intro⟩ | refine brn_t rfl ?_ | refine brn_f rfl ?_ | refine ob rfl ?_ | refine ob (by decide) ?_ | refine grow_same (Mem.le_refl _) ?_ | refine ob (Mem.le_refl _) ?_ | refine ⟨_, Mem.le_refl _, ?_⟩ | fail)
    rw [textE, if_pos e1]
    exact ⟨rfl, rfl⟩
  have e1 : idErr a b c d = 0 := by simpa using e
  have hr : (0 ≤ a ∧ a ≤ 63) ∧ (0 ≤ b ∧ b ≤ 63) ∧ (1 ≤ c ∧ c ≤ 65535) ∧ (1 ≤ d ∧ d ≤ 65535) := by
    unfold idErr at e1
    split at e1
    · assumption
    · cases e1
  have s1 := dS_size (n := a) (by omega)
  have s2 := dS_size (n := b) (by omega)
  have s3 := dS_size (n := c) (by omega)
  have s4 := dS_size (n := d) (by omega)
  repeat' ((conv => whnf); first | refine ⟨?_, True.intro⟩ | refine brn_t rfl ?_ | refine brn_f rfl ?_ | refine ob rfl ?_ | refine ob (by decide) ?_ | refine grow_same (Mem.le_refl _) ?_ | refine ob (Mem.le_refl _) ?_ | refine ⟨_, Mem.le_refl _, ?_⟩ | fail)
  refine (itoa_okW hT (n := a) (by omega)).mono ?_
  rintro v _ ⟨rfl, rfl⟩
  have z1 : (dS a ++ ⟨#[62]⟩).size ≤ 21 := by rw [bsz]; show _ + (1 : Nat) ≤ _; omega
  have z2 : (dS a ++ ⟨#[62]⟩ ++ dS b).size ≤ 41 := by rw [bsz]; omega
  have z3 : (dS a ++ ⟨#[62]⟩ ++ dS b ++ ⟨#[58]⟩).size ≤ 42 := by rw [bsz]; show _ + (1 : Nat) ≤ _; omega
  have z4 : (dS a ++ ⟨#[62]⟩ ++ dS b ++ ⟨#[58]⟩ ++ dS c).size ≤ 62 := by rw [bsz]; omega
  have z5 : (dS a ++ ⟨#[62]⟩ ++ dS b ++ ⟨#[58]⟩ ++ dS c ++ ⟨#[46]⟩).size ≤ 63 := by rw [bsz]; show _ + (1 : Nat) ≤ _; omega
  have z6 : (dS a ++ ⟨#[62]⟩ ++ dS b ++ ⟨#[58]⟩ ++ dS c ++ ⟨#[46]⟩ ++ dS d).size ≤ 83 := by rw [bsz]; omega
  rw [bsz] at z1 z2 z3 z4 z5 z6
  (conv => whnf); refine ob rfl ?_
  (conv => whnf); refine grow_same (Mem.le_refl _) ?_
  (conv => whnf); refine ob (Nat.le_trans z1 (show _ ≤ 9223372036854775807 by decide)) ?_
  repeat' ((conv => whnf); first | refine ⟨?_, True.intro⟩ | refine brn_t rfl ?_ | refine brn_f rfl ?_ | refine ob rfl ?_ | refine ob (by decide) ?_ | refine grow_same (Mem.le_refl _) ?_ | refine ob (Mem.le_refl _) ?_ | refine ⟨_, Mem.le_refl _, ?_⟩ | fail)
  refine (itoa_okW hT (n := b) (by omega)).mono ?_
  rintro v _ ⟨rfl, rfl⟩
  (conv => whnf); refine ob rfl ?_
  (conv => whnf); refine grow_same (Mem.le_refl _) ?_
  (conv => whnf); refine ob (Nat.le_trans z2 (show _ ≤ 9223372036854775807 by decide)) ?_
  (conv => whnf); refine ob (Nat.le_trans z3 (show _ ≤ 9223372036854775807 by decide)) ?_
  repeat' ((conv => whnf); first | refine ⟨?_, True.intro⟩ | refine brn_t rfl ?_ | refine brn_f rfl ?_ | refine ob rfl ?_ | refine ob (by decide) ?_ | refine grow_same (Mem.le_refl _) ?_ | refine ob (Mem.le_refl _) ?_ | refine ⟨_, Mem.le_refl _, ?_⟩ | fail)
  refine (itoa_okW hT (n := c) (by omega)).mono ?_
  rintro v _ ⟨rfl, rfl⟩
  (conv => whnf); refine ob rfl ?_
  (conv => whnf); refine grow_same (Mem.le_refl _) ?_
  (conv => whnf); refine ob (Nat.le_trans z4 (show _ ≤ 9223372036854775807 by decide)) ?_
  (conv => whnf); refine ob (Nat.le_trans z5 (show _ ≤ 9223372036854775807 by decide)) ?_
  repeat' ((conv => whnf); first | refine ⟨?_, True.intro⟩ | refine brn_t rfl ?_ | refine brn_f rfl ?_ | refine ob rfl ?_ | refine ob (by decide) ?_ | refine grow_same (Mem.le_refl _) ?_ | refine ob (Mem.le_refl _) ?_ | refine ⟨_, Mem.le_refl _, ?_⟩ | fail)
  refine (itoa_okW hT (n := d) (by omega)).mono ?_
  rintro v _ ⟨rfl, rfl⟩
  (conv => whnf); refine ob (Nat.le_trans z6 (show _ ≤ 9223372036854775807 by decide)) ?_
  repeat' ((conv => whnf); first | refine ⟨?_, True.intro⟩ | refine brn_t rfl ?_ | refine brn_f rfl ?_ | refine ob rfl ?_ | refine ob (by decide) ?_ | refine grow_same (Mem.le_refl _) ?_ | refine ob (Mem.le_refl _) ?_ | refine ⟨_, Mem.le_refl _, ?_⟩ | fail)
  rw [textE, if_neg (by simp [e1]), e1]
  exact ⟨rfl, rfl⟩
end Go.Proofs.YtjkejbenppeagaaGreatDoor
