/- Texts of numbers and of ids. -/
import Derived.Test.YtphioaaifcmeaaaDoorItoaW
import Derived.Test.YtphioaaifcmeaaaDoorMsgId
namespace Go.Proofs.YtphioaaifcmeaaaDoor
open Go Go.Vm
attribute [local irreducible] Brn Ob Grow CallsM inR LoopVC LoopVC0 Mem.row Mem.cells Mem.setCells Mem.upd Go.Vm.Own AppVC SrcVC StrVC NextVC New SrcOk subA NewSl Mem.textAt Mem.mapAt Mem.iterAt entryOf kfind Wr NewEls Elems
set_option maxRecDepth 10000
variable {M : Mem}
theorem decLen : ∀ (k u : Nat), u < 10 ^ (k + 1) → (Lib.decDigits u).length ≤ k + 1
  | 0, u, h => by rw [Lib.decDigits, dif_pos (by simpa using h)]; simp
  | k + 1, u, h => by
    rw [Lib.decDigits]
    split
    · simp
    · have := decLen k (u / 10) (by rw [Nat.div_lt_iff_lt_mul (by decide)]; rw [Nat.pow_succ] at h; exact h)
      simp; omega
theorem dS_size {n : Int} (h : -9223372036854775808 ≤ n ∧ n ≤ 9223372036854775807) : (dS n).size ≤ 20 := by
  have : (dS n).size = (Lib.itoa n).length := by unfold dS; simp [ByteArray.size]
  rw [this]
  unfold Lib.itoa
  split
  · have := decLen 18 n.natAbs (by have : n.natAbs ≤ 9223372036854775808 := by omega
                                   exact Nat.lt_of_le_of_lt this (by decide))
    simp; omega
  · have := decLen 18 n.toNat (by have : n.toNat ≤ 9223372036854775808 := by omega
                                  exact Nat.lt_of_le_of_lt this (by decide))
    omega
/-- a digit as a text of one letter, in new memory -/
theorem chr_mem {Mc : Mem} {b : Nat} (hb : Mc b = none) {x : Int} (h : 0 ≤ x ∧ x ≤ 9) : Mc.le (Mc.setCells b T.uint8 [.int .u8 (IntKind.u8.wrap (48 + x))]) ∧
    SrcOk (Mc.setCells b T.uint8 [.int .u8 (IntKind.u8.wrap (48 + x))]) 1 (some ⟨b, 0, none⟩) 1 ([UInt8.ofNat (48 + x.toNat)].map byteV) := by
  have e : Value.int .u8 (IntKind.u8.wrap (48 + x)) = byteV (UInt8.ofNat (48 + x.toNat)) := by
    have e0 : IntKind.u8.wrap (48 + x) = 48 + x := by
      simp [IntKind.wrap, IntKind.signed, IntKind.bits]; omega
    rw [e0, byteV]
    congr 1
    simp
    omega
  rw [e]
  exact ⟨Mem.le_setCells hb, SrcOk.lit rfl⟩
theorem tmod_d {u : Int} (h : 0 ≤ u) : 0 ≤ u.tmod 10 ∧ u.tmod 10 ≤ 9 ∧ (u.tmod 10).toNat = u.toNat % 10 ∧ u.tdiv 10 = u / 10 := by
  rw [Int.tmod_eq_emod_of_nonneg h, Int.tdiv_eq_ediv_of_nonneg h]; omega
theorem digits_ok {n : Int} (h : 0 ≤ n ∧ n ≤ 9223372036854775807) : CallsM Tryd.prog F.ref13_Digits [.int .i64 n] M fun v M' => v = .string (dS n) ∧ M.le M' := by
  refine fo_ref13_Digits (by simp) ?_
  (conv => whnf)
  refine loopF (σ := Int × ByteArray × Mem) [0, 3] (fun y => [(0, .int .i64 y.1), (3, .c (.v (.string y.2.1)))]) (fun _ => []) (fun y => y.2.2)
    (fun | ⟨u, s, Mc⟩ => 0 ≤ u ∧ u ≤ n ∧ (∃ l : List UInt8, s = ⟨l.toArray⟩ ∧ Lib.decDigits n.toNat = Lib.decDigits u.toNat ++ l) ∧ M.le Mc) (fun y => y.1.toNat) ⟨n, ByteArray.empty, M⟩ ⟨h.1, by omega, ⟨[], rfl, by simp⟩, Mem.le_refl _⟩ ⟨(by repeat' first | exact True.intro | refine ⟨rfl, ?_⟩), (by repeat' first | exact True.intro | refine ⟨rfl, ?_⟩), Mem.le_refl _, rfl⟩ ?_
  rintro ⟨u, s, Mc⟩ ⟨hu0, hu, ⟨l, rfl, hd⟩, hle⟩
  have hlen := congrArg List.length hd
  rw [List.length_append] at hlen
  have hmax := decLen 18 n.toNat (by have : n.toNat ≤ 9223372036854775808 := by omega
                                     exact Nat.lt_of_le_of_lt this (by decide))
  have hsz : (⟨l.toArray⟩ : ByteArray).size = l.length := by simp [ByteArray.size]
  (conv => whnf); refine brn (fun e => ?_) (fun e => ?_)
  · have e1 : 9 < u := of_decide_eq_true e
    obtain ⟨hm1, hm2, hm3, hm4⟩ := tmod_d hu0
    repeat' ((conv => whnf); first | refine ⟨?_, True.intro⟩ | refine brn_t rfl ?_ | refine brn_f rfl ?_ | refine ob rfl ?_ | refine ob (by decide) ?_ | refine grow_same (Mem.le_refl _) ?_ | refine ob (Mem.le_refl _) ?_ | refine ⟨_, Mem.le_refl _, ?_⟩ | fail)
    refine ob (inR_i64 (by first | omega | (dsimp only; omega))) ?_
    (conv => whnf); refine new (fun b hb => ?_)
    replace hb : Mc b = none := hb
    obtain ⟨hle2, hs2⟩ := chr_mem hb (x := u.tmod 10) (by omega)
    obtain ⟨M2, hM2⟩ : ∃ M2, M2 = Mc.setCells b T.uint8 [.int .u8 (IntKind.u8.wrap (48 + u.tmod 10))] := ⟨_, rfl⟩
    rw [← hM2] at hle2 hs2
    (conv => whnf)
    erw [← hM2]
    refine strv hs2 ?_
    (conv => whnf); refine ob (by show (1 : Nat) + _ ≤ _; rw [hsz]; omega) ?_
    repeat' ((conv => whnf); first | refine ⟨?_, True.intro⟩ | refine brn_t rfl ?_ | refine brn_f rfl ?_ | refine ob rfl ?_ | refine ob (by decide) ?_ | refine grow_same (Mem.le_refl _) ?_ | refine ob (Mem.le_refl _) ?_ | refine ⟨_, Mem.le_refl _, ?_⟩ | fail)
    refine ob (inR_i64 (by dsimp only; rw [hm4]; omega)) ?_
    (conv => whnf)
    refine ⟨⟨u.tdiv 10, ⟨#[UInt8.ofNat (48 + (u.tmod 10).toNat)]⟩ ++ ⟨l.toArray⟩, M2⟩, ⟨by rw [hm4]; omega, by rw [hm4]; omega, ⟨UInt8.ofNat (48 + (u.tmod 10).toNat) :: l, ?_, ?_⟩, Mem.le_trans hle hle2⟩, by dsimp only; rw [hm4]; omega, ⟨(by repeat' first | exact True.intro | refine ⟨rfl, ?_⟩), (by repeat' first | exact True.intro | refine ⟨rfl, ?_⟩), Mem.le_refl _, rfl⟩⟩
    · apply ByteArray.ext; simp
    · rw [hd, Lib.decDigits, dif_neg (by omega), hm4, hm3, show (u / 10).toNat = u.toNat / 10 by omega]; simp
  · have e1 : ¬ 9 < u := of_decide_eq_false e
    repeat' ((conv => whnf); first | refine ⟨?_, True.intro⟩ | refine brn_t rfl ?_ | refine brn_f rfl ?_ | refine ob rfl ?_ | refine ob (by decide) ?_ | refine grow_same (Mem.le_refl _) ?_ | refine ob (Mem.le_refl _) ?_ | refine ⟨_, Mem.le_refl _, ?_⟩ | fail)
    refine ob (inR_i64 (by first | omega | (dsimp only; omega))) ?_
    (conv => whnf); refine new (fun b hb => ?_)
    replace hb : Mc b = none := hb
    obtain ⟨hle2, hs2⟩ := chr_mem hb (x := u) (by omega)
    obtain ⟨M2, hM2⟩ : ∃ M2, M2 = Mc.setCells b T.uint8 [.int .u8 (IntKind.u8.wrap (48 + u))] := ⟨_, rfl⟩
    rw [← hM2] at hle2 hs2
    (conv => whnf)
    erw [← hM2]
    refine strv hs2 ?_
    (conv => whnf); refine ob (by show (1 : Nat) + _ ≤ _; rw [hsz]; omega) ?_
    repeat' ((conv => whnf); first | refine ⟨?_, True.intro⟩ | refine brn_t rfl ?_ | refine brn_f rfl ?_ | refine ob rfl ?_ | refine ob (by decide) ?_ | refine grow_same (Mem.le_refl _) ?_ | refine ob (Mem.le_refl _) ?_ | refine ⟨_, Mem.le_refl _, ?_⟩ | fail)
    refine ⟨?_, Mem.le_trans hle hle2⟩
    congr 1
    rw [dS, Lib.itoa, if_neg (by omega), hd, Lib.decDigits, dif_pos (by omega)]
    rfl
theorem dS_neg {m : Int} (h : 0 < m) : dS (-m) = ⟨#[45]⟩ ++ dS m := by
  unfold dS Lib.itoa
  rw [if_pos (by omega), if_neg (by omega), show (-m).natAbs = m.toNat by omega]
  apply ByteArray.ext; simp
theorem dS_big {m : Int} (h : 10 ≤ m) : dS m = dS (m / 10) ++ dS (m % 10) := by
  unfold dS Lib.itoa
  rw [if_neg (by omega), if_neg (by omega), if_neg (by omega), Lib.decDigits, dif_neg (by omega), Lib.decDigits.eq_def (m % 10).toNat, dif_pos (by omega), show (m / 10).toNat = m.toNat / 10 by omega, show (m % 10).toNat = m.toNat % 10 by omega]
  apply ByteArray.ext; simp
theorem number_ok {n : Int} (h : -9223372036854775808 ≤ n ∧ n ≤ 9223372036854775807) : CallsM Tryd.prog F.ref24_number [.int .i64 n] M fun v M' => v = .string (dS n) ∧ M.le M' := by
  refine fo_ref24_number (by simp) ?_
  (conv => whnf); refine brn (fun e => ?_) (fun e => ?_)
  · have e1 : 0 ≤ n := of_decide_eq_true e
    repeat' ((conv => whnf); first | refine ⟨?_, True.intro⟩ | refine brn_t rfl ?_ | refine brn_f rfl ?_ | refine ob rfl ?_ | refine ob (by decide) ?_ | refine grow_same (Mem.le_refl _) ?_ | refine ob (Mem.le_refl _) ?_ | refine ⟨_, Mem.le_refl _, ?_⟩ | fail)
    refine (digits_ok (by omega)).mono ?_
    rintro v M1 ⟨rfl, hle1⟩
    repeat' ((conv => whnf); first | refine ⟨?_, True.intro⟩ | refine brn_t rfl ?_ | refine brn_f rfl ?_ | refine ob rfl ?_ | refine ob (by decide) ?_ | refine grow_same (Mem.le_refl _) ?_ | refine ob (Mem.le_refl _) ?_ | refine ⟨_, Mem.le_refl _, ?_⟩ | fail)
    exact ⟨rfl, hle1⟩
  have e1 : ¬ 0 ≤ n := of_decide_eq_false e
  obtain ⟨m, rfl⟩ : ∃ m, n = -m := ⟨-n, by omega⟩
  have hm1 : (-m).tmod 10 = -(m % 10) := by rw [Int.neg_tmod, Int.tmod_eq_emod_of_nonneg (by omega)]
  have hm2 : (-m).tdiv 10 = -(m / 10) := by rw [Int.neg_tdiv, Int.tdiv_eq_ediv_of_nonneg (by omega)]
  clear e
  repeat' ((conv => whnf); first | refine ⟨?_, True.intro⟩ | refine brn_t rfl ?_ | refine brn_f rfl ?_ | refine ob rfl ?_ | refine ob (by decide) ?_ | refine grow_same (Mem.le_refl _) ?_ | refine ob (Mem.le_refl _) ?_ | refine ⟨_, Mem.le_refl _, ?_⟩ | fail)
  refine ob (inR_i64 (by rw [hm1]; omega)) ?_
  (conv => whnf); refine brn (fun e => ?_) (fun e => ?_)
  · have e2 : m < 10 := by have := of_decide_eq_true e; omega
    repeat' ((conv => whnf); first | refine ⟨?_, True.intro⟩ | refine brn_t rfl ?_ | refine brn_f rfl ?_ | refine ob rfl ?_ | refine ob (by decide) ?_ | refine grow_same (Mem.le_refl _) ?_ | refine ob (Mem.le_refl _) ?_ | refine ⟨_, Mem.le_refl _, ?_⟩ | fail)
    rw [hm1]
    refine (digits_ok (by omega)).mono ?_
    rintro v M1 ⟨rfl, hle1⟩
    have hsz := dS_size (n := 0 - -(m % 10)) (by omega)
    (conv => whnf); refine ob (by show (1 : Nat) + _ ≤ _; omega) ?_
    repeat' ((conv => whnf); first | refine ⟨?_, True.intro⟩ | refine brn_t rfl ?_ | refine brn_f rfl ?_ | refine ob rfl ?_ | refine ob (by decide) ?_ | refine grow_same (Mem.le_refl _) ?_ | refine ob (Mem.le_refl _) ?_ | refine ⟨_, Mem.le_refl _, ?_⟩ | fail)
    refine ⟨?_, hle1⟩
    rw [dS_neg (by omega), show 0 - -(m % 10) = m by omega]
  · have e2 : ¬ m < 10 := by have := of_decide_eq_false e; omega
    repeat' ((conv => whnf); first | refine ⟨?_, True.intro⟩ | refine brn_t rfl ?_ | refine brn_f rfl ?_ | refine ob rfl ?_ | refine ob (by decide) ?_ | refine grow_same (Mem.le_refl _) ?_ | refine ob (Mem.le_refl _) ?_ | refine ⟨_, Mem.le_refl _, ?_⟩ | fail)
    refine ob (inR_i64 (by rw [hm2]; omega)) ?_
    (conv => whnf); refine ob (inR_i64 (by rw [hm2]; omega)) ?_
    repeat' ((conv => whnf); first | refine ⟨?_, True.intro⟩ | refine brn_t rfl ?_ | refine brn_f rfl ?_ | refine ob rfl ?_ | refine ob (by decide) ?_ | refine grow_same (Mem.le_refl _) ?_ | refine ob (Mem.le_refl _) ?_ | refine ⟨_, Mem.le_refl _, ?_⟩ | fail)
    rw [hm2]
    refine (digits_ok (n := 0 - -(m / 10)) (by omega)).mono ?_
    rintro v M1 ⟨rfl, hle1⟩
    have hsz := dS_size (n := 0 - -(m / 10)) (by omega)
    (conv => whnf); refine ob (by show (1 : Nat) + _ ≤ _; omega) ?_
    repeat' ((conv => whnf); first | refine ⟨?_, True.intro⟩ | refine brn_t rfl ?_ | refine brn_f rfl ?_ | refine ob rfl ?_ | refine ob (by decide) ?_ | refine grow_same (Mem.le_refl _) ?_ | refine ob (Mem.le_refl _) ?_ | refine ⟨_, Mem.le_refl _, ?_⟩ | fail)
    rw [hm1]
    refine (digits_ok (n := 0 - -(m % 10)) (by omega)).mono ?_
    rintro v M2 ⟨rfl, hle2⟩
    have hsz2 := dS_size (n := 0 - -(m % 10)) (by omega)
    (conv => whnf); refine ob (by rw [ByteArray.size_append]; exact Nat.le_trans (Nat.add_le_add (Nat.add_le_add (Nat.le_refl 1) hsz) hsz2) (by decide)) ?_
    repeat' ((conv => whnf); first | refine ⟨?_, True.intro⟩ | refine brn_t rfl ?_ | refine brn_f rfl ?_ | refine ob rfl ?_ | refine ob (by decide) ?_ | refine grow_same (Mem.le_refl _) ?_ | refine ob (Mem.le_refl _) ?_ | refine ⟨_, Mem.le_refl _, ?_⟩ | fail)
    refine ⟨?_, Mem.le_trans hle1 hle2⟩
    rw [dS_neg (by omega), dS_big (m := m) (by omega), show 0 - -(m / 10) = m / 10 by omega, show 0 - -(m % 10) = m % 10 by omega, ByteArray.append_assoc]
theorem bsz (s : ByteArray) (t : ByteArray) : (s ++ t).size = s.size + t.size := ByteArray.size_append
/-- an id's text -/
def textI (a b c d : Int) : ByteArray := dS a ++ ⟨#[62]⟩ ++ dS b ++ ⟨#[58]⟩ ++ dS c ++ ⟨#[46]⟩ ++ dS d
def textE (a b c d : Int) : ByteArray := if idErr a b c d ≠ 0 then .empty else textI a b c d
theorem text_ok (hT : TabM Tryd.prog M) (a b c d : Int) : CallsM Tryd.prog F.msg_Text [.agg #[.int .i64 a, .int .i64 b, .int .i64 c, .int .i64 d]] M fun v M' => v = .tuple #[.string (textE a b c d), .int .i64 (idErr a b c d)] ∧ M = M' := by
  refine fo_msg_Text (by simp) ?_
  repeat' ((conv => whnf); first | refine ⟨?_, True.intro⟩ | refine brn_t rfl ?_ | refine brn_f rfl ?_ | refine ob rfl ?_ | refine ob (by decide) ?_ | refine grow_same (Mem.le_refl _) ?_ | refine ob (Mem.le_refl _) ?_ | refine ⟨_, Mem.le_refl _, ?_⟩ | fail)
  refine (check_ok a b c d M).mono ?_
  rintro v _ ⟨rfl, rfl⟩
  (conv => whnf); refine brn (fun e => ?_) (fun e => ?_)
  · have e1 : idErr a b c d ≠ 0 := by simpa using e
    repeat' ((conv => whnf); first | refine ⟨?_, True.intro⟩ | refine brn_t rfl ?_ | refine brn_f rfl ?_ | refine ob rfl ?_ | refine ob (by decide) ?_ | refine grow_same (Mem.le_refl _) ?_ | refine ob (Mem.le_refl _) ?_ | refine ⟨_, Mem.le_refl _, ?_⟩ | fail)
    rw [textE, if_pos e1]
    exact ⟨rfl, rfl⟩
  have e1 : idErr a b c d = 0 := by simpa using e
  have hr : (0 ≤ a ∧ a ≤ 63) ∧ (0 ≤ b ∧ b ≤ 63) ∧ (1 ≤ c ∧ c ≤ 65535) ∧ (1 ≤ d ∧ d ≤ 65535) := by
    unfold idErr at e1
    split at e1
    · assumption
    · cases e1
  have s1 := dS_size (n := a) (by omega)
  have s2 := dS_size (n := b) (by omega)
  have s3 := dS_size (n := c) (by omega)
  have s4 := dS_size (n := d) (by omega)
  repeat' ((conv => whnf); first | refine ⟨?_, True.intro⟩ | refine brn_t rfl ?_ | refine brn_f rfl ?_ | refine ob rfl ?_ | refine ob (by decide) ?_ | refine grow_same (Mem.le_refl _) ?_ | refine ob (Mem.le_refl _) ?_ | refine ⟨_, Mem.le_refl _, ?_⟩ | fail)
  refine (itoa_okW hT (n := a) (by omega)).mono ?_
  rintro v _ ⟨rfl, rfl⟩
  have z1 : (dS a ++ ⟨#[62]⟩).size ≤ 21 := by rw [bsz]; show _ + (1 : Nat) ≤ _; omega
  have z2 : (dS a ++ ⟨#[62]⟩ ++ dS b).size ≤ 41 := by rw [bsz]; omega
  have z3 : (dS a ++ ⟨#[62]⟩ ++ dS b ++ ⟨#[58]⟩).size ≤ 42 := by rw [bsz]; show _ + (1 : Nat) ≤ _; omega
  have z4 : (dS a ++ ⟨#[62]⟩ ++ dS b ++ ⟨#[58]⟩ ++ dS c).size ≤ 62 := by rw [bsz]; omega
  have z5 : (dS a ++ ⟨#[62]⟩ ++ dS b ++ ⟨#[58]⟩ ++ dS c ++ ⟨#[46]⟩).size ≤ 63 := by rw [bsz]; show _ + (1 : Nat) ≤ _; omega
  have z6 : (dS a ++ ⟨#[62]⟩ ++ dS b ++ ⟨#[58]⟩ ++ dS c ++ ⟨#[46]⟩ ++ dS d).size ≤ 83 := by rw [bsz]; omega
  rw [bsz] at z1 z2 z3 z4 z5 z6
  (conv => whnf); refine ob rfl ?_
  (conv => whnf); refine grow_same (Mem.le_refl _) ?_
  (conv => whnf); refine ob (Nat.le_trans z1 (show _ ≤ 9223372036854775807 by decide)) ?_
  repeat' ((conv => whnf); first | refine ⟨?_, True.intro⟩ | refine brn_t rfl ?_ | refine brn_f rfl ?_ | refine ob rfl ?_ | refine ob (by decide) ?_ | refine grow_same (Mem.le_refl _) ?_ | refine ob (Mem.le_refl _) ?_ | refine ⟨_, Mem.le_refl _, ?_⟩ | fail)
  refine (itoa_okW hT (n := b) (by omega)).mono ?_
  rintro v _ ⟨rfl, rfl⟩
  (conv => whnf); refine ob rfl ?_
  (conv => whnf); refine grow_same (Mem.le_refl _) ?_
  (conv => whnf); refine ob (Nat.le_trans z2 (show _ ≤ 9223372036854775807 by decide)) ?_
  (conv => whnf); refine ob (Nat.le_trans z3 (show _ ≤ 9223372036854775807 by decide)) ?_
  repeat' ((conv => whnf); first | refine ⟨?_, True.intro⟩ | refine brn_t rfl ?_ | refine brn_f rfl ?_ | refine ob rfl ?_ | refine ob (by decide) ?_ | refine grow_same (Mem.le_refl _) ?_ | refine ob (Mem.le_refl _) ?_ | refine ⟨_, Mem.le_refl _, ?_⟩ | fail)
  refine (itoa_okW hT (n := c) (by omega)).mono ?_
  rintro v _ ⟨rfl, rfl⟩
  (conv => whnf); refine ob rfl ?_
  (conv => whnf); refine grow_same (Mem.le_refl _) ?_
  (conv => whnf); refine ob (Nat.le_trans z4 (show _ ≤ 9223372036854775807 by decide)) ?_
  (conv => whnf); refine ob (Nat.le_trans z5 (show _ ≤ 9223372036854775807 by decide)) ?_
  repeat' ((conv => whnf); first | refine ⟨?_, True.intro⟩ | refine brn_t rfl ?_ | refine brn_f rfl ?_ | refine ob rfl ?_ | refine ob (by decide) ?_ | refine grow_same (Mem.le_refl _) ?_ | refine ob (Mem.le_refl _) ?_ | refine ⟨_, Mem.le_refl _, ?_⟩ | fail)
  refine (itoa_okW hT (n := d) (by omega)).mono ?_
  rintro v _ ⟨rfl, rfl⟩
  (conv => whnf); refine ob (Nat.le_trans z6 (show _ ≤ 9223372036854775807 by decide)) ?_
  repeat' ((conv => whnf); first | refine ⟨?_, True.intro⟩ | refine brn_t rfl ?_ | refine brn_f rfl ?_ | refine ob rfl ?_ | refine ob (by decide) ?_ | refine grow_same (Mem.le_refl _) ?_ | refine ob (Mem.le_refl _) ?_ | refine ⟨_, Mem.le_refl _, ?_⟩ | fail)
  rw [textE, if_neg (by simp [e1]), e1]
  exact ⟨rfl, rfl⟩
theorem textR_ok (a b c d : Int) : CallsM Tryd.prog F.ref13_Text [.agg #[.int .i64 a, .int .i64 b, .int .i64 c, .int .i64 d]] M fun v M' => v = .tuple #[.string (textE a b c d), .int .i64 (idErr a b c d)] ∧ M.le M' := by
  refine fo_ref13_Text (by simp) ?_
  repeat' ((conv => whnf); first | refine ⟨?_, True.intro⟩ | refine brn_t rfl ?_ | refine brn_f rfl ?_ | refine ob rfl ?_ | refine ob (by decide) ?_ | refine grow_same (Mem.le_refl _) ?_ | refine ob (Mem.le_refl _) ?_ | refine ⟨_, Mem.le_refl _, ?_⟩ | fail)
  refine (checkR_ok a b c d M).mono ?_
  rintro v _ ⟨rfl, rfl⟩
  (conv => whnf); refine brn (fun e => ?_) (fun e => ?_)
  · have e1 : idErr a b c d ≠ 0 := by simpa using e
    repeat' ((conv => whnf); first | refine ⟨?_, True.intro⟩ | refine brn_t rfl ?_ | refine brn_f rfl ?_ | refine ob rfl ?_ | refine ob (by decide) ?_ | refine grow_same (Mem.le_refl _) ?_ | refine ob (Mem.le_refl _) ?_ | refine ⟨_, Mem.le_refl _, ?_⟩ | fail)
    refine (checkR_ok a b c d M).mono ?_
    rintro v _ ⟨rfl, rfl⟩
    repeat' ((conv => whnf); first | refine ⟨?_, True.intro⟩ | refine brn_t rfl ?_ | refine brn_f rfl ?_ | refine ob rfl ?_ | refine ob (by decide) ?_ | refine grow_same (Mem.le_refl _) ?_ | refine ob (Mem.le_refl _) ?_ | refine ⟨_, Mem.le_refl _, ?_⟩ | fail)
    rw [textE, if_pos e1]
    exact ⟨rfl, Mem.le_refl _⟩
  have e1 : idErr a b c d = 0 := by simpa using e
  have hr : (0 ≤ a ∧ a ≤ 63) ∧ (0 ≤ b ∧ b ≤ 63) ∧ (1 ≤ c ∧ c ≤ 65535) ∧ (1 ≤ d ∧ d ≤ 65535) := by
    unfold idErr at e1
    split at e1
    · assumption
    · cases e1
  have s1 := dS_size (n := a) (by omega)
  have s2 := dS_size (n := b) (by omega)
  have s3 := dS_size (n := c) (by omega)
  have s4 := dS_size (n := d) (by omega)
  have z1 : (dS a ++ ⟨#[62]⟩).size ≤ 21 := by rw [bsz]; show _ + (1 : Nat) ≤ _; omega
  have z2 : (dS a ++ ⟨#[62]⟩ ++ dS b).size ≤ 41 := by rw [bsz]; omega
  have z3 : (dS a ++ ⟨#[62]⟩ ++ dS b ++ ⟨#[58]⟩).size ≤ 42 := by rw [bsz]; show _ + (1 : Nat) ≤ _; omega
  have z4 : (dS a ++ ⟨#[62]⟩ ++ dS b ++ ⟨#[58]⟩ ++ dS c).size ≤ 62 := by rw [bsz]; omega
  have z5 : (dS a ++ ⟨#[62]⟩ ++ dS b ++ ⟨#[58]⟩ ++ dS c ++ ⟨#[46]⟩).size ≤ 63 := by rw [bsz]; show _ + (1 : Nat) ≤ _; omega
  have z6 : (dS a ++ ⟨#[62]⟩ ++ dS b ++ ⟨#[58]⟩ ++ dS c ++ ⟨#[46]⟩ ++ dS d).size ≤ 83 := by rw [bsz]; omega
  rw [bsz] at z1 z2 z3 z4 z5 z6
  repeat' ((conv => whnf); first | refine ⟨?_, True.intro⟩ | refine brn_t rfl ?_ | refine brn_f rfl ?_ | refine ob rfl ?_ | refine ob (by decide) ?_ | refine grow_same (Mem.le_refl _) ?_ | refine ob (Mem.le_refl _) ?_ | refine ⟨_, Mem.le_refl _, ?_⟩ | fail)
  refine (digits_ok (n := a) (by omega)).mono ?_
  rintro v M1 ⟨rfl, hle1⟩
  (conv => whnf); refine ob rfl ?_
  (conv => whnf); refine grow_same hle1 ?_
  (conv => whnf); refine ob (Nat.le_trans z1 (show _ ≤ 9223372036854775807 by decide)) ?_
  repeat' ((conv => whnf); first | refine ⟨?_, True.intro⟩ | refine brn_t rfl ?_ | refine brn_f rfl ?_ | refine ob rfl ?_ | refine ob (by decide) ?_ | refine grow_same (Mem.le_refl _) ?_ | refine ob (Mem.le_refl _) ?_ | refine ⟨_, Mem.le_refl _, ?_⟩ | fail)
  refine (digits_ok (n := b) (by omega)).mono ?_
  rintro v M2 ⟨rfl, hle2⟩
  replace hle2 := Mem.le_trans hle1 hle2
  (conv => whnf); refine ob rfl ?_
  (conv => whnf); refine grow_same hle2 ?_
  (conv => whnf); refine ob (Nat.le_trans z2 (show _ ≤ 9223372036854775807 by decide)) ?_
  (conv => whnf); refine ob (Nat.le_trans z3 (show _ ≤ 9223372036854775807 by decide)) ?_
  repeat' ((conv => whnf); first | refine ⟨?_, True.intro⟩ | refine brn_t rfl ?_ | refine brn_f rfl ?_ | refine ob rfl ?_ | refine ob (by decide) ?_ | refine grow_same (Mem.le_refl _) ?_ | refine ob (Mem.le_refl _) ?_ | refine ⟨_, Mem.le_refl _, ?_⟩ | fail)
  refine (digits_ok (n := c) (by omega)).mono ?_
  rintro v M3 ⟨rfl, hle3⟩
  replace hle3 := Mem.le_trans hle2 hle3
  (conv => whnf); refine ob rfl ?_
  (conv => whnf); refine grow_same hle3 ?_
  (conv => whnf); refine ob (Nat.le_trans z4 (show _ ≤ 9223372036854775807 by decide)) ?_
  (conv => whnf); refine ob (Nat.le_trans z5 (show _ ≤ 9223372036854775807 by decide)) ?_
  repeat' ((conv => whnf); first | refine ⟨?_, True.intro⟩ | refine brn_t rfl ?_ | refine brn_f rfl ?_ | refine ob rfl ?_ | refine ob (by decide) ?_ | refine grow_same (Mem.le_refl _) ?_ | refine ob (Mem.le_refl _) ?_ | refine ⟨_, Mem.le_refl _, ?_⟩ | fail)
  refine (digits_ok (n := d) (by omega)).mono ?_
  rintro v M4 ⟨rfl, hle4⟩
  replace hle4 := Mem.le_trans hle3 hle4
  (conv => whnf); refine ob (Nat.le_trans z6 (show _ ≤ 9223372036854775807 by decide)) ?_
  repeat' ((conv => whnf); first | refine ⟨?_, True.intro⟩ | refine brn_t rfl ?_ | refine brn_f rfl ?_ | refine ob rfl ?_ | refine ob (by decide) ?_ | refine grow_same (Mem.le_refl _) ?_ | refine ob (Mem.le_refl _) ?_ | refine ⟨_, Mem.le_refl _, ?_⟩ | fail)
  rw [textE, if_neg (by simp [e1]), e1]
  exact ⟨rfl, hle4⟩
end Go.Proofs.YtphioaaifcmeaaaDoor
