/- The log's files: a segment's name. -/
import Derived.Test.YtnlghoenbhbfhaaCodeA
import Derived.Test.YtnlghoenbhbfhaaVmS
import Derived.Test.YtnlghoenbhbfhaaJoin11
import Derived.Test.YtnlghoenbhbfhaaJoin15
namespace Go.Proofs.Ytnlghoenbhbfhaa
open Go Go.Vm
attribute [local irreducible] Brn Ob Grow CallsM inR LoopVC Mem.row Mem.cells Mem.setCells Mem.upd Go.Vm.Own AppVC SrcVC StrVC NextVC New SrcOk subA NewSl Mem.textAt Mem.mapAt Mem.iterAt entryOf kfind Wr NewEls Elems
set_option maxRecDepth 10000
variable {M : Mem}
/-- what is left of a number behind some digits -/
def kk (k : Int) : Nat → Int
  | 0 => k
  | j + 1 => (kk k j).tdiv 10
def dgI (k : Int) (j : Nat) : Int := IntKind.u8.wrap (48 + (kk k j).tmod 10)
def dgB (k : Int) (j : Nat) : UInt8 := UInt8.ofNat (48 + (kk k j).tmod 10).toNat
theorem kk_nn {k : Int} (h : 0 ≤ k) : ∀ j, 0 ≤ kk k j
  | 0 => h
  | j + 1 => by rw [kk]; exact Int.tdiv_nonneg (kk_nn h j) (by decide)
theorem kk_le {k : Int} (h : 0 ≤ k) (h2 : k ≤ 99999) : ∀ j, kk k j ≤ 99999
  | 0 => h2
  | j + 1 => by
    have h1 := kk_nn h j
    have h3 := kk_le h h2 j
    rw [kk, Int.tdiv_eq_ediv_of_nonneg h1]; omega
theorem dg_eq {k : Int} (h : 0 ≤ k) (j : Nat) : Value.int .u8 (dgI k j) = byteV (dgB k j) := by
  have h1 := kk_nn h j
  have h2 : (kk k j).tmod 10 = kk k j % 10 := Int.tmod_eq_emod_of_nonneg h1
  have e : dgI k j = (48 + (kk k j).tmod 10) % 256 := by simp [dgI, IntKind.wrap, IntKind.signed, IntKind.bits]
  rw [e]
  simp only [byteV, dgB]
  congr 1
  rw [h2]
  simp
  omega
def nameB (k : Int) : ByteArray := if k < 1 ∨ 99999 < k then ByteArray.empty else ⟨#[119, dgB k 4, dgB k 3, dgB k 2, dgB k 1, dgB k 0]⟩
def cellN (k : Int) (i j : Nat) : Value := if j < i then .int .u8 (dgI k j) else .int .u8 0
theorem name_ok (k : Int) : CallsM Try.prog F.wal_Name [.int .i64 k] M fun v M' => v = .string (nameB k) ∧ M.le M' := by
  refine fo_wal_Name (by simp) ?_
  have hempty : (k < 1 ∨ 99999 < k) → nameB k = ByteArray.empty := fun h => by unfold nameB; rw [if_pos h]
  repeat' ((conv => whnf); first | refine ⟨?_, True.intro⟩ | refine brn_t rfl ?_ | refine brn_f rfl ?_ | refine ob rfl ?_ | refine ob (by decide) ?_ | refine grow_same (Mem.le_refl _) ?_ | refine ob (Mem.le_refl _) ?_ | refine ⟨_, Mem.le_refl _, ?_⟩ | fail)
  refine brn (fun g => ?_) (fun g => ?_)
  · repeat' ((conv => whnf); first | refine ⟨?_, True.intro⟩ | refine brn_t rfl ?_ | refine brn_f rfl ?_ | refine ob rfl ?_ | refine ob (by decide) ?_ | refine grow_same (Mem.le_refl _) ?_ | refine ob (Mem.le_refl _) ?_ | refine ⟨_, Mem.le_refl _, ?_⟩ | fail)
    exact ⟨by rw [hempty (.inl (of_decide_eq_true g))], Mem.le_refl _⟩
  have g1 : ¬ k < 1 := of_decide_eq_false g
  repeat' ((conv => whnf); first | refine ⟨?_, True.intro⟩ | refine brn_t rfl ?_ | refine brn_f rfl ?_ | refine ob rfl ?_ | refine ob (by decide) ?_ | refine grow_same (Mem.le_refl _) ?_ | refine ob (Mem.le_refl _) ?_ | refine ⟨_, Mem.le_refl _, ?_⟩ | fail)
  refine brn (fun g => ?_) (fun g => ?_)
  · repeat' ((conv => whnf); first | refine ⟨?_, True.intro⟩ | refine brn_t rfl ?_ | refine brn_f rfl ?_ | refine ob rfl ?_ | refine ob (by decide) ?_ | refine grow_same (Mem.le_refl _) ?_ | refine ob (Mem.le_refl _) ?_ | refine ⟨_, Mem.le_refl _, ?_⟩ | fail)
    exact ⟨by rw [hempty (.inr (of_decide_eq_true g))], Mem.le_refl _⟩
  have g2 : ¬ 99999 < k := of_decide_eq_false g
  have hnn : 0 ≤ k := by omega
  repeat' ((conv => whnf); first | refine ⟨?_, True.intro⟩ | refine brn_t rfl ?_ | refine brn_f rfl ?_ | refine ob rfl ?_ | refine ob (by decide) ?_ | refine grow_same (Mem.le_refl _) ?_ | refine ob (Mem.le_refl _) ?_ | refine ⟨_, Mem.le_refl _, ?_⟩ | fail)
  refine loopF (σ := Nat) [11, 0] (fun i => [(11, .int .i64 i), (0, .int .i64 (kk k i))]) (fun i => [.live T.a5_uint8 [.v (cellN k i 4), .v (cellN k i 3), .v (cellN k i 2), .v (cellN k i 1), .v (cellN k i 0)]]) (fun _ => M) (fun i => i ≤ 5) (fun i => 5 - i) 0 (by omega) ⟨(by repeat' first | exact True.intro | refine ⟨rfl, ?_⟩), (by repeat' first | exact True.intro | refine ⟨rfl, ?_⟩), Mem.le_refl _, rfl⟩ ?_
  intro i hi
  have hkn := kk_nn hnn i
  (conv => whnf); refine brn (fun g => ?_) (fun g => ?_)
  · have hlt : i < 5 := by have := of_decide_eq_true g; omega
    have hk9 : kk k i ≤ 99999 := kk_le hnn (by omega) i
    have hm : 0 ≤ (kk k i).tmod 10 ∧ (kk k i).tmod 10 < 10 := by rw [Int.tmod_eq_emod_of_nonneg hkn]; omega
    have hd : 0 ≤ (kk k i).tdiv 10 ∧ (kk k i).tdiv 10 ≤ 99999 := by rw [Int.tdiv_eq_ediv_of_nonneg hkn]; omega
    match i, hlt, hkn, hk9, hm, hd with
    | 0, _, hkn, hk9, hm, hd =>
      repeat' ((conv => whnf); first | refine ob (inR_i64 (by omega)) ?_ | refine ob (by decide) ?_ | refine ob (by omega) ?_ | fail)
      (conv => whnf)
      exact ⟨0 + 1, by omega, by omega, ⟨(by repeat' first | exact True.intro | refine ⟨rfl, ?_⟩), (by repeat' first | exact True.intro | refine ⟨rfl, ?_⟩), Mem.le_refl _, rfl⟩⟩
    | 1, _, hkn, hk9, hm, hd =>
      repeat' ((conv => whnf); first | refine ob (inR_i64 (by omega)) ?_ | refine ob (by decide) ?_ | refine ob (by omega) ?_ | fail)
      (conv => whnf)
      exact ⟨1 + 1, by omega, by omega, ⟨(by repeat' first | exact True.intro | refine ⟨rfl, ?_⟩), (by repeat' first | exact True.intro | refine ⟨rfl, ?_⟩), Mem.le_refl _, rfl⟩⟩
    | 2, _, hkn, hk9, hm, hd =>
      repeat' ((conv => whnf); first | refine ob (inR_i64 (by omega)) ?_ | refine ob (by decide) ?_ | refine ob (by omega) ?_ | fail)
      (conv => whnf)
      exact ⟨2 + 1, by omega, by omega, ⟨(by repeat' first | exact True.intro | refine ⟨rfl, ?_⟩), (by repeat' first | exact True.intro | refine ⟨rfl, ?_⟩), Mem.le_refl _, rfl⟩⟩
    | 3, _, hkn, hk9, hm, hd =>
      repeat' ((conv => whnf); first | refine ob (inR_i64 (by omega)) ?_ | refine ob (by decide) ?_ | refine ob (by omega) ?_ | fail)
      (conv => whnf)
      exact ⟨3 + 1, by omega, by omega, ⟨(by repeat' first | exact True.intro | refine ⟨rfl, ?_⟩), (by repeat' first | exact True.intro | refine ⟨rfl, ?_⟩), Mem.le_refl _, rfl⟩⟩
    | 4, _, hkn, hk9, hm, hd =>
      repeat' ((conv => whnf); first | refine ob (inR_i64 (by omega)) ?_ | refine ob (by decide) ?_ | refine ob (by omega) ?_ | fail)
      (conv => whnf)
      exact ⟨4 + 1, by omega, by omega, ⟨(by repeat' first | exact True.intro | refine ⟨rfl, ?_⟩), (by repeat' first | exact True.intro | refine ⟨rfl, ?_⟩), Mem.le_refl _, rfl⟩⟩
  · have hi5 : i = 5 := by have := of_decide_eq_false g; omega
    subst hi5
    repeat' ((conv => whnf); first | refine ⟨?_, True.intro⟩ | refine brn_t rfl ?_ | refine brn_f rfl ?_ | refine ob rfl ?_ | refine ob (by decide) ?_ | refine grow_same (Mem.le_refl _) ?_ | refine ob (Mem.le_refl _) ?_ | refine ⟨_, Mem.le_refl _, ?_⟩ | fail)
    refine new (fun b1 hb1 => ?_)
    replace hb1 : M b1 = none := hb1
    obtain ⟨M2, hM2⟩ : ∃ M2, M2 = M.setCells b1 T.a5_uint8 [.int .u8 (dgI k 4), .int .u8 (dgI k 3), .int .u8 (dgI k 2), .int .u8 (dgI k 1), .int .u8 (dgI k 0)] := ⟨_, rfl⟩
    have hN : NewSl M T.a5_uint8 1 (some ⟨b1, 0, none⟩) 5 5 ([dgB k 4, dgB k 3, dgB k 2, dgB k 1, dgB k 0].map byteV) M2 := by
      rw [hM2]
      simp only [dg_eq hnn]
      exact NewSl.lit hb1 T.a5_uint8 1 5 _ rfl
    (conv => whnf)
    erw [← hM2]
    repeat' ((conv => whnf); first | refine ⟨?_, True.intro⟩ | refine brn_t rfl ?_ | refine brn_f rfl ?_ | refine ob rfl ?_ | refine ob (by decide) ?_ | refine grow_same (Mem.le_refl _) ?_ | refine ob (Mem.le_refl _) ?_ | refine ⟨_, Mem.le_refl _, ?_⟩ | fail)
    refine strv hN.src ?_
    (conv => whnf); refine ob (by show 1 + 5 ≤ _; decide) ?_
    repeat' ((conv => whnf); first | refine ⟨?_, True.intro⟩ | refine brn_t rfl ?_ | refine brn_f rfl ?_ | refine ob rfl ?_ | refine ob (by decide) ?_ | refine grow_same (Mem.le_refl _) ?_ | refine ob (Mem.le_refl _) ?_ | refine ⟨_, Mem.le_refl _, ?_⟩ | fail)
    refine ⟨?_, hN.le⟩
    unfold nameB
    rw [if_neg (by omega)]
    rfl
def pw : Nat → Int
  | 0 => 10000
  | j + 1 => (pw j).tdiv 10
/-- a digit's letter -/
def digB (d : Int) : UInt8 := UInt8.ofNat (48 + d).toNat
def outB (k : Int) : Nat → ByteArray
  | 0 => ⟨#[119]⟩
  | j + 1 => outB k j ++ (⟨#[48, 49, 50, 51, 52, 53, 54, 55, 56, 57]⟩ : ByteArray).extract ((k.tdiv (pw j)).tmod 10).toNat (((k.tdiv (pw j)).tmod 10) + 1).toNat
@[reducible] def digs : ByteArray := ⟨#[48, 49, 50, 51, 52, 53, 54, 55, 56, 57]⟩
theorem digs_one : ∀ d : Nat, d < 10 → digs.extract d (d + 1) = ⟨#[UInt8.ofNat (48 + d)]⟩
  | 0, _ | 1, _ | 2, _ | 3, _ | 4, _ | 5, _ | 6, _ | 7, _ | 8, _ | 9, _ => by rfl
  | n + 10, h => by omega
theorem digs_int {d : Int} (h : 0 ≤ d ∧ d < 10) : digs.extract d.toNat (d + 1).toNat = ⟨#[UInt8.ofNat (48 + d).toNat]⟩ := by
  rw [show (d + 1).toNat = d.toNat + 1 by omega, digs_one d.toNat (by omega), show (48 + d).toNat = 48 + d.toNat by omega]
theorem outB_size (k : Int) : ∀ i, (outB k i).size ≤ 1 + 10 * i
  | 0 => by show 1 ≤ _; omega
  | i + 1 => by
    have := outB_size k i
    rw [outB, ByteArray.size_append, ByteArray.size_extract]
    have h10 : (⟨#[48, 49, 50, 51, 52, 53, 54, 55, 56, 57]⟩ : ByteArray).size = 10 := rfl
    rw [h10]
    omega
/-- the document's name -/
theorem nameR_ok (k : Int) : CallsM Try.prog F.ref12_Name [.int .i64 k] M fun v M' => v = .string (nameB k) ∧ M = M' := by
  refine fo_ref12_Name (by simp) ?_
  have hempty : (k < 1 ∨ 99999 < k) → nameB k = ByteArray.empty := fun h => by unfold nameB; rw [if_pos h]
  repeat' ((conv => whnf); first | refine ⟨?_, True.intro⟩ | refine brn_t rfl ?_ | refine brn_f rfl ?_ | refine ob rfl ?_ | refine ob (by decide) ?_ | refine grow_same (Mem.le_refl _) ?_ | refine ob (Mem.le_refl _) ?_ | refine ⟨_, Mem.le_refl _, ?_⟩ | fail)
  refine brn (fun g => ?_) (fun g => ?_)
  · repeat' ((conv => whnf); first | refine ⟨?_, True.intro⟩ | refine brn_t rfl ?_ | refine brn_f rfl ?_ | refine ob rfl ?_ | refine ob (by decide) ?_ | refine grow_same (Mem.le_refl _) ?_ | refine ob (Mem.le_refl _) ?_ | refine ⟨_, Mem.le_refl _, ?_⟩ | fail)
    exact ⟨by rw [hempty (.inl (of_decide_eq_true g))], rfl⟩
  have g1 : ¬ k < 1 := of_decide_eq_false g
  repeat' ((conv => whnf); first | refine ⟨?_, True.intro⟩ | refine brn_t rfl ?_ | refine brn_f rfl ?_ | refine ob rfl ?_ | refine ob (by decide) ?_ | refine grow_same (Mem.le_refl _) ?_ | refine ob (Mem.le_refl _) ?_ | refine ⟨_, Mem.le_refl _, ?_⟩ | fail)
  refine brn (fun g => ?_) (fun g => ?_)
  · repeat' ((conv => whnf); first | refine ⟨?_, True.intro⟩ | refine brn_t rfl ?_ | refine brn_f rfl ?_ | refine ob rfl ?_ | refine ob (by decide) ?_ | refine grow_same (Mem.le_refl _) ?_ | refine ob (Mem.le_refl _) ?_ | refine ⟨_, Mem.le_refl _, ?_⟩ | fail)
    exact ⟨by rw [hempty (.inr (of_decide_eq_true g))], rfl⟩
  have g2 : ¬ 99999 < k := of_decide_eq_false g
  have hnn : 0 ≤ k := by omega
  (conv => whnf)
  refine loopQ (σ := Nat) [5, 4] (fun i => [(5, .int .i64 (pw i)), (4, .c (.v (.string (outB k i))))]) (fun i => i ≤ 5) (fun i => 5 - i) 0 (by omega) ⟨(by repeat' first | exact True.intro | refine ⟨rfl, ?_⟩), (by repeat' first | exact True.intro | refine ⟨rfl, ?_⟩), Mem.le_refl _, rfl⟩ ?_
  intro i hi
  by_cases hlt : i < 5
  · have hp : 0 < pw i := by
      match i, hlt with
      | 0, _ => decide
      | 1, _ => decide
      | 2, _ => decide
      | 3, _ => decide
      | 4, _ => decide
    have hq : 0 ≤ k.tdiv (pw i) := Int.tdiv_nonneg hnn (by omega)
    have hq2 : k.tdiv (pw i) ≤ 99999 := by rw [Int.tdiv_eq_ediv_of_nonneg hnn]; exact Int.le_trans (Int.ediv_le_self _ hnn) (by omega)
    have hd : 0 ≤ (k.tdiv (pw i)).tmod 10 ∧ (k.tdiv (pw i)).tmod 10 < 10 := by rw [Int.tmod_eq_emod_of_nonneg hq]; omega
    have hsz : (outB k i).size + ((⟨#[48, 49, 50, 51, 52, 53, 54, 55, 56, 57]⟩ : ByteArray).extract ((k.tdiv (pw i)).tmod 10).toNat (((k.tdiv (pw i)).tmod 10) + 1).toNat).size ≤ 9223372036854775807 := by
      have h1 := outB_size k (i + 1)
      rw [outB, ByteArray.size_append] at h1
      omega
    match i, hlt, hd, hsz, hq, hq2 with
    | 0, _, hd, hsz, hq, hq2 =>
      (conv => whnf); refine brn_t (by decide) ?_
      repeat' ((conv => whnf); first | refine ob (inR_i64 (by omega)) ?_ | refine ob (inR_i64 (by decide)) ?_ | refine ob (by decide) ?_ | refine ob (by omega) ?_ | refine ob ⟨hd.1, by omega, by show _ ≤ ((10 : Nat) : Int); omega⟩ ?_ | refine ob hsz ?_ | fail)
      (conv => whnf)
      exact ⟨0 + 1, by omega, by omega, ⟨(by repeat' first | exact True.intro | refine ⟨rfl, ?_⟩), (by repeat' first | exact True.intro | refine ⟨rfl, ?_⟩), Mem.le_refl _, rfl⟩⟩
    | 1, _, hd, hsz, hq, hq2 =>
      (conv => whnf); refine brn_t (by decide) ?_
      repeat' ((conv => whnf); first | refine ob (inR_i64 (by omega)) ?_ | refine ob (inR_i64 (by decide)) ?_ | refine ob (by decide) ?_ | refine ob (by omega) ?_ | refine ob ⟨hd.1, by omega, by show _ ≤ ((10 : Nat) : Int); omega⟩ ?_ | refine ob hsz ?_ | fail)
      (conv => whnf)
      exact ⟨1 + 1, by omega, by omega, ⟨(by repeat' first | exact True.intro | refine ⟨rfl, ?_⟩), (by repeat' first | exact True.intro | refine ⟨rfl, ?_⟩), Mem.le_refl _, rfl⟩⟩
    | 2, _, hd, hsz, hq, hq2 =>
      (conv => whnf); refine brn_t (by decide) ?_
      repeat' ((conv => whnf); first | refine ob (inR_i64 (by omega)) ?_ | refine ob (inR_i64 (by decide)) ?_ | refine ob (by decide) ?_ | refine ob (by omega) ?_ | refine ob ⟨hd.1, by omega, by show _ ≤ ((10 : Nat) : Int); omega⟩ ?_ | refine ob hsz ?_ | fail)
      (conv => whnf)
      exact ⟨2 + 1, by omega, by omega, ⟨(by repeat' first | exact True.intro | refine ⟨rfl, ?_⟩), (by repeat' first | exact True.intro | refine ⟨rfl, ?_⟩), Mem.le_refl _, rfl⟩⟩
    | 3, _, hd, hsz, hq, hq2 =>
      (conv => whnf); refine brn_t (by decide) ?_
      repeat' ((conv => whnf); first | refine ob (inR_i64 (by omega)) ?_ | refine ob (inR_i64 (by decide)) ?_ | refine ob (by decide) ?_ | refine ob (by omega) ?_ | refine ob ⟨hd.1, by omega, by show _ ≤ ((10 : Nat) : Int); omega⟩ ?_ | refine ob hsz ?_ | fail)
      (conv => whnf)
      exact ⟨3 + 1, by omega, by omega, ⟨(by repeat' first | exact True.intro | refine ⟨rfl, ?_⟩), (by repeat' first | exact True.intro | refine ⟨rfl, ?_⟩), Mem.le_refl _, rfl⟩⟩
    | 4, _, hd, hsz, hq, hq2 =>
      (conv => whnf); refine brn_t (by decide) ?_
      repeat' ((conv => whnf); first | refine ob (inR_i64 (by omega)) ?_ | refine ob (inR_i64 (by decide)) ?_ | refine ob (by decide) ?_ | refine ob (by omega) ?_ | refine ob ⟨hd.1, by omega, by show _ ≤ ((10 : Nat) : Int); omega⟩ ?_ | refine ob hsz ?_ | fail)
      (conv => whnf)
      exact ⟨4 + 1, by omega, by omega, ⟨(by repeat' first | exact True.intro | refine ⟨rfl, ?_⟩), (by repeat' first | exact True.intro | refine ⟨rfl, ?_⟩), Mem.le_refl _, rfl⟩⟩
  · have hi5 : i = 5 := by omega
    subst hi5
    (conv => whnf); refine brn_f (by decide) ?_
    repeat' ((conv => whnf); first | refine ⟨?_, True.intro⟩ | refine brn_t rfl ?_ | refine brn_f rfl ?_ | refine ob rfl ?_ | refine ob (by decide) ?_ | refine grow_same (Mem.le_refl _) ?_ | refine ob (Mem.le_refl _) ?_ | refine ⟨_, Mem.le_refl _, ?_⟩ | fail)
    refine ⟨?_, rfl⟩
    have hdig : ∀ i, i < 5 → (⟨#[48, 49, 50, 51, 52, 53, 54, 55, 56, 57]⟩ : ByteArray).extract ((k.tdiv (pw i)).tmod 10).toNat (((k.tdiv (pw i)).tmod 10) + 1).toNat = ⟨#[dgB k (4 - i)]⟩ := fun i hi => by
      have e : (k.tdiv (pw i)).tmod 10 = (kk k (4 - i)).tmod 10 := by
        have a1 : kk k 1 = k / 10 := by show (kk k 0).tdiv 10 = _; rw [Int.tdiv_eq_ediv_of_nonneg (kk_nn hnn 0)]; rfl
        have a2 : kk k 2 = k / 100 := by show (kk k 1).tdiv 10 = _; rw [Int.tdiv_eq_ediv_of_nonneg (kk_nn hnn 1), a1]; omega
        have a3 : kk k 3 = k / 1000 := by show (kk k 2).tdiv 10 = _; rw [Int.tdiv_eq_ediv_of_nonneg (kk_nn hnn 2), a2]; omega
        have a4 : kk k 4 = k / 10000 := by show (kk k 3).tdiv 10 = _; rw [Int.tdiv_eq_ediv_of_nonneg (kk_nn hnn 3), a3]; omega
        match i, hi with
        | 0, _ => show (k.tdiv 10000).tmod 10 = (kk k 4).tmod 10; rw [Int.tdiv_eq_ediv_of_nonneg hnn, a4]
        | 1, _ => show (k.tdiv 1000).tmod 10 = (kk k 3).tmod 10; rw [Int.tdiv_eq_ediv_of_nonneg hnn, a3]
        | 2, _ => show (k.tdiv 100).tmod 10 = (kk k 2).tmod 10; rw [Int.tdiv_eq_ediv_of_nonneg hnn, a2]
        | 3, _ => show (k.tdiv 10).tmod 10 = (kk k 1).tmod 10; rw [Int.tdiv_eq_ediv_of_nonneg hnn, a1]
        | 4, _ => show (k.tdiv 1).tmod 10 = (kk k 0).tmod 10; rw [Int.tdiv_one]; rfl
      have hq := kk_nn hnn (4 - i)
      have hd : 0 ≤ (kk k (4 - i)).tmod 10 ∧ (kk k (4 - i)).tmod 10 < 10 := by rw [Int.tmod_eq_emod_of_nonneg hq]; omega
      rw [e]
      exact digs_int hd
    unfold nameB
    rw [if_neg (by omega)]
    simp only [outB, hdig 0 (by decide), hdig 1 (by decide), hdig 2 (by decide), hdig 3 (by decide), hdig 4 (by decide)]
    rfl
end Go.Proofs.Ytnlghoenbhbfhaa

/- The log's files: the segment of a name. -/
namespace Go.Proofs.Ytnlghoenbhbfhaa
open Go Go.Vm
attribute [local irreducible] Brn Ob Grow CallsM inR LoopVC Mem.row Mem.cells Mem.setCells Mem.upd Go.Vm.Own AppVC SrcVC StrVC NextVC New SrcOk subA NewSl Mem.textAt Mem.mapAt Mem.iterAt entryOf kfind Wr NewEls Elems
set_option maxRecDepth 10000
variable {M : Mem}
/-- the number that some first letters say -/
def accN (k : Int) : Nat → Int
  | 0 => 0
  | j + 1 => 10 * accN k j + IntKind.i64.wrap (((dgB k (4 - j)).toNat : Int) - 48)
@[reducible] def tailB (k : Int) : ByteArray := ⟨#[dgB k 4, dgB k 3, dgB k 2, dgB k 1, dgB k 0]⟩
@[reducible] def nameC (k : Int) : ByteArray := ⟨#[119, dgB k 4, dgB k 3, dgB k 2, dgB k 1, dgB k 0]⟩
theorem nameC_eq {k : Int} (h : ¬ (k < 1 ∨ 99999 < k)) : nameB k = nameC k := by unfold nameB; rw [if_neg h]
theorem inR_i32 {n : Int} (h : -2147483648 ≤ n ∧ n ≤ 2147483647) : inR .i32 n := by
  simp [inR, IntKind.wrap, IntKind.signed, IntKind.bits]
  omega
theorem dg_range {k : Int} (h : 0 ≤ k) (j : Nat) : ((dgB k j).toNat : Int) = 48 + kk k j % 10 := by
  have h1 := kk_nn h j
  have h2 : (kk k j).tmod 10 = kk k j % 10 := Int.tmod_eq_emod_of_nonneg h1
  unfold dgB
  rw [h2]
  simp
  omega
theorem wrap_small {n : Int} (h : 0 ≤ n ∧ n ≤ 100) : IntKind.i64.wrap n = n := by
  simp [IntKind.wrap, IntKind.signed, IntKind.bits]
  omega
theorem accN_step {k : Int} (h : 0 ≤ k) (j : Nat) : accN k (j + 1) = 10 * accN k j + kk k (4 - j) % 10 := by
  rw [accN, dg_range h, wrap_small (by omega)]
  omega
theorem accN_all {k : Int} (h : 0 ≤ k) (h2 : k ≤ 99999) : accN k 1 = k / 10000 ∧ accN k 2 = k / 1000 ∧ accN k 3 = k / 100 ∧ accN k 4 = k / 10 ∧ accN k 5 = k := by
  have a0 : kk k 0 = k := rfl
  have a1 : kk k 1 = k / 10 := by show (kk k 0).tdiv 10 = _; rw [Int.tdiv_eq_ediv_of_nonneg (kk_nn h 0)]; rfl
  have a2 : kk k 2 = k / 100 := by show (kk k 1).tdiv 10 = _; rw [Int.tdiv_eq_ediv_of_nonneg (kk_nn h 1), a1]; omega
  have a3 : kk k 3 = k / 1000 := by show (kk k 2).tdiv 10 = _; rw [Int.tdiv_eq_ediv_of_nonneg (kk_nn h 2), a2]; omega
  have a4 : kk k 4 = k / 10000 := by show (kk k 3).tdiv 10 = _; rw [Int.tdiv_eq_ediv_of_nonneg (kk_nn h 3), a3]; omega
  have b1 : accN k 1 = 10 * accN k 0 + kk k 4 % 10 := accN_step h 0
  have b2 : accN k 2 = 10 * accN k 1 + kk k 3 % 10 := accN_step h 1
  have b3 : accN k 3 = 10 * accN k 2 + kk k 2 % 10 := accN_step h 2
  have b4 : accN k 4 = 10 * accN k 3 + kk k 1 % 10 := accN_step h 3
  have b5 : accN k 5 = 10 * accN k 4 + kk k 0 % 10 := accN_step h 4
  have b0 : accN k 0 = 0 := rfl
  omega
theorem nameC_head (k : Int) : (nameC k).toList.getD 0 0 = 119 := by
  simp [nameC, ByteArray.toList, ByteArray.toList.loop, ByteArray.size, ByteArray.get!]
theorem number_ok (k : Int) (h : ¬ (k < 1 ∨ 99999 < k)) : CallsM Try.prog F.wal_number [.string (nameB k)] M fun v M' => v = .int .i64 k ∧ M.le M' := by
  refine fo_wal_number (by simp) ?_
  rw [nameC_eq h]
  repeat' ((conv => whnf); first | refine ⟨?_, True.intro⟩ | refine brn_t rfl ?_ | refine brn_f rfl ?_ | refine ob rfl ?_ | refine ob (by decide) ?_ | refine grow_same (Mem.le_refl _) ?_ | refine ob (Mem.le_refl _) ?_ | refine ⟨_, Mem.le_refl _, ?_⟩ | fail)
  refine ob (by show (0 : Int) ≤ 0 ∧ (0 : Int) < ((6 : Nat) : Int); decide) ?_
  repeat' ((conv => whnf); first | refine ⟨?_, True.intro⟩ | refine brn_t rfl ?_ | refine brn_f rfl ?_ | refine ob rfl ?_ | refine ob (by decide) ?_ | refine grow_same (Mem.le_refl _) ?_ | refine ob (Mem.le_refl _) ?_ | refine ⟨_, Mem.le_refl _, ?_⟩ | fail)
  refine brn_f (by show (!decide ((((nameC k).toList.getD 0 0).toNat : Int) = 119)) = false; rw [nameC_head]; decide) ?_
  repeat' ((conv => whnf); first | refine ⟨?_, True.intro⟩ | refine brn_t rfl ?_ | refine brn_f rfl ?_ | refine ob rfl ?_ | refine ob (by decide) ?_ | refine grow_same (Mem.le_refl _) ?_ | refine ob (Mem.le_refl _) ?_ | refine ⟨_, Mem.le_refl _, ?_⟩ | fail)
  refine ob (by show (0 : Int) ≤ 1 ∧ (1 : Int) ≤ ((6 : Nat) : Int) ∧ ((6 : Nat) : Int) ≤ ((6 : Nat) : Int); decide) ?_
  repeat' ((conv => whnf); first | refine ⟨?_, True.intro⟩ | refine brn_t rfl ?_ | refine brn_f rfl ?_ | refine ob rfl ?_ | refine ob (by decide) ?_ | refine grow_same (Mem.le_refl _) ?_ | refine ob (Mem.le_refl _) ?_ | refine ⟨_, Mem.le_refl _, ?_⟩ | fail)
  refine new (fun b1 hb1 => ?_)
  replace hb1 : M b1 = none := hb1
  have hnn : 0 ≤ k := by omega
  have hdlt : ∀ j, (dgB k j).toNat < 128 := fun j => by have := dg_range hnn j; omega
  have htl : (nameC k).extract (1 : Int).toNat (((nameC k).size : Nat) : Int).toNat = tailB k := rfl
  (conv => whnf)
  refine loopF (σ := Nat) [3] (fun i => [(3, .int .i64 (accN k i))]) (fun _ => []) (fun i => M.upd b1 (.stringIter (tailB k) i)) (fun i => i ≤ 5) (fun i => 5 - i) 0 (by omega) ⟨(by repeat' first | exact True.intro | refine ⟨rfl, ?_⟩), (by repeat' first | exact True.intro | refine ⟨rfl, ?_⟩), Mem.le_refl _, rfl⟩ ?_
  intro i hi
  have hsit : (M.upd b1 (.stringIter (tailB k) i)).sitAt b1 = some (tailB k, i) := by simp [Mem.sitAt, Mem.upd]
  (conv => whnf)
  refine on hsit ?_
  (conv => whnf)
  refine ⟨fun hlt => ⟨?_, ?_⟩, fun hno => ?_⟩
  · have hi5 : i < 5 := hlt
    match i, hi5 with
    | 0, _ => exact hdlt 4
    | 1, _ => exact hdlt 3
    | 2, _ => exact hdlt 2
    | 3, _ => exact hdlt 1
    | 4, _ => exact hdlt 0
  · have hi5 : i < 5 := hlt
    have hb : 48 ≤ ((dgB k (4 - i)).toNat : Int) ∧ ((dgB k (4 - i)).toNat : Int) ≤ 57 := by have := dg_range hnn (4 - i); omega
    have ha : 0 ≤ accN k i ∧ accN k i ≤ 99999 := by
      obtain ⟨c1, c2, c3, c4, c5⟩ := accN_all hnn (by omega)
      match i, hi5 with
      | 0, _ => show (0 : Int) ≤ 0 ∧ (0 : Int) ≤ 99999; omega
      | 1, _ => omega
      | 2, _ => omega
      | 3, _ => omega
      | 4, _ => omega
    have hget : ((tailB k).get! i) = dgB k (4 - i) := by
      match i, hi5 with
      | 0, _ => rfl
      | 1, _ => rfl
      | 2, _ => rfl
      | 3, _ => rfl
      | 4, _ => rfl
    rw [hget]
    (conv => whnf); refine brn_t rfl ?_
    (conv => whnf)
    refine ob (inR_i64 (by omega)) ?_
    (conv => whnf)
    refine ob (inR_i32 (by omega)) ?_
    (conv => whnf)
    refine ob (inR_i64 ?_) ?_
    · rw [wrap_small (by omega)]; omega
    (conv => whnf)
    refine ⟨i + 1, by omega, by omega, ?_⟩
    refine ⟨(by repeat' first | exact True.intro | refine ⟨rfl, ?_⟩), (by repeat' first | exact True.intro | refine ⟨rfl, ?_⟩), ?_, rfl⟩
    dsimp only
    rw [Mem.upd_upd]
    exact Mem.le_refl _
  · have hi5 : i = 5 := by have : ¬ i < 5 := hno; omega
    subst hi5
    obtain ⟨-, -, -, -, c5⟩ := accN_all hnn (by omega)
    (conv => whnf); refine brn_f rfl ?_
    repeat' ((conv => whnf); first | refine ⟨?_, True.intro⟩ | refine brn_t rfl ?_ | refine brn_f rfl ?_ | refine ob rfl ?_ | refine ob (by decide) ?_ | refine grow_same (Mem.le_refl _) ?_ | refine ob (Mem.le_refl _) ?_ | refine ⟨_, Mem.le_refl _, ?_⟩ | fail)
    rw [c5]
    refine (name_ok k).mono ?_
    rintro v M3 ⟨rfl, hle3⟩
    rw [nameC_eq h]
    (conv => whnf); refine brn_f (by simp) ?_
    repeat' ((conv => whnf); first | refine ⟨?_, True.intro⟩ | refine brn_t rfl ?_ | refine brn_f rfl ?_ | refine ob rfl ?_ | refine ob (by decide) ?_ | refine grow_same (Mem.le_refl _) ?_ | refine ob (Mem.le_refl _) ?_ | refine ⟨_, Mem.le_refl _, ?_⟩ | fail)
    exact ⟨rfl, Mem.le_trans (Mem.le_upd hb1) hle3⟩
theorem number_empty : CallsM Try.prog F.wal_number [.string ByteArray.empty] M fun v M' => v = .int .i64 0 ∧ M = M' := by
  refine fo_wal_number (by simp) ?_
  repeat' ((conv => whnf); first | refine ⟨?_, True.intro⟩ | refine brn_t rfl ?_ | refine brn_f rfl ?_ | refine ob rfl ?_ | refine ob (by decide) ?_ | refine grow_same (Mem.le_refl _) ?_ | refine ob (Mem.le_refl _) ?_ | refine ⟨_, Mem.le_refl _, ?_⟩ | fail)
  exact ⟨rfl, rfl⟩
end Go.Proofs.Ytnlghoenbhbfhaa

