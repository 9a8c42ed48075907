/- Words between neighbours: their bytes, both sides. -/
import Derived.Test.YthlleljdahkgpaaHopPutA
namespace Go.Proofs.Ythlleljdahkgpaa
open Go Go.Vm
attribute [local irreducible] Brn Ob Grow CallsM inR LoopVC Mem.row Mem.cells Mem.setCells Mem.upd Own AppVC SrcVC StrVC NextVC New SrcOk subA NewSl
theorem idErr_zero {o d e c : Int} (hid : idErr o d e c = 0) : (0 ≤ o ∧ o ≤ 63) ∧ (0 ≤ d ∧ d ≤ 63) ∧ (1 ≤ e ∧ e ≤ 65535) ∧ (1 ≤ c ∧ c ≤ 65535) ∧ o ≠ d := by
  unfold idErr at hid; split at hid
  · split at hid <;> omega
  · omega
set_option maxRecDepth 10000 in
theorem putIdR_ok (o d e c : Int) (M : Mem) : CallsM Try.prog F.ref13_PutId [.agg #[.int .i64 o, .int .i64 d, .int .i64 e, .int .i64 c]] M fun v M' => (idErr o d e c ≠ 0 ∧ v = .tuple #[.slice none 0 0, .int .i64 (idErr o d e c)] ∧ M = M') ∨
      (idErr o d e c = 0 ∧ ∃ a' c', v = .tuple #[.slice a' 6 c', .int .i64 0] ∧ NewSl M T.uint8 1 a' 6 c' ((idBytes o d e c).map byteV) M') := by
  refine fo_ref13_PutId (by simp) ?_
  (conv => whnf)
  refine (checkR_ok _ _ _ _ _).mono ?_
  rintro v M' ⟨rfl, rfl⟩
  (conv => whnf)
  refine brn (fun h => ?_) (fun h => ?_)
  · (conv => whnf)
    refine (checkR_ok _ _ _ _ _).mono ?_
    rintro v M' ⟨rfl, rfl⟩
    (conv => whnf)
    exact .inl ⟨by simpa using h, rfl, rfl⟩
  · have hid : idErr o d e c = 0 := by simpa using h
    obtain ⟨ho, hd, he, hc, hne⟩ := idErr_zero hid
    repeat' ((conv => whnf); first | refine ob (by decide) ?_ | refine ob (by rw [Int.tdiv_eq_ediv_of_nonneg (by omega)]; exact inR_i64 (by omega)) ?_)
    refine new (fun b hb => ?_)
    replace hb : M b = none := hb
    (conv => whnf)
    refine .inr ⟨hid, _, _, rfl, ?_⟩
    have hw : ∀ x : Int, 0 ≤ x → Value.int .u8 (IntKind.u8.wrap (x.tdiv 256)) = byteV (byteOf (x / 256)) := fun x hx => by rw [conv_byte, Int.tdiv_eq_ediv_of_nonneg hx]
    have hm : ∀ x : Int, 0 ≤ x → Value.int .u8 (IntKind.u8.wrap (x.tmod 256)) = byteV (byteOf x) := fun x hx => by rw [conv_byte, Int.tmod_eq_emod_of_nonneg hx]; simp [byteOf]
    rw [hw e (by omega), hm e (by omega), hw c (by omega), hm c (by omega), conv_byte, conv_byte]
    exact NewSl.lit hb T.uint8 1 6 _ rfl
def W.bytes (w : W) : List UInt8 := byteOf w.kind :: (if w.kind = 4 then w.costs.map byteOf else two w.n ++ idBytes w.o w.d w.e w.c ++ w.data)
/-- what is known of a word that may be -/
theorem W.err_zero {w : W} (h1 : w.data.length = w.nD) (h2 : w.costs.length = w.nC) (h : w.err = 0) : (1 ≤ w.kind ∧ w.kind ≤ 4 ∧ 0 ≤ w.n ∧ w.n ≤ 65535) ∧
    (w.kind = 4 → (w.costs.all cost = true ∧ w.nC = 64) ∧ w.bare ∧ w.n = 0) ∧ (w.kind ≠ 4 → Go.Proofs.Ythlleljdahkgpaa.idErr w.o w.d w.e w.c = 0 ∧ w.nC = 0) ∧ (w.kind = 1 → 1 ≤ w.nD ∧ w.nD ≤ 48) ∧ (w.kind ≠ 1 → w.nD = 0) := by
  have h3 : w.data = [] → w.nD = 0 := fun h => by rw [← h1, h]; rfl
  unfold W.err W.routes W.idErr W.msgErr Go.Proofs.Ythlleljdahkgpaa.msgErr at h
  by_cases hk : w.kind < 1 ∨ 4 < w.kind ∨ w.n < 0 ∨ 65535 < w.n
  · rw [if_pos hk] at h; cases h
  rw [if_neg hk] at h
  by_cases h4 : w.kind = 4
  · rw [if_pos h4] at h
    split at h
    · rename_i hc
      simp only [Bool.and_eq_true, decide_eq_true_eq] at hc
      exact ⟨by omega, fun _ => ⟨hc.1, hc.2⟩, fun h => absurd h4 h, fun h => by omega, fun _ => h3 hc.2.1.2⟩
    · cases h
  rw [if_neg h4] at h
  by_cases h5 : w.kind = 1
  · rw [if_pos h5] at h
    (repeat' split at h) <;> first | (exfalso; omega) | exact ⟨by omega, fun h => absurd h h4, fun _ => by omega, fun _ => by omega, fun h => absurd h5 h⟩
  · rw [if_neg h5] at h
    (repeat' split at h) <;> first | (exfalso; omega) | exact ⟨by omega, fun h => absurd h h4, fun _ => by omega, fun h => absurd h h5, fun _ => by omega⟩
end Go.Proofs.Ythlleljdahkgpaa
