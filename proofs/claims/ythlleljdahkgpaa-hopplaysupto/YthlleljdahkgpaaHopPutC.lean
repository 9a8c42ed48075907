/- Words between neighbours: Put. -/
import Derived.Test.YthlleljdahkgpaaHopPutB
namespace Go.Proofs.Ythlleljdahkgpaa
open Go Go.Vm
attribute [local irreducible] Brn Ob Grow CallsM inR LoopVC Mem.row Mem.cells Mem.setCells Mem.upd Own AppVC SrcVC StrVC NextVC New SrcOk subA NewSl
theorem W.Ok.le {w : W} {M M' : Mem} (h : w.Ok M) (hle : M.le M') : w.Ok M' := ⟨h.data.le hle, h.costs.le hle, h.nD, h.nC⟩
/-- what a word's bytes come to, and where -/
def PutPost (w : W) (M : Mem) (v : Value) (M' : Mem) : Prop := (w.err ≠ 0 ∧ v = .tuple #[.slice none 0 0, .int .i64 w.err] ∧ M = M') ∨
      (w.err = 0 ∧ ∃ a' c', v = .tuple #[.slice a' w.bytes.length c', .int .i64 0] ∧ NewSl M T.uint8 1 a' w.bytes.length c' (w.bytes.map byteV) M')
set_option maxRecDepth 10000 in
theorem put_ok (w : W) (M : Mem) (hw : w.Ok M) : CallsM Try.prog F.hop_Put [w.v] M (PutPost w M) := by
  refine fo_hop_Put (by simp) ?_
  (conv => whnf)
  refine (wcheck_ok w M hw).mono ?_
  rintro v M' ⟨rfl, rfl⟩
  (conv => whnf)
  refine brn (fun h => ?_) (fun h => ?_)
  · (conv => whnf)
    exact .inl ⟨by simpa using h, rfl, rfl⟩
  have he : w.err = 0 := by simpa using h
  obtain ⟨hr, h4, hn4, hk1, hkn⟩ := W.err_zero hw.lenD hw.lenC he
  (conv => whnf)
  refine new (fun b hb => ?_)
  replace hb : M b = none := hb
  (conv => whnf)
  rw [conv_byte]
  have hN := NewSl.lit hb T.uint8 1 1 [byteV (byteOf w.kind)] rfl
  have hlC := hw.lenC
  have hlD := hw.lenD
  refine brn (fun h => ?_) (fun h => ?_)
  · have hk : w.kind = 4 := by simpa using h
    have hn := (h4 hk).1.2
    have hb4 : w.bytes = byteOf w.kind :: w.costs.map byteOf := by rw [W.bytes, if_pos hk]
    (conv => whnf)
    refine loopF (σ := Nat × Option Addr × Nat × Mem) [25, 5] (fun | ⟨i, a, c, _⟩ => [(25, .int .i64 i), (5, .slice a (1 + i) c)]) (fun _ => [.live T.api_Hop w.cs, .gone b]) (fun x => x.2.2.2)
      (fun | ⟨i, a, c, M1⟩ => i ≤ 64 ∧ NewSl M T.uint8 1 a (1 + i) c ((byteOf w.kind :: (w.costs.take i).map byteOf).map byteV) M1) (fun x => 64 - x.1) ⟨0, _, _, _⟩ ⟨by omega, hN⟩ ⟨⟨rfl, rfl, rfl, rfl, rfl, rfl, rfl, trivial⟩, ⟨rfl, rfl, trivial⟩, Mem.le_refl _, rfl⟩ ?_
    rintro ⟨i, a, c, M1⟩ ⟨hi, hN1⟩
    (conv => whnf)
    refine brn (fun g => ?_) (fun g => ?_)
    · simp only [decide_eq_true_eq] at g
      obtain ⟨hl, bb, o, hp, hrow⟩ := (hw.costs.le hN1.le).at (i := i) (by omega)
      (conv => whnf)
      refine ob (by omega) ?_
      (conv => whnf)
      refine atp hp ?_
      (conv => whnf)
      refine on hrow ?_
      (conv => whnf)
      refine appN M _ hN1 (by omega) (by simp [maxLen]; omega) (by simp [Value.oneCell']) fun a2 c2 M2 hN2 => ?_
      rw [conv_byte] at hN2
      (conv => whnf)
      refine ob (inR_i64 (by omega)) ?_
      (conv => whnf)
      refine ⟨⟨i + 1, a2, c2, M2⟩, ⟨by omega, ?_⟩, by show 64 - (i + 1) < 64 - i; omega, ⟨rfl, rfl, rfl, rfl, rfl, rfl, rfl, trivial⟩, ⟨rfl, rfl, trivial⟩, Mem.le_refl _, rfl⟩
      rw [take_succ_map hl, ← List.cons_append, List.map_append]
      exact hN2
    · simp only [decide_eq_false_iff_not] at g
      have : i = 64 := by omega
      subst this
      (conv => whnf)
      refine .inr ⟨he, a, c, ?_, ?_⟩
      · rw [hb4]; simp [hlC, hn]
      · rw [hb4]
        rw [List.take_of_length_le (by omega)] at hN1
        have : (byteOf w.kind :: w.costs.map byteOf).length = 1 + 64 := by simp [hlC, hn]
        rw [this]
        exact hN1
  · have hk : w.kind ≠ 4 := by simpa using h
    have hwn : IntKind.u64.wrap w.n = w.n := by simp [IntKind.wrap, IntKind.signed, IntKind.bits]; omega
    have hpn : putErr w.n 2 = 0 := by simp [putErr, Int.fdiv_eq_ediv]; omega
    have hb4 : w.bytes = byteOf w.kind :: (two w.n ++ idBytes w.o w.d w.e w.c ++ w.data) := by rw [W.bytes, if_neg hk]
    (conv => whnf)
    rw [hwn]
    refine (bitsPut_ok _ _ _ _ _ _ [byteOf w.kind] hN.src (by omega)).mono ?_
    rintro v M1 (⟨h1, -⟩ | ⟨-, a1, c1, rfl, h1⟩)
    · exact absurd hpn h1
    have hN1 := h1.new.mono hN.le
    (conv => whnf)
    refine (putId_ok _ _ _ _ _).mono ?_
    rintro v M2 (⟨h2, -⟩ | ⟨-, a2, c2, rfl, h2⟩)
    · exact absurd (hn4 hk).1 h2
    (conv => whnf)
    refine ⟨M, Mem.le_trans hN1.le h2.le, ?_⟩
    (conv => whnf)
    refine ⟨?_, trivial⟩
    (conv => whnf)
    refine srcv h2.src ?_
    (conv => whnf)
    refine appN M _ (hN1.up h2.le) (by simp) (by simp [maxLen]) (by simp [byteV, Value.oneCell']) fun a3 c3 M3 h3 => ?_
    (conv => whnf)
    refine ob rfl ?_
    (conv => whnf)
    refine ob rfl ?_
    (conv => whnf)
    first | refine ob h3.le ?_ | refine grow_same h3.le ?_
    (conv => whnf)
    refine ⟨?_, trivial⟩
    (conv => whnf)
    refine srcv (hw.data.le h3.le) ?_
    (conv => whnf)
    have hnd : w.nD ≤ 48 := by by_cases g : w.kind = 1 <;> omega
    refine appN M _ h3 (by simp; omega) (by simp [maxLen]; omega) (by simp [byteV, Value.oneCell']) fun a4 c4 M4 hN4 => ?_
    (conv => whnf)
    have hlen : w.bytes.length = 1 + Int.toNat 2 + 6 + w.nD := by rw [hb4]; simp [two, idBytes, hlD]; omega
    refine .inr ⟨he, a4, c4, by rw [hlen], ?_⟩
    rw [hlen, hb4]
    simpa [be_two, two, idBytes] using hN4
set_option maxRecDepth 10000 in
theorem putR_ok (w : W) (M : Mem) (hw : w.Ok M) : CallsM Try.prog F.ref20_Put [w.v] M (PutPost w M) := by
  refine fo_ref20_Put (by simp) ?_
  (conv => whnf)
  refine (wcheckR_ok w M hw).mono ?_
  rintro v M' ⟨rfl, rfl⟩
  (conv => whnf)
  refine brn (fun h => ?_) (fun h => ?_)
  · (conv => whnf)
    refine (wcheckR_ok w M hw).mono ?_
    rintro v M' ⟨rfl, rfl⟩
    (conv => whnf)
    exact .inl ⟨by simpa using h, rfl, rfl⟩
  have he : w.err = 0 := by simpa using h
  obtain ⟨hr, h4, hn4, hk1, hkn⟩ := W.err_zero hw.lenD hw.lenC he
  (conv => whnf)
  refine new (fun b hb => ?_)
  replace hb : M b = none := hb
  (conv => whnf)
  rw [conv_byte]
  have hN := NewSl.lit hb T.uint8 1 1 [byteV (byteOf w.kind)] rfl
  have hlC := hw.lenC
  have hlD := hw.lenD
  refine brn (fun h => ?_) (fun h => ?_)
  · have hk : w.kind = 4 := by simpa using h
    have hn := (h4 hk).1.2
    have hb4 : w.bytes = byteOf w.kind :: w.costs.map byteOf := by rw [W.bytes, if_pos hk]
    (conv => whnf)
    refine loopF (σ := Nat × Option Addr × Nat × Mem) [5, 4] (fun | ⟨i, a, c, _⟩ => [(5, .int .i64 i), (4, .slice a (1 + i) c)]) (fun _ => [.live T.api_Hop w.cs, .gone b]) (fun x => x.2.2.2)
      (fun | ⟨i, a, c, M1⟩ => i ≤ 64 ∧ NewSl M T.uint8 1 a (1 + i) c ((byteOf w.kind :: (w.costs.take i).map byteOf).map byteV) M1) (fun x => 64 - x.1) ⟨0, _, _, _⟩ ⟨by omega, hN⟩ ⟨(by repeat' first | exact True.intro | refine ⟨rfl, ?_⟩), (by repeat' first | exact True.intro | refine ⟨rfl, ?_⟩), Mem.le_refl _, rfl⟩ ?_
    rintro ⟨i, a, c, M1⟩ ⟨hi, hN1⟩
    (conv => whnf)
    refine brn (fun g => ?_) (fun g => ?_)
    · simp only [decide_eq_true_eq] at g
      obtain ⟨hl, bb, o, hp, hrow⟩ := (hw.costs.le hN1.le).at (i := i) (by omega)
      (conv => whnf)
      refine ob (by omega) ?_
      (conv => whnf)
      refine atp hp ?_
      (conv => whnf)
      refine on hrow ?_
      (conv => whnf)
      refine appN M _ hN1 (by omega) (by simp [maxLen]; omega) (by simp [Value.oneCell']) fun a2 c2 M2 hN2 => ?_
      rw [conv_byte] at hN2
      (conv => whnf)
      refine ob (inR_i64 (by omega)) ?_
      (conv => whnf)
      refine ⟨⟨i + 1, a2, c2, M2⟩, ⟨by omega, ?_⟩, by show 64 - (i + 1) < 64 - i; omega, ⟨(by repeat' first | exact True.intro | refine ⟨rfl, ?_⟩), (by repeat' first | exact True.intro | refine ⟨rfl, ?_⟩), Mem.le_refl _, rfl⟩⟩
      rw [take_succ_map hl, ← List.cons_append, List.map_append]
      exact hN2
    · simp only [decide_eq_false_iff_not] at g
      have : i = 64 := by omega
      subst this
      (conv => whnf)
      refine .inr ⟨he, a, c, ?_, ?_⟩
      · rw [hb4]; simp [hlC, hn]
      · rw [hb4]
        rw [List.take_of_length_le (by omega)] at hN1
        have : (byteOf w.kind :: w.costs.map byteOf).length = 1 + 64 := by simp [hlC, hn]
        rw [this]
        exact hN1
  · have hk : w.kind ≠ 4 := by simpa using h
    have hb4 : w.bytes = byteOf w.kind :: (two w.n ++ idBytes w.o w.d w.e w.c ++ w.data) := by rw [W.bytes, if_neg hk]
    have hq : w.n.tdiv 256 = w.n / 256 := Int.tdiv_eq_ediv_of_nonneg (by omega)
    have hm : w.n.tmod 256 = w.n % 256 := Int.tmod_eq_emod_of_nonneg (by omega)
    have hbm : byteOf (w.n % 256) = byteOf w.n := by simp [byteOf]
    (conv => whnf); refine ob (by decide) ?_
    (conv => whnf); refine ob (by rw [hq]; exact inR_i64 (by omega)) ?_
    (conv => whnf); refine ob (by decide) ?_
    (conv => whnf)
    rw [hq, hm, conv_byte, conv_byte, hbm]
    refine appN M _ hN (by simp) (by simp [maxLen]) (by simp [byteV, Value.oneCell']) fun a1 c1 M1 hN1 => ?_
    (conv => whnf); refine (putIdR_ok _ _ _ _ _).mono ?_
    rintro v M2 (⟨h2, -⟩ | ⟨-, a2, c2, rfl, h2⟩)
    · exact absurd (hn4 hk).1 h2
    (conv => whnf); refine srcv h2.src ?_
    (conv => whnf); refine appN M _ (hN1.up h2.le) (by simp) (by simp [maxLen]) (by simp [byteV, Value.oneCell']) fun a3 c3 M3 h3 => ?_
    (conv => whnf); refine srcv (hw.data.le h3.le) ?_
    have hnd : w.nD ≤ 48 := by by_cases g : w.kind = 1 <;> omega
    (conv => whnf); refine appN M _ h3 (by simp; omega) (by simp [maxLen]; omega) (by simp [byteV, Value.oneCell']) fun a4 c4 M4 hN4 => ?_
    (conv => whnf)
    have hlen : w.bytes.length = 1 + 2 + 6 + w.nD := by rw [hb4]; simp [two, idBytes, hlD]; omega
    refine .inr ⟨he, a4, c4, by rw [hlen], ?_⟩
    rw [hlen, hb4]
    simpa [two, idBytes] using hN4
end Go.Proofs.Ythlleljdahkgpaa
