/- The law HopPuts, as a contract. -/
import Derived.Test.YthlleljdahkgpaaAwake
namespace Go.Proofs.Ythlleljdahkgpaa
open Go Go.Vm
attribute [local irreducible] Brn Ob Grow CallsM inR LoopVC Mem.row Mem.cells Mem.setCells Mem.upd Own AppVC SrcVC StrVC NextVC New SrcOk subA NewSl Mem.textAt Mem.mapAt Mem.iterAt entryOf kfind Wr NewEls Elems
set_option maxRecDepth 10000
set_option maxRecDepth 10000 in
theorem copied_ok (w : W) (M : Mem) (hw : w.Ok M) : CallsM Try.prog F.law20_copied [w.v] M fun v M' => ∃ pD kD pC kC, v = W.v { w with pD := pD, kD := kD, pC := pC, kC := kC } ∧
    NewSl M T.uint8 1 pD w.nD kD (w.data.map byteV) M' ∧ NewSl M T.int 1 pC w.nC kC (w.costs.map intV) M' := by
  refine fo_law20_copied (by simp) ?_
  have h1 := hw.nD
  have h2 := hw.nC
  (conv => whnf); refine new (fun b hb => ?_)
  replace hb : M b = none := hb
  have hN := NewSl.lit hb T.uint8 1 0 [] rfl
  (conv => whnf); refine srcv (hw.data.le hN.le) ?_
  (conv => whnf); refine appN M _ hN (by omega) (by simp [maxLen]; omega) (by simp [byteV, Value.oneCell']) fun a1 c1 M1 hN1 => ?_
  (conv => whnf); refine new (fun b2 hb2 => ?_)
  replace hb2 : M1 b2 = none := hb2
  have hN2 := NewSl.lit hb2 T.int 1 0 [] rfl
  (conv => whnf); refine srcv (hw.costs.le (Mem.le_trans hN1.le hN2.le)) ?_
  (conv => whnf); refine appN M1 _ hN2 (by omega) (by simp [maxLen]; omega) (by simp [intV, Value.oneCell']) fun a2 c2 M2 hN3 => ?_
  (conv => whnf)
  refine ⟨a1, c1, a2, c2, by simp [W.v], ?_, ?_⟩
  · have := hN1.up hN3.le; simpa using this
  · have := hN3.mono hN1.le; simpa using this
theorem W.v_eq (w : W) (pD kD pC kC) : W.v { w with pD := pD, kD := kD, pC := pC, kC := kC } = .agg #[.int .i64 w.kind, .int .i64 w.n, .int .i64 w.o, .int .i64 w.d, .int .i64 w.e, .int .i64 w.c, .slice pD w.nD kD, .slice pC w.nC kC] := rfl
/-- the bytes that Put hands back -/
def W.put (w : W) : List UInt8 := if w.err = 0 then w.bytes else []
theorem PutPost.all {w : W} {M : Mem} {v : Value} {M' : Mem} (h : PutPost w M v M') : ∃ a c, v = .tuple #[.slice a w.put.length c, .int .i64 w.err] ∧ NewSl M T.uint8 1 a w.put.length c (w.put.map byteV) M' := by
  rcases h with ⟨h, rfl, rfl⟩ | ⟨h, a, c, rfl, h1⟩
  · rw [W.put, if_neg h]; exact ⟨none, 0, rfl, NewSl.none _ _ _⟩
  · rw [W.put, if_pos h, h]; exact ⟨a, c, rfl, h1⟩
theorem sub_byte (x : UInt8) : Value.int .u8 (IntKind.u8.wrap (255 - (x.toNat : Int))) = byteV (255 - x) := by
  rw [conv_byte]; congr 1
  unfold byteOf
  have := x.toNat_lt
  apply UInt8.toNat_inj.1
  simp [UInt8.toNat_sub]
  omega
set_option maxRecDepth 10000 in
theorem puts_ok (w : W) (M : Mem) (hw : w.Ok M) : CallsM Try.prog F.law20_HopPuts [w.v] M fun v M' => v = .bool true ∧ M.le M' := by
  refine fo_law20_HopPuts (by simp) ?_
  (conv => whnf); refine (copied_ok w M hw).mono ?_
  rintro v M1 ⟨pD, kD, pC, kC, rfl, hD, hC⟩
  have hw1 : W.Ok { w with pD := pD, kD := kD, pC := pC, kC := kC } M1 := ⟨hD.src, hC.src, hw.nD, hw.nC⟩
  (conv => whnf); refine (wcheck_ok _ _ hw1).mono ?_
  rintro v M' ⟨rfl, rfl⟩
  (conv => whnf); refine (put_ok _ _ hw1).mono ?_
  intro v M2 hpost
  obtain ⟨a2, c2, rfl, h2⟩ := hpost.all
  clear hpost
  have hle2 : M.le M2 := Mem.le_trans hD.le h2.le
  (conv => whnf)
  refine loopF (σ := Nat × Mem × List UInt8) [7] (fun x => [(7, .int .i64 x.1)]) (fun _ => [.live T.api_Hop w.cs, .live T.api_Hop (W.cs { w with pD := pD, kD := kD, pC := pC, kC := kC })]) (fun x => x.2.1)
    (fun x => x.1 ≤ w.nD ∧ Wr x.2.1 T.uint8 1 pD w.nD kD (x.2.2.map byteV) ∧ Mem.keep (blk pD) M2 x.2.1) (fun x => w.nD - x.1) ⟨0, M2, w.data⟩ ⟨by omega, hD.wr.le h2.le, Mem.keep_refl _ _⟩ ⟨(by repeat' first | exact True.intro | refine ⟨rfl, ?_⟩), (by repeat' first | exact True.intro | refine ⟨rfl, ?_⟩), Mem.le_refl _, rfl⟩ ?_
  rintro ⟨i, M3, L⟩ ⟨hi, hwr, hk3⟩
  have hnD := hw.nD
  (conv => whnf); refine brn (fun h => ?_) (fun h => ?_)
  · simp only [decide_eq_true_eq] at h
    obtain ⟨b, cs, rfl, hcells, hlen, hst⟩ := hwr.store1 (j := i) (by omega)
    obtain ⟨hl, b', o', hbo, hrow⟩ := hwr.src.at (i := i) (by omega)
    cases hbo
    (conv => whnf); refine ob (by dsimp only; omega) ?_
    (conv => whnf); refine on hrow ?_
    (conv => whnf); refine ob (by dsimp only; omega) ?_
    repeat' ((conv => whnf); first | refine ⟨?_, True.intro⟩ | refine brn_t rfl ?_ | refine brn_f rfl ?_ | refine ob rfl ?_ | refine ob (by decide) ?_ | refine grow_same (Mem.le_refl _) ?_ | refine ob (Mem.le_refl _) ?_ | refine ⟨_, Mem.le_refl _, ?_⟩ | fail)
    rw [sub_byte]
    refine on hcells ?_
    (conv => whnf); refine ob hlen ?_
    (conv => whnf); refine ob (inR_i64 (by omega)) ?_
    (conv => whnf)
    exact ⟨⟨i + 1, _, L.set i (255 - L[i])⟩, ⟨by omega, (hst _).1, Mem.keep_trans hk3 (hst _).2⟩, by show w.nD - (i + 1) < w.nD - i; omega, ⟨(by repeat' first | exact True.intro | refine ⟨rfl, ?_⟩), (by repeat' first | exact True.intro | refine ⟨rfl, ?_⟩), Mem.le_refl _, rfl⟩⟩
  · have hS : ∀ x, blk pD x → M x = none := fun x ⟨q, hq, e⟩ => by subst e; exact (hD.block hq).1
    have hle3 : M.le M3 := hk3.le hle2 hS
    (conv => whnf); refine (putR_ok w M3 (hw.le hle3)).mono ?_
    intro v M4 hpost
    obtain ⟨a4, c4, rfl, h4⟩ := hpost.all
    clear hpost
    (conv => whnf); refine (wcheckR_ok w M4 (hw.le (Mem.le_trans hle3 h4.le))).mono ?_
    rintro v M' ⟨rfl, rfl⟩
    (conv => whnf); refine brn_t (decide_eq_true rfl) ?_
    have hw3 : Wr M3 T.uint8 1 a2 w.put.length c2 (w.put.map byteV) := h2.wr.mono fun q o hq ho => hk3 _ _ (fun ⟨q', hq', e⟩ => by
      have h8 := (h2.block hq).1
      obtain ⟨_, _, h9⟩ := hD.block hq'
      unfold Mem.has at h9
      rw [e, h8] at h9; cases h9) ho
    (conv => whnf); refine strv (hw3.le h4.le).src ?_
    (conv => whnf); refine strv h4.src ?_
    (conv => whnf); refine brn_t (decide_eq_true rfl) ?_
    (conv => whnf); refine brn_t (decide_eq_true rfl) ?_
    (conv => whnf); refine (awake_ok M4).mono ?_
    rintro v M5 ⟨rfl, h5⟩
    (conv => whnf)
    exact ⟨rfl, Mem.le_trans hle3 (Mem.le_trans h4.le h5)⟩
end Go.Proofs.Ythlleljdahkgpaa
