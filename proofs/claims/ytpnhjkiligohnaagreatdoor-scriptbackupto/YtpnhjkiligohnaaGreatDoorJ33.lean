/- Part of this proof; laid by program. -/
import Derived.Test.YtpnhjkiligohnaaGreatDoorJ32
import Derived.Test.YtpnhjkiligohnaaGreatDoorJ9
namespace Go.Proofs.YtpnhjkiligohnaaGreatDoor
open Go Go.Vm
attribute [local irreducible] Brn Ob Grow CallsM inR LoopVC LoopVC0 Mem.row Mem.cells Mem.setCells Mem.upd Go.Vm.Own AppVC SrcVC StrVC NextVC New SrcOk subA NewSl Mem.textAt Mem.mapAt Mem.iterAt entryOf kfind Wr NewEls Elems
set_option maxRecDepth 10000
section
variable {M B : Mem}
def fieldsN : Nat → Int
  | 0 => 41
  | 2 => 0
  | 3 => 38
  | 4 => 54
  | 5 => 54
  | 6 => 40
  | 8 => 36
  | 10 => 36
  | 11 => 4
  | _ => 32
theorem fields_ok : ∀ (r : Nat), r < 12 → CallsM Tryz.prog F.script_fields [.int .i64 (1 + (r : Nat))] M fun v M' => v = .int .i64 (fieldsN r) ∧ M = M'
  | 0, _ | 1, _ | 2, _ | 3, _ | 4, _ | 5, _ | 6, _ | 7, _ | 8, _ | 9, _ | 10, _ | 11, _ => by
    refine fo_script_fields (by simp) ?_
    refine zR ?_
    exact ⟨rfl, rfl⟩
  | _ + 12, h => by omega
theorem scale_ok : ∀ (r : Nat), r < 12 → CallsM Tryz.prog F.script_scale [.int .i64 (1 + (r : Nat))] M fun v M' => v = .tuple #[.int .i64 (if r = 8 then 256 else 1), .int .i64 (if r = 10 then 64 else 256)] ∧ M = M'
  | 0, _ | 1, _ | 2, _ | 3, _ | 4, _ | 5, _ | 6, _ | 7, _ | 8, _ | 9, _ | 10, _ | 11, _ => by
    refine fo_script_scale (by simp) ?_
    refine zR ?_
    exact ⟨rfl, rfl⟩
  | _ + 12, h => by omega
theorem most_ok : ∀ (r : Nat), r < 12 → CallsM Tryz.prog F.script_most [.int .i64 (1 + (r : Nat))] M fun v M' => v = .int .i64 (if r = 6 then 8 else 64) ∧ M = M'
  | 0, _ | 1, _ | 2, _ | 3, _ | 4, _ | 5, _ | 6, _ | 7, _ | 8, _ | 9, _ | 10, _ | 11, _ => by
    refine fo_script_most (by simp) ?_
    refine zR ?_
    exact ⟨rfl, rfl⟩
  | _ + 12, h => by omega
@[reducible] def stpC (x : StpR) (q : Option Addr) (c : Nat) : List Value := [.int .i64 (x.kind : Nat), .int .i64 (x.node : Nat), .int .i64 (x.to : Nat), .int .i64 (x.n : Nat), .slice q x.data.length c]
theorem bytesP_succ (P : List UInt8) (v k : Nat) : bytesP P v (k + 1) = bytesP P v k ++ [P.getD (v + k) 0] := by unfold bytesP; rw [List.range_succ, List.map_append]; rfl
theorem bytesP_len (P : List UInt8) (v k : Nat) : (bytesP P v k).length = k := by simp [bytesP]
theorem tk_byte (P : List UInt8) (v : Nat) : Value.int .u8 (IntKind.u8.wrap ((tkV P v 256 : Nat) : Int)) = byteV (P.getD v 0) := by
  unfold tkV
  generalize P.getD v 0 = x
  have h := UInt8.toNat_lt x
  rw [Nat.mod_eq_of_lt (by omega), show IntKind.u8.wrap ((x.toNat : Nat) : Int) = ((x.toNat : Nat) : Int) by simp [IntKind.wrap, IntKind.signed, IntKind.bits]; omega]
  rfl
theorem TkAt.app {bt bp : Nat} {a : Option Addr} {n c : Nat} {P : List UInt8} {v : Nat} {M2 M3 : Mem} (h : TkAt B M2 bt bp a n c P v) {q q' : Option Addr} {k k' cq cq' : Nat} {L L' : List Value} (hBM : B.le (M.minus fun y => y = bt))
    (hN : NewSl (M.minus fun y => y = bt) T.uint8 1 q k cq L M2) (hN' : NewSl (M.minus fun y => y = bt) T.uint8 1 q' k' cq' L' M3) (hk : Mem.keep (blk q) M2 M3) : TkAt B M3 bt bp a n c P v := by
  obtain ⟨h1, h2, h3, h4, h5, h6⟩ := h
  refine ⟨Mem.le_trans hBM hN'.le, h2, hk _ _ (fun ⟨r, hr, e⟩ => ?_) h3, h4, h5, h6⟩
  obtain ⟨_, cs, hc⟩ := hN.block hr
  rw [e] at hc
  exact absurd (hc.inj h3).1 (by decide)
theorem NewSl.take {bt bp : Nat} {a : Option Addr} {n c : Nat} {P : List UInt8} {v : Nat} {M2 M3 : Mem} {q : Option Addr} {k cq : Nat} {L : List Value} (hN : NewSl (M.minus fun y => y = bt) T.uint8 1 q k cq L M2) (h : TkAt B M2 bt bp a n c P v) (hk : Mem.keep (fun y => y = bt) M2 M3) :
    NewSl (M.minus fun y => y = bt) T.uint8 1 q k cq L M3 := hN.keep hk (fun _ e => Mem.minus_in e) fun r hr e => by
  obtain ⟨_, cs, hc⟩ := hN.block hr
  rw [e] at hc
  exact absurd (hc.inj h.2.2.1).1 (by decide)
set_option maxRecDepth 100000 in
theorem step_ok {bt bp : Nat} {a : Option Addr} {n c : Nat} {P : List UInt8} {v : Nat} (h : TkAt B M bt bp a n c P v) {nodes : Nat} (hN : 0 < nodes) (hN2 : nodes ≤ 64) :
    CallsM Tryz.prog F.script_step [takeF bt bp, .int .i64 nodes] M fun u M' => ∃ q cq, u = .agg (stpC (stepP P nodes v).1 q cq).toArray ∧ TkAt B M' bt bp a n c P (stepP P nodes v).2 ∧ Mem.keep (fun y => y = bt) M M' ∧
      NewSl (M.minus fun y => y = bt) T.uint8 1 q (stepP P nodes v).1.data.length cq ((stepP P nodes v).1.data.map byteV) M' := by
  have hBM : B.le (M.minus fun y => y = bt) := Mem.le_minus h.1 (fun _ e => e ▸ h.2.1)
  refine fo_script_step (by simp) ?_
  refine zR ?_
  refine (take_ok h (m := 12) (by decide) (by decide)).mono ?_
  rintro u M1 ⟨rfl, h1, hk1⟩
  have hr := tkV_lt (P := P) (v := v) (m := 12) (by decide)
  (conv => whnf); refine obr (inR_i64 (by first | omega | (dsimp only; omega))) ?_
  obtain ⟨r, hr0⟩ : ∃ r, r = tkV P v 12 := ⟨_, rfl⟩
  rw [← hr0] at hr ⊢
  have hst : stepP P nodes v = stepQ P nodes v r := by unfold stepP; rw [hr0]
  refine zR ?_
  refine (fields_ok r hr).mono ?_
  rintro u _ ⟨rfl, rfl⟩
  match r, hr with
  | 0, _ =>
    repeat' ((conv => whnf); first | refine brn_t rfl ?_ | refine brn_f rfl ?_ | refine ob rfl ?_ | refine obr rfl ?_ | refine ob (by decide) ?_ | refine obr (by decide) ?_ | refine brn_t (by kernel_rfl) ?_ | refine brn_f (by kernel_rfl) ?_ | fail)
    refine (take_ok h1 (m := nodes) hN (by omega)).mono ?_
    rintro u M2 ⟨rfl, h2, hk2⟩
    repeat' ((conv => whnf); first | refine brn_t rfl ?_ | refine brn_f rfl ?_ | refine ob rfl ?_ | refine obr rfl ?_ | refine ob (by decide) ?_ | refine obr (by decide) ?_ | refine brn_t (by kernel_rfl) ?_ | refine brn_f (by kernel_rfl) ?_ | fail)
    refine (take_ok h2 (m := 256) (by decide) (by decide)).mono ?_
    rintro u M3 ⟨rfl, h3, hk3⟩
    repeat' ((conv => whnf); first | refine brn_t rfl ?_ | refine brn_f rfl ?_ | refine ob rfl ?_ | refine obr rfl ?_ | refine ob (by decide) ?_ | refine obr (by decide) ?_ | refine brn_t (by kernel_rfl) ?_ | refine brn_f (by kernel_rfl) ?_ | fail)
    refine (most_ok 0 (by decide)).mono ?_
    rintro u _ ⟨rfl, rfl⟩
    repeat' ((conv => whnf); first | refine brn_t rfl ?_ | refine brn_f rfl ?_ | refine ob rfl ?_ | refine obr rfl ?_ | refine ob (by decide) ?_ | refine obr (by decide) ?_ | refine brn_t (by kernel_rfl) ?_ | refine brn_f (by kernel_rfl) ?_ | fail)
    refine (take_ok h3 (m := 64) (by decide) (by decide)).mono ?_
    rintro u M4 ⟨rfl, h4, hk4⟩
    have hkM := Mem.keep_trans hk1 (Mem.keep_trans hk2 (Mem.keep_trans hk3 hk4))
    repeat' ((conv => whnf); first | refine brn_t rfl ?_ | refine brn_f rfl ?_ | refine ob rfl ?_ | refine obr rfl ?_ | refine ob (by decide) ?_ | refine obr (by decide) ?_ | refine brn_t (by kernel_rfl) ?_ | refine brn_f (by kernel_rfl) ?_ | fail)
    have hMany : (tkV P (v + 1 + 1 + 1) 64) ≤ 64 := (Nat.le_of_lt (tkV_lt (by decide)))
    refine loopF (σ := Nat × Mem × Option Addr × Nat) [64] (fun y => [(64, .int .i64 y.1)]) (fun y => [BE.live T.api_Step [SC.v (S.i 0), SC.v (S.i 0), SC.v (S.i 0), SC.v (S.i 0), SC.v S.sn], BE.live T.api_Step [SC.v (.int .i64 (1 + ((0 : Nat) : Int))), SC.v (.int .i64 ((tkV P (v + 1) nodes : Nat) : Int)), SC.v (.int .i64 ((tkV P (v + 1 + 1) 256 : Nat) : Int)), SC.v (.int .i64 0), SC.v (.slice y.2.2.1 y.1 y.2.2.2)]]) (fun y => y.2.1)
      (fun | ⟨i, Mc, q, cq⟩ => i ≤ (tkV P (v + 1 + 1 + 1) 64) ∧ TkAt B Mc bt bp a n c P ((v + 1 + 1 + 1 + 1) + i) ∧ Mem.keep (fun y => y = bt) M Mc ∧ NewSl (M.minus fun y => y = bt) T.uint8 1 q i cq ((bytesP P (v + 1 + 1 + 1 + 1) i).map byteV) Mc) (fun y => (tkV P (v + 1 + 1 + 1) 64) - y.1) ⟨0, M4, none, 0⟩
      ⟨by omega, h4, hkM, (NewSl.none _ _ _).up (Mem.keep_minus.1 hkM)⟩ zS ?_
    rintro ⟨i, Mc, q, cq⟩ ⟨hi, hT, hkc, hNc⟩
    (conv => whnf); refine brn (fun g => ?_) (fun g => ?_)
    · have g' : i < (tkV P (v + 1 + 1 + 1) 64) := by have := of_decide_eq_true g; dsimp only at this; omega
      refine zX ?_
      refine ⟨M.minus fun y => y = bt, hNc.le, ?_⟩
      refine zR ?_
      refine (take_ok hT (m := 256) (by decide) (by decide)).mono ?_
      rintro u M5 ⟨rfl, h5, hk5⟩
      have hN5 := NewSl.take hNc hT hk5
      refine zT (hN5.le) ?_
      (conv => whnf)
      refine appK _ _ hN5 (by first | omega | (dsimp only; omega)) (by unfold maxLen; dsimp only; omega) (by intro u hu; simp at hu; subst hu; rfl) (fun q6 c6 M6 h6 hk6 => ?_)
      have hT6 := h5.app hBM hN5 h6 hk6
      have hkc6 : Mem.keep (fun y => y = bt) M M6 := Mem.keep_minus.2 h6.le
      erw [show [Value.int IntKind.u8 (IntKind.u8.wrap ((tkV P ((v + 1 + 1 + 1 + 1) + i) 256 : Nat) : Int))] = [P.getD ((v + 1 + 1 + 1 + 1) + i) 0].map byteV from congrArg (fun v => [v]) (tk_byte P ((v + 1 + 1 + 1 + 1) + i))] at h6
      rw [← List.map_append, ← bytesP_succ] at h6
      refine zT (h6.le) ?_
      refine zR ?_
      refine obr (inR_i64 (by first | omega | (dsimp only; omega))) ?_
      (conv => whnf)
      exact ⟨⟨i + 1, M6, q6, c6⟩, ⟨by omega, hT6, hkc6, h6⟩, by dsimp only; omega, zS⟩
    · have g' : i = (tkV P (v + 1 + 1 + 1) 64) := by have := of_decide_eq_false g; dsimp only at this; omega
      refine zR ?_
      (conv => whnf)
      subst g'
      refine ⟨q, cq, ?_, ?_, hkc, ?_⟩
      · rw [hst]; simp only [stepQ, stpC, bytesP_len, Int.one_mul]; rfl
      · rw [hst]; exact hT
      · rw [hst]; simp only [stepQ, bytesP_len]; exact hNc
  | 1, _ =>
    repeat' ((conv => whnf); first | refine brn_t rfl ?_ | refine brn_f rfl ?_ | refine ob rfl ?_ | refine obr rfl ?_ | refine ob (by decide) ?_ | refine obr (by decide) ?_ | refine brn_t (by kernel_rfl) ?_ | refine brn_f (by kernel_rfl) ?_ | fail)
    refine (take_ok h1 (m := nodes) hN (by omega)).mono ?_
    rintro u M2 ⟨rfl, h2, hk2⟩
    have hkM := (Mem.keep_trans hk1 hk2)
    repeat' ((conv => whnf); first | refine brn_t rfl ?_ | refine brn_f rfl ?_ | refine ob rfl ?_ | refine obr rfl ?_ | refine ob (by decide) ?_ | refine obr (by decide) ?_ | refine brn_t (by kernel_rfl) ?_ | refine brn_f (by kernel_rfl) ?_ | fail)
    have hMany : 0 ≤ 64 := (Nat.zero_le _)
    refine loopF (σ := Nat × Mem × Option Addr × Nat) [64] (fun y => [(64, .int .i64 y.1)]) (fun y => [BE.live T.api_Step [SC.v (S.i 0), SC.v (S.i 0), SC.v (S.i 0), SC.v (S.i 0), SC.v S.sn], BE.live T.api_Step [SC.v (.int .i64 (1 + ((1 : Nat) : Int))), SC.v (.int .i64 ((tkV P (v + 1) nodes : Nat) : Int)), SC.v (.int .i64 0), SC.v (.int .i64 0), SC.v (.slice y.2.2.1 y.1 y.2.2.2)]]) (fun y => y.2.1)
      (fun | ⟨i, Mc, q, cq⟩ => i ≤ 0 ∧ TkAt B Mc bt bp a n c P ((v + 1 + 1) + i) ∧ Mem.keep (fun y => y = bt) M Mc ∧ NewSl (M.minus fun y => y = bt) T.uint8 1 q i cq ((bytesP P (v + 1 + 1) i).map byteV) Mc) (fun y => 0 - y.1) ⟨0, M2, none, 0⟩
      ⟨by omega, h2, hkM, (NewSl.none _ _ _).up (Mem.keep_minus.1 hkM)⟩ zS ?_
    rintro ⟨i, Mc, q, cq⟩ ⟨hi, hT, hkc, hNc⟩
    (conv => whnf); refine brn (fun g => ?_) (fun g => ?_)
    · have g' : i < 0 := by have := of_decide_eq_true g; dsimp only at this; omega
      refine zX ?_
      refine ⟨M.minus fun y => y = bt, hNc.le, ?_⟩
      refine zR ?_
      refine (take_ok hT (m := 256) (by decide) (by decide)).mono ?_
      rintro u M5 ⟨rfl, h5, hk5⟩
      have hN5 := NewSl.take hNc hT hk5
      refine zT (hN5.le) ?_
      (conv => whnf)
      refine appK _ _ hN5 (by first | omega | (dsimp only; omega)) (by unfold maxLen; dsimp only; omega) (by intro u hu; simp at hu; subst hu; rfl) (fun q6 c6 M6 h6 hk6 => ?_)
      have hT6 := h5.app hBM hN5 h6 hk6
      have hkc6 : Mem.keep (fun y => y = bt) M M6 := Mem.keep_minus.2 h6.le
      erw [show [Value.int IntKind.u8 (IntKind.u8.wrap ((tkV P ((v + 1 + 1) + i) 256 : Nat) : Int))] = [P.getD ((v + 1 + 1) + i) 0].map byteV from congrArg (fun v => [v]) (tk_byte P ((v + 1 + 1) + i))] at h6
      rw [← List.map_append, ← bytesP_succ] at h6
      refine zT (h6.le) ?_
      refine zR ?_
      refine obr (inR_i64 (by first | omega | (dsimp only; omega))) ?_
      (conv => whnf)
      exact ⟨⟨i + 1, M6, q6, c6⟩, ⟨by omega, hT6, hkc6, h6⟩, by dsimp only; omega, zS⟩
    · have g' : i = 0 := by have := of_decide_eq_false g; dsimp only at this; omega
      refine zR ?_
      (conv => whnf)
      subst g'
      refine ⟨q, cq, ?_, ?_, hkc, ?_⟩
      · rw [hst]; simp only [stepQ, stpC, bytesP_len, Int.one_mul]; rfl
      · rw [hst]; exact hT
      · rw [hst]; simp only [stepQ, bytesP_len]; exact hNc
  | 7, _ =>
    repeat' ((conv => whnf); first | refine brn_t rfl ?_ | refine brn_f rfl ?_ | refine ob rfl ?_ | refine obr rfl ?_ | refine ob (by decide) ?_ | refine obr (by decide) ?_ | refine brn_t (by kernel_rfl) ?_ | refine brn_f (by kernel_rfl) ?_ | fail)
    refine (take_ok h1 (m := nodes) hN (by omega)).mono ?_
    rintro u M2 ⟨rfl, h2, hk2⟩
    have hkM := (Mem.keep_trans hk1 hk2)
    repeat' ((conv => whnf); first | refine brn_t rfl ?_ | refine brn_f rfl ?_ | refine ob rfl ?_ | refine obr rfl ?_ | refine ob (by decide) ?_ | refine obr (by decide) ?_ | refine brn_t (by kernel_rfl) ?_ | refine brn_f (by kernel_rfl) ?_ | fail)
    have hMany : 0 ≤ 64 := (Nat.zero_le _)
    refine loopF (σ := Nat × Mem × Option Addr × Nat) [64] (fun y => [(64, .int .i64 y.1)]) (fun y => [BE.live T.api_Step [SC.v (S.i 0), SC.v (S.i 0), SC.v (S.i 0), SC.v (S.i 0), SC.v S.sn], BE.live T.api_Step [SC.v (.int .i64 (1 + ((7 : Nat) : Int))), SC.v (.int .i64 ((tkV P (v + 1) nodes : Nat) : Int)), SC.v (.int .i64 0), SC.v (.int .i64 0), SC.v (.slice y.2.2.1 y.1 y.2.2.2)]]) (fun y => y.2.1)
      (fun | ⟨i, Mc, q, cq⟩ => i ≤ 0 ∧ TkAt B Mc bt bp a n c P ((v + 1 + 1) + i) ∧ Mem.keep (fun y => y = bt) M Mc ∧ NewSl (M.minus fun y => y = bt) T.uint8 1 q i cq ((bytesP P (v + 1 + 1) i).map byteV) Mc) (fun y => 0 - y.1) ⟨0, M2, none, 0⟩
      ⟨by omega, h2, hkM, (NewSl.none _ _ _).up (Mem.keep_minus.1 hkM)⟩ zS ?_
    rintro ⟨i, Mc, q, cq⟩ ⟨hi, hT, hkc, hNc⟩
    (conv => whnf); refine brn (fun g => ?_) (fun g => ?_)
    · have g' : i < 0 := by have := of_decide_eq_true g; dsimp only at this; omega
      refine zX ?_
      refine ⟨M.minus fun y => y = bt, hNc.le, ?_⟩
      refine zR ?_
      refine (take_ok hT (m := 256) (by decide) (by decide)).mono ?_
      rintro u M5 ⟨rfl, h5, hk5⟩
      have hN5 := NewSl.take hNc hT hk5
      refine zT (hN5.le) ?_
      (conv => whnf)
      refine appK _ _ hN5 (by first | omega | (dsimp only; omega)) (by unfold maxLen; dsimp only; omega) (by intro u hu; simp at hu; subst hu; rfl) (fun q6 c6 M6 h6 hk6 => ?_)
      have hT6 := h5.app hBM hN5 h6 hk6
      have hkc6 : Mem.keep (fun y => y = bt) M M6 := Mem.keep_minus.2 h6.le
      erw [show [Value.int IntKind.u8 (IntKind.u8.wrap ((tkV P ((v + 1 + 1) + i) 256 : Nat) : Int))] = [P.getD ((v + 1 + 1) + i) 0].map byteV from congrArg (fun v => [v]) (tk_byte P ((v + 1 + 1) + i))] at h6
      rw [← List.map_append, ← bytesP_succ] at h6
      refine zT (h6.le) ?_
      refine zR ?_
      refine obr (inR_i64 (by first | omega | (dsimp only; omega))) ?_
      (conv => whnf)
      exact ⟨⟨i + 1, M6, q6, c6⟩, ⟨by omega, hT6, hkc6, h6⟩, by dsimp only; omega, zS⟩
    · have g' : i = 0 := by have := of_decide_eq_false g; dsimp only at this; omega
      refine zR ?_
      (conv => whnf)
      subst g'
      refine ⟨q, cq, ?_, ?_, hkc, ?_⟩
      · rw [hst]; simp only [stepQ, stpC, bytesP_len, Int.one_mul]; rfl
      · rw [hst]; exact hT
      · rw [hst]; simp only [stepQ, bytesP_len]; exact hNc
  | 9, _ =>
    repeat' ((conv => whnf); first | refine brn_t rfl ?_ | refine brn_f rfl ?_ | refine ob rfl ?_ | refine obr rfl ?_ | refine ob (by decide) ?_ | refine obr (by decide) ?_ | refine brn_t (by kernel_rfl) ?_ | refine brn_f (by kernel_rfl) ?_ | fail)
    refine (take_ok h1 (m := nodes) hN (by omega)).mono ?_
    rintro u M2 ⟨rfl, h2, hk2⟩
    have hkM := (Mem.keep_trans hk1 hk2)
    repeat' ((conv => whnf); first | refine brn_t rfl ?_ | refine brn_f rfl ?_ | refine ob rfl ?_ | refine obr rfl ?_ | refine ob (by decide) ?_ | refine obr (by decide) ?_ | refine brn_t (by kernel_rfl) ?_ | refine brn_f (by kernel_rfl) ?_ | fail)
    have hMany : 0 ≤ 64 := (Nat.zero_le _)
    refine loopF (σ := Nat × Mem × Option Addr × Nat) [64] (fun y => [(64, .int .i64 y.1)]) (fun y => [BE.live T.api_Step [SC.v (S.i 0), SC.v (S.i 0), SC.v (S.i 0), SC.v (S.i 0), SC.v S.sn], BE.live T.api_Step [SC.v (.int .i64 (1 + ((9 : Nat) : Int))), SC.v (.int .i64 ((tkV P (v + 1) nodes : Nat) : Int)), SC.v (.int .i64 0), SC.v (.int .i64 0), SC.v (.slice y.2.2.1 y.1 y.2.2.2)]]) (fun y => y.2.1)
      (fun | ⟨i, Mc, q, cq⟩ => i ≤ 0 ∧ TkAt B Mc bt bp a n c P ((v + 1 + 1) + i) ∧ Mem.keep (fun y => y = bt) M Mc ∧ NewSl (M.minus fun y => y = bt) T.uint8 1 q i cq ((bytesP P (v + 1 + 1) i).map byteV) Mc) (fun y => 0 - y.1) ⟨0, M2, none, 0⟩
      ⟨by omega, h2, hkM, (NewSl.none _ _ _).up (Mem.keep_minus.1 hkM)⟩ zS ?_
    rintro ⟨i, Mc, q, cq⟩ ⟨hi, hT, hkc, hNc⟩
    (conv => whnf); refine brn (fun g => ?_) (fun g => ?_)
    · have g' : i < 0 := by have := of_decide_eq_true g; dsimp only at this; omega
      refine zX ?_
      refine ⟨M.minus fun y => y = bt, hNc.le, ?_⟩
      refine zR ?_
      refine (take_ok hT (m := 256) (by decide) (by decide)).mono ?_
      rintro u M5 ⟨rfl, h5, hk5⟩
      have hN5 := NewSl.take hNc hT hk5
      refine zT (hN5.le) ?_
      (conv => whnf)
      refine appK _ _ hN5 (by first | omega | (dsimp only; omega)) (by unfold maxLen; dsimp only; omega) (by intro u hu; simp at hu; subst hu; rfl) (fun q6 c6 M6 h6 hk6 => ?_)
      have hT6 := h5.app hBM hN5 h6 hk6
      have hkc6 : Mem.keep (fun y => y = bt) M M6 := Mem.keep_minus.2 h6.le
      erw [show [Value.int IntKind.u8 (IntKind.u8.wrap ((tkV P ((v + 1 + 1) + i) 256 : Nat) : Int))] = [P.getD ((v + 1 + 1) + i) 0].map byteV from congrArg (fun v => [v]) (tk_byte P ((v + 1 + 1) + i))] at h6
      rw [← List.map_append, ← bytesP_succ] at h6
      refine zT (h6.le) ?_
      refine zR ?_
      refine obr (inR_i64 (by first | omega | (dsimp only; omega))) ?_
      (conv => whnf)
      exact ⟨⟨i + 1, M6, q6, c6⟩, ⟨by omega, hT6, hkc6, h6⟩, by dsimp only; omega, zS⟩
    · have g' : i = 0 := by have := of_decide_eq_false g; dsimp only at this; omega
      refine zR ?_
      (conv => whnf)
      subst g'
      refine ⟨q, cq, ?_, ?_, hkc, ?_⟩
      · rw [hst]; simp only [stepQ, stpC, bytesP_len, Int.one_mul]; rfl
      · rw [hst]; exact hT
      · rw [hst]; simp only [stepQ, bytesP_len]; exact hNc
  | 2, _ =>
    repeat' ((conv => whnf); first | refine brn_t rfl ?_ | refine brn_f rfl ?_ | refine ob rfl ?_ | refine obr rfl ?_ | refine ob (by decide) ?_ | refine obr (by decide) ?_ | refine brn_t (by kernel_rfl) ?_ | refine brn_f (by kernel_rfl) ?_ | fail)
    have hMany : 0 ≤ 64 := (Nat.zero_le _)
    refine loopF (σ := Nat × Mem × Option Addr × Nat) [64] (fun y => [(64, .int .i64 y.1)]) (fun y => [BE.live T.api_Step [SC.v (S.i 0), SC.v (S.i 0), SC.v (S.i 0), SC.v (S.i 0), SC.v S.sn], BE.live T.api_Step [SC.v (.int .i64 (1 + ((2 : Nat) : Int))), SC.v (.int .i64 0), SC.v (.int .i64 0), SC.v (.int .i64 0), SC.v (.slice y.2.2.1 y.1 y.2.2.2)]]) (fun y => y.2.1)
      (fun | ⟨i, Mc, q, cq⟩ => i ≤ 0 ∧ TkAt B Mc bt bp a n c P ((v + 1) + i) ∧ Mem.keep (fun y => y = bt) M Mc ∧ NewSl (M.minus fun y => y = bt) T.uint8 1 q i cq ((bytesP P (v + 1) i).map byteV) Mc) (fun y => 0 - y.1) ⟨0, M1, none, 0⟩
      ⟨by omega, h1, hk1, (NewSl.none _ _ _).up (Mem.keep_minus.1 hk1)⟩ zS ?_
    rintro ⟨i, Mc, q, cq⟩ ⟨hi, hT, hkc, hNc⟩
    (conv => whnf); refine brn (fun g => ?_) (fun g => ?_)
    · have g' : i < 0 := by have := of_decide_eq_true g; dsimp only at this; omega
      refine zX ?_
      refine ⟨M.minus fun y => y = bt, hNc.le, ?_⟩
      refine zR ?_
      refine (take_ok hT (m := 256) (by decide) (by decide)).mono ?_
      rintro u M5 ⟨rfl, h5, hk5⟩
      have hN5 := NewSl.take hNc hT hk5
      refine zT (hN5.le) ?_
      (conv => whnf)
      refine appK _ _ hN5 (by first | omega | (dsimp only; omega)) (by unfold maxLen; dsimp only; omega) (by intro u hu; simp at hu; subst hu; rfl) (fun q6 c6 M6 h6 hk6 => ?_)
      have hT6 := h5.app hBM hN5 h6 hk6
      have hkc6 : Mem.keep (fun y => y = bt) M M6 := Mem.keep_minus.2 h6.le
      erw [show [Value.int IntKind.u8 (IntKind.u8.wrap ((tkV P ((v + 1) + i) 256 : Nat) : Int))] = [P.getD ((v + 1) + i) 0].map byteV from congrArg (fun v => [v]) (tk_byte P ((v + 1) + i))] at h6
      rw [← List.map_append, ← bytesP_succ] at h6
      refine zT (h6.le) ?_
      refine zR ?_
      refine obr (inR_i64 (by first | omega | (dsimp only; omega))) ?_
      (conv => whnf)
      exact ⟨⟨i + 1, M6, q6, c6⟩, ⟨by omega, hT6, hkc6, h6⟩, by dsimp only; omega, zS⟩
    · have g' : i = 0 := by have := of_decide_eq_false g; dsimp only at this; omega
      refine zR ?_
      (conv => whnf)
      subst g'
      refine ⟨q, cq, ?_, ?_, hkc, ?_⟩
      · rw [hst]; simp only [stepQ, stpC, bytesP_len, Int.one_mul]; rfl
      · rw [hst]; exact hT
      · rw [hst]; simp only [stepQ, bytesP_len]; exact hNc
  | 3, _ =>
    repeat' ((conv => whnf); first | refine brn_t rfl ?_ | refine brn_f rfl ?_ | refine ob rfl ?_ | refine obr rfl ?_ | refine ob (by decide) ?_ | refine obr (by decide) ?_ | refine brn_t (by kernel_rfl) ?_ | refine brn_f (by kernel_rfl) ?_ | fail)
    refine (take_ok h1 (m := nodes) hN (by omega)).mono ?_
    rintro u M2 ⟨rfl, h2, hk2⟩
    repeat' ((conv => whnf); first | refine brn_t rfl ?_ | refine brn_f rfl ?_ | refine ob rfl ?_ | refine obr rfl ?_ | refine ob (by decide) ?_ | refine obr (by decide) ?_ | refine brn_t (by kernel_rfl) ?_ | refine brn_f (by kernel_rfl) ?_ | fail)
    refine (take_ok h2 (m := nodes) hN (by omega)).mono ?_
    rintro u M3 ⟨rfl, h3, hk3⟩
    repeat' ((conv => whnf); first | refine brn_t rfl ?_ | refine brn_f rfl ?_ | refine ob rfl ?_ | refine obr rfl ?_ | refine ob (by decide) ?_ | refine obr (by decide) ?_ | refine brn_t (by kernel_rfl) ?_ | refine brn_f (by kernel_rfl) ?_ | fail)
    refine (scale_ok 3 (by decide)).mono ?_
    rintro u _ ⟨rfl, rfl⟩
    repeat' ((conv => whnf); first | refine brn_t rfl ?_ | refine brn_f rfl ?_ | refine ob rfl ?_ | refine obr rfl ?_ | refine ob (by decide) ?_ | refine obr (by decide) ?_ | refine brn_t (by kernel_rfl) ?_ | refine brn_f (by kernel_rfl) ?_ | fail)
    refine (take_ok h3 (m := 256) (by decide) (by decide)).mono ?_
    rintro u M4 ⟨rfl, h4, hk4⟩
    have hb := tkV_lt (P := P) (v := v + 1 + 1 + 1) (m := 256) (by decide)
    repeat' ((conv => whnf); first | refine brn_t rfl ?_ | refine brn_f rfl ?_ | refine ob rfl ?_ | refine obr rfl ?_ | refine ob (by decide) ?_ | refine obr (by decide) ?_ | refine brn_t (by kernel_rfl) ?_ | refine brn_f (by kernel_rfl) ?_ | fail)
    refine obr (inR_i64 (by first | omega | (simp; omega))) ?_
    have hkM := (Mem.keep_trans hk1 (Mem.keep_trans hk2 (Mem.keep_trans hk3 hk4)))
    repeat' ((conv => whnf); first | refine brn_t rfl ?_ | refine brn_f rfl ?_ | refine ob rfl ?_ | refine obr rfl ?_ | refine ob (by decide) ?_ | refine obr (by decide) ?_ | refine brn_t (by kernel_rfl) ?_ | refine brn_f (by kernel_rfl) ?_ | fail)
    have hMany : 0 ≤ 64 := (Nat.zero_le _)
    refine loopF (σ := Nat × Mem × Option Addr × Nat) [64] (fun y => [(64, .int .i64 y.1)]) (fun y => [BE.live T.api_Step [SC.v (S.i 0), SC.v (S.i 0), SC.v (S.i 0), SC.v (S.i 0), SC.v S.sn], BE.live T.api_Step [SC.v (.int .i64 (1 + ((3 : Nat) : Int))), SC.v (.int .i64 ((tkV P (v + 1) nodes : Nat) : Int)), SC.v (.int .i64 ((tkV P (v + 1 + 1) nodes : Nat) : Int)), SC.v (.int .i64 (1 * ((tkV P (v + 1 + 1 + 1) 256 : Nat) : Int))), SC.v (.slice y.2.2.1 y.1 y.2.2.2)]]) (fun y => y.2.1)
      (fun | ⟨i, Mc, q, cq⟩ => i ≤ 0 ∧ TkAt B Mc bt bp a n c P ((v + 1 + 1 + 1 + 1) + i) ∧ Mem.keep (fun y => y = bt) M Mc ∧ NewSl (M.minus fun y => y = bt) T.uint8 1 q i cq ((bytesP P (v + 1 + 1 + 1 + 1) i).map byteV) Mc) (fun y => 0 - y.1) ⟨0, M4, none, 0⟩
      ⟨by omega, h4, hkM, (NewSl.none _ _ _).up (Mem.keep_minus.1 hkM)⟩ zS ?_
    rintro ⟨i, Mc, q, cq⟩ ⟨hi, hT, hkc, hNc⟩
    (conv => whnf); refine brn (fun g => ?_) (fun g => ?_)
    · have g' : i < 0 := by have := of_decide_eq_true g; dsimp only at this; omega
      refine zX ?_
      refine ⟨M.minus fun y => y = bt, hNc.le, ?_⟩
      refine zR ?_
      refine (take_ok hT (m := 256) (by decide) (by decide)).mono ?_
      rintro u M5 ⟨rfl, h5, hk5⟩
      have hN5 := NewSl.take hNc hT hk5
      refine zT (hN5.le) ?_
      (conv => whnf)
      refine appK _ _ hN5 (by first | omega | (dsimp only; omega)) (by unfold maxLen; dsimp only; omega) (by intro u hu; simp at hu; subst hu; rfl) (fun q6 c6 M6 h6 hk6 => ?_)
      have hT6 := h5.app hBM hN5 h6 hk6
      have hkc6 : Mem.keep (fun y => y = bt) M M6 := Mem.keep_minus.2 h6.le
      erw [show [Value.int IntKind.u8 (IntKind.u8.wrap ((tkV P ((v + 1 + 1 + 1 + 1) + i) 256 : Nat) : Int))] = [P.getD ((v + 1 + 1 + 1 + 1) + i) 0].map byteV from congrArg (fun v => [v]) (tk_byte P ((v + 1 + 1 + 1 + 1) + i))] at h6
      rw [← List.map_append, ← bytesP_succ] at h6
      refine zT (h6.le) ?_
      refine zR ?_
      refine obr (inR_i64 (by first | omega | (dsimp only; omega))) ?_
      (conv => whnf)
      exact ⟨⟨i + 1, M6, q6, c6⟩, ⟨by omega, hT6, hkc6, h6⟩, by dsimp only; omega, zS⟩
    · have g' : i = 0 := by have := of_decide_eq_false g; dsimp only at this; omega
      refine zR ?_
      (conv => whnf)
      subst g'
      refine ⟨q, cq, ?_, ?_, hkc, ?_⟩
      · rw [hst]; simp only [stepQ, stpC, bytesP_len, Int.one_mul]; rfl
      · rw [hst]; exact hT
      · rw [hst]; simp only [stepQ, bytesP_len]; exact hNc
  | 4, _ =>
    repeat' ((conv => whnf); first | refine brn_t rfl ?_ | refine brn_f rfl ?_ | refine ob rfl ?_ | refine obr rfl ?_ | refine ob (by decide) ?_ | refine obr (by decide) ?_ | refine brn_t (by kernel_rfl) ?_ | refine brn_f (by kernel_rfl) ?_ | fail)
    refine (take_ok h1 (m := nodes) hN (by omega)).mono ?_
    rintro u M2 ⟨rfl, h2, hk2⟩
    repeat' ((conv => whnf); first | refine brn_t rfl ?_ | refine brn_f rfl ?_ | refine ob rfl ?_ | refine obr rfl ?_ | refine ob (by decide) ?_ | refine obr (by decide) ?_ | refine brn_t (by kernel_rfl) ?_ | refine brn_f (by kernel_rfl) ?_ | fail)
    refine (take_ok h2 (m := nodes) hN (by omega)).mono ?_
    rintro u M3 ⟨rfl, h3, hk3⟩
    repeat' ((conv => whnf); first | refine brn_t rfl ?_ | refine brn_f rfl ?_ | refine ob rfl ?_ | refine obr rfl ?_ | refine ob (by decide) ?_ | refine obr (by decide) ?_ | refine brn_t (by kernel_rfl) ?_ | refine brn_f (by kernel_rfl) ?_ | fail)
    refine (scale_ok 4 (by decide)).mono ?_
    rintro u _ ⟨rfl, rfl⟩
    repeat' ((conv => whnf); first | refine brn_t rfl ?_ | refine brn_f rfl ?_ | refine ob rfl ?_ | refine obr rfl ?_ | refine ob (by decide) ?_ | refine obr (by decide) ?_ | refine brn_t (by kernel_rfl) ?_ | refine brn_f (by kernel_rfl) ?_ | fail)
    refine (take_ok h3 (m := 256) (by decide) (by decide)).mono ?_
    rintro u M4 ⟨rfl, h4, hk4⟩
    have hb := tkV_lt (P := P) (v := v + 1 + 1 + 1) (m := 256) (by decide)
    repeat' ((conv => whnf); first | refine brn_t rfl ?_ | refine brn_f rfl ?_ | refine ob rfl ?_ | refine obr rfl ?_ | refine ob (by decide) ?_ | refine obr (by decide) ?_ | refine brn_t (by kernel_rfl) ?_ | refine brn_f (by kernel_rfl) ?_ | fail)
    refine obr (inR_i64 (by first | omega | (simp; omega))) ?_
    have hkM := (Mem.keep_trans hk1 (Mem.keep_trans hk2 (Mem.keep_trans hk3 hk4)))
    repeat' ((conv => whnf); first | refine brn_t rfl ?_ | refine brn_f rfl ?_ | refine ob rfl ?_ | refine obr rfl ?_ | refine ob (by decide) ?_ | refine obr (by decide) ?_ | refine brn_t (by kernel_rfl) ?_ | refine brn_f (by kernel_rfl) ?_ | fail)
    have hMany : 1 ≤ 64 := (by decide)
    refine loopF (σ := Nat × Mem × Option Addr × Nat) [64] (fun y => [(64, .int .i64 y.1)]) (fun y => [BE.live T.api_Step [SC.v (S.i 0), SC.v (S.i 0), SC.v (S.i 0), SC.v (S.i 0), SC.v S.sn], BE.live T.api_Step [SC.v (.int .i64 (1 + ((4 : Nat) : Int))), SC.v (.int .i64 ((tkV P (v + 1) nodes : Nat) : Int)), SC.v (.int .i64 ((tkV P (v + 1 + 1) nodes : Nat) : Int)), SC.v (.int .i64 (1 * ((tkV P (v + 1 + 1 + 1) 256 : Nat) : Int))), SC.v (.slice y.2.2.1 y.1 y.2.2.2)]]) (fun y => y.2.1)
      (fun | ⟨i, Mc, q, cq⟩ => i ≤ 1 ∧ TkAt B Mc bt bp a n c P ((v + 1 + 1 + 1 + 1) + i) ∧ Mem.keep (fun y => y = bt) M Mc ∧ NewSl (M.minus fun y => y = bt) T.uint8 1 q i cq ((bytesP P (v + 1 + 1 + 1 + 1) i).map byteV) Mc) (fun y => 1 - y.1) ⟨0, M4, none, 0⟩
      ⟨by omega, h4, hkM, (NewSl.none _ _ _).up (Mem.keep_minus.1 hkM)⟩ zS ?_
    rintro ⟨i, Mc, q, cq⟩ ⟨hi, hT, hkc, hNc⟩
    (conv => whnf); refine brn (fun g => ?_) (fun g => ?_)
    · have g' : i < 1 := by have := of_decide_eq_true g; dsimp only at this; omega
      refine zX ?_
      refine ⟨M.minus fun y => y = bt, hNc.le, ?_⟩
      refine zR ?_
      refine (take_ok hT (m := 256) (by decide) (by decide)).mono ?_
      rintro u M5 ⟨rfl, h5, hk5⟩
      have hN5 := NewSl.take hNc hT hk5
      refine zT (hN5.le) ?_
      (conv => whnf)
      refine appK _ _ hN5 (by first | omega | (dsimp only; omega)) (by unfold maxLen; dsimp only; omega) (by intro u hu; simp at hu; subst hu; rfl) (fun q6 c6 M6 h6 hk6 => ?_)
      have hT6 := h5.app hBM hN5 h6 hk6
      have hkc6 : Mem.keep (fun y => y = bt) M M6 := Mem.keep_minus.2 h6.le
      erw [show [Value.int IntKind.u8 (IntKind.u8.wrap ((tkV P ((v + 1 + 1 + 1 + 1) + i) 256 : Nat) : Int))] = [P.getD ((v + 1 + 1 + 1 + 1) + i) 0].map byteV from congrArg (fun v => [v]) (tk_byte P ((v + 1 + 1 + 1 + 1) + i))] at h6
      rw [← List.map_append, ← bytesP_succ] at h6
      refine zT (h6.le) ?_
      refine zR ?_
      refine obr (inR_i64 (by first | omega | (dsimp only; omega))) ?_
      (conv => whnf)
      exact ⟨⟨i + 1, M6, q6, c6⟩, ⟨by omega, hT6, hkc6, h6⟩, by dsimp only; omega, zS⟩
    · have g' : i = 1 := by have := of_decide_eq_false g; dsimp only at this; omega
      refine zR ?_
      (conv => whnf)
      subst g'
      refine ⟨q, cq, ?_, ?_, hkc, ?_⟩
      · rw [hst]; simp only [stepQ, stpC, bytesP_len, Int.one_mul]; rfl
      · rw [hst]; exact hT
      · rw [hst]; simp only [stepQ, bytesP_len]; exact hNc
  | 5, _ =>
    repeat' ((conv => whnf); first | refine brn_t rfl ?_ | refine brn_f rfl ?_ | refine ob rfl ?_ | refine obr rfl ?_ | refine ob (by decide) ?_ | refine obr (by decide) ?_ | refine brn_t (by kernel_rfl) ?_ | refine brn_f (by kernel_rfl) ?_ | fail)
    refine (take_ok h1 (m := nodes) hN (by omega)).mono ?_
    rintro u M2 ⟨rfl, h2, hk2⟩
    repeat' ((conv => whnf); first | refine brn_t rfl ?_ | refine brn_f rfl ?_ | refine ob rfl ?_ | refine obr rfl ?_ | refine ob (by decide) ?_ | refine obr (by decide) ?_ | refine brn_t (by kernel_rfl) ?_ | refine brn_f (by kernel_rfl) ?_ | fail)
    refine (take_ok h2 (m := nodes) hN (by omega)).mono ?_
    rintro u M3 ⟨rfl, h3, hk3⟩
    repeat' ((conv => whnf); first | refine brn_t rfl ?_ | refine brn_f rfl ?_ | refine ob rfl ?_ | refine obr rfl ?_ | refine ob (by decide) ?_ | refine obr (by decide) ?_ | refine brn_t (by kernel_rfl) ?_ | refine brn_f (by kernel_rfl) ?_ | fail)
    refine (scale_ok 5 (by decide)).mono ?_
    rintro u _ ⟨rfl, rfl⟩
    repeat' ((conv => whnf); first | refine brn_t rfl ?_ | refine brn_f rfl ?_ | refine ob rfl ?_ | refine obr rfl ?_ | refine ob (by decide) ?_ | refine obr (by decide) ?_ | refine brn_t (by kernel_rfl) ?_ | refine brn_f (by kernel_rfl) ?_ | fail)
    refine (take_ok h3 (m := 256) (by decide) (by decide)).mono ?_
    rintro u M4 ⟨rfl, h4, hk4⟩
    have hb := tkV_lt (P := P) (v := v + 1 + 1 + 1) (m := 256) (by decide)
    repeat' ((conv => whnf); first | refine brn_t rfl ?_ | refine brn_f rfl ?_ | refine ob rfl ?_ | refine obr rfl ?_ | refine ob (by decide) ?_ | refine obr (by decide) ?_ | refine brn_t (by kernel_rfl) ?_ | refine brn_f (by kernel_rfl) ?_ | fail)
    refine obr (inR_i64 (by first | omega | (simp; omega))) ?_
    have hkM := (Mem.keep_trans hk1 (Mem.keep_trans hk2 (Mem.keep_trans hk3 hk4)))
    repeat' ((conv => whnf); first | refine brn_t rfl ?_ | refine brn_f rfl ?_ | refine ob rfl ?_ | refine obr rfl ?_ | refine ob (by decide) ?_ | refine obr (by decide) ?_ | refine brn_t (by kernel_rfl) ?_ | refine brn_f (by kernel_rfl) ?_ | fail)
    have hMany : 1 ≤ 64 := (by decide)
    refine loopF (σ := Nat × Mem × Option Addr × Nat) [64] (fun y => [(64, .int .i64 y.1)]) (fun y => [BE.live T.api_Step [SC.v (S.i 0), SC.v (S.i 0), SC.v (S.i 0), SC.v (S.i 0), SC.v S.sn], BE.live T.api_Step [SC.v (.int .i64 (1 + ((5 : Nat) : Int))), SC.v (.int .i64 ((tkV P (v + 1) nodes : Nat) : Int)), SC.v (.int .i64 ((tkV P (v + 1 + 1) nodes : Nat) : Int)), SC.v (.int .i64 (1 * ((tkV P (v + 1 + 1 + 1) 256 : Nat) : Int))), SC.v (.slice y.2.2.1 y.1 y.2.2.2)]]) (fun y => y.2.1)
      (fun | ⟨i, Mc, q, cq⟩ => i ≤ 1 ∧ TkAt B Mc bt bp a n c P ((v + 1 + 1 + 1 + 1) + i) ∧ Mem.keep (fun y => y = bt) M Mc ∧ NewSl (M.minus fun y => y = bt) T.uint8 1 q i cq ((bytesP P (v + 1 + 1 + 1 + 1) i).map byteV) Mc) (fun y => 1 - y.1) ⟨0, M4, none, 0⟩
      ⟨by omega, h4, hkM, (NewSl.none _ _ _).up (Mem.keep_minus.1 hkM)⟩ zS ?_
    rintro ⟨i, Mc, q, cq⟩ ⟨hi, hT, hkc, hNc⟩
    (conv => whnf); refine brn (fun g => ?_) (fun g => ?_)
    · have g' : i < 1 := by have := of_decide_eq_true g; dsimp only at this; omega
      refine zX ?_
      refine ⟨M.minus fun y => y = bt, hNc.le, ?_⟩
      refine zR ?_
      refine (take_ok hT (m := 256) (by decide) (by decide)).mono ?_
      rintro u M5 ⟨rfl, h5, hk5⟩
      have hN5 := NewSl.take hNc hT hk5
      refine zT (hN5.le) ?_
      (conv => whnf)
      refine appK _ _ hN5 (by first | omega | (dsimp only; omega)) (by unfold maxLen; dsimp only; omega) (by intro u hu; simp at hu; subst hu; rfl) (fun q6 c6 M6 h6 hk6 => ?_)
      have hT6 := h5.app hBM hN5 h6 hk6
      have hkc6 : Mem.keep (fun y => y = bt) M M6 := Mem.keep_minus.2 h6.le
      erw [show [Value.int IntKind.u8 (IntKind.u8.wrap ((tkV P ((v + 1 + 1 + 1 + 1) + i) 256 : Nat) : Int))] = [P.getD ((v + 1 + 1 + 1 + 1) + i) 0].map byteV from congrArg (fun v => [v]) (tk_byte P ((v + 1 + 1 + 1 + 1) + i))] at h6
      rw [← List.map_append, ← bytesP_succ] at h6
      refine zT (h6.le) ?_
      refine zR ?_
      refine obr (inR_i64 (by first | omega | (dsimp only; omega))) ?_
      (conv => whnf)
      exact ⟨⟨i + 1, M6, q6, c6⟩, ⟨by omega, hT6, hkc6, h6⟩, by dsimp only; omega, zS⟩
    · have g' : i = 1 := by have := of_decide_eq_false g; dsimp only at this; omega
      refine zR ?_
      (conv => whnf)
      subst g'
      refine ⟨q, cq, ?_, ?_, hkc, ?_⟩
      · rw [hst]; simp only [stepQ, stpC, bytesP_len, Int.one_mul]; rfl
      · rw [hst]; exact hT
      · rw [hst]; simp only [stepQ, bytesP_len]; exact hNc
  | 6, _ =>
    repeat' ((conv => whnf); first | refine brn_t rfl ?_ | refine brn_f rfl ?_ | refine ob rfl ?_ | refine obr rfl ?_ | refine ob (by decide) ?_ | refine obr (by decide) ?_ | refine brn_t (by kernel_rfl) ?_ | refine brn_f (by kernel_rfl) ?_ | fail)
    refine (take_ok h1 (m := nodes) hN (by omega)).mono ?_
    rintro u M2 ⟨rfl, h2, hk2⟩
    repeat' ((conv => whnf); first | refine brn_t rfl ?_ | refine brn_f rfl ?_ | refine ob rfl ?_ | refine obr rfl ?_ | refine ob (by decide) ?_ | refine obr (by decide) ?_ | refine brn_t (by kernel_rfl) ?_ | refine brn_f (by kernel_rfl) ?_ | fail)
    refine (most_ok 6 (by decide)).mono ?_
    rintro u _ ⟨rfl, rfl⟩
    repeat' ((conv => whnf); first | refine brn_t rfl ?_ | refine brn_f rfl ?_ | refine ob rfl ?_ | refine obr rfl ?_ | refine ob (by decide) ?_ | refine obr (by decide) ?_ | refine brn_t (by kernel_rfl) ?_ | refine brn_f (by kernel_rfl) ?_ | fail)
    refine (take_ok h2 (m := 8) (by decide) (by decide)).mono ?_
    rintro u M3 ⟨rfl, h3, hk3⟩
    have hkM := (Mem.keep_trans hk1 (Mem.keep_trans hk2 hk3))
    repeat' ((conv => whnf); first | refine brn_t rfl ?_ | refine brn_f rfl ?_ | refine ob rfl ?_ | refine obr rfl ?_ | refine ob (by decide) ?_ | refine obr (by decide) ?_ | refine brn_t (by kernel_rfl) ?_ | refine brn_f (by kernel_rfl) ?_ | fail)
    have hMany : (tkV P (v + 1 + 1) 8) ≤ 64 := (Nat.le_trans (Nat.le_of_lt (tkV_lt (by decide))) (by decide))
    refine loopF (σ := Nat × Mem × Option Addr × Nat) [64] (fun y => [(64, .int .i64 y.1)]) (fun y => [BE.live T.api_Step [SC.v (S.i 0), SC.v (S.i 0), SC.v (S.i 0), SC.v (S.i 0), SC.v S.sn], BE.live T.api_Step [SC.v (.int .i64 (1 + ((6 : Nat) : Int))), SC.v (.int .i64 ((tkV P (v + 1) nodes : Nat) : Int)), SC.v (.int .i64 0), SC.v (.int .i64 0), SC.v (.slice y.2.2.1 y.1 y.2.2.2)]]) (fun y => y.2.1)
      (fun | ⟨i, Mc, q, cq⟩ => i ≤ (tkV P (v + 1 + 1) 8) ∧ TkAt B Mc bt bp a n c P ((v + 1 + 1 + 1) + i) ∧ Mem.keep (fun y => y = bt) M Mc ∧ NewSl (M.minus fun y => y = bt) T.uint8 1 q i cq ((bytesP P (v + 1 + 1 + 1) i).map byteV) Mc) (fun y => (tkV P (v + 1 + 1) 8) - y.1) ⟨0, M3, none, 0⟩
      ⟨by omega, h3, hkM, (NewSl.none _ _ _).up (Mem.keep_minus.1 hkM)⟩ zS ?_
    rintro ⟨i, Mc, q, cq⟩ ⟨hi, hT, hkc, hNc⟩
    (conv => whnf); refine brn (fun g => ?_) (fun g => ?_)
    · have g' : i < (tkV P (v + 1 + 1) 8) := by have := of_decide_eq_true g; dsimp only at this; omega
      refine zX ?_
      refine ⟨M.minus fun y => y = bt, hNc.le, ?_⟩
      refine zR ?_
      refine (take_ok hT (m := 256) (by decide) (by decide)).mono ?_
      rintro u M5 ⟨rfl, h5, hk5⟩
      have hN5 := NewSl.take hNc hT hk5
      refine zT (hN5.le) ?_
      (conv => whnf)
      refine appK _ _ hN5 (by first | omega | (dsimp only; omega)) (by unfold maxLen; dsimp only; omega) (by intro u hu; simp at hu; subst hu; rfl) (fun q6 c6 M6 h6 hk6 => ?_)
      have hT6 := h5.app hBM hN5 h6 hk6
      have hkc6 : Mem.keep (fun y => y = bt) M M6 := Mem.keep_minus.2 h6.le
      erw [show [Value.int IntKind.u8 (IntKind.u8.wrap ((tkV P ((v + 1 + 1 + 1) + i) 256 : Nat) : Int))] = [P.getD ((v + 1 + 1 + 1) + i) 0].map byteV from congrArg (fun v => [v]) (tk_byte P ((v + 1 + 1 + 1) + i))] at h6
      rw [← List.map_append, ← bytesP_succ] at h6
      refine zT (h6.le) ?_
      refine zR ?_
      refine obr (inR_i64 (by first | omega | (dsimp only; omega))) ?_
      (conv => whnf)
      exact ⟨⟨i + 1, M6, q6, c6⟩, ⟨by omega, hT6, hkc6, h6⟩, by dsimp only; omega, zS⟩
    · have g' : i = (tkV P (v + 1 + 1) 8) := by have := of_decide_eq_false g; dsimp only at this; omega
      refine zR ?_
      (conv => whnf)
      subst g'
      refine ⟨q, cq, ?_, ?_, hkc, ?_⟩
      · rw [hst]; simp only [stepQ, stpC, bytesP_len, Int.one_mul]; rfl
      · rw [hst]; exact hT
      · rw [hst]; simp only [stepQ, bytesP_len]; exact hNc
  | 8, _ =>
    repeat' ((conv => whnf); first | refine brn_t rfl ?_ | refine brn_f rfl ?_ | refine ob rfl ?_ | refine obr rfl ?_ | refine ob (by decide) ?_ | refine obr (by decide) ?_ | refine brn_t (by kernel_rfl) ?_ | refine brn_f (by kernel_rfl) ?_ | fail)
    refine (take_ok h1 (m := nodes) hN (by omega)).mono ?_
    rintro u M2 ⟨rfl, h2, hk2⟩
    repeat' ((conv => whnf); first | refine brn_t rfl ?_ | refine brn_f rfl ?_ | refine ob rfl ?_ | refine obr rfl ?_ | refine ob (by decide) ?_ | refine obr (by decide) ?_ | refine brn_t (by kernel_rfl) ?_ | refine brn_f (by kernel_rfl) ?_ | fail)
    refine (scale_ok 8 (by decide)).mono ?_
    rintro u _ ⟨rfl, rfl⟩
    repeat' ((conv => whnf); first | refine brn_t rfl ?_ | refine brn_f rfl ?_ | refine ob rfl ?_ | refine obr rfl ?_ | refine ob (by decide) ?_ | refine obr (by decide) ?_ | refine brn_t (by kernel_rfl) ?_ | refine brn_f (by kernel_rfl) ?_ | fail)
    refine (take_ok h2 (m := 256) (by decide) (by decide)).mono ?_
    rintro u M3 ⟨rfl, h3, hk3⟩
    have hb := tkV_lt (P := P) (v := v + 1 + 1) (m := 256) (by decide)
    repeat' ((conv => whnf); first | refine brn_t rfl ?_ | refine brn_f rfl ?_ | refine ob rfl ?_ | refine obr rfl ?_ | refine ob (by decide) ?_ | refine obr (by decide) ?_ | refine brn_t (by kernel_rfl) ?_ | refine brn_f (by kernel_rfl) ?_ | fail)
    refine obr (inR_i64 (by first | omega | (simp; omega))) ?_
    have hkM := (Mem.keep_trans hk1 (Mem.keep_trans hk2 hk3))
    repeat' ((conv => whnf); first | refine brn_t rfl ?_ | refine brn_f rfl ?_ | refine ob rfl ?_ | refine obr rfl ?_ | refine ob (by decide) ?_ | refine obr (by decide) ?_ | refine brn_t (by kernel_rfl) ?_ | refine brn_f (by kernel_rfl) ?_ | fail)
    have hMany : 0 ≤ 64 := (Nat.zero_le _)
    refine loopF (σ := Nat × Mem × Option Addr × Nat) [64] (fun y => [(64, .int .i64 y.1)]) (fun y => [BE.live T.api_Step [SC.v (S.i 0), SC.v (S.i 0), SC.v (S.i 0), SC.v (S.i 0), SC.v S.sn], BE.live T.api_Step [SC.v (.int .i64 (1 + ((8 : Nat) : Int))), SC.v (.int .i64 ((tkV P (v + 1) nodes : Nat) : Int)), SC.v (.int .i64 0), SC.v (.int .i64 (256 * ((tkV P (v + 1 + 1) 256 : Nat) : Int))), SC.v (.slice y.2.2.1 y.1 y.2.2.2)]]) (fun y => y.2.1)
      (fun | ⟨i, Mc, q, cq⟩ => i ≤ 0 ∧ TkAt B Mc bt bp a n c P ((v + 1 + 1 + 1) + i) ∧ Mem.keep (fun y => y = bt) M Mc ∧ NewSl (M.minus fun y => y = bt) T.uint8 1 q i cq ((bytesP P (v + 1 + 1 + 1) i).map byteV) Mc) (fun y => 0 - y.1) ⟨0, M3, none, 0⟩
      ⟨by omega, h3, hkM, (NewSl.none _ _ _).up (Mem.keep_minus.1 hkM)⟩ zS ?_
    rintro ⟨i, Mc, q, cq⟩ ⟨hi, hT, hkc, hNc⟩
    (conv => whnf); refine brn (fun g => ?_) (fun g => ?_)
    · have g' : i < 0 := by have := of_decide_eq_true g; dsimp only at this; omega
      refine zX ?_
      refine ⟨M.minus fun y => y = bt, hNc.le, ?_⟩
      refine zR ?_
      refine (take_ok hT (m := 256) (by decide) (by decide)).mono ?_
      rintro u M5 ⟨rfl, h5, hk5⟩
      have hN5 := NewSl.take hNc hT hk5
      refine zT (hN5.le) ?_
      (conv => whnf)
      refine appK _ _ hN5 (by first | omega | (dsimp only; omega)) (by unfold maxLen; dsimp only; omega) (by intro u hu; simp at hu; subst hu; rfl) (fun q6 c6 M6 h6 hk6 => ?_)
      have hT6 := h5.app hBM hN5 h6 hk6
      have hkc6 : Mem.keep (fun y => y = bt) M M6 := Mem.keep_minus.2 h6.le
      erw [show [Value.int IntKind.u8 (IntKind.u8.wrap ((tkV P ((v + 1 + 1 + 1) + i) 256 : Nat) : Int))] = [P.getD ((v + 1 + 1 + 1) + i) 0].map byteV from congrArg (fun v => [v]) (tk_byte P ((v + 1 + 1 + 1) + i))] at h6
      rw [← List.map_append, ← bytesP_succ] at h6
      refine zT (h6.le) ?_
      refine zR ?_
      refine obr (inR_i64 (by first | omega | (dsimp only; omega))) ?_
      (conv => whnf)
      exact ⟨⟨i + 1, M6, q6, c6⟩, ⟨by omega, hT6, hkc6, h6⟩, by dsimp only; omega, zS⟩
    · have g' : i = 0 := by have := of_decide_eq_false g; dsimp only at this; omega
      refine zR ?_
      (conv => whnf)
      subst g'
      refine ⟨q, cq, ?_, ?_, hkc, ?_⟩
      · rw [hst]; simp only [stepQ, stpC, bytesP_len, Int.one_mul]; rfl
      · rw [hst]; exact hT
      · rw [hst]; simp only [stepQ, bytesP_len]; exact hNc
  | 10, _ =>
    repeat' ((conv => whnf); first | refine brn_t rfl ?_ | refine brn_f rfl ?_ | refine ob rfl ?_ | refine obr rfl ?_ | refine ob (by decide) ?_ | refine obr (by decide) ?_ | refine brn_t (by kernel_rfl) ?_ | refine brn_f (by kernel_rfl) ?_ | fail)
    refine (take_ok h1 (m := nodes) hN (by omega)).mono ?_
    rintro u M2 ⟨rfl, h2, hk2⟩
    repeat' ((conv => whnf); first | refine brn_t rfl ?_ | refine brn_f rfl ?_ | refine ob rfl ?_ | refine obr rfl ?_ | refine ob (by decide) ?_ | refine obr (by decide) ?_ | refine brn_t (by kernel_rfl) ?_ | refine brn_f (by kernel_rfl) ?_ | fail)
    refine (scale_ok 10 (by decide)).mono ?_
    rintro u _ ⟨rfl, rfl⟩
    repeat' ((conv => whnf); first | refine brn_t rfl ?_ | refine brn_f rfl ?_ | refine ob rfl ?_ | refine obr rfl ?_ | refine ob (by decide) ?_ | refine obr (by decide) ?_ | refine brn_t (by kernel_rfl) ?_ | refine brn_f (by kernel_rfl) ?_ | fail)
    refine (take_ok h2 (m := 64) (by decide) (by decide)).mono ?_
    rintro u M3 ⟨rfl, h3, hk3⟩
    have hb := tkV_lt (P := P) (v := v + 1 + 1) (m := 64) (by decide)
    repeat' ((conv => whnf); first | refine brn_t rfl ?_ | refine brn_f rfl ?_ | refine ob rfl ?_ | refine obr rfl ?_ | refine ob (by decide) ?_ | refine obr (by decide) ?_ | refine brn_t (by kernel_rfl) ?_ | refine brn_f (by kernel_rfl) ?_ | fail)
    refine obr (inR_i64 (by first | omega | (simp; omega))) ?_
    have hkM := (Mem.keep_trans hk1 (Mem.keep_trans hk2 hk3))
    repeat' ((conv => whnf); first | refine brn_t rfl ?_ | refine brn_f rfl ?_ | refine ob rfl ?_ | refine obr rfl ?_ | refine ob (by decide) ?_ | refine obr (by decide) ?_ | refine brn_t (by kernel_rfl) ?_ | refine brn_f (by kernel_rfl) ?_ | fail)
    have hMany : 0 ≤ 64 := (Nat.zero_le _)
    refine loopF (σ := Nat × Mem × Option Addr × Nat) [64] (fun y => [(64, .int .i64 y.1)]) (fun y => [BE.live T.api_Step [SC.v (S.i 0), SC.v (S.i 0), SC.v (S.i 0), SC.v (S.i 0), SC.v S.sn], BE.live T.api_Step [SC.v (.int .i64 (1 + ((10 : Nat) : Int))), SC.v (.int .i64 ((tkV P (v + 1) nodes : Nat) : Int)), SC.v (.int .i64 0), SC.v (.int .i64 (1 * ((tkV P (v + 1 + 1) 64 : Nat) : Int))), SC.v (.slice y.2.2.1 y.1 y.2.2.2)]]) (fun y => y.2.1)
      (fun | ⟨i, Mc, q, cq⟩ => i ≤ 0 ∧ TkAt B Mc bt bp a n c P ((v + 1 + 1 + 1) + i) ∧ Mem.keep (fun y => y = bt) M Mc ∧ NewSl (M.minus fun y => y = bt) T.uint8 1 q i cq ((bytesP P (v + 1 + 1 + 1) i).map byteV) Mc) (fun y => 0 - y.1) ⟨0, M3, none, 0⟩
      ⟨by omega, h3, hkM, (NewSl.none _ _ _).up (Mem.keep_minus.1 hkM)⟩ zS ?_
    rintro ⟨i, Mc, q, cq⟩ ⟨hi, hT, hkc, hNc⟩
    (conv => whnf); refine brn (fun g => ?_) (fun g => ?_)
    · have g' : i < 0 := by have := of_decide_eq_true g; dsimp only at this; omega
      refine zX ?_
      refine ⟨M.minus fun y => y = bt, hNc.le, ?_⟩
      refine zR ?_
      refine (take_ok hT (m := 256) (by decide) (by decide)).mono ?_
      rintro u M5 ⟨rfl, h5, hk5⟩
      have hN5 := NewSl.take hNc hT hk5
      refine zT (hN5.le) ?_
      (conv => whnf)
      refine appK _ _ hN5 (by first | omega | (dsimp only; omega)) (by unfold maxLen; dsimp only; omega) (by intro u hu; simp at hu; subst hu; rfl) (fun q6 c6 M6 h6 hk6 => ?_)
      have hT6 := h5.app hBM hN5 h6 hk6
      have hkc6 : Mem.keep (fun y => y = bt) M M6 := Mem.keep_minus.2 h6.le
      erw [show [Value.int IntKind.u8 (IntKind.u8.wrap ((tkV P ((v + 1 + 1 + 1) + i) 256 : Nat) : Int))] = [P.getD ((v + 1 + 1 + 1) + i) 0].map byteV from congrArg (fun v => [v]) (tk_byte P ((v + 1 + 1 + 1) + i))] at h6
      rw [← List.map_append, ← bytesP_succ] at h6
      refine zT (h6.le) ?_
      refine zR ?_
      refine obr (inR_i64 (by first | omega | (dsimp only; omega))) ?_
      (conv => whnf)
      exact ⟨⟨i + 1, M6, q6, c6⟩, ⟨by omega, hT6, hkc6, h6⟩, by dsimp only; omega, zS⟩
    · have g' : i = 0 := by have := of_decide_eq_false g; dsimp only at this; omega
      refine zR ?_
      (conv => whnf)
      subst g'
      refine ⟨q, cq, ?_, ?_, hkc, ?_⟩
      · rw [hst]; simp only [stepQ, stpC, bytesP_len, Int.one_mul]; rfl
      · rw [hst]; exact hT
      · rw [hst]; simp only [stepQ, bytesP_len]; exact hNc
  | 11, _ =>
    repeat' ((conv => whnf); first | refine brn_t rfl ?_ | refine brn_f rfl ?_ | refine ob rfl ?_ | refine obr rfl ?_ | refine ob (by decide) ?_ | refine obr (by decide) ?_ | refine brn_t (by kernel_rfl) ?_ | refine brn_f (by kernel_rfl) ?_ | fail)
    refine (scale_ok 11 (by decide)).mono ?_
    rintro u _ ⟨rfl, rfl⟩
    repeat' ((conv => whnf); first | refine brn_t rfl ?_ | refine brn_f rfl ?_ | refine ob rfl ?_ | refine obr rfl ?_ | refine ob (by decide) ?_ | refine obr (by decide) ?_ | refine brn_t (by kernel_rfl) ?_ | refine brn_f (by kernel_rfl) ?_ | fail)
    refine (take_ok h1 (m := 256) (by decide) (by decide)).mono ?_
    rintro u M2 ⟨rfl, h2, hk2⟩
    have hb := tkV_lt (P := P) (v := v + 1) (m := 256) (by decide)
    repeat' ((conv => whnf); first | refine brn_t rfl ?_ | refine brn_f rfl ?_ | refine ob rfl ?_ | refine obr rfl ?_ | refine ob (by decide) ?_ | refine obr (by decide) ?_ | refine brn_t (by kernel_rfl) ?_ | refine brn_f (by kernel_rfl) ?_ | fail)
    refine obr (inR_i64 (by first | omega | (simp; omega))) ?_
    have hkM := (Mem.keep_trans hk1 hk2)
    repeat' ((conv => whnf); first | refine brn_t rfl ?_ | refine brn_f rfl ?_ | refine ob rfl ?_ | refine obr rfl ?_ | refine ob (by decide) ?_ | refine obr (by decide) ?_ | refine brn_t (by kernel_rfl) ?_ | refine brn_f (by kernel_rfl) ?_ | fail)
    have hMany : 0 ≤ 64 := (Nat.zero_le _)
    refine loopF (σ := Nat × Mem × Option Addr × Nat) [64] (fun y => [(64, .int .i64 y.1)]) (fun y => [BE.live T.api_Step [SC.v (S.i 0), SC.v (S.i 0), SC.v (S.i 0), SC.v (S.i 0), SC.v S.sn], BE.live T.api_Step [SC.v (.int .i64 (1 + ((11 : Nat) : Int))), SC.v (.int .i64 0), SC.v (.int .i64 0), SC.v (.int .i64 (1 * ((tkV P (v + 1) 256 : Nat) : Int))), SC.v (.slice y.2.2.1 y.1 y.2.2.2)]]) (fun y => y.2.1)
      (fun | ⟨i, Mc, q, cq⟩ => i ≤ 0 ∧ TkAt B Mc bt bp a n c P ((v + 1 + 1) + i) ∧ Mem.keep (fun y => y = bt) M Mc ∧ NewSl (M.minus fun y => y = bt) T.uint8 1 q i cq ((bytesP P (v + 1 + 1) i).map byteV) Mc) (fun y => 0 - y.1) ⟨0, M2, none, 0⟩
      ⟨by omega, h2, hkM, (NewSl.none _ _ _).up (Mem.keep_minus.1 hkM)⟩ zS ?_
    rintro ⟨i, Mc, q, cq⟩ ⟨hi, hT, hkc, hNc⟩
    (conv => whnf); refine brn (fun g => ?_) (fun g => ?_)
    · have g' : i < 0 := by have := of_decide_eq_true g; dsimp only at this; omega
      refine zX ?_
      refine ⟨M.minus fun y => y = bt, hNc.le, ?_⟩
      refine zR ?_
      refine (take_ok hT (m := 256) (by decide) (by decide)).mono ?_
      rintro u M5 ⟨rfl, h5, hk5⟩
      have hN5 := NewSl.take hNc hT hk5
      refine zT (hN5.le) ?_
      (conv => whnf)
      refine appK _ _ hN5 (by first | omega | (dsimp only; omega)) (by unfold maxLen; dsimp only; omega) (by intro u hu; simp at hu; subst hu; rfl) (fun q6 c6 M6 h6 hk6 => ?_)
      have hT6 := h5.app hBM hN5 h6 hk6
      have hkc6 : Mem.keep (fun y => y = bt) M M6 := Mem.keep_minus.2 h6.le
      erw [show [Value.int IntKind.u8 (IntKind.u8.wrap ((tkV P ((v + 1 + 1) + i) 256 : Nat) : Int))] = [P.getD ((v + 1 + 1) + i) 0].map byteV from congrArg (fun v => [v]) (tk_byte P ((v + 1 + 1) + i))] at h6
      rw [← List.map_append, ← bytesP_succ] at h6
      refine zT (h6.le) ?_
      refine zR ?_
      refine obr (inR_i64 (by first | omega | (dsimp only; omega))) ?_
      (conv => whnf)
      exact ⟨⟨i + 1, M6, q6, c6⟩, ⟨by omega, hT6, hkc6, h6⟩, by dsimp only; omega, zS⟩
    · have g' : i = 0 := by have := of_decide_eq_false g; dsimp only at this; omega
      refine zR ?_
      (conv => whnf)
      subst g'
      refine ⟨q, cq, ?_, ?_, hkc, ?_⟩
      · rw [hst]; simp only [stepQ, stpC, bytesP_len, Int.one_mul]; rfl
      · rw [hst]; exact hT
      · rw [hst]; simp only [stepQ, bytesP_len]; exact hNc
  | r + 12, h12 => omega
end
section
variable {M B : Mem}
def lk1 (oth : List (Nat × Nat)) (a b : Nat) : List (Nat × Nat) := if b = a + 1 ∨ (a, b) ∈ oth then [(a, b)] else []
def lkRow (oth : List (Nat × Nat)) (a k : Nat) : List (Nat × Nat) := (List.range k).flatMap fun j => lk1 oth a (a + 1 + j)
def linksP (n : Nat) (oth : List (Nat × Nat)) : List (Nat × Nat) := (List.range n).flatMap fun a => lkRow oth a (n - (a + 1))
def lkPre (n : Nat) (oth : List (Nat × Nat)) (a : Nat) : List (Nat × Nat) := (List.range a).flatMap fun a => lkRow oth a (n - (a + 1))
theorem lkPre_succ (n : Nat) (oth : List (Nat × Nat)) (a : Nat) : lkPre n oth (a + 1) = lkPre n oth a ++ lkRow oth a (n - (a + 1)) := by unfold lkPre; rw [List.range_succ, List.flatMap_append]; simp
theorem lkRow_succ (oth : List (Nat × Nat)) (a k : Nat) : lkRow oth a (k + 1) = lkRow oth a k ++ lk1 oth a (a + 1 + k) := by unfold lkRow; rw [List.range_succ, List.flatMap_append]; simp
theorem lk1_len (oth : List (Nat × Nat)) (a b : Nat) : (lk1 oth a b).length ≤ 1 := by unfold lk1; split <;> simp
theorem lkRow_len (oth : List (Nat × Nat)) (a : Nat) : ∀ k, (lkRow oth a k).length ≤ k
  | 0 => by simp [lkRow]
  | k + 1 => by have := lkRow_len oth a k; have := lk1_len oth a (a + 1 + k); rw [lkRow_succ, List.length_append]; omega
theorem lkPre_len (n : Nat) (oth : List (Nat × Nat)) : ∀ a, (lkPre n oth a).length ≤ a * n
  | 0 => by simp [lkPre]
  | a + 1 => by have := lkPre_len n oth a; have := lkRow_len oth a (n - (a + 1)); rw [lkPre_succ, List.length_append, Nat.succ_mul]; omega
@[reducible] def encL (p : Nat × Nat) : List Value := [.int .i64 (p.1 : Nat), .int .i64 (p.2 : Nat)]
@[reducible] def kvL (p : Nat × Nat) : Value := .agg #[.int .i64 (p.1 : Nat), .int .i64 (p.2 : Nat)]
@[reducible] def vvB (b : Bool) : Value := .bool b
theorem linkKey : KeyOk kvL := by
  intro a b
  obtain ⟨a1, a2⟩ := a
  obtain ⟨b1, b2⟩ := b
  simp only [kvL, sameV, sameCs, if_true, Prod.mk.injEq]
  (repeat' split) <;> simp <;> omega
def OthAt (M : Mem) (mb : Nat) (oth : List (Nat × Nat)) : Prop := ∃ m : List ((Nat × Nat) × Bool), MapAt kvL vvB M mb m ∧ ∀ p, aget m p = if p ∈ oth then some true else none
theorem links_ok {mb : Nat} {oth : List (Nat × Nat)} (hO : OthAt M mb oth) {n : Nat} (hn : n ≤ 64) :
    CallsM Tryz.prog F.script_links [.int .i64 n, .map (some mb)] M fun v M' => ∃ q c, v = .slice q (linksP n oth).length c ∧ NewSl M T.api_Link 2 q (linksP n oth).length c ((linksP n oth).flatMap encL) M' := by
  obtain ⟨m, hM, hm⟩ := hO
  refine fo_script_links (by simp) ?_
  (conv => whnf)
  refine loopF (σ := Nat × Mem × Option Addr × Nat × Nat) [9, 5] (fun y => [(9, .int .i64 y.1), (5, .slice y.2.2.1 y.2.2.2.1 y.2.2.2.2)]) (fun _ => []) (fun y => y.2.1)
    (fun | ⟨a, Mc, q, k, cq⟩ => a ≤ n ∧ k = (lkPre n oth a).length ∧ NewSl M T.api_Link 2 q k cq ((lkPre n oth a).flatMap encL) Mc) (fun y => n - y.1) ⟨0, M, none, 0, 0⟩ ⟨by omega, rfl, NewSl.none M _ _⟩ zS ?_
  rintro ⟨a, Mc, q, k, cq⟩ ⟨ha, hk, hN⟩
  (conv => whnf); refine brn (fun g => ?_) (fun g => ?_)
  · have g' : a < n := by have := of_decide_eq_true g; dsimp only at this; omega
    refine zR ?_
    refine obr (inR_i64 (by first | omega | (dsimp only; omega))) ?_
    (conv => whnf)
    refine loopF (σ := Nat × Mem × Option Addr × Nat × Nat) [7, 5] (fun y => [(7, .int .i64 ((a + 1 + y.1 : Nat) : Int)), (5, .slice y.2.2.1 y.2.2.2.1 y.2.2.2.2)]) (fun _ => []) (fun y => y.2.1)
      (fun | ⟨j, Md, q, k, cq⟩ => a + 1 + j ≤ n ∧ k = (lkPre n oth a ++ lkRow oth a j).length ∧ NewSl M T.api_Link 2 q k cq ((lkPre n oth a ++ lkRow oth a j).flatMap encL) Md) (fun y => n - (a + 1 + y.1)) ⟨0, Mc, q, k, cq⟩ ⟨by omega, by simp [lkRow, hk], by simpa [lkRow] using hN⟩ zS ?_
    rintro ⟨j, Md, q, k, cq⟩ ⟨hj, hk, hN⟩
    have hpl := lkPre_len n oth a
    have hrl := lkRow_len oth a j
    have hnn : a * n ≤ 64 * 64 := Nat.mul_le_mul (by omega) hn
    rw [List.length_append] at hk
    (conv => whnf); refine brn (fun e => ?_) (fun e => ?_)
    · have e' : a + 1 + j < n := by have := of_decide_eq_true e; dsimp only at this; omega
      (conv => whnf); refine obr (inR_i64 (by first | omega | (dsimp only; omega))) ?_
      (conv => whnf); refine brn (fun f => ?_) (fun f => ?_)
      · have f' : j = 0 := by have := of_decide_eq_true f; dsimp only at this; omega
        have hyes : a + 1 + j = a + 1 ∨ (a, a + 1 + j) ∈ oth := .inl (by omega)
        have e1 : lk1 oth a (a + 1 + j) = [(a, a + 1 + j)] := by unfold lk1; rw [if_pos hyes]
        have e2 : (lkPre n oth a ++ lkRow oth a (j + 1)) = (lkPre n oth a ++ lkRow oth a j) ++ [(a, a + 1 + j)] := by rw [lkRow_succ, e1, List.append_assoc]
        refine zR ?_
        refine appF M hN (a, a + 1 + j) rfl (by dsimp only; omega) (by dsimp only; simp [maxLen]; omega) (by intro u hu; simp at hu; rcases hu with rfl | rfl <;> rfl) fun q6 c6 M6 h6 hk6 => ?_
        refine zR ?_
        refine obr (inR_i64 (by first | omega | (dsimp only; omega))) ?_
        (conv => whnf)
        refine ⟨⟨j + 1, M6, q6, k + 1, c6⟩, ⟨by omega, by rw [e2, List.length_append]; simp [hk], by rw [e2]; exact h6⟩, by dsimp only; omega, ?_⟩
        rw [show ((a + 1 + (j + 1) : Nat) : Int) = ((a + 1 + j : Nat) : Int) + 1 by omega]
        exact zS
      · have f' : j ≠ 0 := by have := of_decide_eq_false f; dsimp only at this; omega
        have hMd := hM.mono (fun o ho => hN.le _ _ ho)
        (conv => whnf)
        refine hMd.get linkKey (a, a + 1 + j) (fun hg => ?_) (fun x i hg => ?_)
        · have hno : ¬ (a + 1 + j = a + 1 ∨ (a, a + 1 + j) ∈ oth) := by
            rintro (h | h)
            · omega
            · rw [hm, if_pos h] at hg; cases hg
          have e2 : (lkPre n oth a ++ lkRow oth a (j + 1)) = (lkPre n oth a ++ lkRow oth a j) := by rw [lkRow_succ]; unfold lk1; rw [if_neg hno, List.append_nil]
          refine zR ?_
          refine obr (inR_i64 (by first | omega | (dsimp only; omega))) ?_
          (conv => whnf)
          refine ⟨⟨j + 1, Md, q, k, cq⟩, ⟨by omega, by rw [e2, List.length_append]; exact hk, by rw [e2]; exact hN⟩, by dsimp only; omega, ?_⟩
          rw [show ((a + 1 + (j + 1) : Nat) : Int) = ((a + 1 + j : Nat) : Int) + 1 by omega]
          exact zS
        · have hyes : a + 1 + j = a + 1 ∨ (a, a + 1 + j) ∈ oth := by
            rw [hm] at hg
            split at hg
            · right; assumption
            · cases hg
          have hx : x = true := by rw [hm, if_pos (hyes.resolve_left (by omega))] at hg; cases hg; rfl
          subst hx
          have e1 : lk1 oth a (a + 1 + j) = [(a, a + 1 + j)] := by unfold lk1; rw [if_pos hyes]
          have e2 : (lkPre n oth a ++ lkRow oth a (j + 1)) = (lkPre n oth a ++ lkRow oth a j) ++ [(a, a + 1 + j)] := by rw [lkRow_succ, e1, List.append_assoc]
          refine zR ?_
          refine appF M hN (a, a + 1 + j) rfl (by dsimp only; omega) (by dsimp only; simp [maxLen]; omega) (by intro u hu; simp at hu; rcases hu with rfl | rfl <;> rfl) fun q6 c6 M6 h6 hk6 => ?_
          refine zR ?_
          refine obr (inR_i64 (by first | omega | (dsimp only; omega))) ?_
          (conv => whnf)
          refine ⟨⟨j + 1, M6, q6, k + 1, c6⟩, ⟨by omega, by rw [e2, List.length_append]; simp [hk], by rw [e2]; exact h6⟩, by dsimp only; omega, ?_⟩
          rw [show ((a + 1 + (j + 1) : Nat) : Int) = ((a + 1 + j : Nat) : Int) + 1 by omega]
          exact zS
    · have e' : a + 1 + j = n := by have := of_decide_eq_false e; dsimp only at this; omega
      have e2 : lkPre n oth (a + 1) = lkPre n oth a ++ lkRow oth a j := by rw [lkPre_succ, show n - (a + 1) = j by omega]
      refine zR ?_
      refine obr (inR_i64 (by first | omega | (dsimp only; omega))) ?_
      (conv => whnf)
      exact ⟨⟨a + 1, Md, q, k, cq⟩, ⟨by omega, by rw [e2, List.length_append]; exact hk, by rw [e2]; exact hN⟩, by dsimp only; omega, zS⟩
  · have g' : a = n := by have := of_decide_eq_false g; dsimp only at this; omega
    subst g'
    refine zR ?_
    (conv => whnf)
    subst hk
    exact ⟨q, cq, rfl, hN⟩
end
end Go.Proofs.YtpnhjkiligohnaaGreatDoor
