/- Same, Right, awake. -/
import Derived.Test.YtjkejbenppeagaaGreatDoorWatR
import Derived.Test.YtjkejbenppeagaaGreatDoorWatU
namespace Go.Proofs.YtjkejbenppeagaaGreatDoor
open Go Go.Vm
attribute [local irreducible] Brn Ob Grow CallsM inR LoopVC LoopVC0 Mem.row Mem.cells Mem.setCells Mem.upd Go.Vm.Own AppVC SrcVC StrVC NextVC New SrcOk subA NewSl Mem.textAt Mem.mapAt Mem.iterAt entryOf kfind Wr NewEls Elems
set_option maxRecDepth 10000
variable {M M0 : Mem}
theorem right_ok {a : Option Addr} {n c : Nat} : CallsM Tryz.prog F.watch_Right [.slice a n c] M fun v M' => v = .bool (decide ((n : Int) = 0)) ∧ M = M' := by
  refine fo_watch_Right (by simp) ?_
  repeat' ((conv => whnf); first | refine ⟨?_, True.intro⟩ | refine brn_t rfl ?_ | refine brn_f rfl ?_ | refine ob rfl ?_ | refine ob (by decide) ?_ | refine grow_same (Mem.le_refl _) ?_ | refine ob (Mem.le_refl _) ?_ | refine ⟨_, Mem.le_refl _, ?_⟩ | fail)
  exact ⟨rfl, rfl⟩
def sA : StR := ⟨1, 0, 1, 0, [120]⟩
def tA : TdR := ⟨0, 1, 0, 1, 1, 1, 0, [120], true⟩
theorem jA : judP [sA] [tA, tA] 2 = [⟨1, 1, ⟨0, 1, 1, 1⟩⟩] := by kernel_rfl
theorem dS1 {n : Nat} (h : n < 10) : dS n = ⟨#[UInt8.ofNat (48 + n)]⟩ := by
  unfold dS Lib.itoa
  rw [if_neg (by omega), show ((n : Int)).toNat = n by omega, Lib.decDigits, dif_pos h]
theorem tA_text : findB 1 1 0 1 1 1 = ⟨#[116, 119, 105, 99, 101, 32, 49, 32, 48, 62, 49, 58, 49, 46, 49]⟩ := by
  have h1 : dS 1 = ⟨#[49]⟩ := dS1 (n := 1) (by decide)
  have h0 : dS 0 = ⟨#[48]⟩ := dS1 (n := 0) (by decide)
  have e : idErr 0 1 1 1 = 0 := by kernel_rfl
  rw [findB, if_neg (by decide), if_neg (by decide), idB, if_neg (by simp [e]), textI, h1, h0]
  rfl
/-- one byte of a text, as new memory -/
theorem lit1 {M : Mem} {b1 : Nat} (hb1 : M b1 = none) (x : UInt8) : M.le ((M.setCells b1 T.uint8 [byteV x]).upd b1 (.cells [byteV x].toArray T.uint8 (1, 2))) ∧
    SrcOk ((M.setCells b1 T.uint8 [byteV x]).upd b1 (.cells [byteV x].toArray T.uint8 (1, 2))) 1 (some ⟨b1, 0, none⟩) 1 ([x].map byteV) := by
  refine ⟨fun c o hc => ?_, ?_⟩
  · have hne : c ≠ b1 := fun e => by subst e; rw [hb1] at hc; cases hc
    unfold Mem.setCells
    rw [Mem.upd_ne _ _ hne, Mem.upd_ne _ _ hne]; exact hc
  · unfold SrcOk; exact ⟨rfl, .inr ⟨b1, 0, rfl, Mem.row_obj (Mem.upd_same _ _ _) (by simp)⟩⟩
theorem elems1 {α : Type} {b s : Nat} {E : TypeId} {cs : List Value} {x : α} {R : List Value → α → Prop} (h : M.has b E cs) (hl : cs.length = s) (hx : R cs x) : Elems M s (some ⟨b, 0, none⟩) 1 R [x] := by
  unfold Elems
  refine ⟨[cs], by simpa using h.src (size := s) (n := 1) (by simp [hl]), rfl, rfl, by simpa using hl, fun i c y hi hy => ?_⟩
  match i with
  | 0 => simp at hi hy; subst hi; subst hy; exact hx
  | i + 1 => simp at hi
theorem elems2 {α : Type} {b s : Nat} {E : TypeId} {cs : List Value} {x : α} {R : List Value → α → Prop} (h : M.has b E (cs ++ cs)) (hl : cs.length = s) (hx : R cs x) : Elems M s (some ⟨b, 0, none⟩) 2 R [x, x] := by
  unfold Elems
  refine ⟨[cs, cs], by simpa using h.src (size := s) (n := 2) (by simp [hl]; omega), rfl, rfl, by simpa using hl, fun i c y hi hy => ?_⟩
  match i with
  | 0 => simp at hi hy; subst hi; subst hy; exact hx
  | 1 => simp at hi hy; subst hi; subst hy; exact hx
  | i + 2 => simp at hi
set_option maxRecDepth 20000 in
theorem awake_ok (hT : TabM Tryz.prog M) : CallsM Tryz.prog F.law24_awake [] M fun v M' => v = .bool true ∧ M.le M' := by
  refine fo_law24_awake (by simp) ?_
  (conv => whnf); refine new (fun b1 hb1 => ?_)
  replace hb1 : M b1 = none := hb1
  (conv => whnf); refine on Mem.textAt_setCells ?_
  obtain ⟨hle1, k1⟩ := lit1 hb1 120
  obtain ⟨M1, hM1⟩ : ∃ M1, M1 = (M.setCells b1 T.uint8 [byteV 120]).upd b1 (.cells [byteV 120].toArray T.uint8 (1, 2)) := ⟨_, rfl⟩
  rw [← hM1] at hle1 k1
  (conv => whnf)
  erw [← hM1]
  (conv => whnf); refine new (fun b2 hb2 => ?_)
  replace hb2 : M1 b2 = none := hb2
  have hle2 : M1.le (M1.setCells b2 T.api_Step (stC sA (some ⟨b1, 0, none⟩) 1 1)) := Mem.le_setCells hb2
  have k2 : (M1.setCells b2 T.api_Step (stC sA (some ⟨b1, 0, none⟩) 1 1)).has b2 T.api_Step (stC sA (some ⟨b1, 0, none⟩) 1 1) := Mem.has_setCells
  obtain ⟨M2, hM2⟩ : ∃ M2, M2 = M1.setCells b2 T.api_Step (stC sA (some ⟨b1, 0, none⟩) 1 1) := ⟨_, rfl⟩
  rw [← hM2] at hle2 k2
  (conv => whnf)
  erw [← hM2]
  (conv => whnf); refine new (fun b3 hb3 => ?_)
  replace hb3 : M2 b3 = none := hb3
  (conv => whnf); refine on Mem.textAt_setCells ?_
  obtain ⟨hle3, k3⟩ := lit1 hb3 120
  obtain ⟨M3, hM3⟩ : ∃ M3, M3 = (M2.setCells b3 T.uint8 [byteV 120]).upd b3 (.cells [byteV 120].toArray T.uint8 (1, 2)) := ⟨_, rfl⟩
  rw [← hM3] at hle3 k3
  (conv => whnf)
  erw [← hM3]
  (conv => whnf); refine new (fun b4 hb4 => ?_)
  replace hb4 : M3 b4 = none := hb4
  obtain ⟨ct, hct⟩ : ∃ ct, ct = tdC tA (some ⟨b3, 0, none⟩) 1 1 := ⟨_, rfl⟩
  have hle4 : M3.le (M3.setCells b4 T.api_Told (tdC tA (some ⟨b3, 0, none⟩) 1 1 ++ tdC tA (some ⟨b3, 0, none⟩) 1 1)) := Mem.le_setCells hb4
  have k4 : (M3.setCells b4 T.api_Told (tdC tA (some ⟨b3, 0, none⟩) 1 1 ++ tdC tA (some ⟨b3, 0, none⟩) 1 1)).has b4 T.api_Told (tdC tA (some ⟨b3, 0, none⟩) 1 1 ++ tdC tA (some ⟨b3, 0, none⟩) 1 1) := Mem.has_setCells
  obtain ⟨M4, hM4⟩ : ∃ M4, M4 = M3.setCells b4 T.api_Told (tdC tA (some ⟨b3, 0, none⟩) 1 1 ++ tdC tA (some ⟨b3, 0, none⟩) 1 1) := ⟨_, rfl⟩
  rw [← hM4] at hle4 k4
  (conv => whnf)
  erw [← hM4]
  have x1 : StL M4 (stC sA (some ⟨b1, 0, none⟩) 1 1) sA := ⟨_, _, _, rfl, ((k1.le hle2).le hle3).le hle4⟩
  have x2 : TdL M4 (tdC tA (some ⟨b3, 0, none⟩) 1 1) tA := ⟨_, _, _, rfl, k3.le hle4, by decide⟩
  have hst : Elems M4 5 (some ⟨b2, 0, none⟩) 1 (StL M4) [sA] := elems1 ((k2.le hle3).le hle4) rfl x1
  have htd : Elems M4 9 (some ⟨b4, 0, none⟩) 2 (TdL M4) [tA, tA] := elems2 k4 rfl x2
  refine (judge_ok htd (by decide) (by decide) hst (by decide) (by decide)).mono ?_
  rw [jA]
  rintro v M5 ⟨a5, c5, rfl, hN⟩
  have hle5 : M.le M5 := Mem.le_trans hle1 (Mem.le_trans hle2 (Mem.le_trans hle3 (Mem.le_trans hle4 hN.le)))
  obtain ⟨hk1, b5, o5, cs5, e5, -, hr5, -, rfl⟩ := hN.elems.at (by decide) (i := 0) (by decide)
  subst e5
  replace hr5 : M5.row b5 (o5 + 0 * 6) 6 = some [.int .i64 1, .int .i64 1, .int .i64 0, .int .i64 1, .int .i64 1, .int .i64 1] := hr5
  repeat' ((conv => whnf); first | refine ⟨?_, True.intro⟩ | refine brn_t rfl ?_ | refine brn_f rfl ?_ | refine ob rfl ?_ | refine ob (by decide) ?_ | refine grow_same (Mem.le_refl _) ?_ | refine ob (Mem.le_refl _) ?_ | refine ⟨_, Mem.le_refl _, ?_⟩ | fail)
  refine atp rfl ?_
  (conv => whnf); refine on hr5 ?_
  repeat' ((conv => whnf); first | refine ⟨?_, True.intro⟩ | refine brn_t rfl ?_ | refine brn_f rfl ?_ | refine ob rfl ?_ | refine ob (by decide) ?_ | refine grow_same (Mem.le_refl _) ?_ | refine ob (Mem.le_refl _) ?_ | refine ⟨_, Mem.le_refl _, ?_⟩ | fail)
  refine atp rfl ?_
  (conv => whnf); refine on hr5 ?_
  have hft := ftext_ok (hT.le hle5) (k := 1) (at' := 1) (a := 0) (b := 1) (c := 1) (d := 1) (by decide)
  rw [tA_text] at hft
  repeat' ((conv => whnf); first | refine ⟨?_, True.intro⟩ | refine brn_t rfl ?_ | refine brn_f rfl ?_ | refine ob rfl ?_ | refine ob (by decide) ?_ | refine grow_same (Mem.le_refl _) ?_ | refine ob (Mem.le_refl _) ?_ | refine ⟨_, Mem.le_refl _, ?_⟩ | fail)
  refine hft.mono ?_
  rintro v _ ⟨rfl, rfl⟩
  repeat' ((conv => whnf); first | refine ⟨?_, True.intro⟩ | refine brn_t rfl ?_ | refine brn_f rfl ?_ | refine ob rfl ?_ | refine ob (by decide) ?_ | refine grow_same (Mem.le_refl _) ?_ | refine ob (Mem.le_refl _) ?_ | refine ⟨_, Mem.le_refl _, ?_⟩ | fail)
  refine right_ok.mono ?_
  rintro v _ ⟨rfl, rfl⟩
  repeat' ((conv => whnf); first | refine ⟨?_, True.intro⟩ | refine brn_t rfl ?_ | refine brn_f rfl ?_ | refine ob rfl ?_ | refine ob (by decide) ?_ | refine grow_same (Mem.le_refl _) ?_ | refine ob (Mem.le_refl _) ?_ | refine ⟨_, Mem.le_refl _, ?_⟩ | fail)
  refine right_ok.mono ?_
  rintro v _ ⟨rfl, rfl⟩
  repeat' ((conv => whnf); first | refine ⟨?_, True.intro⟩ | refine brn_t rfl ?_ | refine brn_f rfl ?_ | refine ob rfl ?_ | refine ob (by decide) ?_ | refine grow_same (Mem.le_refl _) ?_ | refine ob (Mem.le_refl _) ?_ | refine ⟨_, Mem.le_refl _, ?_⟩ | fail)
  exact ⟨rfl, hle5⟩
end Go.Proofs.YtjkejbenppeagaaGreatDoor
