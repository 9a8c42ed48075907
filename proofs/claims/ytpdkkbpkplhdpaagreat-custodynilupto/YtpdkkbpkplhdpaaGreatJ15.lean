/- Part of this proof; laid by program. -/
import Derived.Test.YtpdkkbpkplhdpaaGreatJ14
import Derived.Test.YtpdkkbpkplhdpaaGreatJ8
import Derived.Test.YtpdkkbpkplhdpaaGreatJ9
import Derived.Test.YtpdkkbpkplhdpaaGreatJ10
import Derived.Shelf.SlSortCmp.NoneTotal
import Derived.Shelf.Spec.SlicesInsertGrow
import Derived.Shelf.Slices.SearchI
import Derived.Test.YtpdkkbpkplhdpaaGreatProg
import Derived.Test.YtpdkkbpkplhdpaaGreatJ11
namespace Go.Proofs.YtpdkkbpkplhdpaaGreat
open Go Go.Vm
attribute [local irreducible] Brn Ob Grow CallsM inR LoopVC LoopVC0 Mem.row Mem.cells Mem.setCells Mem.upd Go.Vm.Own AppVC SrcVC StrVC NextVC New SrcOk subA NewSl Mem.textAt Mem.mapAt Mem.iterAt entryOf kfind Wr NewEls Elems
set_option maxRecDepth 10000
section
variable {M M0 : Mem} {g p b : Nat} {D : DiskR} {es : FsT}
def L0 (first size : Int) : LogR := ⟨first, first, size, false⟩
def OpenOut (M0 M' : Mem) (p b : Nat) (D : DiskR) (first size : Int) (v : Value) : Prop :=
  ((first < 1 ∨ 99999 < first ∨ size < 16 ∨ 1048576 < size) ∧ v = .tuple #[.pointer none, .slice none 0 0, .int .i64 1] ∧ ∃ es', FreshD M0 M' p b D es') ∨
  (¬ (first < 1 ∨ 99999 < first ∨ size < 16 ∨ 1048576 < size) ∧ D.down = true ∧ v = .tuple #[.pointer none, .slice none 0 0, .int .i64 9] ∧ ∃ es', FreshD M0 M' p b D es') ∨
  (¬ (first < 1 ∨ 99999 < first ∨ size < 16 ∨ 1048576 < size) ∧ D.down = false ∧ (openR D (L0 first size)).2.2.2 ≠ 0 ∧ v = .tuple #[.pointer none, .slice none 0 0, .int .i64 (openR D (L0 first size)).2.2.2] ∧ ∃ es', FreshD M0 M' p b (openR D (L0 first size)).1 es') ∨
  (¬ (first < 1 ∨ 99999 < first ∨ size < 16 ∨ 1048576 < size) ∧ D.down = false ∧ (openR D (L0 first size)).2.2.2 = 0 ∧ ∃ g es' a n c, v = .tuple #[ptr g, .slice a n c, .int .i64 0] ∧
    LogAt M0 M' g p b (openR D (L0 first size)).1 es' (openR D (L0 first size)).2.1 ∧ AllAt M0 (M'.minus (logB g p b es')) a n c (openR D (L0 first size)).2.2.1)
theorem Open_ok (h : FreshD M0 M p b D es) (hW : NamesW D) (first size : Int) : CallsM Tryz.prog F.wal_Open [ptr p, .int .i64 first, .int .i64 size] M fun v M' => OpenOut M0 M' p b D first size v := by
  refine fo_wal_Open (by simp) ?_
  refine zR ?_
  refine brn (fun e => ?_) (fun e => ?_)
  · refine zR ?_
    exact .inl ⟨by first | (have := of_decide_eq_true e; omega), rfl, es, h⟩
  have e1 := of_decide_eq_false e
  refine zR ?_
  refine brn (fun e => ?_) (fun e => ?_)
  · refine zR ?_
    exact .inl ⟨by first | (have := of_decide_eq_true e; omega), rfl, es, h⟩
  have e2 := of_decide_eq_false e
  refine zR ?_
  refine brn (fun e => ?_) (fun e => ?_)
  · refine zR ?_
    exact .inl ⟨by first | (have := of_decide_eq_true e; omega), rfl, es, h⟩
  have e3 := of_decide_eq_false e
  refine zR ?_
  refine brn (fun e => ?_) (fun e => ?_)
  · refine zR ?_
    exact .inl ⟨by first | (have := of_decide_eq_true e; omega), rfl, es, h⟩
  have e4 := of_decide_eq_false e
  have hn : ¬ (first < 1 ∨ 99999 < first ∨ size < 16 ∨ 1048576 < size) := by omega
  refine zR ?_
  refine (down_okL h).mono ?_
  rintro v _ ⟨rfl, rfl⟩
  cases hd : D.down
  case true =>
    refine zR ?_
    exact .inr (.inl ⟨hn, hd, rfl, es, h⟩)
  refine zR ?_
  refine new (fun g hg => ?_)
  replace hg : M g = none := hg
  have hle1 : M.le (M.setCells g T.wal_Log (logCs p (L0 first size))) := Mem.le_setCells hg
  have hs1 : (M.setCells g T.wal_Log (logCs p (L0 first size))).has g T.wal_Log (logCs p (L0 first size)) := Mem.has_setCells
  obtain ⟨M1, hM1⟩ : ∃ M1, M1 = M.setCells g T.wal_Log (logCs p (L0 first size)) := ⟨_, rfl⟩
  rw [← hM1] at hle1 hs1
  (conv => whnf)
  erw [← hM1]
  have h1 : LogAt M0 M1 g p b D es (L0 first size) := ⟨h.to hle1, hs1, by
    cases e : M0 g with
    | none => rfl
    | some o => rw [h.le _ _ e] at hg; cases hg⟩
  refine (open_okL h1 hW (by show 1 ≤ first ∧ first ≤ 99999; omega) rfl).mono ?_
  rintro v M2 ⟨es2, a, n, c, rfl, h2, hA⟩
  (conv => whnf); refine brn (fun e => ?_) (fun e => ?_)
  · have e5 : (openR D (L0 first size)).2.2.2 ≠ 0 := by simpa using e
    refine zR ?_
    exact .inr (.inr (.inl ⟨hn, hd, e5, rfl, es2, h2.disk⟩))
  · have e5 : (openR D (L0 first size)).2.2.2 = 0 := by simpa using e
    refine zR ?_
    exact .inr (.inr (.inr ⟨hn, hd, e5, g, es2, a, n, c, rfl, h2, hA e5⟩))
theorem wlL {D : DiskR} (h : InvD D) (k : Int) : lenL D k ≤ 1048576 := by
  have hu := h.used
  have key : ∀ s, (readR D s).1.size ≤ usedR D.l := fun s => by
    unfold readR
    split
    · exact Nat.zero_le _
    · rename_i g
      have h1 := (thereE_zero (by simpa using g)).2
      have := (without_some h.sort h1).2
      rw [all_size]; omega
  unfold lenL
  split
  · unfold safeR
    split
    · rename_i f hf
      have := (without_some h.sort hf).2
      omega
    · omega
  · have := key (nameB k); omega
theorem lit1 {M : Mem} {b1 : Nat} (hb1 : M b1 = none) (x : UInt8) : M.le ((M.setCells b1 T.uint8 [byteV x]).upd b1 (.cells [byteV x].toArray T.uint8 (1, 2))) ∧
    SrcOk ((M.setCells b1 T.uint8 [byteV x]).upd b1 (.cells [byteV x].toArray T.uint8 (1, 2))) 1 (some ⟨b1, 0, none⟩) 1 ([x].map byteV) := by
  refine ⟨fun c o hc => ?_, ?_⟩
  · have hne : c ≠ b1 := fun e => by subst e; rw [hb1] at hc; cases hc
    unfold Mem.setCells
    rw [Mem.upd_ne _ _ hne, Mem.upd_ne _ _ hne]; exact hc
  · unfold SrcOk; exact ⟨rfl, .inr ⟨b1, 0, rfl, Mem.row_obj (Mem.upd_same _ _ _) (by simp)⟩⟩
end
section
variable {M M0 : Mem} {p b : Nat} {D : DiskR} {es : FsT}
def snapB (k : Int) : ByteArray := if k < 1 ∨ 99999 < k then ByteArray.empty else ⟨#[115]⟩ ++ tailB k
theorem snapB_eq {k : Int} (h : ¬ (k < 1 ∨ 99999 < k)) : snapB k = ⟨#[115, dgB k 4, dgB k 3, dgB k 2, dgB k 1, dgB k 0]⟩ := by
  unfold snapB; rw [if_neg h]; rfl
theorem snapB_no {k : Int} (h : ¬ (k < 1 ∨ 99999 < k)) : NoSeg (snapB k) := by
  right
  rw [snapB_eq h]
  simp [ByteArray.toList, ByteArray.toList.loop, ByteArray.size, ByteArray.get!]
theorem t_no : NoSeg ⟨#[116]⟩ := .inl (by decide)
theorem sname_ok (k : Int) : CallsM Tryz.prog F.custody_name [.int .i64 k] M fun v M' => v = .string (snapB k) ∧ M.le M' := by
  refine fo_custody_name (by simp) ?_
  refine zR ?_
  refine (name_ok k).mono ?_
  rintro v M1 ⟨rfl, hle1⟩
  by_cases hk : k < 1 ∨ 99999 < k
  · have e1 : nameB k = ByteArray.empty := by unfold nameB; rw [if_pos hk]
    have e2 : snapB k = ByteArray.empty := by unfold snapB; rw [if_pos hk]
    rw [e1, e2]
    (conv => whnf); refine brn_f rfl ?_
    refine zR ?_
    exact ⟨rfl, hle1⟩
  · have e1 : nameB k = nameC k := nameC_eq hk
    have e2 : snapB k = ⟨#[115]⟩ ++ tailB k := by unfold snapB; rw [if_neg hk]
    rw [e1, e2]
    have hne : ¬ nameC k = ByteArray.empty := fun h => by have := congrArg ByteArray.size h; exact absurd this (by show ¬ (6 : Nat) = 0; decide)
    (conv => whnf); refine brn_t (by simp [hne]) ?_
    refine zR ?_
    refine ob (by show (0 : Int) ≤ 1 ∧ (1 : Int) ≤ ((6 : Nat) : Int) ∧ ((6 : Nat) : Int) ≤ ((6 : Nat) : Int); decide) ?_
    have htl : (nameC k).extract (1 : Int).toNat (((nameC k).size : Nat) : Int).toNat = tailB k := rfl
    (conv => whnf)
    rw [htl]
    (conv => whnf); refine ob (by show (1 : Nat) + 5 ≤ _; decide) ?_
    refine zR ?_
    exact ⟨rfl, hle1⟩
theorem has_ok {c : Nat} {T0 : TypeId} {cs : List Value} (hc : M.has c T0 cs) (hd : cs[1]? = some (ptr p)) (h : FreshD M0 M p b D es) (s : ByteArray) : CallsM Tryz.prog F.custody_Custody_has [ptr c, .string s] M fun v M' => v = .bool (D.l.any fun f => decide (f.name = s)) ∧ M.le M' := by
  refine fo_custody_Custody_has (by simp) ?_
  refine zR ?_
  refine on (hc.c1 hd) ?_
  refine zR ?_
  refine (Names_ok h.at' h.rel h.inv).mono ?_
  rintro v M1 ⟨na, nc, rfl, hNm⟩
  have hln := h.inv.len
  refine zR ?_
  refine loopQ (σ := Nat) [13] (fun i => [(13, .int .i64 i)]) (fun i => i ≤ D.l.length ∧ (D.l.take i).any (fun f => decide (f.name = s)) = false) (fun i => D.l.length - i) 0 ⟨by omega, by simp⟩ zS ?_
  rintro i ⟨hi, hall⟩
  (conv => whnf); refine brn (fun e => ?_) (fun e => ?_)
  · have hlt : i < D.l.length := by have := of_decide_eq_true e; omega
    obtain ⟨hk1, b1, o1, e1, hr1⟩ := hNm.src.at (i := i) hlt
    have hnm : (D.l.map (·.name))[i] = D.l[i].name := by simp
    rw [hnm] at hr1
    have htk : (D.l.take (i + 1)).any (fun f => decide (f.name = s)) = decide (D.l[i].name = s) := by
      rw [List.take_add_one, List.getElem?_eq_getElem hlt, List.any_append, hall]; simp
    have hmem : D.l[i] ∈ D.l := List.getElem_mem hlt
    generalize D.l[i] = f at *
    (conv => whnf); refine ob (by first | omega | (dsimp only; omega)) ?_
    (conv => whnf); refine atp e1 ?_
    (conv => whnf); refine on hr1 ?_
    (conv => whnf); refine brn (fun g => ?_) (fun g => ?_)
    · refine zR ?_
      refine ⟨?_, hNm.le⟩
      congr 1
      rw [eq_comm, List.any_eq_true]
      exact ⟨f, hmem, g⟩
    · refine zR ?_
      refine ob (inR_i64 (by first | omega | (dsimp only; omega))) ?_
      (conv => whnf)
      exact ⟨i + 1, ⟨by omega, by rw [htk]; exact g⟩, by omega, zS⟩
  · have hge : i = D.l.length := by have := of_decide_eq_false e; omega
    rw [hge, List.take_length] at hall
    refine zR ?_
    exact ⟨by rw [hall], hNm.le⟩
end
section
variable {M M0 : Mem} {p b : Nat} {D : DiskR} {es : FsT}
theorem snapB_head {k : Int} (h : ¬ (k < 1 ∨ 99999 < k)) : (((snapB k).toList.getD 0 0).toNat : Int) = 115 := by
  rw [snapB_eq h]
  simp [ByteArray.toList, ByteArray.toList.loop, ByteArray.size, ByteArray.get!]
def NamesC (D : DiskR) : Prop := ∀ f ∈ D.l, (∃ k : Int, ¬ (k < 1 ∨ 99999 < k) ∧ f.name = nameB k) ∨ (∃ k : Int, ¬ (k < 1 ∨ 99999 < k) ∧ f.name = snapB k) ∨ f.name = ⟨#[116]⟩
theorem NamesC.w (h : NamesC D) : NamesW D := fun f hf => by
  rcases h f hf with h1 | ⟨k, h1, h2⟩ | h1
  · exact .inl h1
  · exact .inr (h2 ▸ snapB_no h1)
  · exact .inr (h1 ▸ t_no)
def snapN (s : ByteArray) : Int := if s.size = 6 ∧ ((s.toList.getD 0 0).toNat : Int) = 115 then ((bl s).drop 1).foldl (fun a c => 10 * a + ((c.toNat : Int) - 48)) 0 else 0
theorem snapN_name {k : Int} (h : ¬ (k < 1 ∨ 99999 < k)) : snapN (snapB k) = k := by
  have h1 : snapN (snapB k) = ((bl (snapB k)).drop 1).foldl (fun a c => 10 * a + ((c.toNat : Int) - 48)) 0 := if_pos ⟨by rw [snapB_eq h]; rfl, snapB_head h⟩
  have h2 := numR_name h
  rw [nameC_eq h, numR, if_pos ⟨rfl, by rw [nameC_head]; rfl⟩] at h2
  rw [h1, snapB_eq h]
  exact h2
theorem snapN_no {s : ByteArray} (h : s.size ≠ 6 ∨ ((s.toList.getD 0 0).toNat : Int) ≠ 115) : snapN s = 0 := if_neg fun ⟨a, b⟩ => h.elim (fun h => h a) fun h => h b
def snapsR (D : DiskR) : List Int := (D.l.map fun f => snapN f.name).filter fun k => decide (0 < k)
theorem NamesC.num (h : NamesC D) {f : FileR} (hf : f ∈ D.l) : (∃ k : Int, ¬ (k < 1 ∨ 99999 < k) ∧ f.name = snapB k ∧ snapN f.name = k) ∨ ((f.name.size ≠ 6 ∨ ((f.name.toList.getD 0 0).toNat : Int) ≠ 115) ∧ snapN f.name = 0) := by
  rcases h f hf with ⟨k, h1, h2⟩ | ⟨k, h1, h2⟩ | h1
  · have : f.name.size ≠ 6 ∨ ((f.name.toList.getD 0 0).toNat : Int) ≠ 115 := .inr (by rw [h2, nameC_eq h1, nameC_head]; decide)
    exact .inr ⟨this, snapN_no this⟩
  · exact .inl ⟨k, h1, h2, by rw [h2, snapN_name h1]⟩
  · have : f.name.size ≠ 6 ∨ ((f.name.toList.getD 0 0).toNat : Int) ≠ 115 := .inl (by rw [h1]; decide)
    exact .inr ⟨this, snapN_no this⟩
set_option maxRecDepth 10000 in
theorem snaps_ok {c : Nat} {T0 : TypeId} {cs : List Value} (hc : M.has c T0 cs) (hd : cs[1]? = some (ptr p)) (h : FreshD M0 M p b D es) (hW : NamesC D) :
    CallsM Tryz.prog F.custody_Custody_snaps [ptr c] M fun v M' => ∃ a n cc, v = .slice a n cc ∧ n = (snapsR D).length ∧ NewSl M T.int 1 a n cc ((snapsR D).map intV) M' := by
  refine fo_custody_Custody_snaps (by simp) ?_
  refine zR ?_
  refine on (hc.c1 hd) ?_
  refine zR ?_
  refine (Names_ok h.at' h.rel h.inv).mono ?_
  rintro v M1 ⟨na, nc, rfl, hNm⟩
  have hln := h.inv.len
  refine zR ?_
  refine loopF (σ := Nat × Mem × Option Addr × Nat × List Int) [15, 3] (fun y => [(15, .int .i64 y.1), (3, .slice y.2.2.1 y.2.2.2.2.length y.2.2.2.1)]) (fun _ => []) (fun y => y.2.1)
    (fun | ⟨i, Mc, a, c, out⟩ => i ≤ D.l.length ∧ NewSl M1 T.int 1 a out.length c (out.map intV) Mc ∧ out = ((D.l.take i).map fun f => snapN f.name).filter (fun k => decide (0 < k)) ∧ out.length ≤ i) (fun y => D.l.length - y.1) ⟨0, M1, none, 0, []⟩ ⟨by omega, NewSl.none M1 T.int 1, by simp, by simp⟩ zS ?_
  rintro ⟨i, Mc, a, c, out⟩ ⟨hi, hN, hout, hol⟩
  (conv => whnf); refine brn (fun e => ?_) (fun e => ?_)
  · have hlt : i < D.l.length := by have := of_decide_eq_true e; dsimp only at this; omega
    obtain ⟨hk1, b1, o1, e1, hr1⟩ := (hNm.src.le hN.le).at (i := i) hlt
    have hx : D.l[i]? = some D.l[i] := List.getElem?_eq_getElem hlt
    have hnm : (D.l.map (·.name))[i] = D.l[i].name := by simp
    rw [hnm] at hr1
    have hnum := hW.num (List.mem_of_getElem? hx)
    have htk : ((D.l.take (i + 1)).map fun f => snapN f.name).filter (fun k => decide (0 < k)) = ((D.l.take i).map fun f => snapN f.name).filter (fun k => decide (0 < k)) ++ (if decide (0 < snapN D.l[i].name) = true then [snapN D.l[i].name] else []) := by
      rw [List.take_add_one, hx, List.map_append, List.filter_append]
      congr 1
      cases hpk : decide (0 < snapN D.l[i].name) <;> simp [hpk]
    generalize D.l[i] = f at *
    rcases hnum with ⟨k, hk, hnn, hkk⟩ | ⟨hno, hn0⟩
    rotate_left
    · rw [hn0, if_neg (by simp), List.append_nil] at htk
      (conv => whnf); refine ob (by first | omega | (dsimp only; omega)) ?_
      (conv => whnf); refine atp e1 ?_
      (conv => whnf); refine on hr1 ?_
      (conv => whnf); refine brn (fun g => ?_) (fun g => ?_)
      · refine zR ?_
        refine ob (inR_i64 (by first | omega | (dsimp only; omega))) ?_
        (conv => whnf)
        exact ⟨⟨i + 1, Mc, a, c, out⟩, ⟨by omega, hN, by rw [htk, hout], by omega⟩, by dsimp only; omega, zS⟩
      · have g1 : f.name.size = 6 := by have : (f.name.size : Int) = 6 := by simpa using g
                                        omega
        (conv => whnf); refine ob (by rw [g1]; decide) ?_
        (conv => whnf); refine brn_t (by rcases hno with h | h <;> simp_all) ?_
        refine zR ?_
        refine ob (inR_i64 (by first | omega | (dsimp only; omega))) ?_
        (conv => whnf)
        exact ⟨⟨i + 1, Mc, a, c, out⟩, ⟨by omega, hN, by rw [htk, hout], by omega⟩, by dsimp only; omega, zS⟩
    have hkp : decide (0 < k) = true := decide_eq_true (by omega)
    rw [hkk, hkp, if_pos rfl] at htk
    rw [hnn, snapB_eq hk] at hr1
    (conv => whnf); refine ob (by first | omega | (dsimp only; omega)) ?_
    (conv => whnf); refine atp e1 ?_
    (conv => whnf); refine on hr1 ?_
    have hhd : (((⟨#[115, dgB k 4, dgB k 3, dgB k 2, dgB k 1, dgB k 0]⟩ : ByteArray).toList.getD 0 0).toNat : Int) = 115 := by rw [← snapB_eq hk]; exact snapB_head hk
    have hnn0 : 0 ≤ k := by omega
    have hdlt : ∀ j, (dgB k j).toNat < 128 := fun j => by have := dg_range hnn0 j; omega
    have htl : (⟨#[115, dgB k 4, dgB k 3, dgB k 2, dgB k 1, dgB k 0]⟩ : ByteArray).extract (1 : Int).toNat ((((⟨#[115, dgB k 4, dgB k 3, dgB k 2, dgB k 1, dgB k 0]⟩ : ByteArray).size : Nat) : Int)).toNat = tailB k := rfl
    (conv => whnf); refine brn_f (by show (!decide (((6 : Nat) : Int) = 6)) = false; decide) ?_
    (conv => whnf); refine ob (by show (0 : Int) ≤ 0 ∧ (0 : Int) < ((6 : Nat) : Int); decide) ?_
    (conv => whnf); refine brn_f (by show (!decide ((((⟨#[115, dgB k 4, dgB k 3, dgB k 2, dgB k 1, dgB k 0]⟩ : ByteArray).toList.getD 0 0).toNat : Int) = 115)) = false; rw [hhd]; decide) ?_
    (conv => whnf); refine ob (by show (0 : Int) ≤ 1 ∧ (1 : Int) ≤ ((6 : Nat) : Int) ∧ ((6 : Nat) : Int) ≤ ((6 : Nat) : Int); decide) ?_
    (conv => whnf); refine new (fun b2 hb2 => ?_)
    replace hb2 : Mc b2 = none := hb2
    (conv => whnf)
    refine loopF (σ := Nat) [6] (fun j => [(6, .int .i64 (accN k j))]) (fun _ => []) (fun j => Mc.upd b2 (.stringIter (tailB k) j)) (fun j => j ≤ 5) (fun j => 5 - j) 0 (by omega) zS ?_
    intro j hj
    have hsit : (Mc.upd b2 (.stringIter (tailB k) j)).sitAt b2 = some (tailB k, j) := by simp [Mem.sitAt, Mem.upd]
    (conv => whnf); refine on hsit ?_
    (conv => whnf); refine ⟨fun hlt5 => ⟨?_, ?_⟩, fun hno => ?_⟩
    · have hi5 : j < 5 := hlt5
      match j, hi5 with
      | 0, _ => exact hdlt 4
      | 1, _ => exact hdlt 3
      | 2, _ => exact hdlt 2
      | 3, _ => exact hdlt 1
      | 4, _ => exact hdlt 0
    · have hi5 : j < 5 := hlt5
      have hb : 48 ≤ ((dgB k (4 - j)).toNat : Int) ∧ ((dgB k (4 - j)).toNat : Int) ≤ 57 := by have := dg_range hnn0 (4 - j); omega
      have ha : 0 ≤ accN k j ∧ accN k j ≤ 99999 := by
        obtain ⟨c1, c2, c3, c4, c5⟩ := accN_all hnn0 (by omega)
        match j, hi5 with
        | 0, _ => show (0 : Int) ≤ 0 ∧ (0 : Int) ≤ 99999; omega
        | 1, _ => omega
        | 2, _ => omega
        | 3, _ => omega
        | 4, _ => omega
      have hget : ((tailB k).get! j) = dgB k (4 - j) := by
        match j, hi5 with
        | 0, _ => rfl
        | 1, _ => rfl
        | 2, _ => rfl
        | 3, _ => rfl
        | 4, _ => rfl
      rw [hget]
      (conv => whnf); refine brn_t rfl ?_
      (conv => whnf); refine ob (inR_i64 (by omega)) ?_
      (conv => whnf); refine ob (inR_i32 (by omega)) ?_
      (conv => whnf); refine ob (inR_i64 (by rw [wrap_small (by omega)]; omega)) ?_
      (conv => whnf)
      refine ⟨j + 1, by omega, by omega, ?_⟩
      refine ⟨(by repeat' first | exact True.intro | refine ⟨rfl, ?_⟩), (by repeat' first | exact True.intro | refine ⟨rfl, ?_⟩), ?_, rfl⟩
      dsimp only
      rw [Mem.upd_upd]
      exact Mem.le_refl _
    · have hi5 : j = 5 := by have : ¬ j < 5 := hno; omega
      subst hi5
      obtain ⟨-, -, -, -, c5⟩ := accN_all hnn0 (by omega)
      (conv => whnf); refine brn_f rfl ?_
      refine zR ?_
      rw [c5]
      refine (sname_ok k).mono ?_
      rintro v M3 ⟨rfl, hle3⟩
      rw [snapB_eq hk]
      (conv => whnf); refine brn_t (by simp) ?_
      have hN3 := (hN.up (Mem.le_upd hb2)).up hle3
      refine zR ?_
      refine appN M1 _ hN3 (by first | omega | (dsimp only; omega)) (by simp [maxLen]; omega) (by simp [Value.oneCell']) fun a4 c4 M4 hN4 => ?_
      (conv => whnf); refine ob (inR_i64 (by first | omega | (dsimp only; omega))) ?_
      (conv => whnf)
      refine ⟨⟨i + 1, M4, a4, c4, out ++ [k]⟩, ⟨by omega, by simpa using hN4, by rw [htk, hout], by simp; omega⟩, by dsimp only; omega, ?_⟩
      rw [List.length_append]
      exact zS
  · have hge : i = D.l.length := by have := of_decide_eq_false e; dsimp only at this; omega
    subst hge
    rw [List.take_length] at hout
    refine zR ?_
    exact ⟨a, out.length, c, rfl, by rw [hout]; rfl, by rw [show snapsR D = out from hout.symm]; exact hN.mono hNm.le⟩
end
section
variable {M M0 : Mem} {p b : Nat} {D : DiskR} {es : FsT}
structure CuW where
  snap : Int
  failed : Bool
  spent : Bool
@[reducible] def cuCs (sp p : Nat) (g : Value) (W : CuW) : List Value := [ptr sp, ptr p, g, .int .i64 W.snap, .bool W.failed, .bool W.spent]
def downC (W : CuW) (e : Int) : CuW := { W with failed := W.failed || decide (e = 9) }
theorem readyC_ok {c sp : Nat} {g : Value} {W : CuW} (h : M.has c T.custody_Custody (cuCs sp p g W)) : CallsM Tryz.prog F.custody_Custody_ready [ptr c] M fun v M' => v = .int .i64 (if W.failed = true then 7 else 0) ∧ M = M' := by
  refine fo_custody_Custody_ready (by simp) ?_
  obtain ⟨sn, fl, sp2⟩ := W
  cases fl
  · refine zR ?_
    refine on (h.c1 (o := 4) rfl) ?_
    refine zR ?_
    exact ⟨rfl, rfl⟩
  · refine zR ?_
    refine on (h.c1 (o := 4) rfl) ?_
    refine zR ?_
    exact ⟨rfl, rfl⟩
theorem toldC_ok {c sp : Nat} {g : Value} {W : CuW} (h : M.has c T.custody_Custody (cuCs sp p g W)) (e : Int) : CallsM Tryz.prog F.custody_Custody_told [ptr c, .int .i64 e] M fun v M' => v = .int .i64 e ∧ M' = M.setCells c T.custody_Custody (cuCs sp p g (downC W e)) := by
  refine fo_custody_Custody_told (by simp) ?_
  obtain ⟨sn, fl, sp2⟩ := W
  cases fl
  · refine zR ?_
    refine on (h.c1 (o := 4) rfl) ?_
    refine zR ?_
    refine on h.cells ?_
    (conv => whnf); refine ob (by simp) ?_
    refine zR ?_
    exact ⟨rfl, rfl⟩
  · refine zR ?_
    refine on (h.c1 (o := 4) rfl) ?_
    refine zR ?_
    refine on h.cells ?_
    (conv => whnf); refine ob (by simp) ?_
    refine zR ?_
    exact ⟨rfl, rfl⟩
def sweepR (D : DiskR) : DiskR × Int := if (D.l.any fun f => decide (f.name = ⟨#[116]⟩)) = true then removeR D ⟨#[116]⟩ else (D, 0)
end
end Go.Proofs.YtpdkkbpkplhdpaaGreat
namespace Go.Proofs.YtpdkkbpkplhdpaaGreat
open Go Go.Vm
section
variable {D : DiskR} {L : LogR} {last : Int} {l : List FileR} {put : List (List UInt8)} {safe : Nat}
def CurI (l : List FileR) (last : Int) (parts cur : List (List UInt8)) (safe : Nat) : Prop :=
  (findR l (nameB last) = none ∧ cur = [] ∧ safe ≤ parts.length) ∨ ∃ s t j, findR l (nameB last) = some ⟨nameB last, s, t⟩ ∧ bl s ++ bl t = rowsB cur ∧ j ≤ cur.length ∧ lenR (cur.take j) ≤ s.size ∧ safe ≤ parts.length + j
structure PutI (last : Int) (l : List FileR) (put : List (List UInt8)) (safe : Nat) : Prop where
  ok : ∀ q ∈ put, okRec q
  last1 : 1 ≤ last ∧ last ≤ 99999
  names : ∀ f ∈ l, ∃ k : Int, 1 ≤ k ∧ k ≤ last ∧ f.name = nameB k
  seg : ∃ (parts : List (List (List UInt8))) (cur : List (List UInt8)), (parts.length : Int) + 1 = last ∧ put = parts.flatten ++ cur ∧
    (∀ (i : Nat) q, parts[i]? = some q → ∃ s : ByteArray, findR l (nameB ((i : Int) + 1)) = some ⟨nameB ((i : Int) + 1), s, .empty⟩ ∧ bl s = rowsB q) ∧ CurI l last parts.flatten cur safe
theorem nameB_size {k : Int} (h : 1 ≤ k ∧ k ≤ 99999) : okName (nameB k) = true := by
  have hn : ¬ (k < 1 ∨ 99999 < k) := by omega
  rw [nameC_eq hn]
  have hnn : 0 ≤ k := by omega
  have d0 := dg_range hnn 0
  have d1 := dg_range hnn 1
  have d2 := dg_range hnn 2
  have d3 := dg_range hnn 3
  have d4 := dg_range hnn 4
  unfold okName
  rw [Bool.and_eq_true, List.all_eq_true]
  refine ⟨rfl, fun c hc => ?_⟩
  have hc' : c ∈ [119, dgB k 4, dgB k 3, dgB k 2, dgB k 1, dgB k 0] := hc
  simp only [List.mem_cons, List.not_mem_nil, or_false] at hc'
  apply decide_eq_true
  rcases hc' with rfl | rfl | rfl | rfl | rfl | rfl
  · right; right; decide
  all_goals right; left; omega
end
section
variable {D : DiskR} {L : LogR} {last : Int} {l : List FileR} {put : List (List UInt8)} {safe : Nat}
theorem readR_there {D : DiskR} {s : ByteArray} {f : FileR} (hd : D.down = false) (hn : okName s = true) (hf : findR D.l s = some f) : readR D s = (f.all, 0) ∧ thereE D s = 0 ∧ fileR D s = f := by
  have hr : thereE D s = 0 := by unfold thereE readyE; simp [hd, hn, hf]
  have hfi : fileR D s = f := by unfold fileR; rw [hf]; rfl
  refine ⟨?_, hr, hfi⟩
  unfold readR
  rw [if_neg (by simp [hr]), hfi]
end
section
variable {D E : DiskR}
structure PowW (D : DiskR) : Prop where
  inv : InvD D
  nm : NamesW D
  down : D.down = false
  left : D.left = -1
end
section
variable {D : DiskR} {L : LogR} {f0 last : Int} {l : List FileR} {put : List (List UInt8)} {safe : Nat}
structure SegI (f0 last : Int) (l : List FileR) (put : List (List UInt8)) (safe : Nat) : Prop where
  ok : ∀ q ∈ put, okRec q
  f1 : 1 ≤ f0 ∧ f0 ≤ last ∧ last ≤ 99999
  names : ∀ f ∈ l, (∃ k : Int, 1 ≤ k ∧ k ≤ last ∧ f.name = nameB k) ∨ NoSeg f.name
  seg : ∃ (parts : List (List (List UInt8))) (cur : List (List UInt8)), (parts.length : Int) + f0 = last ∧ put = parts.flatten ++ cur ∧
    (∀ (i : Nat) q, parts[i]? = some q → ∃ s : ByteArray, findR l (nameB (f0 + i)) = some ⟨nameB (f0 + i), s, .empty⟩ ∧ bl s = rowsB q) ∧ CurI l last parts.flatten cur safe
end
end Go.Proofs.YtpdkkbpkplhdpaaGreat
namespace Go.Proofs.YtpdkkbpkplhdpaaGreat
open Go Go.Vm
attribute [local irreducible] Brn Ob Grow CallsM inR LoopVC LoopVC0 Mem.row Mem.cells Mem.setCells Mem.upd Go.Vm.Own AppVC SrcVC StrVC NextVC New SrcOk subA NewSl Mem.textAt Mem.mapAt Mem.iterAt entryOf kfind Wr NewEls Elems
set_option maxRecDepth 10000
variable {M M0 : Mem} {g p b : Nat} {D : DiskR} {es : FsT}
def dropL (D : DiskR) (L : LogR) (k : Int) : DiskR × LogR × Int :=
  if L.failed = true then (D, L, 7) else if k < L.first ∨ L.last < k then (D, L, 1)
  else ((removeAll D (segsR D fun n => decide (L.first ≤ n) && decide (n < k))).1,
    (if (removeAll D (segsR D fun n => decide (L.first ≤ n) && decide (n < k))).2 = 0 then { (downL L (removeAll D (segsR D fun n => decide (L.first ≤ n) && decide (n < k))).2) with first := k } else downL L (removeAll D (segsR D fun n => decide (L.first ≤ n) && decide (n < k))).2),
    (removeAll D (segsR D fun n => decide (L.first ≤ n) && decide (n < k))).2)
end Go.Proofs.YtpdkkbpkplhdpaaGreat
namespace Go.Proofs.YtpdkkbpkplhdpaaGreat
open Go Go.Vm
attribute [local irreducible] Brn Ob Grow CallsM inR LoopVC Mem.row Mem.cells Mem.setCells Mem.upd Go.Vm.Own AppVC SrcVC StrVC NextVC New SrcOk subA
theorem in_ok (n a b : Int) (M : Mem) : CallsM Tryz.prog F.msg_Check_1 [.int .i64 n, .int .i64 a, .int .i64 b] M fun v M' => v = .bool (decide (a ≤ n ∧ n ≤ b)) ∧ M = M' := by
  refine fo_msg_Check_1 (by simp) ?_
  (conv => whnf)
  refine brn (fun h => ?_) (fun h => ?_)
  all_goals (conv => whnf)
  · refine ⟨by simp_all, rfl⟩
  · refine ⟨by simp_all; omega, rfl⟩
def idErr (a b c d : Int) : Int := if (0 ≤ a ∧ a ≤ 63) ∧ (0 ≤ b ∧ b ≤ 63) ∧ (1 ≤ c ∧ c ≤ 65535) ∧ (1 ≤ d ∧ d ≤ 65535) then (if a = b then 2 else 0) else 1
set_option maxRecDepth 10000 in
theorem check_ok (a b c d : Int) (M : Mem) : CallsM Tryz.prog F.msg_Check [.agg #[.int .i64 a, .int .i64 b, .int .i64 c, .int .i64 d]] M fun v M' => v = .int .i64 (idErr a b c d) ∧ M = M' := by
  refine fo_msg_Check (by simp) ?_
  (conv => whnf)
  repeat' ((conv => whnf); first
    | (refine (in_ok _ _ _ _).mono ?_; rintro v M' ⟨rfl, rfl⟩)
    | refine brn (fun h => ?_) (fun h => ?_))
  all_goals (conv => whnf)
  all_goals (refine ⟨?_, rfl⟩; simp_all [idErr])
  all_goals (intros; exfalso; omega)
end Go.Proofs.YtpdkkbpkplhdpaaGreat
namespace Go.Proofs.YtpdkkbpkplhdpaaGreat
open Go Go.Proofs Go.Shelf
def Tryz.laysF_ren : Go.Shelf.Ren := ⟨fun | 6 => 125 | 15 => 96 | 14 => 167 | 28 => 146 | 29 => 147 | 20 => 190 | 21 => 191 | 22 => 192 | 23 => 193 | 24 => 194 | 25 => 195 | 26 => 196 | 27 => 197 | 46 => 206 | 47 => 171 | 48 => 172 | 49 => 207 | 50 => 208 | 57 => 210 | n => n, fun | 22 => 63 | 24 => 161 | 25 => 209 | 3 => 3 | 39 => 171 | 0 => 0 | 53 => 189 | 55 => 186 | 4 => 4 | 46 => 218 | 45 => 217 | 50 => 223 | 5 => 5 | 9 => 9 | 66 => 244 | 70 => 248 | 76 => 266 | 77 => 267 | n => n, fun | n => n⟩
theorem Tryz.laysF : Go.Proofs.SlLaysF0.n6 Tryz.prog Tryz.laysF_ren := {
  mixed := by kernel_rfl
  f6 := ⟨"slices.SortFunc[[]portage/api.Mark,portage/api.Mark]", by decide, Tryz.func125.trans (congrArg some (by kernel_rfl))⟩
  f14 := ⟨"slices.pdqsortCmpFunc[portage/api.Mark]", by decide, Tryz.func167.trans (congrArg some (by kernel_rfl))⟩
  f15 := Tryz.func96.trans (congrArg some (by kernel_rfl))
  f20 := ⟨"slices.insertionSortCmpFunc[portage/api.Mark]", by decide, Tryz.func190.trans (congrArg some (by kernel_rfl))⟩
  f21 := ⟨"slices.heapSortCmpFunc[portage/api.Mark]", by decide, Tryz.func191.trans (congrArg some (by kernel_rfl))⟩
  f22 := ⟨"slices.breakPatternsCmpFunc[portage/api.Mark]", by decide, Tryz.func192.trans (congrArg some (by kernel_rfl))⟩
  f23 := ⟨"slices.choosePivotCmpFunc[portage/api.Mark]", by decide, Tryz.func193.trans (congrArg some (by kernel_rfl))⟩
  f24 := ⟨"slices.reverseRangeCmpFunc[portage/api.Mark]", by decide, Tryz.func194.trans (congrArg some (by kernel_rfl))⟩
  f25 := ⟨"slices.partialInsertionSortCmpFunc[portage/api.Mark]", by decide, Tryz.func195.trans (congrArg some (by kernel_rfl))⟩
  f26 := ⟨"slices.partitionEqualCmpFunc[portage/api.Mark]", by decide, Tryz.func196.trans (congrArg some (by kernel_rfl))⟩
  f27 := ⟨"slices.partitionCmpFunc[portage/api.Mark]", by decide, Tryz.func197.trans (congrArg some (by kernel_rfl))⟩
  f28 := Tryz.func146.trans (congrArg some (by kernel_rfl))
  f29 := Tryz.func147.trans (congrArg some (by kernel_rfl))
  f46 := ⟨"slices.siftDownCmpFunc[portage/api.Mark]", by decide, Tryz.func206.trans (congrArg some (by kernel_rfl))⟩
  f47 := Tryz.func171.trans (congrArg some (by kernel_rfl))
  f48 := Tryz.func172.trans (congrArg some (by kernel_rfl))
  f49 := ⟨"slices.medianAdjacentCmpFunc[portage/api.Mark]", by decide, Tryz.func207.trans (congrArg some (by kernel_rfl))⟩
  f50 := ⟨"slices.medianCmpFunc[portage/api.Mark]", by decide, Tryz.func208.trans (congrArg some (by kernel_rfl))⟩
  f57 := ⟨"slices.order2CmpFunc[portage/api.Mark]", by decide, Tryz.func210.trans (congrArg some (by kernel_rfl))⟩
  t0 := Tryz.underlying0
  a0 := Tryz.isAgg0
  z0 := Tryz.sizeOf0
  v0 := Tryz.zeroValue0
  t3 := Tryz.underlying3
  a3 := Tryz.isAgg3
  z3 := Tryz.sizeOf3
  v3 := Tryz.zeroValue3
  t4 := Tryz.underlying4
  a4 := Tryz.isAgg4
  z4 := Tryz.sizeOf4
  v4 := Tryz.zeroValue4
  t5 := Tryz.underlying5
  a5 := Tryz.isAgg5
  z5 := Tryz.sizeOf5
  v5 := Tryz.zeroValue5
  t9 := Tryz.underlying9
  a9 := Tryz.isAgg9
  z9 := Tryz.sizeOf9
  v9 := Tryz.zeroValue9
  t22 := Tryz.underlying63
  a22 := Tryz.isAgg63
  z22 := Tryz.sizeOf63
  v22 := Tryz.zeroValue63
  t25 := Tryz.underlying209
  a25 := Tryz.isAgg209
  z25 := Tryz.sizeOf209
  v25 := Tryz.zeroValue209
  t39 := Tryz.underlying171
  a39 := Tryz.isAgg171
  z39 := Tryz.sizeOf171
  v39 := Tryz.zeroValue171
  t45 := Tryz.underlying217
  a45 := Tryz.isAgg217
  z45 := Tryz.sizeOf217
  v45 := Tryz.zeroValue217
  t46 := Tryz.underlying218
  a46 := Tryz.isAgg218
  z46 := Tryz.sizeOf218
  v46 := Tryz.zeroValue218
  t50 := Tryz.underlying223
  a50 := Tryz.isAgg223
  z50 := Tryz.sizeOf223
  v50 := Tryz.zeroValue223
  t53 := Tryz.underlying189
  a53 := Tryz.isAgg189
  z53 := Tryz.sizeOf189
  v53 := Tryz.zeroValue189
  t55 := Tryz.underlying186
  a55 := Tryz.isAgg186
  z55 := Tryz.sizeOf186
  v55 := Tryz.zeroValue186
  t66 := Tryz.underlying244
  a66 := Tryz.isAgg244
  z66 := Tryz.sizeOf244
  v66 := Tryz.zeroValue244
  t70 := Tryz.underlying248
  a70 := Tryz.isAgg248
  z70 := Tryz.sizeOf248
  v70 := Tryz.zeroValue248
  t76 := Tryz.underlying266
  a76 := Tryz.isAgg266
  z76 := Tryz.sizeOf266
  v76 := Tryz.zeroValue266
  t77 := Tryz.underlying267
  a77 := Tryz.isAgg267
  z77 := Tryz.sizeOf267
  v77 := Tryz.zeroValue267 }
def Tryz.laysIns_ren : Go.Shelf.Ren := ⟨fun | 21 => 165 | 27 => 188 | 28 => 189 | 35 => 205 | 39 => 163 | n => n, fun | 22 => 27 | 3 => 3 | 4 => 4 | 0 => 0 | n => n, fun | n => n⟩
theorem Tryz.laysIns : Go.Proofs.Lays2.n21 Tryz.prog Tryz.laysIns_ren := {
  mixed := by kernel_rfl
  f21 := Tryz.func165.trans (congrArg some (by kernel_rfl))
  f27 := Tryz.func188.trans (congrArg some (by kernel_rfl))
  f28 := Tryz.func189.trans (congrArg some (by kernel_rfl))
  f35 := Tryz.func205.trans (congrArg some (by kernel_rfl))
  f39 := Tryz.func163.trans (congrArg some (by kernel_rfl))
  t0 := Tryz.underlying0
  a0 := Tryz.isAgg0
  z0 := Tryz.sizeOf0
  v0 := Tryz.zeroValue0
  t3 := Tryz.underlying3
  a3 := Tryz.isAgg3
  z3 := Tryz.sizeOf3
  v3 := Tryz.zeroValue3
  t4 := Tryz.underlying4
  a4 := Tryz.isAgg4
  z4 := Tryz.sizeOf4
  v4 := Tryz.zeroValue4
  t22 := Tryz.underlying27
  a22 := Tryz.isAgg27
  z22 := Tryz.sizeOf27
  v22 := Tryz.zeroValue27
  i3 := by kernel_rfl }
def Tryz.laysP_ren : Go.Shelf.Ren := ⟨fun | 6 => 100 | 15 => 96 | 14 => 152 | 28 => 146 | 29 => 147 | 20 => 176 | 21 => 177 | 22 => 178 | 23 => 179 | 24 => 180 | 25 => 181 | 26 => 182 | 27 => 183 | 46 => 200 | 47 => 171 | 48 => 172 | 49 => 201 | 50 => 202 | 57 => 209 | n => n, fun | 22 => 177 | 24 => 175 | 25 => 179 | 3 => 3 | 39 => 171 | 0 => 0 | 53 => 189 | 55 => 186 | 4 => 4 | 46 => 218 | 45 => 217 | 50 => 223 | 5 => 5 | 9 => 9 | 66 => 244 | 70 => 248 | 76 => 266 | 77 => 267 | n => n, fun | n => n⟩
theorem Tryz.laysP : Go.Proofs.SlLaysF0.n6 Tryz.prog Tryz.laysP_ren := {
  mixed := by kernel_rfl
  f6 := ⟨"slices.SortFunc[[]portage/store.place,portage/store.place]", by decide, Tryz.func100.trans (congrArg some (by kernel_rfl))⟩
  f14 := ⟨"slices.pdqsortCmpFunc[portage/store.place]", by decide, Tryz.func152.trans (congrArg some (by kernel_rfl))⟩
  f15 := Tryz.func96.trans (congrArg some (by kernel_rfl))
  f20 := ⟨"slices.insertionSortCmpFunc[portage/store.place]", by decide, Tryz.func176.trans (congrArg some (by kernel_rfl))⟩
  f21 := ⟨"slices.heapSortCmpFunc[portage/store.place]", by decide, Tryz.func177.trans (congrArg some (by kernel_rfl))⟩
  f22 := ⟨"slices.breakPatternsCmpFunc[portage/store.place]", by decide, Tryz.func178.trans (congrArg some (by kernel_rfl))⟩
  f23 := ⟨"slices.choosePivotCmpFunc[portage/store.place]", by decide, Tryz.func179.trans (congrArg some (by kernel_rfl))⟩
  f24 := ⟨"slices.reverseRangeCmpFunc[portage/store.place]", by decide, Tryz.func180.trans (congrArg some (by kernel_rfl))⟩
  f25 := ⟨"slices.partialInsertionSortCmpFunc[portage/store.place]", by decide, Tryz.func181.trans (congrArg some (by kernel_rfl))⟩
  f26 := ⟨"slices.partitionEqualCmpFunc[portage/store.place]", by decide, Tryz.func182.trans (congrArg some (by kernel_rfl))⟩
  f27 := ⟨"slices.partitionCmpFunc[portage/store.place]", by decide, Tryz.func183.trans (congrArg some (by kernel_rfl))⟩
  f28 := Tryz.func146.trans (congrArg some (by kernel_rfl))
  f29 := Tryz.func147.trans (congrArg some (by kernel_rfl))
  f46 := ⟨"slices.siftDownCmpFunc[portage/store.place]", by decide, Tryz.func200.trans (congrArg some (by kernel_rfl))⟩
  f47 := Tryz.func171.trans (congrArg some (by kernel_rfl))
  f48 := Tryz.func172.trans (congrArg some (by kernel_rfl))
  f49 := ⟨"slices.medianAdjacentCmpFunc[portage/store.place]", by decide, Tryz.func201.trans (congrArg some (by kernel_rfl))⟩
  f50 := ⟨"slices.medianCmpFunc[portage/store.place]", by decide, Tryz.func202.trans (congrArg some (by kernel_rfl))⟩
  f57 := ⟨"slices.order2CmpFunc[portage/store.place]", by decide, Tryz.func209.trans (congrArg some (by kernel_rfl))⟩
  t0 := Tryz.underlying0
  a0 := Tryz.isAgg0
  z0 := Tryz.sizeOf0
  v0 := Tryz.zeroValue0
  t3 := Tryz.underlying3
  a3 := Tryz.isAgg3
  z3 := Tryz.sizeOf3
  v3 := Tryz.zeroValue3
  t4 := Tryz.underlying4
  a4 := Tryz.isAgg4
  z4 := Tryz.sizeOf4
  v4 := Tryz.zeroValue4
  t5 := Tryz.underlying5
  a5 := Tryz.isAgg5
  z5 := Tryz.sizeOf5
  v5 := Tryz.zeroValue5
  t9 := Tryz.underlying9
  a9 := Tryz.isAgg9
  z9 := Tryz.sizeOf9
  v9 := Tryz.zeroValue9
  t22 := Tryz.underlying177
  a22 := Tryz.isAgg177
  z22 := Tryz.sizeOf177
  v22 := Tryz.zeroValue177
  t25 := Tryz.underlying179
  a25 := Tryz.isAgg179
  z25 := Tryz.sizeOf179
  v25 := Tryz.zeroValue179
  t39 := Tryz.underlying171
  a39 := Tryz.isAgg171
  z39 := Tryz.sizeOf171
  v39 := Tryz.zeroValue171
  t45 := Tryz.underlying217
  a45 := Tryz.isAgg217
  z45 := Tryz.sizeOf217
  v45 := Tryz.zeroValue217
  t46 := Tryz.underlying218
  a46 := Tryz.isAgg218
  z46 := Tryz.sizeOf218
  v46 := Tryz.zeroValue218
  t50 := Tryz.underlying223
  a50 := Tryz.isAgg223
  z50 := Tryz.sizeOf223
  v50 := Tryz.zeroValue223
  t53 := Tryz.underlying189
  a53 := Tryz.isAgg189
  z53 := Tryz.sizeOf189
  v53 := Tryz.zeroValue189
  t55 := Tryz.underlying186
  a55 := Tryz.isAgg186
  z55 := Tryz.sizeOf186
  v55 := Tryz.zeroValue186
  t66 := Tryz.underlying244
  a66 := Tryz.isAgg244
  z66 := Tryz.sizeOf244
  v66 := Tryz.zeroValue244
  t70 := Tryz.underlying248
  a70 := Tryz.isAgg248
  z70 := Tryz.sizeOf248
  v70 := Tryz.zeroValue248
  t76 := Tryz.underlying266
  a76 := Tryz.isAgg266
  z76 := Tryz.sizeOf266
  v76 := Tryz.zeroValue266
  t77 := Tryz.underlying267
  a77 := Tryz.isAgg267
  z77 := Tryz.sizeOf267
  v77 := Tryz.zeroValue267 }
end Go.Proofs.YtpdkkbpkplhdpaaGreat
namespace Go.Vm
open Go.RowKit Go.Shelf Go.Sort Go.Proofs
theorem flat_at {α : Type} {enc : α → List Value} {k : Nat} (hk : ∀ x, (enc x).length = k) : ∀ (l : List α) (i j : Nat) (x : α), l[i]? = some x → j < k → (l.flatMap enc)[i * k + j]? = (enc x)[j]?
  | [], i, j, x, h, _ => by simp at h
  | y :: r, 0, j, x, h, hj => by
    simp at h; subst h
    rw [List.flatMap_cons, Nat.zero_mul, Nat.zero_add, List.getElem?_append_left (by rw [hk]; exact hj)]
  | y :: r, i + 1, j, x, h, hj => by
    have := flat_at hk r i j x (by simpa using h) hj
    rw [List.flatMap_cons, List.getElem?_append_right (by rw [hk, Nat.succ_mul]; omega), hk, ← this]
    congr 1
    rw [Nat.succ_mul]; omega
theorem flat_len {α : Type} {enc : α → List Value} {k : Nat} (hk : ∀ x, (enc x).length = k) (l : List α) : (l.flatMap enc).length = l.length * k := by
  induction l with
  | nil => simp
  | cons y r ih => simp [hk, ih, Nat.succ_mul, Nat.add_comm]
theorem flatK_eq {α : Type} [Inhabited α] {enc : α → List Value} {k : Nat} (hk : ∀ x, (enc x).length = k) (hk0 : 0 < k) (l : List α) : (flatK enc k l.toArray).toList = l.flatMap enc := by
  apply List.ext_getElem?
  intro t
  by_cases ht : t < l.length * k
  · have hi : t / k < l.length := (Nat.div_lt_iff_lt_mul hk0).2 ht
    have e : t = t / k * k + t % k := by rw [Nat.mul_comm]; exact (Nat.div_add_mod t k).symm
    have hj : t % k < k := Nat.mod_lt _ hk0
    have h1 := flat_at hk l (t / k) (t % k) l[t / k] (List.getElem?_eq_getElem hi) hj
    rw [← e] at h1
    rw [h1]
    have hs : t < (flatK enc k l.toArray).size := by rw [size_flatK]; simpa using ht
    have h2 := get_flatK enc k l.toArray t (by simpa using ht)
    rw [Array.getElem?_toList, Array.getElem?_eq_getElem hs]
    rw [getElem!_pos _ t hs] at h2
    rw [h2]
    have h3 : l.toArray[t / k]! = l[t / k] := by simp [hi]
    rw [h3, getElem!_pos _ _ (by rw [hk]; exact hj), List.getElem?_eq_getElem (by rw [hk]; exact hj)]
  · rw [List.getElem?_eq_none (by simp; omega), List.getElem?_eq_none (by rw [flat_len hk]; omega)]
section
variable {P : Program} {ρ : Ren} {α : Type} [Inhabited α]
theorem grown_of {W w' : World} (hF : (memOf W).le (memOf w')) (ho : w'.os = W.os) (hp : w'.output = W.output) (ht : w'.tape = W.tape) (hs : W.heap.size ≤ w'.heap.size) (hd : W.drawn ≤ w'.drawn) : ∃ q os', w' = grow (W.drewN q) os' := by
  refine ⟨w'.drawn - W.drawn, w'.heap.extract W.heap.size w'.heap.size, ?_⟩
  obtain ⟨h, t, d, o, p⟩ := w'
  simp only at ho hp ht hs hd
  subst ho; subst hp; subst ht
  have e1 : h = W.heap ++ h.extract W.heap.size h.size := by
    apply Array.ext_getElem?
    intro i
    by_cases hi : i < W.heap.size
    · rw [Array.getElem?_append_left hi]
      have := hF i W.heap[i] (Array.getElem?_eq_getElem hi)
      rw [Array.getElem?_eq_getElem hi]
      exact this
    · rw [Array.getElem?_append_right (by omega), Array.getElem?_extract]
      by_cases h2 : i < h.size
      · rw [if_pos (by omega)]; congr 1; omega
      · rw [if_neg (by omega), Array.getElem?_eq_none (by omega)]
  have e2 : d = W.drawn + (d - W.drawn) := by omega
  show World.mk h W.tape d W.os W.output = World.mk (W.heap ++ h.extract W.heap.size h.size) W.tape (W.drawn + (d - W.drawn)) W.os W.output
  rw [← e1, ← e2]
theorem cmp_lays {g : Nat} {enc : α → List Value} {k : Nat} {cf : α → α → Int} (hcmp : ∀ x y, CallsM P g [.agg (enc x).toArray, .agg (enc y).toArray] Mem.empty fun v _ => v = .int .i64 (cf x y)) (blk off size : Nat) (w : World) : CmpLays P g #[] enc k cf blk off size w := by
  intro m os dk _ x y
  have h := (hcmp x y).2 (memOf (sortWorldK enc k w blk off m dk os)) (sortWorldK enc k w blk off m dk os) (Mem.empty_le _) (fun _ _ h => h) (fun _ => .inl rfl)
  exact Calls.mono h fun e w' ⟨v, M', he, hv, _, hF, _, ho, hp, ht, hs, hd⟩ => ⟨by rw [he, hv], grown_of hF ho hp ht hs hd⟩
theorem sortF_ok (L : SlLaysF0.n6 P ρ) (he : enters P (ρ.f 6) = true) {k : Nat} (hk0 : 0 < k) (aE : ∀ w, (isAgg (ρ.t 24)).run P w = .ok true w) (zE : ∀ w, (Go.sizeOf (ρ.t 24)).run P w = .ok k w) {enc : α → List Value} (hk : ∀ x, (enc x).length = k) (h1 : ∀ x, ∀ v ∈ enc x, v.oneCell' = true)
    {cf : α → α → Int} (hO : SWO (ltOf cf)) {g : Nat} (eg : ∀ args w, (callFunc g args).run P w = .ok (.enter g args) w) (hcmp : ∀ x y, CallsM P g [.agg (enc x).toArray, .agg (enc y).toArray] Mem.empty fun v _ => v = .int .i64 (cf x y))
    {M : Mem} {E : TypeId} {a : Option Addr} {n c : Nat} {l : List α} (h : Wr M E k a n c (l.flatMap enc)) (hn : n < 4611686018427387904) :
    CallsM P (ρ.f 6) [.slice a n c, .func (.func g) #[] #[]] M fun v M' => v = .tuple #[] ∧ ∃ l' : List α, l'.Perm l ∧ l'.Pairwise (fun x y => ¬ cf y x < 0) ∧ Wr M' E k a n c (l'.flatMap enc) ∧ Mem.keep (blk a) M M' := by
  refine ⟨he, fun F w hM hF hdj => ?_⟩
  obtain ⟨hl, hnc, h3⟩ := h
  have hll : l.length = n := by
    rw [flat_len hk] at hl; exact Nat.eq_of_mul_eq_mul_right hk0 hl
  rcases h3 with ⟨rfl, rfl⟩ | ⟨b, cs, rfl, hh, hcl, ht⟩
  · have : n = 0 := by omega
    subst this
    have : l = [] := by simpa using hll
    subst this
    refine Calls.mono (AnyF.slices_SortFunc_none L none 0 _ w) ?_
    rintro e w' ⟨rfl, rfl⟩
    exact ⟨_, M, rfl, ⟨rfl, [], .refl _, .nil, ⟨by simp, Nat.le_refl _, .inl ⟨rfl, rfl⟩⟩, Mem.keep_refl _ _⟩, hM, hF, hdj, rfl, rfl, rfl, Nat.le_refl _, Nat.le_refl _⟩
  · have hb : b < w.heap.size := (Array.getElem?_eq_some_iff.1 (hM _ _ hh)).1
    have hle : n * k ≤ c * k := Nat.mul_le_mul_right _ hnc
    have hH : HoldsK enc k w b 0 l.toArray := by
      have := holds_of (α := Value) hM hh id (l.flatMap enc) (by rw [flat_len hk, hll, List.map_id]; exact ht)
      unfold HoldsK
      have e : flatK enc k l.toArray = (l.flatMap enc).toArray := by rw [← flatK_eq hk hk0 l]
      rw [e]; exact this
    have hs := AnyQ.slices_SortFunc L k aE zE enc hk h1 cf hO g #[] b 0 c l.toArray w eg (cmp_lays hcmp b 0 _ w) hH hb (by simp; omega)
    have e0 : l.toArray.size = n := by simpa using hll
    rw [e0] at hs
    refine Calls.mono hs ?_
    rintro e w' ⟨rfl, d', q, os, hp, hsd, rfl⟩
    have hds : d'.size = n := by rw [hp.1, e0]
    obtain ⟨l', rfl⟩ : ∃ l' : List α, d' = l'.toArray := ⟨d'.toList, by simp⟩
    have hl' : l'.length = n := by simpa using hds
    have hperm : l'.Perm l := by
      have := hp.2.2
      simpa [hll, hl', List.take_of_length_le] using this
    have hsort : l'.Pairwise (fun x y => ¬ cf y x < 0) := by
      rw [List.pairwise_iff_getElem]
      intro i j hi hj hij
      have := hsd i j (Nat.zero_le _) hij (by omega)
      have ei : l'.toArray[i]! = l'[i] := by simp [hi]
      have ej : l'.toArray[j]! = l'[j] := by simp [hj]
      rw [ei, ej] at this
      simpa [ltOf] using this
    have e2 : flatK enc k l'.toArray = (l'.flatMap enc).toArray := by rw [← flatK_eq hk hk0 l']
    have ht' := turned hM hF hdj hh id (l'.flatMap enc).toArray (by simp only [List.size_toArray]; rw [flat_len hk, hl', hcl]; exact hle) q os
    unfold sortWorldK putRowK
    rw [e2]
    have hfl : (l'.flatMap enc).length = n * k := by rw [flat_len hk, hl']
    refine ⟨_, M.setCells b E ((l'.flatMap enc).toArray.toList.map id ++ cs.drop (l'.flatMap enc).toArray.size), rfl, ⟨rfl, l', hperm, hsort, ⟨hfl, hnc, .inr ⟨b, _, rfl, Mem.has_setCells, ?_, ?_⟩⟩, ?_⟩, ht'⟩
    · simp only [List.map_id, List.length_append, List.length_drop, List.size_toArray]; rw [hfl, hcl]; omega
    · simp only [List.map_id, List.size_toArray]
      rw [List.take_append_of_le_length (by rw [hfl]; omega), List.take_of_length_le (by rw [hfl]; omega)]
    · intro x o hx hxo
      have e : x ≠ b := fun e => hx ⟨_, rfl, e.symm⟩
      simp only [Mem.setCells, Mem.upd_ne _ _ e]; exact hxo
end
end Go.Vm
