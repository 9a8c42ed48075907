/- Tables of ways: how long the shortest ways are. -/
import Derived.Test.YtankgacaeejlhaaRoutesE
import Derived.Test.YtankgacaeejlhaaLens
namespace Go.Proofs.Ytankgacaeejlhaa
open Go Go.Vm
attribute [local irreducible] Brn Ob CallsM inR LoopVC Mem.row Mem.cells Mem.setCells Mem.upd Own AppVC SrcVC StrVC NextVC New SrcOk subA NewSl Mem.textAt Mem.mapAt Mem.iterAt entryOf kfind Wr NewEls Elems
set_option maxRecDepth 10000
variable {M : Mem}
/-- links of a net of n nodes -/
def lnkN (links : Int) (n : Nat) (a b : Nat) : Prop := a < n ∧ b < n ∧ lnkOf links a b = true
theorem fill_ok {x : Int} {n : Nat} {L : List Int} {i : Nat} (hL : L.length = n) (hi : i < n) (h : ∀ j, j < i → L[j]? = some x) : ∀ j, j < i + 1 → (L.set i x)[j]? = some x := fun j hj => by
  rw [List.getElem?_set]
  by_cases e : i = j
  · subst e; rw [if_pos rfl, if_pos (by omega)]
  · rw [if_neg e]; exact h j (by omega)
theorem filled {x : Int} {n : Nat} {L : List Int} (hL : L.length = n) (h : ∀ j, j < n → L[j]? = some x) : L = List.replicate n x := by
  apply List.ext_getElem?
  intro j
  by_cases hj : j < n
  · rw [h j hj, List.getElem?_replicate, if_pos hj]
  · rw [List.getElem?_eq_none (by omega), List.getElem?_eq_none (by simp; omega)]
theorem start_ok {lnk : Nat → Nat → Prop} {n frm : Nat} (hf : frm < n) : LenOk lnk n frm ((List.replicate n (99 : Int)).set frm 0) ∧ Upto lnk n frm 0 ((List.replicate n (99 : Int)).set frm 0) := by
  have hv : ∀ k, k < n → val ((List.replicate n (99 : Int)).set frm 0) k = if frm = k then 0 else 99 := fun k hk => by
    rw [val_set _ _ _ _ (by simpa using hf)]
    simp [val, List.getD_eq_getElem?_getD, List.getElem?_replicate, hk]
  refine ⟨⟨by simp, fun k hk => ?_⟩, fun j hj k hk hw => ?_⟩
  · rw [hv k hk]
    by_cases e : frm = k
    · subst e; rw [if_pos rfl]; exact ⟨by omega, .inr ⟨by omega, .nil _⟩⟩
    · rw [if_neg e]; exact ⟨by omega, .inl rfl⟩
  · have : j = 0 := by omega
    subst this
    rw [hv k hk, if_pos hw.zero]
    exact Int.le_refl _
theorem lengths_ok (N links : Int) (n frm : Nat) (hn : 1 ≤ n ∧ n ≤ 8) (hf : frm < n) : CallsM Try.prog F.law18_lengths [.agg #[.int .i64 N, .int .u64 links], .int .i64 n, .int .i64 frm] M fun v M' =>
    ∃ b L, v = .slice (some ⟨b, 0, none⟩) n n ∧ NewSl M T.int 1 (some ⟨b, 0, none⟩) n n (L.map intV) M' ∧ LenOk (lnkN links n) n frm L ∧ Upto (lnkN links n) n frm n L := by
  refine fo_law18_lengths (by simp) ?_
  (conv => whnf); refine ob (by omega) ?_
  (conv => whnf); refine new (fun b hb => ?_)
  replace hb : M b = none := hb
  have hN : NewSl M T.int 1 (some ⟨b, 0, none⟩) n n ((List.replicate n (0 : Int)).map intV) _ := NewSl.lit hb T.int 1 n ((List.replicate n (0 : Int)).map intV) (by simp)
  obtain ⟨M0, hM0⟩ : ∃ M0, M0 = M.setCells b T.int ((List.replicate n (0 : Int)).map intV) := ⟨_, rfl⟩
  rw [← hM0] at hN
  have hM0' : M.setCells b 3 (List.replicate (Int.toNat (n : Int)) [Value.int .i64 0]).flatten = M0 := by
    rw [hM0]; congr 1; simp
  (conv => whnf)
  rw [hM0']
  refine loopF (σ := Nat × Mem × List Int) [8] (fun x => [(8, .int .i64 x.1)]) (fun _ => [.live T.portagelaw18_Net [.v (.int .i64 N), .v (.int .u64 links)]]) (fun x => x.2.1)
    (fun | ⟨i, M1, L⟩ => i ≤ n ∧ NewSl M T.int 1 (some ⟨b, 0, none⟩) n n (L.map intV) M1 ∧ ∀ j, j < i → L[j]? = some (99 : Int)) (fun x => n - x.1) ⟨0, M0, List.replicate n 0⟩
    ⟨by omega, hN, fun j hj => by omega⟩ ⟨(by repeat' first | exact True.intro | refine ⟨rfl, ?_⟩), (by repeat' first | exact True.intro | refine ⟨rfl, ?_⟩), Mem.le_refl _, rfl⟩ ?_
  rintro ⟨i, M1, L⟩ ⟨hi, hN1, hL⟩
  have hll : L.length = n := hN1.src.maplen
  (conv => whnf); refine brn (fun g => ?_) (fun g => ?_)
  · have hi' : i < n := by have := of_decide_eq_true g; dsimp only at this; omega
    obtain ⟨b', cs, hbb, _, hcells, hlen, hst⟩ := hN1.store1 (j := i) (by omega)
    cases hbb
    (conv => whnf); refine ob (by dsimp only; omega) ?_
    (conv => whnf); refine on hcells ?_
    (conv => whnf); refine ob hlen ?_
    (conv => whnf); refine ob (inR_i64 (by dsimp only; omega)) ?_
    (conv => whnf)
    exact ⟨⟨i + 1, _, _⟩, ⟨by omega, (hst 99).1, fill_ok hll hi' hL⟩, by dsimp only; omega, ⟨(by repeat' first | exact True.intro | refine ⟨rfl, ?_⟩), (by repeat' first | exact True.intro | refine ⟨rfl, ?_⟩), Mem.le_refl _, rfl⟩⟩
  have hi' : i = n := by have := of_decide_eq_false g; dsimp only at this; omega
  subst hi'
  have hLe := filled hll hL
  subst hLe
  obtain ⟨b', cs, hbb, _, hcells, hlen, hst⟩ := hN1.store1 (j := frm) (by omega)
  cases hbb
  (conv => whnf); refine ob (by omega) ?_
  (conv => whnf); refine on hcells ?_
  (conv => whnf); refine ob hlen ?_
  have hN2 := (hst 0).1
  obtain ⟨M2, hM2⟩ : ∃ M2, M2 = M1.setCells b T.int (splice cs (0 + frm * 1) [intV 0]) := ⟨_, rfl⟩
  rw [← hM2] at hN2
  have hs := start_ok (lnk := lnkN links i) hf
  (conv => whnf)
  erw [← hM2]
  refine loopF (σ := Nat × Mem × List Int) [9] (fun x => [(9, .int .i64 x.1)]) (fun _ => [.live T.portagelaw18_Net [.v (.int .i64 N), .v (.int .u64 links)]]) (fun x => x.2.1)
    (fun | ⟨r, M3, L⟩ => r ≤ i ∧ NewSl M T.int 1 (some ⟨b, 0, none⟩) i i (L.map intV) M3 ∧ LenOk (lnkN links i) i frm L ∧ Upto (lnkN links i) i frm r L) (fun x => i - x.1) ⟨0, M2, _⟩
    ⟨by omega, hN2, hs.1, hs.2⟩ ⟨(by repeat' first | exact True.intro | refine ⟨rfl, ?_⟩), (by repeat' first | exact True.intro | refine ⟨rfl, ?_⟩), Mem.le_refl _, rfl⟩ ?_
  rintro ⟨r, M3, L⟩ ⟨hr, hN3, hok, hup⟩
  (conv => whnf); refine brn (fun g => ?_) (fun g => ?_)
  · have hr' : r < i := by have := of_decide_eq_true g; dsimp only at this; omega
    (conv => whnf)
    refine loopF (σ := Nat × Mem × List Int) [10] (fun x => [(10, .int .i64 x.1)]) (fun _ => [.live T.portagelaw18_Net [.v (.int .i64 N), .v (.int .u64 links)]]) (fun x => x.2.1)
      (fun | ⟨p, M4, L⟩ => p ≤ i ∧ NewSl M T.int 1 (some ⟨b, 0, none⟩) i i (L.map intV) M4 ∧ LenOk (lnkN links i) i frm L ∧ Upto (lnkN links i) i frm r L ∧ Part (lnkN links i) i frm r p 0 L) (fun x => i - x.1) ⟨0, M3, L⟩
      ⟨by omega, hN3, hok, hup, Part.start⟩ ⟨(by repeat' first | exact True.intro | refine ⟨rfl, ?_⟩), (by repeat' first | exact True.intro | refine ⟨rfl, ?_⟩), Mem.le_refl _, rfl⟩ ?_
    rintro ⟨p, M4, L4⟩ ⟨hp, hN4, hok4, hup4, hpt4⟩
    (conv => whnf); refine brn (fun g => ?_) (fun g => ?_)
    · have hp' : p < i := by have := of_decide_eq_true g; dsimp only at this; omega
      (conv => whnf)
      refine loopF (σ := Nat × Mem × List Int) [11] (fun x => [(11, .int .i64 x.1)]) (fun _ => [.live T.portagelaw18_Net [.v (.int .i64 N), .v (.int .u64 links)]]) (fun x => x.2.1)
        (fun | ⟨k, M5, L⟩ => k ≤ i ∧ NewSl M T.int 1 (some ⟨b, 0, none⟩) i i (L.map intV) M5 ∧ LenOk (lnkN links i) i frm L ∧ Upto (lnkN links i) i frm r L ∧ Part (lnkN links i) i frm r p k L) (fun x => i - x.1) ⟨0, M4, L4⟩
        ⟨by omega, hN4, hok4, hup4, hpt4⟩ ⟨(by repeat' first | exact True.intro | refine ⟨rfl, ?_⟩), (by repeat' first | exact True.intro | refine ⟨rfl, ?_⟩), Mem.le_refl _, rfl⟩ ?_
      rintro ⟨k, M5, L5⟩ ⟨hk, hN5, hok5, hup5, hpt5⟩
      (conv => whnf); refine brn (fun g => ?_) (fun g => ?_)
      · have hk' : k < i := by have := of_decide_eq_true g; dsimp only at this; omega
        (conv => whnf); refine (linked_ok N links p k (by omega) (by omega)).mono ?_
        rintro v _ ⟨rfl, rfl⟩
        (conv => whnf); refine brn (fun h => ?_) (fun h => ?_)
        · have hl : lnkN links i p k := ⟨hp', hk', h⟩
          have hlen5 := hok5.len
          obtain ⟨b5, o5, hb5, hrowk⟩ := hN5.src.get (j := k) (v := intV (val L5 k)) (by rw [List.getElem?_map, val_get (by omega)]; rfl)
          cases hb5
          obtain ⟨b6, o6, hb6, hrowp⟩ := hN5.src.get (j := p) (v := intV (val L5 p)) (by rw [List.getElem?_map, val_get (by omega)]; rfl)
          cases hb6
          obtain ⟨b', cs5, hbb, _, hcells5, hlc5, hst5⟩ := hN5.store1 (j := k) (by omega)
          cases hbb
          have hvp := (hok5.way p hp').1
          have hvp' := hok5.le99 hp'
          (conv => whnf); refine ob (by dsimp only; omega) ?_
          (conv => whnf); refine on hrowk ?_
          (conv => whnf); refine ob (by dsimp only; omega) ?_
          (conv => whnf); refine on hrowp ?_
          (conv => whnf); refine ob (inR_i64 (by omega)) ?_
          (conv => whnf); refine ob (by dsimp only; omega) ?_
          repeat' ((conv => whnf); first | refine ⟨?_, True.intro⟩ | refine brn_t rfl ?_ | refine brn_f rfl ?_ | refine ob rfl ?_ | refine ob (by decide) ?_ | refine ob (Mem.le_refl _) ?_ | refine ⟨_, Mem.le_refl _, ?_⟩ | fail)
          refine on hcells5 ?_
          (conv => whnf); refine ob hlc5 ?_
          repeat' ((conv => whnf); first | refine ⟨?_, True.intro⟩ | refine brn_t rfl ?_ | refine brn_f rfl ?_ | refine ob rfl ?_ | refine ob (by decide) ?_ | refine ob (Mem.le_refl _) ?_ | refine ⟨_, Mem.le_refl _, ?_⟩ | fail)
          refine ob (inR_i64 (by dsimp only; omega)) ?_
          (conv => whnf)
          exact ⟨⟨k + 1, _, _⟩, ⟨by omega, (hst5 _).1, hok5.step hp' hk' hl, hup5.le fun m => set_le (by omega) _ m, hpt5.step hup5 hlen5 hk'⟩, by dsimp only; omega, ⟨(by repeat' first | exact True.intro | refine ⟨rfl, ?_⟩), (by repeat' first | exact True.intro | refine ⟨rfl, ?_⟩), Mem.le_refl _, rfl⟩⟩
        · (conv => whnf); refine ob (inR_i64 (by dsimp only; omega)) ?_
          (conv => whnf)
          exact ⟨⟨k + 1, M5, L5⟩, ⟨by omega, hN5, hok5, hup5, hpt5.skip fun hl => by rw [hl.2.2] at h; cases h⟩, by dsimp only; omega, ⟨(by repeat' first | exact True.intro | refine ⟨rfl, ?_⟩), (by repeat' first | exact True.intro | refine ⟨rfl, ?_⟩), Mem.le_refl _, rfl⟩⟩
      · have hk' : k = i := by have := of_decide_eq_false g; dsimp only at this; omega
        subst hk'
        (conv => whnf); refine ob (inR_i64 (by dsimp only; omega)) ?_
        (conv => whnf)
        exact ⟨⟨p + 1, M5, L5⟩, ⟨by omega, hN5, hok5, hup5, hpt5.row⟩, by dsimp only; omega, ⟨(by repeat' first | exact True.intro | refine ⟨rfl, ?_⟩), (by repeat' first | exact True.intro | refine ⟨rfl, ?_⟩), Mem.le_refl _, rfl⟩⟩
    · have hp' : p = i := by have := of_decide_eq_false g; dsimp only at this; omega
      subst hp'
      (conv => whnf); refine ob (inR_i64 (by dsimp only; omega)) ?_
      (conv => whnf)
      exact ⟨⟨r + 1, M4, L4⟩, ⟨by omega, hN4, hok4, hpt4.done hup4 fun a b h => ⟨h.1, h.2.1⟩⟩, by dsimp only; omega, ⟨(by repeat' first | exact True.intro | refine ⟨rfl, ?_⟩), (by repeat' first | exact True.intro | refine ⟨rfl, ?_⟩), Mem.le_refl _, rfl⟩⟩
  · have hr' : r = i := by have := of_decide_eq_false g; dsimp only at this; omega
    subst hr'
    (conv => whnf)
    exact ⟨b, L, rfl, hN3, hok, hup⟩
end Go.Proofs.Ytankgacaeejlhaa
