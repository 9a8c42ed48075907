/- Tables of ways: the probe. -/
import Derived.Test.YtankgacaeejlhaaRoutesE
namespace Go.Proofs.Ytankgacaeejlhaa
open Go Go.Vm
attribute [local irreducible] Brn Ob CallsM inR LoopVC Mem.row Mem.cells Mem.setCells Mem.upd Own AppVC SrcVC StrVC NextVC New SrcOk subA NewSl Mem.textAt Mem.mapAt Mem.iterAt entryOf kfind Wr NewEls Elems
set_option maxRecDepth 10000
variable {M : Mem}
theorem GoodM.put {m : List (Int × Hd)} (hg : GoodM m) {x : Int} {l : List Int} {h : Hd} (hr : rightC l = true) (hc : ∀ i, i < 64 → l[i]? = some (h.c i)) : GoodM (aput m x h) := by
  intro k h' hk i hi
  rw [aget_aput] at hk
  split at hk
  · cases hk
    have h1 := hc i hi
    have hm : h.c i ∈ l := List.mem_of_getElem? h1
    have hall : l.all isCost = true := by simp only [rightC, Bool.and_eq_true] at hr; exact hr.2
    have := List.all_eq_true.1 hall _ hm
    simp [isCost] at this
    omega
  · exact hg k h' hk i hi
theorem GoodM.nil : GoodM [] := fun k h hk => by cases hk
theorem awake_ok : CallsM Try.prog F.law18_awake [] M fun v M' => v = .bool true ∧ M.le M' := by
  refine fo_law18_awake (by simp) ?_
  (conv => whnf); refine new (fun b0 hb0 => ?_)
  replace hb0 : M b0 = none := hb0
  have hN0 : NewSl M T.int 1 (some ⟨b0, 0, none⟩) 2 2 (([0, 2] : List Int).map intV) _ := NewSl.lit hb0 T.int 1 2 (([0, 2] : List Int).map intV) rfl
  obtain ⟨M0, hM0⟩ : ∃ M0, M0 = M.setCells b0 T.int (([0, 2] : List Int).map intV) := ⟨_, rfl⟩
  rw [← hM0] at hN0
  (conv => whnf)
  erw [← hM0]
  (conv => whnf); refine (New_ok 1 9 (some ⟨b0, 0, none⟩) 2 2 [0, 2] hN0.src (by omega)).mono ?_
  rintro v M1 (⟨hne, _⟩ | ⟨_, p, b1, b2, a, c, rfl, hp, h1, h2, ha, hle, ht⟩)
  · exact absurd (by decide) hne
  repeat' ((conv => whnf); first | refine ⟨?_, True.intro⟩ | refine brn_t rfl ?_ | refine brn_f rfl ?_ | refine ob rfl ?_ | refine ob (by decide) ?_ | refine ob (Mem.le_refl _) ?_ | refine ⟨_, Mem.le_refl _, ?_⟩ | fail)
  refine (flat_ok (M := M1) 3 1 (by omega)).mono ?_
  rintro v M2 ⟨bf, rfl, hNf⟩
  have ht2 := ht.le hNf.le
  (conv => whnf); refine (Hear_ok ht2 (by omega) 2 (some ⟨bf, 0, none⟩) 64 64 _ hNf.src (by omega)).mono ?_
  rintro v M3 ⟨rfl, ⟨hne, _⟩ | ⟨he, hin, hr, hkp, h, hh, hleft, ht3⟩⟩
  · exact absurd (by decide) hne
  rw [he]
  have hle3 : M.le M3 := hkp.le (Mem.le_trans hN0.le (Mem.le_trans hle hNf.le)) fun b e => by
    have e : b = b2 := e
    subst e
    cases hM : M b with
    | none => rfl
    | some o => have := hN0.le _ _ hM; rw [h2] at this; cases this
  have hg : GoodM (aput [] 2 h) := GoodM.put GoodM.nil hr hh
  have h3 : h.c 3 = 1 := by
    have := hh 3 (by omega)
    have e : ((List.replicate 64 (16 : Int)).set (Int.toNat 3) 1)[3]? = some 1 := rfl
    rw [e] at this
    exact (Option.some.inj this).symm
  have hc : costOf 1 [] (aput [] 2 h) 3 = 2 := by
    have e : aput ([] : List (Int × Hd)) 2 h = [(2, h)] := rfl
    have e2 : aget ([] : List (Int × Int)) 3 = none := rfl
    have e3 : isNode 3 = true := by decide
    simp only [costOf, e, e2, e3, if_true, lst, List.foldr_cons, List.foldr_nil]
    have : Int.toNat 3 = 3 := rfl
    rw [this, h3]; decide
  have hb0' : byC (aput [] 2 h) 3 0 = 16 := by
    have e : aget (aput ([] : List (Int × Hd)) 2 h) 0 = none := rfl
    simp [byC, e]
  have hb2 : byC (aput [] 2 h) 3 2 = 2 := by
    have e : aget (aput ([] : List (Int × Hd)) 2 h) 2 = some h := rfl
    have : Int.toNat 3 = 3 := rfl
    simp only [byC, e, this, h3]; decide
  have hnx : nextOf 1 [0, 2] [] (aput [] 2 h) 3 = some 2 := by
    have e2 : aget ([] : List (Int × Int)) 3 = none := rfl
    have e3 : isNode 3 = true := by decide
    simp [nextOf, e2, e3, hc, hb0', hb2]
  repeat' ((conv => whnf); first | refine ⟨?_, True.intro⟩ | refine brn_t rfl ?_ | refine brn_f rfl ?_ | refine ob rfl ?_ | refine ob (by decide) ?_ | refine ob (Mem.le_refl _) ?_ | refine ⟨_, Mem.le_refl _, ?_⟩ | fail)
  refine (Next_ok ht3 hg (by omega) 3).mono ?_
  rintro v M4 ⟨rfl, hle4⟩
  rw [hnx]
  (conv => whnf); refine (Vector_ok (ht3.le hle4) hg (by omega) 2).mono ?_
  rintro v M5 (⟨hn, _⟩ | ⟨_, bv, L, rfl, hNv, hL⟩)
  · exact absurd hin hn
  repeat' ((conv => whnf); first | refine ⟨?_, True.intro⟩ | refine brn_t rfl ?_ | refine brn_f rfl ?_ | refine ob rfl ?_ | refine ob (by decide) ?_ | refine ob (Mem.le_refl _) ?_ | refine ⟨_, Mem.le_refl _, ?_⟩ | fail)
  refine (Cost_ok ((ht3.le hle4).le hNv.le) hg 3).mono ?_
  rintro v M6 ⟨rfl, hle6⟩
  rw [hc]
  repeat' ((conv => whnf); first | refine ⟨?_, True.intro⟩ | refine brn_t rfl ?_ | refine brn_f rfl ?_ | refine ob rfl ?_ | refine ob (by decide) ?_ | refine ob (Mem.le_refl _) ?_ | refine ⟨_, Mem.le_refl _, ?_⟩ | fail)
  have hL3 : L[3]? = some 16 := by
    rw [hL, List.getElem?_map]
    simp [vecOf, hnx]
  obtain ⟨b, o, hbo, hrow⟩ := (hNv.src.le hle6).get (j := 3) (v := intV 16) (by rw [List.getElem?_map, hL3]; rfl)
  cases hbo
  refine on hrow ?_
  (conv => whnf)
  exact ⟨rfl, Mem.le_trans hle3 (Mem.le_trans hle4 (Mem.le_trans hNv.le hle6))⟩
end Go.Proofs.Ytankgacaeejlhaa
