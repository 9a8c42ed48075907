/- StoreFrom, as a contract. -/
import Derived.Test.YtlocjjponfbhmaaJoin33
import Derived.Test.YtlocjjponfbhmaaFromD
namespace Go.Proofs.Ytlocjjponfbhmaa
open Go Go.Vm
attribute [local irreducible] Brn Ob Grow CallsM inR LoopVC Mem.row Mem.cells Mem.setCells Mem.upd Own AppVC SrcVC StrVC NextVC New SrcOk subA NewSl Mem.textAt Mem.mapAt Mem.iterAt entryOf kfind Wr NewEls Elems
set_option maxRecDepth 10000
variable {M : Mem} {self epoch : Int} {ul : NxT} {ms : List MX} {mk : List MkC}
theorem from15_law (qh qb qg : Int) {ua ha ma : Option Addr} {un uc hn hc mn mc : Nat} (h : StatR M ua un ha hn ma mn ul ms mk) (hB : BigS ms mk un hn hc mn) :
    CallsM Try.prog F.law15_StoreFrom [.agg #[.int .i64 qh, .int .i64 qb, .int .i64 qg], statV self epoch ua un uc ha hn hc ma mn mc] M fun v M' => v = .bool true ∧ M.le M' := by
  refine fo_law15_StoreFrom (by simp) ?_
  repeat' ((conv => whnf); first | refine ⟨?_, True.intro⟩ | refine brn_t rfl ?_ | refine brn_f rfl ?_ | refine ob rfl ?_ | refine ob (by decide) ?_ | refine grow_same (Mem.le_refl _) ?_ | refine ob (Mem.le_refl _) ?_ | refine ⟨_, Mem.le_refl _, ?_⟩ | fail)
  refine (copyState_ok h hB).mono ?_
  rintro v M1 ⟨ua1, uc1, ha1, hc1, ma1, mc1, ms1, mk1, rfl, hle1, h1, hB1, em, ek⟩
  repeat' ((conv => whnf); first | refine ⟨?_, True.intro⟩ | refine brn_t rfl ?_ | refine brn_f rfl ?_ | refine ob rfl ?_ | refine ob (by decide) ?_ | refine grow_same (Mem.le_refl _) ?_ | refine ob (Mem.le_refl _) ?_ | refine ⟨_, Mem.le_refl _, ?_⟩ | fail)
  refine (From15_ok qh qb qg h1 hB1).mono ?_
  rw [em, ek]
  rintro v M2 ⟨e, hC, ⟨he0, rfl, hle2⟩ | ⟨he0, p, b, sp, sb, came, xs, es, rfl, h2, hcm, hes⟩⟩
  · repeat' ((conv => whnf); first | refine ⟨?_, True.intro⟩ | refine brn_t rfl ?_ | refine brn_f rfl ?_ | refine ob rfl ?_ | refine ob (by decide) ?_ | refine grow_same (Mem.le_refl _) ?_ | refine ob (Mem.le_refl _) ?_ | refine ⟨_, Mem.le_refl _, ?_⟩ | fail)
    refine (checkS15_ok qh qb qg (h.le (Mem.le_trans hle1 hle2)) hB).mono ?_
    rintro v _ ⟨e', rfl, hC', rfl⟩
    obtain rfl := hC.uniq hC'
    (conv => whnf)
    refine brn_f (by simp) ?_
    (conv => whnf)
    refine brn_f (by simp [he0]) ?_
    repeat' ((conv => whnf); first | refine ⟨?_, True.intro⟩ | refine brn_t rfl ?_ | refine brn_f rfl ?_ | refine ob rfl ?_ | refine ob (by decide) ?_ | refine grow_same (Mem.le_refl _) ?_ | refine ob (Mem.le_refl _) ?_ | refine ⟨_, Mem.le_refl _, ?_⟩ | fail)
    refine (sameState_ok self epoch (h1.le hle2) (h.le (Mem.le_trans hle1 hle2)) em ek _ _ _ _ _ _).mono ?_
    rintro v _ ⟨rfl, rfl⟩
    repeat' ((conv => whnf); first | refine ob rfl ?_ | refine grow_same (Mem.le_refl _) ?_ | refine ob (Mem.le_refl _) ?_ | refine ⟨?_, True.intro⟩ | fail)
    (conv => whnf); refine brn_f (by simp) ?_
    (conv => whnf)
    refine brn_t (by simp [he0]) ?_
    repeat' ((conv => whnf); first | refine ⟨?_, True.intro⟩ | refine brn_t rfl ?_ | refine brn_f rfl ?_ | refine ob rfl ?_ | refine ob (by decide) ?_ | refine grow_same (Mem.le_refl _) ?_ | refine ob (Mem.le_refl _) ?_ | refine ⟨_, Mem.le_refl _, ?_⟩ | fail)
    refine awake_ok.mono ?_
    rintro v M3 ⟨rfl, hle3⟩
    repeat' ((conv => whnf); first | refine ⟨?_, True.intro⟩ | refine brn_t rfl ?_ | refine brn_f rfl ?_ | refine ob rfl ?_ | refine ob (by decide) ?_ | refine grow_same (Mem.le_refl _) ?_ | refine ob (Mem.le_refl _) ?_ | refine ⟨_, Mem.le_refl _, ?_⟩ | fail)
    exact ⟨rfl, Mem.le_trans hle1 (Mem.le_trans hle2 hle3)⟩
  subst he0
  have hF : FormS self epoch ul (ms.map MX.msg) (mk.map MkC.mk') := by
    rcases hC with ⟨_, h⟩ | ⟨_, _, h⟩ | ⟨_, _, _, h⟩ | ⟨_, h, _, _⟩
    · cases h
    · cases h
    · cases h
    · exact h
  have hle12 := Mem.le_trans hle1 h2.le
  repeat' ((conv => whnf); first | refine ⟨?_, True.intro⟩ | refine brn_t rfl ?_ | refine brn_f rfl ?_ | refine ob rfl ?_ | refine ob (by decide) ?_ | refine grow_same (Mem.le_refl _) ?_ | refine ob (Mem.le_refl _) ?_ | refine ⟨_, Mem.le_refl _, ?_⟩ | fail)
  refine (checkS15_ok qh qb qg (h.le hle12) hB).mono ?_
  rintro v _ ⟨e', rfl, hC', rfl⟩
  obtain rfl := hC.uniq hC'
  (conv => whnf)
  refine brn_f (by simp) ?_
  (conv => whnf)
  refine brn_f (by simp) ?_
  repeat' ((conv => whnf); first | refine ⟨?_, True.intro⟩ | refine brn_t rfl ?_ | refine brn_f rfl ?_ | refine ob rfl ?_ | refine ob (by decide) ?_ | refine grow_same (Mem.le_refl _) ?_ | refine ob (Mem.le_refl _) ?_ | refine ⟨_, Mem.le_refl _, ?_⟩ | fail)
  refine (sameState_ok self epoch (h1.le h2.le) (h.le hle12) em ek _ _ _ _ _ _).mono ?_
  rintro v _ ⟨rfl, rfl⟩
  repeat' ((conv => whnf); first | refine ob rfl ?_ | refine grow_same (Mem.le_refl _) ?_ | refine ob (Mem.le_refl _) ?_ | refine ⟨?_, True.intro⟩ | fail)
  (conv => whnf); refine brn_f (by simp) ?_
  (conv => whnf)
  refine brn_f (by simp) ?_
  repeat' ((conv => whnf); first | refine ⟨?_, True.intro⟩ | refine brn_t rfl ?_ | refine brn_f rfl ?_ | refine ob rfl ?_ | refine ob (by decide) ?_ | refine grow_same (Mem.le_refl _) ?_ | refine ob (Mem.le_refl _) ?_ | refine ⟨_, Mem.le_refl _, ?_⟩ | fail)
  have hml : mk.length = es.length := by have := congrArg List.length hes; simpa using this.symm
  have hb4 := hB.b4
  have hb2 := hB.b2
  have hhl := h.held.len
  have hkl := h.seen.len
  refine (State_ok h2 (by rw [List.length_map] at hcm; omega) (by omega)).mono ?_
  rintro v M3 ⟨ua3, uc3, ha3, hc3, ms3, ma3, mc3, mk3, rfl, hle3, hN, hH, hmsg, hMk, hperm, hcan⟩
  have hmkl : mk3.length = es.length := by have := hperm.length_eq; simpa using this
  have hmsl : ms3.length = ms.length := by have := congrArg List.length hmsg; simpa using this
  have hus : (usedD (arrU ul)) = ul := usedD_arrU hF.1.1
  have hfm : FewM mk3 := by
    have hF : FreshS (M2.minus (setB sp sb es)) M2 sp sb qg es := ⟨Mem.minus_le _ _, h2.at'.set, h2.invE, h2.room, fun _ hy => Mem.minus_in hy⟩
    exact hF.fewM hperm
  have hle13 := Mem.le_trans hle12 hle3
  have hul := h.used.flen encN_len (by decide)
  have hb1 := hB.b1
  have s3 : StatR M3 ua3 (usedD (arrU ul)).length ha3 ms3.length ma3 mk3.length ul ms3 mk3 := ⟨by have := hN.src; dsimp only at this; rwa [hus] at this ⊢, hH.msgs, hMk.r, hfm, by rw [hus]; omega⟩
  have hk3 : mk3.map MkC.mk' = mk.map MkC.mk' := by
    rw [← hes]
    have h4 := hF.2.2.2
    rw [← hes] at h4
    exact sorted_ext (R := ltMk) (fun x => by unfold ltMk; omega) (fun x y => by unfold ltMk; omega) hcan.sorted h4.2 fun x => hperm.mem_iff
  repeat' ((conv => whnf); first | refine ob rfl ?_ | refine grow_same hle3 ?_ | refine ob hle3 ?_ | refine ⟨?_, True.intro⟩ | fail)
  repeat' ((conv => whnf); first | refine ⟨?_, True.intro⟩ | refine brn_t rfl ?_ | refine brn_f rfl ?_ | refine ob rfl ?_ | refine ob (by decide) ?_ | refine grow_same (Mem.le_refl _) ?_ | refine ob (Mem.le_refl _) ?_ | refine ⟨_, Mem.le_refl _, ?_⟩ | fail)
  refine (sameState_ok self epoch s3 (h.le hle13) hmsg hk3 _ _ _ _ _ _).mono ?_
  rintro v _ ⟨rfl, rfl⟩
  repeat' ((conv => whnf); first | refine ob rfl ?_ | refine grow_same hle3 ?_ | refine ob hle3 ?_ | refine ⟨?_, True.intro⟩ | fail)
  (conv => whnf); refine brn_t (by simp) ?_
  repeat' ((conv => whnf); first | refine ⟨?_, True.intro⟩ | refine brn_t rfl ?_ | refine brn_f rfl ?_ | refine ob rfl ?_ | refine ob (by decide) ?_ | refine grow_same (Mem.le_refl _) ?_ | refine ob (Mem.le_refl _) ?_ | refine ⟨_, Mem.le_refl _, ?_⟩ | fail)
  refine awake_ok.mono ?_
  rintro v M4 ⟨rfl, hle4⟩
  repeat' ((conv => whnf); first | refine ⟨?_, True.intro⟩ | refine brn_t rfl ?_ | refine brn_f rfl ?_ | refine ob rfl ?_ | refine ob (by decide) ?_ | refine grow_same (Mem.le_refl _) ?_ | refine ob (Mem.le_refl _) ?_ | refine ⟨_, Mem.le_refl _, ?_⟩ | fail)
  exact ⟨rfl, Mem.le_trans hle13 hle4⟩
end Go.Proofs.Ytlocjjponfbhmaa

