/- DiskSyncs and DiskRooms, as contracts. -/
import Derived.Test.YtdjgmhifocdelaaDiskV
namespace Go.Proofs.Ytdjgmhifocdelaa
open Go Go.Vm
attribute [local irreducible] Brn Ob Grow CallsM inR LoopVC Mem.row Mem.cells Mem.setCells Mem.upd Own AppVC SrcVC StrVC NextVC New SrcOk subA NewSl Mem.textAt Mem.mapAt Mem.iterAt entryOf kfind Wr NewEls Elems
set_option maxRecDepth 10000
variable {M : Mem} {D : DiskR}
theorem with_names {L : List FileR} (h : SortedR L) {f x : FileR} (hx : findR L f.name = some x) : (withR L f).map (·.name) = L.map (·.name) := by
  obtain ⟨hm, hn⟩ := (findR_some h).1 hx
  have s1 : ∀ {L : List FileR}, SortedR L → (L.map (·.name)).Pairwise fun x y => lessT x y = true := fun {L} h => by rw [List.pairwise_map]; exact h
  have nd : ∀ {l : List ByteArray}, l.Pairwise (fun x y => lessT x y = true) → l.Nodup := fun {l} h => h.imp fun {x y} hxy e => by rw [e, lessT_irrefl] at hxy; cases hxy
  refine List.Perm.eq_of_pairwise (le := fun x y => lessT x y = true) (fun x y _ _ h1 h2 => ?_) (s1 (withR_sorted h f)) (s1 h) ((List.perm_ext_iff_of_nodup (nd (s1 (withR_sorted h f))) (nd (s1 h))).2 fun n => ?_)
  · have := lessT_trans h1 h2; rw [lessT_irrefl] at this; cases this
  · simp only [List.mem_map]
    constructor
    · rintro ⟨y, hy, rfl⟩
      rcases withR_mem.1 hy with rfl | ⟨hy, _⟩
      · exact ⟨x, hm, hn⟩
      · exact ⟨y, hy, rfl⟩
    · rintro ⟨y, hy, rfl⟩
      by_cases e : y.name = f.name
      · exact ⟨f, withR_mem.2 (.inl rfl), e.symm⟩
      · exact ⟨y, withR_mem.2 (.inr ⟨hy, e⟩), rfl⟩
theorem crashF_id {keep : List Int} {i : Nat} {f : FileR} (h : f.tail = .empty) : crashF keep i f = f := by
  have h1 := keptN_le keep i f
  rw [h] at h1
  have h0 : keptN keep i f = 0 := by have e : ByteArray.empty.size = 0 := rfl; omega
  obtain ⟨n, s, t⟩ := f
  dsimp only at h
  subst h
  unfold crashF
  rw [h0]
  dsimp only
  congr 1
  apply bl_inj
  rw [bl_append, bl_extract]
  simp
theorem crash_same {keep : List Int} (h : ∀ f ∈ D.l, f.tail = .empty) : (crashR D keep).l = D.l := by
  unfold crashR
  dsimp only
  apply List.ext_getElem?
  intro i
  rw [List.getElem?_mapIdx]
  cases hi : D.l[i]? with
  | none => rfl
  | some f => simp only [Option.map_some, crashF_id (h f (List.mem_of_getElem? hi))]
theorem syncs_law (limit : Int) {a : Option Addr} {n c : Nat} {l : List ActD} (hl : Elems M 6 a n (ActR M) l) (hn : n ≤ 1048576) {ka : Option Addr} {kn kc : Nat} {keep : List Int} (hk : SrcOk M 1 ka kn (keep.map intV)) (hkn : kn ≤ 1048576) :
    CallsM Try.prog F.law10_DiskSyncs [.int .i64 limit, .slice a n c, .slice ka kn kc] M fun v M' => v = .bool true ∧ M.le M' := by
  refine fo_law10_DiskSyncs (by simp) ?_
  repeat' ((conv => whnf); first | refine ⟨?_, True.intro⟩ | refine brn_t rfl ?_ | refine brn_f rfl ?_ | refine ob rfl ?_ | refine ob (by decide) ?_ | refine grow_same (Mem.le_refl _) ?_ | refine ob (Mem.le_refl _) ?_ | refine ⟨_, Mem.le_refl _, ?_⟩ | fail)
  refine (done_ok limit hl hn).mono ?_
  rintro v M1 (⟨hg, rfl, rfl⟩ | ⟨hg, p, b, D, es, rfl, h1, hN1⟩)
  · repeat' ((conv => whnf); first | refine ⟨?_, True.intro⟩ | refine brn_t rfl ?_ | refine brn_f rfl ?_ | refine ob rfl ?_ | refine ob (by decide) ?_ | refine grow_same (Mem.le_refl _) ?_ | refine ob (Mem.le_refl _) ?_ | refine ⟨_, Mem.le_refl _, ?_⟩ | fail)
    refine (may_ok limit).mono ?_
    rintro v _ ⟨rfl, rfl⟩
    (conv => whnf); refine brn_t (by simp [hg]) ?_
    repeat' ((conv => whnf); first | refine ⟨?_, True.intro⟩ | refine brn_t rfl ?_ | refine brn_f rfl ?_ | refine ob rfl ?_ | refine ob (by decide) ?_ | refine grow_same (Mem.le_refl _) ?_ | refine ob (Mem.le_refl _) ?_ | refine ⟨_, Mem.le_refl _, ?_⟩ | fail)
    refine awake_ok.mono ?_
    rintro v M2 ⟨rfl, hle⟩
    repeat' ((conv => whnf); first | refine ⟨?_, True.intro⟩ | refine brn_t rfl ?_ | refine brn_f rfl ?_ | refine ob rfl ?_ | refine ob (by decide) ?_ | refine grow_same (Mem.le_refl _) ?_ | refine ob (Mem.le_refl _) ?_ | refine ⟨_, Mem.le_refl _, ?_⟩ | fail)
    exact ⟨rfl, hle⟩
  repeat' ((conv => whnf); first | refine ⟨?_, True.intro⟩ | refine brn_t rfl ?_ | refine brn_f rfl ?_ | refine ob rfl ?_ | refine ob (by decide) ?_ | refine grow_same (Mem.le_refl _) ?_ | refine ob (Mem.le_refl _) ?_ | refine ⟨_, Mem.le_refl _, ?_⟩ | fail)
  refine (Names_ok h1.at' h1.rel h1.inv).mono ?_
  rintro v M2 ⟨na, nc, rfl, hNm⟩
  have h2 := h1.to hNm.le
  obtain ⟨h2b, hB⟩ := h2.base
  have hnB := hNm.src.minus (S := diskB p b es) fun q hq hb => h1.at'.full hb (hNm.block hq).1
  have hkB := hk.le hB
  have hln := h1.inv.len
  obtain ⟨B, hBe⟩ : ∃ B, B = M2.minus (diskB p b es) := ⟨_, rfl⟩
  rw [← hBe] at h2b hB hnB hkB
  (conv => whnf)
  refine loopF (σ := Nat × Mem × DiskR × FsT) [9] (fun y => [(9, .int .i64 y.1)]) (fun _ => []) (fun y => y.2.1)
    (fun | ⟨i, Mc, E, fs⟩ => i ≤ D.l.length ∧ FreshD B Mc p b E fs ∧ InvN limit E ∧ E.l.map (·.name) = D.l.map (·.name) ∧ ∀ f ∈ E.l, f.name ∈ (D.l.map (·.name)).take i → f.tail = .empty) (fun y => D.l.length - y.1) ⟨0, M2, D, es⟩ ⟨by omega, h2b, hN1, rfl, by simp⟩ ⟨(by repeat' first | exact True.intro | refine ⟨rfl, ?_⟩), (by repeat' first | exact True.intro | refine ⟨rfl, ?_⟩), Mem.le_refl _, rfl⟩ ?_
  rintro ⟨i, Mc, E, fs⟩ ⟨hi, hF, hN, hnm, hte⟩
  (conv => whnf); refine brn (fun g => ?_) (fun g => ?_)
  · have hlt : i < D.l.length := by have := of_decide_eq_true g; dsimp only at this; omega
    obtain ⟨hk1, b1, o1, e1, hr1⟩ := (hnB.le hF.le).at (i := i) hlt
    have hnmi : (D.l.map (·.name))[i]? = some (D.l.map (·.name))[i] := List.getElem?_eq_getElem hk1
    generalize (D.l.map (·.name))[i] = s at *
    have hsm : s ∈ E.l.map (·.name) := by rw [hnm]; exact List.mem_of_getElem? hnmi
    obtain ⟨f, hf, hfs⟩ := List.mem_map.1 hsm
    obtain ⟨ht0, hfile⟩ := hN.there hf
    rw [hfs] at ht0 hfile
    have hsz := hN.len hf
    rw [hfs] at hsz
    have hev : syncR E s = (changedR E (withR E.l ⟨s, (fileR E s).all, .empty⟩), 0) := by unfold syncR; rw [if_neg (by simp [ht0])]
    have hN2 := hN.sync s
    (conv => whnf); refine ob (by first | omega | (dsimp only; omega)) ?_
    (conv => whnf); refine atp e1 ?_
    (conv => whnf); refine on hr1 ?_
    (conv => whnf); refine (syncF hF (by omega)).mono ?_
    rw [hev] at hN2 ⊢
    rintro v M3 ⟨fs3, rfl, h3⟩
    repeat' ((conv => whnf); first | refine ⟨?_, True.intro⟩ | refine brn_t rfl ?_ | refine brn_f rfl ?_ | refine ob rfl ?_ | refine ob (by decide) ?_ | refine grow_same (Mem.le_refl _) ?_ | refine ob (Mem.le_refl _) ?_ | refine ⟨_, Mem.le_refl _, ?_⟩ | fail)
    refine ob (inR_i64 (by first | omega | (dsimp only; omega))) ?_
    (conv => whnf)
    have hff : findR E.l s = some f := (findR_some hN.inv.sort).2 ⟨hf, hfs⟩
    refine ⟨⟨i + 1, M3, _, fs3⟩, ⟨by omega, h3, hN2, ?_, fun x hx hxn => ?_⟩, by dsimp only; omega, ⟨(by repeat' first | exact True.intro | refine ⟨rfl, ?_⟩), (by repeat' first | exact True.intro | refine ⟨rfl, ?_⟩), Mem.le_refl _, rfl⟩⟩
    · exact (with_names (f := ⟨s, (fileR E s).all, .empty⟩) hN.inv.sort hff).trans hnm
    · rcases withR_mem.1 hx with rfl | ⟨hx, hne⟩
      · rfl
      · rw [List.take_add_one, hnmi] at hxn
        rcases List.mem_append.1 hxn with h4 | h4
        · exact hte x hx h4
        · simp at h4; exact absurd h4 hne
  have hge : i = D.l.length := by have := of_decide_eq_false g; dsimp only at this; omega
  have hall : ∀ f ∈ E.l, f.tail = .empty := fun f hf => hte f hf (by
    rw [List.take_of_length_le (by simp; omega), ← hnm]; exact List.mem_map.2 ⟨f, hf, rfl⟩)
  repeat' ((conv => whnf); first | refine ⟨?_, True.intro⟩ | refine brn_t rfl ?_ | refine brn_f rfl ?_ | refine ob rfl ?_ | refine ob (by decide) ?_ | refine grow_same (Mem.le_refl _) ?_ | refine ob (Mem.le_refl _) ?_ | refine ⟨_, Mem.le_refl _, ?_⟩ | fail)
  refine (Fork_ok hF.at' hF.rel hF.inv).mono ?_
  rintro v M4 ⟨q, d, gs, rfl, hle4, h4, hr4, hfr4⟩
  have hF4 : FreshD Mc M4 q d E gs := ⟨hle4, h4, hr4, hF.inv, hfr4⟩
  repeat' ((conv => whnf); first | refine ⟨?_, True.intro⟩ | refine brn_t rfl ?_ | refine brn_f rfl ?_ | refine ob rfl ?_ | refine ob (by decide) ?_ | refine grow_same (Mem.le_refl _) ?_ | refine ob (Mem.le_refl _) ?_ | refine ⟨_, Mem.le_refl _, ?_⟩ | fail)
  refine (crashFr hF4 (hkB.le hF.le) (by omega)).mono ?_
  rintro v M5 ⟨gs5, rfl, h5⟩
  have hcs := crash_same (keep := keep) hall
  repeat' ((conv => whnf); first | refine ⟨?_, True.intro⟩ | refine brn_t rfl ?_ | refine brn_f rfl ?_ | refine ob rfl ?_ | refine ob (by decide) ?_ | refine grow_same (Mem.le_refl _) ?_ | refine ob (Mem.le_refl _) ?_ | refine ⟨_, Mem.le_refl _, ?_⟩ | fail)
  refine (same_ok h5.at' h5.rel ⟨h5.inv, rfl, by rw [hcs]; exact hN.names⟩ (hF.at'.le h5.le) hF.rel hN.lit hcs).mono ?_
  rintro v M6 ⟨rfl, hle6⟩
  repeat' ((conv => whnf); first | refine ⟨?_, True.intro⟩ | refine brn_t rfl ?_ | refine brn_f rfl ?_ | refine ob rfl ?_ | refine ob (by decide) ?_ | refine grow_same (Mem.le_refl _) ?_ | refine ob (Mem.le_refl _) ?_ | refine ⟨_, Mem.le_refl _, ?_⟩ | fail)
  refine awake_ok.mono ?_
  rintro v M7 ⟨rfl, hle7⟩
  repeat' ((conv => whnf); first | refine ⟨?_, True.intro⟩ | refine brn_t rfl ?_ | refine brn_f rfl ?_ | refine ob rfl ?_ | refine ob (by decide) ?_ | refine grow_same (Mem.le_refl _) ?_ | refine ob (Mem.le_refl _) ?_ | refine ⟨_, Mem.le_refl _, ?_⟩ | fail)
  exact ⟨rfl, Mem.le_trans hB (Mem.le_trans hF.le (Mem.le_trans h5.le (Mem.le_trans hle6 hle7)))⟩
end Go.Proofs.Ytdjgmhifocdelaa
