/- SeenFrom, as a contract. -/
import Derived.Test.YtmifjilknojkaaaSeenFc
import Derived.Test.YtmifjilknojkaaaSeenT
namespace Go.Proofs.Ytmifjilknojkaaa
open Go Go.Vm
attribute [local irreducible] Brn Ob Grow CallsM inR LoopVC Mem.row Mem.cells Mem.setCells Mem.upd Own AppVC SrcVC StrVC NextVC New SrcOk subA NewSl Mem.textAt Mem.mapAt Mem.iterAt entryOf kfind Wr NewEls Elems
set_option maxRecDepth 10000
variable {M : Mem}
theorem SrcOk.mono2 {M' : Mem} {size : Nat} {a : Option Addr} {n : Nat} {l : List Value} (h : SrcOk M size a n l) (hk : ∀ q o, a = some q → M q.block = some o → M' q.block = some o) : SrcOk M' size a n l := by
  unfold SrcOk at h ⊢
  obtain ⟨hl, h1 | ⟨c, o, ha, h2⟩⟩ := h
  · exact ⟨hl, .inl h1⟩
  · refine ⟨hl, .inr ⟨c, o, ha, ?_⟩⟩
    unfold Mem.row at h2 ⊢
    cases hM : M c with
    | none => simp [hM] at h2
    | some ob => rw [hk _ _ ha hM]; rw [hM] at h2; exact h2
/-- marks that are right are in one form alone -/
theorem FormP.canon {es : EsT} (h : FormP (es.map mkOf)) {l : List MkC} (hp : (l.map MkC.mk').Perm (es.map mkOf)) (hs : l.Pairwise (fun x y => ¬ cmpM y x < 0)) : l.map MkC.mk' = es.map mkOf := by
  have h1 := marks_canon (InvE.of h) hp hs
  exact sorted_ext (R := ltMk) (fun x => by unfold ltMk; omega) (fun x y => by unfold ltMk; omega) h1.sorted h.2 fun x => hp.mem_iff
theorem from_law (gaps : Int) {a : Option Addr} {n c : Nat} {l : List MkC} (ha : MarksR M a n l) (hn : n ≤ 1048576) (hfl : ∀ m ∈ l, m.more.length ≤ 1048576) (io id ie ic : Int) :
    CallsM Try.prog F.law14_SeenFrom [.int .i64 gaps, .slice a n c, idV io id ie ic] M fun v M' => v = .bool true ∧ M.le M' := by
  refine fo_law14_SeenFrom (by simp) ?_
  have hl := ha.len
  have fl : FewM l := fun m hm => Nat.le_trans (hfl m hm) (by decide)
  repeat' ((conv => whnf); first | refine ⟨?_, True.intro⟩ | refine brn_t rfl ?_ | refine brn_f rfl ?_ | refine ob rfl ?_ | refine ob (by decide) ?_ | refine grow_same (Mem.le_refl _) ?_ | refine ob (Mem.le_refl _) ?_ | refine ⟨_, Mem.le_refl _, ?_⟩ | fail)
  refine (copy_ok ha fl (by omega)).mono ?_
  rintro v M1 ⟨a1, c1, l1, rfl, hO, ho1⟩
  have hf1 : ∀ m ∈ l1, m.more.length ≤ 1048576 := fun m hm => by
    have h1 : m.mk' ∈ l.map MkC.mk' := ho1 ▸ List.mem_map.2 ⟨m, hm, rfl⟩
    obtain ⟨m2, hm2, e⟩ := List.mem_map.1 h1
    have h2 : m.more = m2.more := (congrArg Mk.more e).symm
    rw [h2]; exact hfl m2 hm2
  have fl1 : FewM l1 := fun m hm => Nat.le_trans (hf1 m hm) (by decide)
  repeat' ((conv => whnf); first | refine ⟨?_, True.intro⟩ | refine brn_t rfl ?_ | refine brn_f rfl ?_ | refine ob rfl ?_ | refine ob (by decide) ?_ | refine grow_same (Mem.le_refl _) ?_ | refine ob (Mem.le_refl _) ?_ | refine ⟨_, Mem.le_refl _, ?_⟩ | fail)
  refine (From_ok gaps hO.r fl1 hn hf1).mono ?_
  rw [ho1]
  rintro v M2 ⟨k, hk, ⟨hk0, rfl, hle2⟩ | ⟨hk0, p, b, es, rfl, h2, hes⟩⟩
  · repeat' ((conv => whnf); first | refine ⟨?_, True.intro⟩ | refine brn_t rfl ?_ | refine brn_f rfl ?_ | refine ob rfl ?_ | refine ob (by decide) ?_ | refine grow_same (Mem.le_refl _) ?_ | refine ob (Mem.le_refl _) ?_ | refine ⟨_, Mem.le_refl _, ?_⟩ | fail)
    refine (checkMs_ok gaps (ha.le (Mem.le_trans hO.row.le hle2)) fl (by omega)).mono ?_
    rintro v _ ⟨k', rfl, hk', rfl⟩
    obtain rfl := hk.uniq hk'
    (conv => whnf)
    refine brn_f (by simp) ?_
    (conv => whnf)
    refine brn_f (by simp [hk0]) ?_
    (conv => whnf)
    refine brn_t (by simp [hk0]) ?_
    repeat' ((conv => whnf); first | refine ⟨?_, True.intro⟩ | refine brn_t rfl ?_ | refine brn_f rfl ?_ | refine ob rfl ?_ | refine ob (by decide) ?_ | refine grow_same (Mem.le_refl _) ?_ | refine ob (Mem.le_refl _) ?_ | refine ⟨_, Mem.le_refl _, ?_⟩ | fail)
    refine awake_ok.mono ?_
    rintro v M3 ⟨rfl, hle3⟩
    repeat' ((conv => whnf); first | refine ⟨?_, True.intro⟩ | refine brn_t rfl ?_ | refine brn_f rfl ?_ | refine ob rfl ?_ | refine ob (by decide) ?_ | refine grow_same (Mem.le_refl _) ?_ | refine ob (Mem.le_refl _) ?_ | refine ⟨_, Mem.le_refl _, ?_⟩ | fail)
    exact ⟨rfl, Mem.le_trans hO.row.le (Mem.le_trans hle2 hle3)⟩
  subst hk0
  have hF : FormP (l.map MkC.mk') := by
    rcases hk with ⟨_, h⟩ | ⟨_, _, h⟩ | ⟨_, _, _, h⟩ | ⟨_, h, _, _⟩
    · cases h
    · cases h
    · cases h
    · exact h
  have hFe : FormP (es.map mkOf) := hes ▸ hF
  have hlen : es.length = n := by have := congrArg List.length hes; simp at this; omega
  repeat' ((conv => whnf); first | refine ⟨?_, True.intro⟩ | refine brn_t rfl ?_ | refine brn_f rfl ?_ | refine ob rfl ?_ | refine ob (by decide) ?_ | refine grow_same (Mem.le_refl _) ?_ | refine ob (Mem.le_refl _) ?_ | refine ⟨_, Mem.le_refl _, ?_⟩ | fail)
  refine (checkMs_ok gaps (ha.le (Mem.le_trans hO.row.le h2.le)) fl (by omega)).mono ?_
  rintro v _ ⟨k', rfl, hk', rfl⟩
  obtain rfl := hk.uniq hk'
  repeat' ((conv => whnf); first | refine ⟨?_, True.intro⟩ | refine brn_t rfl ?_ | refine brn_f rfl ?_ | refine ob rfl ?_ | refine ob (by decide) ?_ | refine grow_same (Mem.le_refl _) ?_ | refine ob (Mem.le_refl _) ?_ | refine ⟨_, Mem.le_refl _, ?_⟩ | fail)
  refine (Marks_ok h2.at' (by have := h2.few; omega) (by omega)).mono ?_
  rintro v M3 ⟨a3, n3, c3, l3, rfl, hm3, hp3, hso3⟩
  have h3 := h2.to hm3.row.le
  have e3 := hFe.canon hp3 hso3
  have hn3 := hm3.len
  have hl3 := hp3.length_eq
  simp only [List.length_map] at hl3
  repeat' ((conv => whnf); first | refine ⟨?_, True.intro⟩ | refine brn_t rfl ?_ | refine brn_f rfl ?_ | refine ob rfl ?_ | refine ob (by decide) ?_ | refine grow_same (Mem.le_refl _) ?_ | refine ob (Mem.le_refl _) ?_ | refine ⟨_, Mem.le_refl _, ?_⟩ | fail)
  refine (same_ok hm3.r (ha.le (Mem.le_trans hO.row.le h3.le)) (h2.fewM hp3) (by omega) (by omega)).mono ?_
  rintro v _ ⟨rfl, rfl⟩
  rw [decide_eq_true (e3.trans hes)]
  repeat' ((conv => whnf); first | refine ⟨?_, True.intro⟩ | refine brn_t rfl ?_ | refine brn_f rfl ?_ | refine ob rfl ?_ | refine ob (by decide) ?_ | refine grow_same (Mem.le_refl _) ?_ | refine ob (Mem.le_refl _) ?_ | refine ⟨_, Mem.le_refl _, ?_⟩ | fail)
  refine (addS h3 io id ie ic).mono ?_
  rintro v M4 ⟨es4, rfl, h4, hst⟩
  have hlen4 := hst.len
  repeat' ((conv => whnf); first | refine ⟨?_, True.intro⟩ | refine brn_t rfl ?_ | refine brn_f rfl ?_ | refine ob rfl ?_ | refine ob (by decide) ?_ | refine grow_same (Mem.le_refl _) ?_ | refine ob (Mem.le_refl _) ?_ | refine ⟨_, Mem.le_refl _, ?_⟩ | fail)
  refine (Marks_ok h4.at' (by have := h4.few; omega) (by omega)).mono ?_
  rintro v M5 ⟨a5, n5, c5, l5, rfl, hm5, hp5, hso5⟩
  have hn5 := hm5.len
  have hl5 := hp5.length_eq
  have hf5 := h4.fewM hp5
  simp only [List.length_map] at hl5
  have hP5 : ∀ m ∈ l5, (m.a = none ∧ m.more.length = 0) ∨ ∃ b cs, m.a = some ⟨b, 0, none⟩ ∧ M4 b = none ∧ M5.has b T.int cs ∧ m.more.length ≤ cs.length := fun m hm => by
    obtain ⟨-, h6, h7, h8⟩ := newSl_iff.1 (hm5.more m hm)
    rcases h8 with ⟨e1, e2⟩ | ⟨bb, cs, e1, e2, e3, e4, -⟩
    · exact .inl ⟨e1, by omega⟩
    · exact .inr ⟨bb, cs, e1, e2, e3, by omega⟩
  (conv => whnf)
  refine loopF (σ := Nat × Mem) [12] (fun y => [(12, .int .i64 y.1)]) (fun _ => [.live T.api_Id [.v (.int .i64 io), .v (.int .i64 id), .v (.int .i64 ie), .v (.int .i64 ic)]]) (fun y => y.2)
    (fun | ⟨k, Mc⟩ => k ≤ n5 ∧ M4.le Mc ∧ SrcOk Mc 4 a5 n5 (l5.flatMap encM) ∧ (∀ q, a5 = some q → ∃ cs, Mc.has q.block T.api_Mark cs) ∧ ∀ m ∈ l5, (m.a = none ∧ m.more.length = 0) ∨ ∃ b cs, m.a = some ⟨b, 0, none⟩ ∧ M4 b = none ∧ Mc.has b T.int cs ∧ m.more.length ≤ cs.length) (fun y => n5 - y.1) ⟨0, M5⟩
    ⟨by omega, hm5.row.le, hm5.row.src, fun q hq => (hm5.row.block hq).2, hP5⟩ ⟨(by repeat' first | exact True.intro | refine ⟨rfl, ?_⟩), (by repeat' first | exact True.intro | refine ⟨rfl, ?_⟩), Mem.le_refl _, rfl⟩ ?_
  rintro ⟨k, Mc⟩ ⟨hk1, hle, hsrc, hblk, hP⟩
  (conv => whnf); refine brn (fun g => ?_) (fun g => ?_)
  · have hlt : k < n5 := by have := of_decide_eq_true g; dsimp only at this; omega
    have hx : l5[k]? = some (l5[k]'(by omega)) := List.getElem?_eq_getElem (by omega)
    have hxm : l5[k]'(by omega) ∈ l5 := List.getElem_mem _
    generalize l5[k]'(by omega) = x at *
    have hfx := hf5 x hxm
    (conv => whnf)
    refine loopF (σ := Nat × Mem) [13] (fun y => [(13, .int .i64 y.1)]) (fun _ => [.live T.api_Id [.v (.int .i64 io), .v (.int .i64 id), .v (.int .i64 ie), .v (.int .i64 ic)]]) (fun y => y.2)
      (fun | ⟨j, Md⟩ => j ≤ x.more.length ∧ M4.le Md ∧ SrcOk Md 4 a5 n5 (l5.flatMap encM) ∧ (∀ q, a5 = some q → ∃ cs, Md.has q.block T.api_Mark cs) ∧ ∀ m ∈ l5, (m.a = none ∧ m.more.length = 0) ∨ ∃ b cs, m.a = some ⟨b, 0, none⟩ ∧ M4 b = none ∧ Md.has b T.int cs ∧ m.more.length ≤ cs.length) (fun y => x.more.length - y.1) ⟨0, Mc⟩
      ⟨by omega, hle, hsrc, hblk, hP⟩ ⟨(by repeat' first | exact True.intro | refine ⟨rfl, ?_⟩), (by repeat' first | exact True.intro | refine ⟨rfl, ?_⟩), Mem.le_refl _, rfl⟩ ?_
    rintro ⟨j, Md⟩ ⟨hj, hled, hsrcd, hblkd, hPd⟩
    obtain ⟨b6, o6, hab, hcc⟩ := hsrcd.fcells encM_len (by decide) hx
    (conv => whnf); refine ob (by first | omega | (dsimp only; omega)) ?_
    (conv => whnf); refine atp hab ?_
    (conv => whnf); refine on (hcc 3 _ rfl) ?_
    (conv => whnf); refine brn (fun g1 => ?_) (fun g1 => ?_)
    · have hltj : j < x.more.length := by have := of_decide_eq_true g1; dsimp only at this; omega
      rcases hPd x hxm with ⟨-, e⟩ | ⟨bx, cs, hxa, hxn, hxh, hxl⟩
      · omega
      (conv => whnf); refine ob (by first | omega | (dsimp only; omega)) ?_
      (conv => whnf); refine atp hab ?_
      (conv => whnf); refine on (hcc 3 _ rfl) ?_
      (conv => whnf); refine ob (by first | omega | (dsimp only; omega)) ?_
      (conv => whnf); refine atp hxa ?_
      (conv => whnf); refine on hxh.cells ?_
      (conv => whnf); refine ob (by dsimp only; omega) ?_
      have hsl : (splice cs (0 + (j : Int).toNat * 1) [.int .i64 (-1)]).length = cs.length := splice_length _ _ _ (by simp; omega)
      have hk7 : Mem.keep (fun y => y = bx) Md (Md.setCells bx T.int (splice cs (0 + (j : Int).toNat * 1) [.int .i64 (-1)])) := fun y o hy ho => by
        unfold Mem.setCells; rw [Mem.upd_ne _ _ hy]; exact ho
      have hh7 : (Md.setCells bx T.int (splice cs (0 + (j : Int).toNat * 1) [.int .i64 (-1)])).has bx T.int (splice cs (0 + (j : Int).toNat * 1) [.int .i64 (-1)]) := Mem.has_setCells
      obtain ⟨M7, hM7⟩ : ∃ M7, M7 = Md.setCells bx T.int (splice cs (0 + (j : Int).toNat * 1) [.int .i64 (-1)]) := ⟨_, rfl⟩
      rw [← hM7] at hk7 hh7
      (conv => whnf)
      erw [← hM7]
      (conv => whnf); refine ob (inR_i64 (by first | omega | (dsimp only; omega))) ?_
      (conv => whnf)
      have hnb : ∀ q, a5 = some q → q.block ≠ bx := fun q hq e => by
        obtain ⟨cs2, h8⟩ := hblkd q hq
        rw [e] at h8
        have := (h8.inj hxh).1
        exact absurd this (by decide)
      refine ⟨⟨j + 1, M7⟩, ⟨by omega, hk7.le hled (fun y e => e ▸ hxn), SrcOk.mono2 hsrcd (fun q o hq ho => hk7 _ _ (hnb q hq) ho), fun q hq => ?_, fun m hm => ?_⟩, by dsimp only; omega, ⟨(by repeat' first | exact True.intro | refine ⟨rfl, ?_⟩), (by repeat' first | exact True.intro | refine ⟨rfl, ?_⟩), Mem.le_refl _, rfl⟩⟩
      · obtain ⟨cs2, h8⟩ := hblkd q hq
        exact ⟨cs2, hk7 _ _ (hnb q hq) h8⟩
      · rcases hPd m hm with h8 | ⟨by', cs3, e1, e2, e3, e4⟩
        · exact .inl h8
        · by_cases e : by' = bx
          · subst e
            have := (e3.inj hxh).2
            exact .inr ⟨_, _, e1, e2, hh7, by rw [hsl, ← this]; exact e4⟩
          · exact .inr ⟨by', cs3, e1, e2, hk7 _ _ e e3, e4⟩
    (conv => whnf); refine ob (inR_i64 (by first | omega | (dsimp only; omega))) ?_
    (conv => whnf)
    exact ⟨⟨k + 1, Md⟩, ⟨by omega, hled, hsrcd, hblkd, hPd⟩, by dsimp only; omega, ⟨(by repeat' first | exact True.intro | refine ⟨rfl, ?_⟩), (by repeat' first | exact True.intro | refine ⟨rfl, ?_⟩), Mem.le_refl _, rfl⟩⟩
  have h6 := h4.to hle
  repeat' ((conv => whnf); first | refine ⟨?_, True.intro⟩ | refine brn_t rfl ?_ | refine brn_f rfl ?_ | refine ob rfl ?_ | refine ob (by decide) ?_ | refine grow_same (Mem.le_refl _) ?_ | refine ob (Mem.le_refl _) ?_ | refine ⟨_, Mem.le_refl _, ?_⟩ | fail)
  refine (same_ok (hO.r.le h6.le) (ha.le (Mem.le_trans hO.row.le h6.le)) fl1 (by omega) (by omega)).mono ?_
  rintro v _ ⟨rfl, rfl⟩
  rw [decide_eq_true ho1]
  repeat' ((conv => whnf); first | refine ⟨?_, True.intro⟩ | refine brn_t rfl ?_ | refine brn_f rfl ?_ | refine ob rfl ?_ | refine ob (by decide) ?_ | refine grow_same (Mem.le_refl _) ?_ | refine ob (Mem.le_refl _) ?_ | refine ⟨_, Mem.le_refl _, ?_⟩ | fail)
  refine (checkR_ok io id ie ic _).mono ?_
  rintro v _ ⟨rfl, rfl⟩
  (conv => whnf); refine brn (fun g1 => ?_) (fun g1 => ?_)
  · have hle8 := h6.le
    repeat' ((conv => whnf); first | refine ⟨?_, True.intro⟩ | refine brn_t rfl ?_ | refine brn_f rfl ?_ | refine ob rfl ?_ | refine ob (by decide) ?_ | refine grow_same (Mem.le_refl _) ?_ | refine ob (Mem.le_refl _) ?_ | refine ⟨_, Mem.le_refl _, ?_⟩ | fail)
    refine awake_ok.mono ?_
    rintro v M9 ⟨rfl, hle9⟩
    repeat' ((conv => whnf); first | refine ⟨?_, True.intro⟩ | refine brn_t rfl ?_ | refine brn_f rfl ?_ | refine ob rfl ?_ | refine ob (by decide) ?_ | refine grow_same (Mem.le_refl _) ?_ | refine ob (Mem.le_refl _) ?_ | refine ⟨_, Mem.le_refl _, ?_⟩ | fail)
    exact ⟨rfl, Mem.le_trans hO.row.le (Mem.le_trans hle8 hle9)⟩
  have hid : idErr io id ie ic = 0 := by simpa using g1
  repeat' ((conv => whnf); first | refine ⟨?_, True.intro⟩ | refine brn_t rfl ?_ | refine brn_f rfl ?_ | refine ob rfl ?_ | refine ob (by decide) ?_ | refine grow_same (Mem.le_refl _) ?_ | refine ob (Mem.le_refl _) ?_ | refine ⟨_, Mem.le_refl _, ?_⟩ | fail)
  refine (hasS h6 io id ie ic).mono ?_
  rintro v M7 ⟨rfl, h7⟩
  (conv => whnf); refine brn (fun g2 => ?_) (fun g2 => ?_)
  · have hle8 := h7.le
    repeat' ((conv => whnf); first | refine ⟨?_, True.intro⟩ | refine brn_t rfl ?_ | refine brn_f rfl ?_ | refine ob rfl ?_ | refine ob (by decide) ?_ | refine grow_same (Mem.le_refl _) ?_ | refine ob (Mem.le_refl _) ?_ | refine ⟨_, Mem.le_refl _, ?_⟩ | fail)
    refine awake_ok.mono ?_
    rintro v M9 ⟨rfl, hle9⟩
    repeat' ((conv => whnf); first | refine ⟨?_, True.intro⟩ | refine brn_t rfl ?_ | refine brn_f rfl ?_ | refine ob rfl ?_ | refine ob (by decide) ?_ | refine grow_same (Mem.le_refl _) ?_ | refine ob (Mem.le_refl _) ?_ | refine ⟨_, Mem.le_refl _, ?_⟩ | fail)
    exact ⟨rfl, Mem.le_trans hO.row.le (Mem.le_trans hle8 hle9)⟩
  repeat' ((conv => whnf); first | refine ⟨?_, True.intro⟩ | refine brn_t rfl ?_ | refine brn_f rfl ?_ | refine ob rfl ?_ | refine ob (by decide) ?_ | refine grow_same (Mem.le_refl _) ?_ | refine ob (Mem.le_refl _) ?_ | refine ⟨_, Mem.le_refl _, ?_⟩ | fail)
  refine (mayS h7 io id ie ic).mono ?_
  rintro v M8 ⟨rfl, h8⟩
  have hle8 := h8.le
  have hmay : mayE gaps es4 io id ie ic = 6 := by
    rcases hst with ⟨hne, rfl⟩ | ⟨hz, x, rfl, hx⟩
    · unfold mayE at hne ⊢
      rw [hid, g2] at hne ⊢
      simp only [ne_eq, not_true_eq_false, if_false, Bool.false_eq_true] at hne ⊢
      split at hne
      · rw [if_pos ‹_›]
      · exact absurd rfl hne
    · obtain ⟨i1, i2, -, -⟩ := add_inv h3.inv hz hx
      have : hasE (aput es (io, ie) x) io id ie ic = true := (hasE_iff hid).2 ((i2 _ _ _).2 (.inl ⟨rfl, rfl, rfl⟩))
      rw [this] at g2; cases g2
  rw [hmay]
  repeat' ((conv => whnf); first | refine ⟨?_, True.intro⟩ | refine brn_t rfl ?_ | refine brn_f rfl ?_ | refine ob rfl ?_ | refine ob (by decide) ?_ | refine grow_same (Mem.le_refl _) ?_ | refine ob (Mem.le_refl _) ?_ | refine ⟨_, Mem.le_refl _, ?_⟩ | fail)
  refine awake_ok.mono ?_
  rintro v M9 ⟨rfl, hle9⟩
  repeat' ((conv => whnf); first | refine ⟨?_, True.intro⟩ | refine brn_t rfl ?_ | refine brn_f rfl ?_ | refine ob rfl ?_ | refine ob (by decide) ?_ | refine grow_same (Mem.le_refl _) ?_ | refine ob (Mem.le_refl _) ?_ | refine ⟨_, Mem.le_refl _, ?_⟩ | fail)
  exact ⟨rfl, Mem.le_trans hO.row.le (Mem.le_trans hle8 hle9)⟩
end Go.Proofs.Ytmifjilknojkaaa
