/- The set of what was seen: its marks. -/
import Derived.Test.YtmifjilknojkaaaSeenG
namespace Go.Proofs.Ytmifjilknojkaaa
open Go Go.Vm
attribute [local irreducible] Brn Ob Grow CallsM inR LoopVC Mem.row Mem.cells Mem.setCells Mem.upd Own AppVC SrcVC StrVC NextVC New SrcOk subA NewSl Mem.textAt Mem.mapAt Mem.iterAt entryOf kfind Wr NewEls Elems
set_option maxRecDepth 10000
variable {M : Mem} {p b : Nat} {gaps : Int} {es : List ((Int × Int) × Ent)}
structure Mk where
  o : Int
  e : Int
  up : Int
  more : List Int
deriving DecidableEq
def MkC.mk' (m : MkC) : Mk := ⟨m.o, m.e, m.up, m.more⟩
def mkOf (q : (Int × Int) × Ent) : Mk := ⟨q.1.1, q.1.2, q.2.up, q.2.more⟩
/-- marks in new memory -/
structure MarksAt (M0 : Mem) (a : Option Addr) (n c : Nat) (l : List MkC) (M' : Mem) : Prop where
  row : NewSl M0 T.api_Mark 4 a n c (l.flatMap encM) M'
  more : ∀ m ∈ l, NewSl M0 T.int 1 m.a m.more.length m.c (m.more.map intV) M'
theorem MarksAt.len {M0 M' : Mem} {a : Option Addr} {n c : Nat} {l : List MkC} (h : MarksAt M0 a n c l M') : l.length = n := h.row.src.flen encM_len (by decide)
theorem encM_one (x : MkC) : ∀ v ∈ encM x, v.oneCell' = true := by
  intro v hv
  simp only [encM, List.mem_cons, List.not_mem_nil, or_false] at hv
  rcases hv with rfl | rfl | rfl | rfl <;> rfl
theorem Marks_ok (h : SetAt M p b gaps es) (hg : gapsE es ≤ 4194304) (hn : es.length ≤ 4194000) : CallsM Try.prog F.seen_Set_Marks [ptr p] M fun v M' =>
    ∃ a n c l, v = .slice a n c ∧ MarksAt M a n c l M' ∧ (l.map MkC.mk').Perm (es.map mkOf) ∧ l.Pairwise (fun x y => ¬ cmpM y x < 0) := by
  refine fo_seen_Set_Marks (by simp) ?_
  (conv => whnf); refine brn_f rfl ?_
  (conv => whnf); refine on (h.self.c1 rfl) ?_
  (conv => whnf)
  refine h.map.range fun q bi hbi hI => ?_
  replace hbi : M bi = none := hbi
  (conv => whnf)
  refine loopF (σ := Mem × (Option Addr × Nat × Nat) × List MkC × List ((Int × Int) × Ent)) [3] (fun x => [(3, .slice x.2.1.1 x.2.1.2.1 x.2.1.2.2)]) (fun _ => []) (fun x => x.1)
    (fun | ⟨M1, (a, n, c), l, todo⟩ => MarksAt M a n c l M1 ∧ Iter keyV entV M1 bi b es todo ∧ (l.map MkC.mk' ++ todo.map mkOf).Perm (es.map mkOf)) (fun x => x.2.2.2.length) ⟨_, (none, 0, 0), [], es⟩
    ⟨⟨(NewSl.none M _ _).up (Mem.le_upd hbi), by simp⟩, hI, .refl _⟩ ⟨(by repeat' first | exact True.intro | refine ⟨rfl, ?_⟩), (by repeat' first | exact True.intro | refine ⟨rfl, ?_⟩), Mem.le_refl _, rfl⟩ ?_
  rintro ⟨M1, ⟨a, n, c⟩, l, todo⟩ ⟨hMk, hI1, hperm⟩
  (conv => whnf)
  refine hI1.next (fun h0 => ?_) (fun i k todo' o' hperm2 hI2 hent => ?_)
  · subst h0
    repeat' ((conv => whnf); first | refine ⟨?_, True.intro⟩ | refine brn_t rfl ?_ | refine brn_f rfl ?_ | refine ob rfl ?_ | refine ob (by decide) ?_ | refine grow_same (Mem.le_refl _) ?_ | refine ob (Mem.le_refl _) ?_ | refine ⟨_, Mem.le_refl _, ?_⟩ | fail)
    have hlen := hMk.len
    refine (sortF_ok Try.laysF (by kernel_rfl) (k := 4) (by decide) Try.isAgg49 Try.sizeOf49 encM_len encM_one cmpM_swo (g := F.seen_Set_Marks_1) (fun args w => enters_run (by kernel_rfl) args w) (fun x y => cmpM_ok x y) hMk.row.wr (by have := hperm.length_eq; simp at this; omega)).mono ?_
    rintro v M5 ⟨rfl, l', hp', hs', hw', hk'⟩
    (conv => whnf)
    refine ⟨a, n, c, l', rfl, ⟨hMk.row.ofWr hw' hk' rfl, fun m hm => (hMk.more m (hp'.mem_iff.1 hm)).keep hk' (fun y ⟨q, hq, e⟩ => e ▸ (hMk.row.block hq).1) fun q hq ⟨q', hq', e⟩ => ?_⟩, ?_, hs'⟩
    · exact hMk.row.ne (hMk.more m (hp'.mem_iff.1 hm)) (by decide) hq' hq e
    · simpa using (hp'.map MkC.mk').trans (by simpa using hperm)
  · have hk2 : Mem.keep (fun y => y = bi) M1 (M1.upd bi o') := Mem.keep_upd _ _ rfl
    have hle2 : M.le (M1.upd bi o') := fun y o hb => by
      rw [Mem.upd_ne _ _ (fun e => by subst e; rw [hbi] at hb; cases hb)]; exact hMk.row.le _ _ hb
    have hMk2 : MarksAt M a n c l (M1.upd bi o') := ⟨hMk.row.keep hk2 (fun y e => e ▸ hbi) (fun q hq e => by
        obtain ⟨_, cs, hh⟩ := hMk.row.block hq
        exact (hI1.nb hh).1 e), fun m hm => (hMk.more m hm).keep hk2 (fun y e => e ▸ hbi) (fun q hq e => by
        obtain ⟨_, cs, hh⟩ := (hMk.more m hm).block hq
        exact (hI1.nb hh).1 e)⟩
    obtain ⟨M2, hM2⟩ : ∃ M2, M2 = M1.upd bi o' := ⟨_, rfl⟩
    rw [← hM2] at hI2 hent hle2 hMk2
    have hmem : (i, k) ∈ es := hI1.todo_sub _ (hperm2.mem_iff.2 (by simp))
    have hke := (h.le hle2).ents _ hmem
    have hkl : k.more.length ≤ 4194304 := Nat.le_trans (gapsE_le hmem) hg
    (conv => whnf)
    erw [← hM2]
    repeat' ((conv => whnf); first | refine ⟨?_, True.intro⟩ | refine brn_t rfl ?_ | refine brn_f rfl ?_ | refine ob rfl ?_ | refine ob (by decide) ?_ | refine grow_same (Mem.le_refl _) ?_ | refine ob (Mem.le_refl _) ?_ | refine ⟨_, Mem.le_refl _, ?_⟩ | fail)
    refine on hent ?_
    repeat' ((conv => whnf); first | refine ⟨?_, True.intro⟩ | refine brn_t rfl ?_ | refine brn_f rfl ?_ | refine ob rfl ?_ | refine ob (by decide) ?_ | refine grow_same (Mem.le_refl _) ?_ | refine ob (Mem.le_refl _) ?_ | refine ⟨_, Mem.le_refl _, ?_⟩ | fail)
    refine on (hke.self.c1 rfl) ?_
    repeat' ((conv => whnf); first | refine ⟨?_, True.intro⟩ | refine brn_t rfl ?_ | refine brn_f rfl ?_ | refine ob rfl ?_ | refine ob (by decide) ?_ | refine grow_same (Mem.le_refl _) ?_ | refine ob (Mem.le_refl _) ?_ | refine ⟨_, Mem.le_refl _, ?_⟩ | fail)
    refine on (hke.self.c1 rfl) ?_
    repeat' ((conv => whnf); first | refine ⟨?_, True.intro⟩ | refine brn_t rfl ?_ | refine brn_f rfl ?_ | refine ob rfl ?_ | refine ob (by decide) ?_ | refine grow_same (Mem.le_refl _) ?_ | refine ob (Mem.le_refl _) ?_ | refine ⟨_, Mem.le_refl _, ?_⟩ | fail)
    refine new (fun b1 hb1 => ?_)
    replace hb1 : M2 b1 = none := hb1
    have hN1 : NewSl M2 T.int 1 (some ⟨b1, 0, none⟩) 0 0 (([] : List Int).map intV) _ := NewSl.lit hb1 T.int 1 0 [] rfl
    obtain ⟨M3, hM3⟩ : ∃ M3, M3 = M2.setCells b1 T.int [] := ⟨_, rfl⟩
    rw [← hM3] at hN1
    (conv => whnf)
    erw [← hM3]
    repeat' ((conv => whnf); first | refine ob rfl ?_ | refine grow_same hN1.le ?_ | refine ob hN1.le ?_ | refine ⟨?_, True.intro⟩ | fail)
    (conv => whnf)
    refine srcv (hke.more.src.le hN1.le) ?_
    (conv => whnf); refine appN M2 _ hN1 (by dsimp only; omega) (by dsimp only; simp [maxLen]; omega) (by simp [Value.oneCell']) fun a5 c5 M4 hN4 => ?_
    have hMk4 : MarksAt M a n c l M4 := ⟨hMk2.row.up hN4.le, fun m hm => (hMk2.more m hm).up hN4.le⟩
    have hnew : NewSl M T.int 1 a5 k.more.length c5 (k.more.map intV) M4 := by
      have := hN4.mono hle2
      simpa using this
    have hlen := hMk.len
    have hlt : l.length < es.length := by have := hperm.length_eq; have := hperm2.length_eq; simp at *; omega
    repeat' ((conv => whnf); first | refine ob rfl ?_ | refine grow_same hN4.le ?_ | refine ob hN4.le ?_ | refine ⟨?_, True.intro⟩ | fail)
    (conv => whnf)
    refine appF M hMk4.row ⟨i.1, i.2, k.up, a5, c5, k.more⟩ (by simp) (by dsimp only; omega) (by dsimp only; simp [maxLen]; omega) (by simp [Value.oneCell']) fun a6 c6 M6 hN6 hk6 => ?_
    (conv => whnf)
    have hfr : ∀ y, blk a y → M y = none := fun y ⟨q, hq, e⟩ => e ▸ (hMk4.row.block hq).1
    have hI4 := hI2.le hN4.le
    have hnb : ∀ y, blk a y → y ≠ bi ∧ y ≠ b := fun y ⟨q, hq, e⟩ => by
      obtain ⟨_, cs, hh⟩ := hMk4.row.block hq
      exact e ▸ hI4.nb hh
    have hI6 := hI4.keep hk6 (fun hb => (hnb _ hb).1 rfl) (fun hb => (hnb _ hb).2 rfl)
    refine ⟨⟨M6, (a6, n + 1, c6), l ++ [⟨i.1, i.2, k.up, a5, c5, k.more⟩], todo'⟩, ⟨⟨hN6, fun m hm => ?_⟩, hI6, ?_⟩, by have := hperm2.length_eq; simp at this ⊢; omega, ⟨(by repeat' first | exact True.intro | refine ⟨rfl, ?_⟩), (by repeat' first | exact True.intro | refine ⟨rfl, ?_⟩), Mem.le_refl _, rfl⟩⟩
    · rcases List.mem_append.1 hm with hm | hm
      · exact (hMk4.more m hm).keep hk6 hfr fun q hq ⟨q', hq', e⟩ => hMk4.row.ne (hMk4.more m hm) (by decide) hq' hq e
      · simp only [List.mem_singleton] at hm
        subst hm
        exact hnew.keep hk6 hfr fun q hq ⟨q', hq', e⟩ => hMk4.row.ne hnew (by decide) hq' hq e
    · refine List.Perm.trans ?_ hperm
      rw [List.map_append, List.append_assoc]
      refine List.Perm.append_left _ ?_
      have := hperm2.map mkOf
      simpa [MkC.mk', mkOf] using this.symm
end Go.Proofs.Ytmifjilknojkaaa
