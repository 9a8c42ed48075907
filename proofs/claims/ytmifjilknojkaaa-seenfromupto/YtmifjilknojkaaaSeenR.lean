/- Sets: whole contracts; lists of ids. -/
import Derived.Test.YtmifjilknojkaaaSeenQ
namespace Go.Proofs.Ytmifjilknojkaaa
open Go Go.Vm
attribute [local irreducible] Brn Ob Grow CallsM inR LoopVC Mem.row Mem.cells Mem.setCells Mem.upd Own AppVC SrcVC StrVC NextVC New SrcOk subA NewSl Mem.textAt Mem.mapAt Mem.iterAt entryOf kfind Wr NewEls Elems
set_option maxRecDepth 10000
variable {M M0 : Mem} {p b : Nat} {gaps : Int} {es : EsT}
/-- a set whose blocks are new to M0 -/
structure FreshS (M0 M : Mem) (p b : Nat) (gaps : Int) (es : EsT) : Prop where
  le : M0.le M
  at' : SetAt M p b gaps es
  inv : InvE es
  room : (gapsE es : Int) ≤ gaps ∧ gaps ≤ 256
  fresh : ∀ y, setB p b es y → M0 y = none
theorem FreshS.few (h : FreshS M0 M p b gaps es) : gapsE es ≤ 256 := by have := h.room; omega
theorem FreshS.to (h : FreshS M0 M p b gaps es) {M' : Mem} (hle : M.le M') : FreshS M0 M' p b gaps es := ⟨Mem.le_trans h.le hle, h.at'.le hle, h.inv, h.room, h.fresh⟩
theorem FreshS.some (h : FreshS M0 M p b gaps es) {y : Nat} (hy : setB p b es y) : M y ≠ none := by
  rcases hy with rfl | rfl | ⟨q, hq, hy⟩
  · have := h.at'.self; unfold Mem.has at this; rw [this]; simp
  · obtain ⟨l, c, hh, _⟩ := h.at'.map; rw [hh]; simp
  · exact (h.at'.ents q hq).some hy
theorem FreshS.base (h : FreshS M0 M p b gaps es) : FreshS (M.minus (setB p b es)) M p b gaps es ∧ M0.le (M.minus (setB p b es)) :=
  ⟨⟨Mem.minus_le _ _, h.at', h.inv, h.room, fun _ hy => Mem.minus_in hy⟩, Mem.le_minus h.le h.fresh⟩
theorem newS (gaps : Int) : CallsM Try.prog F.seen_New [.int .i64 gaps] M fun v M' =>
    ((gaps < 0 ∨ 256 < gaps) ∧ v = .tuple #[.pointer none, .int .i64 1] ∧ M' = M) ∨
    (¬ (gaps < 0 ∨ 256 < gaps) ∧ ∃ p b, v = .tuple #[ptr p, .int .i64 0] ∧ FreshS M M' p b gaps []) :=
  (New_ok gaps).mono fun v M' h => by
    rcases h with h | ⟨h1, p, b, h2, h3, h4, h5, h6⟩
    · exact .inl h
    · refine .inr ⟨h1, p, b, h2, h5, h6, InvE.nil, ⟨by simp [gapsE]; omega, by omega⟩, fun y hy => ?_⟩
      rcases hy with rfl | rfl | ⟨q, hq, _⟩
      · exact h3
      · exact h4
      · cases hq
/-- what adding an id turns -/
def StepE (gaps : Int) (es es' : EsT) (o d e c : Int) : Prop := (mayE gaps es o d e c ≠ 0 ∧ es' = es) ∨ (mayE gaps es o d e c = 0 ∧ ∃ x : Ent, es' = aput es (o, e) x ∧ (x.up, x.more) = addE es o e c)
theorem StepE.len {es es' : EsT} {o d e c : Int} (h : StepE gaps es es' o d e c) : es'.length ≤ es.length + 1 := by
  rcases h with ⟨_, rfl⟩ | ⟨_, x, rfl, _⟩
  · omega
  · have := congrArg List.length (aput_keys es (o, e) x)
    simp only [List.length_map] at this
    rw [this]
    split <;> simp
theorem addS (h : FreshS M0 M p b gaps es) (o d e c : Int) : CallsM Try.prog F.seen_Set_Add [ptr p, idV o d e c] M fun v M' =>
    ∃ es', v = .int .i64 (mayE gaps es o d e c) ∧ FreshS M0 M' p b gaps es' ∧ StepE gaps es es' o d e c :=
  (Add_ok h.at' (by have := h.few; omega) h.inv.good h.inv.sorted o d e c).mono fun v M' hv => by
    obtain ⟨rfl, ⟨hn, hle⟩ | ⟨hz, hk, x, h1, hx, hown⟩⟩ := hv
    · exact ⟨es, rfl, h.to hle, .inl ⟨hn, rfl⟩⟩
    · obtain ⟨i1, i2, i3, i4⟩ := add_inv h.inv hz hx
      refine ⟨aput es (o, e) x, rfl, ⟨hk.le h.le h.fresh, h1, i1, ⟨i3 h.room.1, h.room.2⟩, fun y hy => ?_⟩, .inr ⟨hz, x, rfl, hx⟩⟩
      have lo : ∀ y, M y = none → M0 y = none := fun y hy => by
        cases e1 : M0 y with
        | none => rfl
        | some z => rw [h.le _ _ e1] at hy; cases hy
      rcases hy with rfl | rfl | ⟨q, hq, hy⟩
      · exact h.fresh _ (.inl rfl)
      · exact h.fresh _ (.inr (.inl rfl))
      · rcases aput_mem h.inv.nodup hq with rfl | ⟨hq, _⟩
        · rcases hown y hy with h2 | h2
          · exact h.fresh _ h2
          · exact lo _ h2
        · exact h.fresh _ (.inr (.inr ⟨q, hq, hy⟩))
theorem hasS (h : FreshS M0 M p b gaps es) (o d e c : Int) : CallsM Try.prog F.seen_Set_Has [ptr p, idV o d e c] M fun v M' => v = .bool (hasE es o d e c) ∧ FreshS M0 M' p b gaps es :=
  (Has_ok h.at' (by have := h.few; omega) o d e c).mono fun v M' ⟨hv, hle⟩ => ⟨hv, h.to hle⟩
theorem mayS (h : FreshS M0 M p b gaps es) (o d e c : Int) : CallsM Try.prog F.seen_Set_May [ptr p, idV o d e c] M fun v M' => v = .int .i64 (mayE gaps es o d e c) ∧ FreshS M0 M' p b gaps es :=
  (May_ok h.at' (by have := h.few; omega) h.inv.good o d e c).mono fun v M' ⟨hv, hle⟩ => ⟨hv, h.to hle⟩
theorem gapsS (h : FreshS M0 M p b gaps es) : CallsM Try.prog F.seen_Set_Gaps [ptr p] M fun v M' => v = .int .i64 (gapsE es) ∧ FreshS M0 M' p b gaps es :=
  (Gaps_ok h.at' (by have := h.few; omega)).mono fun v M' ⟨hv, hle⟩ => ⟨hv, h.to hle⟩
theorem FreshS.fewM (h : FreshS M0 M p b gaps es) {l : List MkC} (hp : (l.map MkC.mk').Perm (es.map mkOf)) : FewM l := fun m hm => by
  obtain ⟨q, hq, e⟩ := List.mem_map.1 (hp.mem_iff.1 (List.mem_map.2 ⟨m, hm, rfl⟩))
  have h1 : m.more = q.2.more := (congrArg Mk.more e).symm
  have := gapsE_le hq
  have := h.few
  rw [h1]; omega
/-- marks behind a set's blocks -/
theorem marksS (h : FreshS M0 M p b gaps es) (hn : es.length ≤ 4194000) : CallsM Try.prog F.seen_Set_Marks [ptr p] M fun v M' => ∃ a n c l, v = .slice a n c ∧ FreshS M0 M' p b gaps es ∧ MarksAt (M.minus (setB p b es)) a n c l M' ∧
    MarksR (M'.minus (setB p b es)) a n l ∧ n = es.length ∧ FewM l ∧ (l.map MkC.mk').Perm (es.map mkOf) ∧ Canon (inE es) (l.map MkC.mk') :=
  (Marks_ok h.at' (by have := h.few; omega) hn).mono fun v M' ⟨a, n, c, l, hv, hm, hp, hs⟩ => by
    have hlen := hp.length_eq
    simp only [List.length_map] at hlen
    have hml := hm.len
    refine ⟨a, n, c, l, hv, h.to hm.row.le, ⟨hm.row.mono (Mem.minus_le _ _), fun m h1 => (hm.more m h1).mono (Mem.minus_le _ _)⟩, ⟨hm.row.src.minus fun q hq hb => h.some hb (hm.row.block hq).1, fun m h1 => (hm.more m h1).src.minus fun q hq hb => h.some hb ((hm.more m h1).block hq).1⟩, by omega, h.fewM hp, hp, marks_canon h.inv hp hs⟩
/-- ids in a row -/
theorem idCs_len (i : IdT) : (idCs i).length = 4 := rfl
theorem flat_take {α : Type} {enc : α → List Value} {k : Nat} (hk : ∀ x, (enc x).length = k) : ∀ (l : List α) (i : Nat), (l.flatMap enc).take (i * k) = (l.take i).flatMap enc
  | [], i => by simp
  | x :: r, 0 => by simp
  | x :: r, i + 1 => by
    have ih := flat_take hk r i
    have e : (i + 1) * k = (enc x).length + i * k := by rw [hk, Nat.succ_mul, Nat.add_comm]
    rw [List.flatMap_cons, e, List.take_length_add_append, ih, List.take_succ_cons, List.flatMap_cons]
theorem cut_ok {a : Option Addr} {n c : Nat} {L : List IdT} (hs : SrcOk M 4 a n (L.flatMap idCs)) (hn : n ≤ 4194304) (hc : n ≤ c) :
    CallsM Try.prog F.law14_cut [.slice a n c] M fun v M' => (∃ a' n' c', v = .slice a' n' c' ∧ n' ≤ 60 ∧ n' ≤ c' ∧ ∀ N : Mem, SrcOk N 4 a n (L.flatMap idCs) → SrcOk N 4 a' n' ((L.take 60).flatMap idCs)) ∧ M = M' := by
  refine fo_law14_cut (by simp) ?_
  have hl := hs.flen idCs_len (by decide)
  (conv => whnf); refine brn (fun h => ?_) (fun h => ?_)
  · have h1 : 60 < n := by have := of_decide_eq_true h; omega
    (conv => whnf); refine ob ⟨by decide, by omega, by omega⟩ ?_
    (conv => whnf)
    refine ⟨⟨_, 60, c, rfl, Nat.le_refl _, by omega, fun N hs' => ?_⟩, rfl⟩
    have h2 := hs'.sub (lo := 0) (hi := 60) (by omega) (by omega) hc (by decide)
    rw [Nat.zero_mul, List.drop_zero, flat_take idCs_len] at h2
    exact h2
  · have h1 : n ≤ 60 := by have := of_decide_eq_false h; omega
    (conv => whnf)
    refine ⟨⟨a, n, c, rfl, h1, hc, fun N hs' => ?_⟩, rfl⟩
    rw [List.take_of_length_le (by omega)]; exact hs'
end Go.Proofs.Ytmifjilknojkaaa
