/- Marks: are two lists the same? Copies. -/
import Derived.Test.YtmifjilknojkaaaSeenH
import Derived.Test.YtmifjilknojkaaaVmV
namespace Go.Proofs.Ytmifjilknojkaaa
open Go Go.Vm
attribute [local irreducible] Brn Ob Grow CallsM inR LoopVC Mem.row Mem.cells Mem.setCells Mem.upd Own AppVC SrcVC StrVC NextVC New SrcOk subA NewSl Mem.textAt Mem.mapAt Mem.iterAt entryOf kfind Wr NewEls Elems
set_option maxRecDepth 10000
variable {M : Mem}
/-- marks that are read -/
structure MarksR (M : Mem) (a : Option Addr) (n : Nat) (l : List MkC) : Prop where
  row : SrcOk M 4 a n (l.flatMap encM)
  more : ∀ m ∈ l, SrcOk M 1 m.a m.more.length (m.more.map intV)
theorem MarksAt.r {M0 M' : Mem} {a : Option Addr} {n c : Nat} {l : List MkC} (h : MarksAt M0 a n c l M') : MarksR M' a n l := ⟨h.row.src, fun m hm => (h.more m hm).src⟩
theorem MarksR.le {M M' : Mem} {a : Option Addr} {n : Nat} {l : List MkC} (h : MarksR M a n l) (hle : M.le M') : MarksR M' a n l := ⟨h.row.le hle, fun m hm => (h.more m hm).le hle⟩
theorem MarksR.len {M : Mem} {a : Option Addr} {n : Nat} {l : List MkC} (h : MarksR M a n l) : l.length = n := h.row.flen encM_len (by decide)
/-- marks of few numbers -/
def FewM (l : List MkC) : Prop := ∀ m ∈ l, m.more.length ≤ 4194304
theorem same_ok {a b : Option Addr} {n m c d : Nat} {l r : List MkC} (ha : MarksR M a n l) (hb : MarksR M b m r) (fl : FewM l) (hn : n ≤ 4194304) (hm : m ≤ 4194304) :
    CallsM Try.prog F.ref14_SameMarks [.slice a n c, .slice b m d] M fun v M' => v = .bool (decide (l.map MkC.mk' = r.map MkC.mk')) ∧ M = M' := by
  refine fo_ref14_SameMarks (by simp) ?_
  have hl := ha.len
  have hr := hb.len
  (conv => whnf); refine brn (fun h => ?_) (fun h => ?_)
  · repeat' ((conv => whnf); first | refine ⟨?_, True.intro⟩ | refine brn_t rfl ?_ | refine brn_f rfl ?_ | refine ob rfl ?_ | refine ob (by decide) ?_ | refine grow_same (Mem.le_refl _) ?_ | refine ob (Mem.le_refl _) ?_ | refine ⟨_, Mem.le_refl _, ?_⟩ | fail)
    have h' : ¬ (n : Int) = m := by simpa using h
    refine ⟨?_, rfl⟩
    have : ¬ l.map MkC.mk' = r.map MkC.mk' := fun e => h' (by have := congrArg List.length e; simp at this; omega)
    simp [this]
  have hnm : n = m := by have h' : (n : Int) = m := by simpa using h
                         omega
  subst hnm
  (conv => whnf)
  refine loopQ [5] (fun (i : Nat) => [(5, .int .i64 i)]) (fun i => i ≤ n ∧ (l.map MkC.mk').take i = (r.map MkC.mk').take i) (fun i => n - i) 0 ⟨by omega, by simp⟩ ⟨(by repeat' first | exact True.intro | refine ⟨rfl, ?_⟩), (by repeat' first | exact True.intro | refine ⟨rfl, ?_⟩), Mem.le_refl _, rfl⟩ ?_
  intro i ⟨hi, hsame⟩
  (conv => whnf); refine brn (fun g => ?_) (fun g => ?_)
  · have hlt : i < n := by have := of_decide_eq_true g; omega
    have hx : l[i]? = some (l[i]'(by omega)) := List.getElem?_eq_getElem (by omega)
    have hy : r[i]? = some (r[i]'(by omega)) := List.getElem?_eq_getElem (by omega)
    generalize l[i]'(by omega) = x at *
    generalize r[i]'(by omega) = y at *
    obtain ⟨b1, o1, rfl, hc1⟩ := ha.row.fcells encM_len (by decide) hx
    obtain ⟨b2, o2, rfl, hc2⟩ := hb.row.fcells encM_len (by decide) hy
    have hxm := ha.more x (List.mem_of_getElem? hx)
    have hym := hb.more y (List.mem_of_getElem? hy)
    have no : ¬ x.mk' = y.mk' → ¬ l.map MkC.mk' = r.map MkC.mk' := fun hne e => by
      have := congrArg (·[i]?) e
      simp [hx, hy] at this
      exact hne this
    repeat' ((conv => whnf); first | refine ⟨?_, True.intro⟩ | refine brn_t rfl ?_ | refine brn_f rfl ?_ | refine ob rfl ?_ | refine ob (by decide) ?_ | refine grow_same (Mem.le_refl _) ?_ | refine ob (Mem.le_refl _) ?_ | refine ⟨_, Mem.le_refl _, ?_⟩ | fail)
    refine ob (by omega) ?_
    (conv => whnf); refine on (hc1 0 _ rfl) ?_
    (conv => whnf); refine ob (by omega) ?_
    (conv => whnf); refine on (hc2 0 _ rfl) ?_
    (conv => whnf); refine brn (fun g1 => ?_) (fun g1 => ?_)
    · repeat' ((conv => whnf); first | refine ⟨?_, True.intro⟩ | refine brn_t rfl ?_ | refine brn_f rfl ?_ | refine ob rfl ?_ | refine ob (by decide) ?_ | refine grow_same (Mem.le_refl _) ?_ | refine ob (Mem.le_refl _) ?_ | refine ⟨_, Mem.le_refl _, ?_⟩ | fail)
      exact ⟨by simp [no (fun e => by simp at g1; exact g1 (congrArg Mk.o e))], rfl⟩
    have e1 : x.o = y.o := by simpa using g1
    (conv => whnf); refine ob (by omega) ?_
    (conv => whnf); refine on (hc1 1 _ rfl) ?_
    (conv => whnf); refine ob (by omega) ?_
    (conv => whnf); refine on (hc2 1 _ rfl) ?_
    (conv => whnf); refine brn (fun g2 => ?_) (fun g2 => ?_)
    · repeat' ((conv => whnf); first | refine ⟨?_, True.intro⟩ | refine brn_t rfl ?_ | refine brn_f rfl ?_ | refine ob rfl ?_ | refine ob (by decide) ?_ | refine grow_same (Mem.le_refl _) ?_ | refine ob (Mem.le_refl _) ?_ | refine ⟨_, Mem.le_refl _, ?_⟩ | fail)
      exact ⟨by simp [no (fun e => by simp at g2; exact g2 (congrArg Mk.e e))], rfl⟩
    have e2 : x.e = y.e := by simpa using g2
    (conv => whnf); refine ob (by omega) ?_
    (conv => whnf); refine on (hc1 2 _ rfl) ?_
    (conv => whnf); refine ob (by omega) ?_
    (conv => whnf); refine on (hc2 2 _ rfl) ?_
    (conv => whnf); refine brn (fun g3 => ?_) (fun g3 => ?_)
    · repeat' ((conv => whnf); first | refine ⟨?_, True.intro⟩ | refine brn_t rfl ?_ | refine brn_f rfl ?_ | refine ob rfl ?_ | refine ob (by decide) ?_ | refine grow_same (Mem.le_refl _) ?_ | refine ob (Mem.le_refl _) ?_ | refine ⟨_, Mem.le_refl _, ?_⟩ | fail)
      exact ⟨by simp [no (fun e => by simp at g3; exact g3 (congrArg Mk.up e))], rfl⟩
    have e3 : x.up = y.up := by simpa using g3
    (conv => whnf); refine ob (by omega) ?_
    (conv => whnf); refine on (hc1 3 _ rfl) ?_
    (conv => whnf); refine ob (by omega) ?_
    (conv => whnf); refine on (hc2 3 _ rfl) ?_
    (conv => whnf); refine brn (fun g4 => ?_) (fun g4 => ?_)
    · repeat' ((conv => whnf); first | refine ⟨?_, True.intro⟩ | refine brn_t rfl ?_ | refine brn_f rfl ?_ | refine ob rfl ?_ | refine ob (by decide) ?_ | refine grow_same (Mem.le_refl _) ?_ | refine ob (Mem.le_refl _) ?_ | refine ⟨_, Mem.le_refl _, ?_⟩ | fail)
      exact ⟨by simp [no (fun e => by simp at g4; exact g4 (congrArg (fun m : Mk => (m.more.length : Int)) e))], rfl⟩
    have e4 : x.more.length = y.more.length := by
      have : (x.more.length : Int) = y.more.length := by simpa using g4
      omega
    have hfx := fl x (List.mem_of_getElem? hx)
    (conv => whnf)
    refine loopQ [6] (fun (k : Nat) => [(6, .int .i64 k)]) (fun k => k ≤ x.more.length ∧ x.more.take k = y.more.take k) (fun k => x.more.length - k) 0 ⟨by omega, by simp⟩ ⟨(by repeat' first | exact True.intro | refine ⟨rfl, ?_⟩), (by repeat' first | exact True.intro | refine ⟨rfl, ?_⟩), Mem.le_refl _, rfl⟩ ?_
    intro k ⟨hk, hsk⟩
    (conv => whnf); refine ob (by omega) ?_
    (conv => whnf); refine on (hc1 3 _ rfl) ?_
    (conv => whnf); refine brn (fun g5 => ?_) (fun g5 => ?_)
    · have hlk : k < x.more.length := by have := of_decide_eq_true g5; omega
      obtain ⟨hkx, bx, ox, hax, hrx⟩ := hxm.at (i := k) hlk
      obtain ⟨hky, by', oy, hay, hry⟩ := hym.at (i := k) (by omega)
      repeat' ((conv => whnf); first | refine ⟨?_, True.intro⟩ | refine brn_t rfl ?_ | refine brn_f rfl ?_ | refine ob rfl ?_ | refine ob (by decide) ?_ | refine grow_same (Mem.le_refl _) ?_ | refine ob (Mem.le_refl _) ?_ | refine ⟨_, Mem.le_refl _, ?_⟩ | fail)
      refine ob (by omega) ?_
      (conv => whnf); refine on (hc1 3 _ rfl) ?_
      (conv => whnf); refine ob (by omega) ?_
      (conv => whnf); refine atp hax ?_
      (conv => whnf); refine on hrx ?_
      (conv => whnf); refine ob (by omega) ?_
      (conv => whnf); refine on (hc2 3 _ rfl) ?_
      (conv => whnf); refine ob (by omega) ?_
      (conv => whnf); refine atp hay ?_
      (conv => whnf); refine on hry ?_
      (conv => whnf); refine brn (fun g6 => ?_) (fun g6 => ?_)
      · repeat' ((conv => whnf); first | refine ⟨?_, True.intro⟩ | refine brn_t rfl ?_ | refine brn_f rfl ?_ | refine ob rfl ?_ | refine ob (by decide) ?_ | refine grow_same (Mem.le_refl _) ?_ | refine ob (Mem.le_refl _) ?_ | refine ⟨_, Mem.le_refl _, ?_⟩ | fail)
        refine ⟨?_, rfl⟩
        have : ¬ x.mk' = y.mk' := fun e => by
          have e5 : x.more = y.more := congrArg Mk.more e
          simp [e5] at g6
        simp [no this]
      · (conv => whnf); refine ob (inR_i64 (by omega)) ?_
        (conv => whnf)
        refine ⟨k + 1, ⟨by omega, ?_⟩, by omega, ⟨(by repeat' first | exact True.intro | refine ⟨rfl, ?_⟩), (by repeat' first | exact True.intro | refine ⟨rfl, ?_⟩), Mem.le_refl _, rfl⟩⟩
        have e6 : x.more[k] = y.more[k] := by simpa using g6
        rw [List.take_add_one, List.take_add_one, hsk, List.getElem?_eq_getElem hkx, List.getElem?_eq_getElem hky, e6]
    · have hge : x.more.length ≤ k := by have := of_decide_eq_false g5; omega
      rw [List.take_of_length_le hge, List.take_of_length_le (by omega)] at hsk
      (conv => whnf); refine ob (inR_i64 (by omega)) ?_
      (conv => whnf)
      refine ⟨i + 1, ⟨by omega, ?_⟩, by omega, ⟨(by repeat' first | exact True.intro | refine ⟨rfl, ?_⟩), (by repeat' first | exact True.intro | refine ⟨rfl, ?_⟩), Mem.le_refl _, rfl⟩⟩
      rw [List.take_add_one, List.take_add_one, hsame]
      simp [hx, hy, MkC.mk', e1, e2, e3, hsk]
  · have hge : i = n := by have := of_decide_eq_false g; omega
    subst hge
    repeat' ((conv => whnf); first | refine ⟨?_, True.intro⟩ | refine brn_t rfl ?_ | refine brn_f rfl ?_ | refine ob rfl ?_ | refine ob (by decide) ?_ | refine grow_same (Mem.le_refl _) ?_ | refine ob (Mem.le_refl _) ?_ | refine ⟨_, Mem.le_refl _, ?_⟩ | fail)
    refine ⟨?_, rfl⟩
    rw [List.take_of_length_le (by simp; omega), List.take_of_length_le (by simp; omega)] at hsame
    simp [hsame]
theorem copy_ok {a : Option Addr} {n c : Nat} {l : List MkC} (ha : MarksR M a n l) (fl : FewM l) (hn : n ≤ 4194000) :
    CallsM Try.prog F.ref14_CopyMarks [.slice a n c] M fun v M' => ∃ a' c' l', v = .slice a' n c' ∧ MarksAt M a' n c' l' M' ∧ l'.map MkC.mk' = l.map MkC.mk' := by
  refine fo_ref14_CopyMarks (by simp) ?_
  have hl := ha.len
  (conv => whnf); refine new (fun b9 hb9 => ?_)
  replace hb9 : M b9 = none := hb9
  have hN : NewSl M T.api_Mark 4 (some ⟨b9, 0, none⟩) 0 0 (([] : List MkC).flatMap encM) _ := NewSl.lit hb9 T.api_Mark 4 0 [] rfl
  obtain ⟨M3, hM3⟩ : ∃ M3, M3 = M.setCells b9 T.api_Mark [] := ⟨_, rfl⟩
  rw [← hM3] at hN
  (conv => whnf)
  erw [← hM3]
  refine loopF (σ := Nat × Mem × Option Addr × Nat × List MkC) [4, 3] (fun y => [(4, .int .i64 y.1), (3, .slice y.2.2.1 y.1 y.2.2.2.1)]) (fun _ => [.gone b9]) (fun y => y.2.1)
    (fun | ⟨i, M4, a4, c4, out⟩ => i ≤ n ∧ MarksAt M a4 i c4 out M4 ∧ out.map MkC.mk' = (l.map MkC.mk').take i) (fun y => n - y.1) ⟨0, M3, _, _, []⟩ ⟨by omega, ⟨hN, by simp⟩, by simp⟩ ⟨(by repeat' first | exact True.intro | refine ⟨rfl, ?_⟩), (by repeat' first | exact True.intro | refine ⟨rfl, ?_⟩), Mem.le_refl _, rfl⟩ ?_
  rintro ⟨i, M4, a4, c4, out⟩ ⟨hi, hMk, hout⟩
  (conv => whnf); refine brn (fun g => ?_) (fun g => ?_)
  · have hlt : i < n := by have := of_decide_eq_true g; dsimp only at this; omega
    have hx : l[i]? = some (l[i]'(by omega)) := List.getElem?_eq_getElem (by omega)
    generalize l[i]'(by omega) = x at *
    have ha4 := ha.le hMk.row.le
    obtain ⟨b1, o1, rfl, hc1⟩ := ha4.row.fcells encM_len (by decide) hx
    have hxm := ha4.more x (List.mem_of_getElem? hx)
    have hfx := fl x (List.mem_of_getElem? hx)
    repeat' ((conv => whnf); first | refine ⟨?_, True.intro⟩ | refine brn_t rfl ?_ | refine brn_f rfl ?_ | refine ob rfl ?_ | refine ob (by decide) ?_ | refine grow_same (Mem.le_refl _) ?_ | refine ob (Mem.le_refl _) ?_ | refine ⟨_, Mem.le_refl _, ?_⟩ | fail)
    refine ob (by first | omega | (dsimp only; omega)) ?_
    (conv => whnf); refine on (hc1 0 _ rfl) ?_
    (conv => whnf); refine ob (by first | omega | (dsimp only; omega)) ?_
    (conv => whnf); refine on (hc1 1 _ rfl) ?_
    (conv => whnf); refine ob (by first | omega | (dsimp only; omega)) ?_
    (conv => whnf); refine on (hc1 2 _ rfl) ?_
    (conv => whnf); refine ob (by first | omega | (dsimp only; omega)) ?_
    (conv => whnf); refine on (hc1 3 _ rfl) ?_
    repeat' ((conv => whnf); first | refine ⟨?_, True.intro⟩ | refine brn_t rfl ?_ | refine brn_f rfl ?_ | refine ob rfl ?_ | refine ob (by decide) ?_ | refine grow_same (Mem.le_refl _) ?_ | refine ob (Mem.le_refl _) ?_ | refine ⟨_, Mem.le_refl _, ?_⟩ | fail)
    refine new (fun b2 hb2 => ?_)
    replace hb2 : M4 b2 = none := hb2
    have hN1 : NewSl M4 T.int 1 (some ⟨b2, 0, none⟩) 0 0 (([] : List Int).map intV) _ := NewSl.lit hb2 T.int 1 0 [] rfl
    obtain ⟨M5, hM5⟩ : ∃ M5, M5 = M4.setCells b2 T.int [] := ⟨_, rfl⟩
    rw [← hM5] at hN1
    (conv => whnf)
    erw [← hM5]
    repeat' ((conv => whnf); first | refine ob rfl ?_ | refine grow_same hN1.le ?_ | refine ob hN1.le ?_ | refine ⟨?_, True.intro⟩ | fail)
    (conv => whnf)
    refine srcv (hxm.le hN1.le) ?_
    (conv => whnf); refine appN M4 _ hN1 (by first | omega | (dsimp only; omega)) (by simp [maxLen]; omega) (by simp [Value.oneCell']) fun a5 c5 M6 hN6 => ?_
    have hMk6 : MarksAt M a4 i c4 out M6 := ⟨hMk.row.up hN6.le, fun m hm => (hMk.more m hm).up hN6.le⟩
    have hnew : NewSl M T.int 1 a5 x.more.length c5 (x.more.map intV) M6 := by
      have := hN6.mono hMk.row.le
      simpa using this
    repeat' ((conv => whnf); first | refine ob rfl ?_ | refine grow_same hN6.le ?_ | refine ob hN6.le ?_ | refine ⟨?_, True.intro⟩ | fail)
    (conv => whnf)
    refine appF M hMk6.row ⟨x.o, x.e, x.up, a5, c5, x.more⟩ (by simp) (by first | omega | (dsimp only; omega)) (by simp [maxLen]; omega) (by simp [Value.oneCell']) fun a6 c6 M7 hN7 hk7 => ?_
    have hfr : ∀ y, blk a4 y → M y = none := fun y ⟨q, hq, e⟩ => e ▸ (hMk6.row.block hq).1
    repeat' ((conv => whnf); first | refine ⟨?_, True.intro⟩ | refine brn_t rfl ?_ | refine brn_f rfl ?_ | refine ob rfl ?_ | refine ob (by decide) ?_ | refine grow_same (Mem.le_refl _) ?_ | refine ob (Mem.le_refl _) ?_ | refine ⟨_, Mem.le_refl _, ?_⟩ | fail)
    refine ob (inR_i64 (by first | omega | (dsimp only; omega))) ?_
    (conv => whnf)
    refine ⟨⟨i + 1, M7, a6, c6, out ++ [⟨x.o, x.e, x.up, a5, c5, x.more⟩]⟩, ⟨by omega, ⟨hN7, fun m hm => ?_⟩, ?_⟩, by dsimp only; omega, ⟨(by repeat' first | exact True.intro | refine ⟨rfl, ?_⟩), (by repeat' first | exact True.intro | refine ⟨rfl, ?_⟩), Mem.le_refl _, rfl⟩⟩
    · rcases List.mem_append.1 hm with hm | hm
      · exact (hMk6.more m hm).keep hk7 hfr fun q hq ⟨q', hq', e⟩ => hMk6.row.ne (hMk6.more m hm) (by decide) hq' hq e
      · simp only [List.mem_singleton] at hm
        subst hm
        exact hnew.keep hk7 hfr fun q hq ⟨q', hq', e⟩ => hMk6.row.ne hnew (by decide) hq' hq e
    · rw [List.map_append, hout, List.take_add_one]
      simp [hx, MkC.mk']
  · have hge : i = n := by have := of_decide_eq_false g; dsimp only at this; omega
    subst hge
    repeat' ((conv => whnf); first | refine ⟨?_, True.intro⟩ | refine brn_t rfl ?_ | refine brn_f rfl ?_ | refine ob rfl ?_ | refine ob (by decide) ?_ | refine grow_same (Mem.le_refl _) ?_ | refine ob (Mem.le_refl _) ?_ | refine ⟨_, Mem.le_refl _, ?_⟩ | fail)
    refine ⟨a4, c4, out, rfl, hMk, ?_⟩
    rw [hout, List.take_of_length_le (by simp; omega)]
end Go.Proofs.Ytmifjilknojkaaa
