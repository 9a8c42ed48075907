/- The document's set: gaps, the next one, what is there, what is added. -/
import Derived.Test.YtmifjilknojkaaaSeenW
namespace Go.Proofs.Ytmifjilknojkaaa
open Go Go.Vm
attribute [local irreducible] Brn Ob Grow CallsM inR LoopVC Mem.row Mem.cells Mem.setCells Mem.upd Own AppVC SrcVC StrVC NextVC New SrcOk subA NewSl Mem.textAt Mem.mapAt Mem.iterAt entryOf kfind Wr NewEls Elems
set_option maxRecDepth 10000
variable {M : Mem} {a : Option Addr} {n c : Nat} {L : List K}
def gapsK (L : List K) : Nat := ((marksK L).map fun m => m.more.length).sum
def nextOf : List Mk → Int → Int → Int
  | [], _, _ => 1
  | m :: r, o, e => if m.o = o ∧ m.e = e then m.up + 1 else nextOf r o e
def nextK (L : List K) (o e : Int) : Int := nextOf (marksK L) o e
def hasK (L : List K) (o d e c : Int) : Bool := decide (idErr o d e c = 0) && decide ((⟨o, e, c⟩ : K) ∈ L)
def mayK (room : Int) (L : List K) (o d e c : Int) : Int :=
  if idErr o d e c ≠ 0 then idErr o d e c else if hasK L o d e c then 5 else if c ≠ nextK L o e ∧ room ≤ gapsK L then 6 else 0
theorem gapsR_ok (hs : SrcOk M 3 a n (L.flatMap encK)) (hn : n ≤ 4194000) (room : Int) : CallsM Try.prog F.ref14_Gaps [refV room a n c] M fun v M' => v = .int .i64 (gapsK L) ∧ M.le M' := by
  refine fo_ref14_Gaps (by simp) ?_
  (conv => whnf); refine (marksR_ok hs hn room).mono ?_
  rintro v M1 ⟨a1, c1, l, rfl, hW, hl, hln, hfew⟩
  have hg : gapsK L = (l.map fun m => m.more.length).sum := by rw [gapsK, ← hl, List.map_map]; rfl
  (conv => whnf)
  refine loopQ (σ := Nat × Nat) [5, 4] (fun y => [(5, .int .i64 y.1), (4, .int .i64 y.2)]) (fun | ⟨i, s⟩ => i ≤ l.length ∧ s ≤ i * 4194304 ∧ s + ((l.drop i).map fun m => m.more.length).sum = gapsK L) (fun y => l.length - y.1) ⟨0, 0⟩ ⟨by omega, by omega, by simp [hg]⟩ ⟨(by repeat' first | exact True.intro | refine ⟨rfl, ?_⟩), (by repeat' first | exact True.intro | refine ⟨rfl, ?_⟩), Mem.le_refl _, rfl⟩ ?_
  rintro ⟨i, s⟩ ⟨hi, hsb, hsum⟩
  (conv => whnf); refine brn (fun g => ?_) (fun g => ?_)
  · have hlt : i < l.length := by have := of_decide_eq_true g; dsimp only at this; omega
    have hx : l[i]? = some l[i] := List.getElem?_eq_getElem hlt
    obtain ⟨b1, o1, rfl, hcc⟩ := hW.row.src.fcells encM_len (by decide) hx
    have hf := (hfew l[i] (List.getElem_mem _)).2
    rw [List.drop_eq_getElem_cons hlt, List.map_cons, List.sum_cons] at hsum
    (conv => whnf); refine ob (by first | omega | (dsimp only; omega)) ?_
    (conv => whnf); refine on (hcc 3 _ rfl) ?_
    (conv => whnf); refine ob (inR_i64 (by first | omega | (dsimp only; omega))) ?_
    (conv => whnf); refine ob (inR_i64 (by first | omega | (dsimp only; omega))) ?_
    (conv => whnf)
    exact ⟨⟨i + 1, s + l[i].more.length⟩, ⟨by omega, by omega, by omega⟩, by dsimp only; omega, ⟨(by repeat' first | exact True.intro | refine ⟨rfl, ?_⟩), (by repeat' first | exact True.intro | refine ⟨rfl, ?_⟩), Mem.le_refl _, rfl⟩⟩
  · have hge : l.length ≤ i := by have := of_decide_eq_false g; dsimp only at this; omega
    rw [List.drop_of_length_le hge] at hsum
    simp only [List.map_nil, List.sum_nil, Nat.add_zero] at hsum
    (conv => whnf)
    exact ⟨by dsimp only; rw [hsum], hW.row.le⟩
theorem nextR_ok (hs : SrcOk M 3 a n (L.flatMap encK)) (hn : n ≤ 4194000) (room o d e x : Int) : CallsM Try.prog F.ref14_Next [refV room a n c, idV o d e x] M fun v M' => v = .int .i64 (nextK L o e) ∧ M.le M' := by
  refine fo_ref14_Next (by simp) ?_
  (conv => whnf); refine (marksR_ok hs hn room).mono ?_
  rintro v M1 ⟨a1, c1, l, rfl, hW, hl, hln, hfew⟩
  have hg : nextK L o e = nextOf (l.map MkC.mk') o e := by rw [nextK, hl]
  (conv => whnf)
  refine loopQ [6] (fun (i : Nat) => [(6, .int .i64 i)]) (fun i => i ≤ l.length ∧ nextK L o e = nextOf ((l.drop i).map MkC.mk') o e) (fun i => l.length - i) 0 ⟨by omega, by simp [hg]⟩ ⟨(by repeat' first | exact True.intro | refine ⟨rfl, ?_⟩), (by repeat' first | exact True.intro | refine ⟨rfl, ?_⟩), Mem.le_refl _, rfl⟩ ?_
  intro i ⟨hi, hnx⟩
  (conv => whnf); refine brn (fun g => ?_) (fun g => ?_)
  · have hlt : i < l.length := by have := of_decide_eq_true g; omega
    have hx : l[i]? = some l[i] := List.getElem?_eq_getElem hlt
    obtain ⟨b1, o1, rfl, hcc⟩ := hW.row.src.fcells encM_len (by decide) hx
    have hf := (hfew l[i] (List.getElem_mem _)).1
    rw [List.drop_eq_getElem_cons hlt, List.map_cons] at hnx
    generalize l[i] = m at *
    have hne : ¬ (m.o = o ∧ m.e = e) → nextK L o e = nextOf ((l.drop (i + 1)).map MkC.mk') o e := fun h => hnx.trans (if_neg h)
    repeat' ((conv => whnf); first | refine ⟨?_, True.intro⟩ | refine brn_t rfl ?_ | refine brn_f rfl ?_ | refine ob rfl ?_ | refine ob (by decide) ?_ | refine grow_same (Mem.le_refl _) ?_ | refine ob (Mem.le_refl _) ?_ | refine ⟨_, Mem.le_refl _, ?_⟩ | fail)
    refine ob (by first | omega | (dsimp only; omega)) ?_
    (conv => whnf); refine on (hcc 0 _ rfl) ?_
    (conv => whnf); refine brn (fun g1 => ?_) (fun g1 => ?_)
    · have e1 : m.o = o := of_decide_eq_true g1
      repeat' ((conv => whnf); first | refine ⟨?_, True.intro⟩ | refine brn_t rfl ?_ | refine brn_f rfl ?_ | refine ob rfl ?_ | refine ob (by decide) ?_ | refine grow_same (Mem.le_refl _) ?_ | refine ob (Mem.le_refl _) ?_ | refine ⟨_, Mem.le_refl _, ?_⟩ | fail)
      refine ob (by first | omega | (dsimp only; omega)) ?_
      (conv => whnf); refine on (hcc 1 _ rfl) ?_
      (conv => whnf); refine brn (fun g2 => ?_) (fun g2 => ?_)
      · have e2 : m.e = e := of_decide_eq_true g2
        repeat' ((conv => whnf); first | refine ⟨?_, True.intro⟩ | refine brn_t rfl ?_ | refine brn_f rfl ?_ | refine ob rfl ?_ | refine ob (by decide) ?_ | refine grow_same (Mem.le_refl _) ?_ | refine ob (Mem.le_refl _) ?_ | refine ⟨_, Mem.le_refl _, ?_⟩ | fail)
        refine ob (by first | omega | (dsimp only; omega)) ?_
        (conv => whnf); refine on (hcc 2 _ rfl) ?_
        (conv => whnf); refine ob (inR_i64 (by first | omega | (dsimp only; omega))) ?_
        (conv => whnf)
        exact ⟨by rw [hnx, nextOf, if_pos ⟨e1, e2⟩]; rfl, hW.row.le⟩
      · (conv => whnf); refine ob (inR_i64 (by first | omega | (dsimp only; omega))) ?_
        (conv => whnf)
        exact ⟨i + 1, ⟨by omega, hne fun h => of_decide_eq_false g2 h.2⟩, by omega, ⟨(by repeat' first | exact True.intro | refine ⟨rfl, ?_⟩), (by repeat' first | exact True.intro | refine ⟨rfl, ?_⟩), Mem.le_refl _, rfl⟩⟩
    · (conv => whnf); refine ob (inR_i64 (by first | omega | (dsimp only; omega))) ?_
      (conv => whnf)
      exact ⟨i + 1, ⟨by omega, hne fun h => of_decide_eq_false g1 h.1⟩, by omega, ⟨(by repeat' first | exact True.intro | refine ⟨rfl, ?_⟩), (by repeat' first | exact True.intro | refine ⟨rfl, ?_⟩), Mem.le_refl _, rfl⟩⟩
  · have hge : l.length ≤ i := by have := of_decide_eq_false g; omega
    rw [List.drop_of_length_le hge] at hnx
    (conv => whnf)
    exact ⟨by rw [hnx]; rfl, hW.row.le⟩
theorem hasR_ok (hs : SrcOk M 3 a n (L.flatMap encK)) (hn : n ≤ 4194000) (room o d e x : Int) : CallsM Try.prog F.ref14_Has [refV room a n c, idV o d e x] M fun v M' => v = .bool (hasK L o d e x) ∧ M = M' := by
  refine fo_ref14_Has (by simp) ?_
  (conv => whnf); refine (checkR_ok o d e x M).mono ?_
  rintro v _ ⟨rfl, rfl⟩
  (conv => whnf); refine brn (fun g => ?_) (fun g => ?_)
  · have h0 : idErr o d e x = 0 := of_decide_eq_true g
    (conv => whnf); refine (thereR_ok hs (by omega) room ⟨o, e, x⟩).mono ?_
    rintro v _ ⟨rfl, rfl⟩
    repeat' ((conv => whnf); first | refine ⟨?_, True.intro⟩ | refine brn_t rfl ?_ | refine brn_f rfl ?_ | refine ob rfl ?_ | refine ob (by decide) ?_ | refine grow_same (Mem.le_refl _) ?_ | refine ob (Mem.le_refl _) ?_ | refine ⟨_, Mem.le_refl _, ?_⟩ | fail)
    exact ⟨by simp [hasK, h0], rfl⟩
  · have h0 : ¬ idErr o d e x = 0 := of_decide_eq_false g
    repeat' ((conv => whnf); first | refine ⟨?_, True.intro⟩ | refine brn_t rfl ?_ | refine brn_f rfl ?_ | refine ob rfl ?_ | refine ob (by decide) ?_ | refine grow_same (Mem.le_refl _) ?_ | refine ob (Mem.le_refl _) ?_ | refine ⟨_, Mem.le_refl _, ?_⟩ | fail)
    exact ⟨by simp [hasK, h0], rfl⟩
end Go.Proofs.Ytmifjilknojkaaa
