/- The document's disk: the calls. -/
import Derived.Test.YtdjgmhifocdelaaRefDiskB
namespace Go.Proofs.Ytdjgmhifocdelaa
open Go Go.Vm
attribute [local irreducible] Brn Ob Grow CallsM inR LoopVC Mem.row Mem.cells Mem.setCells Mem.upd Own AppVC SrcVC StrVC NextVC New SrcOk subA NewSl Mem.textAt Mem.mapAt Mem.iterAt entryOf kfind Wr NewEls Elems
set_option maxRecDepth 10000
variable {M : Mem} {D : DiskR}
theorem emp : ByteArray.empty.size = 0 := rfl
theorem str_add (a b : ByteArray) : (a ++ b).size = a.size + b.size := by rw [← bl_len, bl_append, List.length_append, bl_len, bl_len]
theorem file_le (h : InvD D) (s : ByteArray) : (fileR D s).safe.size + (fileR D s).tail.size ≤ 1048576 := by
  have := without_file h.sort (s := s)
  have := h.used
  omega
/-- the document's files behind a call: as they lay, or in new memory -/
def AtR (M M' : Mem) (a0 : Option Addr) (L0 : List FileR) (a : Option Addr) (L : List FileR) : Prop := (a = a0 ∧ L = L0 ∧ M.le M') ∨ ∃ c, NewSl M T.portageref10_File 3 a L.length c (L.flatMap encF) M'
theorem AtR.le {M M' : Mem} {a0 a : Option Addr} {L0 L : List FileR} (h : AtR M M' a0 L0 a L) : M.le M' := by
  rcases h with ⟨_, _, h⟩ | ⟨c, h⟩
  · exact h
  · exact h.le
/-- as a base has it that lacks some blocks -/
theorem AtR.src {B M M' : Mem} {S : Nat → Prop} {a0 a : Option Addr} {L0 L : List FileR} (h : AtR M M' a0 L0 a L) (h0 : SrcOk B 3 a0 L0.length (L0.flatMap encF)) (hB : B.le M) (hS : ∀ y, S y → B y = none ∧ M y ≠ none) : SrcOk (M'.minus S) 3 a L.length (L.flatMap encF) := by
  rcases h with ⟨rfl, rfl, h⟩ | ⟨c, h⟩
  · exact h0.le (Mem.le_minus (Mem.le_trans hB h) fun y hy => (hS y hy).1)
  · exact h.src.minus fun q hq hb => (hS _ hb).2 (h.block hq).1
def RefOut (M M' : Mem) (a0 : Option Addr) (D0 : DiskR) (v : Value) (r : DiskR × Int) : Prop := ∃ a c, v = .tuple #[refV r.1 a c, .int .i64 r.2] ∧ AtR M M' a0 D0.l a r.1.l
theorem RefOut.same {M M' : Mem} {a : Option Addr} {c : Nat} {e : Int} (h : M.le M') : RefOut M M' a D (.tuple #[refV D a c, .int .i64 e]) (D, e) := ⟨a, c, rfl, .inl ⟨rfl, rfl, h⟩⟩
theorem appendR_ok {a : Option Addr} {c : Nat} (hs : SrcOk M 3 a D.l.length (D.l.flatMap encF)) (hI : InvD D) (s : ByteArray) (hsz : s.size ≤ 4611686018427387904) {pa : Option Addr} {pn pc : Nat} {p : List UInt8} (hp : SrcOk M 1 pa pn (p.map byteV)) :
    CallsM Try.prog F.ref10_Append [refV D a c, .string s, .slice pa pn pc] M fun v M' => RefOut M M' a D v (appendR D s p) := by
  refine fo_ref10_Append (by simp) ?_
  have hpl := hp.maplen
  have hpsz : (⟨p.toArray⟩ : ByteArray).size = p.length := by rw [← bl_len, bl_mk]
  have hln := hI.len
  have hus := hI.used
  have hlim := hI.limit
  repeat' ((conv => whnf); first | refine ⟨?_, True.intro⟩ | refine brn_t rfl ?_ | refine brn_f rfl ?_ | refine ob rfl ?_ | refine ob (by decide) ?_ | refine grow_same (Mem.le_refl _) ?_ | refine ob (Mem.le_refl _) ?_ | refine ⟨_, Mem.le_refl _, ?_⟩ | fail)
  refine (readyR_ok (D := D) a c s hsz).mono ?_
  rintro v _ ⟨rfl, rfl⟩
  (conv => whnf); refine brn (fun g => ?_) (fun g => ?_)
  · have g1 : ¬ readyE D s = 0 := by simpa using g
    have e : appendR D s p = (D, readyE D s) := by unfold appendR; rw [if_pos g1]
    repeat' ((conv => whnf); first | refine ⟨?_, True.intro⟩ | refine brn_t rfl ?_ | refine brn_f rfl ?_ | refine ob rfl ?_ | refine ob (by decide) ?_ | refine grow_same (Mem.le_refl _) ?_ | refine ob (Mem.le_refl _) ?_ | refine ⟨_, Mem.le_refl _, ?_⟩ | fail)
    refine (readyR_ok (D := D) a c s hsz).mono ?_
    rintro v _ ⟨rfl, rfl⟩
    repeat' ((conv => whnf); first | refine ⟨?_, True.intro⟩ | refine brn_t rfl ?_ | refine brn_f rfl ?_ | refine ob rfl ?_ | refine ob (by decide) ?_ | refine grow_same (Mem.le_refl _) ?_ | refine ob (Mem.le_refl _) ?_ | refine ⟨_, Mem.le_refl _, ?_⟩ | fail)
    rw [e]; exact .same (Mem.le_refl _)
  have g1 : readyE D s = 0 := by simpa using g
  repeat' ((conv => whnf); first | refine ⟨?_, True.intro⟩ | refine brn_t rfl ?_ | refine brn_f rfl ?_ | refine ob rfl ?_ | refine ob (by decide) ?_ | refine grow_same (Mem.le_refl _) ?_ | refine ob (Mem.le_refl _) ?_ | refine ⟨_, Mem.le_refl _, ?_⟩ | fail)
  refine (usedR_ok (c := c) hs hI).mono ?_
  rintro v _ ⟨rfl, rfl⟩
  repeat' ((conv => whnf); first | refine ⟨?_, True.intro⟩ | refine brn_t rfl ?_ | refine brn_f rfl ?_ | refine ob rfl ?_ | refine ob (by decide) ?_ | refine grow_same (Mem.le_refl _) ?_ | refine ob (Mem.le_refl _) ?_ | refine ⟨_, Mem.le_refl _, ?_⟩ | fail)
  refine ob (inR_i64 (by omega)) ?_
  (conv => whnf); refine brn (fun g2 => ?_) (fun g2 => ?_)
  · replace g2 := of_decide_eq_true g2
    have hfull : D.limit - usedR D.l < p.length ∨ (findR D.l s = none ∧ 64 ≤ D.l.length) := .inl (by omega)
    have e : appendR D s p = (D, 6) := by unfold appendR; rw [if_neg (by simp [g1]), if_pos hfull]
    repeat' ((conv => whnf); first | refine ⟨?_, True.intro⟩ | refine brn_t rfl ?_ | refine brn_f rfl ?_ | refine ob rfl ?_ | refine ob (by decide) ?_ | refine grow_same (Mem.le_refl _) ?_ | refine ob (Mem.le_refl _) ?_ | refine ⟨_, Mem.le_refl _, ?_⟩ | fail)
    rw [e]; exact .same (Mem.le_refl _)
  replace g2 := of_decide_eq_false g2
  repeat' ((conv => whnf); first | refine ⟨?_, True.intro⟩ | refine brn_t rfl ?_ | refine brn_f rfl ?_ | refine ob rfl ?_ | refine ob (by decide) ?_ | refine grow_same (Mem.le_refl _) ?_ | refine ob (Mem.le_refl _) ?_ | refine ⟨_, Mem.le_refl _, ?_⟩ | fail)
  refine (placeR_ok (c := c) hs hI s).mono ?_
  rintro v _ ⟨rfl, ⟨hf, rfl⟩ | ⟨i, f, hi, hx, hf, rfl⟩⟩
  · repeat' ((conv => whnf); first | refine ⟨?_, True.intro⟩ | refine brn_t rfl ?_ | refine brn_f rfl ?_ | refine ob rfl ?_ | refine ob (by decide) ?_ | refine grow_same (Mem.le_refl _) ?_ | refine ob (Mem.le_refl _) ?_ | refine ⟨_, Mem.le_refl _, ?_⟩ | fail)
    refine brn (fun g3 => ?_) (fun g3 => ?_)
    · replace g3 := of_decide_eq_true g3
      have hfull : D.limit - usedR D.l < p.length ∨ (findR D.l s = none ∧ 64 ≤ D.l.length) := .inr ⟨hf, by omega⟩
      have e : appendR D s p = (D, 6) := by unfold appendR; rw [if_neg (by simp [g1]), if_pos hfull]
      repeat' ((conv => whnf); first | refine ⟨?_, True.intro⟩ | refine brn_t rfl ?_ | refine brn_f rfl ?_ | refine ob rfl ?_ | refine ob (by decide) ?_ | refine grow_same (Mem.le_refl _) ?_ | refine ob (Mem.le_refl _) ?_ | refine ⟨_, Mem.le_refl _, ?_⟩ | fail)
      rw [e]; exact .same (Mem.le_refl _)
    · replace g3 := of_decide_eq_false g3
      have hfull : ¬ (D.limit - usedR D.l < p.length ∨ (findR D.l s = none ∧ 64 ≤ D.l.length)) := by omega
      have hfl := file_le hI s
      have e : appendR D s p = (changedR D (withR D.l ⟨s, (fileR D s).safe, (fileR D s).tail ++ ⟨p.toArray⟩⟩), 0) := by unfold appendR; rw [if_neg (by simp [g1]), if_neg hfull]
      repeat' ((conv => whnf); first | refine ⟨?_, True.intro⟩ | refine brn_t rfl ?_ | refine brn_f rfl ?_ | refine ob rfl ?_ | refine ob (by decide) ?_ | refine grow_same (Mem.le_refl _) ?_ | refine ob (Mem.le_refl _) ?_ | refine ⟨_, Mem.le_refl _, ?_⟩ | fail)
      refine (fileR_ok (c := c) hs hI s).mono ?_
      rintro v _ ⟨rfl, rfl⟩
      repeat' ((conv => whnf); first | refine ⟨?_, True.intro⟩ | refine brn_t rfl ?_ | refine brn_f rfl ?_ | refine ob rfl ?_ | refine ob (by decide) ?_ | refine grow_same (Mem.le_refl _) ?_ | refine ob (Mem.le_refl _) ?_ | refine ⟨_, Mem.le_refl _, ?_⟩ | fail)
      refine strv hp ?_
      (conv => whnf); refine ob (by rw [hpsz]; omega) ?_
      repeat' ((conv => whnf); first | refine ⟨?_, True.intro⟩ | refine brn_t rfl ?_ | refine brn_f rfl ?_ | refine ob rfl ?_ | refine ob (by decide) ?_ | refine grow_same (Mem.le_refl _) ?_ | refine ob (Mem.le_refl _) ?_ | refine ⟨_, Mem.le_refl _, ?_⟩ | fail)
      refine (withR_ok hs (by omega) ⟨s, (fileR D s).safe, (fileR D s).tail ++ ⟨p.toArray⟩⟩).mono ?_
      rintro v M1 ⟨a1, c1, rfl, hN⟩
      repeat' ((conv => whnf); first | refine ob rfl ?_ | refine grow_same hN.le ?_ | refine ob hN.le ?_ | refine ⟨?_, True.intro⟩ | fail)
      repeat' ((conv => whnf); first | refine ⟨?_, True.intro⟩ | refine brn_t rfl ?_ | refine brn_f rfl ?_ | refine ob rfl ?_ | refine ob (by decide) ?_ | refine grow_same (Mem.le_refl _) ?_ | refine ob (Mem.le_refl _) ?_ | refine ⟨_, Mem.le_refl _, ?_⟩ | fail)
      refine (changedR_ok a c hI _ a1 c1).mono ?_
      rintro v _ ⟨rfl, rfl⟩
      repeat' ((conv => whnf); first | refine ⟨?_, True.intro⟩ | refine brn_t rfl ?_ | refine brn_f rfl ?_ | refine ob rfl ?_ | refine ob (by decide) ?_ | refine grow_same (Mem.le_refl _) ?_ | refine ob (Mem.le_refl _) ?_ | refine ⟨_, Mem.le_refl _, ?_⟩ | fail)
      rw [e]
      exact ⟨a1, c1, rfl, .inr ⟨c1, hN⟩⟩
  · repeat' ((conv => whnf); first | refine ⟨?_, True.intro⟩ | refine brn_t rfl ?_ | refine brn_f rfl ?_ | refine ob rfl ?_ | refine ob (by decide) ?_ | refine grow_same (Mem.le_refl _) ?_ | refine ob (Mem.le_refl _) ?_ | refine ⟨_, Mem.le_refl _, ?_⟩ | fail)
    have hfull : ¬ (D.limit - usedR D.l < p.length ∨ (findR D.l s = none ∧ 64 ≤ D.l.length)) := by rw [hf]; simp; omega
    have hfl := file_le hI s
    have e : appendR D s p = (changedR D (withR D.l ⟨s, (fileR D s).safe, (fileR D s).tail ++ ⟨p.toArray⟩⟩), 0) := by unfold appendR; rw [if_neg (by simp [g1]), if_neg hfull]
    repeat' ((conv => whnf); first | refine ⟨?_, True.intro⟩ | refine brn_t rfl ?_ | refine brn_f rfl ?_ | refine ob rfl ?_ | refine ob (by decide) ?_ | refine grow_same (Mem.le_refl _) ?_ | refine ob (Mem.le_refl _) ?_ | refine ⟨_, Mem.le_refl _, ?_⟩ | fail)
    refine (fileR_ok (c := c) hs hI s).mono ?_
    rintro v _ ⟨rfl, rfl⟩
    repeat' ((conv => whnf); first | refine ⟨?_, True.intro⟩ | refine brn_t rfl ?_ | refine brn_f rfl ?_ | refine ob rfl ?_ | refine ob (by decide) ?_ | refine grow_same (Mem.le_refl _) ?_ | refine ob (Mem.le_refl _) ?_ | refine ⟨_, Mem.le_refl _, ?_⟩ | fail)
    refine strv hp ?_
    (conv => whnf); refine ob (by rw [hpsz]; omega) ?_
    repeat' ((conv => whnf); first | refine ⟨?_, True.intro⟩ | refine brn_t rfl ?_ | refine brn_f rfl ?_ | refine ob rfl ?_ | refine ob (by decide) ?_ | refine grow_same (Mem.le_refl _) ?_ | refine ob (Mem.le_refl _) ?_ | refine ⟨_, Mem.le_refl _, ?_⟩ | fail)
    refine (withR_ok hs (by omega) ⟨s, (fileR D s).safe, (fileR D s).tail ++ ⟨p.toArray⟩⟩).mono ?_
    rintro v M1 ⟨a1, c1, rfl, hN⟩
    repeat' ((conv => whnf); first | refine ob rfl ?_ | refine grow_same hN.le ?_ | refine ob hN.le ?_ | refine ⟨?_, True.intro⟩ | fail)
    repeat' ((conv => whnf); first | refine ⟨?_, True.intro⟩ | refine brn_t rfl ?_ | refine brn_f rfl ?_ | refine ob rfl ?_ | refine ob (by decide) ?_ | refine grow_same (Mem.le_refl _) ?_ | refine ob (Mem.le_refl _) ?_ | refine ⟨_, Mem.le_refl _, ?_⟩ | fail)
    refine (changedR_ok a c hI _ a1 c1).mono ?_
    rintro v _ ⟨rfl, rfl⟩
    repeat' ((conv => whnf); first | refine ⟨?_, True.intro⟩ | refine brn_t rfl ?_ | refine brn_f rfl ?_ | refine ob rfl ?_ | refine ob (by decide) ?_ | refine grow_same (Mem.le_refl _) ?_ | refine ob (Mem.le_refl _) ?_ | refine ⟨_, Mem.le_refl _, ?_⟩ | fail)
    rw [e]
    exact ⟨a1, c1, rfl, .inr ⟨c1, hN⟩⟩
theorem syncR_ok {a : Option Addr} {c : Nat} (hs : SrcOk M 3 a D.l.length (D.l.flatMap encF)) (hI : InvD D) (s : ByteArray) (hsz : s.size ≤ 4611686018427387904) :
    CallsM Try.prog F.ref10_Sync [refV D a c, .string s] M fun v M' => RefOut M M' a D v (syncR D s) := by
  refine fo_ref10_Sync (by simp) ?_
  have hln := hI.len
  repeat' ((conv => whnf); first | refine ⟨?_, True.intro⟩ | refine brn_t rfl ?_ | refine brn_f rfl ?_ | refine ob rfl ?_ | refine ob (by decide) ?_ | refine grow_same (Mem.le_refl _) ?_ | refine ob (Mem.le_refl _) ?_ | refine ⟨_, Mem.le_refl _, ?_⟩ | fail)
  refine (thereR_ok (c := c) hs hI s hsz).mono ?_
  rintro v _ ⟨rfl, rfl⟩
  (conv => whnf); refine brn (fun g => ?_) (fun g => ?_)
  · have g1 : ¬ thereE D s = 0 := by simpa using g
    have e : syncR D s = (D, thereE D s) := by unfold syncR; rw [if_pos g1]
    repeat' ((conv => whnf); first | refine ⟨?_, True.intro⟩ | refine brn_t rfl ?_ | refine brn_f rfl ?_ | refine ob rfl ?_ | refine ob (by decide) ?_ | refine grow_same (Mem.le_refl _) ?_ | refine ob (Mem.le_refl _) ?_ | refine ⟨_, Mem.le_refl _, ?_⟩ | fail)
    refine (thereR_ok (c := c) hs hI s hsz).mono ?_
    rintro v _ ⟨rfl, rfl⟩
    repeat' ((conv => whnf); first | refine ⟨?_, True.intro⟩ | refine brn_t rfl ?_ | refine brn_f rfl ?_ | refine ob rfl ?_ | refine ob (by decide) ?_ | refine grow_same (Mem.le_refl _) ?_ | refine ob (Mem.le_refl _) ?_ | refine ⟨_, Mem.le_refl _, ?_⟩ | fail)
    rw [e]; exact .same (Mem.le_refl _)
  have g1 : thereE D s = 0 := by simpa using g
  have hfl := file_le hI s
  have e : syncR D s = (changedR D (withR D.l ⟨s, (fileR D s).all, .empty⟩), 0) := by unfold syncR; rw [if_neg (by simp [g1])]
  repeat' ((conv => whnf); first | refine ⟨?_, True.intro⟩ | refine brn_t rfl ?_ | refine brn_f rfl ?_ | refine ob rfl ?_ | refine ob (by decide) ?_ | refine grow_same (Mem.le_refl _) ?_ | refine ob (Mem.le_refl _) ?_ | refine ⟨_, Mem.le_refl _, ?_⟩ | fail)
  refine (fileR_ok (c := c) hs hI s).mono ?_
  rintro v _ ⟨rfl, rfl⟩
  repeat' ((conv => whnf); first | refine ⟨?_, True.intro⟩ | refine brn_t rfl ?_ | refine brn_f rfl ?_ | refine ob rfl ?_ | refine ob (by decide) ?_ | refine grow_same (Mem.le_refl _) ?_ | refine ob (Mem.le_refl _) ?_ | refine ⟨_, Mem.le_refl _, ?_⟩ | fail)
  refine ob (by omega) ?_
  repeat' ((conv => whnf); first | refine ⟨?_, True.intro⟩ | refine brn_t rfl ?_ | refine brn_f rfl ?_ | refine ob rfl ?_ | refine ob (by decide) ?_ | refine grow_same (Mem.le_refl _) ?_ | refine ob (Mem.le_refl _) ?_ | refine ⟨_, Mem.le_refl _, ?_⟩ | fail)
  refine (withR_ok hs (by omega) ⟨s, (fileR D s).all, .empty⟩).mono ?_
  rintro v M1 ⟨a1, c1, rfl, hN⟩
  repeat' ((conv => whnf); first | refine ob rfl ?_ | refine grow_same hN.le ?_ | refine ob hN.le ?_ | refine ⟨?_, True.intro⟩ | fail)
  repeat' ((conv => whnf); first | refine ⟨?_, True.intro⟩ | refine brn_t rfl ?_ | refine brn_f rfl ?_ | refine ob rfl ?_ | refine ob (by decide) ?_ | refine grow_same (Mem.le_refl _) ?_ | refine ob (Mem.le_refl _) ?_ | refine ⟨_, Mem.le_refl _, ?_⟩ | fail)
  refine (changedR_ok a c hI _ a1 c1).mono ?_
  rintro v _ ⟨rfl, rfl⟩
  repeat' ((conv => whnf); first | refine ⟨?_, True.intro⟩ | refine brn_t rfl ?_ | refine brn_f rfl ?_ | refine ob rfl ?_ | refine ob (by decide) ?_ | refine grow_same (Mem.le_refl _) ?_ | refine ob (Mem.le_refl _) ?_ | refine ⟨_, Mem.le_refl _, ?_⟩ | fail)
  rw [e]
  exact ⟨a1, c1, rfl, .inr ⟨c1, hN⟩⟩
theorem cutR_ok {a : Option Addr} {c : Nat} (hs : SrcOk M 3 a D.l.length (D.l.flatMap encF)) (hI : InvD D) (s : ByteArray) (hsz : s.size ≤ 4611686018427387904) (k : Int) :
    CallsM Try.prog F.ref10_Cut [refV D a c, .string s, .int .i64 k] M fun v M' => RefOut M M' a D v (cutR D s k) := by
  refine fo_ref10_Cut (by simp) ?_
  have hln := hI.len
  repeat' ((conv => whnf); first | refine ⟨?_, True.intro⟩ | refine brn_t rfl ?_ | refine brn_f rfl ?_ | refine ob rfl ?_ | refine ob (by decide) ?_ | refine grow_same (Mem.le_refl _) ?_ | refine ob (Mem.le_refl _) ?_ | refine ⟨_, Mem.le_refl _, ?_⟩ | fail)
  refine (thereR_ok (c := c) hs hI s hsz).mono ?_
  rintro v _ ⟨rfl, rfl⟩
  (conv => whnf); refine brn (fun g => ?_) (fun g => ?_)
  · have g1 : ¬ thereE D s = 0 := by simpa using g
    have e : cutR D s k = (D, thereE D s) := by unfold cutR; rw [if_pos g1]
    repeat' ((conv => whnf); first | refine ⟨?_, True.intro⟩ | refine brn_t rfl ?_ | refine brn_f rfl ?_ | refine ob rfl ?_ | refine ob (by decide) ?_ | refine grow_same (Mem.le_refl _) ?_ | refine ob (Mem.le_refl _) ?_ | refine ⟨_, Mem.le_refl _, ?_⟩ | fail)
    refine (thereR_ok (c := c) hs hI s hsz).mono ?_
    rintro v _ ⟨rfl, rfl⟩
    repeat' ((conv => whnf); first | refine ⟨?_, True.intro⟩ | refine brn_t rfl ?_ | refine brn_f rfl ?_ | refine ob rfl ?_ | refine ob (by decide) ?_ | refine grow_same (Mem.le_refl _) ?_ | refine ob (Mem.le_refl _) ?_ | refine ⟨_, Mem.le_refl _, ?_⟩ | fail)
    rw [e]; exact .same (Mem.le_refl _)
  have g1 : thereE D s = 0 := by simpa using g
  have hfl := file_le hI s
  have has : ((fileR D s).safe ++ (fileR D s).tail).size = (fileR D s).all.size := rfl
  repeat' ((conv => whnf); first | refine ⟨?_, True.intro⟩ | refine brn_t rfl ?_ | refine brn_f rfl ?_ | refine ob rfl ?_ | refine ob (by decide) ?_ | refine grow_same (Mem.le_refl _) ?_ | refine ob (Mem.le_refl _) ?_ | refine ⟨_, Mem.le_refl _, ?_⟩ | fail)
  refine (fileR_ok (c := c) hs hI s).mono ?_
  rintro v _ ⟨rfl, rfl⟩
  repeat' ((conv => whnf); first | refine ⟨?_, True.intro⟩ | refine brn_t rfl ?_ | refine brn_f rfl ?_ | refine ob rfl ?_ | refine ob (by decide) ?_ | refine grow_same (Mem.le_refl _) ?_ | refine ob (Mem.le_refl _) ?_ | refine ⟨_, Mem.le_refl _, ?_⟩ | fail)
  refine ob (by omega) ?_
  (conv => whnf); refine brn (fun g2 => ?_) (fun g2 => ?_)
  · replace g2 := of_decide_eq_true g2
    have e : cutR D s k = (D, 1) := by unfold cutR; rw [if_neg (by simp [g1]), if_pos (by omega)]
    repeat' ((conv => whnf); first | refine ⟨?_, True.intro⟩ | refine brn_t rfl ?_ | refine brn_f rfl ?_ | refine ob rfl ?_ | refine ob (by decide) ?_ | refine grow_same (Mem.le_refl _) ?_ | refine ob (Mem.le_refl _) ?_ | refine ⟨_, Mem.le_refl _, ?_⟩ | fail)
    rw [e]; exact .same (Mem.le_refl _)
  replace g2 := of_decide_eq_false g2
  (conv => whnf); refine brn (fun g3 => ?_) (fun g3 => ?_)
  · replace g3 := of_decide_eq_true g3
    have e : cutR D s k = (D, 1) := by unfold cutR; rw [if_neg (by simp [g1]), if_pos (by omega)]
    repeat' ((conv => whnf); first | refine ⟨?_, True.intro⟩ | refine brn_t rfl ?_ | refine brn_f rfl ?_ | refine ob rfl ?_ | refine ob (by decide) ?_ | refine grow_same (Mem.le_refl _) ?_ | refine ob (Mem.le_refl _) ?_ | refine ⟨_, Mem.le_refl _, ?_⟩ | fail)
    rw [e]; exact .same (Mem.le_refl _)
  replace g3 := of_decide_eq_false g3
  have e : cutR D s k = (changedR D (withR D.l ⟨s, (fileR D s).all.extract 0 k.toNat, .empty⟩), 0) := by unfold cutR; rw [if_neg (by simp [g1]), if_neg (by omega)]
  repeat' ((conv => whnf); first | refine ⟨?_, True.intro⟩ | refine brn_t rfl ?_ | refine brn_f rfl ?_ | refine ob rfl ?_ | refine ob (by decide) ?_ | refine grow_same (Mem.le_refl _) ?_ | refine ob (Mem.le_refl _) ?_ | refine ⟨_, Mem.le_refl _, ?_⟩ | fail)
  refine ob ⟨by decide, by omega, by omega⟩ ?_
  repeat' ((conv => whnf); first | refine ⟨?_, True.intro⟩ | refine brn_t rfl ?_ | refine brn_f rfl ?_ | refine ob rfl ?_ | refine ob (by decide) ?_ | refine grow_same (Mem.le_refl _) ?_ | refine ob (Mem.le_refl _) ?_ | refine ⟨_, Mem.le_refl _, ?_⟩ | fail)
  refine (withR_ok hs (by omega) ⟨s, (fileR D s).all.extract 0 k.toNat, .empty⟩).mono ?_
  rintro v M1 ⟨a1, c1, rfl, hN⟩
  repeat' ((conv => whnf); first | refine ob rfl ?_ | refine grow_same hN.le ?_ | refine ob hN.le ?_ | refine ⟨?_, True.intro⟩ | fail)
  repeat' ((conv => whnf); first | refine ⟨?_, True.intro⟩ | refine brn_t rfl ?_ | refine brn_f rfl ?_ | refine ob rfl ?_ | refine ob (by decide) ?_ | refine grow_same (Mem.le_refl _) ?_ | refine ob (Mem.le_refl _) ?_ | refine ⟨_, Mem.le_refl _, ?_⟩ | fail)
  refine (changedR_ok a c hI _ a1 c1).mono ?_
  rintro v _ ⟨rfl, rfl⟩
  repeat' ((conv => whnf); first | refine ⟨?_, True.intro⟩ | refine brn_t rfl ?_ | refine brn_f rfl ?_ | refine ob rfl ?_ | refine ob (by decide) ?_ | refine grow_same (Mem.le_refl _) ?_ | refine ob (Mem.le_refl _) ?_ | refine ⟨_, Mem.le_refl _, ?_⟩ | fail)
  rw [e]
  exact ⟨a1, c1, rfl, .inr ⟨c1, hN⟩⟩
theorem renameR_ok {a : Option Addr} {c : Nat} (hs : SrcOk M 3 a D.l.length (D.l.flatMap encF)) (hI : InvD D) (s t : ByteArray) (hsz : s.size ≤ 4611686018427387904) (htz : t.size ≤ 4611686018427387904) :
    CallsM Try.prog F.ref10_Rename [refV D a c, .string s, .string t] M fun v M' => RefOut M M' a D v (renameR D s t) := by
  refine fo_ref10_Rename (by simp) ?_
  have hln := hI.len
  repeat' ((conv => whnf); first | refine ⟨?_, True.intro⟩ | refine brn_t rfl ?_ | refine brn_f rfl ?_ | refine ob rfl ?_ | refine ob (by decide) ?_ | refine grow_same (Mem.le_refl _) ?_ | refine ob (Mem.le_refl _) ?_ | refine ⟨_, Mem.le_refl _, ?_⟩ | fail)
  refine (readyR_ok (D := D) a c s hsz).mono ?_
  rintro v _ ⟨rfl, rfl⟩
  (conv => whnf); refine brn (fun g => ?_) (fun g => ?_)
  · have g1 : ¬ readyE D s = 0 := by simpa using g
    have e : renameR D s t = (D, readyE D s) := by unfold renameR; rw [if_pos g1]
    repeat' ((conv => whnf); first | refine ⟨?_, True.intro⟩ | refine brn_t rfl ?_ | refine brn_f rfl ?_ | refine ob rfl ?_ | refine ob (by decide) ?_ | refine grow_same (Mem.le_refl _) ?_ | refine ob (Mem.le_refl _) ?_ | refine ⟨_, Mem.le_refl _, ?_⟩ | fail)
    refine (readyR_ok (D := D) a c s hsz).mono ?_
    rintro v _ ⟨rfl, rfl⟩
    repeat' ((conv => whnf); first | refine ⟨?_, True.intro⟩ | refine brn_t rfl ?_ | refine brn_f rfl ?_ | refine ob rfl ?_ | refine ob (by decide) ?_ | refine grow_same (Mem.le_refl _) ?_ | refine ob (Mem.le_refl _) ?_ | refine ⟨_, Mem.le_refl _, ?_⟩ | fail)
    rw [e]; exact .same (Mem.le_refl _)
  have g1 : readyE D s = 0 := by simpa using g
  repeat' ((conv => whnf); first | refine ⟨?_, True.intro⟩ | refine brn_t rfl ?_ | refine brn_f rfl ?_ | refine ob rfl ?_ | refine ob (by decide) ?_ | refine grow_same (Mem.le_refl _) ?_ | refine ob (Mem.le_refl _) ?_ | refine ⟨_, Mem.le_refl _, ?_⟩ | fail)
  refine (readyR_ok (D := D) a c t htz).mono ?_
  rintro v _ ⟨rfl, rfl⟩
  (conv => whnf); refine brn (fun g2 => ?_) (fun g2 => ?_)
  · have g3 : ¬ readyE D t = 0 := by simpa using g2
    have e : renameR D s t = (D, readyE D t) := by unfold renameR; rw [if_neg (by simp [g1]), if_pos g3]
    repeat' ((conv => whnf); first | refine ⟨?_, True.intro⟩ | refine brn_t rfl ?_ | refine brn_f rfl ?_ | refine ob rfl ?_ | refine ob (by decide) ?_ | refine grow_same (Mem.le_refl _) ?_ | refine ob (Mem.le_refl _) ?_ | refine ⟨_, Mem.le_refl _, ?_⟩ | fail)
    refine (readyR_ok (D := D) a c t htz).mono ?_
    rintro v _ ⟨rfl, rfl⟩
    repeat' ((conv => whnf); first | refine ⟨?_, True.intro⟩ | refine brn_t rfl ?_ | refine brn_f rfl ?_ | refine ob rfl ?_ | refine ob (by decide) ?_ | refine grow_same (Mem.le_refl _) ?_ | refine ob (Mem.le_refl _) ?_ | refine ⟨_, Mem.le_refl _, ?_⟩ | fail)
    rw [e]; exact .same (Mem.le_refl _)
  have g3 : readyE D t = 0 := by simpa using g2
  repeat' ((conv => whnf); first | refine ⟨?_, True.intro⟩ | refine brn_t rfl ?_ | refine brn_f rfl ?_ | refine ob rfl ?_ | refine ob (by decide) ?_ | refine grow_same (Mem.le_refl _) ?_ | refine ob (Mem.le_refl _) ?_ | refine ⟨_, Mem.le_refl _, ?_⟩ | fail)
  refine (thereR_ok (c := c) hs hI s hsz).mono ?_
  rintro v _ ⟨rfl, rfl⟩
  (conv => whnf); refine brn (fun g4 => ?_) (fun g4 => ?_)
  · have g5 : ¬ thereE D s = 0 := by simpa using g4
    have e : renameR D s t = (D, thereE D s) := by unfold renameR; rw [if_neg (by simp [g1]), if_neg (by simp [g3]), if_pos g5]
    repeat' ((conv => whnf); first | refine ⟨?_, True.intro⟩ | refine brn_t rfl ?_ | refine brn_f rfl ?_ | refine ob rfl ?_ | refine ob (by decide) ?_ | refine grow_same (Mem.le_refl _) ?_ | refine ob (Mem.le_refl _) ?_ | refine ⟨_, Mem.le_refl _, ?_⟩ | fail)
    refine (thereR_ok (c := c) hs hI s hsz).mono ?_
    rintro v _ ⟨rfl, rfl⟩
    repeat' ((conv => whnf); first | refine ⟨?_, True.intro⟩ | refine brn_t rfl ?_ | refine brn_f rfl ?_ | refine ob rfl ?_ | refine ob (by decide) ?_ | refine grow_same (Mem.le_refl _) ?_ | refine ob (Mem.le_refl _) ?_ | refine ⟨_, Mem.le_refl _, ?_⟩ | fail)
    rw [e]; exact .same (Mem.le_refl _)
  have g5 : thereE D s = 0 := by simpa using g4
  repeat' ((conv => whnf); first | refine ⟨?_, True.intro⟩ | refine brn_t rfl ?_ | refine brn_f rfl ?_ | refine ob rfl ?_ | refine ob (by decide) ?_ | refine grow_same (Mem.le_refl _) ?_ | refine ob (Mem.le_refl _) ?_ | refine ⟨_, Mem.le_refl _, ?_⟩ | fail)
  refine (fileR_ok (c := c) hs hI s).mono ?_
  rintro v _ ⟨rfl, rfl⟩
  (conv => whnf); refine brn (fun g6 => ?_) (fun g6 => ?_)
  · replace g6 := of_decide_eq_true g6
    have e : renameR D s t = (D, 7) := by unfold renameR; rw [if_neg (by simp [g1]), if_neg (by simp [g3]), if_neg (by simp [g5]), if_pos (by omega)]
    repeat' ((conv => whnf); first | refine ⟨?_, True.intro⟩ | refine brn_t rfl ?_ | refine brn_f rfl ?_ | refine ob rfl ?_ | refine ob (by decide) ?_ | refine grow_same (Mem.le_refl _) ?_ | refine ob (Mem.le_refl _) ?_ | refine ⟨_, Mem.le_refl _, ?_⟩ | fail)
    rw [e]; exact .same (Mem.le_refl _)
  replace g6 := of_decide_eq_false g6
  have e : renameR D s t = (changedR D (withR (withoutR D.l s) ⟨t, (fileR D s).safe, .empty⟩), 0) := by unfold renameR; rw [if_neg (by simp [g1]), if_neg (by simp [g3]), if_neg (by simp [g5]), if_neg (by omega)]
  have hWl : (withoutR D.l s).length ≤ D.l.length := List.length_filter_le _ _
  repeat' ((conv => whnf); first | refine ⟨?_, True.intro⟩ | refine brn_t rfl ?_ | refine brn_f rfl ?_ | refine ob rfl ?_ | refine ob (by decide) ?_ | refine grow_same (Mem.le_refl _) ?_ | refine ob (Mem.le_refl _) ?_ | refine ⟨_, Mem.le_refl _, ?_⟩ | fail)
  refine (withoutR_ok hs (by omega) s).mono ?_
  rintro v M1 ⟨a1, c1, rfl, hN⟩
  repeat' ((conv => whnf); first | refine ob rfl ?_ | refine grow_same hN.le ?_ | refine ob hN.le ?_ | refine ⟨?_, True.intro⟩ | fail)
  repeat' ((conv => whnf); first | refine ⟨?_, True.intro⟩ | refine brn_t rfl ?_ | refine brn_f rfl ?_ | refine ob rfl ?_ | refine ob (by decide) ?_ | refine grow_same (Mem.le_refl _) ?_ | refine ob (Mem.le_refl _) ?_ | refine ⟨_, Mem.le_refl _, ?_⟩ | fail)
  refine (withR_ok hN.src (by omega) ⟨t, (fileR D s).safe, .empty⟩).mono ?_
  rintro v M2 ⟨a2, c2, rfl, hN2⟩
  repeat' ((conv => whnf); first | refine ob rfl ?_ | refine grow_same (Mem.le_trans hN.le hN2.le) ?_ | refine ob (Mem.le_trans hN.le hN2.le) ?_ | refine ⟨?_, True.intro⟩ | fail)
  repeat' ((conv => whnf); first | refine ⟨?_, True.intro⟩ | refine brn_t rfl ?_ | refine brn_f rfl ?_ | refine ob rfl ?_ | refine ob (by decide) ?_ | refine grow_same (Mem.le_refl _) ?_ | refine ob (Mem.le_refl _) ?_ | refine ⟨_, Mem.le_refl _, ?_⟩ | fail)
  refine (changedR_ok a c hI _ a2 c2).mono ?_
  rintro v _ ⟨rfl, rfl⟩
  repeat' ((conv => whnf); first | refine ⟨?_, True.intro⟩ | refine brn_t rfl ?_ | refine brn_f rfl ?_ | refine ob rfl ?_ | refine ob (by decide) ?_ | refine grow_same (Mem.le_refl _) ?_ | refine ob (Mem.le_refl _) ?_ | refine ⟨_, Mem.le_refl _, ?_⟩ | fail)
  rw [e]
  exact ⟨a2, c2, rfl, .inr ⟨c2, hN2.mono hN.le⟩⟩
theorem removeR_ok {a : Option Addr} {c : Nat} (hs : SrcOk M 3 a D.l.length (D.l.flatMap encF)) (hI : InvD D) (s : ByteArray) (hsz : s.size ≤ 4611686018427387904) :
    CallsM Try.prog F.ref10_Remove [refV D a c, .string s] M fun v M' => RefOut M M' a D v (removeR D s) := by
  refine fo_ref10_Remove (by simp) ?_
  have hln := hI.len
  repeat' ((conv => whnf); first | refine ⟨?_, True.intro⟩ | refine brn_t rfl ?_ | refine brn_f rfl ?_ | refine ob rfl ?_ | refine ob (by decide) ?_ | refine grow_same (Mem.le_refl _) ?_ | refine ob (Mem.le_refl _) ?_ | refine ⟨_, Mem.le_refl _, ?_⟩ | fail)
  refine (thereR_ok (c := c) hs hI s hsz).mono ?_
  rintro v _ ⟨rfl, rfl⟩
  (conv => whnf); refine brn (fun g => ?_) (fun g => ?_)
  · have g1 : ¬ thereE D s = 0 := by simpa using g
    have e : removeR D s = (D, thereE D s) := by unfold removeR; rw [if_pos g1]
    repeat' ((conv => whnf); first | refine ⟨?_, True.intro⟩ | refine brn_t rfl ?_ | refine brn_f rfl ?_ | refine ob rfl ?_ | refine ob (by decide) ?_ | refine grow_same (Mem.le_refl _) ?_ | refine ob (Mem.le_refl _) ?_ | refine ⟨_, Mem.le_refl _, ?_⟩ | fail)
    refine (thereR_ok (c := c) hs hI s hsz).mono ?_
    rintro v _ ⟨rfl, rfl⟩
    repeat' ((conv => whnf); first | refine ⟨?_, True.intro⟩ | refine brn_t rfl ?_ | refine brn_f rfl ?_ | refine ob rfl ?_ | refine ob (by decide) ?_ | refine grow_same (Mem.le_refl _) ?_ | refine ob (Mem.le_refl _) ?_ | refine ⟨_, Mem.le_refl _, ?_⟩ | fail)
    rw [e]; exact .same (Mem.le_refl _)
  have g1 : thereE D s = 0 := by simpa using g
  have e : removeR D s = (changedR D (withoutR D.l s), 0) := by unfold removeR; rw [if_neg (by simp [g1])]
  repeat' ((conv => whnf); first | refine ⟨?_, True.intro⟩ | refine brn_t rfl ?_ | refine brn_f rfl ?_ | refine ob rfl ?_ | refine ob (by decide) ?_ | refine grow_same (Mem.le_refl _) ?_ | refine ob (Mem.le_refl _) ?_ | refine ⟨_, Mem.le_refl _, ?_⟩ | fail)
  refine (withoutR_ok hs (by omega) s).mono ?_
  rintro v M1 ⟨a1, c1, rfl, hN⟩
  repeat' ((conv => whnf); first | refine ob rfl ?_ | refine grow_same hN.le ?_ | refine ob hN.le ?_ | refine ⟨?_, True.intro⟩ | fail)
  repeat' ((conv => whnf); first | refine ⟨?_, True.intro⟩ | refine brn_t rfl ?_ | refine brn_f rfl ?_ | refine ob rfl ?_ | refine ob (by decide) ?_ | refine grow_same (Mem.le_refl _) ?_ | refine ob (Mem.le_refl _) ?_ | refine ⟨_, Mem.le_refl _, ?_⟩ | fail)
  refine (changedR_ok a c hI _ a1 c1).mono ?_
  rintro v _ ⟨rfl, rfl⟩
  repeat' ((conv => whnf); first | refine ⟨?_, True.intro⟩ | refine brn_t rfl ?_ | refine brn_f rfl ?_ | refine ob rfl ?_ | refine ob (by decide) ?_ | refine grow_same (Mem.le_refl _) ?_ | refine ob (Mem.le_refl _) ?_ | refine ⟨_, Mem.le_refl _, ?_⟩ | fail)
  rw [e]
  exact ⟨a1, c1, rfl, .inr ⟨c1, hN⟩⟩
theorem readR_ok {a : Option Addr} {c : Nat} (hs : SrcOk M 3 a D.l.length (D.l.flatMap encF)) (hI : InvD D) (s : ByteArray) (hsz : s.size ≤ 4611686018427387904) :
    CallsM Try.prog F.ref10_Read [refV D a c, .string s] M fun v M' => v = .tuple #[.string (readR D s).1, .int .i64 (readR D s).2] ∧ M = M' := by
  refine fo_ref10_Read (by simp) ?_
  repeat' ((conv => whnf); first | refine ⟨?_, True.intro⟩ | refine brn_t rfl ?_ | refine brn_f rfl ?_ | refine ob rfl ?_ | refine ob (by decide) ?_ | refine grow_same (Mem.le_refl _) ?_ | refine ob (Mem.le_refl _) ?_ | refine ⟨_, Mem.le_refl _, ?_⟩ | fail)
  refine (thereR_ok (c := c) hs hI s hsz).mono ?_
  rintro v _ ⟨rfl, rfl⟩
  (conv => whnf); refine brn (fun g => ?_) (fun g => ?_)
  · have g1 : ¬ thereE D s = 0 := by simpa using g
    have e : readR D s = (.empty, thereE D s) := by unfold readR; rw [if_pos g1]
    repeat' ((conv => whnf); first | refine ⟨?_, True.intro⟩ | refine brn_t rfl ?_ | refine brn_f rfl ?_ | refine ob rfl ?_ | refine ob (by decide) ?_ | refine grow_same (Mem.le_refl _) ?_ | refine ob (Mem.le_refl _) ?_ | refine ⟨_, Mem.le_refl _, ?_⟩ | fail)
    refine (thereR_ok (c := c) hs hI s hsz).mono ?_
    rintro v _ ⟨rfl, rfl⟩
    repeat' ((conv => whnf); first | refine ⟨?_, True.intro⟩ | refine brn_t rfl ?_ | refine brn_f rfl ?_ | refine ob rfl ?_ | refine ob (by decide) ?_ | refine grow_same (Mem.le_refl _) ?_ | refine ob (Mem.le_refl _) ?_ | refine ⟨_, Mem.le_refl _, ?_⟩ | fail)
    rw [e]; exact ⟨rfl, rfl⟩
  have g1 : thereE D s = 0 := by simpa using g
  have hfl := file_le hI s
  have e : readR D s = ((fileR D s).all, 0) := by unfold readR; rw [if_neg (by simp [g1])]
  repeat' ((conv => whnf); first | refine ⟨?_, True.intro⟩ | refine brn_t rfl ?_ | refine brn_f rfl ?_ | refine ob rfl ?_ | refine ob (by decide) ?_ | refine grow_same (Mem.le_refl _) ?_ | refine ob (Mem.le_refl _) ?_ | refine ⟨_, Mem.le_refl _, ?_⟩ | fail)
  refine (fileR_ok (c := c) hs hI s).mono ?_
  rintro v _ ⟨rfl, rfl⟩
  repeat' ((conv => whnf); first | refine ⟨?_, True.intro⟩ | refine brn_t rfl ?_ | refine brn_f rfl ?_ | refine ob rfl ?_ | refine ob (by decide) ?_ | refine grow_same (Mem.le_refl _) ?_ | refine ob (Mem.le_refl _) ?_ | refine ⟨_, Mem.le_refl _, ?_⟩ | fail)
  refine ob (by omega) ?_
  repeat' ((conv => whnf); first | refine ⟨?_, True.intro⟩ | refine brn_t rfl ?_ | refine brn_f rfl ?_ | refine ob rfl ?_ | refine ob (by decide) ?_ | refine grow_same (Mem.le_refl _) ?_ | refine ob (Mem.le_refl _) ?_ | refine ⟨_, Mem.le_refl _, ?_⟩ | fail)
  rw [e]; exact ⟨rfl, rfl⟩
theorem limitR_ok {a : Option Addr} {c : Nat} (k : Int) : CallsM Try.prog F.ref10_Limit [refV D a c, .int .i64 k] M fun v M' => RefOut M M' a D v (limitR D k) := by
  refine fo_ref10_Limit (by simp) ?_
  repeat' ((conv => whnf); first | refine ⟨?_, True.intro⟩ | refine brn_t rfl ?_ | refine brn_f rfl ?_ | refine ob rfl ?_ | refine ob (by decide) ?_ | refine grow_same (Mem.le_refl _) ?_ | refine ob (Mem.le_refl _) ?_ | refine ⟨_, Mem.le_refl _, ?_⟩ | fail)
  refine brn (fun g => ?_) (fun g => ?_)
  · have e : limitR D k = (D, 1) := by unfold limitR; rw [if_pos (.inl (of_decide_eq_true g))]
    repeat' ((conv => whnf); first | refine ⟨?_, True.intro⟩ | refine brn_t rfl ?_ | refine brn_f rfl ?_ | refine ob rfl ?_ | refine ob (by decide) ?_ | refine grow_same (Mem.le_refl _) ?_ | refine ob (Mem.le_refl _) ?_ | refine ⟨_, Mem.le_refl _, ?_⟩ | fail)
    rw [e]; exact .same (Mem.le_refl _)
  (conv => whnf); refine brn (fun g1 => ?_) (fun g1 => ?_)
  · have e : limitR D k = (D, 1) := by unfold limitR; rw [if_pos (.inr (of_decide_eq_true g1))]
    repeat' ((conv => whnf); first | refine ⟨?_, True.intro⟩ | refine brn_t rfl ?_ | refine brn_f rfl ?_ | refine ob rfl ?_ | refine ob (by decide) ?_ | refine grow_same (Mem.le_refl _) ?_ | refine ob (Mem.le_refl _) ?_ | refine ⟨_, Mem.le_refl _, ?_⟩ | fail)
    rw [e]; exact .same (Mem.le_refl _)
  have e : limitR D k = (⟨k, D.l, D.left, D.down⟩, 0) := by
    unfold limitR; rw [if_neg]
    have := of_decide_eq_false g; have := of_decide_eq_false g1; omega
  repeat' ((conv => whnf); first | refine ⟨?_, True.intro⟩ | refine brn_t rfl ?_ | refine brn_f rfl ?_ | refine ob rfl ?_ | refine ob (by decide) ?_ | refine grow_same (Mem.le_refl _) ?_ | refine ob (Mem.le_refl _) ?_ | refine ⟨_, Mem.le_refl _, ?_⟩ | fail)
  rw [e]
  exact ⟨a, c, rfl, .inl ⟨rfl, rfl, Mem.le_refl _⟩⟩
theorem armR_ok {a : Option Addr} {c : Nat} (k : Int) : CallsM Try.prog F.ref10_Arm [refV D a c, .int .i64 k] M fun v M' => RefOut M M' a D v (armR D k) := by
  refine fo_ref10_Arm (by simp) ?_
  (conv => whnf)
  unfold armR
  cases hd : D.down
  · repeat' ((conv => whnf); first | refine ⟨?_, True.intro⟩ | refine brn_t rfl ?_ | refine brn_f rfl ?_ | refine ob rfl ?_ | refine ob (by decide) ?_ | refine grow_same (Mem.le_refl _) ?_ | refine ob (Mem.le_refl _) ?_ | refine ⟨_, Mem.le_refl _, ?_⟩ | fail)
    refine brn (fun g => ?_) (fun g => ?_)
    · replace g := of_decide_eq_true g
      repeat' ((conv => whnf); first | refine ⟨?_, True.intro⟩ | refine brn_t rfl ?_ | refine brn_f rfl ?_ | refine ob rfl ?_ | refine ob (by decide) ?_ | refine grow_same (Mem.le_refl _) ?_ | refine ob (Mem.le_refl _) ?_ | refine ⟨_, Mem.le_refl _, ?_⟩ | fail)
      refine ⟨a, c, ?_, .inl ⟨rfl, rfl, Mem.le_refl _⟩⟩
      unfold refV
      rw [if_neg (by simp)]
      dsimp only
      have hk : decide (k = 0) = false := decide_eq_false (by omega)
      rw [if_pos g, hk]
      rfl
    · replace g := of_decide_eq_false g
      repeat' ((conv => whnf); first | refine ⟨?_, True.intro⟩ | refine brn_t rfl ?_ | refine brn_f rfl ?_ | refine ob rfl ?_ | refine ob (by decide) ?_ | refine grow_same (Mem.le_refl _) ?_ | refine ob (Mem.le_refl _) ?_ | refine ⟨_, Mem.le_refl _, ?_⟩ | fail)
      refine ⟨a, c, ?_, .inl ⟨rfl, rfl, Mem.le_refl _⟩⟩
      unfold refV
      rw [if_neg (by simp)]
      dsimp only
      rw [if_neg g]
  · repeat' ((conv => whnf); first | refine ⟨?_, True.intro⟩ | refine brn_t rfl ?_ | refine brn_f rfl ?_ | refine ob rfl ?_ | refine ob (by decide) ?_ | refine grow_same (Mem.le_refl _) ?_ | refine ob (Mem.le_refl _) ?_ | refine ⟨_, Mem.le_refl _, ?_⟩ | fail)
    refine ⟨a, c, ?_, .inl ⟨rfl, rfl, Mem.le_refl _⟩⟩
    unfold refV
    rw [if_pos rfl]
    dsimp only
    rw [hd]
theorem crashR_ok {a : Option Addr} {c : Nat} (hs : SrcOk M 3 a D.l.length (D.l.flatMap encF)) (hI : InvD D) {ka : Option Addr} {kn kc : Nat} {keep : List Int} (hk : SrcOk M 1 ka kn (keep.map intV)) :
    CallsM Try.prog F.ref10_Crash [refV D a c, .slice ka kn kc] M fun v M' => ∃ a' c', v = refV (crashR D keep) a' c' ∧ AtR M M' a D.l a' (crashR D keep).l := by
  refine fo_ref10_Crash (by simp) ?_
  have hln := hI.len
  have hus := hI.used
  have hkl := hk.maplen
  (conv => whnf); refine new (fun b9 hb9 => ?_)
  replace hb9 : M b9 = none := hb9
  have hN : NewSl M T.portageref10_File 3 (some ⟨b9, 0, none⟩) 0 0 (([] : List FileR).flatMap encF) _ := NewSl.lit hb9 T.portageref10_File 3 0 [] rfl
  obtain ⟨M3, hM3⟩ : ∃ M3, M3 = M.setCells b9 T.portageref10_File [] := ⟨_, rfl⟩
  rw [← hM3] at hN
  (conv => whnf)
  erw [← hM3]
  refine loopF (σ := Nat × Mem × Option Addr × Nat × List FileR) [6, 5] (fun y => [(6, .int .i64 y.1), (5, .slice y.2.2.1 y.1 y.2.2.2.1)]) (fun _ => [.live T.portageref10_Disk [.v (.int .i64 D.limit), .v (.slice a D.l.length c), .v (.int .i64 D.left), .v (.bool D.down)], .live T.portageref10_Disk [.v (.int .i64 0), .v (.slice none 0 0), .v (.int .i64 0), .v (.bool false)], .gone b9]) (fun y => y.2.1)
    (fun | ⟨i, M4, a4, c4, out⟩ => i ≤ D.l.length ∧ NewSl M T.portageref10_File 3 a4 i c4 (out.flatMap encF) M4 ∧ out = (crashR D keep).l.take i) (fun y => D.l.length - y.1) ⟨0, M3, _, _, []⟩ ⟨by omega, hN, by simp⟩ ⟨(by repeat' first | exact True.intro | refine ⟨rfl, ?_⟩), (by repeat' first | exact True.intro | refine ⟨rfl, ?_⟩), Mem.le_refl _, rfl⟩ ?_
  rintro ⟨i, M4, a4, c4, out⟩ ⟨hi, hN4, hout⟩
  (conv => whnf); refine brn (fun g => ?_) (fun g => ?_)
  · have hlt : i < D.l.length := by have := of_decide_eq_true g; dsimp only at this; omega
    have hx : D.l[i]? = some D.l[i] := List.getElem?_eq_getElem hlt
    have hcx : (crashR D keep).l[i]? = some (crashF keep i D.l[i]) := by unfold crashR; dsimp only; rw [List.getElem?_mapIdx, hx]; rfl
    have hfm : D.l[i] ∈ D.l := List.getElem_mem hlt
    generalize D.l[i] = f at *
    obtain ⟨b, o, ha, hc⟩ := (hs.le hN4.le).fcells encF_len (by decide) hx
    have hkt := keptN_le keep i f
    have hfu : f.safe.size + f.tail.size ≤ 1048576 := by
      have h3 := le_sum_mem (List.mem_map.2 ⟨f, hfm, rfl⟩ : f.safe.size + f.tail.size ∈ D.l.map fun f => f.safe.size + f.tail.size)
      unfold usedR at hus
      omega
    obtain ⟨k, hkk⟩ : ∃ k, k = keptN keep i f := ⟨_, rfl⟩
    rw [← hkk] at hkt
    have hcf : crashF keep i f = ⟨f.name, f.safe ++ f.tail.extract (Int.toNat 0) ((k : Int).toNat), .empty⟩ := by unfold crashF; rw [← hkk, Int.toNat_natCast]; rfl
    have hes : (f.tail.extract (Int.toNat 0) ((k : Int).toNat)).size ≤ f.tail.size := by rw [show Int.toNat 0 = 0 from rfl, ← bl_len, ← bl_len, bl_extract, List.length_take]; omega
    obtain ⟨bM, oM, haM, hcM⟩ := hs.fcells encF_len (by decide) hx
    (conv => whnf); refine brn (fun g1 => ?_) (fun g1 => ?_)
    · have hik : i < kn := by have := of_decide_eq_true g1; dsimp only at this; omega
      obtain ⟨hky, by', oy, hay, hry⟩ := ((hk.le hN4.le)).at (i := i) hik
      have hkv : keep[i]? = some keep[i] := List.getElem?_eq_getElem hky
      generalize keep[i] = v at *
      (conv => whnf); refine ob (by first | omega | (dsimp only; omega)) ?_
      (conv => whnf); refine atp hay ?_
      (conv => whnf); refine on hry ?_
      (conv => whnf); refine brn (fun g2 => ?_) (fun g2 => ?_)
      · replace g2 := of_decide_eq_true g2
        (conv => whnf); refine ob (by first | omega | (dsimp only; omega)) ?_
        (conv => whnf); refine atp hay ?_
        (conv => whnf); refine on hry ?_
        (conv => whnf); refine ob (by first | omega | (dsimp only; omega)) ?_
        (conv => whnf); refine atp ha ?_
        (conv => whnf); refine on (hc 2 _ rfl) ?_
        (conv => whnf)
        erw [show min v (f.tail.size : Int) = (k : Int) from by
          rw [hkk]; unfold keptN; rw [hkv]; dsimp only; rw [if_pos g2]; omega]
        (conv => whnf); refine ⟨M, hN4.le, ?_⟩
        (conv => whnf); refine ob (by first | omega | (dsimp only; omega)) ?_
        (conv => whnf); refine atp haM ?_
        (conv => whnf); refine on (hcM 0 _ rfl) ?_
        (conv => whnf); refine ob (by first | omega | (dsimp only; omega)) ?_
        (conv => whnf); refine atp haM ?_
        (conv => whnf); refine on (hcM 1 _ rfl) ?_
        (conv => whnf); refine ob (by first | omega | (dsimp only; omega)) ?_
        (conv => whnf); refine atp haM ?_
        (conv => whnf); refine on (hcM 2 _ rfl) ?_
        (conv => whnf); refine ob ⟨by decide, by omega, by omega⟩ ?_
        (conv => whnf); refine ob (by omega) ?_
        repeat' ((conv => whnf); first | refine ⟨?_, True.intro⟩ | refine brn_t rfl ?_ | refine brn_f rfl ?_ | refine ob rfl ?_ | refine ob (by decide) ?_ | refine grow_same (Mem.le_refl _) ?_ | refine ob (Mem.le_refl _) ?_ | refine ⟨_, Mem.le_refl _, ?_⟩ | fail)
        refine appF M hN4 (crashF keep i f) (hcf ▸ rfl) (show (i + 1) * 48 ≤ 140737488355328 by omega) (by simp [maxLen]; omega) (by simp [Value.oneCell']) fun a6 c6 M6 hN6 hk6 => ?_
        repeat' ((conv => whnf); first | refine ob rfl ?_ | refine grow_same hN6.le ?_ | refine ob hN6.le ?_ | refine ⟨?_, True.intro⟩ | fail)
        repeat' ((conv => whnf); first | refine ⟨?_, True.intro⟩ | refine brn_t rfl ?_ | refine brn_f rfl ?_ | refine ob rfl ?_ | refine ob (by decide) ?_ | refine grow_same (Mem.le_refl _) ?_ | refine ob (Mem.le_refl _) ?_ | refine ⟨_, Mem.le_refl _, ?_⟩ | fail)
        refine ob (inR_i64 (by first | omega | (dsimp only; omega))) ?_
        (conv => whnf)
        exact ⟨⟨i + 1, M6, a6, c6, out ++ [crashF keep i f]⟩, ⟨by omega, hN6, by rw [List.take_add_one, hcx, hout]; rfl⟩, by dsimp only; omega, ⟨(by repeat' first | exact True.intro | refine ⟨rfl, ?_⟩), (by repeat' first | exact True.intro | refine ⟨rfl, ?_⟩), Mem.le_refl _, rfl⟩⟩
      · replace g2 := of_decide_eq_false g2
        have hk0 : k = 0 := by rw [hkk]; unfold keptN; rw [hkv]; dsimp only; rw [if_neg g2]
        (conv => whnf)
        erw [show (0 : Int) = (k : Int) from by rw [hk0]; rfl]
        (conv => whnf); refine ⟨M, hN4.le, ?_⟩
        (conv => whnf); refine ob (by first | omega | (dsimp only; omega)) ?_
        (conv => whnf); refine atp haM ?_
        (conv => whnf); refine on (hcM 0 _ rfl) ?_
        (conv => whnf); refine ob (by first | omega | (dsimp only; omega)) ?_
        (conv => whnf); refine atp haM ?_
        (conv => whnf); refine on (hcM 1 _ rfl) ?_
        (conv => whnf); refine ob (by first | omega | (dsimp only; omega)) ?_
        (conv => whnf); refine atp haM ?_
        (conv => whnf); refine on (hcM 2 _ rfl) ?_
        (conv => whnf); refine ob ⟨by decide, by omega, by omega⟩ ?_
        (conv => whnf); refine ob (by omega) ?_
        repeat' ((conv => whnf); first | refine ⟨?_, True.intro⟩ | refine brn_t rfl ?_ | refine brn_f rfl ?_ | refine ob rfl ?_ | refine ob (by decide) ?_ | refine grow_same (Mem.le_refl _) ?_ | refine ob (Mem.le_refl _) ?_ | refine ⟨_, Mem.le_refl _, ?_⟩ | fail)
        refine appF M hN4 (crashF keep i f) (hcf ▸ rfl) (show (i + 1) * 48 ≤ 140737488355328 by omega) (by simp [maxLen]; omega) (by simp [Value.oneCell']) fun a6 c6 M6 hN6 hk6 => ?_
        repeat' ((conv => whnf); first | refine ob rfl ?_ | refine grow_same hN6.le ?_ | refine ob hN6.le ?_ | refine ⟨?_, True.intro⟩ | fail)
        repeat' ((conv => whnf); first | refine ⟨?_, True.intro⟩ | refine brn_t rfl ?_ | refine brn_f rfl ?_ | refine ob rfl ?_ | refine ob (by decide) ?_ | refine grow_same (Mem.le_refl _) ?_ | refine ob (Mem.le_refl _) ?_ | refine ⟨_, Mem.le_refl _, ?_⟩ | fail)
        refine ob (inR_i64 (by first | omega | (dsimp only; omega))) ?_
        (conv => whnf)
        exact ⟨⟨i + 1, M6, a6, c6, out ++ [crashF keep i f]⟩, ⟨by omega, hN6, by rw [List.take_add_one, hcx, hout]; rfl⟩, by dsimp only; omega, ⟨(by repeat' first | exact True.intro | refine ⟨rfl, ?_⟩), (by repeat' first | exact True.intro | refine ⟨rfl, ?_⟩), Mem.le_refl _, rfl⟩⟩
    · have hik : ¬ i < kn := by have := of_decide_eq_false g1; dsimp only at this; omega
      have hk0 : k = 0 := by rw [hkk]; unfold keptN; rw [List.getElem?_eq_none (by omega)]
      (conv => whnf)
      erw [show (0 : Int) = (k : Int) from by rw [hk0]; rfl]
      (conv => whnf); refine ⟨M, hN4.le, ?_⟩
      (conv => whnf); refine ob (by first | omega | (dsimp only; omega)) ?_
      (conv => whnf); refine atp haM ?_
      (conv => whnf); refine on (hcM 0 _ rfl) ?_
      (conv => whnf); refine ob (by first | omega | (dsimp only; omega)) ?_
      (conv => whnf); refine atp haM ?_
      (conv => whnf); refine on (hcM 1 _ rfl) ?_
      (conv => whnf); refine ob (by first | omega | (dsimp only; omega)) ?_
      (conv => whnf); refine atp haM ?_
      (conv => whnf); refine on (hcM 2 _ rfl) ?_
      (conv => whnf); refine ob ⟨by decide, by omega, by omega⟩ ?_
      (conv => whnf); refine ob (by omega) ?_
      repeat' ((conv => whnf); first | refine ⟨?_, True.intro⟩ | refine brn_t rfl ?_ | refine brn_f rfl ?_ | refine ob rfl ?_ | refine ob (by decide) ?_ | refine grow_same (Mem.le_refl _) ?_ | refine ob (Mem.le_refl _) ?_ | refine ⟨_, Mem.le_refl _, ?_⟩ | fail)
      refine appF M hN4 (crashF keep i f) (hcf ▸ rfl) (show (i + 1) * 48 ≤ 140737488355328 by omega) (by simp [maxLen]; omega) (by simp [Value.oneCell']) fun a6 c6 M6 hN6 hk6 => ?_
      repeat' ((conv => whnf); first | refine ob rfl ?_ | refine grow_same hN6.le ?_ | refine ob hN6.le ?_ | refine ⟨?_, True.intro⟩ | fail)
      repeat' ((conv => whnf); first | refine ⟨?_, True.intro⟩ | refine brn_t rfl ?_ | refine brn_f rfl ?_ | refine ob rfl ?_ | refine ob (by decide) ?_ | refine grow_same (Mem.le_refl _) ?_ | refine ob (Mem.le_refl _) ?_ | refine ⟨_, Mem.le_refl _, ?_⟩ | fail)
      refine ob (inR_i64 (by first | omega | (dsimp only; omega))) ?_
      (conv => whnf)
      exact ⟨⟨i + 1, M6, a6, c6, out ++ [crashF keep i f]⟩, ⟨by omega, hN6, by rw [List.take_add_one, hcx, hout]; rfl⟩, by dsimp only; omega, ⟨(by repeat' first | exact True.intro | refine ⟨rfl, ?_⟩), (by repeat' first | exact True.intro | refine ⟨rfl, ?_⟩), Mem.le_refl _, rfl⟩⟩
  · have hge : i = D.l.length := by have := of_decide_eq_false g; dsimp only at this; omega
    subst hge
    have hcl : (crashR D keep).l.length = D.l.length := by have := congrArg List.length (crashR_names (D := D) keep); simpa using this
    rw [List.take_of_length_le (by omega)] at hout
    subst hout
    repeat' ((conv => whnf); first | refine ⟨?_, True.intro⟩ | refine brn_t rfl ?_ | refine brn_f rfl ?_ | refine ob rfl ?_ | refine ob (by decide) ?_ | refine grow_same (Mem.le_refl _) ?_ | refine ob (Mem.le_refl _) ?_ | refine ⟨_, Mem.le_refl _, ?_⟩ | fail)
    refine ⟨a4, c4, ?_, .inr ⟨c4, by rw [hcl]; exact hN4⟩⟩
    unfold refV
    rw [hcl]
    rfl
end Go.Proofs.Ytdjgmhifocdelaa
