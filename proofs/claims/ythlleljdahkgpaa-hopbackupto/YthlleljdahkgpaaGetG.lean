/- The document's Get. -/
import Derived.Test.YthlleljdahkgpaaGetF
import Derived.Test.YthlleljdahkgpaaPutsLaw
namespace Go.Proofs.Ythlleljdahkgpaa
open Go Go.Vm
attribute [local irreducible] Brn Ob CallsM inR LoopVC Mem.row Mem.cells Mem.setCells Mem.upd Own AppVC SrcVC StrVC NextVC New SrcOk subA NewSl Mem.textAt Mem.mapAt Mem.iterAt entryOf kfind Wr NewEls Elems
set_option maxRecDepth 10000
theorem guess_of {l : List UInt8} {x : Word} (h : x.err = 0) (hb : x.bytes = l) : guess l x.kind = x := by
  obtain ⟨hr, h4, hn4, hk1, hkn⟩ := x.zero h
  unfold guess
  by_cases hk : x.kind = 4
  · obtain ⟨⟨hc, hcl⟩, hi, hd, hn⟩ := h4 hk
    rw [Word.bytes4 hk] at hb
    rw [if_pos hk, ← hb]
    simp only [List.drop_succ_cons, List.drop_zero]
    rw [map_toNat hc]
    obtain ⟨kind, n, id, data, costs⟩ := x
    simp only at hk hi hd hn
    subst hk hi hd hn
    rfl
  · obtain ⟨hid, hcosts⟩ := hn4 hk
    rw [Word.bytesN hk] at hb
    obtain ⟨q1, q2⟩ := idOf_bytes hid
    rw [if_neg hk, ← hb, if_neg (by simp [two, q2])]
    have hd3 : (byteOf x.kind :: (two x.n ++ idBytes x.id.o x.id.d x.id.e x.id.c ++ x.data)).drop 3 = idBytes x.id.o x.id.d x.id.e x.id.c ++ x.data := rfl
    have hd9 : (byteOf x.kind :: (two x.n ++ idBytes x.id.o x.id.d x.id.e x.id.c ++ x.data)).drop 9 = x.data := rfl
    have hnum : (getNum (byteOf x.kind :: (two x.n ++ idBytes x.id.o x.id.d x.id.e x.id.c ++ x.data)) 1 2 : Int) = x.n := by
      have : getNum (byteOf x.kind :: (two x.n ++ idBytes x.id.o x.id.d x.id.e x.id.c ++ x.data)) 1 2 = num (two x.n) 0 := rfl
      rw [this]; exact num_twoOf (by omega)
    have htake : (idBytes x.id.o x.id.d x.id.e x.id.c ++ x.data).take 6 = idBytes x.id.o x.id.d x.id.e x.id.c := by rw [← q2]; simp
    have hge : getIdErr (idBytes x.id.o x.id.d x.id.e x.id.c) = 0 := getIdErr_of q2 (by rw [q1]; exact hid)
    rw [hd3, hd9, hnum, htake, getId, if_pos hge, q1]
    obtain ⟨kind, n, id, data, costs⟩ := x
    simp only at hcosts
    subst hcosts
    rfl
theorem Word.put_eq (x : Word) (pD kD pC kC) : (x.w pD kD pC kC).put = if x.err = 0 then x.bytes else [] := rfl
theorem refGet20_ok (a : Option Addr) (n c : Nat) (M : Mem) (l : List UInt8) (hs : SrcOk M 1 a n (l.map byteV)) (hn : n ≤ 2097152) (hc : n ≤ c) : CallsM Try.prog F.ref20_Get [.slice a n c] M (GetPost (parse l) M) := by
  have hl := hs.maplen
  refine fo_ref20_Get (by simp) ?_
  (conv => whnf)
  refine loopF (σ := Nat × Mem) [4] (fun x => [(4, .int .i64 (x.1 : Int))]) (fun _ => [.live T.api_Hop [.v (.int .i64 0), .v (.int .i64 0), .v (.int .i64 0), .v (.int .i64 0), .v (.int .i64 0), .v (.int .i64 0), .v (.slice none 0 0), .v (.slice none 0 0)]]) (fun x => x.2)
    (fun x => (1 ≤ x.1 ∧ x.1 ≤ 5) ∧ M.le x.2 ∧ ∀ k : Nat, 1 ≤ k → k < x.1 → ¬ ((guess l k).err = 0 ∧ (guess l k).bytes = l)) (fun x => 5 - x.1) ⟨1, M⟩ ⟨by simp, Mem.le_refl _, fun k h1 h2 => by simp only at h2; omega⟩ ⟨(by repeat' first | exact True.intro | refine ⟨rfl, ?_⟩), (by repeat' first | exact True.intro | refine ⟨rfl, ?_⟩), Mem.le_refl _, rfl⟩ ?_
  rintro ⟨k, M1⟩ ⟨hk, hle, hno⟩
  (conv => whnf); refine brn (fun g => ?_) (fun g => ?_)
  · have hk4 : k ≤ 4 := by have := of_decide_eq_true g; simp only at this; omega
    (conv => whnf); refine (guess_ok _ _ _ _ l (hs.le hle) hn hc _).mono ?_
    rintro v M2 ⟨hle2, pD, kD, pC, kC, rfl, hw, hfr⟩
    (conv => whnf); refine (putR_ok _ _ hw).mono ?_
    intro v M3 hpost
    obtain ⟨a3, c3, rfl, h3⟩ := hpost.all
    clear hpost
    have hle3 := Mem.le_trans hle (Mem.le_trans hle2 h3.le)
    dsimp only at hw h3 ⊢
    (conv => whnf); refine brn (fun g1 => ?_) (fun g1 => ?_)
    · have he : (guess l k).err = 0 := of_decide_eq_true g1
      have e3 : ((guess l k).w pD kD pC kC).put = (guess l k).bytes := by rw [Word.put_eq, if_pos he]
      have h10 := h3.src
      (conv => whnf); refine strv h10 ?_
      (conv => whnf); refine strv (hs.le hle3) ?_
      (conv => whnf); refine brn (fun g2 => ?_) (fun g2 => ?_)
      · have hb : (guess l k).bytes = l := by rw [e3] at g2; simpa using g2
        have e := bytes_parse he hb
        (conv => whnf)
        rw [e]
        exact ⟨hle3, pD, kD, pC, kC, rfl, hw.le h3.le, fun q hq => by
          have := hfr q hq
          cases hM : M q.block with
          | none => rfl
          | some o => rw [hle _ _ hM] at this; cases this⟩
      · have hb : (guess l k).bytes ≠ l := by rw [e3] at g2; simpa using g2
        (conv => whnf); refine ob (inR_i64 (by first | omega | (dsimp only; omega))) ?_
        (conv => whnf)
        refine ⟨⟨k + 1, M3⟩, ⟨by simp only; omega, hle3, fun j h1 h2 => ?_⟩, by show 5 - (k + 1) < 5 - k; omega, ⟨(by repeat' first | exact True.intro | refine ⟨rfl, ?_⟩), (by repeat' first | exact True.intro | refine ⟨rfl, ?_⟩), Mem.le_refl _, rfl⟩⟩
        by_cases hj : j = k
        · subst hj; exact fun h => hb h.2
        · exact hno j h1 (by simp only at h2 ⊢; omega)
    · have he : (guess l k).err ≠ 0 := of_decide_eq_false g1
      (conv => whnf); refine ob (inR_i64 (by first | omega | (dsimp only; omega))) ?_
      (conv => whnf)
      refine ⟨⟨k + 1, M3⟩, ⟨by simp only; omega, hle3, fun j h1 h2 => ?_⟩, by show 5 - (k + 1) < 5 - k; omega, ⟨(by repeat' first | exact True.intro | refine ⟨rfl, ?_⟩), (by repeat' first | exact True.intro | refine ⟨rfl, ?_⟩), Mem.le_refl _, rfl⟩⟩
      by_cases hj : j = k
      · subst hj; exact fun h => he h.1
      · exact hno j h1 (by simp only at h2 ⊢; omega)
  · have hk5 : k = 5 := by have := of_decide_eq_false g; simp only at this hk; omega
    subst hk5
    have e : parse l = none := by
      cases hp : parse l with
      | none => rfl
      | some x =>
        obtain ⟨h1, h2⟩ := parse_bytes hp
        obtain ⟨⟨h3, h4, _⟩, _⟩ := x.zero h1
        have h5 := guess_of h1 h2
        have h6 : ((x.kind.toNat : Nat) : Int) = x.kind := by omega
        exact absurd ⟨by rw [h6, h5]; exact h1, by rw [h6, h5]; exact h2⟩ (hno x.kind.toNat (by omega) (by simp only; omega))
    (conv => whnf)
    rw [e]
    exact ⟨hle, rfl⟩
end Go.Proofs.Ythlleljdahkgpaa
