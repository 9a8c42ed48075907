/- DiskPlays: one call of both disks. -/
import Derived.Test.YtdjgmhifocdelaaRefDiskC
import Derived.Test.YtdjgmhifocdelaaDiskV
namespace Go.Proofs.Ytdjgmhifocdelaa
open Go Go.Vm
attribute [local irreducible] Brn Ob Grow CallsM inR LoopVC Mem.row Mem.cells Mem.setCells Mem.upd Own AppVC SrcVC StrVC NextVC New SrcOk subA NewSl Mem.textAt Mem.mapAt Mem.iterAt entryOf kfind Wr NewEls Elems
set_option maxRecDepth 10000
variable {B M : Mem} {p b : Nat} {D : DiskR} {es : FsT}
/-- the program's disk and the document's are the same -/
structure Both (B M : Mem) (p b : Nat) (es : FsT) (D : DiskR) (a : Option Addr) : Prop where
  own : FreshD B M p b D es
  ref : SrcOk B 3 a D.l.length (D.l.flatMap encF)
def NamesOk (D : DiskR) : Prop := ∀ f ∈ D.l, okName f.name = true
theorem NamesOk.with (h : NamesOk D) {f : FileR} {L : List FileR} (hL : ∀ x ∈ L, x ∈ D.l) (hf : okName f.name = true) : NamesOk (changedR D (withR L f)) := fun x hx => by
  rcases withR_mem.1 hx with rfl | ⟨hx, _⟩
  · exact hf
  · exact h x (hL x hx)
theorem names_append (h : NamesOk D) (s : ByteArray) (p : List UInt8) : NamesOk (appendR D s p).1 := by
  unfold appendR
  split
  · exact h
  · rename_i h0
    split
    · exact h
    · exact h.with (fun x hx => hx) (readyE_zero (by simpa using h0)).2
theorem names_sync (h : NamesOk D) (s : ByteArray) : NamesOk (syncR D s).1 := by
  unfold syncR
  split
  · exact h
  · rename_i h0; exact h.with (fun x hx => hx) (readyE_zero (thereE_zero (by simpa using h0)).1).2
theorem names_cut (h : NamesOk D) (s : ByteArray) (k : Int) : NamesOk (cutR D s k).1 := by
  unfold cutR
  split
  · exact h
  · rename_i h0
    split
    · exact h
    · exact h.with (fun x hx => hx) (readyE_zero (thereE_zero (by simpa using h0)).1).2
theorem names_rename (h : NamesOk D) (s t : ByteArray) : NamesOk (renameR D s t).1 := by
  unfold renameR
  split
  · exact h
  · split
    · exact h
    · rename_i h1
      split
      · exact h
      · split
        · exact h
        · exact h.with (fun x hx => (withoutR_mem.1 hx).1) (readyE_zero (by simpa using h1)).2
theorem names_remove (h : NamesOk D) (s : ByteArray) : NamesOk (removeR D s).1 := by
  unfold removeR
  split
  · exact h
  · exact fun x hx => h x (withoutR_mem.1 hx).1
theorem names_limit (h : NamesOk D) (k : Int) : NamesOk (limitR D k).1 := by
  unfold limitR; split <;> exact h
theorem names_arm (h : NamesOk D) (k : Int) : NamesOk (armR D k).1 := by
  unfold armR; split <;> exact h
theorem names_crash (h : NamesOk D) (keep : List Int) : NamesOk (crashR D keep) := fun f hf => by
  have h1 : f.name ∈ D.l.map (·.name) := crashR_names (D := D) keep ▸ List.mem_map.2 ⟨f, hf, rfl⟩
  obtain ⟨g, hg, e⟩ := List.mem_map.1 h1
  rw [← e]; exact h g hg
def StepOut (B : Mem) (p : Nat) (v : Value) (M' : Mem) : Prop := ∃ B' b' es' D' a' c', v = .tuple #[refV D' a' c', .bool true] ∧ B.le B' ∧ Both B' M' p b' es' D' a' ∧ NamesOk D'
theorem Both.split {M1 : Mem} {a a1 : Option Addr} {L : List FileR} (h : Both B M p b es D a) (hA : AtR M M1 a D.l a1 L) :
    FreshD (M1.minus (diskB p b es)) M1 p b D es ∧ B.le (M1.minus (diskB p b es)) ∧ SrcOk (M1.minus (diskB p b es)) 3 a1 L.length (L.flatMap encF) := by
  have h1 := h.own.to hA.le
  exact ⟨h1.base.1, h1.base.2, hA.src h.ref h.own.le fun y hy => ⟨h.own.fresh y hy, h.own.at'.full hy⟩⟩
theorem u8_back (x : UInt8) : IntKind.u8.wrap (255 - (x.toNat : Int)) = ((255 - x : UInt8).toNat : Int) := by
  have h1 : x.toNat < 256 := x.toNat_lt
  have h2 : (255 - x : UInt8).toNat = 255 - x.toNat := by
    rw [UInt8.toNat_sub_of_le]
    · rfl
    · rw [UInt8.le_iff_toNat_le]; have : (255 : UInt8).toNat = 255 := rfl; omega
  rw [h2, IntKind.wrap_u8]
  omega
theorem u8_twice (x : UInt8) : 255 - (255 - x) = x := by
  apply UInt8.toNat_inj.1
  have h1 : x.toNat < 256 := x.toNat_lt
  have h2 : ∀ y : UInt8, (255 - y : UInt8).toNat = 255 - y.toNat := fun y => by
    have hy : y.toNat < 256 := y.toNat_lt
    rw [UInt8.toNat_sub_of_le]
    · rfl
    · rw [UInt8.le_iff_toNat_le]; have : (255 : UInt8).toNat = 255 := rfl; omega
  rw [h2, h2]; omega
theorem tup_true (D : DiskR) (a : Option Addr) (c : Nat) (e : Int) : Value.tuple #[refV D a c, .bool (decide (e = e))] = .tuple #[refV D a c, .bool true] := by simp
theorem step_ok {a : Option Addr} {c : Nat} (h : Both B M p b es D a) (hnk : NamesOk D) {cs : List Value} {x : ActD} (hx : ActR B cs x) :
    CallsM Try.prog F.law10_step [ptr p, refV D a c, .agg cs.toArray] M fun v M' => StepOut B p v M' := by
  obtain ⟨pa, pn, pc, ka, kn, kc, rfl, hp, hp1, hk, hk1, hnm, hto, hnn⟩ := hx
  refine fo_law10_step (by simp) ?_
  have hI := h.own.inv
  have hsM := h.ref.le h.own.le
  repeat' ((conv => whnf); first | refine ⟨?_, True.intro⟩ | refine brn_t rfl ?_ | refine brn_f rfl ?_ | refine ob rfl ?_ | refine ob (by decide) ?_ | refine grow_same (Mem.le_refl _) ?_ | refine ob (Mem.le_refl _) ?_ | refine ⟨_, Mem.le_refl _, ?_⟩ | fail)
  refine brn (fun g0 => ?_) (fun g0 => ?_)
  · repeat' ((conv => whnf); first | refine ⟨?_, True.intro⟩ | refine brn_t rfl ?_ | refine brn_f rfl ?_ | refine ob rfl ?_ | refine ob (by decide) ?_ | refine grow_same (Mem.le_refl _) ?_ | refine ob (Mem.le_refl _) ?_ | refine ⟨_, Mem.le_refl _, ?_⟩ | fail)
    have hnk2 := names_append hnk x.name x.p
    refine (appendR_ok (c := c) hsM hI x.name (by omega) (hp.le h.own.le)).mono ?_
    rintro v M1 ⟨a1, c1, rfl, hA⟩
    obtain ⟨h1, hB, hs1⟩ := h.split hA
    (conv => whnf); refine ⟨_, h1.le, ?_⟩
    (conv => whnf); refine ⟨?_, True.intro⟩
    (conv => whnf); refine new (fun b5 hb5 => ?_)
    replace hb5 : M1 b5 = none := hb5
    have hN5 : NewSl M1 T.uint8 1 (some ⟨b5, 0, none⟩) 0 0 (([] : List UInt8).map byteV) _ := NewSl.lit hb5 T.uint8 1 0 [] rfl
    obtain ⟨M5, hM5⟩ : ∃ M5, M5 = M1.setCells b5 T.uint8 [] := ⟨_, rfl⟩
    rw [← hM5] at hN5
    (conv => whnf)
    erw [← hM5]
    repeat' ((conv => whnf); first | refine ob rfl ?_ | refine grow_same (Mem.le_trans h1.le hN5.le) ?_ | refine ob (Mem.le_trans h1.le hN5.le) ?_ | refine ⟨?_, True.intro⟩ | fail)
    (conv => whnf)
    refine srcv (((hp.le h.own.le).le hA.le).le hN5.le) ?_
    (conv => whnf); refine appN M1 _ hN5 (by first | omega | (dsimp only; omega)) (by simp [maxLen]; omega) (bytes_one _) fun a6 c6 M6 hN6 => ?_
    have hN6' : NewSl M1 T.uint8 1 a6 (0 + pn) c6 (x.p.map byteV) M6 := by simpa using hN6
    repeat' ((conv => whnf); first | refine ob rfl ?_ | refine grow_same (Mem.le_trans h1.le hN6.le) ?_ | refine ob (Mem.le_trans h1.le hN6.le) ?_ | refine ⟨?_, True.intro⟩ | fail)
    repeat' ((conv => whnf); first | refine ⟨?_, True.intro⟩ | refine brn_t rfl ?_ | refine brn_f rfl ?_ | refine ob rfl ?_ | refine ob (by decide) ?_ | refine grow_same (Mem.le_refl _) ?_ | refine ob (Mem.le_refl _) ?_ | refine ⟨_, Mem.le_refl _, ?_⟩ | fail)
    refine (appendF (h1.to hN6.le) (by omega) hN6'.src).mono ?_
    rintro v M7 ⟨es2, rfl, h2⟩
    repeat' ((conv => whnf); first | refine ob rfl ?_ | refine grow_same h2.le ?_ | refine ob h2.le ?_ | refine ⟨?_, True.intro⟩ | fail)
    repeat' ((conv => whnf); first | refine ⟨?_, True.intro⟩ | refine brn_t rfl ?_ | refine brn_f rfl ?_ | refine ob rfl ?_ | refine ob (by decide) ?_ | refine grow_same (Mem.le_refl _) ?_ | refine ob (Mem.le_refl _) ?_ | refine ⟨_, Mem.le_refl _, ?_⟩ | fail)
    exact ⟨_, b, es2, _, a1, c1, tup_true _ _ _ _, hB, ⟨h2, hs1⟩, hnk2⟩
  (conv => whnf); refine brn (fun g1 => ?_) (fun g1 => ?_)
  · repeat' ((conv => whnf); first | refine ⟨?_, True.intro⟩ | refine brn_t rfl ?_ | refine brn_f rfl ?_ | refine ob rfl ?_ | refine ob (by decide) ?_ | refine grow_same (Mem.le_refl _) ?_ | refine ob (Mem.le_refl _) ?_ | refine ⟨_, Mem.le_refl _, ?_⟩ | fail)
    have hnk2 := names_sync hnk x.name
    refine (syncR_ok (c := c) hsM hI x.name (by omega)).mono ?_
    rintro v M1 ⟨a1, c1, rfl, hA⟩
    obtain ⟨h1, hB, hs1⟩ := h.split hA
    (conv => whnf); refine ⟨_, h1.le, ?_⟩
    (conv => whnf); refine ⟨?_, True.intro⟩
    (conv => whnf); refine (syncF h1 (by omega)).mono ?_
    rintro v M2 ⟨es2, rfl, h2⟩
    repeat' ((conv => whnf); first | refine ob rfl ?_ | refine grow_same h2.le ?_ | refine ob h2.le ?_ | refine ⟨?_, True.intro⟩ | fail)
    repeat' ((conv => whnf); first | refine ⟨?_, True.intro⟩ | refine brn_t rfl ?_ | refine brn_f rfl ?_ | refine ob rfl ?_ | refine ob (by decide) ?_ | refine grow_same (Mem.le_refl _) ?_ | refine ob (Mem.le_refl _) ?_ | refine ⟨_, Mem.le_refl _, ?_⟩ | fail)
    exact ⟨_, b, es2, _, a1, c1, tup_true _ _ _ _, hB, ⟨h2, hs1⟩, hnk2⟩
  (conv => whnf); refine brn (fun g2 => ?_) (fun g2 => ?_)
  · repeat' ((conv => whnf); first | refine ⟨?_, True.intro⟩ | refine brn_t rfl ?_ | refine brn_f rfl ?_ | refine ob rfl ?_ | refine ob (by decide) ?_ | refine grow_same (Mem.le_refl _) ?_ | refine ob (Mem.le_refl _) ?_ | refine ⟨_, Mem.le_refl _, ?_⟩ | fail)
    have hnk2 := names_cut hnk x.name x.n
    refine (cutR_ok (c := c) hsM hI x.name (by omega) x.n).mono ?_
    rintro v M1 ⟨a1, c1, rfl, hA⟩
    obtain ⟨h1, hB, hs1⟩ := h.split hA
    (conv => whnf); refine ⟨_, h1.le, ?_⟩
    (conv => whnf); refine ⟨?_, True.intro⟩
    (conv => whnf); refine (cutF h1 (by omega) x.n).mono ?_
    rintro v M2 ⟨es2, rfl, h2⟩
    repeat' ((conv => whnf); first | refine ob rfl ?_ | refine grow_same h2.le ?_ | refine ob h2.le ?_ | refine ⟨?_, True.intro⟩ | fail)
    repeat' ((conv => whnf); first | refine ⟨?_, True.intro⟩ | refine brn_t rfl ?_ | refine brn_f rfl ?_ | refine ob rfl ?_ | refine ob (by decide) ?_ | refine grow_same (Mem.le_refl _) ?_ | refine ob (Mem.le_refl _) ?_ | refine ⟨_, Mem.le_refl _, ?_⟩ | fail)
    exact ⟨_, b, es2, _, a1, c1, tup_true _ _ _ _, hB, ⟨h2, hs1⟩, hnk2⟩
  (conv => whnf); refine brn (fun g3 => ?_) (fun g3 => ?_)
  · repeat' ((conv => whnf); first | refine ⟨?_, True.intro⟩ | refine brn_t rfl ?_ | refine brn_f rfl ?_ | refine ob rfl ?_ | refine ob (by decide) ?_ | refine grow_same (Mem.le_refl _) ?_ | refine ob (Mem.le_refl _) ?_ | refine ⟨_, Mem.le_refl _, ?_⟩ | fail)
    have hnk2 := names_rename hnk x.name x.to
    refine (renameR_ok (c := c) hsM hI x.name x.to (by omega) (by omega)).mono ?_
    rintro v M1 ⟨a1, c1, rfl, hA⟩
    obtain ⟨h1, hB, hs1⟩ := h.split hA
    (conv => whnf); refine ⟨_, h1.le, ?_⟩
    (conv => whnf); refine ⟨?_, True.intro⟩
    (conv => whnf); refine (renameF h1 (by omega) (by omega)).mono ?_
    rintro v M2 ⟨es2, rfl, h2⟩
    repeat' ((conv => whnf); first | refine ob rfl ?_ | refine grow_same h2.le ?_ | refine ob h2.le ?_ | refine ⟨?_, True.intro⟩ | fail)
    repeat' ((conv => whnf); first | refine ⟨?_, True.intro⟩ | refine brn_t rfl ?_ | refine brn_f rfl ?_ | refine ob rfl ?_ | refine ob (by decide) ?_ | refine grow_same (Mem.le_refl _) ?_ | refine ob (Mem.le_refl _) ?_ | refine ⟨_, Mem.le_refl _, ?_⟩ | fail)
    exact ⟨_, b, es2, _, a1, c1, tup_true _ _ _ _, hB, ⟨h2, hs1⟩, hnk2⟩
  (conv => whnf); refine brn (fun g4 => ?_) (fun g4 => ?_)
  · repeat' ((conv => whnf); first | refine ⟨?_, True.intro⟩ | refine brn_t rfl ?_ | refine brn_f rfl ?_ | refine ob rfl ?_ | refine ob (by decide) ?_ | refine grow_same (Mem.le_refl _) ?_ | refine ob (Mem.le_refl _) ?_ | refine ⟨_, Mem.le_refl _, ?_⟩ | fail)
    have hnk2 := names_remove hnk x.name
    refine (removeR_ok (c := c) hsM hI x.name (by omega)).mono ?_
    rintro v M1 ⟨a1, c1, rfl, hA⟩
    obtain ⟨h1, hB, hs1⟩ := h.split hA
    (conv => whnf); refine ⟨_, h1.le, ?_⟩
    (conv => whnf); refine ⟨?_, True.intro⟩
    (conv => whnf); refine (removeF h1 (by omega)).mono ?_
    rintro v M2 ⟨es2, rfl, h2⟩
    repeat' ((conv => whnf); first | refine ob rfl ?_ | refine grow_same h2.le ?_ | refine ob h2.le ?_ | refine ⟨?_, True.intro⟩ | fail)
    repeat' ((conv => whnf); first | refine ⟨?_, True.intro⟩ | refine brn_t rfl ?_ | refine brn_f rfl ?_ | refine ob rfl ?_ | refine ob (by decide) ?_ | refine grow_same (Mem.le_refl _) ?_ | refine ob (Mem.le_refl _) ?_ | refine ⟨_, Mem.le_refl _, ?_⟩ | fail)
    exact ⟨_, b, es2, _, a1, c1, tup_true _ _ _ _, hB, ⟨h2, hs1⟩, hnk2⟩
  (conv => whnf); refine brn (fun g5 => ?_) (fun g5 => ?_)
  · repeat' ((conv => whnf); first | refine ⟨?_, True.intro⟩ | refine brn_t rfl ?_ | refine brn_f rfl ?_ | refine ob rfl ?_ | refine ob (by decide) ?_ | refine grow_same (Mem.le_refl _) ?_ | refine ob (Mem.le_refl _) ?_ | refine ⟨_, Mem.le_refl _, ?_⟩ | fail)
    refine (readF h.own (by omega)).mono ?_
    rintro v M1 ⟨ra, rn, rc, rfl, hrn, hN⟩
    have h1 := h.own.to hN.le
    repeat' ((conv => whnf); first | refine ⟨?_, True.intro⟩ | refine brn_t rfl ?_ | refine brn_f rfl ?_ | refine ob rfl ?_ | refine ob (by decide) ?_ | refine grow_same (Mem.le_refl _) ?_ | refine ob (Mem.le_refl _) ?_ | refine ⟨_, Mem.le_refl _, ?_⟩ | fail)
    refine (readR_ok (c := c) (hsM.le hN.le) hI x.name (by omega)).mono ?_
    rintro v _ ⟨rfl, rfl⟩
    have hrl : rn ≤ 1048576 := by
      rw [hrn, bl_len]
      unfold readR
      split
      · exact Nat.zero_le _
      · dsimp only; rw [all_size]; exact file_le hI _
    generalize readR D x.name = r at *
    obtain ⟨rb, re⟩ := r
    dsimp only at hrn hN
    repeat' ((conv => whnf); first | refine ⟨?_, True.intro⟩ | refine brn_t rfl ?_ | refine brn_f rfl ?_ | refine ob rfl ?_ | refine ob (by decide) ?_ | refine grow_same (Mem.le_refl _) ?_ | refine ob (Mem.le_refl _) ?_ | refine ⟨_, Mem.le_refl _, ?_⟩ | fail)
    refine loopF (σ := Nat × Mem) [22] (fun y => [(22, .int .i64 y.1)]) (fun _ => [.live T.portageref10_Disk [.v (.int .i64 D.limit), .v (.slice a D.l.length c), .v (.int .i64 D.left), .v (.bool D.down)], .live T.portagelaw10_Act [.v (.int .i64 x.kind), .v (.string x.name), .v (.string x.to), .v (.slice pa pn pc), .v (.int .i64 x.n), .v (.slice ka kn kc)], .live T.portageref10_Disk [.v (.int .i64 0), .v (.slice none 0 0), .v (.int .i64 0), .v (.bool false)]]) (fun y => y.2)
      (fun | ⟨i, Mc⟩ => i ≤ rn ∧ NewSl M T.uint8 1 ra rn rc ((bl rb).map byteV) Mc) (fun y => rn - y.1) ⟨0, M1⟩ ⟨by omega, hN⟩ ⟨(by repeat' first | exact True.intro | refine ⟨rfl, ?_⟩), (by repeat' first | exact True.intro | refine ⟨rfl, ?_⟩), Mem.le_refl _, rfl⟩ ?_
    rintro ⟨i, Mc⟩ ⟨hi, hNc⟩
    (conv => whnf); refine brn (fun gi => ?_) (fun gi => ?_)
    rotate_left
    · (conv => whnf)
      repeat' ((conv => whnf); first | refine ⟨?_, True.intro⟩ | refine brn_t rfl ?_ | refine brn_f rfl ?_ | refine ob rfl ?_ | refine ob (by decide) ?_ | refine grow_same (Mem.le_refl _) ?_ | refine ob (Mem.le_refl _) ?_ | refine ⟨_, Mem.le_refl _, ?_⟩ | fail)
      refine strv hNc.src ?_
      (conv => whnf); refine brn_t (decide_eq_true (mk_bl _)) ?_
      repeat' ((conv => whnf); first | refine ⟨?_, True.intro⟩ | refine brn_t rfl ?_ | refine brn_f rfl ?_ | refine ob rfl ?_ | refine ob (by decide) ?_ | refine grow_same (Mem.le_refl _) ?_ | refine ob (Mem.le_refl _) ?_ | refine ⟨_, Mem.le_refl _, ?_⟩ | fail)
      have h5 := h.own.to hNc.le
      exact ⟨B, b, es, D, a, c, tup_true _ _ _ _, Mem.le_refl _, ⟨h5, h.ref⟩, hnk⟩
    have hlt : i < rn := by have := of_decide_eq_true gi; dsimp only at this; omega
    (conv => whnf); refine strv hNc.src ?_
    (conv => whnf); refine brn_t (decide_eq_true (mk_bl _)) ?_
    obtain ⟨L, hL⟩ : ∃ L, L = bl rb := ⟨_, rfl⟩
    rw [← hL] at hNc hrn
    have hil : i < L.length := by omega
    obtain ⟨y, hy⟩ : ∃ y, L[i]? = some y := ⟨_, List.getElem?_eq_getElem hil⟩
    obtain ⟨b6, cs6, rfl, hb6, hcell6, hlen6, hst6⟩ := hNc.store1 hlt
    have hr6 : Mc.row b6 (0 + i * 1) 1 = some [byteV y] := by
      obtain ⟨hl2, b7, o7, e7, hr7⟩ := hNc.src.at (i := i) hlt
      cases e7
      rw [List.getElem?_eq_getElem hl2] at hy
      cases hy; exact hr7
    (conv => whnf); refine ob (by first | omega | (dsimp only; omega)) ?_
    (conv => whnf); refine on hr6 ?_
    (conv => whnf)
    rw [u8_back y]
    (conv => whnf); refine ob (by first | omega | (dsimp only; omega)) ?_
    (conv => whnf); refine on hcell6 ?_
    (conv => whnf); refine ob hlen6 ?_
    have hN7 := (hst6 (255 - y)).1
    obtain ⟨M7, hM7⟩ : ∃ M7, M7 = Mc.setCells b6 T.uint8 (splice cs6 (0 + i * 1) [byteV (255 - y)]) := ⟨_, rfl⟩
    rw [← hM7] at hN7
    (conv => whnf)
    erw [← hM7]
    have hyL : (L.set i (255 - y))[i]? = some (255 - y) := by simp [hil]
    have hil2 : i < (L.set i (255 - y)).length := by simpa using hil
    obtain ⟨b8, cs8, e8, hb8, hcell8, hlen8, hst8⟩ := hN7.store1 hlt
    cases e8
    have hr8 : M7.row b6 (0 + i * 1) 1 = some [byteV (255 - y)] := by
      obtain ⟨hl2, b9, o9, e9, hr9⟩ := hN7.src.at (i := i) hlt
      cases e9
      rw [List.getElem?_eq_getElem hl2, Option.some.injEq] at hyL
      rw [hyL] at hr9; exact hr9
    refine ob (by first | omega | (dsimp only; omega)) ?_
    (conv => whnf); refine on hr8 ?_
    (conv => whnf)
    rw [u8_back (255 - y), u8_twice]
    (conv => whnf); refine ob (by first | omega | (dsimp only; omega)) ?_
    (conv => whnf); refine on hcell8 ?_
    (conv => whnf); refine ob hlen8 ?_
    have hN9 := (hst8 y).1
    have hback : (L.set i (255 - y)).set i y = L := by
      rw [List.set_set]
      exact List.ext_getElem? fun j => by
        by_cases e : j = i
        · subst e; rw [List.getElem?_set_self hil, hy]
        · rw [List.getElem?_set_ne (fun e' => e e'.symm)]
    rw [hback] at hN9
    obtain ⟨M9, hM9⟩ : ∃ M9, M9 = M7.setCells b6 T.uint8 (splice cs8 (0 + i * 1) [byteV y]) := ⟨_, rfl⟩
    rw [← hM9] at hN9
    (conv => whnf)
    erw [← hM9]
    refine ob (inR_i64 (by first | omega | (dsimp only; omega))) ?_
    (conv => whnf)
    exact ⟨⟨i + 1, M9⟩, ⟨by omega, hL ▸ hN9⟩, by dsimp only; omega, ⟨(by repeat' first | exact True.intro | refine ⟨rfl, ?_⟩), (by repeat' first | exact True.intro | refine ⟨rfl, ?_⟩), Mem.le_refl _, rfl⟩⟩
  (conv => whnf); refine brn (fun g6 => ?_) (fun g6 => ?_)
  · repeat' ((conv => whnf); first | refine ⟨?_, True.intro⟩ | refine brn_t rfl ?_ | refine brn_f rfl ?_ | refine ob rfl ?_ | refine ob (by decide) ?_ | refine grow_same (Mem.le_refl _) ?_ | refine ob (Mem.le_refl _) ?_ | refine ⟨_, Mem.le_refl _, ?_⟩ | fail)
    have hnk2 := names_limit hnk x.n
    refine (limitR_ok (a := a) (c := c) x.n).mono ?_
    rintro v M1 ⟨a1, c1, rfl, hA⟩
    obtain ⟨h1, hB, hs1⟩ := h.split hA
    (conv => whnf); refine ⟨_, h1.le, ?_⟩
    (conv => whnf); refine ⟨?_, True.intro⟩
    (conv => whnf); refine (limitF h1 x.n).mono ?_
    rintro v M2 ⟨es2, rfl, h2⟩
    repeat' ((conv => whnf); first | refine ob rfl ?_ | refine grow_same h2.le ?_ | refine ob h2.le ?_ | refine ⟨?_, True.intro⟩ | fail)
    repeat' ((conv => whnf); first | refine ⟨?_, True.intro⟩ | refine brn_t rfl ?_ | refine brn_f rfl ?_ | refine ob rfl ?_ | refine ob (by decide) ?_ | refine grow_same (Mem.le_refl _) ?_ | refine ob (Mem.le_refl _) ?_ | refine ⟨_, Mem.le_refl _, ?_⟩ | fail)
    exact ⟨_, b, es2, _, a1, c1, tup_true _ _ _ _, hB, ⟨h2, hs1⟩, hnk2⟩
  (conv => whnf); refine brn (fun g7 => ?_) (fun g7 => ?_)
  · repeat' ((conv => whnf); first | refine ⟨?_, True.intro⟩ | refine brn_t rfl ?_ | refine brn_f rfl ?_ | refine ob rfl ?_ | refine ob (by decide) ?_ | refine grow_same (Mem.le_refl _) ?_ | refine ob (Mem.le_refl _) ?_ | refine ⟨_, Mem.le_refl _, ?_⟩ | fail)
    have hnk2 := names_arm hnk x.n
    refine (armR_ok (a := a) (c := c) x.n).mono ?_
    rintro v M1 ⟨a1, c1, rfl, hA⟩
    obtain ⟨h1, hB, hs1⟩ := h.split hA
    (conv => whnf); refine ⟨_, h1.le, ?_⟩
    (conv => whnf); refine ⟨?_, True.intro⟩
    (conv => whnf); refine (armF h1 hnn.2).mono ?_
    rintro v M2 ⟨es2, rfl, h2⟩
    repeat' ((conv => whnf); first | refine ob rfl ?_ | refine grow_same h2.le ?_ | refine ob h2.le ?_ | refine ⟨?_, True.intro⟩ | fail)
    repeat' ((conv => whnf); first | refine ⟨?_, True.intro⟩ | refine brn_t rfl ?_ | refine brn_f rfl ?_ | refine ob rfl ?_ | refine ob (by decide) ?_ | refine grow_same (Mem.le_refl _) ?_ | refine ob (Mem.le_refl _) ?_ | refine ⟨_, Mem.le_refl _, ?_⟩ | fail)
    exact ⟨_, b, es2, _, a1, c1, tup_true _ _ _ _, hB, ⟨h2, hs1⟩, hnk2⟩
  (conv => whnf); refine brn (fun g8 => ?_) (fun g8 => ?_)
  · obtain ⟨h0, hB0⟩ := h.own.base
    (conv => whnf); refine ⟨_, h0.le, ?_⟩
    (conv => whnf); refine ⟨?_, ?_, True.intro⟩
    · (conv => whnf); refine (crashR_ok (c := c) hsM hI (hk.le h.own.le)).mono ?_
      rintro v M1 ⟨a1, c1, rfl, hA⟩
      obtain ⟨h1, hB, hs1⟩ := h.split hA
      repeat' ((conv => whnf); first | refine ob rfl ?_ | refine grow_same (Mem.le_trans h0.le hA.le) ?_ | refine ob (Mem.le_trans h0.le hA.le) ?_ | refine ⟨?_, True.intro⟩ | fail)
      (conv => whnf); refine new (fun b5 hb5 => ?_)
      replace hb5 : M1 b5 = none := hb5
      have hN5 : NewSl M1 T.int 1 (some ⟨b5, 0, none⟩) 0 0 (([] : List Int).map intV) _ := NewSl.lit hb5 T.int 1 0 [] rfl
      obtain ⟨M5, hM5⟩ : ∃ M5, M5 = M1.setCells b5 T.int [] := ⟨_, rfl⟩
      rw [← hM5] at hN5
      (conv => whnf)
      erw [← hM5]
      repeat' ((conv => whnf); first | refine ⟨?_, True.intro⟩ | fail)
      (conv => whnf); refine srcv (((hk.le h.own.le).le hA.le).le hN5.le) ?_
      (conv => whnf); refine appN M1 _ hN5 (by first | omega | (dsimp only; omega)) (by simp [maxLen]; omega) (by simp [Value.oneCell']) fun a6 c6 M6 hN6 => ?_
      have hN6' : NewSl M1 T.int 1 a6 (0 + kn) c6 (x.keep.map intV) M6 := by simpa using hN6
      replace hN6 := hN6'
      have h6 := h1.to hN6.le
      obtain ⟨h6b, hB6⟩ := h6.base
      have hs6b := hN6.src.minus (S := diskB p b es) fun q hq hb => h1.at'.full hb (hN6.block hq).1
      have hs6 := hs1.le (Mem.le_minus (Mem.le_trans (Mem.minus_le _ _) hN6.le) (fun y hy => Mem.minus_in hy) : (M1.minus (diskB p b es)).le (M6.minus (diskB p b es)))
      repeat' ((conv => whnf); first | refine ⟨?_, True.intro⟩ | refine brn_t rfl ?_ | refine brn_f rfl ?_ | refine ob rfl ?_ | refine ob (by decide) ?_ | refine grow_same (Mem.le_refl _) ?_ | refine ob (Mem.le_refl _) ?_ | refine ⟨_, Mem.le_refl _, ?_⟩ | fail)
      refine (crashFr h6b hs6b (by omega)).mono ?_
      rintro v M7 ⟨es2, rfl, h2⟩
      repeat' ((conv => whnf); first | refine ⟨?_, True.intro⟩ | refine brn_t rfl ?_ | refine brn_f rfl ?_ | refine ob rfl ?_ | refine ob (by decide) ?_ | refine grow_same (Mem.le_refl _) ?_ | refine ob (Mem.le_refl _) ?_ | refine ⟨_, Mem.le_refl _, ?_⟩ | fail)
      exact ⟨_, b, es2, _, a1, c1, rfl, Mem.le_trans hB hB6, ⟨h2, hs6⟩, names_crash hnk x.keep⟩
    · (conv => whnf); refine new (fun b5 hb5 => ?_)
      replace hb5 : M b5 = none := hb5
      have hN5 : NewSl M T.int 1 (some ⟨b5, 0, none⟩) 0 0 (([] : List Int).map intV) _ := NewSl.lit hb5 T.int 1 0 [] rfl
      obtain ⟨M5, hM5⟩ : ∃ M5, M5 = M.setCells b5 T.int [] := ⟨_, rfl⟩
      rw [← hM5] at hN5
      (conv => whnf)
      erw [← hM5]
      have h5 : Both B M5 p b es D a := ⟨h.own.to hN5.le, h.ref⟩
      have hb5M : M5 b5 ≠ none := by rw [hM5]; simp [Mem.setCells, Mem.upd]
      have hb5B : B b5 = none := by
        cases e : B b5 with
        | none => rfl
        | some z => rw [h.own.le _ _ e] at hb5; cases hb5
      (conv => whnf); refine ⟨?_, True.intro⟩
      (conv => whnf); refine (crashR_ok (c := c) (hsM.le hN5.le) hI ((hk.le h.own.le).le hN5.le)).mono ?_
      rintro v Mz ⟨a1, c1, rfl, hA⟩
      have hz := h5.own.to hA.le
      have hsz := hA.src (S := fun y => y = b5 ∨ diskB p b es y) h5.ref h5.own.le fun y hy => by
        rcases hy with rfl | hy
        · exact ⟨hb5B, hb5M⟩
        · exact ⟨h.own.fresh y hy, h5.own.at'.full hy⟩
      have hNz := (hN5.up hA.le).rebase2 (Mem.le_refl Mz) (X := fun y => y = b5) (fun y ⟨q, hq, e⟩ => by cases hq; exact e.symm)
      have hat := hz.at'.minus (S := fun y => y = b5) fun y hy e => by subst e; exact h.own.at'.full hy hb5
      obtain ⟨M1, hM1⟩ : ∃ M1, M1 = Mz.minus fun y => y = b5 := ⟨_, rfl⟩
      have hkz : SrcOk Mz 1 ka kn (x.keep.map intV) := ((hk.le h.own.le).le hN5.le).le hA.le
      have hBM1 : B.le M1 := by rw [hM1]; exact Mem.le_minus hz.le fun y e => by subst e; exact hb5B
      have hle1z : (Mz.minus fun y => y = b5 ∨ diskB p b es y).le (M1.minus (diskB p b es)) := fun y o hy => by
        rw [hM1]
        unfold Mem.minus at hy ⊢
        split at hy
        · cases hy
        · rename_i hn
          rw [if_neg (fun h => hn (.inr h)), if_neg (fun h => hn (.inl h))]; exact hy
      rw [← hM1] at hNz hat
      have hs1 := hsz.le hle1z
      have h1 : FreshD (M1.minus (diskB p b es)) M1 p b D es := ⟨Mem.minus_le _ _, hat, h.own.rel, h.own.inv, fun _ hy => Mem.minus_in hy⟩
      have hB : B.le (M1.minus (diskB p b es)) := Mem.le_minus hBM1 h.own.fresh
      repeat' ((conv => whnf); first | refine ob rfl ?_ | refine grow_same (Mem.le_trans h0.le (Mem.le_trans hN5.le hA.le)) ?_ | refine ob (Mem.le_trans h0.le (Mem.le_trans hN5.le hA.le)) ?_ | refine ⟨?_, True.intro⟩ | fail)
      repeat' ((conv => whnf); first | refine ⟨?_, True.intro⟩ | fail)
      (conv => whnf); refine srcv hkz ?_
      (conv => whnf); refine appN M1 _ hNz (by first | omega | (dsimp only; omega)) (by simp [maxLen]; omega) (by simp [Value.oneCell']) fun a6 c6 M6 hN6 => ?_
      have hN6' : NewSl M1 T.int 1 a6 (0 + kn) c6 (x.keep.map intV) M6 := by simpa using hN6
      replace hN6 := hN6'
      have h6 := h1.to hN6.le
      obtain ⟨h6b, hB6⟩ := h6.base
      have hs6b := hN6.src.minus (S := diskB p b es) fun q hq hb => h1.at'.full hb (hN6.block hq).1
      have hs6 := hs1.le (Mem.le_minus (Mem.le_trans (Mem.minus_le _ _) hN6.le) (fun y hy => Mem.minus_in hy) : (M1.minus (diskB p b es)).le (M6.minus (diskB p b es)))
      repeat' ((conv => whnf); first | refine ⟨?_, True.intro⟩ | refine brn_t rfl ?_ | refine brn_f rfl ?_ | refine ob rfl ?_ | refine ob (by decide) ?_ | refine grow_same (Mem.le_refl _) ?_ | refine ob (Mem.le_refl _) ?_ | refine ⟨_, Mem.le_refl _, ?_⟩ | fail)
      refine (crashFr h6b hs6b (by omega)).mono ?_
      rintro v M7 ⟨es2, rfl, h2⟩
      repeat' ((conv => whnf); first | refine ⟨?_, True.intro⟩ | refine brn_t rfl ?_ | refine brn_f rfl ?_ | refine ob rfl ?_ | refine ob (by decide) ?_ | refine grow_same (Mem.le_refl _) ?_ | refine ob (Mem.le_refl _) ?_ | refine ⟨_, Mem.le_refl _, ?_⟩ | fail)
      exact ⟨_, b, es2, _, a1, c1, rfl, Mem.le_trans hB hB6, ⟨h2, hs6⟩, names_crash hnk x.keep⟩
  · repeat' ((conv => whnf); first | refine ⟨?_, True.intro⟩ | refine brn_t rfl ?_ | refine brn_f rfl ?_ | refine ob rfl ?_ | refine ob (by decide) ?_ | refine grow_same (Mem.le_refl _) ?_ | refine ob (Mem.le_refl _) ?_ | refine ⟨_, Mem.le_refl _, ?_⟩ | fail)
    exact ⟨B, b, es, D, a, c, rfl, Mem.le_refl _, h, hnk⟩
end Go.Proofs.Ytdjgmhifocdelaa
