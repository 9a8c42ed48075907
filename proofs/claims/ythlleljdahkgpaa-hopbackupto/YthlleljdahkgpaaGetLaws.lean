/- The laws HopGets and HopBack, as contracts. -/
import Derived.Test.YthlleljdahkgpaaGetG
namespace Go.Proofs.Ythlleljdahkgpaa
open Go Go.Vm
attribute [local irreducible] Brn Ob CallsM inR LoopVC Mem.row Mem.cells Mem.setCells Mem.upd Own AppVC SrcVC StrVC NextVC New SrcOk subA NewSl Mem.textAt Mem.mapAt Mem.iterAt entryOf kfind Wr NewEls Elems
set_option maxRecDepth 10000
theorem same20_ok (x : Word) (pD kD pC kC pD' kD' pC' kC') (M : Mem) (h1 : (x.w pD kD pC kC).Ok M) (h2 : (x.w pD' kD' pC' kC').Ok M) : CallsM Try.prog F.ref20_Same [(x.w pD kD pC kC).v, (x.w pD' kD' pC' kC').v] M fun v M' => v = .bool true ∧ M = M' := by
  refine fo_ref20_Same (by simp) ?_
  have hl := h1.lenC
  have hnC := h1.nC
  (conv => whnf); refine brn_f (by simp [Word.w]) ?_
  (conv => whnf); refine brn_f (by simp [Word.w]) ?_
  (conv => whnf); refine (sameR_ok _ _ _ _ _ _ _ _ _ _ _ _ _ _ _ _ _ h1.data h2.data).mono ?_
  rintro v M' ⟨rfl, rfl⟩
  (conv => whnf); refine brn_f (by simp [Word.w]) ?_
  (conv => whnf); refine brn_f (by simp [Word.w]) ?_
  (conv => whnf)
  refine loopQ (σ := Nat) [5] (fun i => [(5, .int .i64 i)]) (fun i => i ≤ x.costs.length) (fun i => x.costs.length - i) 0 (by omega) ⟨(by repeat' first | exact True.intro | refine ⟨rfl, ?_⟩), (by repeat' first | exact True.intro | refine ⟨rfl, ?_⟩), Mem.le_refl _, rfl⟩ ?_
  intro i hi
  (conv => whnf); refine brn (fun g => ?_) (fun g => ?_)
  · have g' : i < x.costs.length := by have := of_decide_eq_true g; simp only [Word.w] at this; omega
    obtain ⟨hlt, b, o, hp, hrow⟩ := h1.costs.at (i := i) g'
    obtain ⟨hlt', b', o', hp', hrow'⟩ := h2.costs.at (i := i) g'
    (conv => whnf); refine ob ⟨by omega, by simp only [Word.w]; omega⟩ ?_
    (conv => whnf); refine atp hp ?_
    (conv => whnf); refine on hrow ?_
    (conv => whnf); refine ob ⟨by omega, by simp only [Word.w]; omega⟩ ?_
    (conv => whnf); refine atp hp' ?_
    (conv => whnf); refine on hrow' ?_
    (conv => whnf); refine brn_f (by simp [Word.w]) ?_
    (conv => whnf); refine ob (inR_i64 (by simp only [Word.w] at hnC; omega)) ?_
    (conv => whnf)
    exact ⟨i + 1, by omega, by omega, ⟨(by repeat' first | exact True.intro | refine ⟨rfl, ?_⟩), (by repeat' first | exact True.intro | refine ⟨rfl, ?_⟩), Mem.le_refl _, rfl⟩⟩
  · (conv => whnf)
    exact ⟨rfl, rfl⟩
def W.word (w : W) : Word := ⟨w.kind, w.n, ⟨w.o, w.d, w.e, w.c⟩, w.data, w.costs⟩
theorem W.word_w {w : W} {M : Mem} (h : w.Ok M) : w.word.w w.pD w.kD w.pC w.kC = w := by
  have h1 := h.lenD
  have h2 := h.lenC
  obtain ⟨kind, n, o, d, e, c, pD, nD, kD, pC, nC, kC, data, costs⟩ := w
  simp only at h1 h2
  subst h1 h2
  rfl
theorem W.word_put {w : W} {M : Mem} (h : w.Ok M) : w.put = if w.word.err = 0 then w.word.bytes else [] := by
  conv => lhs; rw [← W.word_w h]
  rw [Word.put_eq]
theorem W.word_err {w : W} {M : Mem} (h : w.Ok M) : w.err = w.word.err := by
  conv => lhs; rw [← W.word_w h]
  rw [Word.werr]
theorem Word.bytes_len {x : Word} (h : x.err = 0) : 9 ≤ x.bytes.length ∧ x.bytes.length ≤ 65 := by
  obtain ⟨hr, h4, hn4, hk1, hkn⟩ := x.zero h
  by_cases hk : x.kind = 4
  · rw [Word.bytes4 hk]
    have := (h4 hk).1.2
    simp [this]
  · rw [Word.bytesN hk]
    by_cases hk' : x.kind = 1
    · have := hk1 hk'
      simp [two, idBytes]; omega
    · rw [hkn hk']; simp [two, idBytes]
theorem W.Ok.mono {w : W} {M M' : Mem} (h : w.Ok M) (hk : ∀ q o, w.pD = some q ∨ w.pC = some q → M q.block = some o → M' q.block = some o) : w.Ok M' := by
  have tr : ∀ {a : Option Addr} {n : Nat} {l : List Value}, SrcOk M 1 a n l → (∀ q o, a = some q → M q.block = some o → M' q.block = some o) → SrcOk M' 1 a n l := by
    intro a n l h hk
    unfold SrcOk at h ⊢
    obtain ⟨hl, h1 | ⟨b, o, ha, hr⟩⟩ := h
    · exact ⟨hl, .inl h1⟩
    · refine ⟨hl, .inr ⟨b, o, ha, ?_⟩⟩
      unfold Mem.row at hr ⊢
      cases hM : M b with
      | none => rw [hM] at hr; cases hr
      | some ob => rw [hM] at hr; rw [hk _ _ ha hM]; exact hr
  exact ⟨tr h.data fun q o hq => hk q o (.inl hq), tr h.costs fun q o hq => hk q o (.inr hq), h.nD, h.nC⟩
theorem back_ok' (w : W) (M : Mem) (hw : w.Ok M) (a : Option Addr) (n c : Nat) (l : List UInt8) (hs : SrcOk M 1 a n (l.map byteV)) (hn : n ≤ 2097152) (hc : n ≤ c) : CallsM Try.prog F.law20_HopBack [w.v, .slice a n c] M fun v M' => v = .bool true ∧ M.le M' := by
  refine fo_law20_HopBack (by simp) ?_
  (conv => whnf); refine (put_ok w M hw).mono ?_
  intro v M1 hpost
  obtain ⟨a1, c1, rfl, h1⟩ := hpost.all
  clear hpost
  (conv => whnf); refine brn (fun g => ?_) (fun g => ?_)
  · have he : w.word.err = 0 := by rw [← W.word_err hw]; exact of_decide_eq_true g
    have hput : w.put = w.word.bytes := by rw [W.word_put hw, if_pos he]
    have hlen := Word.bytes_len he
    have hcap : w.put.length ≤ c1 := by have := h1.wr; unfold Wr at this; exact this.2.1
    (conv => whnf); refine (get_ok _ _ _ _ w.put h1.src (by rw [hput]; omega) hcap).mono ?_
    rintro v M2 ⟨hle2, hres⟩
    rw [hput, bytes_parse he rfl] at hres
    simp only at hres
    obtain ⟨pD, kD, pC, kC, rfl, hok, -⟩ := hres
    have hleA := Mem.le_trans h1.le hle2
    (conv => whnf); refine brn_f rfl ?_
    have hsame := same20_ok w.word w.pD w.kD w.pC w.kC pD kD pC kC M2 (by rw [W.word_w hw]; exact hw.le hleA) hok
    rw [W.word_w hw] at hsame
    (conv => whnf); refine hsame.mono ?_
    rintro v M' ⟨rfl, rfl⟩
    (conv => whnf); refine brn_f rfl ?_
    (conv => whnf); refine brn_f (by rw [hput]; simp; omega) ?_
    (conv => whnf); refine brn_f (by rw [hput]; simp; omega) ?_
    (conv => whnf)
    refine (get_ok _ _ _ _ l (hs.le hleA) hn hc).mono ?_
    rintro v M3 ⟨hle3, hres⟩
    have hleB := Mem.le_trans hleA hle3
    cases hp : parse l with
    | none =>
      rw [hp] at hres
      simp only at hres
      subst hres
      (conv => whnf); refine brn_f rfl ?_
      (conv => whnf); refine (awake_ok _).mono ?_
      rintro v M4 ⟨rfl, h4⟩
      (conv => whnf)
      exact ⟨rfl, Mem.le_trans hleB h4⟩
    | some x =>
      rw [hp] at hres
      simp only at hres
      obtain ⟨pD, kD, pC, kC, rfl, hok, -⟩ := hres
      obtain ⟨hx1, hx2⟩ := parse_bytes hp
      (conv => whnf); refine brn_t rfl ?_
      (conv => whnf); refine (put_ok _ _ hok).mono ?_
      intro v M4 hpost
      obtain ⟨a4, c4, rfl, h4⟩ := hpost.all
      clear hpost
      have hput : (x.w pD kD pC kC).put = l := by rw [Word.put_eq, if_pos hx1, hx2]
      have hbr : (!decide ((x.w pD kD pC kC).err = 0)) = false := by rw [Word.werr, hx1]; rfl
      (conv => whnf); refine brn_f hbr ?_
      (conv => whnf); refine strv h4.src ?_
      (conv => whnf); refine strv (hs.le (Mem.le_trans hleB h4.le)) ?_
      (conv => whnf); refine brn_f (by rw [hput]; simp) ?_
      (conv => whnf); refine (awake_ok _).mono ?_
      rintro v M5 ⟨rfl, h5⟩
      (conv => whnf)
      exact ⟨rfl, Mem.le_trans (Mem.le_trans hleB h4.le) h5⟩
  · have hleA := h1.le
    (conv => whnf)
    refine (get_ok _ _ _ _ l (hs.le hleA) hn hc).mono ?_
    rintro v M3 ⟨hle3, hres⟩
    have hleB := Mem.le_trans hleA hle3
    cases hp : parse l with
    | none =>
      rw [hp] at hres
      simp only at hres
      subst hres
      (conv => whnf); refine brn_f rfl ?_
      (conv => whnf); refine (awake_ok _).mono ?_
      rintro v M4 ⟨rfl, h4⟩
      (conv => whnf)
      exact ⟨rfl, Mem.le_trans hleB h4⟩
    | some x =>
      rw [hp] at hres
      simp only at hres
      obtain ⟨pD, kD, pC, kC, rfl, hok, -⟩ := hres
      obtain ⟨hx1, hx2⟩ := parse_bytes hp
      (conv => whnf); refine brn_t rfl ?_
      (conv => whnf); refine (put_ok _ _ hok).mono ?_
      intro v M4 hpost
      obtain ⟨a4, c4, rfl, h4⟩ := hpost.all
      clear hpost
      have hput : (x.w pD kD pC kC).put = l := by rw [Word.put_eq, if_pos hx1, hx2]
      have hbr : (!decide ((x.w pD kD pC kC).err = 0)) = false := by rw [Word.werr, hx1]; rfl
      (conv => whnf); refine brn_f hbr ?_
      (conv => whnf); refine strv h4.src ?_
      (conv => whnf); refine strv (hs.le (Mem.le_trans hleB h4.le)) ?_
      (conv => whnf); refine brn_f (by rw [hput]; simp) ?_
      (conv => whnf); refine (awake_ok _).mono ?_
      rintro v M5 ⟨rfl, h5⟩
      (conv => whnf)
      exact ⟨rfl, Mem.le_trans (Mem.le_trans hleB h4.le) h5⟩
theorem gets_ok (M : Mem) (a : Option Addr) (n c : Nat) (l : List UInt8) (hs : SrcOk M 1 a n (l.map byteV)) (hn : n ≤ 2097152) (hc : n ≤ c) : CallsM Try.prog F.law20_HopGets [.slice a n c] M fun v M' => v = .bool true ∧ M.le M' := by
  refine fo_law20_HopGets (by simp) ?_
  (conv => whnf); refine new (fun b hb => ?_)
  replace hb : M b = none := hb
  have hN := NewSl.lit hb T.uint8 1 0 [] rfl
  (conv => whnf); refine srcv (hs.le hN.le) ?_
  (conv => whnf); refine appN M _ hN (by omega) (by simp [maxLen]; omega) (bytes_one _) fun a1 c1 M1 hN1 => ?_
  rw [show 0 + n = n by omega, List.nil_append] at hN1
  have hcap : n ≤ c1 := by have := hN1.wr; unfold Wr at this; exact this.2.1
  (conv => whnf)
  rw [show 0 + n = n by omega]
  refine (get_ok _ _ _ _ l hN1.src hn hcap).mono ?_
  rintro v M2 ⟨hle2, hres⟩
  have hleA := Mem.le_trans hN1.le hle2
  have hS : ∀ x, blk a1 x → M x = none := fun x ⟨q, hq, e⟩ => by subst e; exact (hN1.block hq).1
  have hS1 : ∀ q x, M1 q = none → blk a1 x → q ≠ x := fun q x h ⟨q', hq', e⟩ e2 => by
    obtain ⟨_, cs, h9⟩ := hN1.block hq'
    unfold Mem.has at h9
    rw [e2, ← e, h9] at h; cases h
  cases hp : parse l with
  | none =>
    rw [hp] at hres
    simp only at hres
    subst hres
    (conv => whnf)
    refine loopF (σ := Nat × Mem × List UInt8) [6] (fun x => [(6, .int .i64 x.1)]) (fun _ => _) (fun x => x.2.1)
      (fun x => x.1 ≤ n ∧ Wr x.2.1 T.uint8 1 a1 n c1 (x.2.2.map byteV) ∧ Mem.keep (blk a1) M2 x.2.1) (fun x => n - x.1) ⟨0, M2, l⟩ ⟨by omega, hN1.wr.le hle2, Mem.keep_refl _ _⟩ ⟨(by repeat' first | exact True.intro | refine ⟨rfl, ?_⟩), (by repeat' first | exact True.intro | refine ⟨rfl, ?_⟩), Mem.le_refl _, rfl⟩ ?_
    rintro ⟨i, M3, L⟩ ⟨hi, hwr, hk3⟩
    (conv => whnf); refine brn (fun h => ?_) (fun h => ?_)
    · simp only [decide_eq_true_eq] at h
      obtain ⟨b5, cs, rfl, hcells, hlen, hst⟩ := hwr.store1 (j := i) (by omega)
      obtain ⟨hl, b', o', hbo, hrow⟩ := hwr.src.at (i := i) (by omega)
      cases hbo
      (conv => whnf); refine ob (by dsimp only; omega) ?_
      (conv => whnf); refine on hrow ?_
      (conv => whnf); refine ob (by dsimp only; omega) ?_
      repeat' ((conv => whnf); first | refine ⟨?_, True.intro⟩ | refine brn_t rfl ?_ | refine brn_f rfl ?_ | refine ob rfl ?_ | refine ob (by decide) ?_ | refine ob (Mem.le_refl _) ?_ | refine ⟨_, Mem.le_refl _, ?_⟩ | fail)
      rw [sub_byte]
      refine on hcells ?_
      (conv => whnf); refine ob hlen ?_
      (conv => whnf); refine ob (inR_i64 (by dsimp only; omega)) ?_
      (conv => whnf)
      exact ⟨⟨i + 1, _, L.set i (255 - L[i])⟩, ⟨by simp only; omega, (hst _).1, Mem.keep_trans hk3 (hst _).2⟩, by show n - (i + 1) < n - i; omega, ⟨(by repeat' first | exact True.intro | refine ⟨rfl, ?_⟩), (by repeat' first | exact True.intro | refine ⟨rfl, ?_⟩), Mem.le_refl _, rfl⟩⟩
    have hle3 : M.le M3 := hk3.le hleA hS
    (conv => whnf); refine (refGet20_ok _ _ _ _ l (hs.le hle3) hn hc).mono ?_
    rintro v M4 ⟨hle4, hres4⟩
    rw [hp] at hres4
    simp only at hres4
    subst hres4
    (conv => whnf); refine (same20_ok zeroW none 0 none 0 none 0 none 0 M4 ⟨SrcOk.nil _ _, SrcOk.nil _ _, by decide, by decide⟩ ⟨SrcOk.nil _ _, SrcOk.nil _ _, by decide, by decide⟩).mono ?_
    rintro v M' ⟨rfl, rfl⟩
    (conv => whnf); refine brn_t rfl ?_
    (conv => whnf); refine brn_t rfl ?_
    (conv => whnf); refine (awake_ok _).mono ?_
    rintro v M5 ⟨rfl, h5⟩
    (conv => whnf)
    exact ⟨rfl, Mem.le_trans (Mem.le_trans hle3 hle4) h5⟩
  | some x =>
    rw [hp] at hres
    simp only at hres
    obtain ⟨pD, kD, pC, kC, rfl, hok, hfr⟩ := hres
    (conv => whnf)
    refine loopF (σ := Nat × Mem × List UInt8) [6] (fun x => [(6, .int .i64 x.1)]) (fun _ => _) (fun x => x.2.1)
      (fun x => x.1 ≤ n ∧ Wr x.2.1 T.uint8 1 a1 n c1 (x.2.2.map byteV) ∧ Mem.keep (blk a1) M2 x.2.1) (fun x => n - x.1) ⟨0, M2, l⟩ ⟨by omega, hN1.wr.le hle2, Mem.keep_refl _ _⟩ ⟨(by repeat' first | exact True.intro | refine ⟨rfl, ?_⟩), (by repeat' first | exact True.intro | refine ⟨rfl, ?_⟩), Mem.le_refl _, rfl⟩ ?_
    rintro ⟨i, M3, L⟩ ⟨hi, hwr, hk3⟩
    (conv => whnf); refine brn (fun h => ?_) (fun h => ?_)
    · simp only [decide_eq_true_eq] at h
      obtain ⟨b5, cs, rfl, hcells, hlen, hst⟩ := hwr.store1 (j := i) (by omega)
      obtain ⟨hl, b', o', hbo, hrow⟩ := hwr.src.at (i := i) (by omega)
      cases hbo
      (conv => whnf); refine ob (by dsimp only; omega) ?_
      (conv => whnf); refine on hrow ?_
      (conv => whnf); refine ob (by dsimp only; omega) ?_
      repeat' ((conv => whnf); first | refine ⟨?_, True.intro⟩ | refine brn_t rfl ?_ | refine brn_f rfl ?_ | refine ob rfl ?_ | refine ob (by decide) ?_ | refine ob (Mem.le_refl _) ?_ | refine ⟨_, Mem.le_refl _, ?_⟩ | fail)
      rw [sub_byte]
      refine on hcells ?_
      (conv => whnf); refine ob hlen ?_
      (conv => whnf); refine ob (inR_i64 (by dsimp only; omega)) ?_
      (conv => whnf)
      exact ⟨⟨i + 1, _, L.set i (255 - L[i])⟩, ⟨by simp only; omega, (hst _).1, Mem.keep_trans hk3 (hst _).2⟩, by show n - (i + 1) < n - i; omega, ⟨(by repeat' first | exact True.intro | refine ⟨rfl, ?_⟩), (by repeat' first | exact True.intro | refine ⟨rfl, ?_⟩), Mem.le_refl _, rfl⟩⟩
    have hle3 : M.le M3 := hk3.le hleA hS
    (conv => whnf); refine (refGet20_ok _ _ _ _ l (hs.le hle3) hn hc).mono ?_
    rintro v M4 ⟨hle4, hres4⟩
    rw [hp] at hres4
    simp only at hres4
    obtain ⟨pD', kD', pC', kC', rfl, hok', -⟩ := hres4
    have hok3 : (x.w pD kD pC kC).Ok M3 := hok.mono fun q o hq ho => hk3 _ _ (fun hx => hS1 _ _ (hfr q hq) hx rfl) ho
    (conv => whnf); refine (same20_ok x pD kD pC kC pD' kD' pC' kC' M4 (hok3.le hle4) hok').mono ?_
    rintro v M' ⟨rfl, rfl⟩
    (conv => whnf); refine brn_t rfl ?_
    (conv => whnf); refine brn_t rfl ?_
    (conv => whnf); refine (awake_ok _).mono ?_
    rintro v M5 ⟨rfl, h5⟩
    (conv => whnf)
    exact ⟨rfl, Mem.le_trans (Mem.le_trans hle3 hle4) h5⟩
end Go.Proofs.Ythlleljdahkgpaa
