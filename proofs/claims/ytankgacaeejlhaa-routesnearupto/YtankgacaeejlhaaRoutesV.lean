/- Tables of ways: a call of the table and of the document's. -/
import Derived.Test.YtankgacaeejlhaaRoutesU
namespace Go.Proofs.Ytankgacaeejlhaa
open Go Go.Vm
attribute [local irreducible] Brn Ob CallsM inR LoopVC Mem.row Mem.cells Mem.setCells Mem.upd Own AppVC SrcVC StrVC NextVC New SrcOk subA NewSl Mem.textAt Mem.mapAt Mem.iterAt entryOf kfind Wr NewEls Elems
set_option maxRecDepth 10000
variable {M : Mem}
theorem RefAt.keep {M M' : Mem} {κ α : Type} {kv : κ → Value} {vv : α → Value} {x : Nat} {m0 : List (κ × α)} {q : Ref} {nb : List Int} {sr : List (Int × Int)} {lr : List (Int × Hd)} (h : RefAt M q nb sr lr) (hx : MapAt kv vv M x m0) (hk : Mem.keep (one x) M M') : RefAt M' q nb sr lr := by
  obtain ⟨h1, h2, h3, h4, h5, h6⟩ := h
  refine ⟨hx.src h1 hk, ?_, ?_, h4, h5, h6⟩
  · unfold Elems at h2 ⊢
    obtain ⟨css, k1, kr⟩ := h2
    exact ⟨css, hx.src k1 hk, kr⟩
  · unfold Elems at h3 ⊢
    obtain ⟨css, k1, k2, k3, k4, k5⟩ := h3
    exact ⟨css, hx.src k1 hk, k2, k3, k4, fun i cs y hi hy => by
      obtain ⟨a, c, e, hs⟩ := k5 i cs y hi hy
      exact ⟨a, c, e, hx.src hs hk⟩⟩
/-- both tables lie in memory, and say the same -/
structure Joint (M : Mem) (p b1 b2 : Nat) (a : Option Addr) (n c : Nat) (me age : Int) (nb : List Int) (q : Ref) (k : Nat) (st : List (Int × Int)) (m : List (Int × Hd)) (sr : List (Int × Int)) (lr : List (Int × Hd)) : Prop where
  tab : TabAt M p b1 b2 a n c me age nb st m
  ref : RefAt M q nb sr lr
  same : SameT nb st m sr lr
  ok : okNb me (-1) nb = true
  age : 1 ≤ age ∧ age ≤ 64
  n : n ≤ 4194304
  few : sr.length ≤ k ∧ lr.length ≤ k
@[reducible] def two (b1 b2 : Nat) : Nat → Prop := fun x => x = b1 ∨ x = b2
theorem keep1 {M M' : Mem} {b1 b2 : Nat} (h : Mem.keep (one b1) M M') : Mem.keep (two b1 b2) M M' := Mem.keep_mono h fun _ e => .inl e
theorem keep2 {M M' : Mem} {b1 b2 : Nat} (h : Mem.keep (one b2) M M') : Mem.keep (two b1 b2) M M' := Mem.keep_mono h fun _ e => .inr e
variable {p b1 b2 : Nat} {a : Option Addr} {n c : Nat} {me age : Int} {nb : List Int} {q : Ref} {k : Nat} {st : List (Int × Int)} {m : List (Int × Hd)} {sr : List (Int × Int)} {lr : List (Int × Hd)}
theorem Joint.lenm (h : Joint M p b1 b2 a n c me age nb q k st m sr lr) : m.length ≤ k := by rw [h.same.len]; exact h.few.2
theorem setR_len (sr : List (Int × Int)) (d x : Int) : (setR sr d x).length ≤ sr.length + 1 := by
  unfold setR
  have := adel_len sr d
  split
  · simp; omega
  · simp; omega
theorem play_ok (h : Joint M p b1 b2 a n c me age nb q k st m sr lr) (hk : k ≤ 4194000) (kind d x : Int) {a1 : Option Addr} {n1 c1 : Nat} {cl : List Int} (hs : SrcOk M 1 a1 n1 (cl.map intV)) (hn1 : n1 ≤ 1048576) :
    CallsM Try.prog F.law18_play [ptr p, q.v me age, .agg #[.int .i64 kind, .int .i64 d, .int .i64 x, .slice a1 n1 c1]] M fun v M' =>
      ∃ q' st' m' sr' lr', v = .tuple #[q'.v me age, .bool true] ∧ Mem.keep (two b1 b2) M M' ∧ Joint M' p b1 b2 a n c me age nb q' (k + 1) st' m' sr' lr' := by
  refine CallsM.drop ?_
  refine fo_law18_play (by simp) ?_
  (conv => whnf); refine brn (fun g0 => ?_) (fun g0 => ?_)
  · (conv => whnf); refine (setR_ok h.ref (by have := h.few; omega) me age d x).mono ?_
    rintro v M1 (⟨hne, rfl, rfl⟩ | ⟨he, q', rfl, hle, hR⟩)
    · (conv => whnf); refine ⟨Mem.empty, Mem.empty_le _, ?_⟩
      repeat' ((conv => whnf); first | refine ob rfl ?_ | refine ob (Mem.empty_le _) ?_ | refine ⟨?_, True.intro⟩ | fail)
      refine (Set_ok h.tab h.n d x).mono ?_
      rintro v M2 ⟨rfl, ⟨_, rfl⟩ | ⟨he, _⟩⟩
      · repeat' ((conv => whnf); first | refine ob rfl ?_ | refine ob (Mem.empty_le _) ?_ | refine ⟨?_, True.intro⟩ | fail)
        repeat' ((conv => whnf); first | refine ⟨?_, True.intro⟩ | refine brn_t rfl ?_ | refine brn_f rfl ?_ | refine ob rfl ?_ | refine ob (by decide) ?_ | refine ob (Mem.le_refl _) ?_ | refine ⟨_, Mem.le_refl _, ?_⟩ | fail)
        exact ⟨q, st, m, sr, lr, by simp, Mem.keep_refl _ _, h.tab, h.ref, h.same, h.ok, h.age, h.n, by have := h.few; omega⟩
      · exact absurd he hne
    · (conv => whnf); refine ⟨Mem.empty, Mem.empty_le _, ?_⟩
      repeat' ((conv => whnf); first | refine ob rfl ?_ | refine ob (Mem.empty_le _) ?_ | refine ⟨?_, True.intro⟩ | fail)
      refine (Set_ok (h.tab.le hle) h.n d x).mono ?_
      rintro v M2 ⟨rfl, ⟨hne, _⟩ | ⟨_, hkp, hT⟩⟩
      · exact absurd he hne
      · repeat' ((conv => whnf); first | refine ob rfl ?_ | refine ob (Mem.empty_le _) ?_ | refine ⟨?_, True.intro⟩ | fail)
        repeat' ((conv => whnf); first | refine ⟨?_, True.intro⟩ | refine brn_t rfl ?_ | refine brn_f rfl ?_ | refine ob rfl ?_ | refine ob (by decide) ?_ | refine ob (Mem.le_refl _) ?_ | refine ⟨_, Mem.le_refl _, ?_⟩ | fail)
        have hs1 := setR_len sr d x
        exact ⟨q', setS st d x, m, setR sr d x, lr, by simp [he], Mem.keep_trans (Mem.keep_of_le hle) (keep1 hkp), hT, hR.keep (h.tab.le hle).set hkp, h.same.setTo he, h.ok, h.age, h.n, by have := h.few; omega⟩
  (conv => whnf); refine brn (fun g1 => ?_) (fun g1 => ?_)
  · (conv => whnf); refine new (fun b0 hb0 => ?_)
    replace hb0 : M b0 = none := hb0
    have hN0 : NewSl M T.int 1 (some ⟨b0, 0, none⟩) 0 0 (([] : List Int).map intV) _ := NewSl.lit hb0 T.int 1 0 [] rfl
    obtain ⟨M0, hM0⟩ : ∃ M0, M0 = M.setCells b0 T.int [] := ⟨_, rfl⟩
    rw [← hM0] at hN0
    (conv => whnf)
    erw [← hM0]
    (conv => whnf); refine srcv (hs.le hN0.le) ?_
    (conv => whnf); refine appN M _ hN0 (by omega) (by simp [maxLen]; omega) (by simp [Value.oneCell']) fun ao co M1 hN1 => ?_
    rw [List.map_nil, List.nil_append, Nat.zero_add] at hN1
    have hle1 := hN1.le
    obtain ⟨A, hA⟩ : ∃ A, A = M1.minus (blk ao) := ⟨_, rfl⟩
    have hMA : M.le A := hA ▸ Mem.le_minus hle1 fun y ⟨r, hr, e⟩ => by subst e; exact (hN1.block hr).1
    have hAM : A.le M1 := hA ▸ Mem.minus_le _ _
    have hcl := hs.maplen
    rw [Nat.zero_add]
    (conv => whnf); refine ((hearR_ok (h.ref.le hMA) (by have := h.few; omega) me age x (hs.le hMA) (by omega)).frame hAM).mono ?_
    rintro v M2 ⟨A2, hres, hA2, hrest⟩
    have hres' : ∃ q' lr', v = .tuple #[q'.v me age, .int .i64 (hearE nb x cl)] ∧ A.le A2 ∧ RefAt A2 q' nb sr lr' ∧ ((hearE nb x cl ≠ 0 ∧ lr' = lr) ∨ (hearE nb x cl = 0 ∧ rightC cl = true ∧ x ∈ nb ∧ lr' = insH x ⟨fun i => cl.getD i 0, age⟩ lr)) := by
      rcases hres with ⟨hne, hv, rfl⟩ | ⟨he, hrt, hx, q', hv, hle, hR⟩
      · exact ⟨q, lr, hv, Mem.le_refl _, h.ref.le hMA, .inl ⟨hne, rfl⟩⟩
      · exact ⟨q', _, by rw [hv, he], hle, hR, .inr ⟨he, hrt, hx, rfl⟩⟩
    obtain ⟨q', lr', rfl, hAA, hR2, hcase⟩ := hres'
    have hown : ∀ y o, blk ao y → M1 y = some o → M2 y = some o ∧ A2 y = none := fun y o hy h1 => hrest y o (by rw [hA]; exact Mem.minus_in hy) h1
    have hw2 := hN1.wr.mono (M' := M2) fun r o hr h1 => (hown _ o ⟨r, hr, rfl⟩ h1).1
    have hfree : ∀ y, blk ao y → A2 y = none := fun y ⟨r, hr, e⟩ => by
      obtain ⟨_, cs, hh⟩ := hN1.block hr
      subst e
      exact (hown _ _ ⟨r, hr, rfl⟩ hh).2
    have hTA := h.tab.le (Mem.le_trans hMA hAA)
    repeat' ((conv => whnf); first | refine ⟨?_, True.intro⟩ | refine brn_t rfl ?_ | refine brn_f rfl ?_ | refine ob rfl ?_ | refine ob (by decide) ?_ | refine ob (Mem.le_refl _) ?_ | refine ⟨_, Mem.le_refl _, ?_⟩ | fail)
    refine (Hear_ok2 (hTA.le hA2) h.n x ao n1 co cl hw2.src (by omega)).mono ?_
    rintro v M3 ⟨rfl, hc2⟩
    have hres3 : ∃ m', Mem.keep (one b2) M2 M3 ∧ TabAt M3 p b1 b2 a n c me age nb st m' ∧ SameT nb st m' sr lr' := by
      rcases hc2 with ⟨hne, rfl⟩ | ⟨he, hin, hrt, hkp, y, hy, hleft, hT, hyc⟩
      · rcases hcase with ⟨_, rfl⟩ | ⟨he, _⟩
        · exact ⟨m, Mem.keep_refl _ _, hTA.le hA2, h.same⟩
        · exact absurd he hne
      · rcases hcase with ⟨hne, _⟩ | ⟨_, _, hx, rfl⟩
        · exact absurd he hne
        · have e : y = ⟨fun i => cl.getD i 0, age⟩ := by cases y; simp only at hyc hleft; rw [hyc, hleft]
          subst e
          exact ⟨_, hkp, hT, h.same.hear hx hrt hy h.age⟩
    obtain ⟨m', hkp, hT3, hsame⟩ := hres3
    obtain ⟨A3, hA3⟩ : ∃ A, A = M3.minus (blk ao) := ⟨_, rfl⟩
    have hk3 : Mem.keep (one b2) A2 A3 := fun y o hy h1 => by
      rw [hA3]; unfold Mem.minus
      rw [if_neg fun hb => by rw [hfree y hb] at h1; cases h1]
      exact hkp y o hy (hA2 y o h1)
    have hnb : ∀ y, blk ao y → M y = none := fun y ⟨r, hr, e⟩ => by subst e; exact (hN1.block hr).1
    have hnot : ∀ y, M y ≠ none → ¬ blk ao y := fun y hy hb => hy (hnb y hb)
    have hin2 : M b2 ≠ none := by obtain ⟨l1, c1, hh, _⟩ := h.tab.hrd; rw [hh]; simp
    have hTA3 : TabAt A3 p b1 b2 a n c me age nb st m' := hTA.hrdTo hk3 (hT3.hrd.mono fun o ho => by rw [hA3]; unfold Mem.minus; rw [if_neg (hnot _ hin2)]; exact ho)
    have hJ : ∃ q'' st' m'' sr' lr'', (Value.tuple #[q'.v me age, .bool true]) = .tuple #[q''.v me age, .bool true] ∧ Mem.keep (two b1 b2) M A3 ∧ Joint A3 p b1 b2 a n c me age nb q'' (k + 1) st' m'' sr' lr'' := by
      refine ⟨q', st, m', sr, lr', rfl, Mem.keep_trans (Mem.keep_of_le (Mem.le_trans hMA hAA)) (keep2 hk3), hTA3, hR2.keep hTA.hrd hk3, hsame, h.ok, h.age, h.n, ?_⟩
      have := h.few
      have := insH_len x ⟨fun i => cl.getD i 0, age⟩ lr
      rcases hcase with ⟨_, rfl⟩ | ⟨_, _, _, rfl⟩ <;> omega
    have hw3 := hw2.mono (M' := M3) fun r o hr h1 => hkp _ o (fun e => by
      obtain ⟨_, cs, hh⟩ := hN1.block hr
      have := hnb _ ⟨r, hr, rfl⟩
      have e : r.block = b2 := e
      rw [e] at this; exact hin2 this) h1
    have hA3M : A3.le M3 := hA3 ▸ Mem.minus_le _ _
    (conv => whnf)
    refine loopF (σ := Nat × Mem × List Int) [14] (fun y => [(14, .int .i64 y.1)]) (fun _ => [.live T.portageref18_Table [.v (.int .i64 me), .v (.int .i64 age), .v (.slice q.a q.n q.c), .v (.slice q.a2 q.n2 q.c2), .v (.slice q.a3 q.n3 q.c3)], .live T.portagelaw18_Act [.v (.int .i64 kind), .v (.int .i64 d), .v (.int .i64 x), .v (.slice a1 n1 c1)], .live T.portageref18_Table [.v (.int .i64 0), .v (.int .i64 0), .v (.slice none 0 0), .v (.slice none 0 0), .v (.slice none 0 0)], .gone b0, .live T.portageref18_Table [.v (.int .i64 me), .v (.int .i64 age), .v (.slice q'.a q'.n q'.c), .v (.slice q'.a2 q'.n2 q'.c2), .v (.slice q'.a3 q'.n3 q'.c3)]]) (fun y => y.2.1)
      (fun | ⟨i, Mc, L⟩ => i ≤ n1 ∧ A3.le Mc ∧ Wr Mc T.int 1 ao n1 co (L.map intV)) (fun y => n1 - y.1) ⟨0, M3, cl⟩ ⟨by omega, hA3M, hw3⟩ ⟨(by repeat' first | exact True.intro | refine ⟨rfl, ?_⟩), (by repeat' first | exact True.intro | refine ⟨rfl, ?_⟩), Mem.le_refl _, rfl⟩ ?_
    rintro ⟨i, Mc, L⟩ ⟨hi, hleC, hwC⟩
    (conv => whnf); refine brn (fun g => ?_) (fun g => ?_)
    · have hi' : i < n1 := by have := of_decide_eq_true g; dsimp only at this; omega
      obtain ⟨b', cs, hbb, hcells, hlen, hst⟩ := hwC.store1 (j := i) hi'
      subst hbb
      (conv => whnf); refine ob (by first | omega | (dsimp only; omega)) ?_
      (conv => whnf); refine on hcells ?_
      (conv => whnf); refine ob hlen ?_
      obtain ⟨hw', hk'⟩ := hst 1
      (conv => whnf); refine ob (inR_i64 (by first | omega | (dsimp only; omega))) ?_
      (conv => whnf)
      refine ⟨⟨i + 1, _, _⟩, ⟨by omega, hk'.le hleC fun y hy => ?_, hw'⟩, by dsimp only; omega, ⟨(by repeat' first | exact True.intro | refine ⟨rfl, ?_⟩), (by repeat' first | exact True.intro | refine ⟨rfl, ?_⟩), Mem.le_refl _, rfl⟩⟩
      rw [hA3]; exact Mem.minus_in hy
    · (conv => whnf)
      refine ⟨A3, hleC, ?_⟩
      simpa using hJ
  (conv => whnf); refine brn (fun g2 => ?_) (fun g2 => ?_)
  · (conv => whnf); refine (tickR_ok h.ref h.same.leftR me age).mono ?_
    rintro v M1 ⟨q', rfl, hle, hR⟩
    (conv => whnf); refine (Tick_ok (h.tab.le hle) (by have := h.lenm; omega) h.same.left).mono ?_
    rintro v M2 ⟨rfl, m', hkp, hT, hm⟩
    repeat' ((conv => whnf); first | refine ⟨?_, True.intro⟩ | refine brn_t rfl ?_ | refine brn_f rfl ?_ | refine ob rfl ?_ | refine ob (by decide) ?_ | refine ob (Mem.le_refl _) ?_ | refine ⟨_, Mem.le_refl _, ?_⟩ | fail)
    have := tickL_len lr
    exact ⟨q', st, m', sr, tickL lr, by simp, Mem.keep_trans (Mem.keep_of_le hle) (keep2 hkp), hT, hR.keep (h.tab.le hle).hrd hkp, h.same.tick hm hT.hrd.nodup, h.ok, h.age, h.n, by have := h.few; omega⟩
  · repeat' ((conv => whnf); first | refine ⟨?_, True.intro⟩ | refine brn_t rfl ?_ | refine brn_f rfl ?_ | refine ob rfl ?_ | refine ob (by decide) ?_ | refine ob (Mem.le_refl _) ?_ | refine ⟨_, Mem.le_refl _, ?_⟩ | fail)
    exact ⟨q, st, m, sr, lr, by simp, Mem.keep_refl _ _, h.tab, h.ref, h.same, h.ok, h.age, h.n, by have := h.few; omega⟩
end Go.Proofs.Ytankgacaeejlhaa
