/- One call of both desks. -/
import Derived.Test.YthlleljdahkgpaaHopPa
import Derived.Test.YthlleljdahkgpaaReadsAct20
namespace Go.Proofs.Ythlleljdahkgpaa
open Go Go.Vm
attribute [local irreducible] Brn Ob Grow CallsM inR LoopVC Mem.row Mem.cells Mem.setCells Mem.upd Own AppVC SrcVC StrVC NextVC New SrcOk subA NewSl Mem.textAt Mem.mapAt Mem.iterAt entryOf kfind Wr NewEls Elems
set_option maxRecDepth 10000
variable {A M : Mem} {p b : Nat} {wait next : Int} {m L : KL}
@[reducible] def actCs (x : Act) (a1 a2 a3 : Option Addr) (n1 n2 n3 c1 c2 c3 : Nat) : List Value := [.int .i64 x.kind, .slice a1 n1 c1, .slice a2 n2 c2, .slice a3 n3 c3, .int .i64 x.frm, .int .i64 x.n, .int .i64 x.id.o, .int .i64 x.id.d, .int .i64 x.id.e, .int .i64 x.id.c]
/-- what holds of both desks -/
structure BothD (A M : Mem) (p b : Nat) (wait next : Int) (m L : KL) (a : Option Addr) (n : Nat) : Prop where
  dk : Dk A M p b wait next m
  rel : RelD m L
  all : AllK m
  nx : 0 ≤ next ∧ next ≤ 65535
  doc : SrcOk A 8 a n (L.flatMap encK)
  len : L.length = n
def PlayOut (A : Mem) (p b : Nat) (wait : Int) (m : KL) (v : Value) (M' : Mem) : Prop := ∃ A' next' m' L' a' c', v = .tuple #[RD wait next' a' L'.length c', .bool true] ∧ A.le A' ∧ BothD A' M' p b wait next' m' L' a' L'.length ∧ m'.length ≤ m.length + 1048576
theorem play_ok {a : Option Addr} {n c : Nat} (h : BothD A M p b wait next m L a n) (hw : 1 ≤ wait ∧ wait ≤ 64) (hml : m.length ≤ 80000000) (x : Act) {a1 a2 a3 : Option Addr} {n1 n2 n3 c1 c2 c3 : Nat}
    (g1 : Elems A 5 a1 n1 (MsgR A) x.held) (g2 : n1 ≤ 1048576) (g3 : SrcOk A 1 a2 n2 (x.via.map intV)) (g4 : n2 ≤ 1048576) (g5 : SrcOk A 1 a3 n3 (x.up.map intV)) (g6 : n3 ≤ 1048576) :
    CallsM Try.prog F.law20_play [ptr p, RD wait next a n c, .agg (actCs x a1 a2 a3 n1 n2 n3 c1 c2 c3).toArray] M (PlayOut A p b wait m) := by
  refine fo_law20_play (by simp) ?_
  have hll := h.rel.len
  have hlen := h.len
  have hn : n ≤ 80000000 := by omega
  have hbase := h.dk.base
  have hKL : ∀ y ∈ L, KInv y.2 := fun y hy => h.all y.1 y.2 (by rw [h.rel.same]; exact aget_of_mem h.rel.sort.nodup hy)
  (conv => whnf); refine brn (fun k0 => ?_) (fun k0 => ?_)
  · -- a plan
    repeat' ((conv => whnf); first | refine ⟨?_, True.intro⟩ | refine brn_t rfl ?_ | refine brn_f rfl ?_ | refine ob rfl ?_ | refine ob (by decide) ?_ | refine grow_same (Mem.le_refl _) ?_ | refine ob (Mem.le_refl _) ?_ | refine ⟨_, Mem.le_refl _, ?_⟩ | fail)
    refine (h.dk.aside (planR_ok (c := c) (h.doc.le hbase) (by omega) h.nx a1 a2 a3 n1 n2 n3 c1 c2 c3 x.held x.via x.up (g1.imp hbase fun cs y _ hy => hy.le hbase) (g3.le hbase) (g5.le hbase) g2 g6)).mono ?_
    rintro v M2 ⟨A2, ⟨d, P, ao, co, rfl, hle2, hP, ⟨aD, cD, rfl, hLD⟩, hE⟩, hk2⟩
    have hAA2 : A.le A2 := Mem.le_trans hbase hle2
    have g1' := g1.imp (R' := MsgR A2) hAA2 fun cs y _ hy => hy.le hAA2
    obtain ⟨Q, hQ⟩ : ∃ Q, Q = (if n2 = 64 then planOf m next x.held x.via x.up else ⟨m, next, []⟩) := ⟨_, rfl⟩
    have hrel : RelD Q.m P.m ∧ Q.next = P.next ∧ Q.out = P.out := by
      rw [hP, hQ]
      split
      · exact plan_rel x.via x.up x.held ⟨m, next, []⟩ ⟨L, next, []⟩ h.rel rfl rfl
      · exact ⟨h.rel, rfl, rfl⟩
    have hR := plan_out m next x.held x.via x.up
    have hQA : AllK Q.m := by
      rw [hQ]; split
      · exact h.all.plan
      · exact h.all
    have hQl : Q.m.length ≤ m.length + 1048576 := by
      rw [hQ]; split
      · have h1 := hR.len; have h2 := g1.len; dsimp only at h1; omega
      · dsimp only; omega
    have hQn : 0 ≤ Q.next ∧ Q.next ≤ 65535 := by
      rw [hQ]; split
      · exact hR.nx h.nx
      · exact h.nx
    have hQo : Q.out.length ≤ 1048576 := by
      rw [hQ]; split
      · have h1 := hR.rlen; have h2 := g1.len; omega
      · simp
    have hplan : CallsM Try.prog F.hop_Desk_Plan [ptr p, .slice a1 n1 c1, .slice a2 n2 c2, .slice a3 n3 c3] M2 fun v M' => ∃ (am : Option Addr) (cm : Nat), v = .slice am Q.out.length cm ∧ Dk A2 M' p b wait Q.next Q.m ∧ NewEls (M2.minus (two' p b)) T.api_Offer 7 am Q.out.length cm (OfferR M2 M') Q.out M' := by
      by_cases hv : n2 = 64
      · rw [if_pos hv] at hQ
        subst hQ
        exact (planN_ok A2 hk2.desk h.nx hk2.fp hk2.fb hk2.le a1 a2 a3 n1 n2 n3 c1 c2 c3 x.held x.via x.up g1' (g3.le hAA2) (g5.le hAA2) hv (by omega) (by omega)).mono fun v M' ⟨am, cm, e1, e2, e3⟩ => ⟨am, cm, e1, hk2.turn e2 (Mem.keep_minus.2 e3.le), e3⟩
      · rw [if_neg hv] at hQ
        subst hQ
        refine (plan_no hv).mono ?_
        rintro v _ ⟨rfl, rfl⟩
        exact ⟨none, 0, rfl, hk2, (NewEls.nil _ _ _ _).mono (Mem.minus_le _ _)⟩
    repeat' ((conv => whnf); first | refine ⟨?_, True.intro⟩ | refine brn_t rfl ?_ | refine brn_f rfl ?_ | refine ob rfl ?_ | refine ob (by decide) ?_ | refine grow_same (Mem.le_refl _) ?_ | refine ob (Mem.le_refl _) ?_ | refine ⟨_, Mem.le_refl _, ?_⟩ | fail)
    refine hplan.mono ?_
    rintro v M3 ⟨am, cm, rfl, hk3, hEm⟩
    have hEl := hEm.elems
    have hMb : (M2.minus (two' p b)).le M3 := hEm.le
    have hA23 : A2.le M3 := hk3.le
    have hbA : (M.minus (two' p b)).le A2 := hle2
    rw [hrel.2.2] at hEl hEm hQo ⊢
    repeat' ((conv => whnf); first | refine ⟨?_, True.intro⟩ | refine brn_t rfl ?_ | refine brn_f rfl ?_ | refine ob rfl ?_ | refine ob (by decide) ?_ | refine grow_same (Mem.le_refl _) ?_ | refine ob (Mem.le_refl _) ?_ | refine ⟨_, Mem.le_refl _, ?_⟩ | fail)
    refine (sameOffers_ok (S := M.minus (two' p b)) (hE.imp hA23 fun cs y _ hy => hy) (Mem.le_trans hbA hA23) hEl (by omega)).mono ?_
    rintro v _ ⟨rfl, rfl⟩
    (conv => whnf)
    refine loopF (σ := Nat) [12] (fun y => [(12, .int .i64 y)]) (fun _ => [.live T.portageref20_Desk [.v (.int .i64 wait), .v (.int .i64 next), .v (.slice a n c)], .live T.portagelaw20_Act ((actCs x a1 a2 a3 n1 n2 n3 c1 c2 c3).map .v), .live T.portageref20_Desk [.v (.int .i64 0), .v (.int .i64 0), .v (.slice none 0 0)], .live T.portageref20_Desk [.v (.int .i64 wait), .v (.int .i64 P.next), .v (.slice aD P.m.length cD)]]) (fun _ => M3) (fun k => k ≤ P.out.length) (fun k => P.out.length - k) 0 (by omega) ⟨(by repeat' first | exact True.intro | refine ⟨rfl, ?_⟩), (by repeat' first | exact True.intro | refine ⟨rfl, ?_⟩), Mem.le_refl _, rfl⟩ ?_
    intro k hk
    (conv => whnf); refine brn (fun g => ?_) (fun g => ?_)
    rotate_left
    · repeat' ((conv => whnf); first | refine ⟨?_, True.intro⟩ | refine brn_t rfl ?_ | refine brn_f rfl ?_ | refine ob rfl ?_ | refine ob (by decide) ?_ | refine grow_same (Mem.le_refl _) ?_ | refine ob (Mem.le_refl _) ?_ | refine ⟨_, Mem.le_refl _, ?_⟩ | fail)
      refine ⟨A2, P.next, Q.m, P.m, aD, cD, rfl, hAA2, ⟨?_, hrel.1, hQA, hrel.2.1 ▸ hQn, hLD, rfl⟩, hQl⟩
      rw [← hrel.2.1]; exact hk3
    have hkl : k < P.out.length := by have := of_decide_eq_true g; omega
    obtain ⟨hkl', b6, o6, cs6, ha6, hrows6, -, -, q6, n6, k6, rfl, hw6, hn6, -⟩ := hEl.at (by decide) hkl
    obtain ⟨_, csm, hhm⟩ := hEm.block ha6
    generalize P.out[k] = z at *
    have hzl := hw6.maplen
    (conv => whnf)
    refine brn_t rfl ?_
    (conv => whnf)
    refine loopF (σ := Nat) [13] (fun y => [(13, .int .i64 y)]) (fun _ => [.live T.portageref20_Desk [.v (.int .i64 wait), .v (.int .i64 next), .v (.slice a n c)], .live T.portagelaw20_Act ((actCs x a1 a2 a3 n1 n2 n3 c1 c2 c3).map .v), .live T.portageref20_Desk [.v (.int .i64 0), .v (.int .i64 0), .v (.slice none 0 0)], .live T.portageref20_Desk [.v (.int .i64 wait), .v (.int .i64 P.next), .v (.slice aD P.m.length cD)]]) (fun _ => M3) (fun j => j ≤ n6) (fun j => n6 - j) 0 (by omega) ⟨(by repeat' first | exact True.intro | refine ⟨rfl, ?_⟩), (by repeat' first | exact True.intro | refine ⟨rfl, ?_⟩), Mem.le_refl _, rfl⟩ ?_
    intro j hj
    (conv => whnf); refine ob (by first | omega | (dsimp only; omega)) ?_
    (conv => whnf); refine atp ha6 ?_
    (conv => whnf); refine on (hrows6 6 1 (by decide)) ?_
    (conv => whnf); refine brn (fun g7 => ?_) (fun g7 => ?_)
    rotate_left
    · repeat' ((conv => whnf); first | refine ⟨?_, True.intro⟩ | refine brn_t rfl ?_ | refine brn_f rfl ?_ | refine ob rfl ?_ | refine ob (by decide) ?_ | refine grow_same (Mem.le_refl _) ?_ | refine ob (Mem.le_refl _) ?_ | refine ⟨_, Mem.le_refl _, ?_⟩ | fail)
      refine ob (inR_i64 (by first | omega | (dsimp only; omega))) ?_
      (conv => whnf)
      exact ⟨k + 1, by omega, by omega, ⟨(by repeat' first | exact True.intro | refine ⟨rfl, ?_⟩), (by repeat' first | exact True.intro | refine ⟨rfl, ?_⟩), Mem.le_refl _, rfl⟩⟩
    have hjl : j < n6 := by have := of_decide_eq_true g7; omega
    obtain ⟨b7, cs7, ha7, hcells7, hlen7, hst7⟩ := hw6.store1 hjl
    obtain ⟨hlt8, b8, o8, ha8, hrow8⟩ := hw6.src.at hjl
    have hb78 : b8 = b7 ∧ o8 = 0 := by rw [ha7] at ha8; cases ha8; exact ⟨rfl, rfl⟩
    obtain ⟨rfl, rfl⟩ := hb78
    obtain ⟨cs9, hh9⟩ := hw6.block ha7
    have hcs : cs9 = cs7 := by have := hh9.cells; rw [hcells7] at this; cases this; rfl
    subst hcs
    have hv9 : cs9[j]? = some (byteV z.msg.data[j]) := by
      have h1 := hh9.row (o := 0 + j * 1) (n := 1) hlen7
      have h2 : M3.row b8 (0 + j * 1) 1 = some [byteV z.msg.data[j]] := hrow8
      have h3 := Option.some.inj (h1.symm.trans h2)
      have := congrArg (·[0]?) h3
      simpa [List.getElem?_take, List.getElem?_drop] using this
    have hflip := flip_le hh9 hv9 (w := byteV (255 - z.msg.data[j]))
    obtain ⟨hw10, hk10⟩ := hst7 (255 - z.msg.data[j])
    obtain ⟨M6, hM6⟩ : ∃ M6, M6 = M3.setCells b8 T.uint8 (splice cs9 (0 + j * 1) [byteV (255 - z.msg.data[j])]) := ⟨_, rfl⟩
    have hne : b6 ≠ b8 := fun e => by
      rw [e] at hhm
      exact absurd (hhm.inj hh9).1 (by decide)
    have hrows6' : ∀ p m, p + m ≤ 7 → M6.row b6 (o6 + k * 7 + p) m = M3.row b6 (o6 + k * 7 + p) m := fun p m _ => by
      rw [hM6]
      unfold Mem.setCells Mem.row
      rw [Mem.upd_ne _ _ hne]
    have hM6c : M6.cells b8 = some (T.uint8, splice cs9 (0 + j * 1) [byteV (255 - z.msg.data[j])]) := by rw [hM6]; exact Mem.cells_setCells
    rw [← hM6] at hw10 hflip
    obtain ⟨hlt11, b11, o11, ha11, hrow11⟩ := hw10.src.at hjl
    have hb11 : b11 = b8 ∧ o11 = 0 := by rw [ha7] at ha11; cases ha11; exact ⟨rfl, rfl⟩
    obtain ⟨rfl, rfl⟩ := hb11
    rw [List.getElem_set_self] at hrow11
    generalize z.msg.data[j] = y at *
    (conv => whnf); refine ob (by first | omega | (dsimp only; omega)) ?_
    (conv => whnf); refine atp ha6 ?_
    (conv => whnf); refine on (hrows6 6 1 (by decide)) ?_
    repeat' ((conv => whnf); first | refine ⟨?_, True.intro⟩ | refine brn_t rfl ?_ | refine brn_f rfl ?_ | refine ob rfl ?_ | refine ob (by decide) ?_ | refine grow_same (Mem.le_refl _) ?_ | refine ob (Mem.le_refl _) ?_ | refine ⟨_, Mem.le_refl _, ?_⟩ | fail)
    refine ob (by first | omega | (dsimp only; omega)) ?_
    (conv => whnf); refine atp ha6 ?_
    (conv => whnf); refine on (hrows6 6 1 (by decide)) ?_
    (conv => whnf); refine ob (by first | omega | (dsimp only; omega)) ?_
    (conv => whnf); refine atp ha8 ?_
    (conv => whnf); refine on hrow8 ?_
    (conv => whnf); refine ob (by first | omega | (dsimp only; omega)) ?_
    (conv => whnf); refine atp ha8 ?_
    (conv => whnf)
    rw [sub_byte]
    repeat' ((conv => whnf); first | refine ⟨?_, True.intro⟩ | refine brn_t rfl ?_ | refine brn_f rfl ?_ | refine ob rfl ?_ | refine ob (by decide) ?_ | refine grow_same (Mem.le_refl _) ?_ | refine ob (Mem.le_refl _) ?_ | refine ⟨_, Mem.le_refl _, ?_⟩ | fail)
    refine on hcells7 ?_
    (conv => whnf); refine ob (by dsimp only; omega) ?_
    (conv => whnf)
    erw [← hM6]
    have hyy : (255 : UInt8) - (255 - y) = y := by
      apply UInt8.toNat_inj.1
      rw [UInt8.toNat_sub, UInt8.toNat_sub]
      have := y.toNat_lt
      simp
      omega
    repeat' ((conv => whnf); first | refine ⟨?_, True.intro⟩ | refine brn_t rfl ?_ | refine brn_f rfl ?_ | refine ob rfl ?_ | refine ob (by decide) ?_ | refine grow_same (Mem.le_refl _) ?_ | refine ob (Mem.le_refl _) ?_ | refine ⟨_, Mem.le_refl _, ?_⟩ | fail)
    refine ob (by first | omega | (dsimp only; omega)) ?_
    (conv => whnf); refine atp ha6 ?_
    (conv => whnf); refine on ((hrows6' 6 1 (by decide)).trans (hrows6 6 1 (by decide))) ?_
    repeat' ((conv => whnf); first | refine ⟨?_, True.intro⟩ | refine brn_t rfl ?_ | refine brn_f rfl ?_ | refine ob rfl ?_ | refine ob (by decide) ?_ | refine grow_same (Mem.le_refl _) ?_ | refine ob (Mem.le_refl _) ?_ | refine ⟨_, Mem.le_refl _, ?_⟩ | fail)
    refine ob (by first | omega | (dsimp only; omega)) ?_
    (conv => whnf); refine atp ha6 ?_
    (conv => whnf); refine on ((hrows6' 6 1 (by decide)).trans (hrows6 6 1 (by decide))) ?_
    (conv => whnf); refine ob (by first | omega | (dsimp only; omega)) ?_
    (conv => whnf); refine atp ha8 ?_
    (conv => whnf); refine on hrow11 ?_
    (conv => whnf); refine ob (by first | omega | (dsimp only; omega)) ?_
    (conv => whnf); refine atp ha8 ?_
    (conv => whnf)
    rw [sub_byte, hyy]
    repeat' ((conv => whnf); first | refine ⟨?_, True.intro⟩ | refine brn_t rfl ?_ | refine brn_f rfl ?_ | refine ob rfl ?_ | refine ob (by decide) ?_ | refine grow_same (Mem.le_refl _) ?_ | refine ob (Mem.le_refl _) ?_ | refine ⟨_, Mem.le_refl _, ?_⟩ | fail)
    refine on hM6c ?_
    (conv => whnf); refine ob (by dsimp only; rw [splice_one _ _ _ (by omega), List.length_set]; omega) ?_
    repeat' ((conv => whnf); first | refine ⟨?_, True.intro⟩ | refine brn_t rfl ?_ | refine brn_f rfl ?_ | refine ob rfl ?_ | refine ob (by decide) ?_ | refine grow_same (Mem.le_refl _) ?_ | refine ob (Mem.le_refl _) ?_ | refine ⟨_, Mem.le_refl _, ?_⟩ | fail)
    refine ob (inR_i64 (by first | omega | (dsimp only; omega))) ?_
    (conv => whnf)
    exact ⟨j + 1, by omega, by omega, ⟨(by repeat' first | exact True.intro | refine ⟨rfl, ?_⟩), (by repeat' first | exact True.intro | refine ⟨rfl, ?_⟩), hflip, rfl⟩⟩
  have hAll : ∀ {m' : KL} {L' : KL} {A' M' : Mem} {a' : Option Addr}, A.le A' → Dk A' M' p b wait next m' → RelD m' L' → AllK m' → SrcOk A' 8 a' L'.length (L'.flatMap encK) → m'.length ≤ m.length + 1048576 → ∀ c', PlayOut A p b wait m (.tuple #[RD wait next a' L'.length c', .bool true]) M' := fun h1 h2 h3 h4 h5 h6 c' =>
    ⟨_, next, _, _, _, c', rfl, h1, ⟨h2, h3, h4, h.nx, h5, rfl⟩, h6⟩
  have hsame := h.rel.same
  (conv => whnf); refine brn (fun k1 => ?_) (fun k1 => ?_)
  · -- a tick
    repeat' ((conv => whnf); first | refine ⟨?_, True.intro⟩ | refine brn_t rfl ?_ | refine brn_f rfl ?_ | refine ob rfl ?_ | refine ob (by decide) ?_ | refine grow_same (Mem.le_refl _) ?_ | refine ob (Mem.le_refl _) ?_ | refine ⟨_, Mem.le_refl _, ?_⟩ | fail)
    refine (h.dk.aside (tickR_ok (c := c) (h.doc.le hbase) (by omega) hKL)).mono ?_
    rintro v M2 ⟨A2, ⟨hle2, aD, cD, rfl, hLD⟩, hk2⟩
    repeat' ((conv => whnf); first | refine ⟨?_, True.intro⟩ | refine brn_t rfl ?_ | refine brn_f rfl ?_ | refine ob rfl ?_ | refine ob (by decide) ?_ | refine grow_same (Mem.le_refl _) ?_ | refine ob (Mem.le_refl _) ?_ | refine ⟨_, Mem.le_refl _, ?_⟩ | fail)
    refine (tick_ok hk2.desk h.all.all).mono ?_
    rintro v M3 ⟨rfl, hk3, m3, hd3, hm3⟩
    obtain ⟨hr3, ha3⟩ := h.rel.tick h.all hd3.map.nodup hm3
    have hl3 : m3.length ≤ m.length := keys_len hd3.map.nodup fun y k hy => by
      rw [hm3] at hy
      cases e : aget m y with
      | none => rw [e] at hy; cases hy
      | some k' => exact ⟨k', rfl⟩
    repeat' ((conv => whnf); first | refine ⟨?_, True.intro⟩ | refine brn_t rfl ?_ | refine brn_f rfl ?_ | refine ob rfl ?_ | refine ob (by decide) ?_ | refine grow_same (Mem.le_refl _) ?_ | refine ob (Mem.le_refl _) ?_ | refine ⟨_, Mem.le_refl _, ?_⟩ | fail)
    exact hAll (Mem.le_trans hbase hle2) (hk2.turn1 hd3 hk3) hr3 ha3 hLD (by omega) cD
  (conv => whnf); refine brn (fun k2 => ?_) (fun k2 => ?_)
  · -- an ack
    repeat' ((conv => whnf); first | refine ⟨?_, True.intro⟩ | refine brn_t rfl ?_ | refine brn_f rfl ?_ | refine ob rfl ?_ | refine ob (by decide) ?_ | refine grow_same (Mem.le_refl _) ?_ | refine ob (Mem.le_refl _) ?_ | refine ⟨_, Mem.le_refl _, ?_⟩ | fail)
    refine (h.dk.aside (ackR_ok (c := c) (h.doc.le hbase) (by omega) x.frm x.n x.id)).mono ?_
    rintro v M2 ⟨A2, ⟨d, rfl, hle2, aD, cD, rfl, hLD⟩, hk2⟩
    have hko : ackOk L x.frm x.n x.id = ackOk m x.frm x.n x.id := by unfold ackOk; rw [hsame]
    rw [hko] at hLD ⊢
    repeat' ((conv => whnf); first | refine ⟨?_, True.intro⟩ | refine brn_t rfl ?_ | refine brn_f rfl ?_ | refine ob rfl ?_ | refine ob (by decide) ?_ | refine grow_same (Mem.le_refl _) ?_ | refine ob (Mem.le_refl _) ?_ | fail)
    refine ⟨M2.minus (one b), Mem.minus_le _ _, ?_⟩
    repeat' ((conv => whnf); first | refine ⟨?_, True.intro⟩ | refine brn_t rfl ?_ | refine brn_f rfl ?_ | refine ob rfl ?_ | refine ob (by decide) ?_ | refine grow_same (Mem.le_refl _) ?_ | refine ob (Mem.le_refl _) ?_ | refine ⟨_, Mem.le_refl _, ?_⟩ | fail)
    refine (ack_ok hk2.desk x.frm x.n x.id).mono ?_
    rintro v M3 ⟨rfl, hd3, hk3⟩
    have hr : RelD (ackOf m x.frm x.n x.id) (if ackOk m x.frm x.n x.id then withoutL L x.id else L) ∧ AllK (ackOf m x.frm x.n x.id) ∧ (ackOf m x.frm x.n x.id).length ≤ m.length + 1 := by
      unfold ackOf
      cases ackOk m x.frm x.n x.id with
      | true => exact ⟨h.rel.without x.id (adel_nodup h.rel.nd _) fun j => aget_adel _ _ _, h.all.sub fun j k hk => (by rw [if_pos rfl, aget_adel] at hk; split at hk <;> first | cases hk | exact hk), Nat.le_trans (adel_length _ _) (Nat.le_succ _)⟩
      | false => exact ⟨h.rel, h.all, Nat.le_succ _⟩
    have hkm := Mem.keep_minus.1 hk3
    have hfin := hAll (Mem.le_trans hbase hle2) (hk2.turn1 hd3 hk3) hr.1 hr.2.1 hLD (by omega) cD
    generalize ackOk m x.frm x.n x.id = okb at *
    cases okb with
    | true =>
      repeat' ((conv => whnf); first | refine ob rfl ?_ | refine grow_same hkm ?_ | refine ob hkm ?_ | refine ⟨?_, True.intro⟩ | fail)
      repeat' ((conv => whnf); first | refine ⟨?_, True.intro⟩ | refine brn_t rfl ?_ | refine brn_f rfl ?_ | refine ob rfl ?_ | refine ob (by decide) ?_ | refine grow_same (Mem.le_refl _) ?_ | refine ob (Mem.le_refl _) ?_ | refine ⟨_, Mem.le_refl _, ?_⟩ | fail)
      exact hfin
    | false =>
      repeat' ((conv => whnf); first | refine ob rfl ?_ | refine grow_same hkm ?_ | refine ob hkm ?_ | refine ⟨?_, True.intro⟩ | fail)
      repeat' ((conv => whnf); first | refine ⟨?_, True.intro⟩ | refine brn_t rfl ?_ | refine brn_f rfl ?_ | refine ob rfl ?_ | refine ob (by decide) ?_ | refine grow_same (Mem.le_refl _) ?_ | refine ob (Mem.le_refl _) ?_ | refine ⟨_, Mem.le_refl _, ?_⟩ | fail)
      exact hfin
  (conv => whnf); refine brn (fun k3 => ?_) (fun k3 => ?_)
  · -- a refusal
    repeat' ((conv => whnf); first | refine ⟨?_, True.intro⟩ | refine brn_t rfl ?_ | refine brn_f rfl ?_ | refine ob rfl ?_ | refine ob (by decide) ?_ | refine grow_same (Mem.le_refl _) ?_ | refine ob (Mem.le_refl _) ?_ | refine ⟨_, Mem.le_refl _, ?_⟩ | fail)
    refine (h.dk.aside (refuseR_ok (c := c) (h.doc.le hbase) (by omega) x.frm x.n x.id)).mono ?_
    rintro v M2 ⟨A2, ⟨d, rfl, hle2, aD, cD, rfl, hLD⟩, hk2⟩
    have hko : ackOk L x.frm x.n x.id = ackOk m x.frm x.n x.id := by unfold ackOk; rw [hsame]
    rw [hko] at hLD ⊢
    repeat' ((conv => whnf); first | refine ⟨?_, True.intro⟩ | refine brn_t rfl ?_ | refine brn_f rfl ?_ | refine ob rfl ?_ | refine ob (by decide) ?_ | refine grow_same (Mem.le_refl _) ?_ | refine ob (Mem.le_refl _) ?_ | fail)
    refine ⟨M2.minus (one b), Mem.minus_le _ _, ?_⟩
    repeat' ((conv => whnf); first | refine ⟨?_, True.intro⟩ | refine brn_t rfl ?_ | refine brn_f rfl ?_ | refine ob rfl ?_ | refine ob (by decide) ?_ | refine grow_same (Mem.le_refl _) ?_ | refine ob (Mem.le_refl _) ?_ | refine ⟨_, Mem.le_refl _, ?_⟩ | fail)
    refine (refuse_ok hk2.desk x.frm x.n x.id).mono ?_
    rintro v M3 ⟨rfl, hd3, hk3⟩
    have hr : RelD (refuseOf m wait x.frm x.n x.id) (if ackOk m x.frm x.n x.id then withL L (x.id, ⟨-1, 0, 0, wait⟩) else L) ∧ AllK (refuseOf m wait x.frm x.n x.id) ∧ (refuseOf m wait x.frm x.n x.id).length ≤ m.length + 1 := by
      unfold refuseOf
      cases ackOk m x.frm x.n x.id with
      | true => exact ⟨h.rel.with (x.id, ⟨-1, 0, 0, wait⟩), (GoF.put m x.id (k := ⟨-1, 0, 0, wait⟩) ⟨⟨by dsimp only; omega, by dsimp only; omega, by dsimp only; omega, by dsimp only; omega⟩, fun _ => ⟨rfl, rfl⟩⟩).all h.all, aput_length m x.id _⟩
      | false => exact ⟨h.rel, h.all, Nat.le_succ _⟩
    have hkm := Mem.keep_minus.1 hk3
    have hfin := hAll (Mem.le_trans hbase hle2) (hk2.turn1 hd3 hk3) hr.1 hr.2.1 hLD (by omega) cD
    generalize ackOk m x.frm x.n x.id = okb at *
    cases okb with
    | true =>
      repeat' ((conv => whnf); first | refine ob rfl ?_ | refine grow_same hkm ?_ | refine ob hkm ?_ | refine ⟨?_, True.intro⟩ | fail)
      repeat' ((conv => whnf); first | refine ⟨?_, True.intro⟩ | refine brn_t rfl ?_ | refine brn_f rfl ?_ | refine ob rfl ?_ | refine ob (by decide) ?_ | refine grow_same (Mem.le_refl _) ?_ | refine ob (Mem.le_refl _) ?_ | refine ⟨_, Mem.le_refl _, ?_⟩ | fail)
      exact hfin
    | false =>
      repeat' ((conv => whnf); first | refine ob rfl ?_ | refine grow_same hkm ?_ | refine ob hkm ?_ | refine ⟨?_, True.intro⟩ | fail)
      repeat' ((conv => whnf); first | refine ⟨?_, True.intro⟩ | refine brn_t rfl ?_ | refine brn_f rfl ?_ | refine ob rfl ?_ | refine ob (by decide) ?_ | refine grow_same (Mem.le_refl _) ?_ | refine ob (Mem.le_refl _) ?_ | refine ⟨_, Mem.le_refl _, ?_⟩ | fail)
      exact hfin
  (conv => whnf); refine brn (fun k4 => ?_) (fun k4 => ?_)
  · -- taken back
    repeat' ((conv => whnf); first | refine ⟨?_, True.intro⟩ | refine brn_t rfl ?_ | refine brn_f rfl ?_ | refine ob rfl ?_ | refine ob (by decide) ?_ | refine grow_same (Mem.le_refl _) ?_ | refine ob (Mem.le_refl _) ?_ | refine ⟨_, Mem.le_refl _, ?_⟩ | fail)
    refine (h.dk.aside (backR_ok (c := c) (h.doc.le hbase) (by omega) (fun i k hk => (h.all i k (by rw [hsame]; exact hk)).ok.w0) x.id)).mono ?_
    rintro v M2 ⟨A2, ⟨d, rfl, hle2, aD, cD, rfl, hLD⟩, hk2⟩
    have hko : isIs L x.id = isIs m x.id := by unfold isIs; rw [hsame]
    rw [hko] at hLD ⊢
    repeat' ((conv => whnf); first | refine ⟨?_, True.intro⟩ | refine brn_t rfl ?_ | refine brn_f rfl ?_ | refine ob rfl ?_ | refine ob (by decide) ?_ | refine grow_same (Mem.le_refl _) ?_ | refine ob (Mem.le_refl _) ?_ | fail)
    refine ⟨M2.minus (one b), Mem.minus_le _ _, ?_⟩
    repeat' ((conv => whnf); first | refine ⟨?_, True.intro⟩ | refine brn_t rfl ?_ | refine brn_f rfl ?_ | refine ob rfl ?_ | refine ob (by decide) ?_ | refine grow_same (Mem.le_refl _) ?_ | refine ob (Mem.le_refl _) ?_ | refine ⟨_, Mem.le_refl _, ?_⟩ | fail)
    refine (back_ok hk2.desk x.id).mono ?_
    rintro v M3 ⟨rfl, hd3, hk3⟩
    have hr : RelD (backOf m x.id) (if isIs m x.id then withoutL L x.id else L) ∧ AllK (backOf m x.id) ∧ (backOf m x.id).length ≤ m.length + 1 := by
      unfold backOf
      cases isIs m x.id with
      | true => exact ⟨h.rel.without x.id (adel_nodup h.rel.nd _) fun j => aget_adel _ _ _, h.all.sub fun j k hk => (by rw [if_pos rfl, aget_adel] at hk; split at hk <;> first | cases hk | exact hk), Nat.le_trans (adel_length _ _) (Nat.le_succ _)⟩
      | false => exact ⟨h.rel, h.all, Nat.le_succ _⟩
    have hkm := Mem.keep_minus.1 hk3
    have hfin := hAll (Mem.le_trans hbase hle2) (hk2.turn1 hd3 hk3) hr.1 hr.2.1 hLD (by omega) cD
    generalize isIs m x.id = okb at *
    cases okb with
    | true =>
      repeat' ((conv => whnf); first | refine ob rfl ?_ | refine grow_same hkm ?_ | refine ob hkm ?_ | refine ⟨?_, True.intro⟩ | fail)
      repeat' ((conv => whnf); first | refine ⟨?_, True.intro⟩ | refine brn_t rfl ?_ | refine brn_f rfl ?_ | refine ob rfl ?_ | refine ob (by decide) ?_ | refine grow_same (Mem.le_refl _) ?_ | refine ob (Mem.le_refl _) ?_ | refine ⟨_, Mem.le_refl _, ?_⟩ | fail)
      exact hfin
    | false =>
      repeat' ((conv => whnf); first | refine ob rfl ?_ | refine grow_same hkm ?_ | refine ob hkm ?_ | refine ⟨?_, True.intro⟩ | fail)
      repeat' ((conv => whnf); first | refine ⟨?_, True.intro⟩ | refine brn_t rfl ?_ | refine brn_f rfl ?_ | refine ob rfl ?_ | refine ob (by decide) ?_ | refine grow_same (Mem.le_refl _) ?_ | refine ob (Mem.le_refl _) ?_ | refine ⟨_, Mem.le_refl _, ?_⟩ | fail)
      exact hfin
  (conv => whnf); refine brn (fun k5 => ?_) (fun k5 => ?_)
  · -- a reset
    repeat' ((conv => whnf); first | refine ⟨?_, True.intro⟩ | refine brn_t rfl ?_ | refine brn_f rfl ?_ | refine ob rfl ?_ | refine ob (by decide) ?_ | refine grow_same (Mem.le_refl _) ?_ | refine ob (Mem.le_refl _) ?_ | refine ⟨_, Mem.le_refl _, ?_⟩ | fail)
    refine (h.dk.aside (resetR_ok (c := c) (h.doc.le hbase) (by omega) x.frm)).mono ?_
    rintro v M2 ⟨A2, ⟨d, rfl, hle2, aD, cD, rfl, hLD⟩, hk2⟩
    repeat' ((conv => whnf); first | refine ⟨?_, True.intro⟩ | refine brn_t rfl ?_ | refine brn_f rfl ?_ | refine ob rfl ?_ | refine ob (by decide) ?_ | refine grow_same (Mem.le_refl _) ?_ | refine ob (Mem.le_refl _) ?_ | fail)
    refine ⟨M2.minus (one b), Mem.minus_le _ _, ?_⟩
    repeat' ((conv => whnf); first | refine ⟨?_, True.intro⟩ | refine brn_t rfl ?_ | refine brn_f rfl ?_ | refine ob rfl ?_ | refine ob (by decide) ?_ | refine grow_same (Mem.le_refl _) ?_ | refine ob (Mem.le_refl _) ?_ | refine ⟨_, Mem.le_refl _, ?_⟩ | fail)
    refine (reset_ok hk2.desk x.frm (by omega)).mono ?_
    rintro v M3 ⟨ids, rfl, hnd, hsrt, hmem, hd3, hk3⟩
    have hids : ids = offeredL L x.frm := h.rel.offered x.frm hnd hsrt hmem
    rw [← hids] at hLD ⊢
    have hr := RelD.reset ids h.rel
    have hkm := Mem.keep_minus.1 hk3
    have hl3 : (ids.foldl adel m).length ≤ m.length := keys_len hd3.map.nodup fun y k hy => ⟨k, dels_sub ids y k hy⟩
    have hfin := hAll (Mem.le_trans hbase hle2) (hk2.turn1 hd3 hk3) hr (h.all.sub fun y k hy => dels_sub ids y k hy) hLD (by omega) cD
    repeat' ((conv => whnf); first | refine ob rfl ?_ | refine grow_same hkm ?_ | refine ob hkm ?_ | refine ⟨?_, True.intro⟩ | fail)
    (conv => whnf)
    rw [decide_eq_true rfl]
    repeat' ((conv => whnf); first | refine ⟨?_, True.intro⟩ | refine brn_t rfl ?_ | refine brn_f rfl ?_ | refine ob rfl ?_ | refine ob (by decide) ?_ | refine grow_same (Mem.le_refl _) ?_ | refine ob (Mem.le_refl _) ?_ | refine ⟨_, Mem.le_refl _, ?_⟩ | fail)
    exact hfin
  · repeat' ((conv => whnf); first | refine ⟨?_, True.intro⟩ | refine brn_t rfl ?_ | refine brn_f rfl ?_ | refine ob rfl ?_ | refine ob (by decide) ?_ | refine grow_same (Mem.le_refl _) ?_ | refine ob (Mem.le_refl _) ?_ | refine ⟨_, Mem.le_refl _, ?_⟩ | fail)
    have hd := h.doc
    rw [← hlen] at hd
    have hfin := hAll (Mem.le_refl _) h.dk h.rel h.all hd (by omega) c
    rw [hlen] at hfin
    exact hfin
end Go.Proofs.Ythlleljdahkgpaa
