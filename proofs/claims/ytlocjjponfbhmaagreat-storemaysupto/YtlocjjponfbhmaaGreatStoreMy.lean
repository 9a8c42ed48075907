/- StoreMays, as a contract. -/
import Derived.Test.YtlocjjponfbhmaaGreatStorePl
namespace Go.Proofs.YtlocjjponfbhmaaGreat
open Go Go.Vm
attribute [local irreducible] Brn Ob Grow CallsM inR LoopVC Mem.row Mem.cells Mem.setCells Mem.upd Own AppVC SrcVC StrVC NextVC New SrcOk subA NewSl Mem.textAt Mem.mapAt Mem.iterAt entryOf kfind Wr NewEls Elems
set_option maxRecDepth 10000
variable {M B : Mem} {p b sp sb : Nat} {S : StR} {came : Int} {xs : HsT} {es : EsT} {L : List K} {D : DocV} {ms : List MX}
def zeroX : MX := ⟨⟨0, 0, 0, 0⟩, none, 0, []⟩
/-- rows of bytes that may be written -/
def LooseD (M : Mem) (ls : List MX) : Prop := ∀ m ∈ ls, ∃ q : List UInt8, Wr M T.uint8 1 m.a m.p.length m.c (q.map byteV)
theorem mays_law (self qh qb qg : Int) {a : Option Addr} {n c : Nat} {l : List EvX} (hl : Elems M 6 a n (EvR M) l) (hn : n ≤ 1048576) (hc : n ≤ c) (x : EvX) {xa : Option Addr} {xc : Nat} (hx : SrcOk M 1 xa x.p.length (x.p.map byteV)) (hxl : x.p.length ≤ 1048576) :
    CallsM Tryz.prog F.law15_StoreMays [.agg #[.int .i64 self, .int .i64 qh, .int .i64 qb, .int .i64 qg], .slice a n c, evV x.kind x.id xa x.p.length xc] M fun v M' => v = .bool true ∧ M.le M' := by
  refine fo_law15_StoreMays (by simp) ?_
  (conv => whnf); refine (done_ok self qh qb qg hl hn hc).mono ?_
  rintro v M1 (⟨hg, rfl, rfl⟩ | ⟨hg, B, p, b, sp, sb, S, came, xs, es, L, D, ms, rfl, hMB, hBo, hca, hkn, hel, -, -, -, -, -⟩)
  · repeat' ((conv => whnf); first | refine ⟨?_, True.intro⟩ | refine brn_t rfl ?_ | refine brn_f rfl ?_ | refine ob rfl ?_ | refine ob (by decide) ?_ | refine grow_same (Mem.le_refl _) ?_ | refine ob (Mem.le_refl _) ?_ | refine ⟨_, Mem.le_refl _, ?_⟩ | fail)
    refine awake_ok.mono ?_
    rintro v M2 ⟨rfl, hle⟩
    repeat' ((conv => whnf); first | refine ⟨?_, True.intro⟩ | refine brn_t rfl ?_ | refine brn_f rfl ?_ | refine ob rfl ?_ | refine ob (by decide) ?_ | refine grow_same (Mem.le_refl _) ?_ | refine ob (Mem.le_refl _) ?_ | refine ⟨_, Mem.le_refl _, ?_⟩ | fail)
    exact ⟨rfl, hle⟩
  have hI := hBo.own.inv
  repeat' ((conv => whnf); first | refine ⟨?_, True.intro⟩ | refine brn_t rfl ?_ | refine brn_f rfl ?_ | refine ob rfl ?_ | refine ob (by decide) ?_ | refine grow_same (Mem.le_refl _) ?_ | refine ob (Mem.le_refl _) ?_ | refine ⟨_, Mem.le_refl _, ?_⟩ | fail)
  refine (Held_ok hBo.own (by omega)).mono ?_
  rintro v M2 ⟨ha, hn, hc, ls, rfl, hH, hmsg⟩
  have hnl := hH.len
  have hfew : ls.length = S.l.length := by rw [← hmsg, List.length_map]
  have hqh := hI.qh
  have hpl : ∀ m ∈ ls, m.p.length ≤ 48 := fun m hm => by
    have h1 : m.msg ∈ S.l := hmsg ▸ List.mem_map.2 ⟨m, hm, rfl⟩
    exact (msgErr_zero (hI.msgs _ h1).1).2.2
  have hle2 := hH.row.le
  have hrb : ∀ y, blk ha y → M1 y = none := fun y ⟨q, hq, e⟩ => e ▸ (hH.row.block hq).1
  have hdb : ∀ m ∈ ls, ∀ y, blk m.a y → M1 y = none := fun m hm y ⟨q, hq, e⟩ => e ▸ ((hH.data m hm).block hq).1
  have keepLe : ∀ {X : Nat → Prop} {M3 M4 : Mem}, M1.le M3 → Mem.keep X M3 M4 → (∀ y, X y → M1 y = none) → M1.le M4 := fun {X M3 M4} h1 h2 h3 y o ho => h2 y o (fun hy => by rw [h3 y hy] at ho; cases ho) (h1 y o ho)
  have rows : ∀ {M3 : Mem} {r : List MX} {m : MX} {q : List UInt8}, Wr M3 T.api_Msg 5 ha hn hc (r.flatMap encX) → Wr M3 T.uint8 1 m.a m.p.length m.c (q.map byteV) → ∀ y, blk ha y → ¬ blk m.a y := fun {M3 r m q} h1 h2 y ⟨q1, hq1, e1⟩ ⟨q2, hq2, e2⟩ => by
    obtain ⟨c1, g1⟩ := h1.block hq1
    obtain ⟨c2, g2⟩ := h2.block hq2
    rw [e1] at g1
    rw [e2] at g2
    exact absurd (g1.inj g2).1 (by decide)
  (conv => whnf)
  refine loopF (σ := Nat × Mem × List MX) [11] (fun y => [(11, .int .i64 y.1)]) (fun _ => [.live T.portagelaw15_Set [.v (.int .i64 self), .v (.int .i64 qh), .v (.int .i64 qb), .v (.int .i64 qg)], .live T.api_Ev [.v (.int .i64 x.kind), .v (.int .i64 x.id.o), .v (.int .i64 x.id.d), .v (.int .i64 x.id.e), .v (.int .i64 x.id.c), .v (.slice xa x.p.length xc)], .live T.portageref15_Store (docCs S D)]) (fun y => y.2.1)
    (fun | ⟨i, Mx, r⟩ => i ≤ hn ∧ M1.le Mx ∧ Wr Mx T.api_Msg 5 ha hn hc (r.flatMap encX) ∧ r.drop i = ls.drop i ∧ LooseD Mx (ls.drop i)) (fun y => hn - y.1) ⟨0, M2, ls⟩
    ⟨by omega, hle2, hH.row.wr, rfl, fun m hm => ⟨m.p, (hH.data m (by simpa using hm)).wr⟩⟩ ⟨(by repeat' first | exact True.intro | refine ⟨rfl, ?_⟩), (by repeat' first | exact True.intro | refine ⟨rfl, ?_⟩), Mem.le_refl _, rfl⟩ ?_
  rintro ⟨i, Mx, r⟩ ⟨hi, hlex, hrow, hdr, hloose⟩
  (conv => whnf); refine brn (fun g => ?_) (fun g => ?_)
  · have hlt : i < hn := by have := of_decide_eq_true g; dsimp only at this; omega
    have hll : i < ls.length := by omega
    have hrl : r.length = hn := hrow.src.flen encX_len (by decide)
    have hrx : r[i]? = some ls[i] := by
      have := congrArg (·[0]?) hdr
      simpa [List.getElem?_drop, List.getElem?_eq_getElem hll] using this
    have hdrop := List.drop_eq_getElem_cons hll
    have hap := hH.apart
    rw [← List.take_append_drop i ls, List.pairwise_append] at hap
    have hap2 := hap.2.1
    rw [hdrop, List.pairwise_cons] at hap2
    rw [hdrop] at hloose
    have hmem : ls[i] ∈ ls := List.getElem_mem _
    have hp48 := hpl _ hmem
    have hdbi := hdb _ hmem
    generalize ls[i] = m at *
    (conv => whnf)
    refine loopF (σ := Nat × Mem) [12] (fun y => [(12, .int .i64 y.1)]) (fun _ => [.live T.portagelaw15_Set [.v (.int .i64 self), .v (.int .i64 qh), .v (.int .i64 qb), .v (.int .i64 qg)], .live T.api_Ev [.v (.int .i64 x.kind), .v (.int .i64 x.id.o), .v (.int .i64 x.id.d), .v (.int .i64 x.id.e), .v (.int .i64 x.id.c), .v (.slice xa x.p.length xc)], .live T.portageref15_Store (docCs S D)]) (fun y => y.2)
      (fun | ⟨k, My⟩ => k ≤ m.p.length ∧ M1.le My ∧ Wr My T.api_Msg 5 ha hn hc (r.flatMap encX) ∧ LooseD My (m :: ls.drop (i + 1))) (fun y => m.p.length - y.1) ⟨0, Mx⟩ ⟨by omega, hlex, hrow, hloose⟩ ⟨(by repeat' first | exact True.intro | refine ⟨rfl, ?_⟩), (by repeat' first | exact True.intro | refine ⟨rfl, ?_⟩), Mem.le_refl _, rfl⟩ ?_
    rintro ⟨k, My⟩ ⟨hk, hley, hrowy, hly⟩
    obtain ⟨b1, o1, ha1, hcc⟩ := hrowy.src.fcells encX_len (by decide) hrx
    (conv => whnf); refine ob (by first | omega | (dsimp only; omega)) ?_
    (conv => whnf); refine atp ha1 ?_
    (conv => whnf); refine on (hcc 4 _ rfl) ?_
    (conv => whnf); refine brn (fun g1 => ?_) (fun g1 => ?_)
    · have hkl : k < m.p.length := by have := of_decide_eq_true g1; dsimp only at this; omega
      obtain ⟨q, hq⟩ := hly m (by simp)
      obtain ⟨hlt2, b6, o6, ha6, hrow6⟩ := hq.src.at hkl
      obtain ⟨b7, cs7, ha7, hcells, hlen7, hst7⟩ := hq.store1 hkl
      have hb67 : b7 = b6 ∧ o6 = 0 := by rw [ha7] at ha6; cases ha6; exact ⟨rfl, rfl⟩
      obtain ⟨rfl, rfl⟩ := hb67
      (conv => whnf); refine ob (by first | omega | (dsimp only; omega)) ?_
      (conv => whnf); refine atp ha1 ?_
      (conv => whnf); refine on (hcc 4 _ rfl) ?_
      repeat' ((conv => whnf); first | refine ⟨?_, True.intro⟩ | refine brn_t rfl ?_ | refine brn_f rfl ?_ | refine ob rfl ?_ | refine ob (by decide) ?_ | refine grow_same (Mem.le_refl _) ?_ | refine ob (Mem.le_refl _) ?_ | refine ⟨_, Mem.le_refl _, ?_⟩ | fail)
      refine ob (by first | omega | (dsimp only; omega)) ?_
      (conv => whnf); refine atp ha1 ?_
      (conv => whnf); refine on (hcc 4 _ rfl) ?_
      (conv => whnf); refine ob (by first | omega | (dsimp only; omega)) ?_
      (conv => whnf); refine atp ha6 ?_
      (conv => whnf); refine on hrow6 ?_
      (conv => whnf); refine ob (by first | omega | (dsimp only; omega)) ?_
      (conv => whnf); refine atp ha6 ?_
      (conv => whnf)
      rw [sub_byte]
      repeat' ((conv => whnf); first | refine ⟨?_, True.intro⟩ | refine brn_t rfl ?_ | refine brn_f rfl ?_ | refine ob rfl ?_ | refine ob (by decide) ?_ | refine grow_same (Mem.le_refl _) ?_ | refine ob (Mem.le_refl _) ?_ | refine ⟨_, Mem.le_refl _, ?_⟩ | fail)
      refine on hcells ?_
      (conv => whnf); refine ob (by dsimp only; omega) ?_
      obtain ⟨hw8, hk8⟩ := hst7 (255 - q[k])
      repeat' ((conv => whnf); first | refine ⟨?_, True.intro⟩ | refine brn_t rfl ?_ | refine brn_f rfl ?_ | refine ob rfl ?_ | refine ob (by decide) ?_ | refine grow_same (Mem.le_refl _) ?_ | refine ob (Mem.le_refl _) ?_ | refine ⟨_, Mem.le_refl _, ?_⟩ | fail)
      refine ob (inR_i64 (by first | omega | (dsimp only; omega))) ?_
      (conv => whnf)
      refine ⟨⟨k + 1, _⟩, ⟨by omega, keepLe hley hk8 hdbi, hrowy.mono fun q' o hq' ho => hk8 _ o (rows hrowy hq _ ⟨q', hq', rfl⟩) ho, fun m' hm' => ?_⟩, by dsimp only; omega, ⟨(by repeat' first | exact True.intro | refine ⟨rfl, ?_⟩), (by repeat' first | exact True.intro | refine ⟨rfl, ?_⟩), Mem.le_refl _, rfl⟩⟩
      rcases List.mem_cons.1 hm' with rfl | hm'
      · exact ⟨_, hw8⟩
      · obtain ⟨q', hq'⟩ := hly m' (by simp [hm'])
        exact ⟨q', hq'.mono fun q2 o hq2 ho => hk8 _ o (fun hb => hap2.1 m' hm' _ hb ⟨q2, hq2, rfl⟩) ho⟩
    obtain ⟨b5, cs5, ha5, hcells5, hlen5, hset5⟩ := hrowy.fset encX_len (by decide) hlt
    have hb15 : b5 = b1 ∧ o1 = 0 := by rw [ha5] at ha1; cases ha1; exact ⟨rfl, rfl⟩
    obtain ⟨rfl, rfl⟩ := hb15
    obtain ⟨hw5, hk5⟩ := hset5 zeroX
    (conv => whnf); refine ob (by first | omega | (dsimp only; omega)) ?_
    (conv => whnf); refine atp ha1 ?_
    (conv => whnf)
    refine on hcells5 ?_
    (conv => whnf); refine ob (by dsimp only; omega) ?_
    (conv => whnf); refine ob (inR_i64 (by first | omega | (dsimp only; omega))) ?_
    (conv => whnf)
    refine ⟨⟨i + 1, _, r.set i zeroX⟩, ⟨by omega, keepLe hley hk5 hrb, hw5, ?_, fun m' hm' => ?_⟩, by dsimp only; omega, ⟨(by repeat' first | exact True.intro | refine ⟨rfl, ?_⟩), (by repeat' first | exact True.intro | refine ⟨rfl, ?_⟩), Mem.le_refl _, rfl⟩⟩
    · have := congrArg (List.drop 1) hdr
      rw [List.drop_drop, List.drop_drop] at this
      rw [List.drop_set_of_lt (by omega)]; exact this
    · obtain ⟨q', hq'⟩ := hly m' (by simp [hm'])
      exact ⟨q', hq'.mono fun q2 o hq2 ho => hk5 _ o (fun hb => rows hrowy hq' _ hb ⟨q2, hq2, rfl⟩) ho⟩
  (conv => whnf)
  have hF := hBo.own.to hlex
  refine (State_ok hF (by omega) (by omega)).mono ?_
  rintro v M5 ⟨ua, uc, ha5, hc5, ms5, ma, mc, mk, rfl, hle5, hN5, hH5, hmsg5, hMk5, hperm5, -⟩
  have hle15 := Mem.le_trans hlex hle5
  have hub : ∀ y, blk ua y → Mx y = none := fun y ⟨q, hq, e⟩ => e ▸ (hN5.block hq).1
  have hus : (usedD S.used).length ≤ 64 := by have h9 : (usedD S.used).length ≤ S.used.length := usedF_len _ 0; have := hI.ulen; omega
  have keepLx : ∀ {X : Nat → Prop} {M3 M4 : Mem}, Mx.le M3 → Mem.keep X M3 M4 → (∀ y, X y → Mx y = none) → Mx.le M4 := fun {X M3 M4} h1 h2 h3 y o ho => h2 y o (fun hy => by rw [h3 y hy] at ho; cases ho) (h1 y o ho)
  (conv => whnf)
  refine loopF (σ := Nat × Mem × List (Int × Int)) [14] (fun y => [(14, .int .i64 y.1)]) (fun _ => [.live T.portagelaw15_Set [.v (.int .i64 self), .v (.int .i64 qh), .v (.int .i64 qb), .v (.int .i64 qg)], .live T.api_Ev [.v (.int .i64 x.kind), .v (.int .i64 x.id.o), .v (.int .i64 x.id.d), .v (.int .i64 x.id.e), .v (.int .i64 x.id.c), .v (.slice xa x.p.length xc)], .live T.portageref15_Store (docCs S D), .live T.api_State [.v (.int .i64 S.self), .v (.int .i64 S.epoch), .v (.slice ua (usedD S.used).length uc), .v (.slice ha5 ms5.length hc5), .v (.slice ma mk.length mc)]]) (fun y => y.2.1)
    (fun | ⟨k, My, u⟩ => k ≤ (usedD S.used).length ∧ Mx.le My ∧ Wr My T.api_Next 2 ua (usedD S.used).length uc (u.flatMap encN)) (fun y => (usedD S.used).length - y.1) ⟨0, M5, usedD S.used⟩ ⟨by omega, hle5, hN5.wr⟩ ⟨(by repeat' first | exact True.intro | refine ⟨rfl, ?_⟩), (by repeat' first | exact True.intro | refine ⟨rfl, ?_⟩), Mem.le_refl _, rfl⟩ ?_
  rintro ⟨k, My, u⟩ ⟨hk, hley, hwy⟩
  have hul : u.length = (usedD S.used).length := hwy.src.flen encN_len (by decide)
  (conv => whnf); refine brn (fun g1 => ?_) (fun g1 => ?_)
  · have hkl : k < u.length := by have := of_decide_eq_true g1; dsimp only at this; omega
    have hux : u[k]? = some u[k] := List.getElem?_eq_getElem hkl
    obtain ⟨b7, cs7, ha7, hcells, hlen7, hst7⟩ := hwy.fstore encN_len hux (p := 1) (by decide)
    obtain ⟨hw8, hk8⟩ := hst7 (u[k].1, 77) (.int .i64 77) rfl
    (conv => whnf); refine ob (by first | omega | (dsimp only; omega)) ?_
    (conv => whnf); refine atp ha7 ?_
    (conv => whnf); refine on hcells ?_
    (conv => whnf); refine ob (by dsimp only; omega) ?_
    repeat' ((conv => whnf); first | refine ⟨?_, True.intro⟩ | refine brn_t rfl ?_ | refine brn_f rfl ?_ | refine ob rfl ?_ | refine ob (by decide) ?_ | refine grow_same (Mem.le_refl _) ?_ | refine ob (Mem.le_refl _) ?_ | refine ⟨_, Mem.le_refl _, ?_⟩ | fail)
    refine ob (inR_i64 (by first | omega | (dsimp only; omega))) ?_
    (conv => whnf)
    exact ⟨⟨k + 1, _, u.set k (u[k].1, 77)⟩, ⟨by omega, keepLx hley hk8 hub, hw8⟩, by dsimp only; omega, ⟨(by repeat' first | exact True.intro | refine ⟨rfl, ?_⟩), (by repeat' first | exact True.intro | refine ⟨rfl, ?_⟩), Mem.le_refl _, rfl⟩⟩
  have h1y := Mem.le_trans hlex hley
  have hFy := hBo.own.to h1y
  have hMy := Mem.le_trans hMB hFy.le
  (conv => whnf)
  refine (May15_ok hFy x.kind x.id xa x.p.length xc hxl).mono ?_
  rintro v M6 ⟨rfl, hle6⟩
  have hF6 := hFy.to hle6
  repeat' ((conv => whnf); first | refine ⟨?_, True.intro⟩ | refine brn_t rfl ?_ | refine brn_f rfl ?_ | refine ob rfl ?_ | refine ob (by decide) ?_ | refine grow_same (Mem.le_refl _) ?_ | refine ob (Mem.le_refl _) ?_ | refine ⟨_, Mem.le_refl _, ?_⟩ | fail)
  refine (told_ok ⟨hF6, hBo.doc, hBo.rel⟩ (by omega) (by omega) (by omega)).mono ?_
  rintro v M7 ⟨rfl, hle7⟩
  have hF7 := hF6.to hle7
  have hM7 : M.le M7 := Mem.le_trans hMB hF7.le
  repeat' ((conv => whnf); first | refine ⟨?_, True.intro⟩ | refine brn_t rfl ?_ | refine brn_f rfl ?_ | refine ob rfl ?_ | refine ob (by decide) ?_ | refine grow_same (Mem.le_refl _) ?_ | refine ob (Mem.le_refl _) ?_ | refine ⟨_, Mem.le_refl _, ?_⟩ | fail)
  refine (Apply15_ok hF7 x.kind x.id (hx.le hM7) hxl (by omega)).mono ?_
  rintro v M8 ⟨came8, xs8, es8, rfl, hcc8, h8, hst8⟩
  (conv => whnf); refine brn_t (by simp) ?_
  (conv => whnf); refine brn (fun g3 => ?_) (fun g3 => ?_)
  · repeat' ((conv => whnf); first | refine ⟨?_, True.intro⟩ | refine brn_t rfl ?_ | refine brn_f rfl ?_ | refine ob rfl ?_ | refine ob (by decide) ?_ | refine grow_same (Mem.le_refl _) ?_ | refine ob (Mem.le_refl _) ?_ | refine ⟨_, Mem.le_refl _, ?_⟩ | fail)
    refine awake_ok.mono ?_
    rintro v M9 ⟨rfl, hle9⟩
    repeat' ((conv => whnf); first | refine ⟨?_, True.intro⟩ | refine brn_t rfl ?_ | refine brn_f rfl ?_ | refine ob rfl ?_ | refine ob (by decide) ?_ | refine grow_same (Mem.le_refl _) ?_ | refine ob (Mem.le_refl _) ?_ | refine ⟨_, Mem.le_refl _, ?_⟩ | fail)
    exact ⟨rfl, Mem.le_trans hMB (Mem.le_trans h8.le hle9)⟩
  · have g4 : ¬ mayD S (setMay S es) x.kind x.id x.p.length = 0 := by simpa using g3
    rw [if_neg g4] at h8
    rw [if_neg (fun h => g4 h.1)] at hst8
    subst hst8
    repeat' ((conv => whnf); first | refine ⟨?_, True.intro⟩ | refine brn_t rfl ?_ | refine brn_f rfl ?_ | refine ob rfl ?_ | refine ob (by decide) ?_ | refine grow_same (Mem.le_refl _) ?_ | refine ob (Mem.le_refl _) ?_ | refine ⟨_, Mem.le_refl _, ?_⟩ | fail)
    refine (told_ok ⟨h8, hBo.doc, hBo.rel⟩ (by omega) (by omega) (by omega)).mono ?_
    rintro v M9 ⟨rfl, hle9⟩
    repeat' ((conv => whnf); first | refine ⟨?_, True.intro⟩ | refine brn_t rfl ?_ | refine brn_f rfl ?_ | refine ob rfl ?_ | refine ob (by decide) ?_ | refine grow_same (Mem.le_refl _) ?_ | refine ob (Mem.le_refl _) ?_ | refine ⟨_, Mem.le_refl _, ?_⟩ | fail)
    refine awake_ok.mono ?_
    rintro v M10 ⟨rfl, hle10⟩
    repeat' ((conv => whnf); first | refine ⟨?_, True.intro⟩ | refine brn_t rfl ?_ | refine brn_f rfl ?_ | refine ob rfl ?_ | refine ob (by decide) ?_ | refine grow_same (Mem.le_refl _) ?_ | refine ob (Mem.le_refl _) ?_ | refine ⟨_, Mem.le_refl _, ?_⟩ | fail)
    exact ⟨rfl, Mem.le_trans hMB (Mem.le_trans h8.le (Mem.le_trans hle9 hle10))⟩
end Go.Proofs.YtlocjjponfbhmaaGreat

