/- The disk: the laws' helpers: may, done, same. -/
import Derived.Test.YtdjgmhifocdelaaDiskT
import Derived.Test.YtdjgmhifocdelaaDiskNil
namespace Go.Proofs.Ytdjgmhifocdelaa
open Go Go.Vm
attribute [local irreducible] Brn Ob Grow CallsM inR LoopVC Mem.row Mem.cells Mem.setCells Mem.upd Own AppVC SrcVC StrVC NextVC New SrcOk subA NewSl Mem.textAt Mem.mapAt Mem.iterAt entryOf kfind Wr NewEls Elems
set_option maxRecDepth 10000
variable {M M0 : Mem} {p b : Nat} {D : DiskR} {es : FsT}
theorem may_ok (limit : Int) : CallsM Try.prog F.law10_may [.int .i64 limit] M fun v M' => v = .bool (decide (¬ (limit < 1 ∨ 1048576 < limit))) ∧ M = M' := by
  refine fo_law10_may (by simp) ?_
  (conv => whnf); refine brn (fun g => ?_) (fun g => ?_)
  · replace g := of_decide_eq_true g
    repeat' ((conv => whnf); first | refine ⟨?_, True.intro⟩ | refine brn_t rfl ?_ | refine brn_f rfl ?_ | refine ob rfl ?_ | refine ob (by decide) ?_ | refine grow_same (Mem.le_refl _) ?_ | refine ob (Mem.le_refl _) ?_ | refine ⟨_, Mem.le_refl _, ?_⟩ | fail)
    refine ⟨?_, rfl⟩
    congr 1
    exact decide_eq_decide.2 ⟨fun h => by omega, fun h => by omega⟩
  · replace g := of_decide_eq_false g
    repeat' ((conv => whnf); first | refine ⟨?_, True.intro⟩ | refine brn_t rfl ?_ | refine brn_f rfl ?_ | refine ob rfl ?_ | refine ob (by decide) ?_ | refine grow_same (Mem.le_refl _) ?_ | refine ob (Mem.le_refl _) ?_ | refine ⟨_, Mem.le_refl _, ?_⟩ | fail)
    refine ⟨?_, rfl⟩
    rw [decide_eq_false (by omega)]
/-- what lies at a place of a list of calls -/
theorem act_at {a : Option Addr} {n : Nat} {l : List ActD} (h : Elems M 6 a n (ActR M) l) {i : Nat} (hi : i < n) :
    ∃ (hl : i < l.length) (bb o : Nat) (a1 : Option Addr) (n1 c1 : Nat) (a2 : Option Addr) (n2 c2 : Nat), a = some ⟨bb, o, none⟩ ∧ (∀ (q : Nat) v, (actCs l[i] a1 n1 c1 a2 n2 c2)[q]? = some v → M.row bb (o + i * 6 + q) 1 = some [v]) ∧ M.row bb (o + i * 6) 6 = some (actCs l[i] a1 n1 c1 a2 n2 c2) ∧
      SrcOk M 1 a1 n1 (l[i].p.map byteV) ∧ n1 ≤ 1048576 ∧ SrcOk M 1 a2 n2 (l[i].keep.map intV) ∧ n2 ≤ 1048576 ∧ l[i].name.size ≤ 1048576 ∧ l[i].to.size ≤ 1048576 ∧ (-9223372036854775808 ≤ l[i].n ∧ l[i].n ≤ 9223372036854775807) := by
  obtain ⟨hl, bb, o, cs, ha, hk, hrow, hlen, a1, n1, c1, a2, n2, c2, rfl, h1, h2, h3, h4, h5, h6, h7⟩ := h.at (by decide) hi
  refine ⟨hl, bb, o, a1, n1, c1, a2, n2, c2, ha, fun q v hv => ?_, hrow, h1, h2, h3, h4, h5, h6, h7⟩
  have hq := (List.getElem?_eq_some_iff.1 hv).1
  rw [hlen] at hq
  rw [hk q 1 (by omega), List.drop_eq_getElem_cons (by rw [hlen]; exact hq)]
  have := (List.getElem?_eq_some_iff.1 hv).2
  simp only [List.take_succ_cons, List.take_zero, this]
theorem done_ok (limit : Int) {a : Option Addr} {n c : Nat} {l : List ActD} (hl : Elems M 6 a n (ActR M) l) (hn : n ≤ 1048576) :
    CallsM Try.prog F.law10_done [.int .i64 limit, .slice a n c] M fun v M' => ((limit < 1 ∨ 1048576 < limit) ∧ v = np ∧ M' = M) ∨
      (¬ (limit < 1 ∨ 1048576 < limit) ∧ ∃ p b D es, v = ptr p ∧ FreshD M M' p b D es ∧ InvN limit D) := by
  refine fo_law10_done (by simp) ?_
  (conv => whnf); refine (newF limit).mono ?_
  rintro v M1 (⟨hg, rfl, rfl⟩ | ⟨hg, p, b, rfl, h1⟩)
  · repeat' ((conv => whnf); first | refine ⟨?_, True.intro⟩ | refine brn_t rfl ?_ | refine brn_f rfl ?_ | refine ob rfl ?_ | refine ob (by decide) ?_ | refine grow_same (Mem.le_refl _) ?_ | refine ob (Mem.le_refl _) ?_ | refine ⟨_, Mem.le_refl _, ?_⟩ | fail)
    exact .inl ⟨hg, rfl, rfl⟩
  repeat' ((conv => whnf); first | refine ⟨?_, True.intro⟩ | refine brn_t rfl ?_ | refine brn_f rfl ?_ | refine ob rfl ?_ | refine ob (by decide) ?_ | refine grow_same (Mem.le_refl _) ?_ | refine ob (Mem.le_refl _) ?_ | refine ⟨_, Mem.le_refl _, ?_⟩ | fail)
  refine loopF (σ := Nat × Mem × DiskR × FsT) [7] (fun y => [(7, .int .i64 y.1)]) (fun _ => []) (fun y => y.2.1)
    (fun | ⟨i, Mc, D, es⟩ => i ≤ n ∧ FreshD M Mc p b D es ∧ InvN limit D) (fun y => n - y.1) ⟨0, M1, _, _⟩ ⟨by omega, h1, InvN.new hg⟩ ⟨(by repeat' first | exact True.intro | refine ⟨rfl, ?_⟩), (by repeat' first | exact True.intro | refine ⟨rfl, ?_⟩), Mem.le_refl _, rfl⟩ ?_
  rintro ⟨i, Mc, D, es⟩ ⟨hi, hF, hN⟩
  (conv => whnf); refine brn (fun g => ?_) (fun g => ?_)
  rotate_left
  · (conv => whnf)
    repeat' ((conv => whnf); first | refine ⟨?_, True.intro⟩ | refine brn_t rfl ?_ | refine brn_f rfl ?_ | refine ob rfl ?_ | refine ob (by decide) ?_ | refine grow_same (Mem.le_refl _) ?_ | refine ob (Mem.le_refl _) ?_ | refine ⟨_, Mem.le_refl _, ?_⟩ | fail)
    exact .inr ⟨hg, p, b, D, es, rfl, hF, hN⟩
  have hlt : i < n := by have := of_decide_eq_true g; dsimp only at this; omega
  obtain ⟨hil, bb, o, a1, n1, c1, a2, n2, c2, ha, hc, hrow, hp, hp1, hk, hk1, hnm, hto, hnn⟩ := act_at hl hlt
  generalize l[i] = x at *
  have hc' := fun q v hv => Mem.row_le hF.le (hc q v hv)
  (conv => whnf); refine brn (fun g1 => ?_) (fun g1 => ?_)
  rotate_left
  · (conv => whnf)
    repeat' ((conv => whnf); first | refine ⟨?_, True.intro⟩ | refine brn_t rfl ?_ | refine brn_f rfl ?_ | refine ob rfl ?_ | refine ob (by decide) ?_ | refine grow_same (Mem.le_refl _) ?_ | refine ob (Mem.le_refl _) ?_ | refine ⟨_, Mem.le_refl _, ?_⟩ | fail)
    exact .inr ⟨hg, p, b, D, es, rfl, hF, hN⟩
  (conv => whnf); refine ob (by first | omega | (dsimp only; omega)) ?_
  (conv => whnf); refine atp ha ?_
  (conv => whnf); refine on (hc' 0 _ rfl) ?_
  (conv => whnf); refine brn (fun g2 => ?_) (fun g2 => ?_)
  · (conv => whnf)
    (conv => whnf); refine ob (by first | omega | (dsimp only; omega)) ?_
    (conv => whnf); refine atp ha ?_
    (conv => whnf); refine on (hc' 1 _ rfl) ?_
    (conv => whnf); refine ob (by first | omega | (dsimp only; omega)) ?_
    (conv => whnf); refine atp ha ?_
    (conv => whnf); refine on (hc' 3 _ rfl) ?_
    (conv => whnf); refine ⟨?_, True.intro⟩
    (conv => whnf); refine (appendF hF (by omega) (hp.le hF.le)).mono ?_
    rintro v M2 ⟨es2, rfl, h2⟩
    have hN2 := hN.append x.name x.p
    repeat' ((conv => whnf); first | refine ⟨?_, True.intro⟩ | refine brn_t rfl ?_ | refine brn_f rfl ?_ | refine ob rfl ?_ | refine ob (by decide) ?_ | refine grow_same (Mem.le_refl _) ?_ | refine ob (Mem.le_refl _) ?_ | refine ⟨_, Mem.le_refl _, ?_⟩ | fail)
    refine ob (inR_i64 (by first | omega | (dsimp only; omega))) ?_
    (conv => whnf)
    exact ⟨⟨i + 1, M2, _, _⟩, ⟨by omega, h2, hN2⟩, by dsimp only; omega, ⟨(by repeat' first | exact True.intro | refine ⟨rfl, ?_⟩), (by repeat' first | exact True.intro | refine ⟨rfl, ?_⟩), Mem.le_refl _, rfl⟩⟩
  (conv => whnf); refine brn (fun g3 => ?_) (fun g3 => ?_)
  · (conv => whnf)
    (conv => whnf); refine ob (by first | omega | (dsimp only; omega)) ?_
    (conv => whnf); refine atp ha ?_
    (conv => whnf); refine on (hc' 1 _ rfl) ?_
    (conv => whnf); refine (syncF hF (by omega)).mono ?_
    rintro v M2 ⟨es2, rfl, h2⟩
    have hN2 := hN.sync x.name
    repeat' ((conv => whnf); first | refine ⟨?_, True.intro⟩ | refine brn_t rfl ?_ | refine brn_f rfl ?_ | refine ob rfl ?_ | refine ob (by decide) ?_ | refine grow_same (Mem.le_refl _) ?_ | refine ob (Mem.le_refl _) ?_ | refine ⟨_, Mem.le_refl _, ?_⟩ | fail)
    refine ob (inR_i64 (by first | omega | (dsimp only; omega))) ?_
    (conv => whnf)
    exact ⟨⟨i + 1, M2, _, _⟩, ⟨by omega, h2, hN2⟩, by dsimp only; omega, ⟨(by repeat' first | exact True.intro | refine ⟨rfl, ?_⟩), (by repeat' first | exact True.intro | refine ⟨rfl, ?_⟩), Mem.le_refl _, rfl⟩⟩
  (conv => whnf); refine brn (fun g4 => ?_) (fun g4 => ?_)
  · (conv => whnf)
    (conv => whnf); refine ob (by first | omega | (dsimp only; omega)) ?_
    (conv => whnf); refine atp ha ?_
    (conv => whnf); refine on (hc' 1 _ rfl) ?_
    (conv => whnf); refine ob (by first | omega | (dsimp only; omega)) ?_
    (conv => whnf); refine atp ha ?_
    (conv => whnf); refine on (hc' 4 _ rfl) ?_
    (conv => whnf); refine ⟨?_, True.intro⟩
    (conv => whnf); refine (cutF hF (by omega) x.n).mono ?_
    rintro v M2 ⟨es2, rfl, h2⟩
    have hN2 := hN.cut x.name x.n
    repeat' ((conv => whnf); first | refine ⟨?_, True.intro⟩ | refine brn_t rfl ?_ | refine brn_f rfl ?_ | refine ob rfl ?_ | refine ob (by decide) ?_ | refine grow_same (Mem.le_refl _) ?_ | refine ob (Mem.le_refl _) ?_ | refine ⟨_, Mem.le_refl _, ?_⟩ | fail)
    refine ob (inR_i64 (by first | omega | (dsimp only; omega))) ?_
    (conv => whnf)
    exact ⟨⟨i + 1, M2, _, _⟩, ⟨by omega, h2, hN2⟩, by dsimp only; omega, ⟨(by repeat' first | exact True.intro | refine ⟨rfl, ?_⟩), (by repeat' first | exact True.intro | refine ⟨rfl, ?_⟩), Mem.le_refl _, rfl⟩⟩
  (conv => whnf); refine brn (fun g5 => ?_) (fun g5 => ?_)
  · (conv => whnf)
    (conv => whnf); refine ob (by first | omega | (dsimp only; omega)) ?_
    (conv => whnf); refine atp ha ?_
    (conv => whnf); refine on (hc' 1 _ rfl) ?_
    (conv => whnf); refine ob (by first | omega | (dsimp only; omega)) ?_
    (conv => whnf); refine atp ha ?_
    (conv => whnf); refine on (hc' 2 _ rfl) ?_
    (conv => whnf); refine ⟨?_, True.intro⟩
    (conv => whnf); refine (renameF hF (by omega) (by omega)).mono ?_
    rintro v M2 ⟨es2, rfl, h2⟩
    have hN2 := hN.rename x.name x.to
    repeat' ((conv => whnf); first | refine ⟨?_, True.intro⟩ | refine brn_t rfl ?_ | refine brn_f rfl ?_ | refine ob rfl ?_ | refine ob (by decide) ?_ | refine grow_same (Mem.le_refl _) ?_ | refine ob (Mem.le_refl _) ?_ | refine ⟨_, Mem.le_refl _, ?_⟩ | fail)
    refine ob (inR_i64 (by first | omega | (dsimp only; omega))) ?_
    (conv => whnf)
    exact ⟨⟨i + 1, M2, _, _⟩, ⟨by omega, h2, hN2⟩, by dsimp only; omega, ⟨(by repeat' first | exact True.intro | refine ⟨rfl, ?_⟩), (by repeat' first | exact True.intro | refine ⟨rfl, ?_⟩), Mem.le_refl _, rfl⟩⟩
  (conv => whnf); refine brn (fun g6 => ?_) (fun g6 => ?_)
  · (conv => whnf)
    (conv => whnf); refine ob (by first | omega | (dsimp only; omega)) ?_
    (conv => whnf); refine atp ha ?_
    (conv => whnf); refine on (hc' 1 _ rfl) ?_
    (conv => whnf); refine (removeF hF (by omega)).mono ?_
    rintro v M2 ⟨es2, rfl, h2⟩
    have hN2 := hN.remove x.name
    repeat' ((conv => whnf); first | refine ⟨?_, True.intro⟩ | refine brn_t rfl ?_ | refine brn_f rfl ?_ | refine ob rfl ?_ | refine ob (by decide) ?_ | refine grow_same (Mem.le_refl _) ?_ | refine ob (Mem.le_refl _) ?_ | refine ⟨_, Mem.le_refl _, ?_⟩ | fail)
    refine ob (inR_i64 (by first | omega | (dsimp only; omega))) ?_
    (conv => whnf)
    exact ⟨⟨i + 1, M2, _, _⟩, ⟨by omega, h2, hN2⟩, by dsimp only; omega, ⟨(by repeat' first | exact True.intro | refine ⟨rfl, ?_⟩), (by repeat' first | exact True.intro | refine ⟨rfl, ?_⟩), Mem.le_refl _, rfl⟩⟩
  (conv => whnf)
  obtain ⟨M2, hM2⟩ : ∃ M2, M2 = Mc := ⟨_, rfl⟩
  have h2 : FreshD M M2 p b D es := by rw [hM2]; exact hF
  have hN2 := hN
  erw [← hM2]
  repeat' ((conv => whnf); first | refine ⟨?_, True.intro⟩ | refine brn_t rfl ?_ | refine brn_f rfl ?_ | refine ob rfl ?_ | refine ob (by decide) ?_ | refine grow_same (Mem.le_refl _) ?_ | refine ob (Mem.le_refl _) ?_ | refine ⟨_, Mem.le_refl _, ?_⟩ | fail)
  refine ob (inR_i64 (by first | omega | (dsimp only; omega))) ?_
  (conv => whnf)
  exact ⟨⟨i + 1, M2, _, _⟩, ⟨by omega, h2, hN2⟩, by dsimp only; omega, ⟨(by repeat' first | exact True.intro | refine ⟨rfl, ?_⟩), (by repeat' first | exact True.intro | refine ⟨rfl, ?_⟩), Mem.le_refl _, rfl⟩⟩
end Go.Proofs.Ytdjgmhifocdelaa
