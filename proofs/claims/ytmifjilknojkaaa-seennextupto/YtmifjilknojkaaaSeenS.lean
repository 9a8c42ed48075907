/- SeenNext, as a contract. -/
import Derived.Test.YtmifjilknojkaaaSeenR
namespace Go.Proofs.Ytmifjilknojkaaa
open Go Go.Vm
attribute [local irreducible] Brn Ob Grow CallsM inR LoopVC Mem.row Mem.cells Mem.setCells Mem.upd Own AppVC SrcVC StrVC NextVC New SrcOk subA NewSl Mem.textAt Mem.mapAt Mem.iterAt entryOf kfind Wr NewEls Elems
set_option maxRecDepth 10000
variable {M M0 : Mem} {p b : Nat} {gaps : Int} {es : EsT}
theorem next_law (gaps : Int) {a : Option Addr} {n c : Nat} {L : List IdT} (hs : SrcOk M 4 a n (L.flatMap idCs)) (hn : n ≤ 1048576) (hc : n ≤ c) :
    CallsM Try.prog F.law14_SeenNext [.int .i64 gaps, .slice a n c] M fun v M' => v = .bool true ∧ M.le M' := by
  refine fo_law14_SeenNext (by simp) ?_
  (conv => whnf); refine (newS gaps).mono ?_
  rintro v M1 (⟨hg, rfl, rfl⟩ | ⟨hg, p, b, rfl, h1⟩)
  · repeat' ((conv => whnf); first | refine ⟨?_, True.intro⟩ | refine brn_t rfl ?_ | refine brn_f rfl ?_ | refine ob rfl ?_ | refine ob (by decide) ?_ | refine grow_same (Mem.le_refl _) ?_ | refine ob (Mem.le_refl _) ?_ | refine ⟨_, Mem.le_refl _, ?_⟩ | fail)
    refine brn (fun g1 => ?_) (fun g1 => ?_)
    · repeat' ((conv => whnf); first | refine ⟨?_, True.intro⟩ | refine brn_t rfl ?_ | refine brn_f rfl ?_ | refine ob rfl ?_ | refine ob (by decide) ?_ | refine grow_same (Mem.le_refl _) ?_ | refine ob (Mem.le_refl _) ?_ | refine ⟨_, Mem.le_refl _, ?_⟩ | fail)
      refine awake_ok.mono ?_
      rintro v M2 ⟨rfl, hle⟩
      repeat' ((conv => whnf); first | refine ⟨?_, True.intro⟩ | refine brn_t rfl ?_ | refine brn_f rfl ?_ | refine ob rfl ?_ | refine ob (by decide) ?_ | refine grow_same (Mem.le_refl _) ?_ | refine ob (Mem.le_refl _) ?_ | refine ⟨_, Mem.le_refl _, ?_⟩ | fail)
      exact ⟨rfl, hle⟩
    · (conv => whnf); refine brn (fun g2 => ?_) (fun g2 => ?_)
      · repeat' ((conv => whnf); first | refine ⟨?_, True.intro⟩ | refine brn_t rfl ?_ | refine brn_f rfl ?_ | refine ob rfl ?_ | refine ob (by decide) ?_ | refine grow_same (Mem.le_refl _) ?_ | refine ob (Mem.le_refl _) ?_ | refine ⟨_, Mem.le_refl _, ?_⟩ | fail)
        refine awake_ok.mono ?_
        rintro v M2 ⟨rfl, hle⟩
        repeat' ((conv => whnf); first | refine ⟨?_, True.intro⟩ | refine brn_t rfl ?_ | refine brn_f rfl ?_ | refine ob rfl ?_ | refine ob (by decide) ?_ | refine grow_same (Mem.le_refl _) ?_ | refine ob (Mem.le_refl _) ?_ | refine ⟨_, Mem.le_refl _, ?_⟩ | fail)
        exact ⟨rfl, hle⟩
      · have := of_decide_eq_false g1
        have := of_decide_eq_false g2
        omega
  repeat' ((conv => whnf); first | refine ⟨?_, True.intro⟩ | refine brn_t rfl ?_ | refine brn_f rfl ?_ | refine ob rfl ?_ | refine ob (by decide) ?_ | refine grow_same (Mem.le_refl _) ?_ | refine ob (Mem.le_refl _) ?_ | refine ⟨_, Mem.le_refl _, ?_⟩ | fail)
  refine (cut_ok (hs.le h1.le) (by omega) hc).mono ?_
  rintro v _ ⟨⟨a1, n1, c1, rfl, hn1, hc1, hcut⟩, rfl⟩
  have hs1 := hcut M hs
  have hl1 := hs1.flen idCs_len (by decide)
  (conv => whnf)
  refine loopF (σ := Nat × Mem × EsT) [7, 1] (fun y => [(7, .int .i64 y.1), (1, .slice a1 n1 c1)]) (fun _ => []) (fun y => y.2.1) (fun | ⟨i, M2, es⟩ => i ≤ n1 ∧ FreshS M M2 p b gaps es ∧ es.length ≤ i) (fun y => n1 - y.1) ⟨0, M1, []⟩ ⟨by omega, h1, by simp⟩ ⟨(by repeat' first | exact True.intro | refine ⟨rfl, ?_⟩), (by repeat' first | exact True.intro | refine ⟨rfl, ?_⟩), Mem.le_refl _, rfl⟩ ?_
  rintro ⟨i, M2, es⟩ ⟨hi, h2, hlen⟩
  (conv => whnf); refine brn (fun g => ?_) (fun g => ?_)
  · have hlt : i < n1 := by have := of_decide_eq_true g; dsimp only at this; omega
    have hx : (L.take 60)[i]? = some ((L.take 60)[i]'(by omega)) := List.getElem?_eq_getElem (by omega)
    generalize (L.take 60)[i]'(by omega) = x at *
    obtain ⟨b1, o1, rfl, hrow⟩ := (hs1.le h2.le).fall idCs_len (by decide) hx
    (conv => whnf); refine ob (by first | omega | (dsimp only; omega)) ?_
    (conv => whnf); refine on hrow ?_
    (conv => whnf); refine (addS h2 x.o x.d x.e x.c).mono ?_
    rintro v M3 ⟨es3, rfl, h3, hst⟩
    repeat' ((conv => whnf); first | refine ⟨?_, True.intro⟩ | refine brn_t rfl ?_ | refine brn_f rfl ?_ | refine ob rfl ?_ | refine ob (by decide) ?_ | refine grow_same (Mem.le_refl _) ?_ | refine ob (Mem.le_refl _) ?_ | refine ⟨_, Mem.le_refl _, ?_⟩ | fail)
    refine (gapsS h3).mono ?_
    rintro v M4 ⟨rfl, h4⟩
    have hroom := h4.room.1
    (conv => whnf); refine brn_f (by simp; omega) ?_
    (conv => whnf); refine ob (inR_i64 (by first | omega | (dsimp only; omega))) ?_
    (conv => whnf)
    exact ⟨⟨i + 1, M4, es3⟩, ⟨by omega, h4, by have := hst.len; omega⟩, by dsimp only; omega, ⟨(by repeat' first | exact True.intro | refine ⟨rfl, ?_⟩), (by repeat' first | exact True.intro | refine ⟨rfl, ?_⟩), Mem.le_refl _, rfl⟩⟩
  repeat' ((conv => whnf); first | refine ⟨?_, True.intro⟩ | refine brn_t rfl ?_ | refine brn_f rfl ?_ | refine ob rfl ?_ | refine ob (by decide) ?_ | refine grow_same (Mem.le_refl _) ?_ | refine ob (Mem.le_refl _) ?_ | refine ⟨_, Mem.le_refl _, ?_⟩ | fail)
  refine (marksS h2 (by omega)).mono ?_
  rintro v M3 ⟨am, nm, cm, l, rfl, h3, hMk, hMr, hnm, hfew, hperm, hcan⟩
  have hge : i = n1 := by have := of_decide_eq_false g; dsimp only at this; omega
  subst hge
  obtain ⟨hB, hMB⟩ := h3.base
  obtain ⟨B, hBd⟩ : ∃ B, B = M3.minus (setB p b es) := ⟨_, rfl⟩
  rw [← hBd] at hB hMB hMr
  have hlen2 := hMr.len
  (conv => whnf)
  refine loopF (σ := Nat × Mem × EsT) [9, 7, 1] (fun y => [(9, .int .i64 y.1), (7, .int .i64 i), (1, .slice a1 i c1)]) (fun _ => []) (fun y => y.2.1) (fun | ⟨j, M5, es5⟩ => j ≤ nm ∧ FreshS B M5 p b gaps es5 ∧ ∀ t m, j ≤ t → l[t]? = some m → RightK m.o m.e ∧ upOf es5 (m.o, m.e) = m.up) (fun y => nm - y.1) ⟨0, M3, es⟩ ⟨by omega, hB, fun t m _ hm => ?_⟩ ⟨(by repeat' first | exact True.intro | refine ⟨rfl, ?_⟩), (by repeat' first | exact True.intro | refine ⟨rfl, ?_⟩), Mem.le_refl _, rfl⟩ ?_
  · obtain ⟨q, hq, e⟩ := List.mem_map.1 (hperm.mem_iff.1 (List.mem_map.2 ⟨m, List.mem_of_getElem? hm, rfl⟩))
    have e1 : m.o = q.1.1 := (congrArg Mk.o e).symm
    have e2 : m.e = q.1.2 := (congrArg Mk.e e).symm
    have e3 : m.up = q.2.up := (congrArg Mk.up e).symm
    have hg : aget es (m.o, m.e) = some q.2 := by
      rw [e1, e2]; exact aget_of_mem h2.inv.nodup hq
    refine ⟨by rw [e1, e2]; exact (h2.inv.range q hq).1, ?_⟩
    unfold upOf
    rw [hg]; exact e3.symm
  rintro ⟨j, M5, es5⟩ ⟨hj, h5, hnext⟩
  (conv => whnf); refine brn (fun g => ?_) (fun g => ?_)
  · have hlt : j < nm := by have := of_decide_eq_true g; dsimp only at this; omega
    have hx : l[j]? = some (l[j]'(by omega)) := List.getElem?_eq_getElem (by omega)
    have hmem : l[j]'(by omega) ∈ l := List.getElem_mem _
    generalize l[j]'(by omega) = x at *
    obtain ⟨hrk, hup⟩ := hnext j x (Nat.le_refl _) hx
    obtain ⟨b1, o1, rfl, hc1⟩ := (hMr.le h5.le).row.fcells encM_len (by decide) hx
    unfold RightK at hrk
    repeat' ((conv => whnf); first | refine ⟨?_, True.intro⟩ | refine brn_t rfl ?_ | refine brn_f rfl ?_ | refine ob rfl ?_ | refine ob (by decide) ?_ | refine grow_same (Mem.le_refl _) ?_ | refine ob (Mem.le_refl _) ?_ | refine ⟨_, Mem.le_refl _, ?_⟩ | fail)
    refine ob (by first | omega | (dsimp only; omega)) ?_
    (conv => whnf); refine on (hc1 0 _ rfl) ?_
    (conv => whnf); refine ob (by first | omega | (dsimp only; omega)) ?_
    (conv => whnf); refine on (hc1 0 _ rfl) ?_
    (conv => whnf); refine ob (inR_i64 (by omega)) ?_
    repeat' ((conv => whnf); first | refine ⟨?_, True.intro⟩ | refine brn_t rfl ?_ | refine brn_f rfl ?_ | refine ob rfl ?_ | refine ob (by decide) ?_ | refine grow_same (Mem.le_refl _) ?_ | refine ob (Mem.le_refl _) ?_ | refine ⟨_, Mem.le_refl _, ?_⟩ | fail)
    refine ob (by first | omega | (dsimp only; omega)) ?_
    (conv => whnf); refine on (hc1 1 _ rfl) ?_
    (conv => whnf); refine ob (by first | omega | (dsimp only; omega)) ?_
    (conv => whnf); refine on (hc1 2 _ rfl) ?_
    have hur := upOf_range h5.inv.good (x.o, x.e)
    rw [hup] at hur
    (conv => whnf); refine ob (inR_i64 (by omega)) ?_
    have hmod : (x.o + 1).tmod 64 = (x.o + 1) % 64 := Int.tmod_eq_emod_of_nonneg (by omega)
    repeat' ((conv => whnf); first | refine ⟨?_, True.intro⟩ | refine brn_t rfl ?_ | refine brn_f rfl ?_ | refine ob rfl ?_ | refine ob (by decide) ?_ | refine grow_same (Mem.le_refl _) ?_ | refine ob (Mem.le_refl _) ?_ | refine ⟨_, Mem.le_refl _, ?_⟩ | fail)
    refine brn (fun g1 => ?_) (fun g1 => ?_)
    · have hle : x.up + 1 ≤ 65535 := of_decide_eq_true g1
      have hid : idErr x.o ((x.o + 1).tmod 64) x.e (x.up + 1) = 0 := by
        rw [hmod]; unfold idErr
        rw [if_pos (by omega), if_neg (by omega)]
      have hcan5 := canR_at h5.inv (x.o, x.e)
      have hnot : ¬ inE es5 x.o x.e (x.up + 1) := by
        rintro (h | h)
        · rw [hup] at h; omega
        · have := hcan5.2.2 _ h
          rw [hup] at this; omega
      have hz : mayE gaps es5 x.o ((x.o + 1).tmod 64) x.e (x.up + 1) = 0 := by
        have : hasE es5 x.o ((x.o + 1).tmod 64) x.e (x.up + 1) = false := by
          rw [← Bool.not_eq_true, hasE_iff hid]; exact hnot
        simp [mayE, hid, this, hup]
      repeat' ((conv => whnf); first | refine ⟨?_, True.intro⟩ | refine brn_t rfl ?_ | refine brn_f rfl ?_ | refine ob rfl ?_ | refine ob (by decide) ?_ | refine grow_same (Mem.le_refl _) ?_ | refine ob (Mem.le_refl _) ?_ | refine ⟨_, Mem.le_refl _, ?_⟩ | fail)
      refine (mayS h5 _ _ _ _).mono ?_
      rintro v M6 ⟨rfl, h6⟩
      rw [hz]
      repeat' ((conv => whnf); first | refine ⟨?_, True.intro⟩ | refine brn_t rfl ?_ | refine brn_f rfl ?_ | refine ob rfl ?_ | refine ob (by decide) ?_ | refine grow_same (Mem.le_refl _) ?_ | refine ob (Mem.le_refl _) ?_ | refine ⟨_, Mem.le_refl _, ?_⟩ | fail)
      refine (addS h6 _ _ _ _).mono ?_
      rintro v M7 ⟨es7, rfl, h7, ⟨hne, -⟩ | ⟨-, y, hy, hy2⟩⟩
      · exact absurd hz hne
      rw [hz]
      obtain ⟨-, i2, -, -⟩ := add_inv h6.inv hz hy2
      rw [← hy] at i2
      have hh : hasE es7 x.o ((x.o + 1).tmod 64) x.e (x.up + 1) = true := (hasE_iff hid).2 ((i2 _ _ _).2 (.inl ⟨rfl, rfl, rfl⟩))
      repeat' ((conv => whnf); first | refine ⟨?_, True.intro⟩ | refine brn_t rfl ?_ | refine brn_f rfl ?_ | refine ob rfl ?_ | refine ob (by decide) ?_ | refine grow_same (Mem.le_refl _) ?_ | refine ob (Mem.le_refl _) ?_ | refine ⟨_, Mem.le_refl _, ?_⟩ | fail)
      refine (hasS h7 _ _ _ _).mono ?_
      rintro v M8 ⟨rfl, h8⟩
      rw [hh]
      repeat' ((conv => whnf); first | refine ⟨?_, True.intro⟩ | refine brn_t rfl ?_ | refine brn_f rfl ?_ | refine ob rfl ?_ | refine ob (by decide) ?_ | refine grow_same (Mem.le_refl _) ?_ | refine ob (Mem.le_refl _) ?_ | refine ⟨_, Mem.le_refl _, ?_⟩ | fail)
      refine ob (inR_i64 (by first | omega | (dsimp only; omega))) ?_
      (conv => whnf)
      refine ⟨⟨j + 1, M8, es7⟩, ⟨by omega, h8, fun t m ht hm => ?_⟩, by dsimp only; omega, ⟨(by repeat' first | exact True.intro | refine ⟨rfl, ?_⟩), (by repeat' first | exact True.intro | refine ⟨rfl, ?_⟩), Mem.le_refl _, rfl⟩⟩
      obtain ⟨r1, r2⟩ := hnext t m (by omega) hm
      refine ⟨r1, ?_⟩
      rw [← r2, hy]
      unfold upOf
      rw [aget_aput, if_neg]
      intro e
      have e1 : m.o = x.o := congrArg Prod.fst e
      have e2 : m.e = x.e := congrArg Prod.snd e
      have hs := hcan.sorted
      rw [List.pairwise_map] at hs
      have := List.pairwise_iff_getElem.1 hs j t (List.getElem?_eq_some_iff.1 hx).1 (List.getElem?_eq_some_iff.1 hm).1 (by omega)
      rw [(List.getElem?_eq_some_iff.1 hx).2, (List.getElem?_eq_some_iff.1 hm).2] at this
      unfold ltMk MkC.mk' at this
      dsimp only at this
      omega
    · repeat' ((conv => whnf); first | refine ⟨?_, True.intro⟩ | refine brn_t rfl ?_ | refine brn_f rfl ?_ | refine ob rfl ?_ | refine ob (by decide) ?_ | refine grow_same (Mem.le_refl _) ?_ | refine ob (Mem.le_refl _) ?_ | refine ⟨_, Mem.le_refl _, ?_⟩ | fail)
      refine ob (inR_i64 (by first | omega | (dsimp only; omega))) ?_
      (conv => whnf)
      exact ⟨⟨j + 1, M5, es5⟩, ⟨by omega, h5, fun t m ht hm => hnext t m (by omega) hm⟩, by dsimp only; omega, ⟨(by repeat' first | exact True.intro | refine ⟨rfl, ?_⟩), (by repeat' first | exact True.intro | refine ⟨rfl, ?_⟩), Mem.le_refl _, rfl⟩⟩
  repeat' ((conv => whnf); first | refine ⟨?_, True.intro⟩ | refine brn_t rfl ?_ | refine brn_f rfl ?_ | refine ob rfl ?_ | refine ob (by decide) ?_ | refine grow_same (Mem.le_refl _) ?_ | refine ob (Mem.le_refl _) ?_ | refine ⟨_, Mem.le_refl _, ?_⟩ | fail)
  refine (gapsS h5).mono ?_
  rintro v M6 ⟨rfl, h6⟩
  have hroom := h6.room.1
  (conv => whnf)
  refine brn_t (by simp; omega) ?_
  repeat' ((conv => whnf); first | refine ⟨?_, True.intro⟩ | refine brn_t rfl ?_ | refine brn_f rfl ?_ | refine ob rfl ?_ | refine ob (by decide) ?_ | refine grow_same (Mem.le_refl _) ?_ | refine ob (Mem.le_refl _) ?_ | refine ⟨_, Mem.le_refl _, ?_⟩ | fail)
  refine awake_ok.mono ?_
  rintro v M7 ⟨rfl, hle7⟩
  repeat' ((conv => whnf); first | refine ⟨?_, True.intro⟩ | refine brn_t rfl ?_ | refine brn_f rfl ?_ | refine ob rfl ?_ | refine ob (by decide) ?_ | refine grow_same (Mem.le_refl _) ?_ | refine ob (Mem.le_refl _) ?_ | refine ⟨_, Mem.le_refl _, ?_⟩ | fail)
  exact ⟨rfl, Mem.le_trans hMB (Mem.le_trans h6.le hle7)⟩
end Go.Proofs.Ytmifjilknojkaaa
