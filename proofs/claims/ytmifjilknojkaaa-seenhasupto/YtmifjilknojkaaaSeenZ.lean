/- SeenHas, as a contract. -/
import Derived.Test.YtmifjilknojkaaaSeenY
namespace Go.Proofs.Ytmifjilknojkaaa
open Go Go.Vm
attribute [local irreducible] Brn Ob Grow CallsM inR LoopVC Mem.row Mem.cells Mem.setCells Mem.upd Own AppVC SrcVC StrVC NextVC New SrcOk subA NewSl Mem.textAt Mem.mapAt Mem.iterAt entryOf kfind Wr NewEls Elems
set_option maxRecDepth 10000
variable {M : Mem}
theorem has_law (gaps : Int) {a : Option Addr} {n c : Nat} {L : List IdT} (hs : SrcOk M 4 a n (L.flatMap idCs)) (hn : n ≤ 1048576) (hc : n ≤ c) (io id ie ic : Int) :
    CallsM Try.prog F.law14_SeenHas [.int .i64 gaps, .slice a n c, idV io id ie ic] M fun v M' => v = .bool true ∧ M.le M' := by
  refine fo_law14_SeenHas (by simp) ?_
  (conv => whnf); refine (newS gaps).mono ?_
  rintro v M1 (⟨hg, rfl, rfl⟩ | ⟨hg, p, b, rfl, h1⟩)
  · repeat' ((conv => whnf); first | refine ⟨?_, True.intro⟩ | refine brn_t rfl ?_ | refine brn_f rfl ?_ | refine ob rfl ?_ | refine ob (by decide) ?_ | refine grow_same (Mem.le_refl _) ?_ | refine ob (Mem.le_refl _) ?_ | refine ⟨_, Mem.le_refl _, ?_⟩ | fail)
    refine (newR_ok gaps).mono ?_
    rintro v _ (⟨-, rfl, rfl⟩ | ⟨hg2, -⟩)
    rotate_left
    · exact absurd hg hg2
    repeat' ((conv => whnf); first | refine ⟨?_, True.intro⟩ | refine brn_t rfl ?_ | refine brn_f rfl ?_ | refine ob rfl ?_ | refine ob (by decide) ?_ | refine grow_same (Mem.le_refl _) ?_ | refine ob (Mem.le_refl _) ?_ | refine ⟨_, Mem.le_refl _, ?_⟩ | fail)
    refine awake_ok.mono ?_
    rintro v M2 ⟨rfl, hle⟩
    repeat' ((conv => whnf); first | refine ⟨?_, True.intro⟩ | refine brn_t rfl ?_ | refine brn_f rfl ?_ | refine ob rfl ?_ | refine ob (by decide) ?_ | refine grow_same (Mem.le_refl _) ?_ | refine ob (Mem.le_refl _) ?_ | refine ⟨_, Mem.le_refl _, ?_⟩ | fail)
    exact ⟨rfl, hle⟩
  repeat' ((conv => whnf); first | refine ⟨?_, True.intro⟩ | refine brn_t rfl ?_ | refine brn_f rfl ?_ | refine ob rfl ?_ | refine ob (by decide) ?_ | refine grow_same (Mem.le_refl _) ?_ | refine ob (Mem.le_refl _) ?_ | refine ⟨_, Mem.le_refl _, ?_⟩ | fail)
  refine (newR_ok gaps).mono ?_
  rintro v _ (⟨hg2, -⟩ | ⟨-, rfl, rfl⟩)
  · exact absurd hg2 hg
  repeat' ((conv => whnf); first | refine ⟨?_, True.intro⟩ | refine brn_t rfl ?_ | refine brn_f rfl ?_ | refine ob rfl ?_ | refine ob (by decide) ?_ | refine grow_same (Mem.le_refl _) ?_ | refine ob (Mem.le_refl _) ?_ | refine ⟨_, Mem.le_refl _, ?_⟩ | fail)
  refine (cut_ok (hs.le h1.le) (by omega) hc).mono ?_
  rintro v _ ⟨⟨a1, n1, c1, rfl, hn1, hc1, hcut⟩, rfl⟩
  have hs1 := hcut M hs
  have hl1 := hs1.flen idCs_len (by decide)
  obtain ⟨hF1, hMB1⟩ := h1.base
  (conv => whnf)
  refine loopF (σ := Nat × Mem × Mem × EsT × (Option Addr × Nat × Nat) × List K) [11, 1] (fun y => [(11, .int .i64 y.1), (1, .slice a1 n1 c1)]) (fun y => [.live T.api_Id [.v (.int .i64 io), .v (.int .i64 id), .v (.int .i64 ie), .v (.int .i64 ic)], .live T.portageref14_Set [.v (.int .i64 gaps), .v (.slice y.2.2.2.2.1.1 y.2.2.2.2.1.2.1 y.2.2.2.2.1.2.2)]]) (fun y => y.2.1)
    (fun | ⟨i, Mc, B, es, (ak, nk, ck), Lk⟩ => i ≤ n1 ∧ M.le B ∧ FreshS B Mc p b gaps es ∧ SrcOk B 3 ak nk (Lk.flatMap encK) ∧ RelS es Lk ∧ nk ≤ i) (fun y => n1 - y.1) ⟨0, M1, M1.minus (setB p b []), [], (none, 0, 0), []⟩ ⟨by omega, hMB1, hF1, SrcOk.nil _ _, RelS.nil, by omega⟩ ⟨(by repeat' first | exact True.intro | refine ⟨rfl, ?_⟩), (by repeat' first | exact True.intro | refine ⟨rfl, ?_⟩), Mem.le_refl _, rfl⟩ ?_
  rintro ⟨i, Mc, B, es, ⟨ak, nk, ck⟩, Lk⟩ ⟨hi, hMB, hF, hK, hR, hnk⟩
  (conv => whnf); refine brn (fun g => ?_) (fun g => ?_)
  · have hlt : i < n1 := by have := of_decide_eq_true g; dsimp only at this; omega
    have hx : (L.take 60)[i]? = some ((L.take 60)[i]'(by omega)) := List.getElem?_eq_getElem (by omega)
    generalize (L.take 60)[i]'(by omega) = x at *
    obtain ⟨b1, o1, hra, hrow⟩ := (hs1.le hMB).fall idCs_len (by decide) hx
    (conv => whnf); refine ob (by first | omega | (dsimp only; omega)) ?_
    (conv => whnf); refine atp hra ?_
    (conv => whnf); refine on (Mem.row_le hF.le hrow) ?_
    (conv => whnf); refine (addS hF x.o x.d x.e x.c).mono ?_
    rintro v M3 ⟨es3, rfl, h3, hst⟩
    repeat' ((conv => whnf); first | refine ⟨?_, True.intro⟩ | refine brn_t rfl ?_ | refine brn_f rfl ?_ | refine ob rfl ?_ | refine ob (by decide) ?_ | refine grow_same (Mem.le_refl _) ?_ | refine ob (Mem.le_refl _) ?_ | refine ⟨_, Mem.le_refl _, ?_⟩ | fail)
    refine ob (by first | omega | (dsimp only; omega)) ?_
    (conv => whnf); refine atp hra ?_
    (conv => whnf); refine on (Mem.row_le h3.le hrow) ?_
    repeat' ((conv => whnf); first | refine ⟨?_, True.intro⟩ | refine brn_t rfl ?_ | refine brn_f rfl ?_ | refine ob rfl ?_ | refine ob (by decide) ?_ | refine grow_same (Mem.le_refl _) ?_ | refine ob (Mem.le_refl _) ?_ | refine ⟨_, Mem.le_refl _, ?_⟩ | fail)
    refine (addR_ok (hK.le h3.le) (by omega) gaps x.o x.d x.e x.c).mono ?_
    have hstep := hR.step hst
    rintro v M4 (⟨hne, rfl, hle4⟩ | ⟨hz, a', c', rfl, hN4⟩)
    · obtain ⟨-, hR'⟩ | ⟨hz, -⟩ := hstep
      rotate_left
      · exact absurd hz hne
      repeat' ((conv => whnf); first | refine ⟨?_, True.intro⟩ | refine brn_t rfl ?_ | refine brn_f rfl ?_ | refine ob rfl ?_ | refine ob (by decide) ?_ | refine grow_same (Mem.le_refl _) ?_ | refine ob (Mem.le_refl _) ?_ | refine ⟨_, Mem.le_refl _, ?_⟩ | fail)
      (conv => whnf)
      refine ob (inR_i64 (by first | omega | (dsimp only; omega))) ?_
      (conv => whnf)
      exact ⟨⟨i + 1, M4, B, es3, (ak, nk, ck), Lk⟩, ⟨by omega, hMB, h3.to hle4, hK, hR', by omega⟩, by dsimp only; omega, ⟨(by repeat' first | exact True.intro | refine ⟨rfl, ?_⟩), (by repeat' first | exact True.intro | refine ⟨rfl, ?_⟩), Mem.le_refl _, rfl⟩⟩
    · obtain ⟨hne, -⟩ | ⟨-, hR'⟩ := hstep
      · exact absurd hz hne
      have h4 := h3.to hN4.le
      obtain ⟨h4b, hB4⟩ := h4.base
      have hK4 := hN4.src.minus (S := setB p b es3) fun q hq hb => h3.some hb (hN4.block hq).1
      repeat' ((conv => whnf); first | refine ⟨?_, True.intro⟩ | refine brn_t rfl ?_ | refine brn_f rfl ?_ | refine ob rfl ?_ | refine ob (by decide) ?_ | refine grow_same (Mem.le_refl _) ?_ | refine ob (Mem.le_refl _) ?_ | refine ⟨_, Mem.le_refl _, ?_⟩ | fail)
      (conv => whnf)
      refine ob (inR_i64 (by first | omega | (dsimp only; omega))) ?_
      (conv => whnf)
      exact ⟨⟨i + 1, M4, M4.minus (setB p b es3), es3, (a', nk + 1, c'), putK ⟨x.o, x.e, x.c⟩ Lk⟩, ⟨by omega, Mem.le_trans hMB hB4, h4b, hK4, hR', by omega⟩, by dsimp only; omega, ⟨(by repeat' first | exact True.intro | refine ⟨rfl, ?_⟩), (by repeat' first | exact True.intro | refine ⟨rfl, ?_⟩), Mem.le_refl _, rfl⟩⟩
  repeat' ((conv => whnf); first | refine ⟨?_, True.intro⟩ | refine brn_t rfl ?_ | refine brn_f rfl ?_ | refine ob rfl ?_ | refine ob (by decide) ?_ | refine grow_same (Mem.le_refl _) ?_ | refine ob (Mem.le_refl _) ?_ | refine ⟨_, Mem.le_refl _, ?_⟩ | fail)
  (conv => whnf)
  refine (Has_ok hF.at' (by have := hF.few; omega) io id ie ic).mono ?_
  rintro v M5 ⟨rfl, hle5⟩
  have h5 := hF.to hle5
  repeat' ((conv => whnf); first | refine ob rfl ?_ | refine grow_same hle5 ?_ | refine ob hle5 ?_ | refine ⟨?_, True.intro⟩ | fail)
  (conv => whnf)
  refine (hasR_ok (hK.le h5.le) (by omega) gaps io id ie ic).mono ?_
  rintro v _ ⟨rfl, rfl⟩
  rw [hR.has io id ie ic]
  (conv => whnf)
  refine brn_t (by simp) ?_
  repeat' ((conv => whnf); first | refine ⟨?_, True.intro⟩ | refine brn_t rfl ?_ | refine brn_f rfl ?_ | refine ob rfl ?_ | refine ob (by decide) ?_ | refine grow_same (Mem.le_refl _) ?_ | refine ob (Mem.le_refl _) ?_ | refine ⟨_, Mem.le_refl _, ?_⟩ | fail)
  refine awake_ok.mono ?_
  rintro v M6 ⟨rfl, hle6⟩
  repeat' ((conv => whnf); first | refine ⟨?_, True.intro⟩ | refine brn_t rfl ?_ | refine brn_f rfl ?_ | refine ob rfl ?_ | refine ob (by decide) ?_ | refine grow_same (Mem.le_refl _) ?_ | refine ob (Mem.le_refl _) ?_ | refine ⟨_, Mem.le_refl _, ?_⟩ | fail)
  (conv => whnf)
  exact ⟨rfl, Mem.le_trans hMB (Mem.le_trans h5.le hle6)⟩
end Go.Proofs.Ytmifjilknojkaaa
