/- The document's disk: files without one, with one. -/
import Derived.Test.YtdjgmhifocdelaaRefDiskA
namespace Go.Proofs.Ytdjgmhifocdelaa
open Go Go.Vm
attribute [local irreducible] Brn Ob Grow CallsM inR LoopVC Mem.row Mem.cells Mem.setCells Mem.upd Own AppVC SrcVC StrVC NextVC New SrcOk subA NewSl Mem.textAt Mem.mapAt Mem.iterAt entryOf kfind Wr NewEls Elems
set_option maxRecDepth 10000
variable {M : Mem} {D : DiskR}
theorem withoutR_snoc (L : List FileR) (s : ByteArray) (f : FileR) : withoutR (L ++ [f]) s = withoutR L s ++ (if f.name = s then [] else [f]) := by
  unfold withoutR; rw [List.filter_append]; congr 1
  by_cases h : f.name = s <;> simp [h]
theorem withoutR_ok {L : List FileR} {a : Option Addr} {c : Nat} (hs : SrcOk M 3 a L.length (L.flatMap encF)) (hn : L.length ≤ 1000) (s : ByteArray) :
    CallsM Try.prog F.ref10_without [.slice a L.length c, .string s] M fun v M' => ∃ a' c', v = .slice a' (withoutR L s).length c' ∧ NewSl M T.portageref10_File 3 a' (withoutR L s).length c' ((withoutR L s).flatMap encF) M' := by
  refine fo_ref10_without (by simp) ?_
  (conv => whnf); refine new (fun b9 hb9 => ?_)
  replace hb9 : M b9 = none := hb9
  have hN : NewSl M T.portageref10_File 3 (some ⟨b9, 0, none⟩) 0 0 (([] : List FileR).flatMap encF) _ := NewSl.lit hb9 T.portageref10_File 3 0 [] rfl
  obtain ⟨M3, hM3⟩ : ∃ M3, M3 = M.setCells b9 T.portageref10_File [] := ⟨_, rfl⟩
  rw [← hM3] at hN
  (conv => whnf)
  erw [← hM3]
  refine loopF (σ := Nat × Mem × Option Addr × Nat × List FileR) [6, 5] (fun y => [(6, .int .i64 y.1), (5, .slice y.2.2.1 y.2.2.2.2.length y.2.2.2.1)]) (fun _ => [.gone b9]) (fun y => y.2.1)
    (fun | ⟨i, M4, a4, c4, out⟩ => i ≤ L.length ∧ NewSl M T.portageref10_File 3 a4 out.length c4 (out.flatMap encF) M4 ∧ out = withoutR (L.take i) s ∧ out.length ≤ i) (fun y => L.length - y.1) ⟨0, M3, _, _, []⟩ ⟨by omega, hN, by simp [withoutR], by simp⟩ ⟨(by repeat' first | exact True.intro | refine ⟨rfl, ?_⟩), (by repeat' first | exact True.intro | refine ⟨rfl, ?_⟩), Mem.le_refl _, rfl⟩ ?_
  rintro ⟨i, M4, a4, c4, out⟩ ⟨hi, hN4, hout, hol⟩
  (conv => whnf); refine brn (fun g => ?_) (fun g => ?_)
  · have hlt : i < L.length := by have := of_decide_eq_true g; dsimp only at this; omega
    have hx : L[i]? = some L[i] := List.getElem?_eq_getElem hlt
    generalize L[i] = f at *
    have htk : withoutR (L.take (i + 1)) s = withoutR (L.take i) s ++ (if f.name = s then [] else [f]) := by rw [List.take_add_one, hx]; exact withoutR_snoc _ _ _
    obtain ⟨b, o, ha, hc⟩ := (hs.le hN4.le).fcells encF_len (by decide) hx
    obtain ⟨b', o', ha', hrow⟩ := (hs.le hN4.le).fall encF_len (by decide) hx
    (conv => whnf); refine ob (by first | omega | (dsimp only; omega)) ?_
    (conv => whnf); refine atp ha ?_
    (conv => whnf); refine on (hc 0 _ rfl) ?_
    (conv => whnf); refine brn (fun g1 => ?_) (fun g1 => ?_)
    · have e : ¬ f.name = s := by simpa using g1
      rw [if_neg e] at htk
      (conv => whnf); refine ob (by first | omega | (dsimp only; omega)) ?_
      (conv => whnf); refine atp ha' ?_
      (conv => whnf); refine on hrow ?_
      (conv => whnf)
      refine appF M hN4 f rfl (by first | omega | (dsimp only; omega)) (by simp [maxLen]; omega) (encF_one f) fun a6 c6 M6 hN6 hk6 => ?_
      (conv => whnf); refine ob (inR_i64 (by first | omega | (dsimp only; omega))) ?_
      (conv => whnf)
      refine ⟨⟨i + 1, M6, a6, c6, out ++ [f]⟩, ⟨by omega, by simpa using hN6, by rw [htk, hout], by simp; omega⟩, by dsimp only; omega, ?_⟩
      rw [List.length_append]
      exact ⟨(by repeat' first | exact True.intro | refine ⟨rfl, ?_⟩), (by repeat' first | exact True.intro | refine ⟨rfl, ?_⟩), Mem.le_refl _, rfl⟩
    · have e : f.name = s := by simpa using g1
      rw [if_pos e, List.append_nil] at htk
      (conv => whnf); refine ob (inR_i64 (by first | omega | (dsimp only; omega))) ?_
      (conv => whnf)
      exact ⟨⟨i + 1, M4, a4, c4, out⟩, ⟨by omega, hN4, by rw [htk, hout], by omega⟩, by dsimp only; omega, ⟨(by repeat' first | exact True.intro | refine ⟨rfl, ?_⟩), (by repeat' first | exact True.intro | refine ⟨rfl, ?_⟩), Mem.le_refl _, rfl⟩⟩
  · have hge : i = L.length := by have := of_decide_eq_false g; dsimp only at this; omega
    subst hge
    rw [List.take_length] at hout
    subst hout
    repeat' ((conv => whnf); first | refine ⟨?_, True.intro⟩ | refine brn_t rfl ?_ | refine brn_f rfl ?_ | refine ob rfl ?_ | refine ob (by decide) ?_ | refine grow_same (Mem.le_refl _) ?_ | refine ob (Mem.le_refl _) ?_ | refine ⟨_, Mem.le_refl _, ?_⟩ | fail)
    exact ⟨a4, c4, rfl, hN4⟩
theorem insR_not {f : FileR} : ∀ {l r : List FileR}, (∀ x ∈ l, lessT f.name x.name = false) → insR f (l ++ r) = l ++ insR f r
  | [], _, _ => rfl
  | x :: l, r, h => by
    rw [List.cons_append, insR, if_neg (by simp [h x (by simp)]), insR_not fun y hy => h y (by simp [hy])]
    rfl
theorem withR_ok {L : List FileR} {a : Option Addr} {c : Nat} (hs : SrcOk M 3 a L.length (L.flatMap encF)) (hn : L.length ≤ 1000) (f : FileR) :
    CallsM Try.prog F.ref10_with [.slice a L.length c, .agg (encF f).toArray] M fun v M' => ∃ a' c', v = .slice a' (withR L f).length c' ∧ NewSl M T.portageref10_File 3 a' (withR L f).length c' ((withR L f).flatMap encF) M' := by
  refine fo_ref10_with (by simp) ?_
  (conv => whnf); refine new (fun b9 hb9 => ?_)
  replace hb9 : M b9 = none := hb9
  have hN : NewSl M T.portageref10_File 3 (some ⟨b9, 0, none⟩) 0 0 (([] : List FileR).flatMap encF) _ := NewSl.lit hb9 T.portageref10_File 3 0 [] rfl
  obtain ⟨M3, hM3⟩ : ∃ M3, M3 = M.setCells b9 T.portageref10_File [] := ⟨_, rfl⟩
  rw [← hM3] at hN
  (conv => whnf)
  erw [← hM3]
  refine (withoutR_ok (hs.le hN.le) hn f.name).mono ?_
  rintro v M4 ⟨a4, c4, rfl, hN4⟩
  have hWl : (withoutR L f.name).length ≤ L.length := List.length_filter_le _ _
  have hsW := hN4.src
  have hNm := hN.up hN4.le
  have hw : withR L f = insR f (withoutR L f.name) := rfl
  have hb9W : ∀ q, a4 = some q → q.block ≠ b9 := fun q hq e => by
    have := (hN4.block hq).1
    rw [e, hM3] at this
    simp [Mem.setCells, Mem.upd] at this
  generalize withoutR L f.name = W at *
  rw [hw]
  have hNB := hNm.rebase2 (Mem.le_refl M4) (X := fun y => y = b9) (fun x ⟨q, hq, e⟩ => by cases hq; exact e.symm)
  have hsB := hsW.minus (S := fun y => y = b9) fun q hq e => hb9W q hq e
  have hMB : M.le (M4.minus fun y => y = b9) := Mem.le_minus hNm.le fun y e => e ▸ hb9
  obtain ⟨B, hB⟩ : ∃ B, B = M4.minus fun y => y = b9 := ⟨_, rfl⟩
  rw [← hB] at hNB hsB hMB
  (conv => whnf)
  refine loopF (σ := Nat × Mem × Option Addr × Nat × List FileR × Bool) [7, 5, 6, 0] (fun y => [(7, .int .i64 y.1), (5, .slice y.2.2.1 y.2.2.2.2.1.length y.2.2.2.1), (6, .c (.v (.bool y.2.2.2.2.2))), (0, .slice a4 W.length c4)]) (fun _ => [.live T.portageref10_File [.v (.string f.name), .v (.string f.safe), .v (.string f.tail)], .gone b9]) (fun y => y.2.1)
    (fun | ⟨i, M5, a5, c5, out, d⟩ => i ≤ W.length ∧ NewSl B T.portageref10_File 3 a5 out.length c5 (out.flatMap encF) M5 ∧ out.length ≤ i + 1 ∧ ((d = false ∧ out = W.take i ∧ ∀ x ∈ W.take i, lessT f.name x.name = false) ∨ (d = true ∧ insR f W = out ++ W.drop i))) (fun y => W.length - y.1) ⟨0, M4, _, _, [], false⟩
    ⟨by omega, hNB, by simp, .inl ⟨rfl, by simp, by simp⟩⟩ ⟨(by repeat' first | exact True.intro | refine ⟨rfl, ?_⟩), (by repeat' first | exact True.intro | refine ⟨rfl, ?_⟩), Mem.le_refl _, rfl⟩ ?_
  rintro ⟨i, M5, a5, c5, out, d⟩ ⟨hi, hN5, hol, hst⟩
  (conv => whnf); refine brn (fun g => ?_) (fun g => ?_)
  · have hlt : i < W.length := by have := of_decide_eq_true g; dsimp only at this; omega
    have hx : W[i]? = some W[i] := List.getElem?_eq_getElem hlt
    have hdr : W.drop i = W[i] :: W.drop (i + 1) := List.drop_eq_getElem_cons hlt
    have htk : W.take (i + 1) = W.take i ++ [W[i]] := by rw [List.take_add_one, hx]; rfl
    have hsp : W = W.take i ++ W.drop i := (List.take_append_drop i W).symm
    generalize W[i] = x at *
    obtain ⟨b, o, ha, hc⟩ := (hsB.le hN5.le).fcells encF_len (by decide) hx
    obtain ⟨b', o', ha', hrow⟩ := (hsB.le hN5.le).fall encF_len (by decide) hx
    rcases hst with ⟨rfl, hout, hno⟩ | ⟨rfl, hins⟩
    · (conv => whnf); refine ob (by first | omega | (dsimp only; omega)) ?_
      (conv => whnf); refine atp ha ?_
      (conv => whnf); refine on (hc 0 _ rfl) ?_
      (conv => whnf); refine brn (fun g1 => ?_) (fun g1 => ?_)
      · have hl : lessT f.name x.name = true := g1
        (conv => whnf)
        refine appF B hN5 f rfl (by first | omega | (dsimp only; omega)) (by simp [maxLen]; omega) (encF_one f) fun a7 c7 M7 hN7 hk7 => ?_
        have hNA : NewSl B T.portageref10_File 3 a7 (out ++ [f]).length c7 ((out ++ [f]).flatMap encF) M7 := by simpa using hN7
        have hrowA : M7.row b' (o' + i * 3) 3 = some (encF x) := by
          obtain ⟨b2, o2, ha2, hrow2⟩ := (hsB.le hN7.le).fall encF_len (by decide) hx
          rw [ha'] at ha2; cases ha2; exact hrow2
        have hlo : (out ++ [f]).length = out.length + 1 := by simp
        rw [← hlo]
        (conv => whnf); refine ob (by first | omega | (dsimp only; omega)) ?_
        (conv => whnf); refine atp ha' ?_
        (conv => whnf); refine on hrowA ?_
        (conv => whnf)
        refine appF B hNA x rfl (by first | omega | (dsimp only; omega)) (by simp [maxLen]; omega) (encF_one x) fun a6 c6 M6 hN6 hk6 => ?_
        (conv => whnf); refine ob (inR_i64 (by first | omega | (dsimp only; omega))) ?_
        (conv => whnf)
        refine ⟨⟨i + 1, M6, a6, c6, out ++ [f] ++ [x], true⟩, ⟨by omega, by simpa using hN6, by have := congrArg List.length hout; simp at this ⊢; omega, .inr ⟨rfl, ?_⟩⟩, by dsimp only; omega, ?_⟩
        · rw [hsp, insR_not hno, hdr, insR, if_pos hl, hout]
          have e : (W.take i ++ x :: W.drop (i + 1)).drop (i + 1) = W.drop (i + 1) := by rw [← hdr, ← hsp]
          rw [e]; simp
        rw [List.length_append (bs := [x])]
        exact ⟨(by repeat' first | exact True.intro | refine ⟨rfl, ?_⟩), (by repeat' first | exact True.intro | refine ⟨rfl, ?_⟩), Mem.le_refl _, rfl⟩
      · have hl : lessT f.name x.name = false := g1
        have hNA := hN5
        have hrowA := hrow
        (conv => whnf); refine ob (by first | omega | (dsimp only; omega)) ?_
        (conv => whnf); refine atp ha' ?_
        (conv => whnf); refine on hrowA ?_
        (conv => whnf)
        refine appF B hNA x rfl (by first | omega | (dsimp only; omega)) (by simp [maxLen]; omega) (encF_one x) fun a6 c6 M6 hN6 hk6 => ?_
        (conv => whnf); refine ob (inR_i64 (by first | omega | (dsimp only; omega))) ?_
        (conv => whnf)
        refine ⟨⟨i + 1, M6, a6, c6, out ++ [x], false⟩, ⟨by omega, by simpa using hN6, by simp; omega, .inl ⟨rfl, by rw [htk, hout], fun y hy => ?_⟩⟩, by dsimp only; omega, ?_⟩
        · rw [htk] at hy
          rcases List.mem_append.1 hy with h1 | h1
          · exact hno y h1
          · simp at h1; subst h1; exact hl
        rw [List.length_append]
        exact ⟨(by repeat' first | exact True.intro | refine ⟨rfl, ?_⟩), (by repeat' first | exact True.intro | refine ⟨rfl, ?_⟩), Mem.le_refl _, rfl⟩
    · (conv => whnf)
      have hNA := hN5
      have hrowA := hrow
      (conv => whnf); refine ob (by first | omega | (dsimp only; omega)) ?_
      (conv => whnf); refine atp ha' ?_
      (conv => whnf); refine on hrowA ?_
      (conv => whnf)
      refine appF B hNA x rfl (by first | omega | (dsimp only; omega)) (by simp [maxLen]; omega) (encF_one x) fun a6 c6 M6 hN6 hk6 => ?_
      (conv => whnf); refine ob (inR_i64 (by first | omega | (dsimp only; omega))) ?_
      (conv => whnf)
      refine ⟨⟨i + 1, M6, a6, c6, out ++ [x], true⟩, ⟨by omega, by simpa using hN6, by simp; omega, .inr ⟨rfl, ?_⟩⟩, by dsimp only; omega, ?_⟩
      · rw [hins, hdr]; simp
      rw [List.length_append]
      exact ⟨(by repeat' first | exact True.intro | refine ⟨rfl, ?_⟩), (by repeat' first | exact True.intro | refine ⟨rfl, ?_⟩), Mem.le_refl _, rfl⟩
  have hge : i = W.length := by have := of_decide_eq_false g; dsimp only at this; omega
  subst hge
  rcases hst with ⟨rfl, hout, hno⟩ | ⟨rfl, hins⟩
  · rw [List.take_length] at hout hno
    subst hout
    have hfin : insR f out = out ++ [f] := by have := insR_not (r := []) hno; rw [List.append_nil] at this; exact this
    (conv => whnf)
    refine appF B hN5 f rfl (by first | omega | (dsimp only; omega)) (by simp [maxLen]; omega) (encF_one f) fun a6 c6 M6 hN6 hk6 => ?_
    repeat' ((conv => whnf); first | refine ⟨?_, True.intro⟩ | refine brn_t rfl ?_ | refine brn_f rfl ?_ | refine ob rfl ?_ | refine ob (by decide) ?_ | refine grow_same (Mem.le_refl _) ?_ | refine ob (Mem.le_refl _) ?_ | refine ⟨_, Mem.le_refl _, ?_⟩ | fail)
    rw [hfin, List.length_append]
    exact ⟨a6, c6, rfl, hN6.mono hMB⟩
  · rw [List.drop_length, List.append_nil] at hins
    repeat' ((conv => whnf); first | refine ⟨?_, True.intro⟩ | refine brn_t rfl ?_ | refine brn_f rfl ?_ | refine ob rfl ?_ | refine ob (by decide) ?_ | refine grow_same (Mem.le_refl _) ?_ | refine ob (Mem.le_refl _) ?_ | refine ⟨_, Mem.le_refl _, ?_⟩ | fail)
    rw [hins]
    exact ⟨a5, c5, rfl, hN5.mono hMB⟩
end Go.Proofs.Ytdjgmhifocdelaa
