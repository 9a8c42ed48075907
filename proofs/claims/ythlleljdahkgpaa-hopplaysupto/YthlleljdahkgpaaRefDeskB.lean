/- The document's desk: its list; a place in it; without, with. -/
import Derived.Test.YthlleljdahkgpaaRefDeskA
import Derived.Test.YthlleljdahkgpaaHopQ
namespace Go.Proofs.Ythlleljdahkgpaa
open Go Go.Vm
attribute [local irreducible] Brn Ob Grow CallsM inR LoopVC Mem.row Mem.cells Mem.setCells Mem.upd Own AppVC SrcVC StrVC NextVC New SrcOk subA NewSl Mem.textAt Mem.mapAt Mem.iterAt entryOf kfind Wr NewEls Elems
set_option maxRecDepth 10000
@[reducible] def encK (x : Id × Known) : List Value := [.int .i64 x.1.o, .int .i64 x.1.d, .int .i64 x.1.e, .int .i64 x.1.c, .int .i64 x.2.to, .int .i64 x.2.n, .int .i64 x.2.ticks, .int .i64 x.2.waits]
@[reducible] def knV (x : Id × Known) : Value := .agg #[.int .i64 x.1.o, .int .i64 x.1.d, .int .i64 x.1.e, .int .i64 x.1.c, .int .i64 x.2.to, .int .i64 x.2.n, .int .i64 x.2.ticks, .int .i64 x.2.waits]
theorem encK_len (x : Id × Known) : (encK x).length = 8 := rfl
theorem encK_one (x : Id × Known) : ∀ v ∈ encK x, v.oneCell' = true := by
  intro v hv
  simp only [encK, List.mem_cons, List.not_mem_nil, or_false] at hv
  rcases hv with rfl | rfl | rfl | rfl | rfl | rfl | rfl | rfl <;> rfl
@[reducible] def RD (wait next : Int) (a : Option Addr) (n c : Nat) : Value := .agg #[.int .i64 wait, .int .i64 next, .slice a n c]
instance : Inhabited (Id × Known) := ⟨(⟨0, 0, 0, 0⟩, ⟨0, 0, 0, 0⟩)⟩
variable {M : Mem} {L : KL} {a : Option Addr} {n c : Nat} {wait next : Int}
theorem place_ok (hL : SrcOk M 8 a n (L.flatMap encK)) (hn : n ≤ 100000000) (i : Id) : CallsM Try.prog F.ref20_Place [RD wait next a n c, i.v] M fun v M' => v = .int .i64 (placeOf L i 0) ∧ M = M' := by
  refine fo_ref20_Place (by simp) ?_
  have hl := hL.flen encK_len (by decide)
  (conv => whnf)
  refine loopQ (σ := Nat) [5] (fun k => [(5, .int .i64 k)]) (fun k => k ≤ n ∧ placeOf L i 0 = placeOf (L.drop k) i k) (fun k => n - k) 0 ⟨by omega, rfl⟩ ⟨(by repeat' first | exact True.intro | refine ⟨rfl, ?_⟩), (by repeat' first | exact True.intro | refine ⟨rfl, ?_⟩), Mem.le_refl _, rfl⟩ ?_
  rintro k ⟨hk, hp⟩
  (conv => whnf); refine brn (fun g => ?_) (fun g => ?_)
  · have g' : k < n := by have := of_decide_eq_true g; omega
    have hlt : k < L.length := by omega
    have hx : L[k]? = some L[k] := List.getElem?_eq_getElem hlt
    rw [List.drop_eq_getElem_cons hlt] at hp
    obtain ⟨b1, o1, ha1, hc1⟩ := hL.fparts encK_len (by decide) hx
    generalize L[k] = x at *
    (conv => whnf); refine ob (by first | omega | (dsimp only; omega)) ?_
    (conv => whnf); refine atp ha1 ?_
    (conv => whnf); refine on (hc1 0 4 (by decide)) ?_
    (conv => whnf)
    rw [idEq4]
    refine brn (fun h => ?_) (fun h => ?_)
    · (conv => whnf)
      refine ⟨?_, rfl⟩
      rw [hp, placeOf, if_pos (of_decide_eq_true h)]
    · (conv => whnf); refine ob (inR_i64 (by omega)) ?_
      (conv => whnf)
      refine ⟨k + 1, ⟨by omega, ?_⟩, by omega, ⟨(by repeat' first | exact True.intro | refine ⟨rfl, ?_⟩), (by repeat' first | exact True.intro | refine ⟨rfl, ?_⟩), Mem.le_refl _, rfl⟩⟩
      rw [hp, placeOf, if_neg (of_decide_eq_false h)]
  · have g' : k = n := by have := of_decide_eq_false g; omega
    subst g'
    rw [List.drop_of_length_le (by omega)] at hp
    (conv => whnf)
    exact ⟨by rw [hp]; rfl, rfl⟩
theorem without_take (L : KL) (i : Id) {k : Nat} (hk : k < L.length) : withoutL (L.take (k + 1)) i = if L[k].1 = i then withoutL (L.take k) i else withoutL (L.take k) i ++ [L[k]] := by
  rw [List.take_add_one, List.getElem?_eq_getElem hk, withoutL, withoutL, List.filter_append]
  by_cases h : L[k].1 = i
  · rw [if_pos h]; simp [h]
  · rw [if_neg h]; simp [h]
theorem without_ok (hL : SrcOk M 8 a n (L.flatMap encK)) (hn : n ≤ 100000000) (i : Id) : CallsM Try.prog F.ref20_without [RD wait next a n c, i.v] M fun v M' => ∃ a' c', v = RD wait next a' (withoutL L i).length c' ∧ NewSl M T.portageref20_Known 8 a' (withoutL L i).length c' ((withoutL L i).flatMap encK) M' := by
  refine fo_ref20_without (by simp) ?_
  have hl := hL.flen encK_len (by decide)
  repeat' ((conv => whnf); first | refine ⟨?_, True.intro⟩ | refine brn_t rfl ?_ | refine brn_f rfl ?_ | refine ob rfl ?_ | refine ob (by decide) ?_ | refine grow_same (Mem.le_refl _) ?_ | refine ob (Mem.le_refl _) ?_ | refine ⟨_, Mem.le_refl _, ?_⟩ | fail)
  refine new (fun b1 hb1 => ?_)
  replace hb1 : M b1 = none := hb1
  obtain ⟨M1, hM1⟩ : ∃ M1, M1 = M.setCells b1 T.portageref20_Known [] := ⟨_, rfl⟩
  have hN1 : NewSl M T.portageref20_Known 8 (some ⟨b1, 0, none⟩) 0 0 (([] : KL).flatMap encK) M1 := hM1 ▸ NewSl.lit hb1 T.portageref20_Known 8 0 [] rfl
  (conv => whnf)
  erw [← hM1]
  refine loopF (σ := Nat × Mem × (Option Addr × Nat × Nat)) [6, 5] (fun y => [(6, .int .i64 y.1), (5, .slice y.2.2.1 y.2.2.2.1 y.2.2.2.2)]) (fun _ => [.live T.portageref20_Desk [.v (.int .i64 wait), .v (.int .i64 next), .v (.slice a n c)], .live T.api_Id [.v (.int .i64 i.o), .v (.int .i64 i.d), .v (.int .i64 i.e), .v (.int .i64 i.c)], .live T.portageref20_Desk [.v (.int .i64 0), .v (.int .i64 0), .v (.slice none 0 0)]]) (fun y => y.2.1)
    (fun | ⟨k, M2, (a2, n2, c2)⟩ => k ≤ n ∧ n2 = (withoutL (L.take k) i).length ∧ NewSl M T.portageref20_Known 8 a2 n2 c2 ((withoutL (L.take k) i).flatMap encK) M2) (fun y => n - y.1) ⟨0, M1, (some ⟨b1, 0, none⟩, 0, 0)⟩ ⟨by omega, rfl, hN1⟩ ⟨(by repeat' first | exact True.intro | refine ⟨rfl, ?_⟩), (by repeat' first | exact True.intro | refine ⟨rfl, ?_⟩), Mem.le_refl _, rfl⟩ ?_
  rintro ⟨k, M2, ⟨a2, n2, c2⟩⟩ ⟨hk, hn2, hN⟩
  have hlen : (withoutL (L.take k) i).length ≤ k := by
    have h9 : (withoutL (L.take k) i).length ≤ (L.take k).length := List.length_filter_le _ _
    rw [List.length_take] at h9; omega
  (conv => whnf); refine brn (fun g => ?_) (fun g => ?_)
  rotate_left
  · have hge : k = n := by have := of_decide_eq_false g; dsimp only at this; omega
    subst hge
    rw [List.take_of_length_le (by omega)] at hN hn2
    subst hn2
    repeat' ((conv => whnf); first | refine ⟨?_, True.intro⟩ | refine brn_t rfl ?_ | refine brn_f rfl ?_ | refine ob rfl ?_ | refine ob (by decide) ?_ | refine grow_same (Mem.le_refl _) ?_ | refine ob (Mem.le_refl _) ?_ | refine ⟨_, Mem.le_refl _, ?_⟩ | fail)
    exact ⟨a2, c2, rfl, hN⟩
  have hlt : k < L.length := by have := of_decide_eq_true g; dsimp only at this; omega
  have hx : L[k]? = some L[k] := List.getElem?_eq_getElem hlt
  have htk := without_take L i hlt
  obtain ⟨b2, o2, ha2, hc2⟩ := (hL.le hN.le).fparts encK_len (by decide) hx
  generalize L[k] = x at *
  (conv => whnf); refine ob (by first | omega | (dsimp only; omega)) ?_
  (conv => whnf); refine atp ha2 ?_
  (conv => whnf); refine on (hc2 0 4 (by decide)) ?_
  (conv => whnf)
  rw [idEq4]
  refine brn (fun h => ?_) (fun h => ?_)
  · have h' : ¬ x.1 = i := by simpa using h
    rw [if_neg h'] at htk
    (conv => whnf); refine ob (by first | omega | (dsimp only; omega)) ?_
    (conv => whnf); refine atp ha2 ?_
    (conv => whnf); refine on (hc2 0 8 (by decide)) ?_
    repeat' ((conv => whnf); first | refine ⟨?_, True.intro⟩ | refine brn_t rfl ?_ | refine brn_f rfl ?_ | refine ob rfl ?_ | refine ob (by decide) ?_ | refine grow_same (Mem.le_refl _) ?_ | refine ob (Mem.le_refl _) ?_ | refine ⟨_, Mem.le_refl _, ?_⟩ | fail)
    refine appF M hN x (by simp) (by dsimp only; omega) (by dsimp only; simp [maxLen]; omega) (encK_one x) fun a3 c3 M3 hN3 hk3 => ?_
    repeat' ((conv => whnf); first | refine ⟨?_, True.intro⟩ | refine brn_t rfl ?_ | refine brn_f rfl ?_ | refine ob rfl ?_ | refine ob (by decide) ?_ | refine grow_same (Mem.le_refl _) ?_ | refine ob (Mem.le_refl _) ?_ | refine ⟨_, Mem.le_refl _, ?_⟩ | fail)
    refine ob (inR_i64 (by first | omega | (dsimp only; omega))) ?_
    (conv => whnf)
    exact ⟨⟨k + 1, M3, (a3, n2 + 1, c3)⟩, ⟨by omega, by rw [htk, hn2]; simp, htk ▸ hN3⟩, by dsimp only; omega, ⟨(by repeat' first | exact True.intro | refine ⟨rfl, ?_⟩), (by repeat' first | exact True.intro | refine ⟨rfl, ?_⟩), Mem.le_refl _, rfl⟩⟩
  · have h' : x.1 = i := by simpa using h
    rw [if_pos h'] at htk
    repeat' ((conv => whnf); first | refine ⟨?_, True.intro⟩ | refine brn_t rfl ?_ | refine brn_f rfl ?_ | refine ob rfl ?_ | refine ob (by decide) ?_ | refine grow_same (Mem.le_refl _) ?_ | refine ob (Mem.le_refl _) ?_ | refine ⟨_, Mem.le_refl _, ?_⟩ | fail)
    refine ob (inR_i64 (by first | omega | (dsimp only; omega))) ?_
    (conv => whnf)
    exact ⟨⟨k + 1, M2, (a2, n2, c2)⟩, ⟨by omega, by rw [htk]; exact hn2, htk ▸ hN⟩, by dsimp only; omega, ⟨(by repeat' first | exact True.intro | refine ⟨rfl, ?_⟩), (by repeat' first | exact True.intro | refine ⟨rfl, ?_⟩), Mem.le_refl _, rfl⟩⟩
/-- the loop of 'with', from some place on -/
theorem insL_drop (x : Id × Known) (W : KL) {k : Nat} (hk : k < W.length) (dn : Bool) : insL x dn (W.drop k) = if dn = false ∧ ltId x.1 W[k].1 = true then x :: W[k] :: insL x true (W.drop (k + 1)) else W[k] :: insL x dn (W.drop (k + 1)) := by
  rw [List.drop_eq_getElem_cons hk, insL]
theorem with_ok (hL : SrcOk M 8 a n (L.flatMap encK)) (hn : n ≤ 99999999) (x : Id × Known) : CallsM Try.prog F.ref20_with [RD wait next a n c, knV x] M fun v M' => ∃ a' c', v = RD wait next a' (withL L x).length c' ∧ NewSl M T.portageref20_Known 8 a' (withL L x).length c' ((withL L x).flatMap encK) M' := by
  refine fo_ref20_with (by simp) ?_
  have hl := hL.flen encK_len (by decide)
  repeat' ((conv => whnf); first | refine ⟨?_, True.intro⟩ | refine brn_t rfl ?_ | refine brn_f rfl ?_ | refine ob rfl ?_ | refine ob (by decide) ?_ | refine grow_same (Mem.le_refl _) ?_ | refine ob (Mem.le_refl _) ?_ | refine ⟨_, Mem.le_refl _, ?_⟩ | fail)
  refine (without_ok (c := c) hL (by omega) x.1).mono ?_
  rintro v M1 ⟨a1, c1, rfl, hN1⟩
  have hwl : (withoutL L x.1).length ≤ n := by rw [← hl]; exact List.length_filter_le _ _
  show vc _ _ _ _
  obtain ⟨W, hW⟩ : ∃ W, W = withoutL L x.1 := ⟨_, rfl⟩
  have hWL : withL L x = insL x false W := by rw [hW]
  rw [hWL]
  rw [← hW] at hN1 hwl ⊢
  repeat' ((conv => whnf); first | refine ⟨?_, True.intro⟩ | refine brn_t rfl ?_ | refine brn_f rfl ?_ | refine ob rfl ?_ | refine ob (by decide) ?_ | refine grow_same (Mem.le_refl _) ?_ | refine ob (Mem.le_refl _) ?_ | refine ⟨_, Mem.le_refl _, ?_⟩ | fail)
  refine new (fun b2 hb2 => ?_)
  replace hb2 : M1 b2 = none := hb2
  obtain ⟨M2, hM2⟩ : ∃ M2, M2 = M1.setCells b2 T.portageref20_Known [] := ⟨_, rfl⟩
  have hN2 : NewSl M1 T.portageref20_Known 8 (some ⟨b2, 0, none⟩) 0 0 (([] : KL).flatMap encK) M2 := hM2 ▸ NewSl.lit hb2 T.portageref20_Known 8 0 [] rfl
  (conv => whnf)
  erw [← hM2]
  have hWl : W.length = W.length := rfl
  refine loopF (σ := Nat × Bool × Mem × (Option Addr × Nat × Nat) × KL) [7, 6, 5] (fun y => [(7, .int .i64 y.1), (6, .c (.v (.bool y.2.1))), (5, .slice y.2.2.2.1.1 y.2.2.2.1.2.1 y.2.2.2.1.2.2)]) (fun _ => [.live T.portageref20_Desk [.v (.int .i64 wait), .v (.int .i64 next), .v (.slice a1 W.length c1)], .live T.portageref20_Known ((encK x).map .v), .live T.portageref20_Desk [.v (.int .i64 0), .v (.int .i64 0), .v (.slice none 0 0)]]) (fun y => y.2.2.1)
    (fun | ⟨k, dn, M3, (a3, n3, c3), O⟩ => k ≤ W.length ∧ n3 = O.length ∧ O.length ≤ k + 1 ∧ (dn = false → O.length ≤ k) ∧ NewSl M1 T.portageref20_Known 8 a3 n3 c3 (O.flatMap encK) M3 ∧ insL x false W = O ++ insL x dn (W.drop k)) (fun y => W.length - y.1) ⟨0, false, M2, (some ⟨b2, 0, none⟩, 0, 0), []⟩ ⟨by omega, rfl, by simp, by simp, hN2, rfl⟩ ⟨(by repeat' first | exact True.intro | refine ⟨rfl, ?_⟩), (by repeat' first | exact True.intro | refine ⟨rfl, ?_⟩), Mem.le_refl _, rfl⟩ ?_
  rintro ⟨k, dn, M3, ⟨a3, n3, c3⟩, O⟩ ⟨hk, hn3, hO1, hO2, hN3, hins⟩
  (conv => whnf); refine brn (fun g => ?_) (fun g => ?_)
  rotate_left
  · have hge : k = W.length := by have := of_decide_eq_false g; dsimp only at this; omega
    rw [hge, List.drop_length] at hins
    cases dn with
    | false =>
      repeat' ((conv => whnf); first | refine ⟨?_, True.intro⟩ | refine brn_t rfl ?_ | refine brn_f rfl ?_ | refine ob rfl ?_ | refine ob (by decide) ?_ | refine grow_same (Mem.le_refl _) ?_ | refine ob (Mem.le_refl _) ?_ | refine ⟨_, Mem.le_refl _, ?_⟩ | fail)
      refine appF M1 hN3 x (by simp) (by dsimp only; omega) (by dsimp only; simp [maxLen]; omega) (encK_one x) fun a4 c4 M4 hN4 hk4 => ?_
      repeat' ((conv => whnf); first | refine ⟨?_, True.intro⟩ | refine brn_t rfl ?_ | refine brn_f rfl ?_ | refine ob rfl ?_ | refine ob (by decide) ?_ | refine grow_same (Mem.le_refl _) ?_ | refine ob (Mem.le_refl _) ?_ | refine ⟨_, Mem.le_refl _, ?_⟩ | fail)
      have e : insL x false W = O ++ [x] := by rw [hins]; rfl
      refine ⟨a4, c4, ?_, ?_⟩
      · rw [e, hn3]; simp
      · rw [e]
        have := hN4.mono hN1.le
        rw [hn3] at this
        simpa using this
    | true =>
      repeat' ((conv => whnf); first | refine ⟨?_, True.intro⟩ | refine brn_t rfl ?_ | refine brn_f rfl ?_ | refine ob rfl ?_ | refine ob (by decide) ?_ | refine grow_same (Mem.le_refl _) ?_ | refine ob (Mem.le_refl _) ?_ | refine ⟨_, Mem.le_refl _, ?_⟩ | fail)
      have e : insL x false W = O := by rw [hins]; simp [insL]
      refine ⟨a3, c3, ?_, ?_⟩
      · rw [e, hn3]
      · rw [e, ← hn3]; exact hN3.mono hN1.le
  have hlt : k < W.length := by have := of_decide_eq_true g; dsimp only at this; omega
  have hx : W[k]? = some W[k] := List.getElem?_eq_getElem hlt
  have hdr := insL_drop x W hlt dn
  obtain ⟨b5, o5, ha5, hc5⟩ := (hN1.src.le hN3.le).fparts encK_len (by decide) hx
  generalize W[k] = y at *
  have hnot : ¬ (dn = false ∧ ltId x.1 y.1 = true) → insL x false W = (O ++ [y]) ++ insL x dn (W.drop (k + 1)) := fun h => by
    rw [hins, hdr, if_neg h, List.append_assoc]; rfl
  cases dn with
  | false =>
    -- not yet done
    have hO3 := hO2 rfl
    (conv => whnf); refine ob (by first | omega | (dsimp only; omega)) ?_
    (conv => whnf); refine atp ha5 ?_
    (conv => whnf); refine on (hc5 0 4 (by decide)) ?_
    repeat' ((conv => whnf); first | refine ⟨?_, True.intro⟩ | refine brn_t rfl ?_ | refine brn_f rfl ?_ | refine ob rfl ?_ | refine ob (by decide) ?_ | refine grow_same (Mem.le_refl _) ?_ | refine ob (Mem.le_refl _) ?_ | refine ⟨_, Mem.le_refl _, ?_⟩ | fail)
    refine (lessR_ok x.1 y.1 M3).mono ?_
    rintro v M4 ⟨rfl, hle4⟩
    have hN4 := hN3.up hle4
    have hc5' : M4.row b5 (o5 + k * 8 + 0) 8 = some (((encK y).drop 0).take 8) := Mem.row_le hle4 (hc5 0 8 (by decide))
    repeat' ((conv => whnf); first | refine ob rfl ?_ | refine grow_same hle4 ?_ | refine ob hle4 ?_ | refine ⟨?_, True.intro⟩ | fail)
    (conv => whnf); refine brn (fun g1 => ?_) (fun g1 => ?_)
    · have hins2 : insL x false W = ((O ++ [x]) ++ [y]) ++ insL x true (W.drop (k + 1)) := by
        rw [hins, hdr, if_pos ⟨rfl, g1⟩, List.append_assoc, List.append_assoc]; rfl
      repeat' ((conv => whnf); first | refine ⟨?_, True.intro⟩ | refine brn_t rfl ?_ | refine brn_f rfl ?_ | refine ob rfl ?_ | refine ob (by decide) ?_ | refine grow_same (Mem.le_refl _) ?_ | refine ob (Mem.le_refl _) ?_ | refine ⟨_, Mem.le_refl _, ?_⟩ | fail)
      refine appF M1 hN4 x (by simp) (by dsimp only; omega) (by dsimp only; simp [maxLen]; omega) (encK_one x) fun a6 c6 M6 hN6 hk6 => ?_
      have hc6 : M6.row b5 (o5 + k * 8 + 0) 8 = some (((encK y).drop 0).take 8) := by
        obtain ⟨b7, o7, ha7, hc7⟩ := (hN1.src.le hN6.le).fparts encK_len (by decide) hx
        rw [ha5] at ha7
        cases ha7
        exact hc7 0 8 (by decide)
      repeat' ((conv => whnf); first | refine ⟨?_, True.intro⟩ | refine brn_t rfl ?_ | refine brn_f rfl ?_ | refine ob rfl ?_ | refine ob (by decide) ?_ | refine grow_same (Mem.le_refl _) ?_ | refine ob (Mem.le_refl _) ?_ | refine ⟨_, Mem.le_refl _, ?_⟩ | fail)
      refine ob (by first | omega | (dsimp only; omega)) ?_
      (conv => whnf); refine atp ha5 ?_
      (conv => whnf); refine on hc6 ?_
      repeat' ((conv => whnf); first | refine ⟨?_, True.intro⟩ | refine brn_t rfl ?_ | refine brn_f rfl ?_ | refine ob rfl ?_ | refine ob (by decide) ?_ | refine grow_same (Mem.le_refl _) ?_ | refine ob (Mem.le_refl _) ?_ | refine ⟨_, Mem.le_refl _, ?_⟩ | fail)
      refine appF M1 hN6 y (by simp) (by dsimp only; omega) (by dsimp only; simp [maxLen]; omega) (encK_one y) fun a8 c8 M8 hN8 hk8 => ?_
      repeat' ((conv => whnf); first | refine ⟨?_, True.intro⟩ | refine brn_t rfl ?_ | refine brn_f rfl ?_ | refine ob rfl ?_ | refine ob (by decide) ?_ | refine grow_same (Mem.le_refl _) ?_ | refine ob (Mem.le_refl _) ?_ | refine ⟨_, Mem.le_refl _, ?_⟩ | fail)
      refine ob (inR_i64 (by first | omega | (dsimp only; omega))) ?_
      (conv => whnf)
      exact ⟨⟨k + 1, true, M8, (a8, n3 + 1 + 1, c8), (O ++ [x]) ++ [y]⟩, ⟨by omega, by simp [hn3], by simp; omega, by simp, hN8, hins2⟩, by dsimp only; omega, ⟨(by repeat' first | exact True.intro | refine ⟨rfl, ?_⟩), (by repeat' first | exact True.intro | refine ⟨rfl, ?_⟩), Mem.le_refl _, rfl⟩⟩
    · have hins2 := hnot (fun h => by rw [h.2] at g1; cases g1)
      (conv => whnf); refine ob (by first | omega | (dsimp only; omega)) ?_
      (conv => whnf); refine atp ha5 ?_
      (conv => whnf); refine on hc5' ?_
      repeat' ((conv => whnf); first | refine ⟨?_, True.intro⟩ | refine brn_t rfl ?_ | refine brn_f rfl ?_ | refine ob rfl ?_ | refine ob (by decide) ?_ | refine grow_same (Mem.le_refl _) ?_ | refine ob (Mem.le_refl _) ?_ | refine ⟨_, Mem.le_refl _, ?_⟩ | fail)
      refine appF M1 hN4 y (by simp) (by dsimp only; omega) (by dsimp only; simp [maxLen]; omega) (encK_one y) fun a8 c8 M8 hN8 hk8 => ?_
      repeat' ((conv => whnf); first | refine ⟨?_, True.intro⟩ | refine brn_t rfl ?_ | refine brn_f rfl ?_ | refine ob rfl ?_ | refine ob (by decide) ?_ | refine grow_same (Mem.le_refl _) ?_ | refine ob (Mem.le_refl _) ?_ | refine ⟨_, Mem.le_refl _, ?_⟩ | fail)
      refine ob (inR_i64 (by first | omega | (dsimp only; omega))) ?_
      (conv => whnf)
      exact ⟨⟨k + 1, false, M8, (a8, n3 + 1, c8), O ++ [y]⟩, ⟨by omega, by simp [hn3], by simp; omega, fun _ => by simp; omega, hN8, hins2⟩, by dsimp only; omega, ⟨(by repeat' first | exact True.intro | refine ⟨rfl, ?_⟩), (by repeat' first | exact True.intro | refine ⟨rfl, ?_⟩), Mem.le_refl _, rfl⟩⟩
  | true =>
    have hins2 := hnot (by simp)
    repeat' ((conv => whnf); first | refine ⟨?_, True.intro⟩ | refine brn_t rfl ?_ | refine brn_f rfl ?_ | refine ob rfl ?_ | refine ob (by decide) ?_ | refine grow_same (Mem.le_refl _) ?_ | refine ob (Mem.le_refl _) ?_ | refine ⟨_, Mem.le_refl _, ?_⟩ | fail)
    refine ob (by first | omega | (dsimp only; omega)) ?_
    (conv => whnf); refine atp ha5 ?_
    (conv => whnf); refine on (hc5 0 8 (by decide)) ?_
    repeat' ((conv => whnf); first | refine ⟨?_, True.intro⟩ | refine brn_t rfl ?_ | refine brn_f rfl ?_ | refine ob rfl ?_ | refine ob (by decide) ?_ | refine grow_same (Mem.le_refl _) ?_ | refine ob (Mem.le_refl _) ?_ | refine ⟨_, Mem.le_refl _, ?_⟩ | fail)
    refine appF M1 hN3 y (by simp) (by dsimp only; omega) (by dsimp only; simp [maxLen]; omega) (encK_one y) fun a4 c4 M4 hN4 hk4 => ?_
    repeat' ((conv => whnf); first | refine ⟨?_, True.intro⟩ | refine brn_t rfl ?_ | refine brn_f rfl ?_ | refine ob rfl ?_ | refine ob (by decide) ?_ | refine grow_same (Mem.le_refl _) ?_ | refine ob (Mem.le_refl _) ?_ | refine ⟨_, Mem.le_refl _, ?_⟩ | fail)
    refine ob (inR_i64 (by first | omega | (dsimp only; omega))) ?_
    (conv => whnf)
    exact ⟨⟨k + 1, true, M4, (a4, n3 + 1, c4), O ++ [y]⟩, ⟨by omega, by simp [hn3], by simp; omega, by simp, hN4, hins2⟩, by dsimp only; omega, ⟨(by repeat' first | exact True.intro | refine ⟨rfl, ?_⟩), (by repeat' first | exact True.intro | refine ⟨rfl, ?_⟩), Mem.le_refl _, rfl⟩⟩
end Go.Proofs.Ythlleljdahkgpaa
