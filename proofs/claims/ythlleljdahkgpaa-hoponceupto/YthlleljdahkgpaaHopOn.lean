/- HopOnce, as a contract. -/
import Derived.Test.YthlleljdahkgpaaHopN
import Derived.Test.YthlleljdahkgpaaReadsAct20
namespace Go.Proofs.Ythlleljdahkgpaa
open Go Go.Vm
attribute [local irreducible] Brn Ob Grow CallsM inR LoopVC Mem.row Mem.cells Mem.setCells Mem.upd Own AppVC SrcVC StrVC NextVC New SrcOk subA NewSl Mem.textAt Mem.mapAt Mem.iterAt entryOf kfind Wr NewEls Elems
set_option maxRecDepth 10000
structure StO where
  i : Nat
  mem : Mem
  now : Int
  m : KL
  next : Int
  op : List Id
  oa : Option Addr
  oc : Nat
  si : List Int
  sa : Option Addr
  sc : Nat
@[reducible] def actCs (x : Act) (a1 a2 a3 : Option Addr) (n1 n2 n3 c1 c2 c3 : Nat) : List Value := [.int .i64 x.kind, .slice a1 n1 c1, .slice a2 n2 c2, .slice a3 n3 c3, .int .i64 x.frm, .int .i64 x.n, .int .i64 x.id.o, .int .i64 x.id.d, .int .i64 x.id.e, .int .i64 x.id.c]
variable {M : Mem}
theorem once_law (wait : Int) {a : Option Addr} {n c : Nat} {l : List Act} (hl : Elems M 10 a n (ActR M) l) (hn : n ≤ 1048576) :
    CallsM Try.prog F.law20_HopOnce [.int .i64 wait, .slice a n c] M fun v M' => v = .bool true ∧ M.le M' := by
  refine fo_law20_HopOnce (by simp) ?_
  (conv => whnf); refine (new_ok wait M).mono ?_
  rintro v M1 (⟨hw, rfl, rfl⟩ | ⟨hw, p, b, rfl, hp, hb, hle, hd⟩)
  · repeat' ((conv => whnf); first | refine ⟨?_, True.intro⟩ | refine brn_t rfl ?_ | refine brn_f rfl ?_ | refine ob rfl ?_ | refine ob (by decide) ?_ | refine grow_same (Mem.le_refl _) ?_ | refine ob (Mem.le_refl _) ?_ | refine ⟨_, Mem.le_refl _, ?_⟩ | fail)
    refine brn (fun g => ?_) (fun g => ?_)
    · repeat' ((conv => whnf); first | refine ⟨?_, True.intro⟩ | refine brn_t rfl ?_ | refine brn_f rfl ?_ | refine ob rfl ?_ | refine ob (by decide) ?_ | refine grow_same (Mem.le_refl _) ?_ | refine ob (Mem.le_refl _) ?_ | refine ⟨_, Mem.le_refl _, ?_⟩ | fail)
      refine (awake_ok M).mono ?_
      rintro v M2 ⟨rfl, hle⟩
      repeat' ((conv => whnf); first | refine ⟨?_, True.intro⟩ | refine brn_t rfl ?_ | refine brn_f rfl ?_ | refine ob rfl ?_ | refine ob (by decide) ?_ | refine grow_same (Mem.le_refl _) ?_ | refine ob (Mem.le_refl _) ?_ | refine ⟨_, Mem.le_refl _, ?_⟩ | fail)
      exact ⟨rfl, hle⟩
    · have g1 : ¬ wait < 1 := of_decide_eq_false g
      repeat' ((conv => whnf); first | refine ⟨?_, True.intro⟩ | refine brn_t rfl ?_ | refine brn_f rfl ?_ | refine ob rfl ?_ | refine ob (by decide) ?_ | refine grow_same (Mem.le_refl _) ?_ | refine ob (Mem.le_refl _) ?_ | refine ⟨_, Mem.le_refl _, ?_⟩ | fail)
      refine brn_t (decide_eq_true (by omega)) ?_
      repeat' ((conv => whnf); first | refine ⟨?_, True.intro⟩ | refine brn_t rfl ?_ | refine brn_f rfl ?_ | refine ob rfl ?_ | refine ob (by decide) ?_ | refine grow_same (Mem.le_refl _) ?_ | refine ob (Mem.le_refl _) ?_ | refine ⟨_, Mem.le_refl _, ?_⟩ | fail)
      refine (awake_ok M).mono ?_
      rintro v M2 ⟨rfl, hle⟩
      repeat' ((conv => whnf); first | refine ⟨?_, True.intro⟩ | refine brn_t rfl ?_ | refine brn_f rfl ?_ | refine ob rfl ?_ | refine ob (by decide) ?_ | refine grow_same (Mem.le_refl _) ?_ | refine ob (Mem.le_refl _) ?_ | refine ⟨_, Mem.le_refl _, ?_⟩ | fail)
      exact ⟨rfl, hle⟩
  repeat' ((conv => whnf); first | refine ⟨?_, True.intro⟩ | refine brn_t rfl ?_ | refine brn_f rfl ?_ | refine ob rfl ?_ | refine ob (by decide) ?_ | refine grow_same (Mem.le_refl _) ?_ | refine ob (Mem.le_refl _) ?_ | refine ⟨_, Mem.le_refl _, ?_⟩ | fail)
  refine new (fun b1 hb1 => ?_)
  replace hb1 : M1 b1 = none := hb1
  obtain ⟨M2, hM2⟩ : ∃ M2, M2 = M1.setCells b1 T.api_Id [] := ⟨_, rfl⟩
  have hN1 : NewSl M1 T.api_Id 4 (some ⟨b1, 0, none⟩) 0 0 (([] : List Id).flatMap encI) M2 := hM2 ▸ NewSl.lit hb1 T.api_Id 4 0 [] rfl
  (conv => whnf)
  erw [← hM2]
  repeat' ((conv => whnf); first | refine ⟨?_, True.intro⟩ | refine brn_t rfl ?_ | refine brn_f rfl ?_ | refine ob rfl ?_ | refine ob (by decide) ?_ | refine grow_same (Mem.le_refl _) ?_ | refine ob (Mem.le_refl _) ?_ | refine ⟨_, Mem.le_refl _, ?_⟩ | fail)
  refine new (fun b2 hb2 => ?_)
  replace hb2 : M2 b2 = none := hb2
  obtain ⟨M3, hM3⟩ : ∃ M3, M3 = M2.setCells b2 T.int [] := ⟨_, rfl⟩
  have hN2 : NewSl M2 T.int 1 (some ⟨b2, 0, none⟩) 0 0 (([] : List Int).map intV) M3 := hM3 ▸ NewSl.lit hb2 T.int 1 0 [] rfl
  (conv => whnf)
  erw [← hM3]
  have hMn : ∀ {X : Mem} {y : Nat}, M.le X → X y = none → M y = none := fun {X y} h0 h1 => by
    cases e : M y with
    | none => rfl
    | some o => rw [h0 y o e] at h1; cases h1
  have hL : Lay M M3 p b wait 0 [] [] (some ⟨b1, 0, none⟩) 0 [] (some ⟨b2, 0, none⟩) 0 := by
    refine ⟨Mem.le_trans hle (Mem.le_trans hN1.le hN2.le), hd.le (Mem.le_trans hN1.le hN2.le), hp, hb, hN1.wr.le hN2.le, hN2.wr, fun y hy => ?_, fun y hy => ?_⟩
    · obtain ⟨q, hq, rfl⟩ := hy
      cases hq
      exact hMn hle hb1
    · obtain ⟨q, hq, rfl⟩ := hy
      cases hq
      exact hMn (Mem.le_trans hle hN1.le) hb2
  (conv => whnf)
  refine loopF (σ := StO) [10, 9, 8, 7] (fun y => [(10, .int .i64 y.i), (9, .int .i64 y.now), (8, .slice y.sa y.si.length y.sc), (7, .slice y.oa y.op.length y.oc)]) (fun _ => []) (fun y => y.mem)
    (fun y => (y.i ≤ n ∧ y.i ≤ 60) ∧ Lay M y.mem p b wait y.next y.m y.op y.oa y.oc y.si y.sa y.sc ∧ AllK y.m ∧ (0 ≤ y.next ∧ y.next ≤ 65535) ∧ OnceI y.m y.now y.op y.si ∧ (0 ≤ y.now ∧ y.now ≤ y.i) ∧ y.m.length ≤ y.i * 1048576 ∧ y.op.length ≤ y.i * 1048576) (fun y => 60 - y.i)
    ⟨0, M3, 0, [], 0, [], _, _, [], _, _⟩ ⟨by simp, hL, (fun i k h => by cases h), by simp, OnceI.nil _ _, by simp, by simp, by simp⟩ ⟨(by repeat' first | exact True.intro | refine ⟨rfl, ?_⟩), (by repeat' first | exact True.intro | refine ⟨rfl, ?_⟩), Mem.le_refl _, rfl⟩ ?_
  clear hL hN1 hN2 hM2 hM3 hb1 hb2 hMn hd hp hb hle
  rintro ⟨i, Mc, now, m, next, op, oa, oc, si, sa, sc⟩ ⟨⟨hi, hi60⟩, hL, hA, hnx, hO, hnow, hml, hol⟩
  dsimp only at hi hi60 hL hA hnx hO hnow hml hol
  have hsl := hO.len
  (conv => whnf); refine brn (fun g => ?_) (fun g => ?_)
  rotate_left
  · repeat' ((conv => whnf); first | refine ⟨?_, True.intro⟩ | refine brn_t rfl ?_ | refine brn_f rfl ?_ | refine ob rfl ?_ | refine ob (by decide) ?_ | refine grow_same (Mem.le_refl _) ?_ | refine ob (Mem.le_refl _) ?_ | refine ⟨_, Mem.le_refl _, ?_⟩ | fail)
    refine (awake_ok Mc).mono ?_
    rintro v M2 ⟨rfl, hle⟩
    repeat' ((conv => whnf); first | refine ⟨?_, True.intro⟩ | refine brn_t rfl ?_ | refine brn_f rfl ?_ | refine ob rfl ?_ | refine ob (by decide) ?_ | refine grow_same (Mem.le_refl _) ?_ | refine ob (Mem.le_refl _) ?_ | refine ⟨_, Mem.le_refl _, ?_⟩ | fail)
    exact ⟨rfl, Mem.le_trans hL.le hle⟩
  have hlt : i < n := by have := of_decide_eq_true g; dsimp only at this; omega
  (conv => whnf); refine brn (fun g' => ?_) (fun g' => ?_)
  rotate_left
  · repeat' ((conv => whnf); first | refine ⟨?_, True.intro⟩ | refine brn_t rfl ?_ | refine brn_f rfl ?_ | refine ob rfl ?_ | refine ob (by decide) ?_ | refine grow_same (Mem.le_refl _) ?_ | refine ob (Mem.le_refl _) ?_ | refine ⟨_, Mem.le_refl _, ?_⟩ | fail)
    refine (awake_ok Mc).mono ?_
    rintro v M2 ⟨rfl, hle⟩
    repeat' ((conv => whnf); first | refine ⟨?_, True.intro⟩ | refine brn_t rfl ?_ | refine brn_f rfl ?_ | refine ob rfl ?_ | refine ob (by decide) ?_ | refine grow_same (Mem.le_refl _) ?_ | refine ob (Mem.le_refl _) ?_ | refine ⟨_, Mem.le_refl _, ?_⟩ | fail)
    exact ⟨rfl, Mem.le_trans hL.le hle⟩
  have hlt60 : i < 60 := by have := of_decide_eq_true g'; dsimp only at this; omega
  obtain ⟨hil, bb, o, cs, ha, _, hrow, _, a1, a2, a3, n1, n2, n3, c1, c2, c3, rfl, g1, g2, g3, g4, g5, g6⟩ := hl.at (by decide) hlt
  generalize l[i] = x at *
  (conv => whnf); refine ob (by first | omega | (dsimp only; omega)) ?_
  (conv => whnf); refine atp ha ?_
  (conv => whnf); refine on (Mem.row_le hL.le hrow) ?_
  (conv => whnf); refine brn (fun k0 => ?_) (fun k0 => ?_)
  · -- a plan
    repeat' ((conv => whnf); first | refine ⟨?_, True.intro⟩ | refine brn_t rfl ?_ | refine brn_f rfl ?_ | refine ob rfl ?_ | refine ob (by decide) ?_ | refine grow_same (Mem.le_refl _) ?_ | refine ob (Mem.le_refl _) ?_ | refine ⟨_, Mem.le_refl _, ?_⟩ | fail)
    refine (hL.plan hnx a1 a2 a3 n1 n2 n3 c1 c2 c3 x.held x.via x.up g1 g3 g5 g2 g6).mono ?_
    rintro v M4 ⟨Z, a4, c4, out, next', m', rfl, hMZ, hL4, hE, hF⟩
    have holen := hF.olen
    have hmlen := hF.len
    (conv => whnf)
    refine loopF (σ := Nat × Mem × (List Id × Option Addr × Nat) × (List Int × Option Addr × Nat)) [13, 8, 7] (fun y => [(13, .int .i64 y.1), (8, .slice y.2.2.2.2.1 y.2.2.2.1.length y.2.2.2.2.2), (7, .slice y.2.2.1.2.1 y.2.2.1.1.length y.2.2.1.2.2)]) (fun _ => [.live T.portagelaw20_Act ((actCs x a1 a2 a3 n1 n2 n3 c1 c2 c3).map .v)]) (fun y => y.2.1)
      (fun | ⟨k, M5, (op', oa', oc'), (si', sa', sc')⟩ => k ≤ out.length ∧ Lay Z M5 p b wait next' m' op' oa' oc' si' sa' sc' ∧ OnceI m' now op' si' ∧ op' = op ++ (out.take k).map (·.msg.id) ∧ si' = si ++ List.replicate k now) (fun y => out.length - y.1)
      ⟨0, M4, (op, oa, oc), (si, sa, sc)⟩ ⟨by omega, hL4, hO.mono fun y k h _ => hF.keep y k h, by simp, by simp⟩ ⟨(by repeat' first | exact True.intro | refine ⟨rfl, ?_⟩), (by repeat' first | exact True.intro | refine ⟨rfl, ?_⟩), Mem.le_refl _, rfl⟩ ?_
    rintro ⟨k, M5, ⟨op', oa', oc'⟩, ⟨si', sa', sc'⟩⟩ ⟨hk, hL5, hO5, hop, hsi⟩
    have hsl5 := hO5.len
    have hopl : op'.length = op.length + k := by rw [hop]; simp; omega
    (conv => whnf); refine brn (fun g7 => ?_) (fun g7 => ?_)
    rotate_left
    · repeat' ((conv => whnf); first | refine ⟨?_, True.intro⟩ | refine brn_t rfl ?_ | refine brn_f rfl ?_ | refine ob rfl ?_ | refine ob (by decide) ?_ | refine grow_same (Mem.le_refl _) ?_ | refine ob (Mem.le_refl _) ?_ | refine ⟨_, Mem.le_refl _, ?_⟩ | fail)
      refine ob (inR_i64 (by first | omega | (dsimp only; omega))) ?_
      (conv => whnf)
      exact ⟨⟨i + 1, M5, now, m', next', op', oa', oc', si', sa', sc'⟩, ⟨by dsimp only; omega, hL5.weak hMZ, hF.all hA, hF.nx, hO5, by dsimp only; omega, by dsimp only; omega, by dsimp only; omega⟩, by dsimp only; omega, ⟨(by repeat' first | exact True.intro | refine ⟨rfl, ?_⟩), (by repeat' first | exact True.intro | refine ⟨rfl, ?_⟩), Mem.le_refl _, rfl⟩⟩
    have hkl : k < out.length := by have := of_decide_eq_true g7; dsimp only at this; omega
    obtain ⟨hkl', b6, o6, cs6, ha6, hrows6, hrow6, _, v6, rfl⟩ := hE.at (by decide) hkl
    have hwas := hF.was out[k] (List.getElem_mem _)
    have hids : ∀ (t : Nat) y, op'[t]? = some y → y = out[k].msg.id → t < op.length ∧ op[t]? = some y := fun t y ht e => by
      rw [hop] at ht
      by_cases htl : t < op.length
      · rw [List.getElem?_append_left htl] at ht; exact ⟨htl, ht⟩
      · exfalso
        rw [List.getElem?_append_right (by omega), List.map_take, List.getElem?_take] at ht
        split at ht
        · rename_i htk
          have hnd := hF.ids
          have h1 : (out.map (·.msg.id))[k]? = some out[k].msg.id := by rw [List.getElem?_map, List.getElem?_eq_getElem hkl]; rfl
          rw [← e] at h1
          have := (List.getElem?_inj (by have := (List.getElem?_eq_some_iff.1 ht).1; exact this) hnd).1 (ht.trans h1.symm)
          omega
        · cases ht
    have htk : (out.take (k + 1)).map (·.msg.id) = (out.take k).map (·.msg.id) ++ [out[k].msg.id] := by
      rw [List.take_add_one, List.getElem?_eq_getElem hkl, List.map_append]; rfl
    generalize out[k] = z at *
    (conv => whnf)
    refine loopQ [14] (fun (j : Nat) => [(14, .int .i64 j)]) (fun j => j ≤ op'.length) (fun j => op'.length - j) 0 (by omega) ⟨(by repeat' first | exact True.intro | refine ⟨rfl, ?_⟩), (by repeat' first | exact True.intro | refine ⟨rfl, ?_⟩), Mem.le_refl _, rfl⟩ ?_
    intro j hj
    (conv => whnf); refine brn (fun g8 => ?_) (fun g8 => ?_)
    · have hjl : j < op'.length := by have := of_decide_eq_true g8; dsimp only at this; omega
      have hx : op'[j]? = some op'[j] := List.getElem?_eq_getElem hjl
      have hid := hids j op'[j] hx
      obtain ⟨b7, o7, ha7, hcc7⟩ := hL5.op.src.fparts encI_len (by decide) hx
      have hsx : si'[j]? = some (si'[j]'(by omega)) := List.getElem?_eq_getElem (by omega)
      have hsat := hO5.sat j _ _ hx hsx
      have hold : ∀ t, t < op.length → si'[t]? = si[t]? := fun t ht => by rw [hsi, List.getElem?_append_left (by omega)]
      obtain ⟨hlt8, b8, o8, ha8, hrow8⟩ := hL5.si.src.at (i := j) (by omega)
      generalize op'[j] = w at *
      generalize si'[j] = s at *
      (conv => whnf); refine ob (by first | omega | (dsimp only; omega)) ?_
      (conv => whnf); refine atp ha7 ?_
      (conv => whnf); refine on (hcc7 0 4 (by decide)) ?_
      (conv => whnf); refine ob (by first | omega | (dsimp only; omega)) ?_
      (conv => whnf); refine atp ha6 ?_
      (conv => whnf); refine on (Mem.row_le hL5.le (hrows6 2 4 (by decide))) ?_
      (conv => whnf)
      rw [idEq4]
      refine brn (fun g9 => ?_) (fun g9 => ?_)
      · have e9 : w = z.msg.id := of_decide_eq_true g9
        (conv => whnf); refine ob (by first | omega | (dsimp only; omega)) ?_
        (conv => whnf); refine atp ha8 ?_
        (conv => whnf); refine on hrow8 ?_
        (conv => whnf); refine ob (inR_i64 (by dsimp only; have := hsat.1; omega)) ?_
        (conv => whnf)
        refine brn_f (decide_eq_false fun h => ?_) ?_
        · dsimp only at h
          obtain ⟨hjo, hx'⟩ := hid e9
          rw [hold j hjo] at hsx
          obtain ⟨k1, h1, -, -⟩ := (hO.sat j _ _ hx' hsx).2 h
          rw [e9, hwas.1] at h1
          cases h1
        · repeat' ((conv => whnf); first | refine ⟨?_, True.intro⟩ | refine brn_t rfl ?_ | refine brn_f rfl ?_ | refine ob rfl ?_ | refine ob (by decide) ?_ | refine grow_same (Mem.le_refl _) ?_ | refine ob (Mem.le_refl _) ?_ | refine ⟨_, Mem.le_refl _, ?_⟩ | fail)
          refine ob (inR_i64 (by first | omega | (dsimp only; omega))) ?_
          (conv => whnf)
          exact ⟨j + 1, by omega, by omega, ⟨(by repeat' first | exact True.intro | refine ⟨rfl, ?_⟩), (by repeat' first | exact True.intro | refine ⟨rfl, ?_⟩), Mem.le_refl _, rfl⟩⟩
      · repeat' ((conv => whnf); first | refine ⟨?_, True.intro⟩ | refine brn_t rfl ?_ | refine brn_f rfl ?_ | refine ob rfl ?_ | refine ob (by decide) ?_ | refine grow_same (Mem.le_refl _) ?_ | refine ob (Mem.le_refl _) ?_ | refine ⟨_, Mem.le_refl _, ?_⟩ | fail)
        refine ob (inR_i64 (by first | omega | (dsimp only; omega))) ?_
        (conv => whnf)
        exact ⟨j + 1, by omega, by omega, ⟨(by repeat' first | exact True.intro | refine ⟨rfl, ?_⟩), (by repeat' first | exact True.intro | refine ⟨rfl, ?_⟩), Mem.le_refl _, rfl⟩⟩
    -- it is offered
    obtain ⟨-, kk, hkk, hkk'⟩ := hwas
    (conv => whnf); refine ob (by first | omega | (dsimp only; omega)) ?_
    (conv => whnf); refine atp ha6 ?_
    (conv => whnf); refine on (Mem.row_le hL5.le (hrows6 2 4 (by decide))) ?_
    repeat' ((conv => whnf); first | refine ⟨?_, True.intro⟩ | refine brn_t rfl ?_ | refine brn_f rfl ?_ | refine ob rfl ?_ | refine ob (by decide) ?_ | refine grow_same (Mem.le_refl _) ?_ | refine ob (Mem.le_refl _) ?_ | refine ⟨_, Mem.le_refl _, ?_⟩ | fail)
    refine appF (M5.minus (blk oa')) (wr_new hL5.op) z.msg.id (by simp) (by dsimp only; omega) (by dsimp only; simp [maxLen]; omega) (encI_one _) fun a8 c8 M8 hN8 hk8 => ?_
    repeat' ((conv => whnf); first | refine ⟨?_, True.intro⟩ | refine brn_t rfl ?_ | refine brn_f rfl ?_ | refine ob rfl ?_ | refine ob (by decide) ?_ | refine grow_same (Mem.le_refl _) ?_ | refine ob (Mem.le_refl _) ?_ | refine ⟨_, Mem.le_refl _, ?_⟩ | fail)
    have hL8 := hL5.open' (op' := op' ++ [z.msg.id]) hk8 (by simpa using hN8.wr) (fun y hy => by
      obtain ⟨q, hq, e⟩ := hy
      subst e
      rcases Classical.em (blk oa' q.block) with hb | hb
      · exact hL5.fo _ hb
      · cases e : Z q.block with
        | none => rfl
        | some o =>
          have h1 := (hN8.block hq).1
          unfold Mem.minus at h1
          rw [if_neg hb, hL5.le _ o e] at h1
          cases h1)
    refine appK (M8.minus (blk sa')) _ (wr_new hL8.si) (by dsimp only; omega) (by dsimp only; simp [maxLen]; omega) (by simp [Value.oneCell']) fun a9 c9 M9 hN9 hk9 => ?_
    repeat' ((conv => whnf); first | refine ⟨?_, True.intro⟩ | refine brn_t rfl ?_ | refine brn_f rfl ?_ | refine ob rfl ?_ | refine ob (by decide) ?_ | refine grow_same (Mem.le_refl _) ?_ | refine ob (Mem.le_refl _) ?_ | refine ⟨_, Mem.le_refl _, ?_⟩ | fail)
    have hL9 := hL8.since (si' := si' ++ [now]) hk9 (by simpa using hN9.wr) (fun y hy => by
      obtain ⟨q, hq, e⟩ := hy
      subst e
      rcases Classical.em (blk sa' q.block) with hb | hb
      · exact hL8.fs _ hb
      · cases e : Z q.block with
        | none => rfl
        | some o =>
          have h1 := (hN9.block hq).1
          unfold Mem.minus at h1
          rw [if_neg hb, hL8.le _ o e] at h1
          cases h1)
    refine ob (inR_i64 (by first | omega | (dsimp only; omega))) ?_
    (conv => whnf)
    refine ⟨⟨k + 1, M9, (op' ++ [z.msg.id], a8, c8), (si' ++ [now], a9, c9)⟩, ⟨by omega, hL9, hO5.push hkk hkk' hnow.1, ?_, ?_⟩, by dsimp only; omega, ?_⟩
    · rw [hop, htk, List.append_assoc]
    · rw [hsi, List.append_assoc, ← List.replicate_succ']
    · simp only [List.length_append, List.length_cons, List.length_nil]
      exact ⟨(by repeat' first | exact True.intro | refine ⟨rfl, ?_⟩), (by repeat' first | exact True.intro | refine ⟨rfl, ?_⟩), Mem.le_refl _, rfl⟩
  have hbA : ∀ {m4 : KL} {M4 : Mem}, DeskAt M4 p b wait next m4 → Mem.keep (one b) Mc M4 → Lay M M4 p b wait next m4 op oa oc si sa sc := fun h1 h2 => hL.turn1 h1 h2
  (conv => whnf); refine brn (fun k1 => ?_) (fun k1 => ?_)
  · -- a tick
    repeat' ((conv => whnf); first | refine ⟨?_, True.intro⟩ | refine brn_t rfl ?_ | refine brn_f rfl ?_ | refine ob rfl ?_ | refine ob (by decide) ?_ | refine grow_same (Mem.le_refl _) ?_ | refine ob (Mem.le_refl _) ?_ | refine ⟨_, Mem.le_refl _, ?_⟩ | fail)
    refine (tick_ok hL.desk hA.all).mono ?_
    rintro v M4 ⟨rfl, hk4, m4, hd4, hm4⟩
    have hl4 : m4.length ≤ m.length := keys_len hd4.map.nodup fun y k hy => by
      rw [hm4] at hy
      cases e : aget m y with
      | none => rw [e] at hy; cases hy
      | some k' => exact ⟨k', rfl⟩
    repeat' ((conv => whnf); first | refine ⟨?_, True.intro⟩ | refine brn_t rfl ?_ | refine brn_f rfl ?_ | refine ob rfl ?_ | refine ob (by decide) ?_ | refine grow_same (Mem.le_refl _) ?_ | refine ob (Mem.le_refl _) ?_ | refine ⟨_, Mem.le_refl _, ?_⟩ | fail)
    refine ob (inR_i64 (by first | omega | (dsimp only; omega))) ?_
    repeat' ((conv => whnf); first | refine ⟨?_, True.intro⟩ | refine brn_t rfl ?_ | refine brn_f rfl ?_ | refine ob rfl ?_ | refine ob (by decide) ?_ | refine grow_same (Mem.le_refl _) ?_ | refine ob (Mem.le_refl _) ?_ | refine ⟨_, Mem.le_refl _, ?_⟩ | fail)
    refine ob (inR_i64 (by first | omega | (dsimp only; omega))) ?_
    (conv => whnf)
    exact ⟨⟨i + 1, M4, now + 1, m4, next, op, oa, oc, si, sa, sc⟩, ⟨by dsimp only; omega, hbA hd4 hk4, hA.tick hm4, hnx, hO.tick hA hm4, by dsimp only; omega, by dsimp only; omega, Nat.le_trans hol (Nat.mul_le_mul_right _ (Nat.le_succ i))⟩, by dsimp only; omega, ⟨(by repeat' first | exact True.intro | refine ⟨rfl, ?_⟩), (by repeat' first | exact True.intro | refine ⟨rfl, ?_⟩), Mem.le_refl _, rfl⟩⟩
  (conv => whnf); refine brn (fun k5 => ?_) (fun k5 => ?_)
  · -- a reset
    repeat' ((conv => whnf); first | refine ⟨?_, True.intro⟩ | refine brn_t rfl ?_ | refine brn_f rfl ?_ | refine ob rfl ?_ | refine ob (by decide) ?_ | refine grow_same (Mem.le_refl _) ?_ | refine ob (Mem.le_refl _) ?_ | refine ⟨_, Mem.le_refl _, ?_⟩ | fail)
    refine (reset_ok hL.desk x.frm (by omega)).mono ?_
    rintro v M4 ⟨ids, rfl, hnd, -, hall, hd4, hk4⟩
    have hL4 := hbA hd4 hk4
    have hsub : ∀ y k, aget (ids.foldl adel m) y = some k → aget m y = some k := fun y k hy => dels_sub ids y k hy
    have hl4 : (ids.foldl adel m).length ≤ m.length := keys_len hd4.map.nodup fun y k hy => ⟨k, hsub y k hy⟩
    (conv => whnf); refine brn (fun g7 => ?_) (fun g7 => ?_)
    · repeat' ((conv => whnf); first | refine ⟨?_, True.intro⟩ | refine brn_t rfl ?_ | refine brn_f rfl ?_ | refine ob rfl ?_ | refine ob (by decide) ?_ | refine grow_same (Mem.le_refl _) ?_ | refine ob (Mem.le_refl _) ?_ | refine ⟨_, Mem.le_refl _, ?_⟩ | fail)
      refine ob (inR_i64 (by first | omega | (dsimp only; omega))) ?_
      (conv => whnf)
      exact ⟨⟨i + 1, M4, now, ids.foldl adel m, next, [], none, 0, [], none, 0⟩, ⟨by dsimp only; omega, ⟨hL4.le, hL4.desk, hL4.fp, hL4.fb, wr_none _ _ _, wr_none _ _ _, fun y ⟨q, hq, _⟩ => (by cases hq), fun y ⟨q, hq, _⟩ => (by cases hq)⟩, hA.sub hsub, hnx, OnceI.nil _ _, by dsimp only; omega, by dsimp only; omega, by simp⟩, by dsimp only; omega, ⟨(by repeat' first | exact True.intro | refine ⟨rfl, ?_⟩), (by repeat' first | exact True.intro | refine ⟨rfl, ?_⟩), Mem.le_refl _, rfl⟩⟩
    · have e0 : ids = [] := List.eq_nil_of_length_eq_zero (by have := of_decide_eq_false g7; omega)
      subst e0
      repeat' ((conv => whnf); first | refine ⟨?_, True.intro⟩ | refine brn_t rfl ?_ | refine brn_f rfl ?_ | refine ob rfl ?_ | refine ob (by decide) ?_ | refine grow_same (Mem.le_refl _) ?_ | refine ob (Mem.le_refl _) ?_ | refine ⟨_, Mem.le_refl _, ?_⟩ | fail)
      refine ob (inR_i64 (by first | omega | (dsimp only; omega))) ?_
      (conv => whnf)
      exact ⟨⟨i + 1, M4, now, m, next, op, oa, oc, si, sa, sc⟩, ⟨by dsimp only; omega, hL4, hA, hnx, hO, by dsimp only; omega, Nat.le_trans hml (Nat.mul_le_mul_right _ (Nat.le_succ i)), Nat.le_trans hol (Nat.mul_le_mul_right _ (Nat.le_succ i))⟩, by dsimp only; omega, ⟨(by repeat' first | exact True.intro | refine ⟨rfl, ?_⟩), (by repeat' first | exact True.intro | refine ⟨rfl, ?_⟩), Mem.le_refl _, rfl⟩⟩
  have hk0 : ¬ x.kind = 0 := of_decide_eq_false k0
  (conv => whnf); refine brn (fun k2 => ?_) (fun k2 => ?_)
  · -- an ack
    have e2 : x.kind = 2 := of_decide_eq_true k2
    repeat' ((conv => whnf); first | refine ⟨?_, True.intro⟩ | refine brn_t rfl ?_ | refine brn_f rfl ?_ | refine ob rfl ?_ | refine ob (by decide) ?_ | refine grow_same (Mem.le_refl _) ?_ | refine ob (Mem.le_refl _) ?_ | refine ⟨_, Mem.le_refl _, ?_⟩ | fail)
    refine (ack_ok hL.desk x.frm x.n x.id).mono ?_
    rintro v M4 ⟨rfl, hd4, hk4⟩
    obtain ⟨okb, hokb⟩ : ∃ okb, okb = ackOk m x.frm x.n x.id := ⟨_, rfl⟩
    obtain ⟨m4, hm4⟩ : ∃ m4, m4 = ackOf m x.frm x.n x.id := ⟨_, rfl⟩
    have hG : GoF m m4 x.id okb := by
      rw [hm4, ackOf, ← hokb]
      cases okb
      · exact GoF.same _ _
      · exact GoF.del _ _
    rw [← hm4] at hd4
    rw [← hokb]
    have hL4 := hbA hd4 hk4
    repeat' ((conv => whnf); first | refine ⟨?_, True.intro⟩ | refine brn_t rfl ?_ | refine brn_f rfl ?_ | refine ob rfl ?_ | refine ob (by decide) ?_ | refine grow_same (Mem.le_refl _) ?_ | refine ob (Mem.le_refl _) ?_ | refine ⟨_, Mem.le_refl _, ?_⟩ | fail)
    refine brn_f (decide_eq_false (by omega)) ?_
    repeat' ((conv => whnf); first | refine ⟨?_, True.intro⟩ | refine brn_t rfl ?_ | refine brn_f rfl ?_ | refine ob rfl ?_ | refine ob (by decide) ?_ | refine grow_same (Mem.le_refl _) ?_ | refine ob (Mem.le_refl _) ?_ | refine ⟨_, Mem.le_refl _, ?_⟩ | fail)
    refine brn_f (decide_eq_false (by omega)) ?_
    (conv => whnf)
    refine loopF (σ := Nat × Mem) [16, 15] (fun y => [(16, .int .i64 y.1), (15, .sb okb)]) (fun _ => [.live T.portagelaw20_Act ((actCs x a1 a2 a3 n1 n2 n3 c1 c2 c3).map .v)]) (fun y => y.2)
      (fun | ⟨j, M5⟩ => j ≤ op.length ∧ Lay M M5 p b wait next m4 op oa oc (dropS x.id op si j) sa sc ∧ (okb = false → j = 0)) (fun y => op.length - y.1) ⟨0, M4⟩ ⟨by omega, hL4, fun _ => rfl⟩ ⟨(by repeat' first | exact True.intro | refine ⟨rfl, ?_⟩), (by repeat' first | exact True.intro | refine ⟨rfl, ?_⟩), Mem.le_refl _, rfl⟩ ?_
    rintro ⟨j, M5⟩ ⟨hj, hL5, hj0⟩
    have hdl := dropS_len x.id op si j
    have hfin : okb = false ∨ j = op.length → OnceI m4 now op (dropS x.id op si j) := fun h => by
      cases hob : okb with
      | false =>
        rw [hj0 hob, hG.no hob]
        exact hO
      | true =>
        rw [hob] at h
        rcases h with h | h
        · cases h
        · rw [h]; exact hO.dropped hnow.1 x.id hG.other
    have hfl := hG.len
    have hend : okb = false ∨ j = op.length → ∃ y : StO, y.i = i + 1 ∧ y.mem = M5 ∧ y.now = now ∧ y.sa = sa ∧ y.si.length = si.length ∧ y.sc = sc ∧ y.oa = oa ∧ y.op.length = op.length ∧ y.oc = oc ∧ (y.i ≤ n ∧ y.i ≤ 60) ∧ Lay M y.mem p b wait y.next y.m y.op y.oa y.oc y.si y.sa y.sc ∧ AllK y.m ∧ (0 ≤ y.next ∧ y.next ≤ 65535) ∧ OnceI y.m y.now y.op y.si ∧ (0 ≤ y.now ∧ y.now ≤ y.i) ∧ y.m.length ≤ y.i * 1048576 ∧ y.op.length ≤ y.i * 1048576 := fun h =>
      ⟨⟨i + 1, M5, now, m4, next, op, oa, oc, dropS x.id op si j, sa, sc⟩, rfl, rfl, rfl, rfl, hdl, rfl, rfl, rfl, rfl, by dsimp only; omega, hL5, hG.all hA, hnx, hfin h, by dsimp only; omega, by dsimp only; omega, Nat.le_trans hol (Nat.mul_le_mul_right _ (Nat.le_succ i))⟩
    (conv => whnf); refine brn (fun g7 => ?_) (fun g7 => ?_)
    rotate_left
    · obtain ⟨⟨i', M', now', m', next', op', oa', oc', si', sa', sc'⟩, rfl, rfl, rfl, rfl, he, rfl, rfl, he2, rfl, hinv⟩ := hend (.inr (by have := of_decide_eq_false g7; dsimp only at this; omega))
      repeat' ((conv => whnf); first | refine ⟨?_, True.intro⟩ | refine brn_t rfl ?_ | refine brn_f rfl ?_ | refine ob rfl ?_ | refine ob (by decide) ?_ | refine grow_same (Mem.le_refl _) ?_ | refine ob (Mem.le_refl _) ?_ | refine ⟨_, Mem.le_refl _, ?_⟩ | fail)
      refine ob (inR_i64 (by first | omega | (dsimp only; omega))) ?_
      (conv => whnf)
      refine ⟨_, hinv, by dsimp only; omega, ?_⟩
      dsimp only at he he2 ⊢
      rw [he, he2]
      exact ⟨(by repeat' first | exact True.intro | refine ⟨rfl, ?_⟩), (by repeat' first | exact True.intro | refine ⟨rfl, ?_⟩), Mem.le_refl _, rfl⟩
    have hjl : j < op.length := by have := of_decide_eq_true g7; dsimp only at this; omega
    (conv => whnf); refine brn (fun g8 => ?_) (fun g8 => ?_)
    rotate_left
    · obtain ⟨⟨i', M', now', m', next', op', oa', oc', si', sa', sc'⟩, rfl, rfl, rfl, rfl, he, rfl, rfl, he2, rfl, hinv⟩ := hend (.inl g8)
      repeat' ((conv => whnf); first | refine ⟨?_, True.intro⟩ | refine brn_t rfl ?_ | refine brn_f rfl ?_ | refine ob rfl ?_ | refine ob (by decide) ?_ | refine grow_same (Mem.le_refl _) ?_ | refine ob (Mem.le_refl _) ?_ | refine ⟨_, Mem.le_refl _, ?_⟩ | fail)
      refine ob (inR_i64 (by first | omega | (dsimp only; omega))) ?_
      (conv => whnf)
      refine ⟨_, hinv, by dsimp only; omega, ?_⟩
      dsimp only at he he2 ⊢
      rw [he, he2]
      exact ⟨(by repeat' first | exact True.intro | refine ⟨rfl, ?_⟩), (by repeat' first | exact True.intro | refine ⟨rfl, ?_⟩), Mem.le_refl _, rfl⟩
    have hx : op[j]? = some op[j] := List.getElem?_eq_getElem hjl
    obtain ⟨b7, o7, ha7, hcc7⟩ := hL5.op.src.fparts encI_len (by decide) hx
    have hds : dropS x.id op si (j + 1) = if op[j] = x.id then (dropS x.id op si j).set j (-64) else dropS x.id op si j := by
      rw [dropS, hx]
      by_cases e : op[j] = x.id
      · rw [if_pos e, if_pos (congrArg some e)]
      · rw [if_neg e, if_neg (fun h => e (Option.some.inj h))]
    generalize op[j] = w at *
    (conv => whnf); refine ob (by first | omega | (dsimp only; omega)) ?_
    (conv => whnf); refine atp ha7 ?_
    (conv => whnf); refine on (hcc7 0 4 (by decide)) ?_
    (conv => whnf)
    rw [idEq4]
    refine brn (fun g9 => ?_) (fun g9 => ?_)
    · have e9 : w = x.id := of_decide_eq_true g9
      rw [if_pos e9] at hds
      obtain ⟨b8, cs8, ha8, hcells8, hlen8, hst8⟩ := hL5.si.store1 (j := j) (by omega)
      obtain ⟨hw8, hk8⟩ := hst8 (-64)
      (conv => whnf); refine ob (by first | omega | (dsimp only; omega)) ?_
      (conv => whnf); refine atp ha8 ?_
      (conv => whnf); refine on hcells8 ?_
      (conv => whnf); refine ob (by dsimp only; omega) ?_
      repeat' ((conv => whnf); first | refine ⟨?_, True.intro⟩ | refine brn_t rfl ?_ | refine brn_f rfl ?_ | refine ob rfl ?_ | refine ob (by decide) ?_ | refine grow_same (Mem.le_refl _) ?_ | refine ob (Mem.le_refl _) ?_ | refine ⟨_, Mem.le_refl _, ?_⟩ | fail)
      refine ob (inR_i64 (by first | omega | (dsimp only; omega))) ?_
      (conv => whnf)
      exact ⟨⟨j + 1, _⟩, ⟨by omega, hds ▸ hL5.since hk8 (by simpa using hw8) hL5.fs, fun h => by rw [h] at g8; cases g8⟩, by dsimp only; omega, ⟨(by repeat' first | exact True.intro | refine ⟨rfl, ?_⟩), (by repeat' first | exact True.intro | refine ⟨rfl, ?_⟩), Mem.le_refl _, rfl⟩⟩
    · rw [if_neg (of_decide_eq_false g9)] at hds
      repeat' ((conv => whnf); first | refine ⟨?_, True.intro⟩ | refine brn_t rfl ?_ | refine brn_f rfl ?_ | refine ob rfl ?_ | refine ob (by decide) ?_ | refine grow_same (Mem.le_refl _) ?_ | refine ob (Mem.le_refl _) ?_ | refine ⟨_, Mem.le_refl _, ?_⟩ | fail)
      refine ob (inR_i64 (by first | omega | (dsimp only; omega))) ?_
      (conv => whnf)
      exact ⟨⟨j + 1, M5⟩, ⟨by omega, hds ▸ hL5, fun h => by rw [h] at g8; cases g8⟩, by dsimp only; omega, ⟨(by repeat' first | exact True.intro | refine ⟨rfl, ?_⟩), (by repeat' first | exact True.intro | refine ⟨rfl, ?_⟩), Mem.le_refl _, rfl⟩⟩
  have hk2 : ¬ x.kind = 2 := of_decide_eq_false k2
  (conv => whnf); refine brn (fun k4 => ?_) (fun k4 => ?_)
  · -- taken back
    have e4 : x.kind = 4 := of_decide_eq_true k4
    repeat' ((conv => whnf); first | refine ⟨?_, True.intro⟩ | refine brn_t rfl ?_ | refine brn_f rfl ?_ | refine ob rfl ?_ | refine ob (by decide) ?_ | refine grow_same (Mem.le_refl _) ?_ | refine ob (Mem.le_refl _) ?_ | refine ⟨_, Mem.le_refl _, ?_⟩ | fail)
    refine (back_ok hL.desk x.id).mono ?_
    rintro v M4 ⟨rfl, hd4, hk4⟩
    obtain ⟨okb, hokb⟩ : ∃ okb, okb = isIs m x.id := ⟨_, rfl⟩
    obtain ⟨m4, hm4⟩ : ∃ m4, m4 = backOf m x.id := ⟨_, rfl⟩
    have hG : GoF m m4 x.id okb := by
      rw [hm4, backOf, ← hokb]
      cases okb
      · exact GoF.same _ _
      · exact GoF.del _ _
    rw [← hm4] at hd4
    rw [← hokb]
    have hL4 := hbA hd4 hk4
    repeat' ((conv => whnf); first | refine ⟨?_, True.intro⟩ | refine brn_t rfl ?_ | refine brn_f rfl ?_ | refine ob rfl ?_ | refine ob (by decide) ?_ | refine grow_same (Mem.le_refl _) ?_ | refine ob (Mem.le_refl _) ?_ | refine ⟨_, Mem.le_refl _, ?_⟩ | fail)
    refine brn_f (decide_eq_false (by omega)) ?_
    (conv => whnf)
    refine loopF (σ := Nat × Mem) [16, 15] (fun y => [(16, .int .i64 y.1), (15, .sb okb)]) (fun _ => [.live T.portagelaw20_Act ((actCs x a1 a2 a3 n1 n2 n3 c1 c2 c3).map .v)]) (fun y => y.2)
      (fun | ⟨j, M5⟩ => j ≤ op.length ∧ Lay M M5 p b wait next m4 op oa oc (dropS x.id op si j) sa sc ∧ (okb = false → j = 0)) (fun y => op.length - y.1) ⟨0, M4⟩ ⟨by omega, hL4, fun _ => rfl⟩ ⟨(by repeat' first | exact True.intro | refine ⟨rfl, ?_⟩), (by repeat' first | exact True.intro | refine ⟨rfl, ?_⟩), Mem.le_refl _, rfl⟩ ?_
    rintro ⟨j, M5⟩ ⟨hj, hL5, hj0⟩
    have hdl := dropS_len x.id op si j
    have hfin : okb = false ∨ j = op.length → OnceI m4 now op (dropS x.id op si j) := fun h => by
      cases hob : okb with
      | false =>
        rw [hj0 hob, hG.no hob]
        exact hO
      | true =>
        rw [hob] at h
        rcases h with h | h
        · cases h
        · rw [h]; exact hO.dropped hnow.1 x.id hG.other
    have hfl := hG.len
    have hend : okb = false ∨ j = op.length → ∃ y : StO, y.i = i + 1 ∧ y.mem = M5 ∧ y.now = now ∧ y.sa = sa ∧ y.si.length = si.length ∧ y.sc = sc ∧ y.oa = oa ∧ y.op.length = op.length ∧ y.oc = oc ∧ (y.i ≤ n ∧ y.i ≤ 60) ∧ Lay M y.mem p b wait y.next y.m y.op y.oa y.oc y.si y.sa y.sc ∧ AllK y.m ∧ (0 ≤ y.next ∧ y.next ≤ 65535) ∧ OnceI y.m y.now y.op y.si ∧ (0 ≤ y.now ∧ y.now ≤ y.i) ∧ y.m.length ≤ y.i * 1048576 ∧ y.op.length ≤ y.i * 1048576 := fun h =>
      ⟨⟨i + 1, M5, now, m4, next, op, oa, oc, dropS x.id op si j, sa, sc⟩, rfl, rfl, rfl, rfl, hdl, rfl, rfl, rfl, rfl, by dsimp only; omega, hL5, hG.all hA, hnx, hfin h, by dsimp only; omega, by dsimp only; omega, Nat.le_trans hol (Nat.mul_le_mul_right _ (Nat.le_succ i))⟩
    (conv => whnf); refine brn (fun g7 => ?_) (fun g7 => ?_)
    rotate_left
    · obtain ⟨⟨i', M', now', m', next', op', oa', oc', si', sa', sc'⟩, rfl, rfl, rfl, rfl, he, rfl, rfl, he2, rfl, hinv⟩ := hend (.inr (by have := of_decide_eq_false g7; dsimp only at this; omega))
      repeat' ((conv => whnf); first | refine ⟨?_, True.intro⟩ | refine brn_t rfl ?_ | refine brn_f rfl ?_ | refine ob rfl ?_ | refine ob (by decide) ?_ | refine grow_same (Mem.le_refl _) ?_ | refine ob (Mem.le_refl _) ?_ | refine ⟨_, Mem.le_refl _, ?_⟩ | fail)
      refine ob (inR_i64 (by first | omega | (dsimp only; omega))) ?_
      (conv => whnf)
      refine ⟨_, hinv, by dsimp only; omega, ?_⟩
      dsimp only at he he2 ⊢
      rw [he, he2]
      exact ⟨(by repeat' first | exact True.intro | refine ⟨rfl, ?_⟩), (by repeat' first | exact True.intro | refine ⟨rfl, ?_⟩), Mem.le_refl _, rfl⟩
    have hjl : j < op.length := by have := of_decide_eq_true g7; dsimp only at this; omega
    (conv => whnf); refine brn (fun g8 => ?_) (fun g8 => ?_)
    rotate_left
    · obtain ⟨⟨i', M', now', m', next', op', oa', oc', si', sa', sc'⟩, rfl, rfl, rfl, rfl, he, rfl, rfl, he2, rfl, hinv⟩ := hend (.inl g8)
      repeat' ((conv => whnf); first | refine ⟨?_, True.intro⟩ | refine brn_t rfl ?_ | refine brn_f rfl ?_ | refine ob rfl ?_ | refine ob (by decide) ?_ | refine grow_same (Mem.le_refl _) ?_ | refine ob (Mem.le_refl _) ?_ | refine ⟨_, Mem.le_refl _, ?_⟩ | fail)
      refine ob (inR_i64 (by first | omega | (dsimp only; omega))) ?_
      (conv => whnf)
      refine ⟨_, hinv, by dsimp only; omega, ?_⟩
      dsimp only at he he2 ⊢
      rw [he, he2]
      exact ⟨(by repeat' first | exact True.intro | refine ⟨rfl, ?_⟩), (by repeat' first | exact True.intro | refine ⟨rfl, ?_⟩), Mem.le_refl _, rfl⟩
    have hx : op[j]? = some op[j] := List.getElem?_eq_getElem hjl
    obtain ⟨b7, o7, ha7, hcc7⟩ := hL5.op.src.fparts encI_len (by decide) hx
    have hds : dropS x.id op si (j + 1) = if op[j] = x.id then (dropS x.id op si j).set j (-64) else dropS x.id op si j := by
      rw [dropS, hx]
      by_cases e : op[j] = x.id
      · rw [if_pos e, if_pos (congrArg some e)]
      · rw [if_neg e, if_neg (fun h => e (Option.some.inj h))]
    generalize op[j] = w at *
    (conv => whnf); refine ob (by first | omega | (dsimp only; omega)) ?_
    (conv => whnf); refine atp ha7 ?_
    (conv => whnf); refine on (hcc7 0 4 (by decide)) ?_
    (conv => whnf)
    rw [idEq4]
    refine brn (fun g9 => ?_) (fun g9 => ?_)
    · have e9 : w = x.id := of_decide_eq_true g9
      rw [if_pos e9] at hds
      obtain ⟨b8, cs8, ha8, hcells8, hlen8, hst8⟩ := hL5.si.store1 (j := j) (by omega)
      obtain ⟨hw8, hk8⟩ := hst8 (-64)
      (conv => whnf); refine ob (by first | omega | (dsimp only; omega)) ?_
      (conv => whnf); refine atp ha8 ?_
      (conv => whnf); refine on hcells8 ?_
      (conv => whnf); refine ob (by dsimp only; omega) ?_
      repeat' ((conv => whnf); first | refine ⟨?_, True.intro⟩ | refine brn_t rfl ?_ | refine brn_f rfl ?_ | refine ob rfl ?_ | refine ob (by decide) ?_ | refine grow_same (Mem.le_refl _) ?_ | refine ob (Mem.le_refl _) ?_ | refine ⟨_, Mem.le_refl _, ?_⟩ | fail)
      refine ob (inR_i64 (by first | omega | (dsimp only; omega))) ?_
      (conv => whnf)
      exact ⟨⟨j + 1, _⟩, ⟨by omega, hds ▸ hL5.since hk8 (by simpa using hw8) hL5.fs, fun h => by rw [h] at g8; cases g8⟩, by dsimp only; omega, ⟨(by repeat' first | exact True.intro | refine ⟨rfl, ?_⟩), (by repeat' first | exact True.intro | refine ⟨rfl, ?_⟩), Mem.le_refl _, rfl⟩⟩
    · rw [if_neg (of_decide_eq_false g9)] at hds
      repeat' ((conv => whnf); first | refine ⟨?_, True.intro⟩ | refine brn_t rfl ?_ | refine brn_f rfl ?_ | refine ob rfl ?_ | refine ob (by decide) ?_ | refine grow_same (Mem.le_refl _) ?_ | refine ob (Mem.le_refl _) ?_ | refine ⟨_, Mem.le_refl _, ?_⟩ | fail)
      refine ob (inR_i64 (by first | omega | (dsimp only; omega))) ?_
      (conv => whnf)
      exact ⟨⟨j + 1, M5⟩, ⟨by omega, hds ▸ hL5, fun h => by rw [h] at g8; cases g8⟩, by dsimp only; omega, ⟨(by repeat' first | exact True.intro | refine ⟨rfl, ?_⟩), (by repeat' first | exact True.intro | refine ⟨rfl, ?_⟩), Mem.le_refl _, rfl⟩⟩
  (conv => whnf); refine brn (fun k3 => ?_) (fun k3 => ?_)
  · -- refused
    repeat' ((conv => whnf); first | refine ⟨?_, True.intro⟩ | refine brn_t rfl ?_ | refine brn_f rfl ?_ | refine ob rfl ?_ | refine ob (by decide) ?_ | refine grow_same (Mem.le_refl _) ?_ | refine ob (Mem.le_refl _) ?_ | refine ⟨_, Mem.le_refl _, ?_⟩ | fail)
    refine (refuse_ok hL.desk x.frm x.n x.id).mono ?_
    rintro v M4 ⟨rfl, hd4, hk4⟩
    obtain ⟨okb, hokb⟩ : ∃ okb, okb = ackOk m x.frm x.n x.id := ⟨_, rfl⟩
    obtain ⟨m4, hm4⟩ : ∃ m4, m4 = refuseOf m wait x.frm x.n x.id := ⟨_, rfl⟩
    have hG : GoF m m4 x.id okb := by
      rw [hm4, refuseOf, ← hokb]
      cases okb
      · exact GoF.same _ _
      · exact GoF.put _ _ ⟨⟨by dsimp only; omega, by dsimp only; omega, by dsimp only; omega, by dsimp only; omega⟩, fun _ => ⟨rfl, rfl⟩⟩
    rw [← hm4] at hd4
    rw [← hokb]
    have hL4 := hbA hd4 hk4
    (conv => whnf)
    refine loopF (σ := Nat × Mem) [16, 15] (fun y => [(16, .int .i64 y.1), (15, .sb okb)]) (fun _ => [.live T.portagelaw20_Act ((actCs x a1 a2 a3 n1 n2 n3 c1 c2 c3).map .v)]) (fun y => y.2)
      (fun | ⟨j, M5⟩ => j ≤ op.length ∧ Lay M M5 p b wait next m4 op oa oc (dropS x.id op si j) sa sc ∧ (okb = false → j = 0)) (fun y => op.length - y.1) ⟨0, M4⟩ ⟨by omega, hL4, fun _ => rfl⟩ ⟨(by repeat' first | exact True.intro | refine ⟨rfl, ?_⟩), (by repeat' first | exact True.intro | refine ⟨rfl, ?_⟩), Mem.le_refl _, rfl⟩ ?_
    rintro ⟨j, M5⟩ ⟨hj, hL5, hj0⟩
    have hdl := dropS_len x.id op si j
    have hfin : okb = false ∨ j = op.length → OnceI m4 now op (dropS x.id op si j) := fun h => by
      cases hob : okb with
      | false =>
        rw [hj0 hob, hG.no hob]
        exact hO
      | true =>
        rw [hob] at h
        rcases h with h | h
        · cases h
        · rw [h]; exact hO.dropped hnow.1 x.id hG.other
    have hfl := hG.len
    have hend : okb = false ∨ j = op.length → ∃ y : StO, y.i = i + 1 ∧ y.mem = M5 ∧ y.now = now ∧ y.sa = sa ∧ y.si.length = si.length ∧ y.sc = sc ∧ y.oa = oa ∧ y.op.length = op.length ∧ y.oc = oc ∧ (y.i ≤ n ∧ y.i ≤ 60) ∧ Lay M y.mem p b wait y.next y.m y.op y.oa y.oc y.si y.sa y.sc ∧ AllK y.m ∧ (0 ≤ y.next ∧ y.next ≤ 65535) ∧ OnceI y.m y.now y.op y.si ∧ (0 ≤ y.now ∧ y.now ≤ y.i) ∧ y.m.length ≤ y.i * 1048576 ∧ y.op.length ≤ y.i * 1048576 := fun h =>
      ⟨⟨i + 1, M5, now, m4, next, op, oa, oc, dropS x.id op si j, sa, sc⟩, rfl, rfl, rfl, rfl, hdl, rfl, rfl, rfl, rfl, by dsimp only; omega, hL5, hG.all hA, hnx, hfin h, by dsimp only; omega, by dsimp only; omega, Nat.le_trans hol (Nat.mul_le_mul_right _ (Nat.le_succ i))⟩
    (conv => whnf); refine brn (fun g7 => ?_) (fun g7 => ?_)
    rotate_left
    · obtain ⟨⟨i', M', now', m', next', op', oa', oc', si', sa', sc'⟩, rfl, rfl, rfl, rfl, he, rfl, rfl, he2, rfl, hinv⟩ := hend (.inr (by have := of_decide_eq_false g7; dsimp only at this; omega))
      repeat' ((conv => whnf); first | refine ⟨?_, True.intro⟩ | refine brn_t rfl ?_ | refine brn_f rfl ?_ | refine ob rfl ?_ | refine ob (by decide) ?_ | refine grow_same (Mem.le_refl _) ?_ | refine ob (Mem.le_refl _) ?_ | refine ⟨_, Mem.le_refl _, ?_⟩ | fail)
      refine ob (inR_i64 (by first | omega | (dsimp only; omega))) ?_
      (conv => whnf)
      refine ⟨_, hinv, by dsimp only; omega, ?_⟩
      dsimp only at he he2 ⊢
      rw [he, he2]
      exact ⟨(by repeat' first | exact True.intro | refine ⟨rfl, ?_⟩), (by repeat' first | exact True.intro | refine ⟨rfl, ?_⟩), Mem.le_refl _, rfl⟩
    have hjl : j < op.length := by have := of_decide_eq_true g7; dsimp only at this; omega
    (conv => whnf); refine brn (fun g8 => ?_) (fun g8 => ?_)
    rotate_left
    · obtain ⟨⟨i', M', now', m', next', op', oa', oc', si', sa', sc'⟩, rfl, rfl, rfl, rfl, he, rfl, rfl, he2, rfl, hinv⟩ := hend (.inl g8)
      repeat' ((conv => whnf); first | refine ⟨?_, True.intro⟩ | refine brn_t rfl ?_ | refine brn_f rfl ?_ | refine ob rfl ?_ | refine ob (by decide) ?_ | refine grow_same (Mem.le_refl _) ?_ | refine ob (Mem.le_refl _) ?_ | refine ⟨_, Mem.le_refl _, ?_⟩ | fail)
      refine ob (inR_i64 (by first | omega | (dsimp only; omega))) ?_
      (conv => whnf)
      refine ⟨_, hinv, by dsimp only; omega, ?_⟩
      dsimp only at he he2 ⊢
      rw [he, he2]
      exact ⟨(by repeat' first | exact True.intro | refine ⟨rfl, ?_⟩), (by repeat' first | exact True.intro | refine ⟨rfl, ?_⟩), Mem.le_refl _, rfl⟩
    have hx : op[j]? = some op[j] := List.getElem?_eq_getElem hjl
    obtain ⟨b7, o7, ha7, hcc7⟩ := hL5.op.src.fparts encI_len (by decide) hx
    have hds : dropS x.id op si (j + 1) = if op[j] = x.id then (dropS x.id op si j).set j (-64) else dropS x.id op si j := by
      rw [dropS, hx]
      by_cases e : op[j] = x.id
      · rw [if_pos e, if_pos (congrArg some e)]
      · rw [if_neg e, if_neg (fun h => e (Option.some.inj h))]
    generalize op[j] = w at *
    (conv => whnf); refine ob (by first | omega | (dsimp only; omega)) ?_
    (conv => whnf); refine atp ha7 ?_
    (conv => whnf); refine on (hcc7 0 4 (by decide)) ?_
    (conv => whnf)
    rw [idEq4]
    refine brn (fun g9 => ?_) (fun g9 => ?_)
    · have e9 : w = x.id := of_decide_eq_true g9
      rw [if_pos e9] at hds
      obtain ⟨b8, cs8, ha8, hcells8, hlen8, hst8⟩ := hL5.si.store1 (j := j) (by omega)
      obtain ⟨hw8, hk8⟩ := hst8 (-64)
      (conv => whnf); refine ob (by first | omega | (dsimp only; omega)) ?_
      (conv => whnf); refine atp ha8 ?_
      (conv => whnf); refine on hcells8 ?_
      (conv => whnf); refine ob (by dsimp only; omega) ?_
      repeat' ((conv => whnf); first | refine ⟨?_, True.intro⟩ | refine brn_t rfl ?_ | refine brn_f rfl ?_ | refine ob rfl ?_ | refine ob (by decide) ?_ | refine grow_same (Mem.le_refl _) ?_ | refine ob (Mem.le_refl _) ?_ | refine ⟨_, Mem.le_refl _, ?_⟩ | fail)
      refine ob (inR_i64 (by first | omega | (dsimp only; omega))) ?_
      (conv => whnf)
      exact ⟨⟨j + 1, _⟩, ⟨by omega, hds ▸ hL5.since hk8 (by simpa using hw8) hL5.fs, fun h => by rw [h] at g8; cases g8⟩, by dsimp only; omega, ⟨(by repeat' first | exact True.intro | refine ⟨rfl, ?_⟩), (by repeat' first | exact True.intro | refine ⟨rfl, ?_⟩), Mem.le_refl _, rfl⟩⟩
    · rw [if_neg (of_decide_eq_false g9)] at hds
      repeat' ((conv => whnf); first | refine ⟨?_, True.intro⟩ | refine brn_t rfl ?_ | refine brn_f rfl ?_ | refine ob rfl ?_ | refine ob (by decide) ?_ | refine grow_same (Mem.le_refl _) ?_ | refine ob (Mem.le_refl _) ?_ | refine ⟨_, Mem.le_refl _, ?_⟩ | fail)
      refine ob (inR_i64 (by first | omega | (dsimp only; omega))) ?_
      (conv => whnf)
      exact ⟨⟨j + 1, M5⟩, ⟨by omega, hds ▸ hL5, fun h => by rw [h] at g8; cases g8⟩, by dsimp only; omega, ⟨(by repeat' first | exact True.intro | refine ⟨rfl, ?_⟩), (by repeat' first | exact True.intro | refine ⟨rfl, ?_⟩), Mem.le_refl _, rfl⟩⟩
  -- nothing
  (conv => whnf)
  refine loopQ [16] (fun (j : Nat) => [(16, .int .i64 j)]) (fun j => j = 0) (fun j => j) 0 rfl ⟨(by repeat' first | exact True.intro | refine ⟨rfl, ?_⟩), (by repeat' first | exact True.intro | refine ⟨rfl, ?_⟩), Mem.le_refl _, rfl⟩ ?_
  rintro j rfl
  have hend : (i + 1 ≤ n ∧ i + 1 ≤ 60) ∧ Lay M Mc p b wait next m op oa oc si sa sc ∧ AllK m ∧ (0 ≤ next ∧ next ≤ 65535) ∧ OnceI m now op si ∧ (0 ≤ now ∧ now ≤ ((i + 1 : Nat) : Int)) ∧ m.length ≤ (i + 1) * 1048576 ∧ op.length ≤ (i + 1) * 1048576 := ⟨by omega, hL, hA, hnx, hO, by omega, Nat.le_trans hml (Nat.mul_le_mul_right _ (Nat.le_succ i)), Nat.le_trans hol (Nat.mul_le_mul_right _ (Nat.le_succ i))⟩
  (conv => whnf); refine brn (fun g7 => ?_) (fun g7 => ?_)
  · repeat' ((conv => whnf); first | refine ⟨?_, True.intro⟩ | refine brn_t rfl ?_ | refine brn_f rfl ?_ | refine ob rfl ?_ | refine ob (by decide) ?_ | refine grow_same (Mem.le_refl _) ?_ | refine ob (Mem.le_refl _) ?_ | refine ⟨_, Mem.le_refl _, ?_⟩ | fail)
    refine ob (inR_i64 (by first | omega | (dsimp only; omega))) ?_
    (conv => whnf)
    exact ⟨⟨i + 1, Mc, now, m, next, op, oa, oc, si, sa, sc⟩, hend, by dsimp only; omega, ⟨(by repeat' first | exact True.intro | refine ⟨rfl, ?_⟩), (by repeat' first | exact True.intro | refine ⟨rfl, ?_⟩), Mem.le_refl _, rfl⟩⟩
  · repeat' ((conv => whnf); first | refine ⟨?_, True.intro⟩ | refine brn_t rfl ?_ | refine brn_f rfl ?_ | refine ob rfl ?_ | refine ob (by decide) ?_ | refine grow_same (Mem.le_refl _) ?_ | refine ob (Mem.le_refl _) ?_ | refine ⟨_, Mem.le_refl _, ?_⟩ | fail)
    refine ob (inR_i64 (by first | omega | (dsimp only; omega))) ?_
    (conv => whnf)
    exact ⟨⟨i + 1, Mc, now, m, next, op, oa, oc, si, sa, sc⟩, hend, by dsimp only; omega, ⟨(by repeat' first | exact True.intro | refine ⟨rfl, ?_⟩), (by repeat' first | exact True.intro | refine ⟨rfl, ?_⟩), Mem.le_refl _, rfl⟩⟩
end Go.Proofs.Ythlleljdahkgpaa
