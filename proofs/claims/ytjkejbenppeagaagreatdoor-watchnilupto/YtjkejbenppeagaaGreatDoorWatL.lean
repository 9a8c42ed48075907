/- What was told, and steps: how they lie; some. -/
import Derived.Test.YtjkejbenppeagaaGreatDoorMsgId
import Derived.Test.YtjkejbenppeagaaGreatDoorVmS
import Derived.Test.YtjkejbenppeagaaGreatDoorVmL
import Derived.Test.YtjkejbenppeagaaGreatDoorVmX
namespace Go.Proofs.YtjkejbenppeagaaGreatDoor
open Go Go.Vm
attribute [local irreducible] Brn Ob Grow CallsM inR LoopVC LoopVC0 Mem.row Mem.cells Mem.setCells Mem.upd Go.Vm.Own AppVC SrcVC StrVC NextVC New SrcOk subA NewSl Mem.textAt Mem.mapAt Mem.iterAt entryOf kfind Wr NewEls Elems
set_option maxRecDepth 10000
variable {M : Mem}
structure TdR where
  step : Int
  node : Int
  o : Int
  d : Int
  e : Int
  c : Int
  err : Int
  data : List UInt8
  out : Bool
@[reducible] def tdC (x : TdR) (a : Option Addr) (n c : Nat) : List Value := [.int .i64 x.step, .int .i64 x.node, .int .i64 x.o, .int .i64 x.d, .int .i64 x.e, .int .i64 x.c, .int .i64 x.err, .slice a n c, .bool x.out]
def TdL (M : Mem) (cs : List Value) (x : TdR) : Prop := ∃ a n c, cs = tdC x a n c ∧ SrcOk M 1 a n (x.data.map byteV) ∧ (-9223372036854775808 ≤ x.step ∧ x.step ≤ 9223372036854775807)
theorem TdL.le {M M' : Mem} {cs : List Value} {x : TdR} (h : TdL M cs x) (hle : M.le M') : TdL M' cs x := by
  obtain ⟨a, n, c, rfl, h1, h2⟩ := h
  exact ⟨a, n, c, rfl, h1.le hle, h2⟩
structure StR where
  kind : Int
  node : Int
  to : Int
  n : Int
  data : List UInt8
@[reducible] def stC (x : StR) (a : Option Addr) (n c : Nat) : List Value := [.int .i64 x.kind, .int .i64 x.node, .int .i64 x.to, .int .i64 x.n, .slice a n c]
def StL (M : Mem) (cs : List Value) (x : StR) : Prop := ∃ a n c, cs = stC x a n c ∧ SrcOk M 1 a n (x.data.map byteV)
theorem StL.le {M M' : Mem} {cs : List Value} {x : StR} (h : StL M cs x) (hle : M.le M') : StL M' cs x := by
  obtain ⟨a, n, c, rfl, h1⟩ := h
  exact ⟨a, n, c, rfl, h1.le hle⟩
theorem someT_ok {a : Option Addr} {n c : Nat} {l : List TdR} (hl : Elems M 9 a n (TdL M) l) (hn : n ≤ 1048576) {gf : Nat} {cv : Value} {p : TdR → Bool}
    (hp : ∀ M', M.le M' → ∀ cs x, TdL M cs x → CallsM Tryz.prog gf [.agg cs.toArray, cv] M' fun v M'' => v = .bool (p x) ∧ M'.le M'') :
    CallsM Tryz.prog F.watch_some_api_Told [.slice a n c, .func (.func gf) #[] #[cv]] M fun v M' => ∃ a' c', v = .slice a' (l.filter p).length c' ∧ NewEls M T.api_Told 9 a' (l.filter p).length c' (TdL M) (l.filter p) M' := by
  refine fo_watch_some_api_Told (by simp) ?_
  have hll := hl.len
  repeat' ((conv => whnf); first | refine ⟨?_, True.intro⟩ | refine brn_t rfl ?_ | refine brn_f rfl ?_ | refine ob rfl ?_ | refine ob (by decide) ?_ | refine grow_same (Mem.le_refl _) ?_ | refine ob (Mem.le_refl _) ?_ | refine ⟨_, Mem.le_refl _, ?_⟩ | fail)
  refine loopF (σ := Nat × Mem × Option Addr × Nat × List TdR) [10, 5] (fun y => [(10, .int .i64 y.1), (5, .slice y.2.2.1 y.2.2.2.2.length y.2.2.2.1)]) (fun _ => []) (fun y => y.2.1)
    (fun | ⟨i, Mc, a, c, out⟩ => i ≤ n ∧ NewEls M T.api_Told 9 a out.length c (TdL M) out Mc ∧ out = (l.take i).filter p ∧ out.length ≤ i) (fun y => n - y.1) ⟨0, M, none, 0, []⟩ ⟨by omega, NewEls.nil _ _ _ _, by simp, by simp⟩ ⟨(by repeat' first | exact True.intro | refine ⟨rfl, ?_⟩), (by repeat' first | exact True.intro | refine ⟨rfl, ?_⟩), Mem.le_refl _, rfl⟩ ?_
  rintro ⟨i, Mc, a', c', out⟩ ⟨hi, hN, hout, hol⟩
  have hle := hN.le
  (conv => whnf); refine brn (fun e => ?_) (fun e => ?_)
  · have hlt : i < n := by have := of_decide_eq_true e; dsimp only at this; omega
    obtain ⟨hk1, b1, o1, cs, e1, -, hrow, -, hx⟩ := hl.at (by decide) hlt
    have htk : (l.take (i + 1)).filter p = (l.take i).filter p ++ (if p l[i] = true then [l[i]] else []) := by
      rw [List.take_add_one, List.getElem?_eq_getElem hk1, List.filter_append]
      congr 1
      cases hpx : p l[i] <;> simp [hpx]
    generalize l[i] = x at *
    have hx0 := hx
    obtain ⟨xa, xn, xc, rfl, hxs, hxb⟩ := hx
    (conv => whnf); refine ob (by first | omega | (dsimp only; omega)) ?_
    (conv => whnf); refine atp e1 ?_
    (conv => whnf); refine on (Mem.row_le hle hrow) ?_
    repeat' ((conv => whnf); first | refine ⟨?_, True.intro⟩ | refine brn_t rfl ?_ | refine brn_f rfl ?_ | refine ob rfl ?_ | refine ob (by decide) ?_ | refine grow_same (Mem.le_refl _) ?_ | refine ob (Mem.le_refl _) ?_ | refine ⟨_, Mem.le_refl _, ?_⟩ | fail)
    refine (hp Mc hle _ x hx0).mono ?_
    rintro v M2 ⟨rfl, hle2⟩
    have hN2 := hN.up hle2
    cases hpx : p x
    case true =>
      rw [hpx, if_pos rfl] at htk
      repeat' ((conv => whnf); first | refine ⟨?_, True.intro⟩ | refine brn_t rfl ?_ | refine brn_f rfl ?_ | refine ob rfl ?_ | refine ob (by decide) ?_ | refine grow_same (Mem.le_refl _) ?_ | refine ob (Mem.le_refl _) ?_ | refine ⟨_, Mem.le_refl _, ?_⟩ | fail)
      refine appE M hN2 x hx0 rfl (by dsimp only; omega) (by simp [maxLen]; omega) (by simp [Value.oneCell']) fun a3 c3 M3 hN3 hk3 => ?_
      (conv => whnf); refine ob (inR_i64 (by first | omega | (dsimp only; omega))) ?_
      (conv => whnf)
      refine ⟨⟨i + 1, M3, a3, c3, out ++ [x]⟩, ⟨by omega, by simpa using hN3, by rw [htk, hout], by simp; omega⟩, by dsimp only; omega, ?_⟩
      rw [List.length_append]
      exact ⟨(by repeat' first | exact True.intro | refine ⟨rfl, ?_⟩), (by repeat' first | exact True.intro | refine ⟨rfl, ?_⟩), Mem.le_refl _, rfl⟩
    case false =>
      rw [hpx, if_neg (by decide), List.append_nil] at htk
      repeat' ((conv => whnf); first | refine ⟨?_, True.intro⟩ | refine brn_t rfl ?_ | refine brn_f rfl ?_ | refine ob rfl ?_ | refine ob (by decide) ?_ | refine grow_same (Mem.le_refl _) ?_ | refine ob (Mem.le_refl _) ?_ | refine ⟨_, Mem.le_refl _, ?_⟩ | fail)
      refine ob (inR_i64 (by first | omega | (dsimp only; omega))) ?_
      (conv => whnf)
      exact ⟨⟨i + 1, M2, a', c', out⟩, ⟨by omega, hN2, by rw [htk, hout], by omega⟩, by dsimp only; omega, ⟨(by repeat' first | exact True.intro | refine ⟨rfl, ?_⟩), (by repeat' first | exact True.intro | refine ⟨rfl, ?_⟩), Mem.le_refl _, rfl⟩⟩
  · have hge : i = n := by have := of_decide_eq_false e; dsimp only at this; omega
    rw [List.take_of_length_le (by omega)] at hout
    subst hout
    repeat' ((conv => whnf); first | refine ⟨?_, True.intro⟩ | refine brn_t rfl ?_ | refine brn_f rfl ?_ | refine ob rfl ?_ | refine ob (by decide) ?_ | refine grow_same (Mem.le_refl _) ?_ | refine ob (Mem.le_refl _) ?_ | refine ⟨_, Mem.le_refl _, ?_⟩ | fail)
    exact ⟨a', c', rfl, hN⟩
theorem someS_ok {a : Option Addr} {n c : Nat} {l : List StR} (hl : Elems M 5 a n (StL M) l) (hn : n ≤ 1048576) {gf : Nat} {cv : Value} {p : StR → Bool}
    (hp : ∀ M', M.le M' → ∀ cs x, StL M cs x → CallsM Tryz.prog gf [.agg cs.toArray, cv] M' fun v M'' => v = .bool (p x) ∧ M'.le M'') :
    CallsM Tryz.prog F.watch_some_api_Step [.slice a n c, .func (.func gf) #[] #[cv]] M fun v M' => ∃ a' c', v = .slice a' (l.filter p).length c' ∧ NewEls M T.api_Step 5 a' (l.filter p).length c' (StL M) (l.filter p) M' := by
  refine fo_watch_some_api_Step (by simp) ?_
  have hll := hl.len
  repeat' ((conv => whnf); first | refine ⟨?_, True.intro⟩ | refine brn_t rfl ?_ | refine brn_f rfl ?_ | refine ob rfl ?_ | refine ob (by decide) ?_ | refine grow_same (Mem.le_refl _) ?_ | refine ob (Mem.le_refl _) ?_ | refine ⟨_, Mem.le_refl _, ?_⟩ | fail)
  refine loopF (σ := Nat × Mem × Option Addr × Nat × List StR) [10, 5] (fun y => [(10, .int .i64 y.1), (5, .slice y.2.2.1 y.2.2.2.2.length y.2.2.2.1)]) (fun _ => []) (fun y => y.2.1)
    (fun | ⟨i, Mc, a, c, out⟩ => i ≤ n ∧ NewEls M T.api_Step 5 a out.length c (StL M) out Mc ∧ out = (l.take i).filter p ∧ out.length ≤ i) (fun y => n - y.1) ⟨0, M, none, 0, []⟩ ⟨by omega, NewEls.nil _ _ _ _, by simp, by simp⟩ ⟨(by repeat' first | exact True.intro | refine ⟨rfl, ?_⟩), (by repeat' first | exact True.intro | refine ⟨rfl, ?_⟩), Mem.le_refl _, rfl⟩ ?_
  rintro ⟨i, Mc, a', c', out⟩ ⟨hi, hN, hout, hol⟩
  have hle := hN.le
  (conv => whnf); refine brn (fun e => ?_) (fun e => ?_)
  · have hlt : i < n := by have := of_decide_eq_true e; dsimp only at this; omega
    obtain ⟨hk1, b1, o1, cs, e1, -, hrow, -, hx⟩ := hl.at (by decide) hlt
    have htk : (l.take (i + 1)).filter p = (l.take i).filter p ++ (if p l[i] = true then [l[i]] else []) := by
      rw [List.take_add_one, List.getElem?_eq_getElem hk1, List.filter_append]
      congr 1
      cases hpx : p l[i] <;> simp [hpx]
    generalize l[i] = x at *
    have hx0 := hx
    obtain ⟨xa, xn, xc, rfl, hxs⟩ := hx
    (conv => whnf); refine ob (by first | omega | (dsimp only; omega)) ?_
    (conv => whnf); refine atp e1 ?_
    (conv => whnf); refine on (Mem.row_le hle hrow) ?_
    repeat' ((conv => whnf); first | refine ⟨?_, True.intro⟩ | refine brn_t rfl ?_ | refine brn_f rfl ?_ | refine ob rfl ?_ | refine ob (by decide) ?_ | refine grow_same (Mem.le_refl _) ?_ | refine ob (Mem.le_refl _) ?_ | refine ⟨_, Mem.le_refl _, ?_⟩ | fail)
    refine (hp Mc hle _ x hx0).mono ?_
    rintro v M2 ⟨rfl, hle2⟩
    have hN2 := hN.up hle2
    cases hpx : p x
    case true =>
      rw [hpx, if_pos rfl] at htk
      repeat' ((conv => whnf); first | refine ⟨?_, True.intro⟩ | refine brn_t rfl ?_ | refine brn_f rfl ?_ | refine ob rfl ?_ | refine ob (by decide) ?_ | refine grow_same (Mem.le_refl _) ?_ | refine ob (Mem.le_refl _) ?_ | refine ⟨_, Mem.le_refl _, ?_⟩ | fail)
      refine appE M hN2 x hx0 rfl (by dsimp only; omega) (by simp [maxLen]; omega) (by simp [Value.oneCell']) fun a3 c3 M3 hN3 hk3 => ?_
      (conv => whnf); refine ob (inR_i64 (by first | omega | (dsimp only; omega))) ?_
      (conv => whnf)
      refine ⟨⟨i + 1, M3, a3, c3, out ++ [x]⟩, ⟨by omega, by simpa using hN3, by rw [htk, hout], by simp; omega⟩, by dsimp only; omega, ?_⟩
      rw [List.length_append]
      exact ⟨(by repeat' first | exact True.intro | refine ⟨rfl, ?_⟩), (by repeat' first | exact True.intro | refine ⟨rfl, ?_⟩), Mem.le_refl _, rfl⟩
    case false =>
      rw [hpx, if_neg (by decide), List.append_nil] at htk
      repeat' ((conv => whnf); first | refine ⟨?_, True.intro⟩ | refine brn_t rfl ?_ | refine brn_f rfl ?_ | refine ob rfl ?_ | refine ob (by decide) ?_ | refine grow_same (Mem.le_refl _) ?_ | refine ob (Mem.le_refl _) ?_ | refine ⟨_, Mem.le_refl _, ?_⟩ | fail)
      refine ob (inR_i64 (by first | omega | (dsimp only; omega))) ?_
      (conv => whnf)
      exact ⟨⟨i + 1, M2, a', c', out⟩, ⟨by omega, hN2, by rw [htk, hout], by omega⟩, by dsimp only; omega, ⟨(by repeat' first | exact True.intro | refine ⟨rfl, ?_⟩), (by repeat' first | exact True.intro | refine ⟨rfl, ?_⟩), Mem.le_refl _, rfl⟩⟩
  · have hge : i = n := by have := of_decide_eq_false e; dsimp only at this; omega
    rw [List.take_of_length_le (by omega)] at hout
    subst hout
    repeat' ((conv => whnf); first | refine ⟨?_, True.intro⟩ | refine brn_t rfl ?_ | refine brn_f rfl ?_ | refine ob rfl ?_ | refine ob (by decide) ?_ | refine grow_same (Mem.le_refl _) ?_ | refine ob (Mem.le_refl _) ?_ | refine ⟨_, Mem.le_refl _, ?_⟩ | fail)
    exact ⟨a', c', rfl, hN⟩
end Go.Proofs.YtjkejbenppeagaaGreatDoor
