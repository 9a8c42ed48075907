/- Tables of ways: begun; what a neighbour says. -/
import Derived.Test.YtankgacaeejlhaaRoutesC
namespace Go.Proofs.Ytankgacaeejlhaa
open Go Go.Vm
attribute [local irreducible] Brn Ob CallsM inR LoopVC Mem.row Mem.cells Mem.setCells Mem.upd Own AppVC SrcVC StrVC NextVC New SrcOk subA NewSl Mem.textAt Mem.mapAt Mem.iterAt entryOf kfind Wr NewEls Elems
set_option maxRecDepth 10000
@[reducible] def one (b : Nat) : Nat → Prop := fun x => x = b
variable {M : Mem} {p b1 b2 : Nat} {a : Option Addr} {n c : Nat} {me age : Int} {nb : List Int} {st : List (Int × Int)} {m : List (Int × Hd)}
def isCost (x : Int) : Bool := !(decide (x < 0) || decide (16 < x))
def rightC (l : List Int) : Bool := decide (l.length = 64) && l.all isCost
def hearE (nb : List Int) (x : Int) (l : List Int) : Int := if x ∈ nb then (if rightC l then 0 else 2) else 4
theorem Hear_ok2 (ht : TabAt M p b1 b2 a n c me age nb st m) (hn : n ≤ 4194304) (x : Int) (a' : Option Addr) (n' c' : Nat) (l : List Int) (hs : SrcOk M 1 a' n' (l.map intV)) (hn' : n' ≤ 4194304) :
    CallsM Try.prog F.routes_Table_Hear [ptr p, .int .i64 x, .slice a' n' c'] M fun v M' => v = .int .i64 (hearE nb x l) ∧
      ((hearE nb x l ≠ 0 ∧ M' = M) ∨ (hearE nb x l = 0 ∧ x ∈ nb ∧ rightC l = true ∧ Mem.keep (one b2) M M' ∧ ∃ h : Hd, (∀ i, i < 64 → l[i]? = some (h.c i)) ∧ h.left = age ∧ TabAt M' p b1 b2 a n c me age nb st (aput m x h) ∧ h.c = fun i => l.getD i 0)) := by
  refine fo_routes_Table_Hear (by simp) ?_
  have hl := hs.maplen
  (conv => whnf); refine brn_f rfl ?_
  (conv => whnf); refine (near_ok ht hn x).mono ?_
  rintro v _ ⟨rfl, rfl⟩
  (conv => whnf); refine brn (fun h => ?_) (fun h => ?_)
  · (conv => whnf)
    have : x ∉ nb := by simpa using h
    exact ⟨by simp [hearE, this], .inl ⟨by simp [hearE, this], rfl⟩⟩
  have hx : x ∈ nb := by simpa using h
  (conv => whnf); refine brn (fun h => ?_) (fun h => ?_)
  · (conv => whnf)
    have : ¬ l.length = 64 := by have : ¬ ((n' : Int) = 64) := by simpa using h
                                 omega
    exact ⟨by simp [hearE, hx, rightC, this], .inl ⟨by simp [hearE, hx, rightC, this], rfl⟩⟩
  have hlen : n' = 64 := by have : ((n' : Int) = 64) := by simpa using h
                            omega
  subst hlen
  (conv => whnf); refine on (ht.self.c1 rfl) ?_
  (conv => whnf)
  refine loopF (σ := Nat × Hd) [29] (fun q => [(29, .int .i64 q.1)]) (fun q => [.live T.routes_heard q.2.cs]) (fun _ => M)
    (fun | ⟨i, h⟩ => i ≤ 64 ∧ h.left = age ∧ (∀ j, h.c j = if j < i then l.getD j 0 else 0) ∧ ∀ j, j < i → l[j]? = some (h.c j) ∧ isCost (h.c j) = true) (fun q => 64 - q.1) ⟨0, ⟨fun _ => 0, age⟩⟩
    ⟨by omega, rfl, fun j => by simp, fun j hj => by omega⟩ ⟨(by repeat' first | exact True.intro | refine ⟨rfl, ?_⟩), (by repeat' first | exact True.intro | refine ⟨rfl, ?_⟩), Mem.le_refl _, rfl⟩ ?_
  rintro ⟨i, hd⟩ ⟨hi, hleft, hcc, hc⟩
  (conv => whnf); refine brn (fun g => ?_) (fun g => ?_)
  · have hi' : i < 64 := by have := of_decide_eq_true g; dsimp only at this; omega
    obtain ⟨hlt, b, o, rfl, hrow⟩ := hs.at (i := i) hi'
    (conv => whnf); refine ob (by dsimp only; omega) ?_
    (conv => whnf); refine on hrow ?_
    have bad : isCost l[i] = false → hearE nb x l = 2 := fun hb => by
      have : l.all isCost = false := by
        rw [List.all_eq_false]; exact ⟨_, List.getElem_mem hlt, by simp [hb]⟩
      simp [hearE, hx, rightC, this]
    (conv => whnf); refine brn (fun g1 => ?_) (fun g1 => ?_)
    · (conv => whnf)
      have hb := bad (by have : l[i] < 0 := by simpa using g1
                         simp [isCost]; omega)
      exact ⟨by rw [hb], .inl ⟨by rw [hb]; decide, rfl⟩⟩
    (conv => whnf); refine brn (fun g2 => ?_) (fun g2 => ?_)
    · (conv => whnf)
      have hb := bad (by have : 16 < l[i] := by simpa using g2
                         simp [isCost]; omega)
      exact ⟨by rw [hb], .inl ⟨by rw [hb]; decide, rfl⟩⟩
    (conv => whnf); refine ob (by dsimp only; omega) ?_
    (conv => whnf); refine on (hd.fit1 hi' _) ?_
    (conv => whnf); refine ob (inR_i64 (by dsimp only; omega)) ?_
    (conv => whnf)
    refine ⟨⟨i + 1, hd.set i l[i]⟩, ⟨by omega, hleft, fun j => ?_, fun j hj => ?_⟩, by dsimp only; omega, ⟨(by repeat' first | exact True.intro | refine ⟨rfl, ?_⟩), (by repeat' first | exact True.intro | refine ⟨rfl, ?_⟩), Mem.le_refl _, rfl⟩⟩
    · simp only [Hd.set]
      by_cases e : j = i
      · subst e
        rw [if_pos rfl, if_pos (by omega), List.getD_eq_getElem?_getD, List.getElem?_eq_getElem hlt]; rfl
      · rw [if_neg e, hcc]
        by_cases e2 : j < i
        · rw [if_pos e2, if_pos (by omega)]
        · rw [if_neg e2, if_neg (by omega)]
    by_cases e : j = i
    · subst e
      have h1 : ¬ l[j] < 0 := by simpa using g1
      have h2 : ¬ 16 < l[j] := by simpa using g2
      exact ⟨by simp [Hd.set, List.getElem?_eq_getElem hlt], by simp [Hd.set, isCost]; omega⟩
    · have := hc j (by omega)
      simpa [Hd.set, e] using this
  · have hi' : i = 64 := by have := of_decide_eq_false g; dsimp only at this; omega
    subst hi'
    have hrt : rightC l = true := by
      have : l.all isCost = true := by
        rw [List.all_eq_true]
        intro y hy
        obtain ⟨j, hj, rfl⟩ := List.getElem_of_mem hy
        obtain ⟨h1, h2⟩ := hc j (by omega)
        rw [List.getElem?_eq_getElem hj] at h1
        rw [Option.some.inj h1]; exact h2
      simp [rightC, hl, this]
    have he : hearE nb x l = 0 := by simp [hearE, hx, hrt]
    repeat' ((conv => whnf); first | refine ⟨?_, True.intro⟩ | refine brn_t rfl ?_ | refine brn_f rfl ?_ | refine ob rfl ?_ | refine ob (by decide) ?_ | refine ob (Mem.le_refl _) ?_ | refine ⟨_, Mem.le_refl _, ?_⟩ | fail)
    refine on (ht.self.c1 rfl) ?_
    repeat' ((conv => whnf); first | refine ⟨?_, True.intro⟩ | refine brn_t rfl ?_ | refine brn_f rfl ?_ | refine ob rfl ?_ | refine ob (by decide) ?_ | refine ob (Mem.le_refl _) ?_ | refine ⟨_, Mem.le_refl _, ?_⟩ | fail)
    refine ht.hrd.put intKey x hd fun q f hm => ?_
    (conv => whnf)
    have hfn : hd.c = fun i => l.getD i 0 := funext fun j => by
      rw [hcc]
      by_cases e : j < 64
      · rw [if_pos e]
      · rw [if_neg e, List.getD_eq_getElem?_getD, List.getElem?_eq_none (by omega)]; rfl
    refine ⟨by rw [he], .inr ⟨he, hx, hrt, Mem.keep_upd _ _ rfl, hd, fun j hj => (hc j hj).1, hleft, ?_, hfn⟩⟩
    exact ⟨ht.self.upd ht.n2 _, ht.n1, ht.n2, ht.n12, ht.nbs.upd fun q hq => (ht.na q hq).2, ht.na, ht.set.mono fun o ho => by rw [Mem.upd_ne _ _ ht.n12]; exact ho, hm _⟩
theorem Hear_ok (ht : TabAt M p b1 b2 a n c me age nb st m) (hn : n ≤ 4194304) (x : Int) (a' : Option Addr) (n' c' : Nat) (l : List Int) (hs : SrcOk M 1 a' n' (l.map intV)) (hn' : n' ≤ 4194304) :
    CallsM Try.prog F.routes_Table_Hear [ptr p, .int .i64 x, .slice a' n' c'] M fun v M' => v = .int .i64 (hearE nb x l) ∧
      ((hearE nb x l ≠ 0 ∧ M' = M) ∨ (hearE nb x l = 0 ∧ x ∈ nb ∧ rightC l = true ∧ Mem.keep (one b2) M M' ∧ ∃ h : Hd, (∀ i, i < 64 → l[i]? = some (h.c i)) ∧ h.left = age ∧ TabAt M' p b1 b2 a n c me age nb st (aput m x h))) := by
  refine (Hear_ok2 ht hn x a' n' c' l hs hn').mono ?_
  rintro v M' ⟨h1, h2 | ⟨h3, h4, h5, h6, h, h7, h8, h9, _⟩⟩
  · exact ⟨h1, .inl h2⟩
  · exact ⟨h1, .inr ⟨h3, h4, h5, h6, h, h7, h8, h9⟩⟩
def okNb (me : Int) : Int → List Int → Bool
  | _, [] => true
  | last, x :: r => (isNode x && !decide (x = me) && !decide (x ≤ last)) && okNb me x r
def newE (me : Int) (nb : List Int) (age : Int) : Int := if isNode me && !decide (age < 1) && !decide (64 < age) then (if okNb me (-1) nb then 0 else 2) else 1
theorem New_ok (me age : Int) (a : Option Addr) (n c : Nat) (nb : List Int) (hs : SrcOk M 1 a n (nb.map intV)) (hn : n ≤ 4194304) :
    CallsM Try.prog F.routes_New [.int .i64 me, .slice a n c, .int .i64 age] M fun v M' =>
      (newE me nb age ≠ 0 ∧ v = .tuple #[.pointer none, .int .i64 (newE me nb age)] ∧ M' = M) ∨
      (newE me nb age = 0 ∧ ∃ p b1 b2 a' c', v = .tuple #[ptr p, .int .i64 0] ∧ M p = none ∧ M b1 = none ∧ M b2 = none ∧ (∀ q, a' = some q → M q.block = none) ∧ M.le M' ∧ TabAt M' p b1 b2 a' n c' me age nb [] []) := by
  refine fo_routes_New (by simp) ?_
  have hl := hs.maplen
  (conv => whnf); refine (node_ok me M).mono ?_
  rintro v _ ⟨rfl, rfl⟩
  have e1 : (isNode me && !decide (age < 1) && !decide (64 < age)) = false → newE me nb age = 1 := fun h => by simp only [newE, h]; rfl
  (conv => whnf); refine brn (fun h => ?_) (fun h => ?_)
  · have e := e1 (by simp at h; simp [h])
    (conv => whnf)
    exact .inl ⟨by rw [e]; decide, by rw [e], rfl⟩
  (conv => whnf); refine brn (fun h1 => ?_) (fun h1 => ?_)
  · have e := e1 (by simp at h1; simp [h1])
    (conv => whnf)
    exact .inl ⟨by rw [e]; decide, by rw [e], rfl⟩
  (conv => whnf); refine brn (fun h2 => ?_) (fun h2 => ?_)
  · have e := e1 (by simp at h2; simp [h2])
    (conv => whnf)
    exact .inl ⟨by rw [e]; decide, by rw [e], rfl⟩
  have e2 : newE me nb age = if okNb me (-1) nb then 0 else 2 := by
    simp only [Bool.not_eq_false'] at h
    simp only [newE, h, h1, h2]; rfl
  (conv => whnf)
  refine loopQ (σ := Nat × Int) [24, 8] (fun q => [(24, .int .i64 q.1), (8, .int .i64 q.2)]) (fun | ⟨i, last⟩ => i ≤ n ∧ okNb me (-1) nb = okNb me last (nb.drop i)) (fun q => n - q.1) ⟨0, -1⟩
    ⟨by omega, rfl⟩ ⟨(by repeat' first | exact True.intro | refine ⟨rfl, ?_⟩), (by repeat' first | exact True.intro | refine ⟨rfl, ?_⟩), Mem.le_refl _, rfl⟩ ?_
  rintro ⟨i, last⟩ ⟨hi, hok⟩
  (conv => whnf); refine brn (fun g => ?_) (fun g => ?_)
  · have hi' : i < n := by have := of_decide_eq_true g; dsimp only at this; omega
    obtain ⟨hlt, b, o, rfl, hrow⟩ := hs.at (i := i) hi'
    rw [List.drop_eq_getElem_cons hlt, okNb] at hok
    generalize nb[i] = y at *
    have bad : (isNode y && !decide (y = me) && !decide (y ≤ last)) = false → newE me nb age = 2 := fun hb => by rw [e2, hok, hb]; rfl
    (conv => whnf); refine ob (by dsimp only; omega) ?_
    (conv => whnf); refine on hrow ?_
    (conv => whnf); refine (node_ok y M).mono ?_
    rintro v _ ⟨rfl, rfl⟩
    (conv => whnf); refine brn (fun g1 => ?_) (fun g1 => ?_)
    · have e := bad (by simp at g1; simp [g1])
      (conv => whnf)
      exact .inl ⟨by rw [e]; decide, by rw [e], rfl⟩
    (conv => whnf); refine brn (fun g2 => ?_) (fun g2 => ?_)
    · have e := bad (by simp at g2; simp [g2])
      (conv => whnf)
      exact .inl ⟨by rw [e]; decide, by rw [e], rfl⟩
    (conv => whnf); refine brn (fun g3 => ?_) (fun g3 => ?_)
    · have e := bad (by simp at g3; simp [g3])
      (conv => whnf)
      exact .inl ⟨by rw [e]; decide, by rw [e], rfl⟩
    (conv => whnf); refine ob (inR_i64 (by dsimp only; omega)) ?_
    (conv => whnf)
    refine ⟨⟨i + 1, y⟩, ⟨by omega, ?_⟩, by dsimp only; omega, ⟨(by repeat' first | exact True.intro | refine ⟨rfl, ?_⟩), (by repeat' first | exact True.intro | refine ⟨rfl, ?_⟩), Mem.le_refl _, rfl⟩⟩
    rw [hok]
    simp only [Bool.not_eq_false'] at g1
    simp only [g1, g2, g3]; rfl
  · have hi' : i = n := by have := of_decide_eq_false g; dsimp only at this; omega
    subst hi'
    rw [List.drop_of_length_le (by omega)] at hok
    have e0 : newE me nb age = 0 := by rw [e2, hok]; rfl
    (conv => whnf); refine new (fun b0 hb0 => ?_)
    replace hb0 : M b0 = none := hb0
    have hN : NewSl M T.int 1 _ 0 0 (([] : List Int).map intV) _ := NewSl.lit hb0 T.int 1 0 [] rfl
    obtain ⟨M1, hM1⟩ : ∃ M1, M1 = M.setCells b0 T.int [] := ⟨_, rfl⟩
    rw [← hM1] at hN
    (conv => whnf)
    erw [← hM1]
    (conv => whnf); refine srcv (hs.le hN.le) ?_
    (conv => whnf); refine appN M _ hN (by omega) (by simp [maxLen]; omega) (by simp [Value.oneCell']) fun a2 c2 M2 hN2 => ?_
    rw [List.map_nil, List.nil_append, Nat.zero_add] at hN2
    (conv => whnf); refine new (fun b1 hb1 => ?_)
    replace hb1 : M2 b1 = none := hb1
    (conv => whnf); refine new (fun b2 hb2 => ?_)
    replace hb2 : (M2.upd b1 (.map #[] 0)) b2 = none := hb2
    have h21 : b2 ≠ b1 := fun e => by subst e; rw [Mem.upd_same] at hb2; cases hb2
    rw [Mem.upd_ne _ _ h21] at hb2
    (conv => whnf); refine new (fun p hp => ?_)
    replace hp : ((M2.upd b1 (.map #[] 0)).upd b2 (.map #[] 0)) p = none := hp
    have hp2 : p ≠ b2 := fun e => by subst e; rw [Mem.upd_same] at hp; cases hp
    rw [Mem.upd_ne _ _ hp2] at hp
    have hp1 : p ≠ b1 := fun e => by subst e; rw [Mem.upd_same] at hp; cases hp
    rw [Mem.upd_ne _ _ hp1] at hp
    (conv => whnf)
    have none' : ∀ x, M2 x = none → M x = none := fun x hx => by
      cases hM : M x with
      | none => rfl
      | some o => rw [hN2.le _ _ hM] at hx; cases hx
    have hle : M2.le (((M2.upd b1 (.map #[] 0)).upd b2 (.map #[] 0)).setCells p T.routes_Table [.int .i64 me, .int .i64 age, .slice a2 i c2, .map (some b1), .map (some b2)]) :=
      Mem.le_trans (Mem.le_upd hb1) (Mem.le_trans (Mem.le_upd (by rw [Mem.upd_ne _ _ h21]; exact hb2)) (Mem.le_setCells (by rw [Mem.upd_ne _ _ hp2, Mem.upd_ne _ _ hp1]; exact hp)))
    rw [Nat.zero_add]
    refine .inr ⟨e0, p, b1, b2, a2, c2, rfl, none' _ hp, none' _ hb1, none' _ hb2, fun q hq => (hN2.block hq).1, Mem.le_trans hN2.le hle, ?_⟩
    refine ⟨Mem.has_setCells, hp1, hp2, Ne.symm h21, hN2.src.le hle, fun q hq => ?_, ?_, ?_⟩
    · obtain ⟨_, cs, hh⟩ := hN2.block hq
      exact ⟨fun e => (by rw [e] at hh; unfold Mem.has at hh; rw [hb1] at hh; cases hh), fun e => (by rw [e] at hh; unfold Mem.has at hh; rw [hb2] at hh; cases hh)⟩
    · refine (MapAt.new M2 b1).mono fun o ho => ?_
      unfold Mem.setCells
      rw [Mem.upd_ne _ _ (Ne.symm hp1), Mem.upd_ne _ _ (Ne.symm h21)]
      exact ho
    · refine (MapAt.new (M2.upd b1 (.map #[] 0)) b2).mono fun o ho => ?_
      unfold Mem.setCells
      rw [Mem.upd_ne _ _ (Ne.symm hp2)]
      exact ho
end Go.Proofs.Ytankgacaeejlhaa
