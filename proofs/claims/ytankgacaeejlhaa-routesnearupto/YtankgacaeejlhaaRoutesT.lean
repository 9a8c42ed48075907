/- Tables of ways: the document's table: what was heard grows old; something is heard. -/
import Derived.Test.YtankgacaeejlhaaRoutesS
namespace Go.Proofs.Ytankgacaeejlhaa
open Go Go.Vm
attribute [local irreducible] Brn Ob CallsM inR LoopVC Mem.row Mem.cells Mem.setCells Mem.upd Own AppVC SrcVC StrVC NextVC New SrcOk subA NewSl Mem.textAt Mem.mapAt Mem.iterAt entryOf kfind Wr NewEls Elems
set_option maxRecDepth 10000
variable {M : Mem} {q : Ref} {nb : List Int} {st : List (Int × Int)} {l : List (Int × Hd)}
def tickL (l : List (Int × Hd)) : List (Int × Hd) := l.filterMap fun x => if 1 < x.2.left then some (x.1, ⟨x.2.c, x.2.left - 1⟩) else none
theorem tickL_take {l : List (Int × Hd)} {i : Nat} (hi : i < l.length) : tickL (l.take (i + 1)) = if 1 < l[i].2.left then tickL (l.take i) ++ [(l[i].1, ⟨l[i].2.c, l[i].2.left - 1⟩)] else tickL (l.take i) := by
  unfold tickL
  rw [List.take_add_one, List.getElem?_eq_getElem hi, List.filterMap_append]
  by_cases e : 1 < l[i].2.left <;> simp [e]
theorem tickL_len (l : List (Int × Hd)) : (tickL l).length ≤ l.length := List.length_filterMap_le _ _
theorem tickR_ok (h : RefAt M q nb st l) (hgl : ∀ x ∈ l, 1 ≤ x.2.left ∧ x.2.left ≤ 64) (me age : Int) : CallsM Try.prog F.ref18_Tick [q.v me age] M fun v M' => ∃ q' : Ref, v = q'.v me age ∧ M.le M' ∧ RefAt M' q' nb st (tickL l) := by
  refine fo_ref18_Tick (by simp) ?_
  have hl := h.l.len
  have hs3 := h.s3
  (conv => whnf); refine new (fun b0 hb0 => ?_)
  replace hb0 : M b0 = none := hb0
  have hN := NewEls.new0 hb0 T.portageref18_Heard 3 (HrdR M)
  obtain ⟨M1, hM1⟩ : ∃ M1, M1 = M.setCells b0 T.portageref18_Heard [] := ⟨_, rfl⟩
  rw [← hM1] at hN
  (conv => whnf)
  erw [← hM1]
  refine loopF (σ := Nat × Mem × Option Addr × Nat) [4, 3] (fun y => [(4, .int .i64 y.1), (3, .slice y.2.2.1 (tickL (l.take y.1)).length y.2.2.2)]) (fun _ => [.live T.portageref18_Table [.v (.int .i64 me), .v (.int .i64 age), .v (.slice q.a q.n q.c), .v (.slice q.a2 q.n2 q.c2), .v (.slice q.a3 q.n3 q.c3)], .live T.portageref18_Table [.v (.int .i64 0), .v (.int .i64 0), .v (.slice none 0 0), .v (.slice none 0 0), .v (.slice none 0 0)], .gone b0]) (fun y => y.2.1)
    (fun | ⟨i, M2, a, c⟩ => i ≤ q.n3 ∧ NewEls M T.portageref18_Heard 3 a (tickL (l.take i)).length c (HrdR M) (tickL (l.take i)) M2) (fun y => q.n3 - y.1) ⟨0, M1, _, _⟩ ⟨by omega, hN⟩ ⟨(by repeat' first | exact True.intro | refine ⟨rfl, ?_⟩), (by repeat' first | exact True.intro | refine ⟨rfl, ?_⟩), Mem.le_refl _, rfl⟩ ?_
  rintro ⟨i, M2, a, c⟩ ⟨hi, hN2⟩
  have hal : (tickL (l.take i)).length ≤ i := Nat.le_trans (tickL_len _) (by simp; omega)
  (conv => whnf); refine brn (fun g => ?_) (fun g => ?_)
  · have hi' : i < q.n3 := by have := of_decide_eq_true g; dsimp only at this; omega
    obtain ⟨hlt, b, o, cs, ha, hrows, hrow, hcl, hR⟩ := h.l.at (by decide) (i := i) hi'
    have hrow2 := Mem.row_le hN2.le hrow
    have hat := tickL_take hlt
    have hgx := hgl _ (List.getElem_mem hlt)
    generalize l[i] = x at *
    obtain ⟨a4, c4, rfl, hc4⟩ := hR
    (conv => whnf); refine ob (by first | omega | (dsimp only; omega)) ?_
    (conv => whnf); refine atp ha ?_
    (conv => whnf); refine on hrow2 ?_
    repeat' ((conv => whnf); first | refine ⟨?_, True.intro⟩ | refine brn_t rfl ?_ | refine brn_f rfl ?_ | refine ob rfl ?_ | refine ob (by decide) ?_ | refine ob (Mem.le_refl _) ?_ | refine ⟨_, Mem.le_refl _, ?_⟩ | fail)
    refine brn (fun g1 => ?_) (fun g1 => ?_)
    · have g' : 1 < x.2.left := by simpa using g1
      rw [if_pos g'] at hat
      (conv => whnf); refine ob (inR_i64 (by omega)) ?_
      repeat' ((conv => whnf); first | refine ⟨?_, True.intro⟩ | refine brn_t rfl ?_ | refine brn_f rfl ?_ | refine ob rfl ?_ | refine ob (by decide) ?_ | refine ob (Mem.le_refl _) ?_ | refine ⟨_, Mem.le_refl _, ?_⟩ | fail)
      refine appE M hN2 (x.1, ⟨x.2.c, x.2.left - 1⟩) ⟨a4, c4, rfl, hc4⟩ rfl (by first | omega | (dsimp only; omega)) (by simp [maxLen]; omega) (by simp [Value.oneCell']) fun a5 c5 M5 hN5 hk5 => ?_
      (conv => whnf); refine ob (inR_i64 (by first | omega | (dsimp only; omega))) ?_
      (conv => whnf)
      refine ⟨⟨i + 1, M5, a5, c5⟩, ⟨by omega, ?_⟩, by dsimp only; omega, ?_⟩
      · rw [hat]; simpa using hN5
      · rw [show (tickL (List.take (i + 1) l)).length = (tickL (l.take i)).length + 1 by rw [hat]; simp]
        exact ⟨(by repeat' first | exact True.intro | refine ⟨rfl, ?_⟩), (by repeat' first | exact True.intro | refine ⟨rfl, ?_⟩), Mem.le_refl _, rfl⟩
    · have g' : ¬ 1 < x.2.left := by simpa using g1
      rw [if_neg g'] at hat
      (conv => whnf); refine ob (inR_i64 (by first | omega | (dsimp only; omega))) ?_
      (conv => whnf)
      refine ⟨⟨i + 1, M2, a, c⟩, ⟨by omega, ?_⟩, by dsimp only; omega, ?_⟩
      · rw [hat]; exact hN2
      · rw [show (tickL (List.take (i + 1) l)).length = (tickL (l.take i)).length by rw [hat]]
        exact ⟨(by repeat' first | exact True.intro | refine ⟨rfl, ?_⟩), (by repeat' first | exact True.intro | refine ⟨rfl, ?_⟩), Mem.le_refl _, rfl⟩
  · have hi' : i = q.n3 := by have := of_decide_eq_false g; dsimp only at this; omega
    have hx' : l.take i = l := List.take_of_length_le (by omega)
    rw [hx'] at hN2 hal
    dsimp only
    rw [hx']
    repeat' ((conv => whnf); first | refine ⟨?_, True.intro⟩ | refine brn_t rfl ?_ | refine brn_f rfl ?_ | refine ob rfl ?_ | refine ob (by decide) ?_ | refine ob (Mem.le_refl _) ?_ | refine ⟨_, Mem.le_refl _, ?_⟩ | fail)
    refine ⟨⟨q.a, q.n, q.c, q.a2, q.n2, q.c2, a, _, c⟩, rfl, hN2.le, ?_⟩
    have h5 := h.le hN2.le
    exact ⟨h5.nb, h5.st, (hN2.imp fun cs x _ ⟨a, c, e, hs⟩ => ⟨a, c, e, hs.le hN2.le⟩).elems, h5.s1, h5.s2, by dsimp only; omega⟩
/-- what is heard is laid in its place -/
def insH (x : Int) (h : Hd) : List (Int × Hd) → List (Int × Hd)
  | [] => [(x, h)]
  | y :: r => if y.1 = x then insH x h r else if x < y.1 then (x, h) :: y :: adel r x else y :: insH x h r
def restH (dn : Bool) (x : Int) (h : Hd) (r : List (Int × Hd)) : List (Int × Hd) := if dn then adel r x else insH x h r
theorem restH_same {dn : Bool} {x : Int} {h : Hd} {y : Int × Hd} {r : List (Int × Hd)} (e : y.1 = x) : restH dn x h (y :: r) = restH dn x h r := by
  cases dn <;> simp [restH, insH, adel, e]
theorem restH_done {x : Int} {h : Hd} {y : Int × Hd} {r : List (Int × Hd)} (e : y.1 ≠ x) : restH true x h (y :: r) = y :: restH true x h r := by
  simp [restH, adel, e]
theorem restH_in {x : Int} {h : Hd} {y : Int × Hd} {r : List (Int × Hd)} (e : y.1 ≠ x) (hlt : x < y.1) : restH false x h (y :: r) = (x, h) :: y :: restH true x h r := by
  simp [restH, insH, e, hlt]
theorem restH_on {x : Int} {h : Hd} {y : Int × Hd} {r : List (Int × Hd)} (e : y.1 ≠ x) (hlt : ¬ x < y.1) : restH false x h (y :: r) = y :: restH false x h r := by
  simp [restH, insH, e, hlt]
theorem insH_len (x : Int) (h : Hd) : ∀ l : List (Int × Hd), (insH x h l).length ≤ l.length + 1
  | [] => Nat.le_refl _
  | y :: r => by
    have ih := insH_len x h r
    have := adel_len r x
    simp only [insH]
    split
    · simp; omega
    · split
      · simp; omega
      · simp; omega
theorem costs64 {cl : List Int} (h : cl.length = 64) : cl.map intV = (List.range 64).map fun (i : Nat) => intV (cl.getD i 0) := by
  apply List.ext_getElem (by simp [h])
  intro i h1 h2
  have : i < cl.length := by simpa using h1
  simp [List.getD_eq_getElem?_getD, List.getElem?_eq_getElem this]
theorem hearR_ok (h : RefAt M q nb st l) (hl3 : l.length ≤ 4194000) (me age x : Int) {a' : Option Addr} {n' c' : Nat} {cl : List Int} (hs : SrcOk M 1 a' n' (cl.map intV)) (hn' : n' ≤ 4194304) :
    CallsM Try.prog F.ref18_Hear [q.v me age, .int .i64 x, .slice a' n' c'] M fun v M' =>
    (hearE nb x cl ≠ 0 ∧ v = .tuple #[q.v me age, .int .i64 (hearE nb x cl)] ∧ M' = M) ∨
    (hearE nb x cl = 0 ∧ rightC cl = true ∧ x ∈ nb ∧ ∃ q' : Ref, v = .tuple #[q'.v me age, .int .i64 0] ∧ M.le M' ∧ RefAt M' q' nb st (insH x ⟨fun i => cl.getD i 0, age⟩ l)) := by
  refine fo_ref18_Hear (by simp) ?_
  have hl := h.l.len
  have hs3 := h.s3
  have hcl := hs.maplen
  (conv => whnf); refine (hasR_ok h.nb h.s1 x).mono ?_
  rintro v _ ⟨rfl, rfl⟩
  (conv => whnf); refine brn (fun g => ?_) (fun g => ?_)
  · have e : hearE nb x cl = 4 := by simp at g; simp [hearE, g]
    repeat' ((conv => whnf); first | refine ⟨?_, True.intro⟩ | refine brn_t rfl ?_ | refine brn_f rfl ?_ | refine ob rfl ?_ | refine ob (by decide) ?_ | refine ob (Mem.le_refl _) ?_ | refine ⟨_, Mem.le_refl _, ?_⟩ | fail)
    exact .inl ⟨by rw [e]; decide, by rw [e], rfl⟩
  have hx : x ∈ nb := by simpa using g
  (conv => whnf); refine (rightR_ok hs hn').mono ?_
  rintro v _ ⟨rfl, rfl⟩
  (conv => whnf); refine brn (fun g => ?_) (fun g => ?_)
  · have e : hearE nb x cl = 2 := by simp at g; simp [hearE, hx, g]
    repeat' ((conv => whnf); first | refine ⟨?_, True.intro⟩ | refine brn_t rfl ?_ | refine brn_f rfl ?_ | refine ob rfl ?_ | refine ob (by decide) ?_ | refine ob (Mem.le_refl _) ?_ | refine ⟨_, Mem.le_refl _, ?_⟩ | fail)
    exact .inl ⟨by rw [e]; decide, by rw [e], rfl⟩
  have hrt : rightC cl = true := by simpa using g
  have e : hearE nb x cl = 0 := by simp [hearE, hx, hrt]
  have h64 : n' = 64 := by simp [rightC] at hrt; omega
  subst h64
  have after : ∀ {a5 : Option Addr} {c5 : Nat} {M2 : Mem}, NewSl M T.int 1 a5 (0 + 64) c5 (([] : List Int).map intV ++ cl.map intV) M2 → M.le M2 ∧ RefAt M2 q nb st l ∧ HrdR M2 [.int .i64 x, .slice a5 (0 + 64) c5, .int .i64 age] (x, ⟨fun i => cl.getD i 0, age⟩) := fun hN2 => by
    rw [List.map_nil, List.nil_append, costs64 hcl] at hN2
    exact ⟨hN2.le, h.le hN2.le, _, _, rfl, hN2.src⟩
  (conv => whnf); refine ⟨M, Mem.le_refl _, ?_⟩
  repeat' ((conv => whnf); first | refine ob rfl ?_ | refine ob (Mem.le_refl _) ?_ | fail)
  (conv => whnf); refine ⟨?_, ?_, trivial⟩
  · (conv => whnf); refine new (fun b1 hb1 => ?_)
    replace hb1 : M b1 = none := hb1
    have hN1 : NewSl M T.int 1 (some ⟨b1, 0, none⟩) 0 0 (([] : List Int).map intV) _ := NewSl.lit hb1 T.int 1 0 [] rfl
    obtain ⟨M1, hM1⟩ : ∃ M1, M1 = M.setCells b1 T.int [] := ⟨_, rfl⟩
    rw [← hM1] at hN1
    (conv => whnf)
    erw [← hM1]
    repeat' ((conv => whnf); first | refine ob rfl ?_ | refine ob (Mem.le_refl _) ?_ | refine ob hN1.le ?_ | refine ob hle2 ?_ | fail)
    refine ⟨?_, ?_, trivial⟩
    · (conv => whnf)
      refine srcv (hs.le hN1.le) ?_
      (conv => whnf); refine appN M _ hN1 (by omega) (by simp [maxLen]) (by simp [Value.oneCell']) fun a5 c5 M2 hN2 => ?_
      obtain ⟨hle2, h2, hown⟩ := after hN2
      repeat' ((conv => whnf); first | refine ob rfl ?_ | refine ob (Mem.le_refl _) ?_ | refine ob hN1.le ?_ | refine ob hle2 ?_ | fail)
      refine ⟨?_, trivial⟩
      repeat' ((conv => whnf); first | refine ob rfl ?_ | refine ob (Mem.le_refl _) ?_ | refine ob hN1.le ?_ | refine ob hle2 ?_ | fail)
      refine ⟨?_, trivial⟩
      repeat' ((conv => whnf); first | refine ob rfl ?_ | refine ob (Mem.le_refl _) ?_ | refine ob hN1.le ?_ | refine ob hle2 ?_ | fail)
      (conv => whnf); refine new (fun b9 hb9 => ?_)
      replace hb9 : M2 b9 = none := hb9
      have hN := NewEls.new0 hb9 T.portageref18_Heard 3 (HrdR M2)
      obtain ⟨M3, hM3⟩ : ∃ M3, M3 = M2.setCells b9 T.portageref18_Heard [] := ⟨_, rfl⟩
      rw [← hM3] at hN
      (conv => whnf)
      erw [← hM3]
      refine loopF (σ := Nat × Mem × Option Addr × Nat × Bool × List (Int × Hd)) [11, 10, 9] (fun y => [(11, .int .i64 y.1), (10, .c (.v (.bool y.2.2.2.2.1))), (9, .slice y.2.2.1 y.2.2.2.2.2.length y.2.2.2.1)]) (fun _ => [.live T.portageref18_Table [.v (.int .i64 me), .v (.int .i64 age), .v (.slice q.a q.n q.c), .v (.slice q.a2 q.n2 q.c2), .v (.slice q.a3 q.n3 q.c3)], .live T.portageref18_Table [.v (.int .i64 0), .v (.int .i64 0), .v (.slice none 0 0), .v (.slice none 0 0), .v (.slice none 0 0)], .gone b1, .live T.portageref18_Heard [.v (.int .i64 x), .v (.slice a5 64 c5), .v (.int .i64 age)], .gone b9]) (fun y => y.2.1)
        (fun | ⟨i, M4, a, c, dn, out⟩ => i ≤ q.n3 ∧ out.length ≤ i + dn.toNat ∧ NewEls M2 T.portageref18_Heard 3 a out.length c (HrdR M2) out M4 ∧ insH x ⟨fun i => cl.getD i 0, age⟩ l = out ++ restH dn x ⟨fun i => cl.getD i 0, age⟩ (l.drop i)) (fun y => q.n3 - y.1) ⟨0, M3, _, _, false, []⟩ ⟨by omega, by simp, hN, rfl⟩ ⟨(by repeat' first | exact True.intro | refine ⟨rfl, ?_⟩), (by repeat' first | exact True.intro | refine ⟨rfl, ?_⟩), Mem.le_refl _, rfl⟩ ?_
      rintro ⟨i, M4, a, c, dn, out⟩ ⟨hi, hol, hN4, hins⟩
      (conv => whnf); refine brn (fun g => ?_) (fun g => ?_)
      · have hi' : i < q.n3 := by have := of_decide_eq_true g; dsimp only at this; omega
        obtain ⟨hlt, b, o, cs, ha, hrows, hrow, hcl, hR⟩ := h2.l.at (by decide) (i := i) hi'
        have hrow4 := Mem.row_le hN4.le hrow
        have hrows0 := Mem.row_le hN4.le (hrows 0 1 (by decide))
        rw [List.drop_eq_getElem_cons hlt] at hins
        generalize l[i] = y at *
        obtain ⟨a4, c4, rfl, hc4⟩ := hR
        (conv => whnf); refine ob (by first | omega | (dsimp only; omega)) ?_
        (conv => whnf); refine atp ha ?_
        (conv => whnf); refine on hrows0 ?_
        (conv => whnf); refine brn (fun g1 => ?_) (fun g1 => ?_)
        · have g' : y.1 = x := by simpa using g1
          rw [restH_same g'] at hins
          (conv => whnf); refine ob (inR_i64 (by first | omega | (dsimp only; omega))) ?_
          (conv => whnf)
          exact ⟨⟨i + 1, M4, a, c, dn, out⟩, ⟨by omega, by omega, hN4, hins⟩, by dsimp only; omega, ⟨(by repeat' first | exact True.intro | refine ⟨rfl, ?_⟩), (by repeat' first | exact True.intro | refine ⟨rfl, ?_⟩), Mem.le_refl _, rfl⟩⟩
        have g' : y.1 ≠ x := by simpa using g1
        have last : ∀ dn' out', out'.length ≤ i + dn'.toNat → insH x ⟨fun i => cl.getD i 0, age⟩ l = out' ++ y :: restH dn' x ⟨fun i => cl.getD i 0, age⟩ (l.drop (i + 1)) → ∀ M6 a6 c6, NewEls M2 T.portageref18_Heard 3 a6 (out'.length + 1) c6 (HrdR M2) (out' ++ [y]) M6 →
            (i + 1 ≤ q.n3 ∧ (out' ++ [y]).length ≤ i + 1 + dn'.toNat ∧ NewEls M2 T.portageref18_Heard 3 a6 (out' ++ [y]).length c6 (HrdR M2) (out' ++ [y]) M6 ∧ insH x ⟨fun i => cl.getD i 0, age⟩ l = (out' ++ [y]) ++ restH dn' x ⟨fun i => cl.getD i 0, age⟩ (l.drop (i + 1))) := fun dn' out' h1 h2 M6 a6 c6 h3 =>
          ⟨by omega, by simp; omega, by simpa using h3, by rw [h2]; simp⟩
        have hol1 : out.length ≤ i + 1 := Nat.le_trans hol (by cases dn <;> simp)
        cases dn with
        | true =>
          rw [restH_done g'] at hins
          repeat' ((conv => whnf); first | refine ⟨?_, True.intro⟩ | refine brn_t rfl ?_ | refine brn_f rfl ?_ | refine ob rfl ?_ | refine ob (by decide) ?_ | refine ob (Mem.le_refl _) ?_ | refine ⟨_, Mem.le_refl _, ?_⟩ | fail)
          refine ob (by first | omega | (dsimp only; omega)) ?_
          (conv => whnf); refine atp ha ?_
          (conv => whnf); refine on hrow4 ?_
          repeat' ((conv => whnf); first | refine ⟨?_, True.intro⟩ | refine brn_t rfl ?_ | refine brn_f rfl ?_ | refine ob rfl ?_ | refine ob (by decide) ?_ | refine ob (Mem.le_refl _) ?_ | refine ⟨_, Mem.le_refl _, ?_⟩ | fail)
          refine appE M2 hN4 y ⟨a4, c4, rfl, hc4⟩ rfl (by first | omega | (dsimp only; omega)) (by simp [maxLen]; omega) (by simp [Value.oneCell']) fun a6 c6 M5 hN5 hk5 => ?_
          (conv => whnf); refine ob (inR_i64 (by first | omega | (dsimp only; omega))) ?_
          (conv => whnf)
          refine ⟨⟨i + 1, M5, a6, c6, true, out ++ [y]⟩, last true out hol hins _ _ _ hN5, by dsimp only; omega, ?_⟩
          simp only [List.length_append, List.length_cons, List.length_nil]
          exact ⟨(by repeat' first | exact True.intro | refine ⟨rfl, ?_⟩), (by repeat' first | exact True.intro | refine ⟨rfl, ?_⟩), Mem.le_refl _, rfl⟩
        | false =>
          repeat' ((conv => whnf); first | refine ⟨?_, True.intro⟩ | refine brn_t rfl ?_ | refine brn_f rfl ?_ | refine ob rfl ?_ | refine ob (by decide) ?_ | refine ob (Mem.le_refl _) ?_ | refine ⟨_, Mem.le_refl _, ?_⟩ | fail)
          refine ob (by first | omega | (dsimp only; omega)) ?_
          (conv => whnf); refine atp ha ?_
          (conv => whnf); refine on hrows0 ?_
          (conv => whnf); refine brn (fun g2 => ?_) (fun g2 => ?_)
          · have g2' : x < y.1 := by simpa using g2
            rw [restH_in g' g2'] at hins
            repeat' ((conv => whnf); first | refine ⟨?_, True.intro⟩ | refine brn_t rfl ?_ | refine brn_f rfl ?_ | refine ob rfl ?_ | refine ob (by decide) ?_ | refine ob (Mem.le_refl _) ?_ | refine ⟨_, Mem.le_refl _, ?_⟩ | fail)
            refine appE M2 hN4 (x, ⟨fun i => cl.getD i 0, age⟩) hown rfl (by first | omega | (dsimp only; omega)) (by simp [maxLen]; omega) (by simp [Value.oneCell']) fun a6 c6 M5 hN5 hk5 => ?_
            have hrow5 := Mem.row_le hN5.le hrow
            have hN5' : NewEls M2 T.portageref18_Heard 3 a6 (out ++ [(x, (⟨fun i => cl.getD i 0, age⟩ : Hd))]).length c6 (HrdR M2) (out ++ [(x, ⟨fun i => cl.getD i 0, age⟩)]) M5 := by simpa using hN5
            repeat' ((conv => whnf); first | refine ⟨?_, True.intro⟩ | refine brn_t rfl ?_ | refine brn_f rfl ?_ | refine ob rfl ?_ | refine ob (by decide) ?_ | refine ob (Mem.le_refl _) ?_ | refine ⟨_, Mem.le_refl _, ?_⟩ | fail)
            refine ob (by first | omega | (dsimp only; omega)) ?_
            (conv => whnf); refine atp ha ?_
            (conv => whnf); refine on hrow5 ?_
            repeat' ((conv => whnf); first | refine ⟨?_, True.intro⟩ | refine brn_t rfl ?_ | refine brn_f rfl ?_ | refine ob rfl ?_ | refine ob (by decide) ?_ | refine ob (Mem.le_refl _) ?_ | refine ⟨_, Mem.le_refl _, ?_⟩ | fail)
            refine appE M2 hN5 y ⟨a4, c4, rfl, hc4⟩ rfl (by first | omega | (dsimp only; omega)) (by simp [maxLen]; omega) (by simp [Value.oneCell']) fun a7 c7 M7 hN7 hk7 => ?_
            (conv => whnf); refine ob (inR_i64 (by first | omega | (dsimp only; omega))) ?_
            (conv => whnf)
            refine ⟨⟨i + 1, M7, a7, c7, true, (out ++ [(x, ⟨fun i => cl.getD i 0, age⟩)]) ++ [y]⟩, ⟨by omega, (by have h0 : out.length ≤ i + 0 := hol; simp; omega), by simpa using hN7, by rw [hins]; simp⟩, by dsimp only; omega, ?_⟩
            simp only [List.length_append, List.length_cons, List.length_nil]
            exact ⟨(by repeat' first | exact True.intro | refine ⟨rfl, ?_⟩), (by repeat' first | exact True.intro | refine ⟨rfl, ?_⟩), Mem.le_refl _, rfl⟩
          · have g2' : ¬ x < y.1 := by simpa using g2
            rw [restH_on g' g2'] at hins
            (conv => whnf); refine ob (by first | omega | (dsimp only; omega)) ?_
            (conv => whnf); refine atp ha ?_
            (conv => whnf); refine on hrow4 ?_
            repeat' ((conv => whnf); first | refine ⟨?_, True.intro⟩ | refine brn_t rfl ?_ | refine brn_f rfl ?_ | refine ob rfl ?_ | refine ob (by decide) ?_ | refine ob (Mem.le_refl _) ?_ | refine ⟨_, Mem.le_refl _, ?_⟩ | fail)
            refine appE M2 hN4 y ⟨a4, c4, rfl, hc4⟩ rfl (by first | omega | (dsimp only; omega)) (by simp [maxLen]; omega) (by simp [Value.oneCell']) fun a6 c6 M5 hN5 hk5 => ?_
            (conv => whnf); refine ob (inR_i64 (by first | omega | (dsimp only; omega))) ?_
            (conv => whnf)
            refine ⟨⟨i + 1, M5, a6, c6, false, out ++ [y]⟩, last false out hol hins _ _ _ hN5, by dsimp only; omega, ?_⟩
            simp only [List.length_append, List.length_cons, List.length_nil]
            exact ⟨(by repeat' first | exact True.intro | refine ⟨rfl, ?_⟩), (by repeat' first | exact True.intro | refine ⟨rfl, ?_⟩), Mem.le_refl _, rfl⟩
      · have hi' : i = q.n3 := by have := of_decide_eq_false g; dsimp only at this; omega
        rw [List.drop_of_length_le (by omega)] at hins
        have fin : ∀ M6 a6 k6 c6, k6 = (insH x ⟨fun i => cl.getD i 0, age⟩ l).length → NewEls M2 T.portageref18_Heard 3 a6 k6 c6 (HrdR M2) (insH x ⟨fun i => cl.getD i 0, age⟩ l) M6 → M.le M6 ∧ RefAt M6 ⟨q.a, q.n, q.c, q.a2, q.n2, q.c2, a6, k6, c6⟩ nb st (insH x ⟨fun i => cl.getD i 0, age⟩ l) := fun M6 a6 k6 c6 hk hN6 => by
          have h6 := h2.le hN6.le
          have := insH_len x ⟨fun i => cl.getD i 0, age⟩ l
          exact ⟨Mem.le_trans hle2 hN6.le, h6.nb, h6.st, (hN6.imp fun cs x _ ⟨a, c, e, hs⟩ => ⟨a, c, e, hs.le hN6.le⟩).elems, h6.s1, h6.s2, by dsimp only; omega⟩
        have hol1 : out.length ≤ i + 1 := Nat.le_trans hol (by cases dn <;> simp)
        cases dn with
        | true =>
          have hins' : insH x ⟨fun i => cl.getD i 0, age⟩ l = out := by rw [hins]; simp [restH, adel]
          obtain ⟨f1, f2⟩ := fin M4 a out.length c (by rw [hins']) (by rw [hins']; exact hN4)
          repeat' ((conv => whnf); first | refine ⟨?_, True.intro⟩ | refine brn_t rfl ?_ | refine brn_f rfl ?_ | refine ob rfl ?_ | refine ob (by decide) ?_ | refine ob (Mem.le_refl _) ?_ | refine ⟨_, Mem.le_refl _, ?_⟩ | fail)
          exact .inr ⟨e, hrt, hx, _, rfl, f1, f2⟩
        | false =>
          have hins' : insH x ⟨fun i => cl.getD i 0, age⟩ l = out ++ [(x, ⟨fun i => cl.getD i 0, age⟩)] := by rw [hins]; simp [restH, insH]
          repeat' ((conv => whnf); first | refine ⟨?_, True.intro⟩ | refine brn_t rfl ?_ | refine brn_f rfl ?_ | refine ob rfl ?_ | refine ob (by decide) ?_ | refine ob (Mem.le_refl _) ?_ | refine ⟨_, Mem.le_refl _, ?_⟩ | fail)
          refine appE M2 hN4 (x, ⟨fun i => cl.getD i 0, age⟩) hown rfl (by first | omega | (dsimp only; omega)) (by simp [maxLen]; omega) (by simp [Value.oneCell']) fun a6 c6 M5 hN5 hk5 => ?_
          rw [← hins'] at hN5
          obtain ⟨f1, f2⟩ := fin _ _ _ _ (by rw [hins']; simp) hN5
          repeat' ((conv => whnf); first | refine ⟨?_, True.intro⟩ | refine brn_t rfl ?_ | refine brn_f rfl ?_ | refine ob rfl ?_ | refine ob (by decide) ?_ | refine ob (Mem.le_refl _) ?_ | refine ⟨_, Mem.le_refl _, ?_⟩ | fail)
          exact .inr ⟨e, hrt, hx, _, rfl, f1, f2⟩
    · (conv => whnf)
      repeat' ((conv => whnf); first | refine ob rfl ?_ | refine ob (Mem.le_refl _) ?_ | refine ob hN1.le ?_ | refine ob hle2 ?_ | fail)
      refine ⟨?_, trivial⟩
      (conv => whnf)
      refine srcv (hs.le hN1.le) ?_
      (conv => whnf); refine appN M _ hN1 (by omega) (by simp [maxLen]) (by simp [Value.oneCell']) fun a5 c5 M2 hN2 => ?_
      obtain ⟨hle2, h2, hown⟩ := after hN2
      repeat' ((conv => whnf); first | refine ob rfl ?_ | refine ob (Mem.le_refl _) ?_ | refine ob hN1.le ?_ | refine ob hle2 ?_ | fail)
      refine ⟨?_, trivial⟩
      repeat' ((conv => whnf); first | refine ob rfl ?_ | refine ob (Mem.le_refl _) ?_ | refine ob hN1.le ?_ | refine ob hle2 ?_ | fail)
      (conv => whnf); refine new (fun b9 hb9 => ?_)
      replace hb9 : M2 b9 = none := hb9
      have hN := NewEls.new0 hb9 T.portageref18_Heard 3 (HrdR M2)
      obtain ⟨M3, hM3⟩ : ∃ M3, M3 = M2.setCells b9 T.portageref18_Heard [] := ⟨_, rfl⟩
      rw [← hM3] at hN
      (conv => whnf)
      erw [← hM3]
      refine loopF (σ := Nat × Mem × Option Addr × Nat × Bool × List (Int × Hd)) [11, 10, 9] (fun y => [(11, .int .i64 y.1), (10, .c (.v (.bool y.2.2.2.2.1))), (9, .slice y.2.2.1 y.2.2.2.2.2.length y.2.2.2.1)]) (fun _ => [.live T.portageref18_Table [.v (.int .i64 me), .v (.int .i64 age), .v (.slice q.a q.n q.c), .v (.slice q.a2 q.n2 q.c2), .v (.slice q.a3 q.n3 q.c3)], .live T.portageref18_Table [.v (.int .i64 0), .v (.int .i64 0), .v (.slice none 0 0), .v (.slice none 0 0), .v (.slice none 0 0)], .gone b1, .live T.portageref18_Heard [.v (.int .i64 x), .v (.slice a5 64 c5), .v (.int .i64 age)], .gone b9]) (fun y => y.2.1)
        (fun | ⟨i, M4, a, c, dn, out⟩ => i ≤ q.n3 ∧ out.length ≤ i + dn.toNat ∧ NewEls M2 T.portageref18_Heard 3 a out.length c (HrdR M2) out M4 ∧ insH x ⟨fun i => cl.getD i 0, age⟩ l = out ++ restH dn x ⟨fun i => cl.getD i 0, age⟩ (l.drop i)) (fun y => q.n3 - y.1) ⟨0, M3, _, _, false, []⟩ ⟨by omega, by simp, hN, rfl⟩ ⟨(by repeat' first | exact True.intro | refine ⟨rfl, ?_⟩), (by repeat' first | exact True.intro | refine ⟨rfl, ?_⟩), Mem.le_refl _, rfl⟩ ?_
      rintro ⟨i, M4, a, c, dn, out⟩ ⟨hi, hol, hN4, hins⟩
      (conv => whnf); refine brn (fun g => ?_) (fun g => ?_)
      · have hi' : i < q.n3 := by have := of_decide_eq_true g; dsimp only at this; omega
        obtain ⟨hlt, b, o, cs, ha, hrows, hrow, hcl, hR⟩ := h2.l.at (by decide) (i := i) hi'
        have hrow4 := Mem.row_le hN4.le hrow
        have hrows0 := Mem.row_le hN4.le (hrows 0 1 (by decide))
        rw [List.drop_eq_getElem_cons hlt] at hins
        generalize l[i] = y at *
        obtain ⟨a4, c4, rfl, hc4⟩ := hR
        (conv => whnf); refine ob (by first | omega | (dsimp only; omega)) ?_
        (conv => whnf); refine atp ha ?_
        (conv => whnf); refine on hrows0 ?_
        (conv => whnf); refine brn (fun g1 => ?_) (fun g1 => ?_)
        · have g' : y.1 = x := by simpa using g1
          rw [restH_same g'] at hins
          (conv => whnf); refine ob (inR_i64 (by first | omega | (dsimp only; omega))) ?_
          (conv => whnf)
          exact ⟨⟨i + 1, M4, a, c, dn, out⟩, ⟨by omega, by omega, hN4, hins⟩, by dsimp only; omega, ⟨(by repeat' first | exact True.intro | refine ⟨rfl, ?_⟩), (by repeat' first | exact True.intro | refine ⟨rfl, ?_⟩), Mem.le_refl _, rfl⟩⟩
        have g' : y.1 ≠ x := by simpa using g1
        have last : ∀ dn' out', out'.length ≤ i + dn'.toNat → insH x ⟨fun i => cl.getD i 0, age⟩ l = out' ++ y :: restH dn' x ⟨fun i => cl.getD i 0, age⟩ (l.drop (i + 1)) → ∀ M6 a6 c6, NewEls M2 T.portageref18_Heard 3 a6 (out'.length + 1) c6 (HrdR M2) (out' ++ [y]) M6 →
            (i + 1 ≤ q.n3 ∧ (out' ++ [y]).length ≤ i + 1 + dn'.toNat ∧ NewEls M2 T.portageref18_Heard 3 a6 (out' ++ [y]).length c6 (HrdR M2) (out' ++ [y]) M6 ∧ insH x ⟨fun i => cl.getD i 0, age⟩ l = (out' ++ [y]) ++ restH dn' x ⟨fun i => cl.getD i 0, age⟩ (l.drop (i + 1))) := fun dn' out' h1 h2 M6 a6 c6 h3 =>
          ⟨by omega, by simp; omega, by simpa using h3, by rw [h2]; simp⟩
        have hol1 : out.length ≤ i + 1 := Nat.le_trans hol (by cases dn <;> simp)
        cases dn with
        | true =>
          rw [restH_done g'] at hins
          repeat' ((conv => whnf); first | refine ⟨?_, True.intro⟩ | refine brn_t rfl ?_ | refine brn_f rfl ?_ | refine ob rfl ?_ | refine ob (by decide) ?_ | refine ob (Mem.le_refl _) ?_ | refine ⟨_, Mem.le_refl _, ?_⟩ | fail)
          refine ob (by first | omega | (dsimp only; omega)) ?_
          (conv => whnf); refine atp ha ?_
          (conv => whnf); refine on hrow4 ?_
          repeat' ((conv => whnf); first | refine ⟨?_, True.intro⟩ | refine brn_t rfl ?_ | refine brn_f rfl ?_ | refine ob rfl ?_ | refine ob (by decide) ?_ | refine ob (Mem.le_refl _) ?_ | refine ⟨_, Mem.le_refl _, ?_⟩ | fail)
          refine appE M2 hN4 y ⟨a4, c4, rfl, hc4⟩ rfl (by first | omega | (dsimp only; omega)) (by simp [maxLen]; omega) (by simp [Value.oneCell']) fun a6 c6 M5 hN5 hk5 => ?_
          (conv => whnf); refine ob (inR_i64 (by first | omega | (dsimp only; omega))) ?_
          (conv => whnf)
          refine ⟨⟨i + 1, M5, a6, c6, true, out ++ [y]⟩, last true out hol hins _ _ _ hN5, by dsimp only; omega, ?_⟩
          simp only [List.length_append, List.length_cons, List.length_nil]
          exact ⟨(by repeat' first | exact True.intro | refine ⟨rfl, ?_⟩), (by repeat' first | exact True.intro | refine ⟨rfl, ?_⟩), Mem.le_refl _, rfl⟩
        | false =>
          repeat' ((conv => whnf); first | refine ⟨?_, True.intro⟩ | refine brn_t rfl ?_ | refine brn_f rfl ?_ | refine ob rfl ?_ | refine ob (by decide) ?_ | refine ob (Mem.le_refl _) ?_ | refine ⟨_, Mem.le_refl _, ?_⟩ | fail)
          refine ob (by first | omega | (dsimp only; omega)) ?_
          (conv => whnf); refine atp ha ?_
          (conv => whnf); refine on hrows0 ?_
          (conv => whnf); refine brn (fun g2 => ?_) (fun g2 => ?_)
          · have g2' : x < y.1 := by simpa using g2
            rw [restH_in g' g2'] at hins
            repeat' ((conv => whnf); first | refine ⟨?_, True.intro⟩ | refine brn_t rfl ?_ | refine brn_f rfl ?_ | refine ob rfl ?_ | refine ob (by decide) ?_ | refine ob (Mem.le_refl _) ?_ | refine ⟨_, Mem.le_refl _, ?_⟩ | fail)
            refine appE M2 hN4 (x, ⟨fun i => cl.getD i 0, age⟩) hown rfl (by first | omega | (dsimp only; omega)) (by simp [maxLen]; omega) (by simp [Value.oneCell']) fun a6 c6 M5 hN5 hk5 => ?_
            have hrow5 := Mem.row_le hN5.le hrow
            have hN5' : NewEls M2 T.portageref18_Heard 3 a6 (out ++ [(x, (⟨fun i => cl.getD i 0, age⟩ : Hd))]).length c6 (HrdR M2) (out ++ [(x, ⟨fun i => cl.getD i 0, age⟩)]) M5 := by simpa using hN5
            repeat' ((conv => whnf); first | refine ⟨?_, True.intro⟩ | refine brn_t rfl ?_ | refine brn_f rfl ?_ | refine ob rfl ?_ | refine ob (by decide) ?_ | refine ob (Mem.le_refl _) ?_ | refine ⟨_, Mem.le_refl _, ?_⟩ | fail)
            refine ob (by first | omega | (dsimp only; omega)) ?_
            (conv => whnf); refine atp ha ?_
            (conv => whnf); refine on hrow5 ?_
            repeat' ((conv => whnf); first | refine ⟨?_, True.intro⟩ | refine brn_t rfl ?_ | refine brn_f rfl ?_ | refine ob rfl ?_ | refine ob (by decide) ?_ | refine ob (Mem.le_refl _) ?_ | refine ⟨_, Mem.le_refl _, ?_⟩ | fail)
            refine appE M2 hN5 y ⟨a4, c4, rfl, hc4⟩ rfl (by first | omega | (dsimp only; omega)) (by simp [maxLen]; omega) (by simp [Value.oneCell']) fun a7 c7 M7 hN7 hk7 => ?_
            (conv => whnf); refine ob (inR_i64 (by first | omega | (dsimp only; omega))) ?_
            (conv => whnf)
            refine ⟨⟨i + 1, M7, a7, c7, true, (out ++ [(x, ⟨fun i => cl.getD i 0, age⟩)]) ++ [y]⟩, ⟨by omega, (by have h0 : out.length ≤ i + 0 := hol; simp; omega), by simpa using hN7, by rw [hins]; simp⟩, by dsimp only; omega, ?_⟩
            simp only [List.length_append, List.length_cons, List.length_nil]
            exact ⟨(by repeat' first | exact True.intro | refine ⟨rfl, ?_⟩), (by repeat' first | exact True.intro | refine ⟨rfl, ?_⟩), Mem.le_refl _, rfl⟩
          · have g2' : ¬ x < y.1 := by simpa using g2
            rw [restH_on g' g2'] at hins
            (conv => whnf); refine ob (by first | omega | (dsimp only; omega)) ?_
            (conv => whnf); refine atp ha ?_
            (conv => whnf); refine on hrow4 ?_
            repeat' ((conv => whnf); first | refine ⟨?_, True.intro⟩ | refine brn_t rfl ?_ | refine brn_f rfl ?_ | refine ob rfl ?_ | refine ob (by decide) ?_ | refine ob (Mem.le_refl _) ?_ | refine ⟨_, Mem.le_refl _, ?_⟩ | fail)
            refine appE M2 hN4 y ⟨a4, c4, rfl, hc4⟩ rfl (by first | omega | (dsimp only; omega)) (by simp [maxLen]; omega) (by simp [Value.oneCell']) fun a6 c6 M5 hN5 hk5 => ?_
            (conv => whnf); refine ob (inR_i64 (by first | omega | (dsimp only; omega))) ?_
            (conv => whnf)
            refine ⟨⟨i + 1, M5, a6, c6, false, out ++ [y]⟩, last false out hol hins _ _ _ hN5, by dsimp only; omega, ?_⟩
            simp only [List.length_append, List.length_cons, List.length_nil]
            exact ⟨(by repeat' first | exact True.intro | refine ⟨rfl, ?_⟩), (by repeat' first | exact True.intro | refine ⟨rfl, ?_⟩), Mem.le_refl _, rfl⟩
      · have hi' : i = q.n3 := by have := of_decide_eq_false g; dsimp only at this; omega
        rw [List.drop_of_length_le (by omega)] at hins
        have fin : ∀ M6 a6 k6 c6, k6 = (insH x ⟨fun i => cl.getD i 0, age⟩ l).length → NewEls M2 T.portageref18_Heard 3 a6 k6 c6 (HrdR M2) (insH x ⟨fun i => cl.getD i 0, age⟩ l) M6 → M.le M6 ∧ RefAt M6 ⟨q.a, q.n, q.c, q.a2, q.n2, q.c2, a6, k6, c6⟩ nb st (insH x ⟨fun i => cl.getD i 0, age⟩ l) := fun M6 a6 k6 c6 hk hN6 => by
          have h6 := h2.le hN6.le
          have := insH_len x ⟨fun i => cl.getD i 0, age⟩ l
          exact ⟨Mem.le_trans hle2 hN6.le, h6.nb, h6.st, (hN6.imp fun cs x _ ⟨a, c, e, hs⟩ => ⟨a, c, e, hs.le hN6.le⟩).elems, h6.s1, h6.s2, by dsimp only; omega⟩
        have hol1 : out.length ≤ i + 1 := Nat.le_trans hol (by cases dn <;> simp)
        cases dn with
        | true =>
          have hins' : insH x ⟨fun i => cl.getD i 0, age⟩ l = out := by rw [hins]; simp [restH, adel]
          obtain ⟨f1, f2⟩ := fin M4 a out.length c (by rw [hins']) (by rw [hins']; exact hN4)
          repeat' ((conv => whnf); first | refine ⟨?_, True.intro⟩ | refine brn_t rfl ?_ | refine brn_f rfl ?_ | refine ob rfl ?_ | refine ob (by decide) ?_ | refine ob (Mem.le_refl _) ?_ | refine ⟨_, Mem.le_refl _, ?_⟩ | fail)
          exact .inr ⟨e, hrt, hx, _, rfl, f1, f2⟩
        | false =>
          have hins' : insH x ⟨fun i => cl.getD i 0, age⟩ l = out ++ [(x, ⟨fun i => cl.getD i 0, age⟩)] := by rw [hins]; simp [restH, insH]
          repeat' ((conv => whnf); first | refine ⟨?_, True.intro⟩ | refine brn_t rfl ?_ | refine brn_f rfl ?_ | refine ob rfl ?_ | refine ob (by decide) ?_ | refine ob (Mem.le_refl _) ?_ | refine ⟨_, Mem.le_refl _, ?_⟩ | fail)
          refine appE M2 hN4 (x, ⟨fun i => cl.getD i 0, age⟩) hown rfl (by first | omega | (dsimp only; omega)) (by simp [maxLen]; omega) (by simp [Value.oneCell']) fun a6 c6 M5 hN5 hk5 => ?_
          rw [← hins'] at hN5
          obtain ⟨f1, f2⟩ := fin _ _ _ _ (by rw [hins']; simp) hN5
          repeat' ((conv => whnf); first | refine ⟨?_, True.intro⟩ | refine brn_t rfl ?_ | refine brn_f rfl ?_ | refine ob rfl ?_ | refine ob (by decide) ?_ | refine ob (Mem.le_refl _) ?_ | refine ⟨_, Mem.le_refl _, ?_⟩ | fail)
          exact .inr ⟨e, hrt, hx, _, rfl, f1, f2⟩
  · (conv => whnf)
    repeat' ((conv => whnf); first | refine ob rfl ?_ | refine ob (Mem.le_refl _) ?_ | refine ob hN1.le ?_ | refine ob hle2 ?_ | fail)
    refine ⟨?_, trivial⟩
    (conv => whnf); refine new (fun b1 hb1 => ?_)
    replace hb1 : M b1 = none := hb1
    have hN1 : NewSl M T.int 1 (some ⟨b1, 0, none⟩) 0 0 (([] : List Int).map intV) _ := NewSl.lit hb1 T.int 1 0 [] rfl
    obtain ⟨M1, hM1⟩ : ∃ M1, M1 = M.setCells b1 T.int [] := ⟨_, rfl⟩
    rw [← hM1] at hN1
    (conv => whnf)
    erw [← hM1]
    repeat' ((conv => whnf); first | refine ob rfl ?_ | refine ob (Mem.le_refl _) ?_ | refine ob hN1.le ?_ | refine ob hle2 ?_ | fail)
    refine ⟨?_, trivial⟩
    (conv => whnf)
    refine srcv (hs.le hN1.le) ?_
    (conv => whnf); refine appN M _ hN1 (by omega) (by simp [maxLen]) (by simp [Value.oneCell']) fun a5 c5 M2 hN2 => ?_
    obtain ⟨hle2, h2, hown⟩ := after hN2
    repeat' ((conv => whnf); first | refine ob rfl ?_ | refine ob (Mem.le_refl _) ?_ | refine ob hN1.le ?_ | refine ob hle2 ?_ | fail)
    refine ⟨?_, trivial⟩
    repeat' ((conv => whnf); first | refine ob rfl ?_ | refine ob (Mem.le_refl _) ?_ | refine ob hN1.le ?_ | refine ob hle2 ?_ | fail)
    (conv => whnf); refine new (fun b9 hb9 => ?_)
    replace hb9 : M2 b9 = none := hb9
    have hN := NewEls.new0 hb9 T.portageref18_Heard 3 (HrdR M2)
    obtain ⟨M3, hM3⟩ : ∃ M3, M3 = M2.setCells b9 T.portageref18_Heard [] := ⟨_, rfl⟩
    rw [← hM3] at hN
    (conv => whnf)
    erw [← hM3]
    refine loopF (σ := Nat × Mem × Option Addr × Nat × Bool × List (Int × Hd)) [11, 10, 9] (fun y => [(11, .int .i64 y.1), (10, .c (.v (.bool y.2.2.2.2.1))), (9, .slice y.2.2.1 y.2.2.2.2.2.length y.2.2.2.1)]) (fun _ => [.live T.portageref18_Table [.v (.int .i64 me), .v (.int .i64 age), .v (.slice q.a q.n q.c), .v (.slice q.a2 q.n2 q.c2), .v (.slice q.a3 q.n3 q.c3)], .live T.portageref18_Table [.v (.int .i64 0), .v (.int .i64 0), .v (.slice none 0 0), .v (.slice none 0 0), .v (.slice none 0 0)], .live T.portageref18_Heard [.v (.int .i64 x), .v (.slice a5 64 c5), .v (.int .i64 age)], .gone b1, .gone b9]) (fun y => y.2.1)
      (fun | ⟨i, M4, a, c, dn, out⟩ => i ≤ q.n3 ∧ out.length ≤ i + dn.toNat ∧ NewEls M2 T.portageref18_Heard 3 a out.length c (HrdR M2) out M4 ∧ insH x ⟨fun i => cl.getD i 0, age⟩ l = out ++ restH dn x ⟨fun i => cl.getD i 0, age⟩ (l.drop i)) (fun y => q.n3 - y.1) ⟨0, M3, _, _, false, []⟩ ⟨by omega, by simp, hN, rfl⟩ ⟨(by repeat' first | exact True.intro | refine ⟨rfl, ?_⟩), (by repeat' first | exact True.intro | refine ⟨rfl, ?_⟩), Mem.le_refl _, rfl⟩ ?_
    rintro ⟨i, M4, a, c, dn, out⟩ ⟨hi, hol, hN4, hins⟩
    (conv => whnf); refine brn (fun g => ?_) (fun g => ?_)
    · have hi' : i < q.n3 := by have := of_decide_eq_true g; dsimp only at this; omega
      obtain ⟨hlt, b, o, cs, ha, hrows, hrow, hcl, hR⟩ := h2.l.at (by decide) (i := i) hi'
      have hrow4 := Mem.row_le hN4.le hrow
      have hrows0 := Mem.row_le hN4.le (hrows 0 1 (by decide))
      rw [List.drop_eq_getElem_cons hlt] at hins
      generalize l[i] = y at *
      obtain ⟨a4, c4, rfl, hc4⟩ := hR
      (conv => whnf); refine ob (by first | omega | (dsimp only; omega)) ?_
      (conv => whnf); refine atp ha ?_
      (conv => whnf); refine on hrows0 ?_
      (conv => whnf); refine brn (fun g1 => ?_) (fun g1 => ?_)
      · have g' : y.1 = x := by simpa using g1
        rw [restH_same g'] at hins
        (conv => whnf); refine ob (inR_i64 (by first | omega | (dsimp only; omega))) ?_
        (conv => whnf)
        exact ⟨⟨i + 1, M4, a, c, dn, out⟩, ⟨by omega, by omega, hN4, hins⟩, by dsimp only; omega, ⟨(by repeat' first | exact True.intro | refine ⟨rfl, ?_⟩), (by repeat' first | exact True.intro | refine ⟨rfl, ?_⟩), Mem.le_refl _, rfl⟩⟩
      have g' : y.1 ≠ x := by simpa using g1
      have last : ∀ dn' out', out'.length ≤ i + dn'.toNat → insH x ⟨fun i => cl.getD i 0, age⟩ l = out' ++ y :: restH dn' x ⟨fun i => cl.getD i 0, age⟩ (l.drop (i + 1)) → ∀ M6 a6 c6, NewEls M2 T.portageref18_Heard 3 a6 (out'.length + 1) c6 (HrdR M2) (out' ++ [y]) M6 →
          (i + 1 ≤ q.n3 ∧ (out' ++ [y]).length ≤ i + 1 + dn'.toNat ∧ NewEls M2 T.portageref18_Heard 3 a6 (out' ++ [y]).length c6 (HrdR M2) (out' ++ [y]) M6 ∧ insH x ⟨fun i => cl.getD i 0, age⟩ l = (out' ++ [y]) ++ restH dn' x ⟨fun i => cl.getD i 0, age⟩ (l.drop (i + 1))) := fun dn' out' h1 h2 M6 a6 c6 h3 =>
        ⟨by omega, by simp; omega, by simpa using h3, by rw [h2]; simp⟩
      have hol1 : out.length ≤ i + 1 := Nat.le_trans hol (by cases dn <;> simp)
      cases dn with
      | true =>
        rw [restH_done g'] at hins
        repeat' ((conv => whnf); first | refine ⟨?_, True.intro⟩ | refine brn_t rfl ?_ | refine brn_f rfl ?_ | refine ob rfl ?_ | refine ob (by decide) ?_ | refine ob (Mem.le_refl _) ?_ | refine ⟨_, Mem.le_refl _, ?_⟩ | fail)
        refine ob (by first | omega | (dsimp only; omega)) ?_
        (conv => whnf); refine atp ha ?_
        (conv => whnf); refine on hrow4 ?_
        repeat' ((conv => whnf); first | refine ⟨?_, True.intro⟩ | refine brn_t rfl ?_ | refine brn_f rfl ?_ | refine ob rfl ?_ | refine ob (by decide) ?_ | refine ob (Mem.le_refl _) ?_ | refine ⟨_, Mem.le_refl _, ?_⟩ | fail)
        refine appE M2 hN4 y ⟨a4, c4, rfl, hc4⟩ rfl (by first | omega | (dsimp only; omega)) (by simp [maxLen]; omega) (by simp [Value.oneCell']) fun a6 c6 M5 hN5 hk5 => ?_
        (conv => whnf); refine ob (inR_i64 (by first | omega | (dsimp only; omega))) ?_
        (conv => whnf)
        refine ⟨⟨i + 1, M5, a6, c6, true, out ++ [y]⟩, last true out hol hins _ _ _ hN5, by dsimp only; omega, ?_⟩
        simp only [List.length_append, List.length_cons, List.length_nil]
        exact ⟨(by repeat' first | exact True.intro | refine ⟨rfl, ?_⟩), (by repeat' first | exact True.intro | refine ⟨rfl, ?_⟩), Mem.le_refl _, rfl⟩
      | false =>
        repeat' ((conv => whnf); first | refine ⟨?_, True.intro⟩ | refine brn_t rfl ?_ | refine brn_f rfl ?_ | refine ob rfl ?_ | refine ob (by decide) ?_ | refine ob (Mem.le_refl _) ?_ | refine ⟨_, Mem.le_refl _, ?_⟩ | fail)
        refine ob (by first | omega | (dsimp only; omega)) ?_
        (conv => whnf); refine atp ha ?_
        (conv => whnf); refine on hrows0 ?_
        (conv => whnf); refine brn (fun g2 => ?_) (fun g2 => ?_)
        · have g2' : x < y.1 := by simpa using g2
          rw [restH_in g' g2'] at hins
          repeat' ((conv => whnf); first | refine ⟨?_, True.intro⟩ | refine brn_t rfl ?_ | refine brn_f rfl ?_ | refine ob rfl ?_ | refine ob (by decide) ?_ | refine ob (Mem.le_refl _) ?_ | refine ⟨_, Mem.le_refl _, ?_⟩ | fail)
          refine appE M2 hN4 (x, ⟨fun i => cl.getD i 0, age⟩) hown rfl (by first | omega | (dsimp only; omega)) (by simp [maxLen]; omega) (by simp [Value.oneCell']) fun a6 c6 M5 hN5 hk5 => ?_
          have hrow5 := Mem.row_le hN5.le hrow
          have hN5' : NewEls M2 T.portageref18_Heard 3 a6 (out ++ [(x, (⟨fun i => cl.getD i 0, age⟩ : Hd))]).length c6 (HrdR M2) (out ++ [(x, ⟨fun i => cl.getD i 0, age⟩)]) M5 := by simpa using hN5
          repeat' ((conv => whnf); first | refine ⟨?_, True.intro⟩ | refine brn_t rfl ?_ | refine brn_f rfl ?_ | refine ob rfl ?_ | refine ob (by decide) ?_ | refine ob (Mem.le_refl _) ?_ | refine ⟨_, Mem.le_refl _, ?_⟩ | fail)
          refine ob (by first | omega | (dsimp only; omega)) ?_
          (conv => whnf); refine atp ha ?_
          (conv => whnf); refine on hrow5 ?_
          repeat' ((conv => whnf); first | refine ⟨?_, True.intro⟩ | refine brn_t rfl ?_ | refine brn_f rfl ?_ | refine ob rfl ?_ | refine ob (by decide) ?_ | refine ob (Mem.le_refl _) ?_ | refine ⟨_, Mem.le_refl _, ?_⟩ | fail)
          refine appE M2 hN5 y ⟨a4, c4, rfl, hc4⟩ rfl (by first | omega | (dsimp only; omega)) (by simp [maxLen]; omega) (by simp [Value.oneCell']) fun a7 c7 M7 hN7 hk7 => ?_
          (conv => whnf); refine ob (inR_i64 (by first | omega | (dsimp only; omega))) ?_
          (conv => whnf)
          refine ⟨⟨i + 1, M7, a7, c7, true, (out ++ [(x, ⟨fun i => cl.getD i 0, age⟩)]) ++ [y]⟩, ⟨by omega, (by have h0 : out.length ≤ i + 0 := hol; simp; omega), by simpa using hN7, by rw [hins]; simp⟩, by dsimp only; omega, ?_⟩
          simp only [List.length_append, List.length_cons, List.length_nil]
          exact ⟨(by repeat' first | exact True.intro | refine ⟨rfl, ?_⟩), (by repeat' first | exact True.intro | refine ⟨rfl, ?_⟩), Mem.le_refl _, rfl⟩
        · have g2' : ¬ x < y.1 := by simpa using g2
          rw [restH_on g' g2'] at hins
          (conv => whnf); refine ob (by first | omega | (dsimp only; omega)) ?_
          (conv => whnf); refine atp ha ?_
          (conv => whnf); refine on hrow4 ?_
          repeat' ((conv => whnf); first | refine ⟨?_, True.intro⟩ | refine brn_t rfl ?_ | refine brn_f rfl ?_ | refine ob rfl ?_ | refine ob (by decide) ?_ | refine ob (Mem.le_refl _) ?_ | refine ⟨_, Mem.le_refl _, ?_⟩ | fail)
          refine appE M2 hN4 y ⟨a4, c4, rfl, hc4⟩ rfl (by first | omega | (dsimp only; omega)) (by simp [maxLen]; omega) (by simp [Value.oneCell']) fun a6 c6 M5 hN5 hk5 => ?_
          (conv => whnf); refine ob (inR_i64 (by first | omega | (dsimp only; omega))) ?_
          (conv => whnf)
          refine ⟨⟨i + 1, M5, a6, c6, false, out ++ [y]⟩, last false out hol hins _ _ _ hN5, by dsimp only; omega, ?_⟩
          simp only [List.length_append, List.length_cons, List.length_nil]
          exact ⟨(by repeat' first | exact True.intro | refine ⟨rfl, ?_⟩), (by repeat' first | exact True.intro | refine ⟨rfl, ?_⟩), Mem.le_refl _, rfl⟩
    · have hi' : i = q.n3 := by have := of_decide_eq_false g; dsimp only at this; omega
      rw [List.drop_of_length_le (by omega)] at hins
      have fin : ∀ M6 a6 k6 c6, k6 = (insH x ⟨fun i => cl.getD i 0, age⟩ l).length → NewEls M2 T.portageref18_Heard 3 a6 k6 c6 (HrdR M2) (insH x ⟨fun i => cl.getD i 0, age⟩ l) M6 → M.le M6 ∧ RefAt M6 ⟨q.a, q.n, q.c, q.a2, q.n2, q.c2, a6, k6, c6⟩ nb st (insH x ⟨fun i => cl.getD i 0, age⟩ l) := fun M6 a6 k6 c6 hk hN6 => by
        have h6 := h2.le hN6.le
        have := insH_len x ⟨fun i => cl.getD i 0, age⟩ l
        exact ⟨Mem.le_trans hle2 hN6.le, h6.nb, h6.st, (hN6.imp fun cs x _ ⟨a, c, e, hs⟩ => ⟨a, c, e, hs.le hN6.le⟩).elems, h6.s1, h6.s2, by dsimp only; omega⟩
      have hol1 : out.length ≤ i + 1 := Nat.le_trans hol (by cases dn <;> simp)
      cases dn with
      | true =>
        have hins' : insH x ⟨fun i => cl.getD i 0, age⟩ l = out := by rw [hins]; simp [restH, adel]
        obtain ⟨f1, f2⟩ := fin M4 a out.length c (by rw [hins']) (by rw [hins']; exact hN4)
        repeat' ((conv => whnf); first | refine ⟨?_, True.intro⟩ | refine brn_t rfl ?_ | refine brn_f rfl ?_ | refine ob rfl ?_ | refine ob (by decide) ?_ | refine ob (Mem.le_refl _) ?_ | refine ⟨_, Mem.le_refl _, ?_⟩ | fail)
        exact .inr ⟨e, hrt, hx, _, rfl, f1, f2⟩
      | false =>
        have hins' : insH x ⟨fun i => cl.getD i 0, age⟩ l = out ++ [(x, ⟨fun i => cl.getD i 0, age⟩)] := by rw [hins]; simp [restH, insH]
        repeat' ((conv => whnf); first | refine ⟨?_, True.intro⟩ | refine brn_t rfl ?_ | refine brn_f rfl ?_ | refine ob rfl ?_ | refine ob (by decide) ?_ | refine ob (Mem.le_refl _) ?_ | refine ⟨_, Mem.le_refl _, ?_⟩ | fail)
        refine appE M2 hN4 (x, ⟨fun i => cl.getD i 0, age⟩) hown rfl (by first | omega | (dsimp only; omega)) (by simp [maxLen]; omega) (by simp [Value.oneCell']) fun a6 c6 M5 hN5 hk5 => ?_
        rw [← hins'] at hN5
        obtain ⟨f1, f2⟩ := fin _ _ _ _ (by rw [hins']; simp) hN5
        repeat' ((conv => whnf); first | refine ⟨?_, True.intro⟩ | refine brn_t rfl ?_ | refine brn_f rfl ?_ | refine ob rfl ?_ | refine ob (by decide) ?_ | refine ob (Mem.le_refl _) ?_ | refine ⟨_, Mem.le_refl _, ?_⟩ | fail)
        exact .inr ⟨e, hrt, hx, _, rfl, f1, f2⟩
end Go.Proofs.Ytankgacaeejlhaa
