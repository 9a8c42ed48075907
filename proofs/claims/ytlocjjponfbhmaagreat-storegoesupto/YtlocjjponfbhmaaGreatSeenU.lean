/- The document's set: its marks. -/
import Derived.Test.YtlocjjponfbhmaaGreatJoin17
import Derived.Test.YtlocjjponfbhmaaGreatJoin18
namespace Go.Proofs.YtlocjjponfbhmaaGreat
open Go Go.Vm
attribute [local irreducible] Brn Ob Grow CallsM inR LoopVC Mem.row Mem.cells Mem.setCells Mem.upd Own AppVC SrcVC StrVC NextVC New SrcOk subA NewSl Mem.textAt Mem.mapAt Mem.iterAt entryOf kfind Wr NewEls Elems
set_option maxRecDepth 10000
variable {M : Mem}
def bump (m : Mk) (c : Int) : Mk := if m.more = [] ∧ c = m.up + 1 then ⟨m.o, m.e, m.up + 1, []⟩ else ⟨m.o, m.e, m.up, m.more ++ [c]⟩
def addMk (l : List Mk) (k : K) : List Mk :=
  match l.getLast? with
  | some m => if m.o = k.o ∧ m.e = k.e then l.dropLast ++ [bump m k.c] else l ++ [bump ⟨k.o, k.e, 0, []⟩ k.c]
  | none => [bump ⟨k.o, k.e, 0, []⟩ k.c]
def marksK (L : List K) : List Mk := L.foldl addMk []
/-- marks in new memory, each beside the others -/
structure MarksW (M0 : Mem) (a : Option Addr) (c : Nat) (l : List MkC) (M' : Mem) : Prop where
  row : NewSl M0 T.api_Mark 4 a l.length c (l.flatMap encM) M'
  more : ∀ m ∈ l, NewSl M0 T.int 1 m.a m.more.length m.c (m.more.map intV) M'
  apart : l.Pairwise fun x y => ∀ z, blk x.a z → ¬ blk y.a z
theorem MarksW.snoc {M0 M1 M2 : Mem} {a a' : Option Addr} {c c' : Nat} {l : List MkC} (h : MarksW M0 a c l M1) (o e : Int) (hN : NewSl M0 T.api_Mark 4 a' (l.length + 1) c' ((l ++ [(⟨o, e, 0, none, 0, []⟩ : MkC)]).flatMap encM) M2) (hk : Mem.keep (blk a) M1 M2) : MarksW M0 a' c' (l ++ [(⟨o, e, 0, none, 0, []⟩ : MkC)]) M2 := by
  have hfr : ∀ y, blk a y → M0 y = none := fun y ⟨q, hq, e⟩ => e ▸ (h.row.block hq).1
  refine ⟨by simpa using hN, fun m hm => ?_, ?_⟩
  · rcases List.mem_append.1 hm with hm | hm
    · exact (h.more m hm).keep hk hfr fun q hq ⟨q', hq', e⟩ => h.row.ne (h.more m hm) (by decide) hq' hq e
    · simp only [List.mem_singleton] at hm
      subst hm
      exact (NewSl.none M0 _ _).up hN.le
  · rw [List.pairwise_append]
    refine ⟨h.apart, by simp, fun x _ y hy z _ ⟨q, hq, _⟩ => ?_⟩
    simp only [List.mem_singleton] at hy
    subst hy; cases hq
theorem set_last {α : Type} (u : List α) (m m' : α) : (u ++ [m]).set u.length m' = u ++ [m'] := by
  rw [List.set_append_right _ _ (Nat.le_refl _)]; simp
/-- the last mark turns, its numbers lie where they lay or anew -/
theorem MarksW.turn {M0 M1 M2 : Mem} {a a' : Option Addr} {c c' : Nat} {u : List MkC} {m m' : MkC} (h : MarksW M0 a c (u ++ [m]) M1) (hr : NewSl M0 T.api_Mark 4 a' (u.length + 1) c' ((u ++ [m']).flatMap encM) M2) (hm : NewSl M0 T.int 1 m'.a m'.more.length m'.c (m'.more.map intV) M2)
    (hk : ∀ x ∈ u, ∀ q o, x.a = some q → M1 q.block = some o → M2 q.block = some o) (hap : ∀ z, blk m'.a z → blk m.a z ∨ M1 z = none) : MarksW M0 a' c' (u ++ [m']) M2 := by
  have hp := List.pairwise_append.1 h.apart
  refine ⟨by simpa using hr, fun x hx => ?_, ?_⟩
  · rcases List.mem_append.1 hx with hx | hx
    · have h1 := h.more x (by simp [hx])
      rw [newSl_iff] at h1 ⊢
      obtain ⟨-, h2, h3, h4⟩ := h1
      refine ⟨hr.le, h2, h3, h4.imp id fun ⟨b, cs, e1, e2, e3, e4⟩ => ⟨b, cs, e1, e2, hk x hx _ _ e1 e3, e4⟩⟩
    · simp only [List.mem_singleton] at hx
      subst hx; exact hm
  · rw [List.pairwise_append]
    refine ⟨hp.1, by simp, fun x hx y hy z hz hz' => ?_⟩
    simp only [List.mem_singleton] at hy
    subst hy
    rcases hap z hz' with h1 | h1
    · exact hp.2.2 x hx m (by simp) z hz h1
    · obtain ⟨q, hq, e⟩ := hz
      obtain ⟨_, cs, hh⟩ := (h.more x (by simp [hx])).block hq
      unfold Mem.has at hh
      rw [e, h1] at hh; cases hh
theorem marksR_ok {a : Option Addr} {n c : Nat} {L : List K} (hs : SrcOk M 3 a n (L.flatMap encK)) (hn : n ≤ 4194000) (room : Int) :
    CallsM Tryz.prog F.ref14_Marks [refV room a n c] M fun v M' => ∃ a' c' l, v = .slice a' l.length c' ∧ MarksW M a' c' l M' ∧ l.map MkC.mk' = marksK L ∧ l.length ≤ n ∧ ∀ m ∈ l, (0 ≤ m.up ∧ m.up ≤ n) ∧ m.more.length ≤ n := by
  refine fo_ref14_Marks (by simp) ?_
  have hl := hs.flen encK_len (by decide)
  (conv => whnf); refine new (fun b9 hb9 => ?_)
  replace hb9 : M b9 = none := hb9
  have hN : NewSl M T.api_Mark 4 (some ⟨b9, 0, none⟩) 0 0 (([] : List MkC).flatMap encM) _ := NewSl.lit hb9 T.api_Mark 4 0 [] rfl
  obtain ⟨M3, hM3⟩ : ∃ M3, M3 = M.setCells b9 T.api_Mark [] := ⟨_, rfl⟩
  rw [← hM3] at hN
  (conv => whnf)
  erw [← hM3]
  refine loopF (σ := Nat × Mem × Option Addr × Nat × List MkC) [4, 3] (fun y => [(4, .int .i64 y.1), (3, .slice y.2.2.1 y.2.2.2.2.length y.2.2.2.1)]) (fun _ => [.live T.portageref14_Set [.v (.int .i64 room), .v (.slice a n c)], .gone b9]) (fun y => y.2.1)
    (fun | ⟨i, M4, a4, c4, l⟩ => i ≤ n ∧ MarksW M a4 c4 l M4 ∧ l.map MkC.mk' = marksK (L.take i) ∧ l.length ≤ i ∧ ∀ m ∈ l, (0 ≤ m.up ∧ m.up ≤ i) ∧ m.more.length ≤ i) (fun y => n - y.1) ⟨0, M3, _, _, []⟩ ⟨by omega, ⟨hN, by simp, by simp⟩, by simp [marksK], by simp, by simp⟩ ⟨(by repeat' first | exact True.intro | refine ⟨rfl, ?_⟩), (by repeat' first | exact True.intro | refine ⟨rfl, ?_⟩), Mem.le_refl _, rfl⟩ ?_
  rintro ⟨i, M4, a4, c4, l⟩ ⟨hi, hW, hfold, hll, hfew⟩
  (conv => whnf); refine brn (fun g => ?_) (fun g => ?_)
  · have hlt : i < n := by have := of_decide_eq_true g; dsimp only at this; omega
    have hx : L[i]? = some (L[i]'(by omega)) := List.getElem?_eq_getElem (by omega)
    have htk : marksK (L.take (i + 1)) = addMk (marksK (L.take i)) (L[i]'(by omega)) := by
      unfold marksK
      rw [List.take_add_one, hx, List.foldl_append]; rfl
    generalize L[i]'(by omega) = x at *
    obtain ⟨b1, o1, rfl, hrow⟩ := (hs.le hW.row.le).fall encK_len (by decide) hx
    (conv => whnf); refine ob (by first | omega | (dsimp only; omega)) ?_
    (conv => whnf); refine on hrow ?_
    (conv => whnf); refine ob (inR_i64 (by first | omega | (dsimp only; omega))) ?_
    repeat' ((conv => whnf); first | refine ⟨?_, True.intro⟩ | refine brn_t rfl ?_ | refine brn_f rfl ?_ | refine ob rfl ?_ | refine ob (by decide) ?_ | refine grow_same (Mem.le_refl _) ?_ | refine ob (Mem.le_refl _) ?_ | refine ⟨_, Mem.le_refl _, ?_⟩ | fail)
    refine brn (fun g1 => ?_) (fun g1 => ?_)
    · have hl0 : l = [] := List.eq_nil_of_length_eq_zero (by have := of_decide_eq_true g1; dsimp only at this; omega)
      have hnew : ∀ k, k = x → addMk (l.map MkC.mk') k = l.map MkC.mk' ++ [bump (MkC.mk' ⟨x.o, x.e, 0, none, 0, []⟩) x.c] := fun k e => by subst e; subst hl0; rfl
      repeat' ((conv => whnf); first | refine ⟨?_, True.intro⟩ | refine brn_t rfl ?_ | refine brn_f rfl ?_ | refine ob rfl ?_ | refine ob (by decide) ?_ | refine grow_same (Mem.le_refl _) ?_ | refine ob (Mem.le_refl _) ?_ | refine ⟨_, Mem.le_refl _, ?_⟩ | fail)
      refine appF M hW.row ⟨x.o, x.e, 0, none, 0, []⟩ rfl (by first | omega | (dsimp only; omega)) (by simp [maxLen] <;> omega) (by simp [Value.oneCell']) fun aW cW MW hN6 hk6 => ?_
      have hW1 := hW.snoc x.o x.e hN6 hk6
      (conv => whnf); refine ob (inR_i64 (by first | omega | (dsimp only; omega))) ?_
      (conv => whnf)
      erw [show ((l.length : Int) - 1 + 1) = ((l.length : Nat) : Int) from by omega]
      obtain ⟨m, hm⟩ : ∃ m : MkC, m = ⟨x.o, x.e, 0, none, 0, []⟩ := ⟨_, rfl⟩
      have hmo : m.o = x.o ∧ m.e = x.e ∧ 0 ≤ m.up ∧ m.up ≤ i ∧ m.more.length ≤ i := by rw [hm]; exact ⟨rfl, rfl, by simp, by simp, by simp⟩
      rw [← hm] at hW1
      have hval : ∀ m' : MkC, m'.mk' = bump m.mk' x.c → (l ++ [m']).map MkC.mk' = marksK (L.take (i + 1)) := fun m' e => by
        rw [htk, ← hfold, List.map_append, List.map_cons, e, hm]
        exact (hnew _ rfl).symm
      clear hnew hl0
      obtain ⟨u, rfl⟩ : ∃ u, u = l := ⟨_, rfl⟩
      have hfewu : ∀ m ∈ u, (0 ≤ m.up ∧ m.up ≤ i) ∧ m.more.length ≤ i := hfew
      have hlu : u.length ≤ i := hll
      have hlast : (u ++ [m])[u.length]? = some m := by simp
      obtain ⟨bb, oo, hab, hcc⟩ := hW1.row.src.fcells encM_len (by decide) hlast
      have hlen1 : (u ++ [m]).length = u.length + 1 := by simp
      have hmm := hW1.more m (by simp)
      have hfr : ∀ y, blk aW y → M y = none := fun y ⟨q, hq, e⟩ => e ▸ (hW1.row.block hq).1
      have hneb : ∀ z ∈ u ++ [m], ∀ q, z.a = some q → ¬ blk aW q.block := fun z hz q hq ⟨q', hq', e⟩ => hW1.row.ne (hW1.more z hz) (by decide) hq' hq e
      (conv => whnf)
      refine ob (by dsimp only; omega) ?_
      (conv => whnf); refine atp hab ?_
      (conv => whnf); refine on (hcc 3 _ rfl) ?_
      (conv => whnf); refine brn (fun k1 => ?_) (fun k1 => ?_)
      · have hm0 : m.more = [] := List.eq_nil_of_length_eq_zero (by have := of_decide_eq_true k1; omega)
        repeat' ((conv => whnf); first | refine ⟨?_, True.intro⟩ | refine brn_t rfl ?_ | refine brn_f rfl ?_ | refine ob rfl ?_ | refine ob (by decide) ?_ | refine grow_same (Mem.le_refl _) ?_ | refine ob (Mem.le_refl _) ?_ | refine ⟨_, Mem.le_refl _, ?_⟩ | fail)
        refine ob (by dsimp only; omega) ?_
        (conv => whnf); refine atp hab ?_
        (conv => whnf); refine on (hcc 2 _ rfl) ?_
        (conv => whnf); refine ob (inR_i64 (by omega)) ?_
        repeat' ((conv => whnf); first | refine ⟨?_, True.intro⟩ | refine brn_t rfl ?_ | refine brn_f rfl ?_ | refine ob rfl ?_ | refine ob (by decide) ?_ | refine grow_same (Mem.le_refl _) ?_ | refine ob (Mem.le_refl _) ?_ | refine ⟨_, Mem.le_refl _, ?_⟩ | fail)
        refine brn (fun k2 => ?_) (fun k2 => ?_)
        · have hc2 : x.c = m.up + 1 := of_decide_eq_true k2
          obtain ⟨b2, cs2, ha2, hcells, hle2, hst⟩ := hW1.row.fstore encM_len hlast (p := 2) (by decide)
          obtain ⟨hN7, hk7⟩ := hst ⟨m.o, m.e, m.up + 1, m.a, m.c, m.more⟩ (.int .i64 (m.up + 1)) rfl
          rw [set_last, hlen1] at hN7
          (conv => whnf)
          refine ob (by dsimp only; omega) ?_
          (conv => whnf); refine atp hab ?_
          (conv => whnf); refine on (hcc 2 _ rfl) ?_
          (conv => whnf); refine ob (inR_i64 (by omega)) ?_
          (conv => whnf); refine ob (by dsimp only; omega) ?_
          (conv => whnf); refine atp ha2 ?_
          (conv => whnf); refine on hcells ?_
          (conv => whnf); refine ob hle2 ?_
          obtain ⟨M7, hM7⟩ : ∃ M7, M7 = MW.setCells b2 T.api_Mark (splice cs2 (0 + u.length * 4 + 2) [.int .i64 (m.up + 1)]) := ⟨_, rfl⟩
          rw [← hM7] at hN7 hk7
          (conv => whnf)
          erw [← hM7]
          (conv => whnf)
          refine ob (inR_i64 (by first | omega | (dsimp only; omega))) ?_
          (conv => whnf)
          refine ⟨⟨i + 1, M7, aW, cW, u ++ [⟨m.o, m.e, m.up + 1, m.a, m.c, m.more⟩]⟩, ⟨by omega, hW1.turn hN7 (hmm.keep hk7 hfr (hneb m (by simp))) (fun z hz q o hq ho => hk7 _ _ (hneb z (by simp [hz]) q hq) ho) (fun z hz => .inl hz), hval _ (by simp [MkC.mk', bump, hm0, hc2]), by simp; omega, fun z hz => ?_⟩, by dsimp only; omega, ?_⟩
          · rcases List.mem_append.1 hz with h9 | h9
            · have := hfewu z h9; omega
            · simp only [List.mem_singleton] at h9
              subst h9
              dsimp only; omega
          · simp only [List.length_append, List.length_cons, List.length_nil]
            exact ⟨(by repeat' first | exact True.intro | refine ⟨rfl, ?_⟩), (by repeat' first | exact True.intro | refine ⟨rfl, ?_⟩), Mem.le_refl _, rfl⟩
        · have hc2 : ¬ (m.more = [] ∧ x.c = m.up + 1) := fun e => of_decide_eq_false k2 e.2
          repeat' ((conv => whnf); first | refine ⟨?_, True.intro⟩ | refine brn_t rfl ?_ | refine brn_f rfl ?_ | refine ob rfl ?_ | refine ob (by decide) ?_ | refine grow_same (Mem.le_refl _) ?_ | refine ob (Mem.le_refl _) ?_ | refine ⟨_, Mem.le_refl _, ?_⟩ | fail)
          refine ob (by dsimp only; omega) ?_
          (conv => whnf); refine atp hab ?_
          (conv => whnf); refine on (hcc 3 _ rfl) ?_
          repeat' ((conv => whnf); first | refine ⟨?_, True.intro⟩ | refine brn_t rfl ?_ | refine brn_f rfl ?_ | refine ob rfl ?_ | refine ob (by decide) ?_ | refine grow_same (Mem.le_refl _) ?_ | refine ob (Mem.le_refl _) ?_ | refine ⟨_, Mem.le_refl _, ?_⟩ | fail)
          refine appK (MW.minus (blk m.a)) _ (hmm.rebase2 (Mem.le_refl _) (fun _ h => h)) (by omega) (by simp [maxLen] <;> omega) (by simp [Value.oneCell']) fun a7 c7 M7 hN7 hk7 => ?_
          have hfm : ∀ y, blk m.a y → M y = none := fun y ⟨q, hq, e⟩ => e ▸ (hmm.block hq).1
          have hrow7 := hW1.row.keep hk7 hfm fun q hq ⟨q', hq', e⟩ => hW1.row.ne hmm (by decide) hq hq' e.symm
          have hN7' : NewSl M T.int 1 a7 (m.more.length + 1) c7 ((m.more ++ [x.c]).map intV) M7 := by
            have := hN7.mono (Mem.le_minus hW1.row.le hfm)
            simpa using this
          obtain ⟨b2, cs2, ha2, hcells, hle2, hst⟩ := hrow7.fstore encM_len hlast (p := 3) (by decide)
          obtain ⟨hN8, hk8⟩ := hst ⟨m.o, m.e, m.up, a7, c7, m.more ++ [x.c]⟩ (.slice a7 (m.more.length + 1) c7) (by simp)
          rw [set_last, hlen1] at hN8
          repeat' ((conv => whnf); first | refine ⟨?_, True.intro⟩ | refine brn_t rfl ?_ | refine brn_f rfl ?_ | refine ob rfl ?_ | refine ob (by decide) ?_ | refine grow_same (Mem.le_refl _) ?_ | refine ob (Mem.le_refl _) ?_ | refine ⟨_, Mem.le_refl _, ?_⟩ | fail)
          refine ob (by dsimp only; omega) ?_
          (conv => whnf); refine atp ha2 ?_
          repeat' ((conv => whnf); first | refine ⟨?_, True.intro⟩ | refine brn_t rfl ?_ | refine brn_f rfl ?_ | refine ob rfl ?_ | refine ob (by decide) ?_ | refine grow_same (Mem.le_refl _) ?_ | refine ob (Mem.le_refl _) ?_ | refine ⟨_, Mem.le_refl _, ?_⟩ | fail)
          refine on hcells ?_
          (conv => whnf); refine ob hle2 ?_
          obtain ⟨M8, hM8⟩ : ∃ M8, M8 = M7.setCells b2 T.api_Mark (splice cs2 (0 + u.length * 4 + 3) [.slice a7 (m.more.length + 1) c7]) := ⟨_, rfl⟩
          rw [← hM8] at hN8 hk8
          (conv => whnf)
          erw [← hM8]
          repeat' ((conv => whnf); first | refine ⟨?_, True.intro⟩ | refine brn_t rfl ?_ | refine brn_f rfl ?_ | refine ob rfl ?_ | refine ob (by decide) ?_ | refine grow_same (Mem.le_refl _) ?_ | refine ob (Mem.le_refl _) ?_ | refine ⟨_, Mem.le_refl _, ?_⟩ | fail)
          refine ob (inR_i64 (by first | omega | (dsimp only; omega))) ?_
          (conv => whnf)
          have hap := (List.pairwise_append.1 hW1.apart).2.2
          have hl7 : (m.more ++ [x.c]).length = m.more.length + 1 := by simp
          refine ⟨⟨i + 1, M8, aW, cW, u ++ [⟨m.o, m.e, m.up, a7, c7, m.more ++ [x.c]⟩]⟩, ⟨by omega, hW1.turn hN8 ?_ (fun z hz q o hq ho => hk8 _ _ (hneb z (by simp [hz]) q hq) (hk7 _ _ (fun hb => hap z hz m (by simp) _ ⟨q, hq, rfl⟩ hb) ho)) (fun z hz => ?_), hval _ ?_, by simp; omega, fun z hz => ?_⟩, by dsimp only; omega, ?_⟩
          · rw [hl7]
            exact hN7'.keep hk8 hfr fun q hq ⟨q', hq', e⟩ => hrow7.ne hN7' (by decide) hq' hq e
          · obtain ⟨q, hq, e⟩ := hz
            have := (hN7.block hq).1
            rw [e] at this
            exact Mem.minus_none this
          · exact (if_neg (c := m.mk'.more = [] ∧ x.c = m.mk'.up + 1) hc2).symm
          · rcases List.mem_append.1 hz with h9 | h9
            · have := hfewu z h9; omega
            · simp only [List.mem_singleton] at h9
              subst h9
              dsimp only; rw [hl7]; omega
          · simp only [List.length_append, List.length_cons, List.length_nil]
            exact ⟨(by repeat' first | exact True.intro | refine ⟨rfl, ?_⟩), (by repeat' first | exact True.intro | refine ⟨rfl, ?_⟩), Mem.le_refl _, rfl⟩
      · have hc2 : ¬ (m.more = [] ∧ x.c = m.up + 1) := fun e => by rw [e.1] at k1; simp at k1
        repeat' ((conv => whnf); first | refine ⟨?_, True.intro⟩ | refine brn_t rfl ?_ | refine brn_f rfl ?_ | refine ob rfl ?_ | refine ob (by decide) ?_ | refine grow_same (Mem.le_refl _) ?_ | refine ob (Mem.le_refl _) ?_ | refine ⟨_, Mem.le_refl _, ?_⟩ | fail)
        repeat' ((conv => whnf); first | refine ⟨?_, True.intro⟩ | refine brn_t rfl ?_ | refine brn_f rfl ?_ | refine ob rfl ?_ | refine ob (by decide) ?_ | refine grow_same (Mem.le_refl _) ?_ | refine ob (Mem.le_refl _) ?_ | refine ⟨_, Mem.le_refl _, ?_⟩ | fail)
        refine ob (by dsimp only; omega) ?_
        (conv => whnf); refine atp hab ?_
        (conv => whnf); refine on (hcc 3 _ rfl) ?_
        repeat' ((conv => whnf); first | refine ⟨?_, True.intro⟩ | refine brn_t rfl ?_ | refine brn_f rfl ?_ | refine ob rfl ?_ | refine ob (by decide) ?_ | refine grow_same (Mem.le_refl _) ?_ | refine ob (Mem.le_refl _) ?_ | refine ⟨_, Mem.le_refl _, ?_⟩ | fail)
        refine appK (MW.minus (blk m.a)) _ (hmm.rebase2 (Mem.le_refl _) (fun _ h => h)) (by omega) (by simp [maxLen] <;> omega) (by simp [Value.oneCell']) fun a7 c7 M7 hN7 hk7 => ?_
        have hfm : ∀ y, blk m.a y → M y = none := fun y ⟨q, hq, e⟩ => e ▸ (hmm.block hq).1
        have hrow7 := hW1.row.keep hk7 hfm fun q hq ⟨q', hq', e⟩ => hW1.row.ne hmm (by decide) hq hq' e.symm
        have hN7' : NewSl M T.int 1 a7 (m.more.length + 1) c7 ((m.more ++ [x.c]).map intV) M7 := by
          have := hN7.mono (Mem.le_minus hW1.row.le hfm)
          simpa using this
        obtain ⟨b2, cs2, ha2, hcells, hle2, hst⟩ := hrow7.fstore encM_len hlast (p := 3) (by decide)
        obtain ⟨hN8, hk8⟩ := hst ⟨m.o, m.e, m.up, a7, c7, m.more ++ [x.c]⟩ (.slice a7 (m.more.length + 1) c7) (by simp)
        rw [set_last, hlen1] at hN8
        repeat' ((conv => whnf); first | refine ⟨?_, True.intro⟩ | refine brn_t rfl ?_ | refine brn_f rfl ?_ | refine ob rfl ?_ | refine ob (by decide) ?_ | refine grow_same (Mem.le_refl _) ?_ | refine ob (Mem.le_refl _) ?_ | refine ⟨_, Mem.le_refl _, ?_⟩ | fail)
        refine ob (by dsimp only; omega) ?_
        (conv => whnf); refine atp ha2 ?_
        repeat' ((conv => whnf); first | refine ⟨?_, True.intro⟩ | refine brn_t rfl ?_ | refine brn_f rfl ?_ | refine ob rfl ?_ | refine ob (by decide) ?_ | refine grow_same (Mem.le_refl _) ?_ | refine ob (Mem.le_refl _) ?_ | refine ⟨_, Mem.le_refl _, ?_⟩ | fail)
        refine on hcells ?_
        (conv => whnf); refine ob hle2 ?_
        obtain ⟨M8, hM8⟩ : ∃ M8, M8 = M7.setCells b2 T.api_Mark (splice cs2 (0 + u.length * 4 + 3) [.slice a7 (m.more.length + 1) c7]) := ⟨_, rfl⟩
        rw [← hM8] at hN8 hk8
        (conv => whnf)
        erw [← hM8]
        repeat' ((conv => whnf); first | refine ⟨?_, True.intro⟩ | refine brn_t rfl ?_ | refine brn_f rfl ?_ | refine ob rfl ?_ | refine ob (by decide) ?_ | refine grow_same (Mem.le_refl _) ?_ | refine ob (Mem.le_refl _) ?_ | refine ⟨_, Mem.le_refl _, ?_⟩ | fail)
        refine ob (inR_i64 (by first | omega | (dsimp only; omega))) ?_
        (conv => whnf)
        have hap := (List.pairwise_append.1 hW1.apart).2.2
        have hl7 : (m.more ++ [x.c]).length = m.more.length + 1 := by simp
        refine ⟨⟨i + 1, M8, aW, cW, u ++ [⟨m.o, m.e, m.up, a7, c7, m.more ++ [x.c]⟩]⟩, ⟨by omega, hW1.turn hN8 ?_ (fun z hz q o hq ho => hk8 _ _ (hneb z (by simp [hz]) q hq) (hk7 _ _ (fun hb => hap z hz m (by simp) _ ⟨q, hq, rfl⟩ hb) ho)) (fun z hz => ?_), hval _ ?_, by simp; omega, fun z hz => ?_⟩, by dsimp only; omega, ?_⟩
        · rw [hl7]
          exact hN7'.keep hk8 hfr fun q hq ⟨q', hq', e⟩ => hrow7.ne hN7' (by decide) hq' hq e
        · obtain ⟨q, hq, e⟩ := hz
          have := (hN7.block hq).1
          rw [e] at this
          exact Mem.minus_none this
        · exact (if_neg (c := m.mk'.more = [] ∧ x.c = m.mk'.up + 1) hc2).symm
        · rcases List.mem_append.1 hz with h9 | h9
          · have := hfewu z h9; omega
          · simp only [List.mem_singleton] at h9
            subst h9
            dsimp only; rw [hl7]; omega
        · simp only [List.length_append, List.length_cons, List.length_nil]
          exact ⟨(by repeat' first | exact True.intro | refine ⟨rfl, ?_⟩), (by repeat' first | exact True.intro | refine ⟨rfl, ?_⟩), Mem.le_refl _, rfl⟩
    · have hl0 : l ≠ [] := fun e => by subst e; simp at g1
      obtain ⟨u0, m0, hum⟩ : ∃ u0 m0, l = u0 ++ [m0] := ⟨l.dropLast, l.getLast hl0, (List.dropLast_concat_getLast hl0).symm⟩
      have hlu0 : l.length = u0.length + 1 := by rw [hum]; simp
      have hidx : ((l.length : Int) - 1).toNat = u0.length := by omega
      have hlast0 : l[u0.length]? = some m0 := by rw [hum]; simp
      have hget : (l.map MkC.mk').getLast? = some m0.mk' := by rw [hum]; simp
      obtain ⟨bb0, oo0, hab0, hcc0⟩ := hW.row.src.fcells encM_len (by decide) hlast0
      rw [← hidx] at hcc0
      have hnew : ¬ (m0.o = x.o ∧ m0.e = x.e) → ∀ k, k = x → addMk (l.map MkC.mk') k = l.map MkC.mk' ++ [bump (MkC.mk' ⟨x.o, x.e, 0, none, 0, []⟩) x.c] := fun hne k e => by
        subst e
        unfold addMk
        rw [hget]
        exact if_neg hne
      repeat' ((conv => whnf); first | refine ⟨?_, True.intro⟩ | refine brn_t rfl ?_ | refine brn_f rfl ?_ | refine ob rfl ?_ | refine ob (by decide) ?_ | refine grow_same (Mem.le_refl _) ?_ | refine ob (Mem.le_refl _) ?_ | refine ⟨_, Mem.le_refl _, ?_⟩ | fail)
      refine ob (by dsimp only; omega) ?_
      (conv => whnf); refine atp hab0 ?_
      (conv => whnf); refine on (hcc0 0 _ rfl) ?_
      (conv => whnf); refine brn (fun g2 => ?_) (fun g2 => ?_)
      · replace hnew := hnew (fun e => by simp [e.1] at g2)
        repeat' ((conv => whnf); first | refine ⟨?_, True.intro⟩ | refine brn_t rfl ?_ | refine brn_f rfl ?_ | refine ob rfl ?_ | refine ob (by decide) ?_ | refine grow_same (Mem.le_refl _) ?_ | refine ob (Mem.le_refl _) ?_ | refine ⟨_, Mem.le_refl _, ?_⟩ | fail)
        refine appF M hW.row ⟨x.o, x.e, 0, none, 0, []⟩ rfl (by first | omega | (dsimp only; omega)) (by simp [maxLen] <;> omega) (by simp [Value.oneCell']) fun aW cW MW hN6 hk6 => ?_
        have hW1 := hW.snoc x.o x.e hN6 hk6
        (conv => whnf); refine ob (inR_i64 (by first | omega | (dsimp only; omega))) ?_
        (conv => whnf)
        erw [show ((l.length : Int) - 1 + 1) = ((l.length : Nat) : Int) from by omega]
        obtain ⟨m, hm⟩ : ∃ m : MkC, m = ⟨x.o, x.e, 0, none, 0, []⟩ := ⟨_, rfl⟩
        have hmo : m.o = x.o ∧ m.e = x.e ∧ 0 ≤ m.up ∧ m.up ≤ i ∧ m.more.length ≤ i := by rw [hm]; exact ⟨rfl, rfl, by simp, by simp, by simp⟩
        rw [← hm] at hW1
        have hval : ∀ m' : MkC, m'.mk' = bump m.mk' x.c → (l ++ [m']).map MkC.mk' = marksK (L.take (i + 1)) := fun m' e => by
          rw [htk, ← hfold, List.map_append, List.map_cons, e, hm]
          exact (hnew _ rfl).symm
        clear hnew hl0
        obtain ⟨u, rfl⟩ : ∃ u, u = l := ⟨_, rfl⟩
        have hfewu : ∀ m ∈ u, (0 ≤ m.up ∧ m.up ≤ i) ∧ m.more.length ≤ i := hfew
        have hlu : u.length ≤ i := hll
        have hlast : (u ++ [m])[u.length]? = some m := by simp
        obtain ⟨bb, oo, hab, hcc⟩ := hW1.row.src.fcells encM_len (by decide) hlast
        have hlen1 : (u ++ [m]).length = u.length + 1 := by simp
        have hmm := hW1.more m (by simp)
        have hfr : ∀ y, blk aW y → M y = none := fun y ⟨q, hq, e⟩ => e ▸ (hW1.row.block hq).1
        have hneb : ∀ z ∈ u ++ [m], ∀ q, z.a = some q → ¬ blk aW q.block := fun z hz q hq ⟨q', hq', e⟩ => hW1.row.ne (hW1.more z hz) (by decide) hq' hq e
        (conv => whnf)
        refine ob (by dsimp only; omega) ?_
        (conv => whnf); refine atp hab ?_
        (conv => whnf); refine on (hcc 3 _ rfl) ?_
        (conv => whnf); refine brn (fun k1 => ?_) (fun k1 => ?_)
        · have hm0 : m.more = [] := List.eq_nil_of_length_eq_zero (by have := of_decide_eq_true k1; omega)
          repeat' ((conv => whnf); first | refine ⟨?_, True.intro⟩ | refine brn_t rfl ?_ | refine brn_f rfl ?_ | refine ob rfl ?_ | refine ob (by decide) ?_ | refine grow_same (Mem.le_refl _) ?_ | refine ob (Mem.le_refl _) ?_ | refine ⟨_, Mem.le_refl _, ?_⟩ | fail)
          refine ob (by dsimp only; omega) ?_
          (conv => whnf); refine atp hab ?_
          (conv => whnf); refine on (hcc 2 _ rfl) ?_
          (conv => whnf); refine ob (inR_i64 (by omega)) ?_
          repeat' ((conv => whnf); first | refine ⟨?_, True.intro⟩ | refine brn_t rfl ?_ | refine brn_f rfl ?_ | refine ob rfl ?_ | refine ob (by decide) ?_ | refine grow_same (Mem.le_refl _) ?_ | refine ob (Mem.le_refl _) ?_ | refine ⟨_, Mem.le_refl _, ?_⟩ | fail)
          refine brn (fun k2 => ?_) (fun k2 => ?_)
          · have hc2 : x.c = m.up + 1 := of_decide_eq_true k2
            obtain ⟨b2, cs2, ha2, hcells, hle2, hst⟩ := hW1.row.fstore encM_len hlast (p := 2) (by decide)
            obtain ⟨hN7, hk7⟩ := hst ⟨m.o, m.e, m.up + 1, m.a, m.c, m.more⟩ (.int .i64 (m.up + 1)) rfl
            rw [set_last, hlen1] at hN7
            (conv => whnf)
            refine ob (by dsimp only; omega) ?_
            (conv => whnf); refine atp hab ?_
            (conv => whnf); refine on (hcc 2 _ rfl) ?_
            (conv => whnf); refine ob (inR_i64 (by omega)) ?_
            (conv => whnf); refine ob (by dsimp only; omega) ?_
            (conv => whnf); refine atp ha2 ?_
            (conv => whnf); refine on hcells ?_
            (conv => whnf); refine ob hle2 ?_
            obtain ⟨M7, hM7⟩ : ∃ M7, M7 = MW.setCells b2 T.api_Mark (splice cs2 (0 + u.length * 4 + 2) [.int .i64 (m.up + 1)]) := ⟨_, rfl⟩
            rw [← hM7] at hN7 hk7
            (conv => whnf)
            erw [← hM7]
            (conv => whnf)
            refine ob (inR_i64 (by first | omega | (dsimp only; omega))) ?_
            (conv => whnf)
            refine ⟨⟨i + 1, M7, aW, cW, u ++ [⟨m.o, m.e, m.up + 1, m.a, m.c, m.more⟩]⟩, ⟨by omega, hW1.turn hN7 (hmm.keep hk7 hfr (hneb m (by simp))) (fun z hz q o hq ho => hk7 _ _ (hneb z (by simp [hz]) q hq) ho) (fun z hz => .inl hz), hval _ (by simp [MkC.mk', bump, hm0, hc2]), by simp; omega, fun z hz => ?_⟩, by dsimp only; omega, ?_⟩
            · rcases List.mem_append.1 hz with h9 | h9
              · have := hfewu z h9; omega
              · simp only [List.mem_singleton] at h9
                subst h9
                dsimp only; omega
            · simp only [List.length_append, List.length_cons, List.length_nil]
              exact ⟨(by repeat' first | exact True.intro | refine ⟨rfl, ?_⟩), (by repeat' first | exact True.intro | refine ⟨rfl, ?_⟩), Mem.le_refl _, rfl⟩
          · have hc2 : ¬ (m.more = [] ∧ x.c = m.up + 1) := fun e => of_decide_eq_false k2 e.2
            repeat' ((conv => whnf); first | refine ⟨?_, True.intro⟩ | refine brn_t rfl ?_ | refine brn_f rfl ?_ | refine ob rfl ?_ | refine ob (by decide) ?_ | refine grow_same (Mem.le_refl _) ?_ | refine ob (Mem.le_refl _) ?_ | refine ⟨_, Mem.le_refl _, ?_⟩ | fail)
            refine ob (by dsimp only; omega) ?_
            (conv => whnf); refine atp hab ?_
            (conv => whnf); refine on (hcc 3 _ rfl) ?_
            repeat' ((conv => whnf); first | refine ⟨?_, True.intro⟩ | refine brn_t rfl ?_ | refine brn_f rfl ?_ | refine ob rfl ?_ | refine ob (by decide) ?_ | refine grow_same (Mem.le_refl _) ?_ | refine ob (Mem.le_refl _) ?_ | refine ⟨_, Mem.le_refl _, ?_⟩ | fail)
            refine appK (MW.minus (blk m.a)) _ (hmm.rebase2 (Mem.le_refl _) (fun _ h => h)) (by omega) (by simp [maxLen] <;> omega) (by simp [Value.oneCell']) fun a7 c7 M7 hN7 hk7 => ?_
            have hfm : ∀ y, blk m.a y → M y = none := fun y ⟨q, hq, e⟩ => e ▸ (hmm.block hq).1
            have hrow7 := hW1.row.keep hk7 hfm fun q hq ⟨q', hq', e⟩ => hW1.row.ne hmm (by decide) hq hq' e.symm
            have hN7' : NewSl M T.int 1 a7 (m.more.length + 1) c7 ((m.more ++ [x.c]).map intV) M7 := by
              have := hN7.mono (Mem.le_minus hW1.row.le hfm)
              simpa using this
            obtain ⟨b2, cs2, ha2, hcells, hle2, hst⟩ := hrow7.fstore encM_len hlast (p := 3) (by decide)
            obtain ⟨hN8, hk8⟩ := hst ⟨m.o, m.e, m.up, a7, c7, m.more ++ [x.c]⟩ (.slice a7 (m.more.length + 1) c7) (by simp)
            rw [set_last, hlen1] at hN8
            repeat' ((conv => whnf); first | refine ⟨?_, True.intro⟩ | refine brn_t rfl ?_ | refine brn_f rfl ?_ | refine ob rfl ?_ | refine ob (by decide) ?_ | refine grow_same (Mem.le_refl _) ?_ | refine ob (Mem.le_refl _) ?_ | refine ⟨_, Mem.le_refl _, ?_⟩ | fail)
            refine ob (by dsimp only; omega) ?_
            (conv => whnf); refine atp ha2 ?_
            repeat' ((conv => whnf); first | refine ⟨?_, True.intro⟩ | refine brn_t rfl ?_ | refine brn_f rfl ?_ | refine ob rfl ?_ | refine ob (by decide) ?_ | refine grow_same (Mem.le_refl _) ?_ | refine ob (Mem.le_refl _) ?_ | refine ⟨_, Mem.le_refl _, ?_⟩ | fail)
            refine on hcells ?_
            (conv => whnf); refine ob hle2 ?_
            obtain ⟨M8, hM8⟩ : ∃ M8, M8 = M7.setCells b2 T.api_Mark (splice cs2 (0 + u.length * 4 + 3) [.slice a7 (m.more.length + 1) c7]) := ⟨_, rfl⟩
            rw [← hM8] at hN8 hk8
            (conv => whnf)
            erw [← hM8]
            repeat' ((conv => whnf); first | refine ⟨?_, True.intro⟩ | refine brn_t rfl ?_ | refine brn_f rfl ?_ | refine ob rfl ?_ | refine ob (by decide) ?_ | refine grow_same (Mem.le_refl _) ?_ | refine ob (Mem.le_refl _) ?_ | refine ⟨_, Mem.le_refl _, ?_⟩ | fail)
            refine ob (inR_i64 (by first | omega | (dsimp only; omega))) ?_
            (conv => whnf)
            have hap := (List.pairwise_append.1 hW1.apart).2.2
            have hl7 : (m.more ++ [x.c]).length = m.more.length + 1 := by simp
            refine ⟨⟨i + 1, M8, aW, cW, u ++ [⟨m.o, m.e, m.up, a7, c7, m.more ++ [x.c]⟩]⟩, ⟨by omega, hW1.turn hN8 ?_ (fun z hz q o hq ho => hk8 _ _ (hneb z (by simp [hz]) q hq) (hk7 _ _ (fun hb => hap z hz m (by simp) _ ⟨q, hq, rfl⟩ hb) ho)) (fun z hz => ?_), hval _ ?_, by simp; omega, fun z hz => ?_⟩, by dsimp only; omega, ?_⟩
            · rw [hl7]
              exact hN7'.keep hk8 hfr fun q hq ⟨q', hq', e⟩ => hrow7.ne hN7' (by decide) hq' hq e
            · obtain ⟨q, hq, e⟩ := hz
              have := (hN7.block hq).1
              rw [e] at this
              exact Mem.minus_none this
            · exact (if_neg (c := m.mk'.more = [] ∧ x.c = m.mk'.up + 1) hc2).symm
            · rcases List.mem_append.1 hz with h9 | h9
              · have := hfewu z h9; omega
              · simp only [List.mem_singleton] at h9
                subst h9
                dsimp only; rw [hl7]; omega
            · simp only [List.length_append, List.length_cons, List.length_nil]
              exact ⟨(by repeat' first | exact True.intro | refine ⟨rfl, ?_⟩), (by repeat' first | exact True.intro | refine ⟨rfl, ?_⟩), Mem.le_refl _, rfl⟩
        · have hc2 : ¬ (m.more = [] ∧ x.c = m.up + 1) := fun e => by rw [e.1] at k1; simp at k1
          repeat' ((conv => whnf); first | refine ⟨?_, True.intro⟩ | refine brn_t rfl ?_ | refine brn_f rfl ?_ | refine ob rfl ?_ | refine ob (by decide) ?_ | refine grow_same (Mem.le_refl _) ?_ | refine ob (Mem.le_refl _) ?_ | refine ⟨_, Mem.le_refl _, ?_⟩ | fail)
          repeat' ((conv => whnf); first | refine ⟨?_, True.intro⟩ | refine brn_t rfl ?_ | refine brn_f rfl ?_ | refine ob rfl ?_ | refine ob (by decide) ?_ | refine grow_same (Mem.le_refl _) ?_ | refine ob (Mem.le_refl _) ?_ | refine ⟨_, Mem.le_refl _, ?_⟩ | fail)
          refine ob (by dsimp only; omega) ?_
          (conv => whnf); refine atp hab ?_
          (conv => whnf); refine on (hcc 3 _ rfl) ?_
          repeat' ((conv => whnf); first | refine ⟨?_, True.intro⟩ | refine brn_t rfl ?_ | refine brn_f rfl ?_ | refine ob rfl ?_ | refine ob (by decide) ?_ | refine grow_same (Mem.le_refl _) ?_ | refine ob (Mem.le_refl _) ?_ | refine ⟨_, Mem.le_refl _, ?_⟩ | fail)
          refine appK (MW.minus (blk m.a)) _ (hmm.rebase2 (Mem.le_refl _) (fun _ h => h)) (by omega) (by simp [maxLen] <;> omega) (by simp [Value.oneCell']) fun a7 c7 M7 hN7 hk7 => ?_
          have hfm : ∀ y, blk m.a y → M y = none := fun y ⟨q, hq, e⟩ => e ▸ (hmm.block hq).1
          have hrow7 := hW1.row.keep hk7 hfm fun q hq ⟨q', hq', e⟩ => hW1.row.ne hmm (by decide) hq hq' e.symm
          have hN7' : NewSl M T.int 1 a7 (m.more.length + 1) c7 ((m.more ++ [x.c]).map intV) M7 := by
            have := hN7.mono (Mem.le_minus hW1.row.le hfm)
            simpa using this
          obtain ⟨b2, cs2, ha2, hcells, hle2, hst⟩ := hrow7.fstore encM_len hlast (p := 3) (by decide)
          obtain ⟨hN8, hk8⟩ := hst ⟨m.o, m.e, m.up, a7, c7, m.more ++ [x.c]⟩ (.slice a7 (m.more.length + 1) c7) (by simp)
          rw [set_last, hlen1] at hN8
          repeat' ((conv => whnf); first | refine ⟨?_, True.intro⟩ | refine brn_t rfl ?_ | refine brn_f rfl ?_ | refine ob rfl ?_ | refine ob (by decide) ?_ | refine grow_same (Mem.le_refl _) ?_ | refine ob (Mem.le_refl _) ?_ | refine ⟨_, Mem.le_refl _, ?_⟩ | fail)
          refine ob (by dsimp only; omega) ?_
          (conv => whnf); refine atp ha2 ?_
          repeat' ((conv => whnf); first | refine ⟨?_, True.intro⟩ | refine brn_t rfl ?_ | refine brn_f rfl ?_ | refine ob rfl ?_ | refine ob (by decide) ?_ | refine grow_same (Mem.le_refl _) ?_ | refine ob (Mem.le_refl _) ?_ | refine ⟨_, Mem.le_refl _, ?_⟩ | fail)
          refine on hcells ?_
          (conv => whnf); refine ob hle2 ?_
          obtain ⟨M8, hM8⟩ : ∃ M8, M8 = M7.setCells b2 T.api_Mark (splice cs2 (0 + u.length * 4 + 3) [.slice a7 (m.more.length + 1) c7]) := ⟨_, rfl⟩
          rw [← hM8] at hN8 hk8
          (conv => whnf)
          erw [← hM8]
          repeat' ((conv => whnf); first | refine ⟨?_, True.intro⟩ | refine brn_t rfl ?_ | refine brn_f rfl ?_ | refine ob rfl ?_ | refine ob (by decide) ?_ | refine grow_same (Mem.le_refl _) ?_ | refine ob (Mem.le_refl _) ?_ | refine ⟨_, Mem.le_refl _, ?_⟩ | fail)
          refine ob (inR_i64 (by first | omega | (dsimp only; omega))) ?_
          (conv => whnf)
          have hap := (List.pairwise_append.1 hW1.apart).2.2
          have hl7 : (m.more ++ [x.c]).length = m.more.length + 1 := by simp
          refine ⟨⟨i + 1, M8, aW, cW, u ++ [⟨m.o, m.e, m.up, a7, c7, m.more ++ [x.c]⟩]⟩, ⟨by omega, hW1.turn hN8 ?_ (fun z hz q o hq ho => hk8 _ _ (hneb z (by simp [hz]) q hq) (hk7 _ _ (fun hb => hap z hz m (by simp) _ ⟨q, hq, rfl⟩ hb) ho)) (fun z hz => ?_), hval _ ?_, by simp; omega, fun z hz => ?_⟩, by dsimp only; omega, ?_⟩
          · rw [hl7]
            exact hN7'.keep hk8 hfr fun q hq ⟨q', hq', e⟩ => hrow7.ne hN7' (by decide) hq' hq e
          · obtain ⟨q, hq, e⟩ := hz
            have := (hN7.block hq).1
            rw [e] at this
            exact Mem.minus_none this
          · exact (if_neg (c := m.mk'.more = [] ∧ x.c = m.mk'.up + 1) hc2).symm
          · rcases List.mem_append.1 hz with h9 | h9
            · have := hfewu z h9; omega
            · simp only [List.mem_singleton] at h9
              subst h9
              dsimp only; rw [hl7]; omega
          · simp only [List.length_append, List.length_cons, List.length_nil]
            exact ⟨(by repeat' first | exact True.intro | refine ⟨rfl, ?_⟩), (by repeat' first | exact True.intro | refine ⟨rfl, ?_⟩), Mem.le_refl _, rfl⟩
      · have e1 : m0.o = x.o := by simpa using g2
        repeat' ((conv => whnf); first | refine ⟨?_, True.intro⟩ | refine brn_t rfl ?_ | refine brn_f rfl ?_ | refine ob rfl ?_ | refine ob (by decide) ?_ | refine grow_same (Mem.le_refl _) ?_ | refine ob (Mem.le_refl _) ?_ | refine ⟨_, Mem.le_refl _, ?_⟩ | fail)
        refine ob (by dsimp only; omega) ?_
        (conv => whnf); refine atp hab0 ?_
        (conv => whnf); refine on (hcc0 1 _ rfl) ?_
        (conv => whnf); refine brn (fun g3 => ?_) (fun g3 => ?_)
        · replace hnew := hnew (fun e => by simp [e.2] at g3)
          repeat' ((conv => whnf); first | refine ⟨?_, True.intro⟩ | refine brn_t rfl ?_ | refine brn_f rfl ?_ | refine ob rfl ?_ | refine ob (by decide) ?_ | refine grow_same (Mem.le_refl _) ?_ | refine ob (Mem.le_refl _) ?_ | refine ⟨_, Mem.le_refl _, ?_⟩ | fail)
          refine appF M hW.row ⟨x.o, x.e, 0, none, 0, []⟩ rfl (by first | omega | (dsimp only; omega)) (by simp [maxLen] <;> omega) (by simp [Value.oneCell']) fun aW cW MW hN6 hk6 => ?_
          have hW1 := hW.snoc x.o x.e hN6 hk6
          (conv => whnf); refine ob (inR_i64 (by first | omega | (dsimp only; omega))) ?_
          (conv => whnf)
          erw [show ((l.length : Int) - 1 + 1) = ((l.length : Nat) : Int) from by omega]
          obtain ⟨m, hm⟩ : ∃ m : MkC, m = ⟨x.o, x.e, 0, none, 0, []⟩ := ⟨_, rfl⟩
          have hmo : m.o = x.o ∧ m.e = x.e ∧ 0 ≤ m.up ∧ m.up ≤ i ∧ m.more.length ≤ i := by rw [hm]; exact ⟨rfl, rfl, by simp, by simp, by simp⟩
          rw [← hm] at hW1
          have hval : ∀ m' : MkC, m'.mk' = bump m.mk' x.c → (l ++ [m']).map MkC.mk' = marksK (L.take (i + 1)) := fun m' e => by
            rw [htk, ← hfold, List.map_append, List.map_cons, e, hm]
            exact (hnew _ rfl).symm
          clear hnew hl0
          obtain ⟨u, rfl⟩ : ∃ u, u = l := ⟨_, rfl⟩
          have hfewu : ∀ m ∈ u, (0 ≤ m.up ∧ m.up ≤ i) ∧ m.more.length ≤ i := hfew
          have hlu : u.length ≤ i := hll
          have hlast : (u ++ [m])[u.length]? = some m := by simp
          obtain ⟨bb, oo, hab, hcc⟩ := hW1.row.src.fcells encM_len (by decide) hlast
          have hlen1 : (u ++ [m]).length = u.length + 1 := by simp
          have hmm := hW1.more m (by simp)
          have hfr : ∀ y, blk aW y → M y = none := fun y ⟨q, hq, e⟩ => e ▸ (hW1.row.block hq).1
          have hneb : ∀ z ∈ u ++ [m], ∀ q, z.a = some q → ¬ blk aW q.block := fun z hz q hq ⟨q', hq', e⟩ => hW1.row.ne (hW1.more z hz) (by decide) hq' hq e
          (conv => whnf)
          refine ob (by dsimp only; omega) ?_
          (conv => whnf); refine atp hab ?_
          (conv => whnf); refine on (hcc 3 _ rfl) ?_
          (conv => whnf); refine brn (fun k1 => ?_) (fun k1 => ?_)
          · have hm0 : m.more = [] := List.eq_nil_of_length_eq_zero (by have := of_decide_eq_true k1; omega)
            repeat' ((conv => whnf); first | refine ⟨?_, True.intro⟩ | refine brn_t rfl ?_ | refine brn_f rfl ?_ | refine ob rfl ?_ | refine ob (by decide) ?_ | refine grow_same (Mem.le_refl _) ?_ | refine ob (Mem.le_refl _) ?_ | refine ⟨_, Mem.le_refl _, ?_⟩ | fail)
            refine ob (by dsimp only; omega) ?_
            (conv => whnf); refine atp hab ?_
            (conv => whnf); refine on (hcc 2 _ rfl) ?_
            (conv => whnf); refine ob (inR_i64 (by omega)) ?_
            repeat' ((conv => whnf); first | refine ⟨?_, True.intro⟩ | refine brn_t rfl ?_ | refine brn_f rfl ?_ | refine ob rfl ?_ | refine ob (by decide) ?_ | refine grow_same (Mem.le_refl _) ?_ | refine ob (Mem.le_refl _) ?_ | refine ⟨_, Mem.le_refl _, ?_⟩ | fail)
            refine brn (fun k2 => ?_) (fun k2 => ?_)
            · have hc2 : x.c = m.up + 1 := of_decide_eq_true k2
              obtain ⟨b2, cs2, ha2, hcells, hle2, hst⟩ := hW1.row.fstore encM_len hlast (p := 2) (by decide)
              obtain ⟨hN7, hk7⟩ := hst ⟨m.o, m.e, m.up + 1, m.a, m.c, m.more⟩ (.int .i64 (m.up + 1)) rfl
              rw [set_last, hlen1] at hN7
              (conv => whnf)
              refine ob (by dsimp only; omega) ?_
              (conv => whnf); refine atp hab ?_
              (conv => whnf); refine on (hcc 2 _ rfl) ?_
              (conv => whnf); refine ob (inR_i64 (by omega)) ?_
              (conv => whnf); refine ob (by dsimp only; omega) ?_
              (conv => whnf); refine atp ha2 ?_
              (conv => whnf); refine on hcells ?_
              (conv => whnf); refine ob hle2 ?_
              obtain ⟨M7, hM7⟩ : ∃ M7, M7 = MW.setCells b2 T.api_Mark (splice cs2 (0 + u.length * 4 + 2) [.int .i64 (m.up + 1)]) := ⟨_, rfl⟩
              rw [← hM7] at hN7 hk7
              (conv => whnf)
              erw [← hM7]
              (conv => whnf)
              refine ob (inR_i64 (by first | omega | (dsimp only; omega))) ?_
              (conv => whnf)
              refine ⟨⟨i + 1, M7, aW, cW, u ++ [⟨m.o, m.e, m.up + 1, m.a, m.c, m.more⟩]⟩, ⟨by omega, hW1.turn hN7 (hmm.keep hk7 hfr (hneb m (by simp))) (fun z hz q o hq ho => hk7 _ _ (hneb z (by simp [hz]) q hq) ho) (fun z hz => .inl hz), hval _ (by simp [MkC.mk', bump, hm0, hc2]), by simp; omega, fun z hz => ?_⟩, by dsimp only; omega, ?_⟩
              · rcases List.mem_append.1 hz with h9 | h9
                · have := hfewu z h9; omega
                · simp only [List.mem_singleton] at h9
                  subst h9
                  dsimp only; omega
              · simp only [List.length_append, List.length_cons, List.length_nil]
                exact ⟨(by repeat' first | exact True.intro | refine ⟨rfl, ?_⟩), (by repeat' first | exact True.intro | refine ⟨rfl, ?_⟩), Mem.le_refl _, rfl⟩
            · have hc2 : ¬ (m.more = [] ∧ x.c = m.up + 1) := fun e => of_decide_eq_false k2 e.2
              repeat' ((conv => whnf); first | refine ⟨?_, True.intro⟩ | refine brn_t rfl ?_ | refine brn_f rfl ?_ | refine ob rfl ?_ | refine ob (by decide) ?_ | refine grow_same (Mem.le_refl _) ?_ | refine ob (Mem.le_refl _) ?_ | refine ⟨_, Mem.le_refl _, ?_⟩ | fail)
              refine ob (by dsimp only; omega) ?_
              (conv => whnf); refine atp hab ?_
              (conv => whnf); refine on (hcc 3 _ rfl) ?_
              repeat' ((conv => whnf); first | refine ⟨?_, True.intro⟩ | refine brn_t rfl ?_ | refine brn_f rfl ?_ | refine ob rfl ?_ | refine ob (by decide) ?_ | refine grow_same (Mem.le_refl _) ?_ | refine ob (Mem.le_refl _) ?_ | refine ⟨_, Mem.le_refl _, ?_⟩ | fail)
              refine appK (MW.minus (blk m.a)) _ (hmm.rebase2 (Mem.le_refl _) (fun _ h => h)) (by omega) (by simp [maxLen] <;> omega) (by simp [Value.oneCell']) fun a7 c7 M7 hN7 hk7 => ?_
              have hfm : ∀ y, blk m.a y → M y = none := fun y ⟨q, hq, e⟩ => e ▸ (hmm.block hq).1
              have hrow7 := hW1.row.keep hk7 hfm fun q hq ⟨q', hq', e⟩ => hW1.row.ne hmm (by decide) hq hq' e.symm
              have hN7' : NewSl M T.int 1 a7 (m.more.length + 1) c7 ((m.more ++ [x.c]).map intV) M7 := by
                have := hN7.mono (Mem.le_minus hW1.row.le hfm)
                simpa using this
              obtain ⟨b2, cs2, ha2, hcells, hle2, hst⟩ := hrow7.fstore encM_len hlast (p := 3) (by decide)
              obtain ⟨hN8, hk8⟩ := hst ⟨m.o, m.e, m.up, a7, c7, m.more ++ [x.c]⟩ (.slice a7 (m.more.length + 1) c7) (by simp)
              rw [set_last, hlen1] at hN8
              repeat' ((conv => whnf); first | refine ⟨?_, True.intro⟩ | refine brn_t rfl ?_ | refine brn_f rfl ?_ | refine ob rfl ?_ | refine ob (by decide) ?_ | refine grow_same (Mem.le_refl _) ?_ | refine ob (Mem.le_refl _) ?_ | refine ⟨_, Mem.le_refl _, ?_⟩ | fail)
              refine ob (by dsimp only; omega) ?_
              (conv => whnf); refine atp ha2 ?_
              repeat' ((conv => whnf); first | refine ⟨?_, True.intro⟩ | refine brn_t rfl ?_ | refine brn_f rfl ?_ | refine ob rfl ?_ | refine ob (by decide) ?_ | refine grow_same (Mem.le_refl _) ?_ | refine ob (Mem.le_refl _) ?_ | refine ⟨_, Mem.le_refl _, ?_⟩ | fail)
              refine on hcells ?_
              (conv => whnf); refine ob hle2 ?_
              obtain ⟨M8, hM8⟩ : ∃ M8, M8 = M7.setCells b2 T.api_Mark (splice cs2 (0 + u.length * 4 + 3) [.slice a7 (m.more.length + 1) c7]) := ⟨_, rfl⟩
              rw [← hM8] at hN8 hk8
              (conv => whnf)
              erw [← hM8]
              repeat' ((conv => whnf); first | refine ⟨?_, True.intro⟩ | refine brn_t rfl ?_ | refine brn_f rfl ?_ | refine ob rfl ?_ | refine ob (by decide) ?_ | refine grow_same (Mem.le_refl _) ?_ | refine ob (Mem.le_refl _) ?_ | refine ⟨_, Mem.le_refl _, ?_⟩ | fail)
              refine ob (inR_i64 (by first | omega | (dsimp only; omega))) ?_
              (conv => whnf)
              have hap := (List.pairwise_append.1 hW1.apart).2.2
              have hl7 : (m.more ++ [x.c]).length = m.more.length + 1 := by simp
              refine ⟨⟨i + 1, M8, aW, cW, u ++ [⟨m.o, m.e, m.up, a7, c7, m.more ++ [x.c]⟩]⟩, ⟨by omega, hW1.turn hN8 ?_ (fun z hz q o hq ho => hk8 _ _ (hneb z (by simp [hz]) q hq) (hk7 _ _ (fun hb => hap z hz m (by simp) _ ⟨q, hq, rfl⟩ hb) ho)) (fun z hz => ?_), hval _ ?_, by simp; omega, fun z hz => ?_⟩, by dsimp only; omega, ?_⟩
              · rw [hl7]
                exact hN7'.keep hk8 hfr fun q hq ⟨q', hq', e⟩ => hrow7.ne hN7' (by decide) hq' hq e
              · obtain ⟨q, hq, e⟩ := hz
                have := (hN7.block hq).1
                rw [e] at this
                exact Mem.minus_none this
              · exact (if_neg (c := m.mk'.more = [] ∧ x.c = m.mk'.up + 1) hc2).symm
              · rcases List.mem_append.1 hz with h9 | h9
                · have := hfewu z h9; omega
                · simp only [List.mem_singleton] at h9
                  subst h9
                  dsimp only; rw [hl7]; omega
              · simp only [List.length_append, List.length_cons, List.length_nil]
                exact ⟨(by repeat' first | exact True.intro | refine ⟨rfl, ?_⟩), (by repeat' first | exact True.intro | refine ⟨rfl, ?_⟩), Mem.le_refl _, rfl⟩
          · have hc2 : ¬ (m.more = [] ∧ x.c = m.up + 1) := fun e => by rw [e.1] at k1; simp at k1
            repeat' ((conv => whnf); first | refine ⟨?_, True.intro⟩ | refine brn_t rfl ?_ | refine brn_f rfl ?_ | refine ob rfl ?_ | refine ob (by decide) ?_ | refine grow_same (Mem.le_refl _) ?_ | refine ob (Mem.le_refl _) ?_ | refine ⟨_, Mem.le_refl _, ?_⟩ | fail)
            repeat' ((conv => whnf); first | refine ⟨?_, True.intro⟩ | refine brn_t rfl ?_ | refine brn_f rfl ?_ | refine ob rfl ?_ | refine ob (by decide) ?_ | refine grow_same (Mem.le_refl _) ?_ | refine ob (Mem.le_refl _) ?_ | refine ⟨_, Mem.le_refl _, ?_⟩ | fail)
            refine ob (by dsimp only; omega) ?_
            (conv => whnf); refine atp hab ?_
            (conv => whnf); refine on (hcc 3 _ rfl) ?_
            repeat' ((conv => whnf); first | refine ⟨?_, True.intro⟩ | refine brn_t rfl ?_ | refine brn_f rfl ?_ | refine ob rfl ?_ | refine ob (by decide) ?_ | refine grow_same (Mem.le_refl _) ?_ | refine ob (Mem.le_refl _) ?_ | refine ⟨_, Mem.le_refl _, ?_⟩ | fail)
            refine appK (MW.minus (blk m.a)) _ (hmm.rebase2 (Mem.le_refl _) (fun _ h => h)) (by omega) (by simp [maxLen] <;> omega) (by simp [Value.oneCell']) fun a7 c7 M7 hN7 hk7 => ?_
            have hfm : ∀ y, blk m.a y → M y = none := fun y ⟨q, hq, e⟩ => e ▸ (hmm.block hq).1
            have hrow7 := hW1.row.keep hk7 hfm fun q hq ⟨q', hq', e⟩ => hW1.row.ne hmm (by decide) hq hq' e.symm
            have hN7' : NewSl M T.int 1 a7 (m.more.length + 1) c7 ((m.more ++ [x.c]).map intV) M7 := by
              have := hN7.mono (Mem.le_minus hW1.row.le hfm)
              simpa using this
            obtain ⟨b2, cs2, ha2, hcells, hle2, hst⟩ := hrow7.fstore encM_len hlast (p := 3) (by decide)
            obtain ⟨hN8, hk8⟩ := hst ⟨m.o, m.e, m.up, a7, c7, m.more ++ [x.c]⟩ (.slice a7 (m.more.length + 1) c7) (by simp)
            rw [set_last, hlen1] at hN8
            repeat' ((conv => whnf); first | refine ⟨?_, True.intro⟩ | refine brn_t rfl ?_ | refine brn_f rfl ?_ | refine ob rfl ?_ | refine ob (by decide) ?_ | refine grow_same (Mem.le_refl _) ?_ | refine ob (Mem.le_refl _) ?_ | refine ⟨_, Mem.le_refl _, ?_⟩ | fail)
            refine ob (by dsimp only; omega) ?_
            (conv => whnf); refine atp ha2 ?_
            repeat' ((conv => whnf); first | refine ⟨?_, True.intro⟩ | refine brn_t rfl ?_ | refine brn_f rfl ?_ | refine ob rfl ?_ | refine ob (by decide) ?_ | refine grow_same (Mem.le_refl _) ?_ | refine ob (Mem.le_refl _) ?_ | refine ⟨_, Mem.le_refl _, ?_⟩ | fail)
            refine on hcells ?_
            (conv => whnf); refine ob hle2 ?_
            obtain ⟨M8, hM8⟩ : ∃ M8, M8 = M7.setCells b2 T.api_Mark (splice cs2 (0 + u.length * 4 + 3) [.slice a7 (m.more.length + 1) c7]) := ⟨_, rfl⟩
            rw [← hM8] at hN8 hk8
            (conv => whnf)
            erw [← hM8]
            repeat' ((conv => whnf); first | refine ⟨?_, True.intro⟩ | refine brn_t rfl ?_ | refine brn_f rfl ?_ | refine ob rfl ?_ | refine ob (by decide) ?_ | refine grow_same (Mem.le_refl _) ?_ | refine ob (Mem.le_refl _) ?_ | refine ⟨_, Mem.le_refl _, ?_⟩ | fail)
            refine ob (inR_i64 (by first | omega | (dsimp only; omega))) ?_
            (conv => whnf)
            have hap := (List.pairwise_append.1 hW1.apart).2.2
            have hl7 : (m.more ++ [x.c]).length = m.more.length + 1 := by simp
            refine ⟨⟨i + 1, M8, aW, cW, u ++ [⟨m.o, m.e, m.up, a7, c7, m.more ++ [x.c]⟩]⟩, ⟨by omega, hW1.turn hN8 ?_ (fun z hz q o hq ho => hk8 _ _ (hneb z (by simp [hz]) q hq) (hk7 _ _ (fun hb => hap z hz m (by simp) _ ⟨q, hq, rfl⟩ hb) ho)) (fun z hz => ?_), hval _ ?_, by simp; omega, fun z hz => ?_⟩, by dsimp only; omega, ?_⟩
            · rw [hl7]
              exact hN7'.keep hk8 hfr fun q hq ⟨q', hq', e⟩ => hrow7.ne hN7' (by decide) hq' hq e
            · obtain ⟨q, hq, e⟩ := hz
              have := (hN7.block hq).1
              rw [e] at this
              exact Mem.minus_none this
            · exact (if_neg (c := m.mk'.more = [] ∧ x.c = m.mk'.up + 1) hc2).symm
            · rcases List.mem_append.1 hz with h9 | h9
              · have := hfewu z h9; omega
              · simp only [List.mem_singleton] at h9
                subst h9
                dsimp only; rw [hl7]; omega
            · simp only [List.length_append, List.length_cons, List.length_nil]
              exact ⟨(by repeat' first | exact True.intro | refine ⟨rfl, ?_⟩), (by repeat' first | exact True.intro | refine ⟨rfl, ?_⟩), Mem.le_refl _, rfl⟩
        · have e2 : m0.e = x.e := by simpa using g3
          have hval0 : ∀ m' : MkC, m'.mk' = bump m0.mk' x.c → (u0 ++ [m']).map MkC.mk' = marksK (L.take (i + 1)) := fun m' e => by
            rw [htk, ← hfold]
            unfold addMk
            rw [hget]
            refine Eq.trans ?_ (if_pos ⟨e1, e2⟩).symm
            rw [hum]; simp [e]
          (conv => whnf)
          erw [show ((l.length : Int) - 1) = (u0.length : Int) from by omega]
          clear hnew hl0 hget hidx hcc0 hlast0 hab0 g1 g2 g3
          obtain ⟨u, rfl⟩ : ∃ u, u = u0 := ⟨_, rfl⟩
          obtain ⟨m, rfl⟩ : ∃ m, m = m0 := ⟨_, rfl⟩
          subst hum
          obtain ⟨aW, rfl⟩ : ∃ aW, aW = a4 := ⟨_, rfl⟩
          obtain ⟨cW, rfl⟩ : ∃ cW, cW = c4 := ⟨_, rfl⟩
          obtain ⟨MW, rfl⟩ : ∃ MW, MW = M4 := ⟨_, rfl⟩
          have hW1 := hW
          have hval := hval0
          have hm5 := hfew m (by simp)
          have hmo : m.o = x.o ∧ m.e = x.e ∧ 0 ≤ m.up ∧ m.up ≤ i ∧ m.more.length ≤ i := ⟨e1, e2, hm5.1.1, hm5.1.2, hm5.2⟩
          have hfewu : ∀ m ∈ u, (0 ≤ m.up ∧ m.up ≤ i) ∧ m.more.length ≤ i := fun z hz => hfew z (by simp [hz])
          have hlu : u.length ≤ i := by omega
          have hlast : (u ++ [m])[u.length]? = some m := by simp
          obtain ⟨bb, oo, hab, hcc⟩ := hW1.row.src.fcells encM_len (by decide) hlast
          have hlen1 : (u ++ [m]).length = u.length + 1 := by simp
          have hmm := hW1.more m (by simp)
          have hfr : ∀ y, blk aW y → M y = none := fun y ⟨q, hq, e⟩ => e ▸ (hW1.row.block hq).1
          have hneb : ∀ z ∈ u ++ [m], ∀ q, z.a = some q → ¬ blk aW q.block := fun z hz q hq ⟨q', hq', e⟩ => hW1.row.ne (hW1.more z hz) (by decide) hq' hq e
          (conv => whnf)
          refine ob (by dsimp only; omega) ?_
          (conv => whnf); refine atp hab ?_
          (conv => whnf); refine on (hcc 3 _ rfl) ?_
          (conv => whnf); refine brn (fun k1 => ?_) (fun k1 => ?_)
          · have hm0 : m.more = [] := List.eq_nil_of_length_eq_zero (by have := of_decide_eq_true k1; omega)
            repeat' ((conv => whnf); first | refine ⟨?_, True.intro⟩ | refine brn_t rfl ?_ | refine brn_f rfl ?_ | refine ob rfl ?_ | refine ob (by decide) ?_ | refine grow_same (Mem.le_refl _) ?_ | refine ob (Mem.le_refl _) ?_ | refine ⟨_, Mem.le_refl _, ?_⟩ | fail)
            refine ob (by dsimp only; omega) ?_
            (conv => whnf); refine atp hab ?_
            (conv => whnf); refine on (hcc 2 _ rfl) ?_
            (conv => whnf); refine ob (inR_i64 (by omega)) ?_
            repeat' ((conv => whnf); first | refine ⟨?_, True.intro⟩ | refine brn_t rfl ?_ | refine brn_f rfl ?_ | refine ob rfl ?_ | refine ob (by decide) ?_ | refine grow_same (Mem.le_refl _) ?_ | refine ob (Mem.le_refl _) ?_ | refine ⟨_, Mem.le_refl _, ?_⟩ | fail)
            refine brn (fun k2 => ?_) (fun k2 => ?_)
            · have hc2 : x.c = m.up + 1 := of_decide_eq_true k2
              obtain ⟨b2, cs2, ha2, hcells, hle2, hst⟩ := hW1.row.fstore encM_len hlast (p := 2) (by decide)
              obtain ⟨hN7, hk7⟩ := hst ⟨m.o, m.e, m.up + 1, m.a, m.c, m.more⟩ (.int .i64 (m.up + 1)) rfl
              rw [set_last, hlen1] at hN7
              (conv => whnf)
              refine ob (by dsimp only; omega) ?_
              (conv => whnf); refine atp hab ?_
              (conv => whnf); refine on (hcc 2 _ rfl) ?_
              (conv => whnf); refine ob (inR_i64 (by omega)) ?_
              (conv => whnf); refine ob (by dsimp only; omega) ?_
              (conv => whnf); refine atp ha2 ?_
              (conv => whnf); refine on hcells ?_
              (conv => whnf); refine ob hle2 ?_
              obtain ⟨M7, hM7⟩ : ∃ M7, M7 = MW.setCells b2 T.api_Mark (splice cs2 (0 + u.length * 4 + 2) [.int .i64 (m.up + 1)]) := ⟨_, rfl⟩
              rw [← hM7] at hN7 hk7
              (conv => whnf)
              erw [← hM7]
              (conv => whnf)
              refine ob (inR_i64 (by first | omega | (dsimp only; omega))) ?_
              (conv => whnf)
              refine ⟨⟨i + 1, M7, aW, cW, u ++ [⟨m.o, m.e, m.up + 1, m.a, m.c, m.more⟩]⟩, ⟨by omega, hW1.turn hN7 (hmm.keep hk7 hfr (hneb m (by simp))) (fun z hz q o hq ho => hk7 _ _ (hneb z (by simp [hz]) q hq) ho) (fun z hz => .inl hz), hval _ (by simp [MkC.mk', bump, hm0, hc2]), by simp; omega, fun z hz => ?_⟩, by dsimp only; omega, ?_⟩
              · rcases List.mem_append.1 hz with h9 | h9
                · have := hfewu z h9; omega
                · simp only [List.mem_singleton] at h9
                  subst h9
                  dsimp only; omega
              · simp only [List.length_append, List.length_cons, List.length_nil]
                exact ⟨(by repeat' first | exact True.intro | refine ⟨rfl, ?_⟩), (by repeat' first | exact True.intro | refine ⟨rfl, ?_⟩), Mem.le_refl _, rfl⟩
            · have hc2 : ¬ (m.more = [] ∧ x.c = m.up + 1) := fun e => of_decide_eq_false k2 e.2
              repeat' ((conv => whnf); first | refine ⟨?_, True.intro⟩ | refine brn_t rfl ?_ | refine brn_f rfl ?_ | refine ob rfl ?_ | refine ob (by decide) ?_ | refine grow_same (Mem.le_refl _) ?_ | refine ob (Mem.le_refl _) ?_ | refine ⟨_, Mem.le_refl _, ?_⟩ | fail)
              refine ob (by dsimp only; omega) ?_
              (conv => whnf); refine atp hab ?_
              (conv => whnf); refine on (hcc 3 _ rfl) ?_
              repeat' ((conv => whnf); first | refine ⟨?_, True.intro⟩ | refine brn_t rfl ?_ | refine brn_f rfl ?_ | refine ob rfl ?_ | refine ob (by decide) ?_ | refine grow_same (Mem.le_refl _) ?_ | refine ob (Mem.le_refl _) ?_ | refine ⟨_, Mem.le_refl _, ?_⟩ | fail)
              refine appK (MW.minus (blk m.a)) _ (hmm.rebase2 (Mem.le_refl _) (fun _ h => h)) (by omega) (by simp [maxLen] <;> omega) (by simp [Value.oneCell']) fun a7 c7 M7 hN7 hk7 => ?_
              have hfm : ∀ y, blk m.a y → M y = none := fun y ⟨q, hq, e⟩ => e ▸ (hmm.block hq).1
              have hrow7 := hW1.row.keep hk7 hfm fun q hq ⟨q', hq', e⟩ => hW1.row.ne hmm (by decide) hq hq' e.symm
              have hN7' : NewSl M T.int 1 a7 (m.more.length + 1) c7 ((m.more ++ [x.c]).map intV) M7 := by
                have := hN7.mono (Mem.le_minus hW1.row.le hfm)
                simpa using this
              obtain ⟨b2, cs2, ha2, hcells, hle2, hst⟩ := hrow7.fstore encM_len hlast (p := 3) (by decide)
              obtain ⟨hN8, hk8⟩ := hst ⟨m.o, m.e, m.up, a7, c7, m.more ++ [x.c]⟩ (.slice a7 (m.more.length + 1) c7) (by simp)
              rw [set_last, hlen1] at hN8
              repeat' ((conv => whnf); first | refine ⟨?_, True.intro⟩ | refine brn_t rfl ?_ | refine brn_f rfl ?_ | refine ob rfl ?_ | refine ob (by decide) ?_ | refine grow_same (Mem.le_refl _) ?_ | refine ob (Mem.le_refl _) ?_ | refine ⟨_, Mem.le_refl _, ?_⟩ | fail)
              refine ob (by dsimp only; omega) ?_
              (conv => whnf); refine atp ha2 ?_
              repeat' ((conv => whnf); first | refine ⟨?_, True.intro⟩ | refine brn_t rfl ?_ | refine brn_f rfl ?_ | refine ob rfl ?_ | refine ob (by decide) ?_ | refine grow_same (Mem.le_refl _) ?_ | refine ob (Mem.le_refl _) ?_ | refine ⟨_, Mem.le_refl _, ?_⟩ | fail)
              refine on hcells ?_
              (conv => whnf); refine ob hle2 ?_
              obtain ⟨M8, hM8⟩ : ∃ M8, M8 = M7.setCells b2 T.api_Mark (splice cs2 (0 + u.length * 4 + 3) [.slice a7 (m.more.length + 1) c7]) := ⟨_, rfl⟩
              rw [← hM8] at hN8 hk8
              (conv => whnf)
              erw [← hM8]
              repeat' ((conv => whnf); first | refine ⟨?_, True.intro⟩ | refine brn_t rfl ?_ | refine brn_f rfl ?_ | refine ob rfl ?_ | refine ob (by decide) ?_ | refine grow_same (Mem.le_refl _) ?_ | refine ob (Mem.le_refl _) ?_ | refine ⟨_, Mem.le_refl _, ?_⟩ | fail)
              refine ob (inR_i64 (by first | omega | (dsimp only; omega))) ?_
              (conv => whnf)
              have hap := (List.pairwise_append.1 hW1.apart).2.2
              have hl7 : (m.more ++ [x.c]).length = m.more.length + 1 := by simp
              refine ⟨⟨i + 1, M8, aW, cW, u ++ [⟨m.o, m.e, m.up, a7, c7, m.more ++ [x.c]⟩]⟩, ⟨by omega, hW1.turn hN8 ?_ (fun z hz q o hq ho => hk8 _ _ (hneb z (by simp [hz]) q hq) (hk7 _ _ (fun hb => hap z hz m (by simp) _ ⟨q, hq, rfl⟩ hb) ho)) (fun z hz => ?_), hval _ ?_, by simp; omega, fun z hz => ?_⟩, by dsimp only; omega, ?_⟩
              · rw [hl7]
                exact hN7'.keep hk8 hfr fun q hq ⟨q', hq', e⟩ => hrow7.ne hN7' (by decide) hq' hq e
              · obtain ⟨q, hq, e⟩ := hz
                have := (hN7.block hq).1
                rw [e] at this
                exact Mem.minus_none this
              · exact (if_neg (c := m.mk'.more = [] ∧ x.c = m.mk'.up + 1) hc2).symm
              · rcases List.mem_append.1 hz with h9 | h9
                · have := hfewu z h9; omega
                · simp only [List.mem_singleton] at h9
                  subst h9
                  dsimp only; rw [hl7]; omega
              · simp only [List.length_append, List.length_cons, List.length_nil]
                exact ⟨(by repeat' first | exact True.intro | refine ⟨rfl, ?_⟩), (by repeat' first | exact True.intro | refine ⟨rfl, ?_⟩), Mem.le_refl _, rfl⟩
          · have hc2 : ¬ (m.more = [] ∧ x.c = m.up + 1) := fun e => by rw [e.1] at k1; simp at k1
            repeat' ((conv => whnf); first | refine ⟨?_, True.intro⟩ | refine brn_t rfl ?_ | refine brn_f rfl ?_ | refine ob rfl ?_ | refine ob (by decide) ?_ | refine grow_same (Mem.le_refl _) ?_ | refine ob (Mem.le_refl _) ?_ | refine ⟨_, Mem.le_refl _, ?_⟩ | fail)
            repeat' ((conv => whnf); first | refine ⟨?_, True.intro⟩ | refine brn_t rfl ?_ | refine brn_f rfl ?_ | refine ob rfl ?_ | refine ob (by decide) ?_ | refine grow_same (Mem.le_refl _) ?_ | refine ob (Mem.le_refl _) ?_ | refine ⟨_, Mem.le_refl _, ?_⟩ | fail)
            refine ob (by dsimp only; omega) ?_
            (conv => whnf); refine atp hab ?_
            (conv => whnf); refine on (hcc 3 _ rfl) ?_
            repeat' ((conv => whnf); first | refine ⟨?_, True.intro⟩ | refine brn_t rfl ?_ | refine brn_f rfl ?_ | refine ob rfl ?_ | refine ob (by decide) ?_ | refine grow_same (Mem.le_refl _) ?_ | refine ob (Mem.le_refl _) ?_ | refine ⟨_, Mem.le_refl _, ?_⟩ | fail)
            refine appK (MW.minus (blk m.a)) _ (hmm.rebase2 (Mem.le_refl _) (fun _ h => h)) (by omega) (by simp [maxLen] <;> omega) (by simp [Value.oneCell']) fun a7 c7 M7 hN7 hk7 => ?_
            have hfm : ∀ y, blk m.a y → M y = none := fun y ⟨q, hq, e⟩ => e ▸ (hmm.block hq).1
            have hrow7 := hW1.row.keep hk7 hfm fun q hq ⟨q', hq', e⟩ => hW1.row.ne hmm (by decide) hq hq' e.symm
            have hN7' : NewSl M T.int 1 a7 (m.more.length + 1) c7 ((m.more ++ [x.c]).map intV) M7 := by
              have := hN7.mono (Mem.le_minus hW1.row.le hfm)
              simpa using this
            obtain ⟨b2, cs2, ha2, hcells, hle2, hst⟩ := hrow7.fstore encM_len hlast (p := 3) (by decide)
            obtain ⟨hN8, hk8⟩ := hst ⟨m.o, m.e, m.up, a7, c7, m.more ++ [x.c]⟩ (.slice a7 (m.more.length + 1) c7) (by simp)
            rw [set_last, hlen1] at hN8
            repeat' ((conv => whnf); first | refine ⟨?_, True.intro⟩ | refine brn_t rfl ?_ | refine brn_f rfl ?_ | refine ob rfl ?_ | refine ob (by decide) ?_ | refine grow_same (Mem.le_refl _) ?_ | refine ob (Mem.le_refl _) ?_ | refine ⟨_, Mem.le_refl _, ?_⟩ | fail)
            refine ob (by dsimp only; omega) ?_
            (conv => whnf); refine atp ha2 ?_
            repeat' ((conv => whnf); first | refine ⟨?_, True.intro⟩ | refine brn_t rfl ?_ | refine brn_f rfl ?_ | refine ob rfl ?_ | refine ob (by decide) ?_ | refine grow_same (Mem.le_refl _) ?_ | refine ob (Mem.le_refl _) ?_ | refine ⟨_, Mem.le_refl _, ?_⟩ | fail)
            refine on hcells ?_
            (conv => whnf); refine ob hle2 ?_
            obtain ⟨M8, hM8⟩ : ∃ M8, M8 = M7.setCells b2 T.api_Mark (splice cs2 (0 + u.length * 4 + 3) [.slice a7 (m.more.length + 1) c7]) := ⟨_, rfl⟩
            rw [← hM8] at hN8 hk8
            (conv => whnf)
            erw [← hM8]
            repeat' ((conv => whnf); first | refine ⟨?_, True.intro⟩ | refine brn_t rfl ?_ | refine brn_f rfl ?_ | refine ob rfl ?_ | refine ob (by decide) ?_ | refine grow_same (Mem.le_refl _) ?_ | refine ob (Mem.le_refl _) ?_ | refine ⟨_, Mem.le_refl _, ?_⟩ | fail)
            refine ob (inR_i64 (by first | omega | (dsimp only; omega))) ?_
            (conv => whnf)
            have hap := (List.pairwise_append.1 hW1.apart).2.2
            have hl7 : (m.more ++ [x.c]).length = m.more.length + 1 := by simp
            refine ⟨⟨i + 1, M8, aW, cW, u ++ [⟨m.o, m.e, m.up, a7, c7, m.more ++ [x.c]⟩]⟩, ⟨by omega, hW1.turn hN8 ?_ (fun z hz q o hq ho => hk8 _ _ (hneb z (by simp [hz]) q hq) (hk7 _ _ (fun hb => hap z hz m (by simp) _ ⟨q, hq, rfl⟩ hb) ho)) (fun z hz => ?_), hval _ ?_, by simp; omega, fun z hz => ?_⟩, by dsimp only; omega, ?_⟩
            · rw [hl7]
              exact hN7'.keep hk8 hfr fun q hq ⟨q', hq', e⟩ => hrow7.ne hN7' (by decide) hq' hq e
            · obtain ⟨q, hq, e⟩ := hz
              have := (hN7.block hq).1
              rw [e] at this
              exact Mem.minus_none this
            · exact (if_neg (c := m.mk'.more = [] ∧ x.c = m.mk'.up + 1) hc2).symm
            · rcases List.mem_append.1 hz with h9 | h9
              · have := hfewu z h9; omega
              · simp only [List.mem_singleton] at h9
                subst h9
                dsimp only; rw [hl7]; omega
            · simp only [List.length_append, List.length_cons, List.length_nil]
              exact ⟨(by repeat' first | exact True.intro | refine ⟨rfl, ?_⟩), (by repeat' first | exact True.intro | refine ⟨rfl, ?_⟩), Mem.le_refl _, rfl⟩
  have hge : i = n := by have := of_decide_eq_false g; dsimp only at this; omega
  subst hge
  rw [List.take_of_length_le (by omega)] at hfold
  repeat' ((conv => whnf); first | refine ⟨?_, True.intro⟩ | refine brn_t rfl ?_ | refine brn_f rfl ?_ | refine ob rfl ?_ | refine ob (by decide) ?_ | refine grow_same (Mem.le_refl _) ?_ | refine ob (Mem.le_refl _) ?_ | refine ⟨_, Mem.le_refl _, ?_⟩ | fail)
  exact ⟨a4, c4, l, rfl, hW, hfold, hll, hfew⟩
end Go.Proofs.YtlocjjponfbhmaaGreat

