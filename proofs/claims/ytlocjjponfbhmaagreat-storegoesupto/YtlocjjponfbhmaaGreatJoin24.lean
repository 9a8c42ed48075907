/- Parts of rows. -/
import Derived.Test.YtlocjjponfbhmaaGreatJoin16
import Derived.Test.YtlocjjponfbhmaaGreatJoin23
namespace Go.Vm
theorem Mem.row_part {M : Mem} {b o k : Nat} {vs : List Value} (h : M.row b o k = some vs) {p n : Nat} (hp : p + n ≤ k) : M.row b (o + p) n = some ((vs.drop p).take n) := by
  unfold Mem.row at h ⊢
  split at h
  · rename_i c e fz hc
    split at h
    · rename_i hle
      simp only [Option.some.injEq] at h
      subst h
      rw [if_pos (by omega)]
      congr 1
      rw [List.drop_take, List.take_take, List.drop_drop]
      congr 1
      omega
    · cases h
  · cases h
theorem SrcOk.fparts {α : Type} {enc : α → List Value} {s : Nat} (hlen : ∀ x, (enc x).length = s) {M : Mem} {a : Option Addr} {n : Nat} {l : List α} (h : SrcOk M s a n (l.flatMap enc)) (hs : 0 < s) {j : Nat} {x : α} (hx : l[j]? = some x) :
    ∃ b o, a = some ⟨b, o, Option.none⟩ ∧ ∀ p m, p + m ≤ s → M.row b (o + j * s + p) m = some (((enc x).drop p).take m) := by
  obtain ⟨b, o, ha, hr⟩ := h.fall hlen hs hx
  exact ⟨b, o, ha, fun p m hp => Mem.row_part hr hp⟩
theorem flatten_take {α : Type} {s : Nat} : ∀ {css : List (List α)} (_ : ∀ cs ∈ css, cs.length = s) (k : Nat), (css.take k).flatten = css.flatten.take (k * s)
  | [], _, k => by simp
  | c :: r, h, 0 => by simp
  | c :: r, h, k + 1 => by
    have hc : c.length = s := h c (by simp)
    rw [List.take_succ_cons, List.flatten_cons, List.flatten_cons, flatten_take (fun cs hcs => h cs (List.mem_cons_of_mem _ hcs)) k, Nat.succ_mul, Nat.add_comm, ← hc, List.take_length_add_append]
theorem Elems.take {α : Type} {M : Mem} {s : Nat} {a : Option Addr} {n c : Nat} {R : List Value → α → Prop} {l : List α} (h : Elems M s a n R l) {k : Nat} (hk : k ≤ n) (hc : n ≤ c) (hs : 0 < s) : Elems M s (subA a 0 c s) k R (l.take k) := by
  obtain ⟨css, h1, h2, h3, h4, h5⟩ := h
  refine ⟨css.take k, ?_, by simp; omega, by simp; omega, fun cs hcs => h4 cs (List.mem_of_mem_take hcs), fun i cs x hi hx => ?_⟩
  · have h6 := h1.sub (lo := 0) (hi := k) (by omega) hk hc hs
    rw [Nat.zero_mul, List.drop_zero, Nat.sub_zero, ← flatten_take h4] at h6
    exact h6
  · have hik : i < k := by
      have := (List.getElem?_eq_some_iff.1 hi).1
      simp at this; omega
    rw [List.getElem?_take_of_lt hik] at hi hx
    exact h5 i cs x hi hx
/-- one whole struct is written -/
theorem Wr.fset {α : Type} {enc : α → List Value} {s : Nat} (hk : ∀ x, (enc x).length = s) {M : Mem} {E : TypeId} {a : Option Addr} {n c : Nat} {l : List α} (h : Wr M E s a n c (l.flatMap enc)) (hs : 0 < s) {j : Nat} (hj : j < n) :
    ∃ b cs, a = some ⟨b, 0, Option.none⟩ ∧ M.cells b = some (E, cs) ∧ 0 + j * s + s ≤ cs.length ∧ ∀ x', Wr (M.setCells b E (splice cs (0 + j * s) (enc x'))) E s a n c ((l.set j x').flatMap enc) ∧ Mem.keep (blk a) M (M.setCells b E (splice cs (0 + j * s) (enc x'))) := by
  have hl := h.len
  rw [fm_len hk] at hl
  have hln : l.length = n := Nat.eq_of_mul_eq_mul_right hs hl
  obtain ⟨h1, h2, ⟨ha, hc⟩ | ⟨b, cs, ha, hh, hcl, ht⟩⟩ := h
  · omega
  · have hle : n * s ≤ c * s := Nat.mul_le_mul_right _ h2
    have hjn : (j + 1) * s ≤ n * s := Nat.mul_le_mul_right _ (by omega)
    rw [Nat.succ_mul] at hjn
    refine ⟨b, cs, ha, hh.cells, by omega, fun x' => ⟨⟨?_, h2, .inr ⟨b, _, ha, Mem.has_setCells, ?_, ?_⟩⟩, ?_⟩⟩
    · rw [fm_len hk]; simp [hln]
    · unfold splice
      simp only [List.length_append, List.length_take, List.length_drop, hk]
      omega
    · rw [Nat.zero_add]
      have hjl : j < l.length := by omega
      have e1 : l.flatMap enc = (l.take j).flatMap enc ++ (enc l[j] ++ (l.drop (j + 1)).flatMap enc) := by
        conv => lhs; rw [← List.take_append_drop j l, List.drop_eq_getElem_cons hjl]
        rw [List.flatMap_append, List.flatMap_cons]
      have e2 : (l.set j x').flatMap enc = (l.take j).flatMap enc ++ (enc x' ++ (l.drop (j + 1)).flatMap enc) := by
        rw [List.set_eq_take_append_cons_drop, if_pos hjl, List.flatMap_append, List.flatMap_cons]
      have hu : ((l.take j).flatMap enc).length = j * s := by rw [fm_len hk, List.length_take, Nat.min_eq_left (by omega)]
      have hcs : cs = (l.take j).flatMap enc ++ (enc l[j] ++ ((l.drop (j + 1)).flatMap enc ++ cs.drop (n * s))) := by
        conv => lhs; rw [← List.take_append_drop (n * s) cs, ht, e1]
        simp
      generalize cs.drop (n * s) = R at hcs
      have hw : ((l.drop (j + 1)).flatMap enc).length = n * s - (j * s + s) := by rw [fm_len hk]; simp [hln]; rw [Nat.sub_mul, Nat.succ_mul]
      generalize (l.take j).flatMap enc = A at *
      generalize (l.drop (j + 1)).flatMap enc = B at *
      rw [e2, hcs]
      unfold splice
      rw [hk, List.take_left' hu, ← List.drop_drop, List.drop_left' hu, List.drop_left' (hk _)]
      rw [List.append_assoc, List.take_append, List.take_of_length_le (by omega), List.take_append, List.take_of_length_le (by rw [hk]; omega), List.take_append, List.take_of_length_le (by rw [hk]; omega), hu, hk, hw]
      simp
      exact .inl (by omega)
    · intro y o hy hM
      have hne : y ≠ b := fun e => hy ⟨_, ha, e.symm⟩
      unfold Mem.setCells
      rw [Mem.upd_ne _ _ hne]; exact hM
end Go.Vm

/- The document's store: Form, Bytes, Has, Last, use, without. -/
namespace Go.Proofs.YtlocjjponfbhmaaGreat
open Go Go.Vm
attribute [local irreducible] Brn Ob Grow CallsM inR LoopVC Mem.row Mem.cells Mem.setCells Mem.upd Own AppVC SrcVC StrVC NextVC New SrcOk subA NewSl Mem.textAt Mem.mapAt Mem.iterAt entryOf kfind Wr NewEls Elems
set_option maxRecDepth 10000
variable {M : Mem}
/-- a message as the document has it: where its bytes lie -/
structure MX where
  id : IdT
  a : Option Addr
  c : Nat
  p : List UInt8
@[reducible] def MX.msg (x : MX) : MsgD := ⟨x.id, x.p⟩
@[reducible] def encX (x : MX) : List Value := [.int .i64 x.id.o, .int .i64 x.id.d, .int .i64 x.id.e, .int .i64 x.id.c, .slice x.a x.p.length x.c]
theorem encX_one (ms : List MX) : ∀ u ∈ ms.flatMap encX, u.oneCell' = true := by
  intro u hu
  obtain ⟨x, _, hx⟩ := List.mem_flatMap.1 hu
  simp only [encX, List.mem_cons, List.not_mem_nil, or_false] at hx
  rcases hx with rfl | rfl | rfl | rfl | rfl <;> rfl
theorem encX_len (x : MX) : (encX x).length = 5 := rfl
@[reducible] def encN (n : Int × Int) : List Value := [.int .i64 n.1, .int .i64 n.2]
theorem encN_len (n : Int × Int) : (encN n).length = 2 := rfl
theorem zeroR_ok (i : IdT) : CallsM Tryz.prog F.ref15_zero [idA i] M fun v M' => v = .bool (decide (zeroId i)) ∧ M = M' := by
  refine fo_ref15_zero (by simp) ?_
  (conv => whnf)
  repeat' ((conv => whnf); refine brn (fun h => ?_) (fun h => ?_))
  all_goals (conv => whnf)
  all_goals (refine ⟨?_, rfl⟩; unfold zeroId; simp_all)
theorem formR_ok (k : Int) (i : IdT) (a : Option Addr) (n c : Nat) : CallsM Tryz.prog F.ref15_Form [evV k i a n c] M fun v M' => v = .int .i64 (formD k i n) ∧ M = M' := by
  refine fo_ref15_Form (by simp) ?_
  (conv => whnf); refine brn (fun h => ?_) (fun h => ?_)
  · replace h := of_decide_eq_true h
    · repeat' ((conv => whnf); first | refine ⟨?_, True.intro⟩ | refine brn_t rfl ?_ | refine brn_f rfl ?_ | refine ob rfl ?_ | refine ob (by decide) ?_ | refine grow_same (Mem.le_refl _) ?_ | refine ob (Mem.le_refl _) ?_ | refine ⟨_, Mem.le_refl _, ?_⟩ | fail)
      exact ⟨by unfold formD; rw [if_neg (by omega), if_neg (by omega), if_neg (by omega)], rfl⟩
  replace h := of_decide_eq_false h
  (conv => whnf); refine brn (fun h1 => ?_) (fun h1 => ?_)
  · replace h1 := of_decide_eq_true h1
    · repeat' ((conv => whnf); first | refine ⟨?_, True.intro⟩ | refine brn_t rfl ?_ | refine brn_f rfl ?_ | refine ob rfl ?_ | refine ob (by decide) ?_ | refine grow_same (Mem.le_refl _) ?_ | refine ob (Mem.le_refl _) ?_ | refine ⟨_, Mem.le_refl _, ?_⟩ | fail)
      exact ⟨by unfold formD; rw [if_neg (by omega), if_neg (by omega), if_neg (by omega)], rfl⟩
  replace h1 := of_decide_eq_false h1
  (conv => whnf); refine brn (fun h2 => ?_) (fun h2 => ?_)
  · have h' : k = 2 := of_decide_eq_true h2
    subst h'
    repeat' ((conv => whnf); first | refine ⟨?_, True.intro⟩ | refine brn_t rfl ?_ | refine brn_f rfl ?_ | refine ob rfl ?_ | refine ob (by decide) ?_ | refine grow_same (Mem.le_refl _) ?_ | refine ob (Mem.le_refl _) ?_ | refine ⟨_, Mem.le_refl _, ?_⟩ | fail)
    refine (checkMsgR_ok _ _ _ _ _ _ _ _).mono ?_
    rintro v _ ⟨rfl, rfl⟩
    repeat' ((conv => whnf); first | refine ⟨?_, True.intro⟩ | refine brn_t rfl ?_ | refine brn_f rfl ?_ | refine ob rfl ?_ | refine ob (by decide) ?_ | refine grow_same (Mem.le_refl _) ?_ | refine ob (Mem.le_refl _) ?_ | refine ⟨_, Mem.le_refl _, ?_⟩ | fail)
    exact ⟨rfl, rfl⟩
  have e2 : ¬ k = 2 := of_decide_eq_false h2
  (conv => whnf); refine brn (fun h3 => ?_) (fun h3 => ?_)
  · have h' : k = 1 := of_decide_eq_true h3
    subst h'
    repeat' ((conv => whnf); first | refine ⟨?_, True.intro⟩ | refine brn_t rfl ?_ | refine brn_f rfl ?_ | refine ob rfl ?_ | refine ob (by decide) ?_ | refine grow_same (Mem.le_refl _) ?_ | refine ob (Mem.le_refl _) ?_ | refine ⟨_, Mem.le_refl _, ?_⟩ | fail)
    refine (zeroR_ok i).mono ?_
    rintro v _ ⟨rfl, rfl⟩
    repeat' ((conv => whnf); first | refine ⟨?_, True.intro⟩ | refine brn_t rfl ?_ | refine brn_f rfl ?_ | refine ob rfl ?_ | refine ob (by decide) ?_ | refine grow_same (Mem.le_refl _) ?_ | refine ob (Mem.le_refl _) ?_ | refine ⟨_, Mem.le_refl _, ?_⟩ | fail)
    refine brn (fun g => ?_) (fun g => ?_)
    · have g1 : ¬ zeroId i := by simpa using g
      repeat' ((conv => whnf); first | refine ⟨?_, True.intro⟩ | refine brn_t rfl ?_ | refine brn_f rfl ?_ | refine ob rfl ?_ | refine ob (by decide) ?_ | refine grow_same (Mem.le_refl _) ?_ | refine ob (Mem.le_refl _) ?_ | refine ⟨_, Mem.le_refl _, ?_⟩ | fail)
      exact ⟨by unfold formD; rw [if_pos rfl, if_pos (.inl g1)], rfl⟩
    have g1 : zeroId i := by simpa using g
    (conv => whnf); refine brn (fun g2 => ?_) (fun g2 => ?_)
    · have g3 : 0 < n := by have := of_decide_eq_true g2; omega
      repeat' ((conv => whnf); first | refine ⟨?_, True.intro⟩ | refine brn_t rfl ?_ | refine brn_f rfl ?_ | refine ob rfl ?_ | refine ob (by decide) ?_ | refine grow_same (Mem.le_refl _) ?_ | refine ob (Mem.le_refl _) ?_ | refine ⟨_, Mem.le_refl _, ?_⟩ | fail)
      exact ⟨by unfold formD; rw [if_pos rfl, if_pos (.inr g3)], rfl⟩
    · have g3 : ¬ 0 < n := by have := of_decide_eq_false g2; omega
      repeat' ((conv => whnf); first | refine ⟨?_, True.intro⟩ | refine brn_t rfl ?_ | refine brn_f rfl ?_ | refine ob rfl ?_ | refine ob (by decide) ?_ | refine grow_same (Mem.le_refl _) ?_ | refine ob (Mem.le_refl _) ?_ | refine ⟨_, Mem.le_refl _, ?_⟩ | fail)
      exact ⟨by unfold formD; rw [if_pos rfl, if_neg (by simp [g1, g3])], rfl⟩
  have e1 : ¬ k = 1 := of_decide_eq_false h3
  repeat' ((conv => whnf); first | refine ⟨?_, True.intro⟩ | refine brn_t rfl ?_ | refine brn_f rfl ?_ | refine ob rfl ?_ | refine ob (by decide) ?_ | refine grow_same (Mem.le_refl _) ?_ | refine ob (Mem.le_refl _) ?_ | refine ⟨_, Mem.le_refl _, ?_⟩ | fail)
  refine (checkR_ok _ _ _ _ _).mono ?_
  rintro v _ ⟨rfl, rfl⟩
  (conv => whnf); refine brn (fun g => ?_) (fun g => ?_)
  · have g' : ¬ idErrD i = 0 := by simpa using g
    repeat' ((conv => whnf); first | refine ⟨?_, True.intro⟩ | refine brn_t rfl ?_ | refine brn_f rfl ?_ | refine ob rfl ?_ | refine ob (by decide) ?_ | refine grow_same (Mem.le_refl _) ?_ | refine ob (Mem.le_refl _) ?_ | refine ⟨_, Mem.le_refl _, ?_⟩ | fail)
    refine (checkR_ok _ _ _ _ _).mono ?_
    rintro v _ ⟨rfl, rfl⟩
    repeat' ((conv => whnf); first | refine ⟨?_, True.intro⟩ | refine brn_t rfl ?_ | refine brn_f rfl ?_ | refine ob rfl ?_ | refine ob (by decide) ?_ | refine grow_same (Mem.le_refl _) ?_ | refine ob (Mem.le_refl _) ?_ | refine ⟨_, Mem.le_refl _, ?_⟩ | fail)
    exact ⟨by unfold formD; rw [if_neg e1, if_neg e2, if_pos (by omega), if_pos g'], rfl⟩
  have g' : idErrD i = 0 := by simpa using g
  (conv => whnf); refine brn (fun g2 => ?_) (fun g2 => ?_)
  · have g3 : 0 < n := by have := of_decide_eq_true g2; omega
    repeat' ((conv => whnf); first | refine ⟨?_, True.intro⟩ | refine brn_t rfl ?_ | refine brn_f rfl ?_ | refine ob rfl ?_ | refine ob (by decide) ?_ | refine grow_same (Mem.le_refl _) ?_ | refine ob (Mem.le_refl _) ?_ | refine ⟨_, Mem.le_refl _, ?_⟩ | fail)
    exact ⟨by unfold formD; rw [if_neg e1, if_neg e2, if_pos (by omega), if_neg (by simp [g']), if_pos g3], rfl⟩
  · have g3 : ¬ 0 < n := by have := of_decide_eq_false g2; omega
    repeat' ((conv => whnf); first | refine ⟨?_, True.intro⟩ | refine brn_t rfl ?_ | refine brn_f rfl ?_ | refine ob rfl ?_ | refine ob (by decide) ?_ | refine grow_same (Mem.le_refl _) ?_ | refine ob (Mem.le_refl _) ?_ | refine ⟨_, Mem.le_refl _, ?_⟩ | fail)
    exact ⟨by unfold formD; rw [if_neg e1, if_neg e2, if_pos (by omega), if_neg (by simp [g']), if_neg g3], rfl⟩
/-- messages in a row -/
structure MsgsR (M : Mem) (a : Option Addr) (n : Nat) (ms : List MX) : Prop where
  row : SrcOk M 5 a n (ms.flatMap encX)
  data : ∀ m ∈ ms, SrcOk M 1 m.a m.p.length (m.p.map byteV)
theorem MsgsR.le {a : Option Addr} {n : Nat} {ms : List MX} (h : MsgsR M a n ms) {M' : Mem} (hle : M.le M') : MsgsR M' a n ms := ⟨h.row.le hle, fun m hm => (h.data m hm).le hle⟩
theorem MsgsR.len {a : Option Addr} {n : Nat} {ms : List MX} (h : MsgsR M a n ms) : ms.length = n := h.row.flen encX_len (by decide)
theorem hasMsgR_ok {a : Option Addr} {n c : Nat} {ms : List MX} (h : MsgsR M a n ms) (hn : n ≤ 4194304) (i : IdT) : CallsM Tryz.prog F.ref13_Has [.slice a n c, idA i] M fun v M' => v = .bool (hasD (ms.map MX.msg) i) ∧ M = M' := by
  refine fo_ref13_Has (by simp) ?_
  have hl := h.len
  (conv => whnf)
  refine loopQ [5] (fun (j : Nat) => [(5, .int .i64 j)]) (fun j => j ≤ n ∧ ∀ m ∈ ms.take j, m.id ≠ i) (fun j => n - j) 0 ⟨by omega, by simp⟩ ⟨(by repeat' first | exact True.intro | refine ⟨rfl, ?_⟩), (by repeat' first | exact True.intro | refine ⟨rfl, ?_⟩), Mem.le_refl _, rfl⟩ ?_
  intro j ⟨hj, hnot⟩
  (conv => whnf); refine brn (fun g => ?_) (fun g => ?_)
  · have hlt : j < ms.length := by have := of_decide_eq_true g; omega
    have hx : ms[j]? = some ms[j] := List.getElem?_eq_getElem hlt
    obtain ⟨b, o, rfl, hrow⟩ := h.row.fall encX_len (by decide) hx
    have hin : ms[j] ∈ ms := List.getElem_mem _
    have htk : ms.take (j + 1) = ms.take j ++ [ms[j]] := by rw [List.take_add_one, hx]; rfl
    generalize ms[j] = x at *
    have hr4 := Mem.row_part hrow (p := 0) (n := 4) (by decide)
    (conv => whnf); refine ob (by omega) ?_
    (conv => whnf); refine on hr4 ?_
    (conv => whnf); refine brn (fun g1 => ?_) (fun g1 => ?_)
    · repeat' ((conv => whnf); first | refine ⟨?_, True.intro⟩ | refine brn_t rfl ?_ | refine brn_f rfl ?_ | refine ob rfl ?_ | refine ob (by decide) ?_ | refine grow_same (Mem.le_refl _) ?_ | refine ob (Mem.le_refl _) ?_ | refine ⟨_, Mem.le_refl _, ?_⟩ | fail)
      refine ⟨?_, rfl⟩
      have : x.id = i := by
        obtain ⟨⟨x1, x2, x3, x4⟩, _, _, _⟩ := x
        obtain ⟨k1, k2, k3, k4⟩ := i
        simpa [and_assoc] using g1
      have : hasD (ms.map MX.msg) i = true := by
        unfold hasD
        rw [List.any_eq_true]
        exact ⟨x.msg, List.mem_map.2 ⟨x, hin, rfl⟩, by simpa using this⟩
      rw [this]
    · (conv => whnf); refine ob (inR_i64 (by omega)) ?_
      (conv => whnf)
      refine ⟨j + 1, ⟨by omega, ?_⟩, by omega, ⟨(by repeat' first | exact True.intro | refine ⟨rfl, ?_⟩), (by repeat' first | exact True.intro | refine ⟨rfl, ?_⟩), Mem.le_refl _, rfl⟩⟩
      rw [htk]
      intro m hm
      rcases List.mem_append.1 hm with hm | hm
      · exact hnot m hm
      · simp only [List.mem_singleton] at hm
        subst hm
        intro e
        subst e
        simp at g1
  · have hge : n ≤ j := by have := of_decide_eq_false g; omega
    (conv => whnf)
    refine ⟨?_, rfl⟩
    rw [List.take_of_length_le (by omega)] at hnot
    have : hasD (ms.map MX.msg) i = false := by
      unfold hasD
      rw [List.any_eq_false]
      intro m hm
      obtain ⟨x, hx, rfl⟩ := List.mem_map.1 hm
      simpa using hnot x hx
    rw [this]
structure DocV where
  ua : Option Addr
  un : Nat
  uc : Nat
  la : Option Addr
  ln : Nat
  lc : Nat
  ka : Option Addr
  kn : Nat
  kc : Nat
@[reducible] def docV (S : StR) (D : DocV) : Value := .agg #[.int .i64 S.self, .int .i64 S.qh, .int .i64 S.qb, .int .i64 S.qg, .int .i64 S.epoch, .slice D.ua D.un D.uc, .slice D.la D.ln D.lc, .int .i64 S.qg, .slice D.ka D.kn D.kc]
/-- where the document's store lies -/
structure DocAt (M : Mem) (S : StR) (L : List K) (D : DocV) (ms : List MX) : Prop where
  used : SrcOk M 2 D.ua D.un ((usedD S.used).flatMap encN)
  row : MsgsR M D.la D.ln ms
  msgs : ms.map MX.msg = S.l
  keys : SrcOk M 3 D.ka D.kn (L.flatMap encK)
  few : D.kn ≤ 4000000
variable {S : StR} {L : List K} {D : DocV} {ms : List MX}
theorem DocAt.le (h : DocAt M S L D ms) {M' : Mem} (hle : M.le M') : DocAt M' S L D ms := ⟨h.used.le hle, h.row.le hle, h.msgs, h.keys.le hle, h.few⟩
theorem DocAt.ln (h : DocAt M S L D ms) : S.l.length = D.ln := by rw [← h.msgs, List.length_map]; exact h.row.len
theorem DocAt.un (h : DocAt M S L D ms) : (usedD S.used).length = D.un := h.used.flen encN_len (by decide)
theorem bytesR_ok (h : DocAt M S L D ms) (hI : InvS S) : CallsM Tryz.prog F.ref15_Bytes [docV S D] M fun v M' => v = .int .i64 (bytesD S.l) ∧ M = M' := by
  refine fo_ref15_Bytes (by simp) ?_
  have hl := h.row.len
  have hln := h.ln
  have hqb := hI.qb
  have hqh := hI.qh
  (conv => whnf)
  refine loopQ (σ := Nat × Nat) [4, 3] (fun y => [(4, .int .i64 y.1), (3, .int .i64 y.2)]) (fun | ⟨i, s⟩ => i ≤ D.ln ∧ s + bytesD ((ms.drop i).map MX.msg) = bytesD S.l) (fun y => D.ln - y.1) ⟨0, 0⟩ ⟨by omega, by simp [h.msgs]⟩ ⟨(by repeat' first | exact True.intro | refine ⟨rfl, ?_⟩), (by repeat' first | exact True.intro | refine ⟨rfl, ?_⟩), Mem.le_refl _, rfl⟩ ?_
  rintro ⟨i, s⟩ ⟨hi, hsum⟩
  (conv => whnf); refine brn (fun g => ?_) (fun g => ?_)
  · have hlt : i < ms.length := by have := of_decide_eq_true g; dsimp only at this; omega
    have hx : ms[i]? = some ms[i] := List.getElem?_eq_getElem hlt
    obtain ⟨b1, o1, ha, hcc⟩ := h.row.row.fcells encX_len (by decide) hx
    rw [List.drop_eq_getElem_cons hlt] at hsum
    generalize ms[i] = x at *
    simp only [bytesD, List.map_cons, List.sum_cons] at hsum
    have hs2 : s + x.p.length ≤ bytesD S.l := by simp only [bytesD]; omega
    (conv => whnf); refine ob (by first | omega | (dsimp only; omega)) ?_
    (conv => whnf); refine atp ha ?_
    (conv => whnf); refine on (hcc 4 _ rfl) ?_
    (conv => whnf); refine ob (inR_i64 (by first | omega | (dsimp only; omega))) ?_
    (conv => whnf); refine ob (inR_i64 (by first | omega | (dsimp only; omega))) ?_
    (conv => whnf)
    exact ⟨⟨i + 1, s + x.p.length⟩, ⟨by omega, by simp only [bytesD]; omega⟩, by dsimp only; omega, ⟨(by repeat' first | exact True.intro | refine ⟨rfl, ?_⟩), (by repeat' first | exact True.intro | refine ⟨rfl, ?_⟩), Mem.le_refl _, rfl⟩⟩
  · have hge : ms.length ≤ i := by have := of_decide_eq_false g; dsimp only at this; omega
    rw [List.drop_of_length_le hge] at hsum
    simp only [bytesD, List.map_nil, List.sum_nil, Nat.add_zero] at hsum
    (conv => whnf)
    exact ⟨by dsimp only; rw [hsum]; rfl, rfl⟩
end Go.Proofs.YtlocjjponfbhmaaGreat

/- The document's store: Last, use, without. -/
namespace Go.Proofs.YtlocjjponfbhmaaGreat
open Go Go.Vm
attribute [local irreducible] Brn Ob Grow CallsM inR LoopVC Mem.row Mem.cells Mem.setCells Mem.upd Own AppVC SrcVC StrVC NextVC New SrcOk subA NewSl Mem.textAt Mem.mapAt Mem.iterAt entryOf kfind Wr NewEls Elems
set_option maxRecDepth 10000
variable {M : Mem} {S : StR} {L : List K} {D : DocV} {ms : List MX}
theorem lastR_ok (h : DocAt M S L D ms) (hu64 : S.used.length = 64) (d : Int) : CallsM Tryz.prog F.ref15_Last [docV S D, .int .i64 d] M fun v M' => v = .int .i64 (lastN (usedD S.used) d) ∧ M = M' := by
  refine fo_ref15_Last (by simp) ?_
  have hl := h.un
  have hul : (usedD S.used).length ≤ S.used.length := usedF_len S.used 0
  (conv => whnf)
  refine loopQ [5] (fun (i : Nat) => [(5, .int .i64 i)]) (fun i => i ≤ D.un ∧ lastN (usedD S.used) d = lastN ((usedD S.used).drop i) d) (fun i => D.un - i) 0 ⟨by omega, by simp⟩ ⟨(by repeat' first | exact True.intro | refine ⟨rfl, ?_⟩), (by repeat' first | exact True.intro | refine ⟨rfl, ?_⟩), Mem.le_refl _, rfl⟩ ?_
  intro i ⟨hi, hnx⟩
  (conv => whnf); refine brn (fun g => ?_) (fun g => ?_)
  · have hlt : i < (usedD S.used).length := by have := of_decide_eq_true g; omega
    have hx : (usedD S.used)[i]? = some (usedD S.used)[i] := List.getElem?_eq_getElem hlt
    obtain ⟨b1, o1, ha, hcc⟩ := h.used.fcells encN_len (by decide) hx
    rw [List.drop_eq_getElem_cons hlt] at hnx
    generalize (usedD S.used)[i] = x at *
    (conv => whnf); refine ob (by first | omega | (dsimp only; omega)) ?_
    (conv => whnf); refine atp ha ?_
    (conv => whnf); refine on (hcc 0 _ rfl) ?_
    (conv => whnf); refine brn (fun g1 => ?_) (fun g1 => ?_)
    · have e1 : x.1 = d := of_decide_eq_true g1
      (conv => whnf); refine ob (by first | omega | (dsimp only; omega)) ?_
      (conv => whnf); refine atp ha ?_
      (conv => whnf); refine on (hcc 1 _ rfl) ?_
      repeat' ((conv => whnf); first | refine ⟨?_, True.intro⟩ | refine brn_t rfl ?_ | refine brn_f rfl ?_ | refine ob rfl ?_ | refine ob (by decide) ?_ | refine grow_same (Mem.le_refl _) ?_ | refine ob (Mem.le_refl _) ?_ | refine ⟨_, Mem.le_refl _, ?_⟩ | fail)
      exact ⟨by rw [hnx, lastN, if_pos e1], rfl⟩
    · have e1 : ¬ x.1 = d := of_decide_eq_false g1
      (conv => whnf); refine ob (inR_i64 (by first | omega | (dsimp only; omega))) ?_
      (conv => whnf)
      exact ⟨i + 1, ⟨by omega, by rw [hnx, lastN, if_neg e1]⟩, by omega, ⟨(by repeat' first | exact True.intro | refine ⟨rfl, ?_⟩), (by repeat' first | exact True.intro | refine ⟨rfl, ?_⟩), Mem.le_refl _, rfl⟩⟩
  · have hge : (usedD S.used).length ≤ i := by have := of_decide_eq_false g; omega
    rw [List.drop_of_length_le hge] at hnx
    repeat' ((conv => whnf); first | refine ⟨?_, True.intro⟩ | refine brn_t rfl ?_ | refine brn_f rfl ?_ | refine ob rfl ?_ | refine ob (by decide) ?_ | refine grow_same (Mem.le_refl _) ?_ | refine ob (Mem.le_refl _) ?_ | refine ⟨_, Mem.le_refl _, ?_⟩ | fail)
    exact ⟨by rw [hnx]; rfl, rfl⟩
theorem useR_ok {a : Option Addr} {n c : Nat} {l : List (Int × Int)} (hs : SrcOk M 2 a n (l.flatMap encN)) (hn : n ≤ 64) (x : Int × Int) :
    CallsM Tryz.prog F.ref15_use [.slice a n c, .agg #[.int .i64 x.1, .int .i64 x.2]] M fun v M' => ∃ a' n' c', v = .slice a' n' c' ∧ M.le M' ∧ SrcOk M' 2 a' n' ((useN x l).flatMap encN) := by
  refine fo_ref15_use (by simp) ?_
  have hl := hs.flen encN_len (by decide)
  (conv => whnf); refine new (fun b9 hb9 => ?_)
  replace hb9 : M b9 = none := hb9
  have hN : NewSl M T.api_Next 2 (some ⟨b9, 0, none⟩) 0 0 (([] : List (Int × Int)).flatMap encN) _ := NewSl.lit hb9 T.api_Next 2 0 [] rfl
  obtain ⟨M3, hM3⟩ : ∃ M3, M3 = M.setCells b9 T.api_Next [] := ⟨_, rfl⟩
  rw [← hM3] at hN
  (conv => whnf)
  erw [← hM3]
  refine loopF (σ := Nat × Mem × Option Addr × Nat × Bool × List (Int × Int)) [7, 6, 5] (fun y => [(7, .int .i64 y.1), (6, .c (.v (.bool y.2.2.2.2.1))), (5, .slice y.2.2.1 y.2.2.2.2.2.length y.2.2.2.1)]) (fun _ => [.live T.api_Next [.v (.int .i64 x.1), .v (.int .i64 x.2)], .gone b9]) (fun y => y.2.1)
    (fun | ⟨i, M4, a4, c4, dn, out⟩ => i ≤ n ∧ out.length ≤ 2 * i ∧ NewSl M T.api_Next 2 a4 out.length c4 (out.flatMap encN) M4 ∧ useN x l = out ++ restN x dn (l.drop i)) (fun y => n - y.1) ⟨0, M3, _, _, false, []⟩ ⟨by omega, by simp, hN, rfl⟩ ⟨(by repeat' first | exact True.intro | refine ⟨rfl, ?_⟩), (by repeat' first | exact True.intro | refine ⟨rfl, ?_⟩), Mem.le_refl _, rfl⟩ ?_
  rintro ⟨i, M4, a4, c4, dn, out⟩ ⟨hi, hol, hN4, hins⟩
  (conv => whnf); refine brn (fun g => ?_) (fun g => ?_)
  · have hi' : i < n := by have := of_decide_eq_true g; dsimp only at this; omega
    have hx : l[i]? = some (l[i]'(by omega)) := List.getElem?_eq_getElem (by omega)
    obtain ⟨b, o, ha, hcc⟩ := hs.fparts encN_len (by decide) hx
    rw [List.drop_eq_getElem_cons (by omega)] at hins
    generalize l[i]'(by omega) = y at *
    have fin : ∀ (dn' : Bool) (out' : List (Int × Int)) M6 a6 c6, out'.length ≤ 2 * i + 1 → useN x l = out' ++ y :: restN x dn' (l.drop (i + 1)) → NewSl M T.api_Next 2 a6 (out'.length + 1) c6 ((out' ++ [y]).flatMap encN) M6 →
        (i + 1 ≤ n ∧ (out' ++ [y]).length ≤ 2 * (i + 1) ∧ NewSl M T.api_Next 2 a6 (out' ++ [y]).length c6 ((out' ++ [y]).flatMap encN) M6 ∧ useN x l = (out' ++ [y]) ++ restN x dn' (l.drop (i + 1))) := fun dn' out' M6 a6 c6 h1 h2 h3 =>
      ⟨by omega, by simp; omega, by simpa using h3, by rw [h2]; simp⟩
    (conv => whnf); refine ob (by first | omega | (dsimp only; omega)) ?_
    (conv => whnf); refine atp ha ?_
    (conv => whnf); refine on (Mem.row_le hN4.le (hcc 0 1 (by decide))) ?_
    (conv => whnf); refine brn (fun g1 => ?_) (fun g1 => ?_)
    · have e1 : y.1 = x.1 := of_decide_eq_true g1
      (conv => whnf); refine ob (inR_i64 (by first | omega | (dsimp only; omega))) ?_
      (conv => whnf)
      refine ⟨⟨i + 1, M4, a4, c4, dn, out⟩, ⟨by omega, by omega, hN4, by rw [hins, restN, if_pos e1]⟩, by dsimp only; omega, ⟨(by repeat' first | exact True.intro | refine ⟨rfl, ?_⟩), (by repeat' first | exact True.intro | refine ⟨rfl, ?_⟩), Mem.le_refl _, rfl⟩⟩
    have e1 : ¬ y.1 = x.1 := of_decide_eq_false g1
    rw [restN, if_neg e1] at hins
    cases dn with
    | true =>
      rw [if_neg (by simp)] at hins
      have hN5 := hN4
      repeat' ((conv => whnf); first | refine ⟨?_, True.intro⟩ | refine brn_t rfl ?_ | refine brn_f rfl ?_ | refine ob rfl ?_ | refine ob (by decide) ?_ | refine grow_same (Mem.le_refl _) ?_ | refine ob (Mem.le_refl _) ?_ | refine ⟨_, Mem.le_refl _, ?_⟩ | fail)
      (conv => whnf); refine ob (by first | omega | (dsimp only; omega)) ?_
      (conv => whnf); refine atp ha ?_
      (conv => whnf); refine on (Mem.row_le hN5.le (hcc 0 2 (by decide))) ?_
      repeat' ((conv => whnf); first | refine ⟨?_, True.intro⟩ | refine brn_t rfl ?_ | refine brn_f rfl ?_ | refine ob rfl ?_ | refine ob (by decide) ?_ | refine grow_same (Mem.le_refl _) ?_ | refine ob (Mem.le_refl _) ?_ | refine ⟨_, Mem.le_refl _, ?_⟩ | fail)
      refine appF M hN5 y rfl (by first | omega | (dsimp only; omega)) (by simp [maxLen]; omega) (by simp [Value.oneCell']) fun a6 c6 M6 hN6 _ => ?_
      (conv => whnf); refine ob (inR_i64 (by first | omega | (dsimp only; omega))) ?_
      (conv => whnf)
      refine ⟨⟨i + 1, M6, a6, c6, true, out ++ [y]⟩, fin true out _ _ _ (by omega) hins hN6, by dsimp only; omega, ?_⟩
      simp only [List.length_append, List.length_cons, List.length_nil]
      exact ⟨(by repeat' first | exact True.intro | refine ⟨rfl, ?_⟩), (by repeat' first | exact True.intro | refine ⟨rfl, ?_⟩), Mem.le_refl _, rfl⟩
    | false =>
      repeat' ((conv => whnf); first | refine ⟨?_, True.intro⟩ | refine brn_t rfl ?_ | refine brn_f rfl ?_ | refine ob rfl ?_ | refine ob (by decide) ?_ | refine grow_same (Mem.le_refl _) ?_ | refine ob (Mem.le_refl _) ?_ | refine ⟨_, Mem.le_refl _, ?_⟩ | fail)
      refine ob (by first | omega | (dsimp only; omega)) ?_
      (conv => whnf); refine atp ha ?_
      (conv => whnf); refine on (Mem.row_le hN4.le (hcc 0 1 (by decide))) ?_
      (conv => whnf); refine brn (fun g2 => ?_) (fun g2 => ?_)
      · have e2 : x.1 < y.1 := of_decide_eq_true g2
        rw [if_pos ⟨rfl, e2⟩] at hins
        have hins' : useN x l = (out ++ [x]) ++ y :: restN x true (l.drop (i + 1)) := by rw [hins]; simp
        repeat' ((conv => whnf); first | refine ⟨?_, True.intro⟩ | refine brn_t rfl ?_ | refine brn_f rfl ?_ | refine ob rfl ?_ | refine ob (by decide) ?_ | refine grow_same (Mem.le_refl _) ?_ | refine ob (Mem.le_refl _) ?_ | refine ⟨_, Mem.le_refl _, ?_⟩ | fail)
        refine appF M hN4 x rfl (by first | omega | (dsimp only; omega)) (by simp [maxLen]; omega) (by simp [Value.oneCell']) fun a5 c5 M5 hN5' _ => ?_
        have hN5 : NewSl M T.api_Next 2 a5 (out ++ [x]).length c5 ((out ++ [x]).flatMap encN) M5 := by simpa using hN5'
        have hlen5 : (out ++ [x]).length = out.length + 1 := by simp
        rw [hlen5] at hN5
        repeat' ((conv => whnf); first | refine ⟨?_, True.intro⟩ | refine brn_t rfl ?_ | refine brn_f rfl ?_ | refine ob rfl ?_ | refine ob (by decide) ?_ | refine grow_same (Mem.le_refl _) ?_ | refine ob (Mem.le_refl _) ?_ | refine ⟨_, Mem.le_refl _, ?_⟩ | fail)
        (conv => whnf); refine ob (by first | omega | (dsimp only; omega)) ?_
        (conv => whnf); refine atp ha ?_
        (conv => whnf); refine on (Mem.row_le hN5.le (hcc 0 2 (by decide))) ?_
        repeat' ((conv => whnf); first | refine ⟨?_, True.intro⟩ | refine brn_t rfl ?_ | refine brn_f rfl ?_ | refine ob rfl ?_ | refine ob (by decide) ?_ | refine grow_same (Mem.le_refl _) ?_ | refine ob (Mem.le_refl _) ?_ | refine ⟨_, Mem.le_refl _, ?_⟩ | fail)
        refine appF M hN5 y rfl (by first | omega | (dsimp only; omega)) (by simp [maxLen]; omega) (by simp [Value.oneCell']) fun a6 c6 M6 hN6 _ => ?_
        (conv => whnf); refine ob (inR_i64 (by first | omega | (dsimp only; omega))) ?_
        (conv => whnf)
        refine ⟨⟨i + 1, M6, a6, c6, true, (out ++ [x]) ++ [y]⟩, fin true (out ++ [x]) _ _ _ (by simp; omega) hins' (by simpa using hN6), by dsimp only; omega, ?_⟩
        simp only [List.length_append, List.length_cons, List.length_nil]
        exact ⟨(by repeat' first | exact True.intro | refine ⟨rfl, ?_⟩), (by repeat' first | exact True.intro | refine ⟨rfl, ?_⟩), Mem.le_refl _, rfl⟩
      · have e2 : ¬ x.1 < y.1 := of_decide_eq_false g2
        rw [if_neg (by simp [e2])] at hins
        have hN5 := hN4
        repeat' ((conv => whnf); first | refine ⟨?_, True.intro⟩ | refine brn_t rfl ?_ | refine brn_f rfl ?_ | refine ob rfl ?_ | refine ob (by decide) ?_ | refine grow_same (Mem.le_refl _) ?_ | refine ob (Mem.le_refl _) ?_ | refine ⟨_, Mem.le_refl _, ?_⟩ | fail)
        (conv => whnf); refine ob (by first | omega | (dsimp only; omega)) ?_
        (conv => whnf); refine atp ha ?_
        (conv => whnf); refine on (Mem.row_le hN5.le (hcc 0 2 (by decide))) ?_
        repeat' ((conv => whnf); first | refine ⟨?_, True.intro⟩ | refine brn_t rfl ?_ | refine brn_f rfl ?_ | refine ob rfl ?_ | refine ob (by decide) ?_ | refine grow_same (Mem.le_refl _) ?_ | refine ob (Mem.le_refl _) ?_ | refine ⟨_, Mem.le_refl _, ?_⟩ | fail)
        refine appF M hN5 y rfl (by first | omega | (dsimp only; omega)) (by simp [maxLen]; omega) (by simp [Value.oneCell']) fun a6 c6 M6 hN6 _ => ?_
        (conv => whnf); refine ob (inR_i64 (by first | omega | (dsimp only; omega))) ?_
        (conv => whnf)
        refine ⟨⟨i + 1, M6, a6, c6, false, out ++ [y]⟩, fin false out _ _ _ (by omega) hins hN6, by dsimp only; omega, ?_⟩
        simp only [List.length_append, List.length_cons, List.length_nil]
        exact ⟨(by repeat' first | exact True.intro | refine ⟨rfl, ?_⟩), (by repeat' first | exact True.intro | refine ⟨rfl, ?_⟩), Mem.le_refl _, rfl⟩
  · have hi' : i = n := by have := of_decide_eq_false g; dsimp only at this; omega
    subst hi'
    have hdr : l.drop i = [] := List.drop_of_length_le (by omega)
    rw [hdr] at hins
    cases dn with
    | true =>
      have e : restN x true [] = [] := rfl
      rw [e, List.append_nil] at hins
      repeat' ((conv => whnf); first | refine ⟨?_, True.intro⟩ | refine brn_t rfl ?_ | refine brn_f rfl ?_ | refine ob rfl ?_ | refine ob (by decide) ?_ | refine grow_same (Mem.le_refl _) ?_ | refine ob (Mem.le_refl _) ?_ | refine ⟨_, Mem.le_refl _, ?_⟩ | fail)
      rw [hins]
      exact ⟨a4, _, c4, rfl, hN4.le, hN4.src⟩
    | false =>
      have e : restN x false [] = [x] := rfl
      rw [e] at hins
      repeat' ((conv => whnf); first | refine ⟨?_, True.intro⟩ | refine brn_t rfl ?_ | refine brn_f rfl ?_ | refine ob rfl ?_ | refine ob (by decide) ?_ | refine grow_same (Mem.le_refl _) ?_ | refine ob (Mem.le_refl _) ?_ | refine ⟨_, Mem.le_refl _, ?_⟩ | fail)
      refine appF M hN4 x rfl (by first | omega | (dsimp only; omega)) (by simp [maxLen]; omega) (by simp [Value.oneCell']) fun a6 c6 M6 hN6 _ => ?_
      repeat' ((conv => whnf); first | refine ⟨?_, True.intro⟩ | refine brn_t rfl ?_ | refine brn_f rfl ?_ | refine ob rfl ?_ | refine ob (by decide) ?_ | refine grow_same (Mem.le_refl _) ?_ | refine ob (Mem.le_refl _) ?_ | refine ⟨_, Mem.le_refl _, ?_⟩ | fail)
      rw [hins]
      exact ⟨a6, _, c6, rfl, hN6.le, hN6.src⟩
theorem withoutR_ok {a : Option Addr} {n c : Nat} (hr : MsgsR M a n ms) (hn : n ≤ 2097152) (i : IdT) :
    CallsM Tryz.prog F.ref15_without [.slice a n c, idA i] M fun v M' => ∃ a' n' c', v = .slice a' n' c' ∧ M.le M' ∧ MsgsR M' a' n' (ms.filter fun m => decide (m.id ≠ i)) := by
  refine fo_ref15_without (by simp) ?_
  have hl := hr.len
  (conv => whnf); refine new (fun b9 hb9 => ?_)
  replace hb9 : M b9 = none := hb9
  have hN : NewSl M T.api_Msg 5 (some ⟨b9, 0, none⟩) 0 0 (([] : List MX).flatMap encX) _ := NewSl.lit hb9 T.api_Msg 5 0 [] rfl
  obtain ⟨M3, hM3⟩ : ∃ M3, M3 = M.setCells b9 T.api_Msg [] := ⟨_, rfl⟩
  rw [← hM3] at hN
  (conv => whnf)
  erw [← hM3]
  refine loopF (σ := Nat × Mem × Option Addr × Nat × List MX) [6, 5] (fun y => [(6, .int .i64 y.1), (5, .slice y.2.2.1 y.2.2.2.2.length y.2.2.2.1)]) (fun _ => [.live T.api_Id [.v (.int .i64 i.o), .v (.int .i64 i.d), .v (.int .i64 i.e), .v (.int .i64 i.c)], .gone b9]) (fun y => y.2.1)
    (fun | ⟨j, M4, a4, c4, out⟩ => j ≤ n ∧ out = (ms.take j).filter (fun m => decide (m.id ≠ i)) ∧ NewSl M T.api_Msg 5 a4 out.length c4 (out.flatMap encX) M4) (fun y => n - y.1) ⟨0, M3, _, _, []⟩ ⟨by omega, by simp, hN⟩ ⟨(by repeat' first | exact True.intro | refine ⟨rfl, ?_⟩), (by repeat' first | exact True.intro | refine ⟨rfl, ?_⟩), Mem.le_refl _, rfl⟩ ?_
  rintro ⟨j, M4, a4, c4, out⟩ ⟨hj, hout, hN4⟩
  have hol : out.length ≤ j := by rw [hout]; exact Nat.le_trans (List.length_filter_le _ _) (by simp; omega)
  (conv => whnf); refine brn (fun g => ?_) (fun g => ?_)
  · have hlt : j < ms.length := by have := of_decide_eq_true g; dsimp only at this; omega
    have hx : ms[j]? = some ms[j] := List.getElem?_eq_getElem hlt
    obtain ⟨b, o, ha, hcc⟩ := hr.row.fparts encX_len (by decide) hx
    have htk : ms.take (j + 1) = ms.take j ++ [ms[j]] := by rw [List.take_add_one, hx]; rfl
    generalize ms[j] = x at *
    (conv => whnf); refine ob (by first | omega | (dsimp only; omega)) ?_
    (conv => whnf); refine atp ha ?_
    (conv => whnf); refine on (Mem.row_le hN4.le (hcc 0 4 (by decide))) ?_
    (conv => whnf); refine brn (fun g1 => ?_) (fun g1 => ?_)
    · have e1 : x.id ≠ i := by
        intro e; subst e; simp at g1
      (conv => whnf); refine ob (by first | omega | (dsimp only; omega)) ?_
      (conv => whnf); refine atp ha ?_
      (conv => whnf); refine on (Mem.row_le hN4.le (hcc 0 5 (by decide))) ?_
      repeat' ((conv => whnf); first | refine ⟨?_, True.intro⟩ | refine brn_t rfl ?_ | refine brn_f rfl ?_ | refine ob rfl ?_ | refine ob (by decide) ?_ | refine grow_same (Mem.le_refl _) ?_ | refine ob (Mem.le_refl _) ?_ | refine ⟨_, Mem.le_refl _, ?_⟩ | fail)
      refine appF M hN4 x rfl (by first | omega | (dsimp only; omega)) (by simp [maxLen]; omega) (by simp [Value.oneCell']) fun a6 c6 M6 hN6 _ => ?_
      (conv => whnf); refine ob (inR_i64 (by first | omega | (dsimp only; omega))) ?_
      (conv => whnf)
      refine ⟨⟨j + 1, M6, a6, c6, out ++ [x]⟩, ⟨by omega, by rw [htk, List.filter_append, ← hout]; simp [e1], by simpa using hN6⟩, by dsimp only; omega, ?_⟩
      simp only [List.length_append, List.length_cons, List.length_nil]
      exact ⟨(by repeat' first | exact True.intro | refine ⟨rfl, ?_⟩), (by repeat' first | exact True.intro | refine ⟨rfl, ?_⟩), Mem.le_refl _, rfl⟩
    · have e1 : x.id = i := by
        obtain ⟨⟨x1, x2, x3, x4⟩, _, _, _⟩ := x
        obtain ⟨k1, k2, k3, k4⟩ := i
        simpa [and_assoc] using g1
      (conv => whnf); refine ob (inR_i64 (by first | omega | (dsimp only; omega))) ?_
      (conv => whnf)
      exact ⟨⟨j + 1, M4, a4, c4, out⟩, ⟨by omega, by rw [htk, List.filter_append, ← hout]; simp [e1], hN4⟩, by dsimp only; omega, ⟨(by repeat' first | exact True.intro | refine ⟨rfl, ?_⟩), (by repeat' first | exact True.intro | refine ⟨rfl, ?_⟩), Mem.le_refl _, rfl⟩⟩
  · have hge : ms.length ≤ j := by have := of_decide_eq_false g; dsimp only at this; omega
    rw [List.take_of_length_le hge] at hout
    repeat' ((conv => whnf); first | refine ⟨?_, True.intro⟩ | refine brn_t rfl ?_ | refine brn_f rfl ?_ | refine ob rfl ?_ | refine ob (by decide) ?_ | refine grow_same (Mem.le_refl _) ?_ | refine ob (Mem.le_refl _) ?_ | refine ⟨_, Mem.le_refl _, ?_⟩ | fail)
    refine ⟨a4, _, c4, rfl, hN4.le, hout ▸ hN4.src, fun m hm => (hr.data m (List.mem_filter.1 hm).1).le hN4.le⟩
end Go.Proofs.YtlocjjponfbhmaaGreat

