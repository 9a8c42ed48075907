/- Rows of structs: one cell read, one cell written, one struct more. -/
import Derived.Test.YtnlghoenbhbfhaaJoin14
import Derived.Test.YtnlghoenbhbfhaaCodeA
import Derived.Test.YtnlghoenbhbfhaaVmS
import Derived.Test.YtnlghoenbhbfhaaJoin11
namespace Go.Vm
section
variable {α : Type} {enc : α → List Value} {s : Nat} (hk : ∀ x, (enc x).length = s)
include hk
theorem fm_at : ∀ (l : List α) (i j : Nat) (x : α), l[i]? = some x → j < s → (l.flatMap enc)[i * s + j]? = (enc x)[j]?
  | [], i, j, x, h, _ => by simp at h
  | y :: r, 0, j, x, h, hj => by
    simp at h; subst h
    rw [List.flatMap_cons, Nat.zero_mul, Nat.zero_add, List.getElem?_append_left (by rw [hk]; exact hj)]
  | y :: r, i + 1, j, x, h, hj => by
    have := fm_at r i j x (by simpa using h) hj
    rw [List.flatMap_cons, List.getElem?_append_right (by rw [hk, Nat.succ_mul]; omega), hk, ← this]
    congr 1
    rw [Nat.succ_mul]; omega
theorem fm_len (l : List α) : (l.flatMap enc).length = l.length * s := by
  induction l with
  | nil => simp
  | cons y r ih => simp [hk, ih, Nat.succ_mul, Nat.add_comm]
theorem fm_set : ∀ (l : List α) (i j : Nat) (x x' : α) (v : Value), l[i]? = some x → j < s → enc x' = (enc x).set j v → (l.flatMap enc).set (i * s + j) v = (l.set i x').flatMap enc
  | [], i, j, x, x', v, h, _, _ => by simp at h
  | y :: r, 0, j, x, x', v, h, hj, he => by
    simp at h; subst h
    rw [List.flatMap_cons, Nat.zero_mul, Nat.zero_add, List.set_append_left _ _ (by rw [hk]; exact hj), List.set_cons_zero, List.flatMap_cons, he]
  | y :: r, i + 1, j, x, x', v, h, hj, he => by
    have := fm_set r i j x x' v (by simpa using h) hj he
    rw [List.flatMap_cons, List.set_append_right _ _ (by rw [hk, Nat.succ_mul]; omega), hk, List.set_cons_succ, List.flatMap_cons, ← this]
    congr 2
    rw [Nat.succ_mul]; omega
theorem SrcOk.flen {M : Mem} {a : Option Addr} {n : Nat} {l : List α} (h : SrcOk M s a n (l.flatMap enc)) (hs : 0 < s) : l.length = n := by
  have := h.len
  rw [fm_len hk] at this
  exact Nat.eq_of_mul_eq_mul_right hs this
/-- one cell of one struct -/
theorem SrcOk.fcell {M : Mem} {a : Option Addr} {n : Nat} {l : List α} (h : SrcOk M s a n (l.flatMap enc)) {j p : Nat} {x : α} {v : Value} (hx : l[j]? = some x) (hv : (enc x)[p]? = some v) : ∃ b o, a = some ⟨b, o, Option.none⟩ ∧ M.row b (o + j * s + p) 1 = some [v] := by
  have hp : p < s := by rw [← hk x]; exact (List.getElem?_eq_some_iff.1 hv).1
  have hj : j < n := by have := h.flen hk (by omega); have := (List.getElem?_eq_some_iff.1 hx).1; omega
  obtain ⟨b, o, ha, hr⟩ := h.elem hj (by omega)
  refine ⟨b, o, ha, ?_⟩
  rw [hr p 1 (by omega)]
  have hat := fm_at hk l j p x hx hp
  rw [hv] at hat
  obtain ⟨hlt, e⟩ := List.getElem?_eq_some_iff.1 hat
  rw [List.drop_eq_getElem_cons hlt, e]; simp
/-- one struct -/
theorem SrcOk.fall {M : Mem} {a : Option Addr} {n : Nat} {l : List α} (h : SrcOk M s a n (l.flatMap enc)) (hs : 0 < s) {j : Nat} {x : α} (hx : l[j]? = some x) : ∃ b o, a = some ⟨b, o, Option.none⟩ ∧ M.row b (o + j * s) s = some (enc x) := by
  have hj : j < n := by have := h.flen hk hs; have := (List.getElem?_eq_some_iff.1 hx).1; omega
  obtain ⟨b, o, ha, hr⟩ := h.elem hj hs
  refine ⟨b, o, ha, ?_⟩
  have := hr 0 s (by omega)
  rw [Nat.add_zero] at this
  rw [this]
  congr 1
  apply List.ext_getElem?
  intro t
  by_cases ht : t < s
  · rw [List.getElem?_take_of_lt ht, List.getElem?_drop, Nat.add_zero, fm_at hk l j t x hx ht]
  · rw [List.getElem?_eq_none (by simp; omega), List.getElem?_eq_none (by rw [hk]; omega)]
/-- all cells of one struct -/
theorem SrcOk.fcells {M : Mem} {a : Option Addr} {n : Nat} {l : List α} (h : SrcOk M s a n (l.flatMap enc)) (hs : 0 < s) {j : Nat} {x : α} (hx : l[j]? = some x) : ∃ b o, a = some ⟨b, o, Option.none⟩ ∧ ∀ p v, (enc x)[p]? = some v → M.row b (o + j * s + p) 1 = some [v] := by
  obtain ⟨b, o, ha, _⟩ := h.fall hk hs hx
  refine ⟨b, o, ha, fun p v hv => ?_⟩
  obtain ⟨b', o', ha', hr⟩ := h.fcell hk hx hv
  rw [ha] at ha'
  cases ha'
  exact hr
/-- one cell of one struct is written -/
theorem Wr.fstore {M : Mem} {E : TypeId} {a : Option Addr} {n c : Nat} {l : List α} (h : Wr M E s a n c (l.flatMap enc)) {j p : Nat} {x : α} (hx : l[j]? = some x) (hp : p < s) :
    ∃ b cs, a = some ⟨b, 0, Option.none⟩ ∧ M.cells b = some (E, cs) ∧ 0 + j * s + p + 1 ≤ cs.length ∧ ∀ (x' : α) (v : Value), enc x' = (enc x).set p v → Wr (M.setCells b E (splice cs (0 + j * s + p) [v])) E s a n c ((l.set j x').flatMap enc) ∧ Mem.keep (blk a) M (M.setCells b E (splice cs (0 + j * s + p) [v])) := by
  have hl := h.len
  have hjl := (List.getElem?_eq_some_iff.1 hx).1
  rw [fm_len hk] at hl
  have hln : l.length = n := Nat.eq_of_mul_eq_mul_right (by omega) hl
  have hlt : j * s + p < n * s := by
    have : (j + 1) * s ≤ n * s := Nat.mul_le_mul_right _ (by omega)
    rw [Nat.succ_mul] at this; omega
  obtain ⟨h1, h2, ⟨ha, hc⟩ | ⟨b, cs, ha, hh, hcl, ht⟩⟩ := h
  · omega
  · have hle : n * s ≤ c * s := Nat.mul_le_mul_right _ h2
    refine ⟨b, cs, ha, hh.cells, by omega, fun x' v he => ⟨⟨?_, h2, .inr ⟨b, _, ha, Mem.has_setCells, ?_, ?_⟩⟩, ?_⟩⟩
    · rw [fm_len hk]; simp [hln]
    · rw [splice_one _ _ _ (by omega)]; simpa using hcl
    · rw [splice_one _ _ _ (by omega), List.take_set, ht, Nat.zero_add]
      exact fm_set hk l j p x x' v hx hp he
    · intro y o hy hM
      have hne : y ≠ b := fun e => hy ⟨_, ha, e.symm⟩
      unfold Mem.setCells
      rw [Mem.upd_ne _ _ hne]; exact hM
theorem NewSl.fstore {M M2 : Mem} {E : TypeId} {a : Option Addr} {n c : Nat} {l : List α} (h : NewSl M E s a n c (l.flatMap enc) M2) {j p : Nat} {x : α} (hx : l[j]? = some x) (hp : p < s) :
    ∃ b cs, a = some ⟨b, 0, Option.none⟩ ∧ M2.cells b = some (E, cs) ∧ 0 + j * s + p + 1 ≤ cs.length ∧ ∀ (x' : α) (v : Value), enc x' = (enc x).set p v → NewSl M E s a n c ((l.set j x').flatMap enc) (M2.setCells b E (splice cs (0 + j * s + p) [v])) ∧ Mem.keep (blk a) M2 (M2.setCells b E (splice cs (0 + j * s + p) [v])) := by
  obtain ⟨b, cs, ha, hc, hl, hst⟩ := h.wr.fstore hk hx hp
  exact ⟨b, cs, ha, hc, hl, fun x' v he => ⟨h.ofWr (hst x' v he).1 (hst x' v he).2 rfl, (hst x' v he).2⟩⟩
omit hk in
/-- one struct more -/
theorem appF {E : TypeId} {bytes : Nat} {a : Option Addr} {n c : Nat} {news : List Value} {M : Mem} {k : Option Addr → Nat → Mem → Prop} {l : List α} (M0 : Mem) (hown : NewSl M0 E s a n c (l.flatMap enc) M) (x : α) (hx : news = enc x)
    (h1 : (n + 1) * bytes ≤ 140737488355328) (h2 : n + 1 ≤ maxLen) (h3 : ∀ u ∈ news, u.oneCell' = true) (hkk : ∀ a' c' M', NewSl M0 E s a' (n + 1) c' ((l ++ [x]).flatMap enc) M' → Mem.keep (blk a) M M' → k a' c' M') : AppVC E s bytes a n c 1 news M k := by
  subst hx
  refine appK M0 _ hown h1 h2 h3 fun a' c' M' hn hkp => hkk a' c' M' ?_ hkp
  rw [List.flatMap_append]
  simpa using hn
end
end Go.Vm

/- Parts of rows. -/
namespace Go.Vm
theorem Mem.row_part {M : Mem} {b o k : Nat} {vs : List Value} (h : M.row b o k = some vs) {p n : Nat} (hp : p + n ≤ k) : M.row b (o + p) n = some ((vs.drop p).take n) := by
  unfold Mem.row at h ⊢
  split at h
  · rename_i c e fz hc
    split at h
    · rename_i hle
      simp only [Option.some.injEq] at h
      subst h
      rw [if_pos (by omega)]
      congr 1
      rw [List.drop_take, List.take_take, List.drop_drop]
      congr 1
      omega
    · cases h
  · cases h
theorem SrcOk.fparts {α : Type} {enc : α → List Value} {s : Nat} (hlen : ∀ x, (enc x).length = s) {M : Mem} {a : Option Addr} {n : Nat} {l : List α} (h : SrcOk M s a n (l.flatMap enc)) (hs : 0 < s) {j : Nat} {x : α} (hx : l[j]? = some x) :
    ∃ b o, a = some ⟨b, o, Option.none⟩ ∧ ∀ p m, p + m ≤ s → M.row b (o + j * s + p) m = some (((enc x).drop p).take m) := by
  obtain ⟨b, o, ha, hr⟩ := h.fall hlen hs hx
  exact ⟨b, o, ha, fun p m hp => Mem.row_part hr hp⟩
theorem flatten_take {α : Type} {s : Nat} : ∀ {css : List (List α)} (_ : ∀ cs ∈ css, cs.length = s) (k : Nat), (css.take k).flatten = css.flatten.take (k * s)
  | [], _, k => by simp
  | c :: r, h, 0 => by simp
  | c :: r, h, k + 1 => by
    have hc : c.length = s := h c (by simp)
    rw [List.take_succ_cons, List.flatten_cons, List.flatten_cons, flatten_take (fun cs hcs => h cs (List.mem_cons_of_mem _ hcs)) k, Nat.succ_mul, Nat.add_comm, ← hc, List.take_length_add_append]
theorem Elems.take {α : Type} {M : Mem} {s : Nat} {a : Option Addr} {n c : Nat} {R : List Value → α → Prop} {l : List α} (h : Elems M s a n R l) {k : Nat} (hk : k ≤ n) (hc : n ≤ c) (hs : 0 < s) : Elems M s (subA a 0 c s) k R (l.take k) := by
  obtain ⟨css, h1, h2, h3, h4, h5⟩ := h
  refine ⟨css.take k, ?_, by simp; omega, by simp; omega, fun cs hcs => h4 cs (List.mem_of_mem_take hcs), fun i cs x hi hx => ?_⟩
  · have h6 := h1.sub (lo := 0) (hi := k) (by omega) hk hc hs
    rw [Nat.zero_mul, List.drop_zero, Nat.sub_zero, ← flatten_take h4] at h6
    exact h6
  · have hik : i < k := by
      have := (List.getElem?_eq_some_iff.1 hi).1
      simp at this; omega
    rw [List.getElem?_take_of_lt hik] at hi hx
    exact h5 i cs x hi hx
/-- one whole struct is written -/
theorem Wr.fset {α : Type} {enc : α → List Value} {s : Nat} (hk : ∀ x, (enc x).length = s) {M : Mem} {E : TypeId} {a : Option Addr} {n c : Nat} {l : List α} (h : Wr M E s a n c (l.flatMap enc)) (hs : 0 < s) {j : Nat} (hj : j < n) :
    ∃ b cs, a = some ⟨b, 0, Option.none⟩ ∧ M.cells b = some (E, cs) ∧ 0 + j * s + s ≤ cs.length ∧ ∀ x', Wr (M.setCells b E (splice cs (0 + j * s) (enc x'))) E s a n c ((l.set j x').flatMap enc) ∧ Mem.keep (blk a) M (M.setCells b E (splice cs (0 + j * s) (enc x'))) := by
  have hl := h.len
  rw [fm_len hk] at hl
  have hln : l.length = n := Nat.eq_of_mul_eq_mul_right hs hl
  obtain ⟨h1, h2, ⟨ha, hc⟩ | ⟨b, cs, ha, hh, hcl, ht⟩⟩ := h
  · omega
  · have hle : n * s ≤ c * s := Nat.mul_le_mul_right _ h2
    have hjn : (j + 1) * s ≤ n * s := Nat.mul_le_mul_right _ (by omega)
    rw [Nat.succ_mul] at hjn
    refine ⟨b, cs, ha, hh.cells, by omega, fun x' => ⟨⟨?_, h2, .inr ⟨b, _, ha, Mem.has_setCells, ?_, ?_⟩⟩, ?_⟩⟩
    · rw [fm_len hk]; simp [hln]
    · unfold splice
      simp only [List.length_append, List.length_take, List.length_drop, hk]
      omega
    · rw [Nat.zero_add]
      have hjl : j < l.length := by omega
      have e1 : l.flatMap enc = (l.take j).flatMap enc ++ (enc l[j] ++ (l.drop (j + 1)).flatMap enc) := by
        conv => lhs; rw [← List.take_append_drop j l, List.drop_eq_getElem_cons hjl]
        rw [List.flatMap_append, List.flatMap_cons]
      have e2 : (l.set j x').flatMap enc = (l.take j).flatMap enc ++ (enc x' ++ (l.drop (j + 1)).flatMap enc) := by
        rw [List.set_eq_take_append_cons_drop, if_pos hjl, List.flatMap_append, List.flatMap_cons]
      have hu : ((l.take j).flatMap enc).length = j * s := by rw [fm_len hk, List.length_take, Nat.min_eq_left (by omega)]
      have hcs : cs = (l.take j).flatMap enc ++ (enc l[j] ++ ((l.drop (j + 1)).flatMap enc ++ cs.drop (n * s))) := by
        conv => lhs; rw [← List.take_append_drop (n * s) cs, ht, e1]
        simp
      generalize cs.drop (n * s) = R at hcs
      have hw : ((l.drop (j + 1)).flatMap enc).length = n * s - (j * s + s) := by rw [fm_len hk]; simp [hln]; rw [Nat.sub_mul, Nat.succ_mul]
      generalize (l.take j).flatMap enc = A at *
      generalize (l.drop (j + 1)).flatMap enc = B at *
      rw [e2, hcs]
      unfold splice
      rw [hk, List.take_left' hu, ← List.drop_drop, List.drop_left' hu, List.drop_left' (hk _)]
      rw [List.append_assoc, List.take_append, List.take_of_length_le (by omega), List.take_append, List.take_of_length_le (by rw [hk]; omega), List.take_append, List.take_of_length_le (by rw [hk]; omega), hu, hk, hw]
      simp
      exact .inl (by omega)
    · intro y o hy hM
      have hne : y ≠ b := fun e => hy ⟨_, ha, e.symm⟩
      unfold Mem.setCells
      rw [Mem.upd_ne _ _ hne]; exact hM
end Go.Vm

/- The sum of records. -/
namespace Go.Proofs.Ytnlghoenbhbfhaa
open Go Go.Vm
attribute [local irreducible] Brn Ob Grow CallsM inR LoopVC Mem.row Mem.cells Mem.setCells Mem.upd Go.Vm.Own AppVC SrcVC StrVC NextVC New SrcOk subA NewSl Mem.textAt Mem.mapAt Mem.iterAt entryOf kfind Wr NewEls Elems
set_option maxRecDepth 10000
variable {M : Mem}
/-- a register moves down by a bit -/
def downI (r p : Int) : Int := if bitsOp .and .u32 r 1 = 1 then bitsOp .xor .u32 (r.fdiv (2 ^ (min (Int.toNat 1) (IntKind.bits .u32)))) p else r.fdiv (2 ^ (min (Int.toNat 1) (IntKind.bits .u32)))
theorem down_ok (r p : Int) : CallsM Try.prog F.crc_down [.int .u32 r, .int .u32 p] M fun v M' => v = .int .u32 (downI r p) ∧ M = M' := by
  refine fo_crc_down (by simp) ?_
  (conv => whnf); refine brn (fun g => ?_) (fun g => ?_)
  · repeat' ((conv => whnf); first | refine ⟨?_, True.intro⟩ | refine brn_t rfl ?_ | refine brn_f rfl ?_ | refine ob rfl ?_ | refine ob (by decide) ?_ | refine grow_same (Mem.le_refl _) ?_ | refine ob (Mem.le_refl _) ?_ | refine ⟨_, Mem.le_refl _, ?_⟩ | fail)
    exact ⟨by unfold downI; rw [if_pos (of_decide_eq_true g)], rfl⟩
  · repeat' ((conv => whnf); first | refine ⟨?_, True.intro⟩ | refine brn_t rfl ?_ | refine brn_f rfl ?_ | refine ob rfl ?_ | refine ob (by decide) ?_ | refine grow_same (Mem.le_refl _) ?_ | refine ob (Mem.le_refl _) ?_ | refine ⟨_, Mem.le_refl _, ?_⟩ | fail)
    exact ⟨by unfold downI; rw [if_neg (of_decide_eq_false g)], rfl⟩
/-- so many bits -/
def downs (r : Int) : Nat → Int
  | 0 => r
  | j + 1 => downI (downs r j) 3988292384
def byteC (r : Int) (b : UInt8) : Int := downs (bitsOp .xor .u32 r (IntKind.u32.wrap (b.toNat : Int))) 8
def regC (r : Int) (l : List UInt8) : Int := l.foldl byteC r
def sumI (l : List UInt8) : Int := bitsOp .xor .u32 (if IntKind.u32.signed = true then -1 else IntKind.u32.max) (regC 4294967295 l)
/-- a slice of bytes as an element -/
def BytesR (M : Mem) (cs : List Value) (x : List UInt8) : Prop := ∃ a n c, cs = [.slice a n c] ∧ n ≤ c ∧ SrcOk M 1 a n (x.map byteV)
theorem BytesR.le {M M' : Mem} {cs : List Value} {x : List UInt8} (h : BytesR M cs x) (hle : M.le M') : BytesR M' cs x := by
  obtain ⟨a, n, c, h1, h2, h3⟩ := h; exact ⟨a, n, c, h1, h2, h3.le hle⟩
theorem sum_ok {a : Option Addr} {n c : Nat} {ls : List (List UInt8)} (h : Elems M 1 a n (BytesR M) ls) (hn : n ≤ 4194304) (hl : ∀ l ∈ ls, l.length ≤ 4194304) :
    CallsM Try.prog F.crc_Sum [.slice a n c] M fun v M' => v = .int .u32 (sumI ls.flatten) ∧ M = M' := by
  refine fo_crc_Sum (by simp) ?_
  have hlen := h.len
  (conv => whnf)
  refine loopQ (σ := Nat) [10, 3] (fun i => [(10, .int .i64 i), (3, .int .u32 (regC 4294967295 (ls.take i).flatten))]) (fun i => i ≤ n) (fun i => n - i) 0 (by omega) ⟨(by repeat' first | exact True.intro | refine ⟨rfl, ?_⟩), (by repeat' first | exact True.intro | refine ⟨rfl, ?_⟩), Mem.le_refl _, rfl⟩ ?_
  intro i hi
  (conv => whnf); refine brn (fun g => ?_) (fun g => ?_)
  · have hlt : i < n := by have := of_decide_eq_true g; omega
    obtain ⟨hl1, b, o, cs, ha, -, hrow, hcl, a1, n1, c1, rfl, hnc1, hs1⟩ := h.at (by decide) hlt
    have hx : ls[i]? = some ls[i] := List.getElem?_eq_getElem hl1
    have hll := hl _ (List.getElem_mem hl1)
    have htk : (ls.take (i + 1)).flatten = (ls.take i).flatten ++ ls[i] := by rw [List.take_add_one, hx, List.flatten_append]; simp only [Option.toList_some, List.flatten_cons, List.flatten_nil, List.append_nil]
    generalize ls[i] = x at *
    have hxl := hs1.maplen
    (conv => whnf); refine ob (by first | omega | (dsimp only; omega)) ?_
    (conv => whnf); refine atp ha ?_
    (conv => whnf); refine on hrow ?_
    repeat' ((conv => whnf); first | refine ⟨?_, True.intro⟩ | refine brn_t rfl ?_ | refine brn_f rfl ?_ | refine ob rfl ?_ | refine ob (by decide) ?_ | refine grow_same (Mem.le_refl _) ?_ | refine ob (Mem.le_refl _) ?_ | refine ⟨_, Mem.le_refl _, ?_⟩ | fail)
    refine loopQ (σ := Nat) [16, 3] (fun j => [(16, .int .i64 j), (3, .int .u32 (regC 4294967295 ((ls.take i).flatten ++ x.take j)))]) (fun j => j ≤ n1) (fun j => n1 - j) 0 (by omega) ?_ ?_
    · rw [List.take_zero, List.append_nil]; exact ⟨(by repeat' first | exact True.intro | refine ⟨rfl, ?_⟩), (by repeat' first | exact True.intro | refine ⟨rfl, ?_⟩), Mem.le_refl _, rfl⟩
    intro j hj
    (conv => whnf); refine brn (fun g2 => ?_) (fun g2 => ?_)
    · have hlt2 : j < n1 := by have := of_decide_eq_true g2; omega
      obtain ⟨hk, b2, o2, ha2, hr2⟩ := hs1.at hlt2
      have hxj : x[j]? = some x[j] := List.getElem?_eq_getElem hk
      have htk2 : x.take (j + 1) = x.take j ++ [x[j]] := by rw [List.take_add_one, hxj]; rfl
      generalize x[j] = y at *
      (conv => whnf); refine ob (by first | omega | (dsimp only; omega)) ?_
      (conv => whnf); refine atp ha2 ?_
      (conv => whnf); refine on hr2 ?_
      repeat' ((conv => whnf); first | refine ⟨?_, True.intro⟩ | refine brn_t rfl ?_ | refine brn_f rfl ?_ | refine ob rfl ?_ | refine ob (by decide) ?_ | refine grow_same (Mem.le_refl _) ?_ | refine ob (Mem.le_refl _) ?_ | refine ⟨_, Mem.le_refl _, ?_⟩ | fail)
      refine loopQ (σ := Nat) [24, 3] (fun q => [(24, .int .i64 q), (3, .int .u32 (downs (bitsOp .xor .u32 (regC 4294967295 ((ls.take i).flatten ++ x.take j)) (IntKind.u32.wrap (y.toNat : Int))) q))]) (fun q => q ≤ 8) (fun q => 8 - q) 0 (by omega) ⟨(by repeat' first | exact True.intro | refine ⟨rfl, ?_⟩), (by repeat' first | exact True.intro | refine ⟨rfl, ?_⟩), Mem.le_refl _, rfl⟩ ?_
      intro q hq
      (conv => whnf); refine brn (fun g3 => ?_) (fun g3 => ?_)
      · have hlt3 : q < 8 := by have := of_decide_eq_true g3; omega
        repeat' ((conv => whnf); first | refine ⟨?_, True.intro⟩ | refine brn_t rfl ?_ | refine brn_f rfl ?_ | refine ob rfl ?_ | refine ob (by decide) ?_ | refine grow_same (Mem.le_refl _) ?_ | refine ob (Mem.le_refl _) ?_ | refine ⟨_, Mem.le_refl _, ?_⟩ | fail)
        refine (down_ok _ _).mono ?_
        rintro v _ ⟨rfl, rfl⟩
        repeat' ((conv => whnf); first | refine ⟨?_, True.intro⟩ | refine brn_t rfl ?_ | refine brn_f rfl ?_ | refine ob rfl ?_ | refine ob (by decide) ?_ | refine grow_same (Mem.le_refl _) ?_ | refine ob (Mem.le_refl _) ?_ | refine ⟨_, Mem.le_refl _, ?_⟩ | fail)
        refine ob (inR_i64 (by first | omega | (dsimp only; omega))) ?_
        (conv => whnf)
        exact ⟨q + 1, by omega, by omega, ⟨(by repeat' first | exact True.intro | refine ⟨rfl, ?_⟩), (by repeat' first | exact True.intro | refine ⟨rfl, ?_⟩), Mem.le_refl _, rfl⟩⟩
      · have hge : q = 8 := by have := of_decide_eq_false g3; omega
        subst hge
        repeat' ((conv => whnf); first | refine ⟨?_, True.intro⟩ | refine brn_t rfl ?_ | refine brn_f rfl ?_ | refine ob rfl ?_ | refine ob (by decide) ?_ | refine grow_same (Mem.le_refl _) ?_ | refine ob (Mem.le_refl _) ?_ | refine ⟨_, Mem.le_refl _, ?_⟩ | fail)
        refine ob (inR_i64 (by first | omega | (dsimp only; omega))) ?_
        (conv => whnf)
        refine ⟨j + 1, by omega, by omega, ?_⟩
        have e : regC 4294967295 ((ls.take i).flatten ++ x.take (j + 1)) = downs (bitsOp .xor .u32 (regC 4294967295 ((ls.take i).flatten ++ x.take j)) (IntKind.u32.wrap (y.toNat : Int))) 8 := by
          rw [htk2, ← List.append_assoc]
          unfold regC
          rw [List.foldl_append (l' := [y])]
          rfl
        rw [e]
        exact ⟨(by repeat' first | exact True.intro | refine ⟨rfl, ?_⟩), (by repeat' first | exact True.intro | refine ⟨rfl, ?_⟩), Mem.le_refl _, rfl⟩
    · have hge : j = n1 := by have := of_decide_eq_false g2; omega
      subst hge
      rw [List.take_of_length_le (l := x) (by omega), ← htk]
      repeat' ((conv => whnf); first | refine ⟨?_, True.intro⟩ | refine brn_t rfl ?_ | refine brn_f rfl ?_ | refine ob rfl ?_ | refine ob (by decide) ?_ | refine grow_same (Mem.le_refl _) ?_ | refine ob (Mem.le_refl _) ?_ | refine ⟨_, Mem.le_refl _, ?_⟩ | fail)
      refine ob (inR_i64 (by first | omega | (dsimp only; omega))) ?_
      (conv => whnf)
      exact ⟨i + 1, by omega, by omega, ⟨(by repeat' first | exact True.intro | refine ⟨rfl, ?_⟩), (by repeat' first | exact True.intro | refine ⟨rfl, ?_⟩), Mem.le_refl _, rfl⟩⟩
  · have hge : i = n := by have := of_decide_eq_false g; omega
    subst hge
    rw [List.take_of_length_le (l := ls) (by omega)]
    repeat' ((conv => whnf); first | refine ⟨?_, True.intro⟩ | refine brn_t rfl ?_ | refine brn_f rfl ?_ | refine ob rfl ?_ | refine ob (by decide) ?_ | refine grow_same (Mem.le_refl _) ?_ | refine ob (Mem.le_refl _) ?_ | refine ⟨_, Mem.le_refl _, ?_⟩ | fail)
    exact ⟨rfl, rfl⟩
end Go.Proofs.Ytnlghoenbhbfhaa

namespace Go.Proofs.Ytnlghoenbhbfhaa
open Go Go.Vm
attribute [local irreducible] Brn Ob Grow CallsM inR LoopVC Mem.row Mem.cells Mem.setCells Mem.upd Go.Vm.Own AppVC SrcVC StrVC NextVC New SrcOk subA
/-- a byte of a number -/
def byteAt (x : Int) (s : Int) : UInt8 := UInt8.ofNat ((x.fdiv (2 ^ s.toNat)) % 256).toNat
/-- so many bytes of a number, the great end first -/
def be : Nat → Int → List UInt8
  | 0, _ => []
  | k + 1, x => byteAt x (8 * k) :: be k x
def putErr (x size : Int) : Int := if size < 1 ∨ 8 < size then 1 else if size < 8 ∧ x.fdiv (2 ^ (8 * size).toNat) ≠ 0 then 3 else 0
theorem be_length : ∀ (k : Nat) (x : Int), (be k x).length = k
  | 0, _ => rfl
  | k + 1, x => by simp [be, be_length k x]
theorem be_get (x : Int) : ∀ (m k : Nat), k < m → (be m x)[k]? = some (byteAt x (8 * ((m : Int) - 1 - k)))
  | m + 1, 0, _ => by simp [be]
  | m + 1, k + 1, h => by
    simp only [be, List.getElem?_cons_succ]
    rw [be_get x m k (by omega)]
    congr 2
    omega
theorem wrap_byte (x s : Int) (hs : 0 ≤ s ∧ s ≤ 64) : Value.int .u8 (IntKind.u8.wrap (x.fdiv (2 ^ (min s.toNat (IntKind.bits .u64))))) = byteV (byteAt x s) := by
  have h1 : min s.toNat (IntKind.bits .u64) = s.toNat := by simp [IntKind.bits]; omega
  rw [h1]
  simp only [byteV, byteAt]
  congr 1
  generalize x.fdiv (2 ^ s.toNat) = y
  have h : IntKind.u8.wrap y = y % 256 := by
    simp [IntKind.wrap, IntKind.signed, IntKind.bits]
  rw [h]
  have : 0 ≤ y % 256 ∧ y % 256 < 256 := by omega
  simp
  omega
set_option maxRecDepth 10000 in
theorem bitsPut_ok (a : Option Addr) (n c : Nat) (x size : Int) (M : Mem) (bs : List UInt8) (hs : SrcOk M 1 a n (bs.map byteV)) (hn : n ≤ 4194304) :
    CallsM Try.prog F.bits_Put [.slice a n c, .int .u64 x, .int .i64 size] M fun v M' => (putErr x size ≠ 0 ∧ v = .tuple #[.slice none 0 0, .int .i64 (putErr x size)] ∧ M = M') ∨
      (putErr x size = 0 ∧ ∃ a' c', v = .tuple #[.slice a' (n + size.toNat) c', .int .i64 0] ∧ Go.Vm.Own M T.uint8 1 a' (n + size.toNat) c' ((bs ++ be size.toNat x).map byteV) M') := by
  refine fo_bits_Put (by simp) ?_
  (conv => whnf)
  refine brn (fun h1 => ?_) (fun h1 => ?_)
  · (conv => whnf)
    refine .inl ⟨?_, ?_, rfl⟩ <;> simp_all [putErr]
  (conv => whnf)
  refine brn (fun h2 => ?_) (fun h2 => ?_)
  · (conv => whnf)
    refine .inl ⟨?_, ?_, rfl⟩ <;> simp_all [putErr]
  (conv => whnf)
  simp only [decide_eq_false_iff_not, Int.not_lt] at h1 h2
  have h64 : min (8 * size).toNat (IntKind.bits .u64) = (8 * size).toNat := by simp [IntKind.bits]; omega
  refine brn (fun h3 => ?_) (fun h3 => ?_)
  (conv => whnf)
  refine ob (inR_i64 (by omega)) ?_
  (conv => whnf)
  refine ob (by omega) ?_
  (conv => whnf)
  refine brn (fun h4 => ?_) (fun h4 => ?_)
  · (conv => whnf)
    rw [h64] at h4
    have hp : putErr x size = 3 := by simp_all [putErr]
    exact .inl ⟨by rw [hp]; decide, by rw [hp], rfl⟩
  rw [h64] at h4
  have hp : putErr x size = 0 := by simp_all [putErr]
  rotate_left
  have hp : putErr x size = 0 := by simp_all [putErr]; omega
  all_goals
    (conv => whnf)
    refine new (fun b hb => ?_)
    replace hb : M b = none := hb
    (conv => whnf)
    refine srcv (SrcOk.le (Mem.le_setCells hb) hs) ?_
    (conv => whnf)
    refine app M [] (Own.lit hb T.uint8 1 0 [] rfl) (by omega) (by simp [maxLen]; omega) (by simp [byteV, Value.oneCell']) fun a' c' M' hown => ?_
    (conv => whnf)
    refine ob (inR_i64 (by omega)) ?_
    (conv => whnf)
    refine loop (σ := Option Addr × Nat × Mem × Int × Nat × Nat) (fun | ⟨a1, c1, M1, sh, N, _⟩ => ⟨[(9, .int .i64 sh), (8, .slice a1 N c1), (1, .int .u64 x)], [], M1⟩)
      (fun | ⟨a1, c1, M1, sh, N, k⟩ => sh = 8 * (size - k) ∧ N = n + k ∧ (k : Int) < size ∧ Go.Vm.Own M T.uint8 1 a1 N c1 ((bs ++ (be size.toNat x).take k).map byteV) M1)
      (fun | ⟨_, _, _, sh, _, _⟩ => sh.toNat) ⟨a', c', M', 8 * size, 0 + n, 0⟩ ⟨by simp, by simp, by simp; omega, by simpa using hown⟩ ⟨⟨rfl, rfl, rfl, trivial⟩, trivial, Mem.le_refl _, rfl⟩ ?_
    rintro ⟨a1, c1, M1, sh, N, k⟩ ⟨hsh, hN, hk, hown1⟩
    (conv => whnf)
    refine ob (inR_i64 (by omega)) ?_
    (conv => whnf)
    refine ob (by omega) ?_
    (conv => whnf)
    refine app M _ hown1 (by omega) (by simp [maxLen]; omega) (by simp [Value.oneCell']) fun a2 c2 M2 hown2 => ?_
    rw [wrap_byte x (sh - 8) (by omega)] at hown2
    have hb1 : (be size.toNat x)[k]? = some (byteAt x (sh - 8)) := by
      rw [be_get x size.toNat k (by omega)]
      congr 2
      omega
    have hl : (bs ++ (be size.toNat x).take k).map byteV ++ [byteV (byteAt x (sh - 8))] = (bs ++ (be size.toNat x).take (k + 1)).map byteV := by
      rw [List.take_add_one, hb1]
      simp
    rw [hl] at hown2
    (conv => whnf)
    refine brn (fun h5 => ?_) (fun h5 => ?_)
    · (conv => whnf)
      have hk1 : k + 1 = size.toNat := by simp at h5; omega
      have hN1 : N + 1 = n + size.toNat := by omega
      rw [hk1, List.take_of_length_le (by rw [be_length]; omega), hN1] at hown2
      rw [hN1]
      exact .inr ⟨hp, a2, c2, rfl, hown2⟩
    · (conv => whnf)
      simp at h5
      exact ⟨⟨a2, c2, M2, sh - 8, N + 1, k + 1⟩, ⟨by omega, by omega, by omega, hown2⟩, by show (sh - 8).toNat < sh.toNat; omega, ⟨rfl, rfl, rfl, trivial⟩, trivial, Mem.le_refl _, rfl⟩
end Go.Proofs.Ytnlghoenbhbfhaa

/- Numbers of bytes: bits.Get. -/
namespace Go.Proofs.Ytnlghoenbhbfhaa
open Go Go.Vm
attribute [local irreducible] Brn Ob Grow CallsM inR LoopVC Mem.row Mem.cells Mem.setCells Mem.upd Go.Vm.Own AppVC SrcVC StrVC NextVC New SrcOk subA NewSl Mem.textAt Mem.mapAt Mem.iterAt entryOf kfind Wr NewEls Elems
set_option maxRecDepth 10000
/-- the number of bytes, the great end first -/
def num : List UInt8 → Nat → Nat
  | [], acc => acc
  | b :: r, acc => num r (256 * acc + b.toNat)
theorem num_append (l r : List UInt8) (acc : Nat) : num (l ++ r) acc = num r (num l acc) := by
  induction l generalizing acc with
  | nil => rfl
  | cons b l ih => simp [num, ih]
theorem num_lt (l : List UInt8) (acc : Nat) : num l acc < 256 ^ l.length * (acc + 1) := by
  induction l generalizing acc with
  | nil => simp [num]
  | cons b l ih =>
    have := ih (256 * acc + b.toNat)
    have hb := b.toNat_lt
    simp only [num, List.length_cons, Nat.pow_succ]
    refine Nat.lt_of_lt_of_le this ?_
    rw [Nat.mul_assoc]
    exact Nat.mul_le_mul_left _ (by omega)
theorem shl_or (n b : Nat) (hb : b < 256) (hn : n < 2 ^ 56) : bitsOp .or .u64 (IntKind.u64.wrap ((n : Int) * 2 ^ (min (Int.toNat 8) (IntKind.bits .u64)))) (IntKind.u64.wrap (b : Int)) = ((256 * n + b : Nat) : Int) := by
  have h1 : IntKind.u64.wrap ((n : Int) * 2 ^ (min (Int.toNat 8) (IntKind.bits .u64))) = ((256 * n : Nat) : Int) := by
    simp [IntKind.wrap, IntKind.signed, IntKind.bits]; omega
  have h2 : IntKind.u64.wrap (b : Int) = ((b : Nat) : Int) := by simp [IntKind.wrap, IntKind.signed, IntKind.bits]; omega
  rw [h1, h2]
  have h3 : (256 * n) ||| b = 256 * n + b := by
    have := Nat.shiftLeft_add_eq_or_of_lt (i := 8) (b := b) (by omega) n
    rw [Nat.shiftLeft_eq, show (2 : Nat) ^ 8 = 256 from rfl] at this
    rw [Nat.mul_comm 256 n]
    omega
  simp only [bitsOp, IntKind.bits]
  have e1 : (BitVec.ofInt 64 ((256 * n : Nat) : Int) ||| BitVec.ofInt 64 ((b : Nat) : Int)).toNat = 256 * n + b := by
    rw [BitVec.toNat_or, BitVec.ofInt_natCast, BitVec.ofInt_natCast, BitVec.toNat_ofNat, BitVec.toNat_ofNat, Nat.mod_eq_of_lt (by omega), Nat.mod_eq_of_lt (by omega), h3]
  erw [e1]
  simp [IntKind.wrap, IntKind.signed, IntKind.bits]; omega
/-- what Get says of bytes -/
def getErr (n : Nat) (at' size : Int) : Int := if size < 1 ∨ 8 < size ∨ at' < 0 then 1 else if (n : Int) < at' ∨ (n : Int) - at' < size then 2 else 0
def getNum (l : List UInt8) (at' size : Int) : Nat := num ((l.drop at'.toNat).take size.toNat) 0
theorem bitsGet_ok (a : Option Addr) (n c : Nat) (M : Mem) (l : List UInt8) (hs : SrcOk M 1 a n (l.map byteV)) (hn : n ≤ 4194304) (hc : n ≤ c) (at' size : Int) (he : getErr n at' size = 0) :
    CallsM Try.prog F.bits_Get [.slice a n c, .int .i64 at', .int .i64 size] M fun v M' => v = .tuple #[.int .u64 (getNum l at' size), .int .i64 0] ∧ M = M' := by
  have hl := hs.maplen
  have hb : (1 ≤ size ∧ size ≤ 8 ∧ 0 ≤ at') ∧ at' ≤ n ∧ size ≤ n - at' := by
    unfold getErr at he; split at he
    · cases he
    · split at he
      · cases he
      · omega
  refine fo_bits_Get (by simp) ?_
  (conv => whnf); refine brn_f (by simp; omega) ?_
  (conv => whnf); refine brn_f (by simp; omega) ?_
  (conv => whnf); refine brn_f (by simp; omega) ?_
  (conv => whnf); refine brn_f (by simp; omega) ?_
  (conv => whnf); refine ob (inR_i64 (by omega)) ?_
  (conv => whnf); refine brn_f (by simp; omega) ?_
  (conv => whnf); refine ob (inR_i64 (by omega)) ?_
  (conv => whnf); refine ob (by omega) ?_
  have hsub := hs.subm (lo := at'.toNat) (hi := (at' + size).toNat) (by omega) (by omega) hc
  have hK : (at' + size).toNat - at'.toNat = size.toNat := by omega
  rw [hK] at hsub
  have hcl := hsub.maplen
  (conv => whnf)
  rw [hK]
  refine loopQ (σ := Nat) [40, 8] (fun i => [(40, .int .i64 i), (8, .int .u64 (num (((l.drop at'.toNat).take size.toNat).take i) 0 : Nat))]) (fun i => i ≤ size.toNat) (fun i => size.toNat - i) 0 (by omega) ⟨(by repeat' first | exact True.intro | refine ⟨rfl, ?_⟩), (by repeat' first | exact True.intro | refine ⟨rfl, ?_⟩), Mem.le_refl _, rfl⟩ ?_
  intro i hi
  (conv => whnf); refine brn (fun h => ?_) (fun h => ?_)
  · have h' : i < size.toNat := by have := of_decide_eq_true h; omega
    obtain ⟨hlt, b, o, hp, hrow⟩ := hsub.at (i := i) h'
    (conv => whnf); refine ob (by omega) ?_
    (conv => whnf); refine atp hp ?_
    (conv => whnf); refine on hrow ?_
    (conv => whnf); refine ob (by decide) ?_
    (conv => whnf); refine ob (inR_i64 (by omega)) ?_
    (conv => whnf)
    refine ⟨i + 1, by omega, by omega, ?_, trivial, Mem.le_refl _, rfl⟩
    have hnl := num_lt (((l.drop at'.toNat).take size.toNat).take i) 0
    have hpow : (256 : Nat) ^ (((l.drop at'.toNat).take size.toNat).take i).length ≤ 256 ^ 7 := Nat.pow_le_pow_right (by decide) (by simp; omega)
    have e := shl_or (num (((l.drop at'.toNat).take size.toNat).take i) 0) (((l.drop at'.toNat).take size.toNat)[i]).toNat (UInt8.toNat_lt _) (by
      have : (256 : Nat) ^ 7 = 2 ^ 56 := by decide
      omega)
    have e2 : num (((l.drop at'.toNat).take size.toNat).take (i + 1)) 0 = 256 * num (((l.drop at'.toNat).take size.toNat).take i) 0 + (((l.drop at'.toNat).take size.toNat)[i]).toNat := by
      rw [List.take_add_one, List.getElem?_eq_getElem hlt, num_append]; rfl
    refine ⟨rfl, ?_⟩
    refine ⟨?_, (by repeat' first | exact True.intro | refine ⟨rfl, ?_⟩)⟩
    show some (SV.int .u64 _) = some (SV.int .u64 _)
    rw [e2]
    exact congrArg (fun z => some (SV.int .u64 z)) e
  · have h' : i = size.toNat := by have := of_decide_eq_false h; omega
    subst h'
    (conv => whnf)
    refine ⟨?_, rfl⟩
    rw [getNum, List.take_of_length_le (l := (l.drop at'.toNat).take size.toNat) (by omega)]
theorem bitsGet_no (a : Option Addr) (n c : Nat) (M : Mem) (at' size : Int) (he : getErr n at' size ≠ 0) (hn : n ≤ 4194304) : CallsM Try.prog F.bits_Get [.slice a n c, .int .i64 at', .int .i64 size] M fun v M' => v = .tuple #[.int .u64 0, .int .i64 (getErr n at' size)] ∧ M = M' := by
  refine fo_bits_Get (by simp) ?_
  by_cases h1 : size < 1 ∨ 8 < size ∨ at' < 0
  · have e : getErr n at' size = 1 := by rw [getErr, if_pos h1]
    rw [e]
    repeat' ((conv => whnf); first | refine brn (fun h => ?_) (fun h => ?_) | refine ob (inR_i64 (by simp at *; omega)) ?_ | fail)
    all_goals (try (conv => whnf))
    all_goals simp only [decide_eq_true_eq, decide_eq_false_iff_not] at *
    all_goals first
      | exact ⟨rfl, rfl⟩
      | exact ⟨trivial, trivial⟩
      | (exfalso; omega)
  · have h2 : (n : Int) < at' ∨ (n : Int) - at' < size := by
      rw [getErr, if_neg h1] at he; split at he
      · assumption
      · exact absurd rfl he
    have e : getErr n at' size = 2 := by rw [getErr, if_neg h1, if_pos h2]
    rw [e]
    repeat' ((conv => whnf); first | refine brn (fun h => ?_) (fun h => ?_) | refine ob (inR_i64 (by simp at *; omega)) ?_ | refine ob (by simp at *; omega) ?_ | fail)
    all_goals (try (conv => whnf))
    all_goals simp only [decide_eq_true_eq, decide_eq_false_iff_not] at *
    all_goals first
      | exact ⟨rfl, rfl⟩
      | exact ⟨trivial, trivial⟩
      | (exfalso; omega)
end Go.Proofs.Ytnlghoenbhbfhaa

