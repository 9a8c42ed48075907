/- Parts of rows. -/
import Derived.Test.YtjkejbenppeagaaGreatDoorVmV
namespace Go.Vm
theorem Mem.row_part {M : Mem} {b o k : Nat} {vs : List Value} (h : M.row b o k = some vs) {p n : Nat} (hp : p + n ≤ k) : M.row b (o + p) n = some ((vs.drop p).take n) := by
  unfold Mem.row at h ⊢
  split at h
  · rename_i c e fz hc
    split at h
    · rename_i hle
      simp only [Option.some.injEq] at h
      subst h
      rw [if_pos (by omega)]
      congr 1
      rw [List.drop_take, List.take_take, List.drop_drop]
      congr 1
      omega
    · cases h
  · cases h
theorem SrcOk.fparts {α : Type} {enc : α → List Value} {s : Nat} (hlen : ∀ x, (enc x).length = s) {M : Mem} {a : Option Addr} {n : Nat} {l : List α} (h : SrcOk M s a n (l.flatMap enc)) (hs : 0 < s) {j : Nat} {x : α} (hx : l[j]? = some x) :
    ∃ b o, a = some ⟨b, o, Option.none⟩ ∧ ∀ p m, p + m ≤ s → M.row b (o + j * s + p) m = some (((enc x).drop p).take m) := by
  obtain ⟨b, o, ha, hr⟩ := h.fall hlen hs hx
  exact ⟨b, o, ha, fun p m hp => Mem.row_part hr hp⟩
theorem flatten_take {α : Type} {s : Nat} : ∀ {css : List (List α)} (_ : ∀ cs ∈ css, cs.length = s) (k : Nat), (css.take k).flatten = css.flatten.take (k * s)
  | [], _, k => by simp
  | c :: r, h, 0 => by simp
  | c :: r, h, k + 1 => by
    have hc : c.length = s := h c (by simp)
    rw [List.take_succ_cons, List.flatten_cons, List.flatten_cons, flatten_take (fun cs hcs => h cs (List.mem_cons_of_mem _ hcs)) k, Nat.succ_mul, Nat.add_comm, ← hc, List.take_length_add_append]
theorem Elems.take {α : Type} {M : Mem} {s : Nat} {a : Option Addr} {n c : Nat} {R : List Value → α → Prop} {l : List α} (h : Elems M s a n R l) {k : Nat} (hk : k ≤ n) (hc : n ≤ c) (hs : 0 < s) : Elems M s (subA a 0 c s) k R (l.take k) := by
  obtain ⟨css, h1, h2, h3, h4, h5⟩ := h
  refine ⟨css.take k, ?_, by simp; omega, by simp; omega, fun cs hcs => h4 cs (List.mem_of_mem_take hcs), fun i cs x hi hx => ?_⟩
  · have h6 := h1.sub (lo := 0) (hi := k) (by omega) hk hc hs
    rw [Nat.zero_mul, List.drop_zero, Nat.sub_zero, ← flatten_take h4] at h6
    exact h6
  · have hik : i < k := by
      have := (List.getElem?_eq_some_iff.1 hi).1
      simp at this; omega
    rw [List.getElem?_take_of_lt hik] at hi hx
    exact h5 i cs x hi hx
/-- one whole struct is written -/
theorem Wr.fset {α : Type} {enc : α → List Value} {s : Nat} (hk : ∀ x, (enc x).length = s) {M : Mem} {E : TypeId} {a : Option Addr} {n c : Nat} {l : List α} (h : Wr M E s a n c (l.flatMap enc)) (hs : 0 < s) {j : Nat} (hj : j < n) :
    ∃ b cs, a = some ⟨b, 0, Option.none⟩ ∧ M.cells b = some (E, cs) ∧ 0 + j * s + s ≤ cs.length ∧ ∀ x', Wr (M.setCells b E (splice cs (0 + j * s) (enc x'))) E s a n c ((l.set j x').flatMap enc) ∧ Mem.keep (blk a) M (M.setCells b E (splice cs (0 + j * s) (enc x'))) := by
  have hl := h.len
  rw [fm_len hk] at hl
  have hln : l.length = n := Nat.eq_of_mul_eq_mul_right hs hl
  obtain ⟨h1, h2, ⟨ha, hc⟩ | ⟨b, cs, ha, hh, hcl, ht⟩⟩ := h
  · omega
  · have hle : n * s ≤ c * s := Nat.mul_le_mul_right _ h2
    have hjn : (j + 1) * s ≤ n * s := Nat.mul_le_mul_right _ (by omega)
    rw [Nat.succ_mul] at hjn
    refine ⟨b, cs, ha, hh.cells, by omega, fun x' => ⟨⟨?_, h2, .inr ⟨b, _, ha, Mem.has_setCells, ?_, ?_⟩⟩, ?_⟩⟩
    · rw [fm_len hk]; simp [hln]
    · unfold splice
      simp only [List.length_append, List.length_take, List.length_drop, hk]
      omega
    · rw [Nat.zero_add]
      have hjl : j < l.length := by omega
      have e1 : l.flatMap enc = (l.take j).flatMap enc ++ (enc l[j] ++ (l.drop (j + 1)).flatMap enc) := by
        conv => lhs; rw [← List.take_append_drop j l, List.drop_eq_getElem_cons hjl]
        rw [List.flatMap_append, List.flatMap_cons]
      have e2 : (l.set j x').flatMap enc = (l.take j).flatMap enc ++ (enc x' ++ (l.drop (j + 1)).flatMap enc) := by
        rw [List.set_eq_take_append_cons_drop, if_pos hjl, List.flatMap_append, List.flatMap_cons]
      have hu : ((l.take j).flatMap enc).length = j * s := by rw [fm_len hk, List.length_take, Nat.min_eq_left (by omega)]
      have hcs : cs = (l.take j).flatMap enc ++ (enc l[j] ++ ((l.drop (j + 1)).flatMap enc ++ cs.drop (n * s))) := by
        conv => lhs; rw [← List.take_append_drop (n * s) cs, ht, e1]
        simp
      generalize cs.drop (n * s) = R at hcs
      have hw : ((l.drop (j + 1)).flatMap enc).length = n * s - (j * s + s) := by rw [fm_len hk]; simp [hln]; rw [Nat.sub_mul, Nat.succ_mul]
      generalize (l.take j).flatMap enc = A at *
      generalize (l.drop (j + 1)).flatMap enc = B at *
      rw [e2, hcs]
      unfold splice
      rw [hk, List.take_left' hu, ← List.drop_drop, List.drop_left' hu, List.drop_left' (hk _)]
      rw [List.append_assoc, List.take_append, List.take_of_length_le (by omega), List.take_append, List.take_of_length_le (by rw [hk]; omega), List.take_append, List.take_of_length_le (by rw [hk]; omega), hu, hk, hw]
      simp
      exact .inl (by omega)
    · intro y o hy hM
      have hne : y ≠ b := fun e => hy ⟨_, ha, e.symm⟩
      unfold Mem.setCells
      rw [Mem.upd_ne _ _ hne]; exact hM
end Go.Vm
