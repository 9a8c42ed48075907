/- The set of what was seen: an entry turns, or is new. -/
import Derived.Test.YtmifjilknojkaaaSeenC
import Derived.Test.YtmifjilknojkaaaVmU
namespace Go.Proofs.Ytmifjilknojkaaa
open Go Go.Vm
attribute [local irreducible] Brn Ob Grow CallsM inR LoopVC Mem.row Mem.cells Mem.setCells Mem.upd Own AppVC SrcVC StrVC NextVC New SrcOk subA NewSl Mem.textAt Mem.mapAt Mem.iterAt entryOf kfind Wr NewEls Elems
set_option maxRecDepth 10000
variable {M : Mem} {p b : Nat} {gaps : Int} {es : List ((Int × Int) × Ent)}
/-- an entry's blocks hold something -/
theorem EntAt.some {x : Ent} (h : EntAt M x) {y : Nat} (hy : x.own y) : M y ≠ none := by
  rcases hy with rfl | ⟨q, hq, rfl⟩
  · have := h.self; unfold Mem.has at this; rw [this]; simp
  · obtain ⟨cs, hh⟩ := h.more.block hq
    unfold Mem.has at hh; rw [hh]; simp
theorem EntAt.noset {x : Ent} (h : EntAt M x) {p : Nat} {l : List Value} (hp : M.has p T.seen_Set l) : ¬ x.own p := by
  rintro (e | ⟨q, hq, e⟩)
  · subst e
    exact absurd (h.self.inj hp).1 (by decide)
  · obtain ⟨cs, hh⟩ := h.more.block hq
    subst e
    exact absurd (hh.inj hp).1 (by decide)
/-- an entry turns -/
theorem SetAt.turn {M' : Mem} (h : SetAt M p b gaps es) {k : Int × Int} {x x' : Ent} (hx : aget es k = some x) (hk : Mem.keep x.own M M') (he : EntAt M' x') (hr : x'.r = x.r) (hown : ∀ y, x'.own y → x.own y ∨ M y = none) : SetAt M' p b gaps (aput es k x') := by
  have hxe := h.ents _ (aget_mem hx)
  have hpa : aput es k x' = aset es k x' := by simp [aput, hx]
  obtain ⟨u, v, h1, h2, h3, h4⟩ := aset_split h.map.nodup hx x'
  have hap := h.apart
  rw [h1] at hap
  have hap' := List.pairwise_append.1 hap
  have hmem : ∀ q, q ∈ u ∨ q ∈ v → q ∈ es := fun q hq => by rw [h1]; rcases hq with hq | hq <;> simp [hq]
  have hfar : ∀ q, q ∈ u ∨ q ∈ v → ∀ y, q.2.own y → ¬ x.own y := fun q hq y hy hxy => by
    rcases hq with hq | hq
    · exact hap'.2.2 q hq (k, x) (by simp) y hy hxy
    · exact (List.pairwise_cons.1 hap'.2.1).1 q hq y hxy hy
  have hfar' : ∀ q, q ∈ u ∨ q ∈ v → ∀ y, q.2.own y → ¬ x'.own y := fun q hq y hy hxy => by
    rcases hown y hxy with h5 | h5
    · exact hfar q hq y hy h5
    · exact (h.ents q (hmem q hq)).some hy h5
  rw [hpa, h2]
  refine ⟨hk _ _ (hxe.noset h.self) h.self, ?_, fun q hq => ?_, ?_⟩
  · have hm := h.map.relabel (fun q => if q.1 = k then x' else q.2) (fun q hq => by
      split
      · rename_i e
        have : aget es k = some q.2 := aget_of_mem h.map.nodup (by obtain ⟨q1, q2⟩ := q; simp only at e; subst e; exact hq)
        rw [hx] at this
        rw [show q.2 = x from (Option.some.inj this).symm]
        simp [entV, hr]
      · rfl)
    have e : (es.map fun q => (q.1, if q.1 = k then x' else q.2)) = u ++ (k, x') :: v := by
      rw [h1, List.map_append, List.map_cons]
      congr 1
      · rw [List.map_congr_left (g := id), List.map_id]
        intro q hq; simp [h3 q hq]
      · congr 1
        · simp
        · rw [List.map_congr_left (g := id), List.map_id]
          intro q hq; simp [h4 q hq]
    rw [e] at hm
    exact hm.mono fun o ho => hk _ o (hxe.nomap h.map) ho
  · rcases List.mem_append.1 hq with hq | hq
    · exact (h.ents q (hmem q (.inl hq))).mono fun y o hy ho => hk y o (hfar q (.inl hq) y hy) ho
    · rcases List.mem_cons.1 hq with rfl | hq
      · exact he
      · exact (h.ents q (hmem q (.inr hq))).mono fun y o hy ho => hk y o (hfar q (.inr hq) y hy) ho
  · rw [List.pairwise_append]
    refine ⟨hap'.1, List.pairwise_cons.2 ⟨fun q hq y hy hqy => hfar' q (.inr hq) y hqy hy, (List.pairwise_cons.1 hap'.2.1).2⟩, fun q hq q' hq' => ?_⟩
    rcases List.mem_cons.1 hq' with rfl | hq'
    · exact fun y hy hxy => hfar' q (.inl hq) y hy hxy
    · exact hap'.2.2 q hq q' (List.mem_cons_of_mem _ hq')
/-- a new entry -/
theorem SetAt.more {M' : Mem} (h : SetAt M p b gaps es) {k : Int × Int} {x : Ent} (hx : aget es k = none) (hk : Mem.keep (fun y => y = b) M M') (hm : MapAt keyV entV M' b (aput es k x)) (he : EntAt M' x) (hown : ∀ y, x.own y → M y = none) : SetAt M' p b gaps (aput es k x) := by
  have hpa : aput es k x = es ++ [(k, x)] := by simp [aput, hx]
  refine ⟨hk _ _ (h.map.nb h.self) h.self, hm, fun q hq => ?_, ?_⟩
  · rw [hpa] at hq
    rcases List.mem_append.1 hq with hq | hq
    · exact (h.ents q hq).mono fun y o hy ho => hk y o (fun e => by subst e; exact (h.ents q hq).nomap h.map hy) ho
    · simp at hq; subst hq; exact he
  · rw [hpa, List.pairwise_append]
    refine ⟨h.apart, by simp, fun q hq q' hq' => ?_⟩
    simp at hq'; subst hq'
    exact fun y hy hxy => (h.ents q hq).some hy (hown y hxy)
end Go.Proofs.Ytmifjilknojkaaa
