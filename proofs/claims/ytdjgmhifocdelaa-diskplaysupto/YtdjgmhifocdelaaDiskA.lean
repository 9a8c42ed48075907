/- The disk: how it lies in memory; what that says of its files. -/
import Derived.Test.YtdjgmhifocdelaaDiskP
import Derived.Test.YtdjgmhifocdelaaCodeA
import Derived.Test.YtdjgmhifocdelaaVmV
import Derived.Test.YtdjgmhifocdelaaVmW
namespace Go.Proofs.Ytdjgmhifocdelaa
open Go Go.Vm
attribute [local irreducible] Brn Ob Grow CallsM inR LoopVC Mem.row Mem.cells Mem.setCells Mem.upd Own AppVC SrcVC StrVC NextVC New SrcOk subA NewSl Mem.textAt Mem.mapAt Mem.iterAt entryOf kfind Wr NewEls Elems
set_option maxRecDepth 10000
@[reducible] def intV (n : Int) : Value := .int .i64 n
@[reducible] def ptr (p : Nat) : Value := .pointer (some ⟨p, 0, none⟩)
@[reducible] def strV (k : ByteArray) : Value := .string k
theorem strK : KeyOk strV := fun _ _ => rfl
/-- a file: its block, where its bytes lie, its bytes, how many are safe -/
structure FX where
  f : Nat
  a : Option Addr
  c : Nat
  p : List UInt8
  safe : Nat
@[reducible] def fxV (x : FX) : Value := ptr x.f
structure FXAt (M : Mem) (x : FX) : Prop where
  self : M.has x.f T.disk_file [.slice x.a x.p.length x.c, .int .i64 x.safe]
  row : Wr M T.uint8 1 x.a x.p.length x.c (x.p.map byteV)
/-- blocks of a file -/
def FX.own (x : FX) : Nat → Prop := fun y => y = x.f ∨ blk x.a y
theorem FXAt.mono {M M' : Mem} {x : FX} (h : FXAt M x) (hk : ∀ y o, x.own y → M y = some o → M' y = some o) : FXAt M' x :=
  ⟨hk _ _ (.inl rfl) h.self, h.row.mono fun q o hq => hk _ o (.inr ⟨q, hq, rfl⟩)⟩
theorem FXAt.le {M M' : Mem} {x : FX} (h : FXAt M x) (hle : M.le M') : FXAt M' x := h.mono fun y o _ => hle y o
def apartF (x y : FX) : Prop := ∀ z, x.own z → ¬ y.own z
abbrev FsT := List (ByteArray × FX)
/-- where a disk lies: its words at p, its map at b -/
structure DAt (M : Mem) (p b : Nat) (D : DiskR) (es : FsT) : Prop where
  self : M.has p T.disk_Disk [.int .i64 D.limit, .map (some b), .int .i64 D.left, .bool D.down]
  map : MapAt strV fxV M b es
  ents : ∀ q ∈ es, FXAt M q.2
  apart : es.Pairwise fun x y => apartF x.2 y.2
/-- the blocks of a disk -/
def diskB (p b : Nat) (es : FsT) : Nat → Prop := fun y => y = p ∨ y = b ∨ ∃ q ∈ es, q.2.own y
theorem DAt.mono {M M' : Mem} {p b : Nat} {D : DiskR} {es : FsT} (h : DAt M p b D es) (hk : ∀ y o, diskB p b es y → M y = some o → M' y = some o) : DAt M' p b D es :=
  ⟨hk _ _ (.inl rfl) h.self, h.map.mono fun o ho => hk _ _ (.inr (.inl rfl)) ho, fun q hq => (h.ents q hq).mono fun y o hy ho => hk y o (.inr (.inr ⟨q, hq, hy⟩)) ho, h.apart⟩
theorem DAt.le {M M' : Mem} {p b : Nat} {D : DiskR} {es : FsT} (h : DAt M p b D es) (hle : M.le M') : DAt M' p b D es := h.mono fun y o _ => hle y o
theorem DAt.minus {M : Mem} {p b : Nat} {D : DiskR} {es : FsT} (h : DAt M p b D es) {S : Nat → Prop} (hS : ∀ y, diskB p b es y → ¬ S y) : DAt (M.minus S) p b D es :=
  h.mono fun y o hy ho => by unfold Mem.minus; rw [if_neg (hS y hy)]; exact ho
theorem FXAt.nomap {M : Mem} {x : FX} (h : FXAt M x) {b : Nat} {es : FsT} (hm : MapAt strV fxV M b es) : ¬ x.own b := by
  rintro (e | ⟨q, hq, e⟩)
  · exact hm.nb h.self e.symm
  · obtain ⟨cs, hh⟩ := h.row.block hq
    exact hm.nb hh e
theorem FXAt.full {M : Mem} {x : FX} (h : FXAt M x) {y : Nat} (hy : x.own y) : M y ≠ none := by
  rcases hy with rfl | ⟨q, hq, rfl⟩
  · have := h.self; unfold Mem.has at this; rw [this]; simp
  · obtain ⟨cs, hh⟩ := h.row.block hq
    unfold Mem.has at hh; rw [hh]; simp
theorem FXAt.nodisk {M : Mem} {x : FX} (h : FXAt M x) {p : Nat} {l : List Value} (hp : M.has p T.disk_Disk l) : ¬ x.own p := by
  rintro (e | ⟨q, hq, e⟩)
  · subst e
    exact absurd (h.self.inj hp).1 (by decide)
  · obtain ⟨cs, hh⟩ := h.row.block hq
    subst e
    exact absurd (hh.inj hp).1 (by decide)
theorem DAt.full {M : Mem} {p b : Nat} {D : DiskR} {es : FsT} (h : DAt M p b D es) {y : Nat} (hy : diskB p b es y) : M y ≠ none := by
  rcases hy with rfl | rfl | ⟨q, hq, hy⟩
  · have := h.self; unfold Mem.has at this; rw [this]; simp
  · obtain ⟨l, c, hh, _⟩ := h.map; rw [hh]; simp [mapObj]
  · exact (h.ents q hq).full hy
variable {M : Mem} {p b : Nat} {D : DiskR} {es : FsT}
/-- a file turns -/
theorem DAt.turn {M' : Mem} (h : DAt M p b D es) {k : ByteArray} {x x' : FX} (hx : aget es k = some x) (hk : Mem.keep x.own M M') (he : FXAt M' x') (hr : x'.f = x.f) (hown : ∀ y, x'.own y → x.own y ∨ M y = none) : DAt M' p b D (aput es k x') := by
  have hxe := h.ents _ (aget_mem hx)
  have hpa : aput es k x' = aset es k x' := by simp [aput, hx]
  obtain ⟨u, v, h1, h2, h3, h4⟩ := aset_split h.map.nodup hx x'
  have hap := h.apart
  rw [h1] at hap
  have hap' := List.pairwise_append.1 hap
  have hmem : ∀ q, q ∈ u ∨ q ∈ v → q ∈ es := fun q hq => by rw [h1]; rcases hq with hq | hq <;> simp [hq]
  have hfar : ∀ q, q ∈ u ∨ q ∈ v → ∀ y, q.2.own y → ¬ x.own y := fun q hq y hy hxy => by
    rcases hq with hq | hq
    · exact hap'.2.2 q hq (k, x) (by simp) y hy hxy
    · exact (List.pairwise_cons.1 hap'.2.1).1 q hq y hxy hy
  have hfar' : ∀ q, q ∈ u ∨ q ∈ v → ∀ y, q.2.own y → ¬ x'.own y := fun q hq y hy hxy => by
    rcases hown y hxy with h5 | h5
    · exact hfar q hq y hy h5
    · exact (h.ents q (hmem q hq)).full hy h5
  rw [hpa, h2]
  refine ⟨hk _ _ (hxe.nodisk h.self) h.self, ?_, fun q hq => ?_, ?_⟩
  · have hm := h.map.relabel (fun q => if q.1 = k then x' else q.2) (fun q hq => by
      split
      · rename_i e
        have : aget es k = some q.2 := aget_of_mem h.map.nodup (by obtain ⟨q1, q2⟩ := q; simp only at e; subst e; exact hq)
        rw [hx] at this
        rw [show q.2 = x from (Option.some.inj this).symm]
        simp [fxV, hr]
      · rfl)
    have e : (es.map fun q => (q.1, if q.1 = k then x' else q.2)) = u ++ (k, x') :: v := by
      rw [h1, List.map_append, List.map_cons]
      congr 1
      · rw [List.map_congr_left (g := id), List.map_id]
        intro q hq; simp [h3 q hq]
      · congr 1
        · simp
        · rw [List.map_congr_left (g := id), List.map_id]
          intro q hq; simp [h4 q hq]
    rw [e] at hm
    exact hm.mono fun o ho => hk _ o (hxe.nomap h.map) ho
  · rcases List.mem_append.1 hq with hq | hq
    · exact (h.ents q (hmem q (.inl hq))).mono fun y o hy ho => hk y o (hfar q (.inl hq) y hy) ho
    · rcases List.mem_cons.1 hq with rfl | hq
      · exact he
      · exact (h.ents q (hmem q (.inr hq))).mono fun y o hy ho => hk y o (hfar q (.inr hq) y hy) ho
  · rw [List.pairwise_append]
    refine ⟨hap'.1, List.pairwise_cons.2 ⟨fun q hq y hy hqy => hfar' q (.inr hq) y hqy hy, (List.pairwise_cons.1 hap'.2.1).2⟩, fun q hq q' hq' => ?_⟩
    rcases List.mem_cons.1 hq' with rfl | hq'
    · exact fun y hy hxy => hfar' q (.inl hq) y hy hxy
    · exact hap'.2.2 q hq q' (List.mem_cons_of_mem _ hq')
/-- a new file -/
theorem DAt.more {M' : Mem} (h : DAt M p b D es) {k : ByteArray} {x : FX} (hx : aget es k = none) (hk : Mem.keep (fun y => y = b) M M') (hm : MapAt strV fxV M' b (aput es k x)) (he : FXAt M' x) (hown : ∀ q ∈ es, ∀ y, x.own y → ¬ q.2.own y) : DAt M' p b D (aput es k x) := by
  have hpa : aput es k x = es ++ [(k, x)] := by simp [aput, hx]
  refine ⟨hk _ _ (h.map.nb h.self) h.self, hm, fun q hq => ?_, ?_⟩
  · rw [hpa] at hq
    rcases List.mem_append.1 hq with hq | hq
    · exact (h.ents q hq).mono fun y o hy ho => hk y o (fun e => by subst e; exact (h.ents q hq).nomap h.map hy) ho
    · simp at hq; subst hq; exact he
  · rw [hpa, List.pairwise_append]
    refine ⟨h.apart, by simp, fun q hq q' hq' => ?_⟩
    simp at hq'; subst hq'
    exact fun y hy hxy => hown q hq y hxy hy
/-- the map alone turns: some files are gone -/
theorem DAt.less {M' : Mem} (h : DAt M p b D es) (k : ByteArray) (hk : Mem.keep (fun y => y = b) M M') (hm : MapAt strV fxV M' b (adel es k)) : DAt M' p b D (adel es k) :=
  ⟨hk _ _ (h.map.nb h.self) h.self, hm, fun q hq => (h.ents q (List.mem_filter.1 hq).1).mono fun y o hy ho => hk y o (fun e => by subst e; exact (h.ents q (List.mem_filter.1 hq).1).nomap h.map hy) ho, h.apart.sublist List.filter_sublist⟩
/-- the disk's own words turn -/
theorem DAt.head {M' : Mem} (h : DAt M p b D es) (D' : DiskR) (hk : Mem.keep (fun y => y = p) M M') (hs : M'.has p T.disk_Disk [.int .i64 D'.limit, .map (some b), .int .i64 D'.left, .bool D'.down]) : DAt M' p b D' es :=
  ⟨hs, h.map.mono fun o ho => hk _ _ (fun e => h.map.nb h.self e.symm) ho, fun q hq => (h.ents q hq).mono fun y o hy ho => hk y o (fun e => by subst e; exact (h.ents q hq).nodisk h.self hy) ho, h.apart⟩
theorem diskB_aput {k : ByteArray} {x' : FX} {y : Nat} (hy : diskB p b (aput es k x') y) (hn : (es.map (·.1)).Nodup) : diskB p b es y ∨ x'.own y := by
  rcases hy with rfl | rfl | ⟨q, hq, hy⟩
  · exact .inl (.inl rfl)
  · exact .inl (.inr (.inl rfl))
  · by_cases e : q.1 = k
    · have hg : aget (aput es k x') k = some q.2 := aget_of_mem (aput_nodup hn k x') (by obtain ⟨q1, q2⟩ := q; simp only at e; subst e; exact hq)
      rw [aget_aput, if_pos rfl] at hg
      cases hg
      exact .inr hy
    · have hg : aget (aput es k x') q.1 = some q.2 := aget_of_mem (aput_nodup hn k x') hq
      rw [aget_aput, if_neg e] at hg
      exact .inl (.inr (.inr ⟨q, aget_mem hg, hy⟩))
theorem diskB_adel {k : ByteArray} {y : Nat} (hy : diskB p b (adel es k) y) : diskB p b es y := by
  rcases hy with rfl | rfl | ⟨q, hq, hy⟩
  · exact .inl rfl
  · exact .inr (.inl rfl)
  · exact .inr (.inr ⟨q, (List.mem_filter.1 hq).1, hy⟩)
/-! what the files say -/
def cont (f : FileR) : List UInt8 × Nat := (bl f.all, f.safe.size)
structure RelD (es : FsT) (L : List FileR) : Prop where
  sort : SortedR L
  nodup : (es.map (·.1)).Nodup
  same : ∀ n, (aget es n).map (fun x => (x.p, x.safe)) = (findR L n).map cont
theorem RelD.nil : RelD [] [] := ⟨by simp [SortedR], by simp, fun n => by simp [aget, findR]⟩
theorem RelD.put {L : List FileR} (h : RelD es L) {f : FileR} {x : FX} (hx : (x.p, x.safe) = cont f) : RelD (aput es f.name x) (withR L f) := by
  refine ⟨withR_sorted h.sort f, aput_nodup h.nodup _ _, fun n => ?_⟩
  rw [aget_aput, findR_with h.sort]
  split
  · simp [hx]
  · exact h.same n
theorem RelD.del {L : List FileR} (h : RelD es L) (n : ByteArray) : RelD (adel es n) (withoutR L n) := by
  refine ⟨withoutR_sorted h.sort n, adel_nodup h.nodup _, fun m => ?_⟩
  rw [aget_adel, findR_without h.sort]
  split
  · rfl
  · exact h.same m
theorem RelD.none {L : List FileR} (h : RelD es L) {n : ByteArray} : aget es n = none ↔ findR L n = none := by
  have := h.same n
  constructor
  · intro e; rw [e] at this; simpa using this.symm
  · intro e; rw [e] at this; simpa using this
theorem RelD.get {L : List FileR} (h : RelD es L) {n : ByteArray} {x : FX} (hx : aget es n = some x) : ∃ f, findR L n = some f ∧ f.name = n ∧ x.p = bl f.all ∧ x.safe = f.safe.size := by
  have := h.same n
  rw [hx] at this
  cases hf : findR L n with
  | none => rw [hf] at this; cases this
  | some f =>
    rw [hf] at this
    simp only [Option.map_some, Option.some.injEq, cont, Prod.mk.injEq] at this
    exact ⟨f, rfl, ((findR_some h.sort).1 hf).2, this.1, this.2⟩
theorem RelD.perm {L : List FileR} (h : RelD es L) : (es.map fun q => (q.1, q.2.p, q.2.safe)).Perm (L.map fun f => (f.name, bl f.all, f.safe.size)) := by
  have n1 : (es.map fun q => (q.1, q.2.p, q.2.safe)).Nodup := by
    have : ((es.map fun q => (q.1, q.2.p, q.2.safe)).map (·.1)).Nodup := by rw [List.map_map]; exact h.nodup
    exact nodup_of_map_fst this
  have n2 : (L.map fun f => (f.name, bl f.all, f.safe.size)).Nodup := by
    unfold List.Nodup
    rw [List.pairwise_map]
    refine h.sort.imp fun {x y} hxy e => ?_
    rw [show x.name = y.name from congrArg (·.1) e, lessT_irrefl] at hxy
    cases hxy
  rw [List.perm_ext_iff_of_nodup n1 n2]
  rintro ⟨n, p, s⟩
  constructor
  · intro hm
    obtain ⟨q, hq, e⟩ := List.mem_map.1 hm
    obtain ⟨f, hf, hn, h1, h2⟩ := h.get (aget_of_mem h.nodup hq)
    refine List.mem_map.2 ⟨f, ((findR_some h.sort).1 hf).1, ?_⟩
    rw [← e, hn, h1, h2]
  · intro hm
    obtain ⟨f, hf, e⟩ := List.mem_map.1 hm
    have hff : findR L f.name = some f := (findR_some h.sort).2 ⟨hf, rfl⟩
    have := h.same f.name
    rw [hff] at this
    cases hg : aget es f.name with
    | none => rw [hg] at this; cases this
    | some x =>
      rw [hg] at this
      simp only [Option.map_some, Option.some.injEq, cont, Prod.mk.injEq] at this
      refine List.mem_map.2 ⟨_, aget_mem hg, ?_⟩
      rw [← e, this.1, this.2]
theorem FileR.all_size (f : FileR) : (bl f.all).length = f.safe.size + f.tail.size := by rw [bl_len]; simp [FileR.all]
theorem RelD.len {L : List FileR} (h : RelD es L) : es.length = L.length := by have := h.perm.length_eq; simpa using this
def usedE (es : FsT) : Nat := (es.map fun q => q.2.p.length).sum
theorem RelD.used {L : List FileR} (h : RelD es L) : usedE es = usedR L := by
  have := (h.perm.map fun z => z.2.1.length).sum_nat
  rw [List.map_map, List.map_map] at this
  unfold usedE usedR
  refine Eq.trans this ?_
  congr 1
  apply List.map_congr_left
  intro f _
  exact f.all_size
theorem RelD.names {L : List FileR} (h : RelD es L) : (es.map (·.1)).Perm (L.map (·.name)) := by
  have := h.perm.map (·.1)
  rw [List.map_map, List.map_map] at this
  exact this
theorem usedE_le {q : ByteArray × FX} (hq : q ∈ es) : q.2.p.length ≤ usedE es := by
  unfold usedE
  induction es with
  | nil => cases hq
  | cons z r ih =>
    simp only [List.map_cons, List.sum_cons]
    rcases List.mem_cons.1 hq with rfl | hq
    · omega
    · have := ih hq; omega
end Go.Proofs.Ytdjgmhifocdelaa
