/- A desk: acked, refused, taken back. -/
import Derived.Test.YthlleljdahkgpaaDeskA
namespace Go.Proofs.Ythlleljdahkgpaa
open Go Go.Vm
attribute [local irreducible] Brn Ob Grow CallsM inR LoopVC Mem.row Mem.cells Mem.setCells Mem.upd Own AppVC SrcVC StrVC NextVC New SrcOk subA NewSl Mem.textAt Mem.mapAt Mem.iterAt entryOf kfind Wr NewEls Elems
set_option maxRecDepth 10000
variable {p b : Nat} {wait next : Int} {m : List (Id × Known)} {M : Mem}
theorem DeskAt.mono {M' : Mem} (h : DeskAt M p b wait next m) (h' : ∀ c o, c = p ∨ c = b → M c = some o → M' c = some o) : DeskAt M' p b wait next m :=
  ⟨h' _ _ (.inl rfl) h.self, h.ne, h.map.mono fun o => h' _ _ (.inr rfl)⟩
theorem DeskAt.le {M' : Mem} (h : DeskAt M p b wait next m) (hle : M.le M') : DeskAt M' p b wait next m := h.mono fun c o _ => hle c o
theorem DeskAt.upd (h : DeskAt M p b wait next m) {x : Obj} {m' : List (Id × Known)} (hm : MapAt Id.v Known.v (M.upd b x) b m') : DeskAt (M.upd b x) p b wait next m' :=
  ⟨by have := h.self; unfold Mem.has at this ⊢; rw [Mem.upd_ne _ _ h.ne]; exact this, h.ne, hm⟩
@[reducible] def one (b : Nat) : Nat → Prop := fun x => x = b
def ackOk (m : List (Id × Known)) (n k : Int) (i : Id) : Bool := match aget m i with | some x => (decide (x.waits = 0) && decide (x.to = n)) && decide (x.n = k) | none => false
def ackOf (m : List (Id × Known)) (n k : Int) (i : Id) : List (Id × Known) := if ackOk m n k i then adel m i else m
set_option maxRecDepth 10000 in
theorem ack_ok (hd : DeskAt M p b wait next m) (n k : Int) (i : Id) : CallsM Try.prog F.hop_Desk_Ack [ptr p, .int .i64 n, .int .i64 k, i.v] M fun v M' =>
    v = .bool (ackOk m n k i) ∧ DeskAt M' p b wait next (ackOf m n k i) ∧ Mem.keep (one b) M M' := by
  refine fo_hop_Desk_Ack (by simp) ?_
  repeat' ((conv => whnf); first | refine ⟨?_, True.intro⟩ | refine brn_t rfl ?_ | refine brn_f rfl ?_ | refine ob rfl ?_ | refine ob (by decide) ?_ | refine grow_same (Mem.le_refl _) ?_ | refine ob (Mem.le_refl _) ?_ | refine ⟨_, Mem.le_refl _, ?_⟩ | fail)
  refine (to_ok p b wait next m M hd n i).mono ?_
  rintro v M' ⟨rfl, rfl⟩
  repeat' ((conv => whnf); first | refine ⟨?_, True.intro⟩ | refine brn_t rfl ?_ | refine brn_f rfl ?_ | refine ob rfl ?_ | refine ob (by decide) ?_ | refine grow_same (Mem.le_refl _) ?_ | refine ob (Mem.le_refl _) ?_ | refine ⟨_, Mem.le_refl _, ?_⟩ | fail)
  refine brn (fun h => ?_) (fun h => ?_)
  · repeat' ((conv => whnf); first | refine ⟨?_, True.intro⟩ | refine brn_t rfl ?_ | refine brn_f rfl ?_ | refine ob rfl ?_ | refine ob (by decide) ?_ | refine grow_same (Mem.le_refl _) ?_ | refine ob (Mem.le_refl _) ?_ | refine ⟨_, Mem.le_refl _, ?_⟩ | fail)
    refine on (hd.self.c1 rfl) ?_
    repeat' ((conv => whnf); first | refine ⟨?_, True.intro⟩ | refine brn_t rfl ?_ | refine brn_f rfl ?_ | refine ob rfl ?_ | refine ob (by decide) ?_ | refine grow_same (Mem.le_refl _) ?_ | refine ob (Mem.le_refl _) ?_ | refine ⟨_, Mem.le_refl _, ?_⟩ | fail)
    refine hd.map.get idKey i (fun g => ?_) (fun x j g => ?_)
    · simp [isTo, g] at h
    · repeat' ((conv => whnf); first | refine ⟨?_, True.intro⟩ | refine brn_t rfl ?_ | refine brn_f rfl ?_ | refine ob rfl ?_ | refine ob (by decide) ?_ | refine grow_same (Mem.le_refl _) ?_ | refine ob (Mem.le_refl _) ?_ | refine ⟨_, Mem.le_refl _, ?_⟩ | fail)
      have h' : x.waits = 0 ∧ x.to = n := by simpa [isTo, g] using h
      refine brn (fun h1 => ?_) (fun h1 => ?_)
      · have hok : ackOk m n k i = true := by simp_all [ackOk]
        repeat' ((conv => whnf); first | refine ⟨?_, True.intro⟩ | refine brn_t rfl ?_ | refine brn_f rfl ?_ | refine ob rfl ?_ | refine ob (by decide) ?_ | refine grow_same (Mem.le_refl _) ?_ | refine ob (Mem.le_refl _) ?_ | refine ⟨_, Mem.le_refl _, ?_⟩ | fail)
        refine on (hd.self.c1 rfl) ?_
        repeat' ((conv => whnf); first | refine ⟨?_, True.intro⟩ | refine brn_t rfl ?_ | refine brn_f rfl ?_ | refine ob rfl ?_ | refine ob (by decide) ?_ | refine grow_same (Mem.le_refl _) ?_ | refine ob (Mem.le_refl _) ?_ | refine ⟨_, Mem.le_refl _, ?_⟩ | fail)
        refine hd.map.del idKey i fun p f hm => ?_
        repeat' ((conv => whnf); first | refine ⟨?_, True.intro⟩ | refine brn_t rfl ?_ | refine brn_f rfl ?_ | refine ob rfl ?_ | refine ob (by decide) ?_ | refine grow_same (Mem.le_refl _) ?_ | refine ob (Mem.le_refl _) ?_ | refine ⟨_, Mem.le_refl _, ?_⟩ | fail)
        refine ⟨by rw [hok]; simp_all, ?_, Mem.keep_upd _ _ rfl⟩
        rw [ackOf, hok, if_pos rfl]
        exact hd.upd (hm M)
      · have hok : ackOk m n k i = false := by simp_all [ackOk]
        repeat' ((conv => whnf); first | refine ⟨?_, True.intro⟩ | refine brn_t rfl ?_ | refine brn_f rfl ?_ | refine ob rfl ?_ | refine ob (by decide) ?_ | refine grow_same (Mem.le_refl _) ?_ | refine ob (Mem.le_refl _) ?_ | refine ⟨_, Mem.le_refl _, ?_⟩ | fail)
        refine ⟨by rw [hok]; simp_all, ?_, Mem.keep_refl _ _⟩
        rw [ackOf, hok]
        exact hd
  · have hok : ackOk m n k i = false := by unfold ackOk; unfold isTo at h; split <;> simp_all
    repeat' ((conv => whnf); first | refine ⟨?_, True.intro⟩ | refine brn_t rfl ?_ | refine brn_f rfl ?_ | refine ob rfl ?_ | refine ob (by decide) ?_ | refine grow_same (Mem.le_refl _) ?_ | refine ob (Mem.le_refl _) ?_ | refine ⟨_, Mem.le_refl _, ?_⟩ | fail)
    refine ⟨by rw [hok], ?_, Mem.keep_refl _ _⟩
    rw [ackOf, hok]
    exact hd
def refuseOf (m : List (Id × Known)) (wait n k : Int) (i : Id) : List (Id × Known) := if ackOk m n k i then aput m i ⟨-1, 0, 0, wait⟩ else m
set_option maxRecDepth 10000 in
theorem refuse_ok (hd : DeskAt M p b wait next m) (n k : Int) (i : Id) : CallsM Try.prog F.hop_Desk_Refuse [ptr p, .int .i64 n, .int .i64 k, i.v] M fun v M' =>
    v = .bool (ackOk m n k i) ∧ DeskAt M' p b wait next (refuseOf m wait n k i) ∧ Mem.keep (one b) M M' := by
  refine fo_hop_Desk_Refuse (by simp) ?_
  repeat' ((conv => whnf); first | refine ⟨?_, True.intro⟩ | refine brn_t rfl ?_ | refine brn_f rfl ?_ | refine ob rfl ?_ | refine ob (by decide) ?_ | refine grow_same (Mem.le_refl _) ?_ | refine ob (Mem.le_refl _) ?_ | refine ⟨_, Mem.le_refl _, ?_⟩ | fail)
  refine (to_ok p b wait next m M hd n i).mono ?_
  rintro v M' ⟨rfl, rfl⟩
  repeat' ((conv => whnf); first | refine ⟨?_, True.intro⟩ | refine brn_t rfl ?_ | refine brn_f rfl ?_ | refine ob rfl ?_ | refine ob (by decide) ?_ | refine grow_same (Mem.le_refl _) ?_ | refine ob (Mem.le_refl _) ?_ | refine ⟨_, Mem.le_refl _, ?_⟩ | fail)
  refine brn (fun h => ?_) (fun h => ?_)
  · repeat' ((conv => whnf); first | refine ⟨?_, True.intro⟩ | refine brn_t rfl ?_ | refine brn_f rfl ?_ | refine ob rfl ?_ | refine ob (by decide) ?_ | refine grow_same (Mem.le_refl _) ?_ | refine ob (Mem.le_refl _) ?_ | refine ⟨_, Mem.le_refl _, ?_⟩ | fail)
    refine on (hd.self.c1 rfl) ?_
    repeat' ((conv => whnf); first | refine ⟨?_, True.intro⟩ | refine brn_t rfl ?_ | refine brn_f rfl ?_ | refine ob rfl ?_ | refine ob (by decide) ?_ | refine grow_same (Mem.le_refl _) ?_ | refine ob (Mem.le_refl _) ?_ | refine ⟨_, Mem.le_refl _, ?_⟩ | fail)
    refine hd.map.get idKey i (fun g => ?_) (fun x j g => ?_)
    · simp [isTo, g] at h
    · repeat' ((conv => whnf); first | refine ⟨?_, True.intro⟩ | refine brn_t rfl ?_ | refine brn_f rfl ?_ | refine ob rfl ?_ | refine ob (by decide) ?_ | refine grow_same (Mem.le_refl _) ?_ | refine ob (Mem.le_refl _) ?_ | refine ⟨_, Mem.le_refl _, ?_⟩ | fail)
      have h' : x.waits = 0 ∧ x.to = n := by simpa [isTo, g] using h
      refine brn (fun h1 => ?_) (fun h1 => ?_)
      · have hok : ackOk m n k i = true := by simp_all [ackOk]
        repeat' ((conv => whnf); first | refine ⟨?_, True.intro⟩ | refine brn_t rfl ?_ | refine brn_f rfl ?_ | refine ob rfl ?_ | refine ob (by decide) ?_ | refine grow_same (Mem.le_refl _) ?_ | refine ob (Mem.le_refl _) ?_ | refine ⟨_, Mem.le_refl _, ?_⟩ | fail)
        refine on (hd.self.c1 rfl) ?_
        repeat' ((conv => whnf); first | refine ⟨?_, True.intro⟩ | refine brn_t rfl ?_ | refine brn_f rfl ?_ | refine ob rfl ?_ | refine ob (by decide) ?_ | refine grow_same (Mem.le_refl _) ?_ | refine ob (Mem.le_refl _) ?_ | refine ⟨_, Mem.le_refl _, ?_⟩ | fail)
        refine on (hd.self.c1 rfl) ?_
        repeat' ((conv => whnf); first | refine ⟨?_, True.intro⟩ | refine brn_t rfl ?_ | refine brn_f rfl ?_ | refine ob rfl ?_ | refine ob (by decide) ?_ | refine grow_same (Mem.le_refl _) ?_ | refine ob (Mem.le_refl _) ?_ | refine ⟨_, Mem.le_refl _, ?_⟩ | fail)
        refine hd.map.put idKey i ⟨-1, 0, 0, wait⟩ fun p f hm => ?_
        repeat' ((conv => whnf); first | refine ⟨?_, True.intro⟩ | refine brn_t rfl ?_ | refine brn_f rfl ?_ | refine ob rfl ?_ | refine ob (by decide) ?_ | refine grow_same (Mem.le_refl _) ?_ | refine ob (Mem.le_refl _) ?_ | refine ⟨_, Mem.le_refl _, ?_⟩ | fail)
        refine ⟨by rw [hok]; simp_all, ?_, Mem.keep_upd _ _ rfl⟩
        rw [refuseOf, hok, if_pos rfl]
        exact hd.upd (hm M)
      · have hok : ackOk m n k i = false := by simp_all [ackOk]
        repeat' ((conv => whnf); first | refine ⟨?_, True.intro⟩ | refine brn_t rfl ?_ | refine brn_f rfl ?_ | refine ob rfl ?_ | refine ob (by decide) ?_ | refine grow_same (Mem.le_refl _) ?_ | refine ob (Mem.le_refl _) ?_ | refine ⟨_, Mem.le_refl _, ?_⟩ | fail)
        refine ⟨by rw [hok]; simp_all, ?_, Mem.keep_refl _ _⟩
        rw [refuseOf, hok]
        exact hd
  · have hok : ackOk m n k i = false := by unfold ackOk; unfold isTo at h; split <;> simp_all
    repeat' ((conv => whnf); first | refine ⟨?_, True.intro⟩ | refine brn_t rfl ?_ | refine brn_f rfl ?_ | refine ob rfl ?_ | refine ob (by decide) ?_ | refine grow_same (Mem.le_refl _) ?_ | refine ob (Mem.le_refl _) ?_ | refine ⟨_, Mem.le_refl _, ?_⟩ | fail)
    refine ⟨by rw [hok], ?_, Mem.keep_refl _ _⟩
    rw [refuseOf, hok]
    exact hd
set_option maxRecDepth 10000 in
theorem is_ok (hd : DeskAt M p b wait next m) (i : Id) : CallsM Try.prog F.hop_Desk_Is [ptr p, i.v] M fun v M' => v = .bool (isIs m i) ∧ M = M' := by
  refine fo_hop_Desk_Is (by simp) ?_
  repeat' ((conv => whnf); first | refine ⟨?_, True.intro⟩ | refine brn_t rfl ?_ | refine brn_f rfl ?_ | refine ob rfl ?_ | refine ob (by decide) ?_ | refine grow_same (Mem.le_refl _) ?_ | refine ob (Mem.le_refl _) ?_ | refine ⟨_, Mem.le_refl _, ?_⟩ | fail)
  refine on (hd.self.c1 rfl) ?_
  repeat' ((conv => whnf); first | refine ⟨?_, True.intro⟩ | refine brn_t rfl ?_ | refine brn_f rfl ?_ | refine ob rfl ?_ | refine ob (by decide) ?_ | refine grow_same (Mem.le_refl _) ?_ | refine ob (Mem.le_refl _) ?_ | refine ⟨_, Mem.le_refl _, ?_⟩ | fail)
  refine hd.map.get idKey i (fun h => ?_) (fun x j h => ?_)
  · repeat' ((conv => whnf); first | refine ⟨?_, True.intro⟩ | refine brn_t rfl ?_ | refine brn_f rfl ?_ | refine ob rfl ?_ | refine ob (by decide) ?_ | refine grow_same (Mem.le_refl _) ?_ | refine ob (Mem.le_refl _) ?_ | refine ⟨_, Mem.le_refl _, ?_⟩ | fail)
    exact ⟨by simp [isIs, h], rfl⟩
  · repeat' ((conv => whnf); first | refine ⟨?_, True.intro⟩ | refine brn_t rfl ?_ | refine brn_f rfl ?_ | refine ob rfl ?_ | refine ob (by decide) ?_ | refine grow_same (Mem.le_refl _) ?_ | refine ob (Mem.le_refl _) ?_ | refine ⟨_, Mem.le_refl _, ?_⟩ | fail)
    exact ⟨by simp [isIs, h], rfl⟩
set_option maxRecDepth 10000 in
theorem waits_ok (hd : DeskAt M p b wait next m) (i : Id) : CallsM Try.prog F.hop_Desk_Waits [ptr p, i.v] M fun v M' => v = .int .i64 (waitsOf m i) ∧ M = M' := by
  refine fo_hop_Desk_Waits (by simp) ?_
  repeat' ((conv => whnf); first | refine ⟨?_, True.intro⟩ | refine brn_t rfl ?_ | refine brn_f rfl ?_ | refine ob rfl ?_ | refine ob (by decide) ?_ | refine grow_same (Mem.le_refl _) ?_ | refine ob (Mem.le_refl _) ?_ | refine ⟨_, Mem.le_refl _, ?_⟩ | fail)
  refine on (hd.self.c1 rfl) ?_
  repeat' ((conv => whnf); first | refine ⟨?_, True.intro⟩ | refine brn_t rfl ?_ | refine brn_f rfl ?_ | refine ob rfl ?_ | refine ob (by decide) ?_ | refine grow_same (Mem.le_refl _) ?_ | refine ob (Mem.le_refl _) ?_ | refine ⟨_, Mem.le_refl _, ?_⟩ | fail)
  refine hd.map.get idKey i (fun h => ?_) (fun x j h => ?_)
  · repeat' ((conv => whnf); first | refine ⟨?_, True.intro⟩ | refine brn_t rfl ?_ | refine brn_f rfl ?_ | refine ob rfl ?_ | refine ob (by decide) ?_ | refine grow_same (Mem.le_refl _) ?_ | refine ob (Mem.le_refl _) ?_ | refine ⟨_, Mem.le_refl _, ?_⟩ | fail)
    exact ⟨by simp [waitsOf, h], rfl⟩
  · repeat' ((conv => whnf); first | refine ⟨?_, True.intro⟩ | refine brn_t rfl ?_ | refine brn_f rfl ?_ | refine ob rfl ?_ | refine ob (by decide) ?_ | refine grow_same (Mem.le_refl _) ?_ | refine ob (Mem.le_refl _) ?_ | refine ⟨_, Mem.le_refl _, ?_⟩ | fail)
    exact ⟨by simp [waitsOf, h], rfl⟩
def backOf (m : List (Id × Known)) (i : Id) : List (Id × Known) := if isIs m i then adel m i else m
set_option maxRecDepth 10000 in
theorem back_ok (hd : DeskAt M p b wait next m) (i : Id) : CallsM Try.prog F.hop_Desk_Back [ptr p, i.v] M fun v M' =>
    v = .bool (isIs m i) ∧ DeskAt M' p b wait next (backOf m i) ∧ Mem.keep (one b) M M' := by
  refine fo_hop_Desk_Back (by simp) ?_
  repeat' ((conv => whnf); first | refine ⟨?_, True.intro⟩ | refine brn_t rfl ?_ | refine brn_f rfl ?_ | refine ob rfl ?_ | refine ob (by decide) ?_ | refine grow_same (Mem.le_refl _) ?_ | refine ob (Mem.le_refl _) ?_ | refine ⟨_, Mem.le_refl _, ?_⟩ | fail)
  refine (is_ok hd i).mono ?_
  rintro v M' ⟨rfl, rfl⟩
  repeat' ((conv => whnf); first | refine ⟨?_, True.intro⟩ | refine brn_t rfl ?_ | refine brn_f rfl ?_ | refine ob rfl ?_ | refine ob (by decide) ?_ | refine grow_same (Mem.le_refl _) ?_ | refine ob (Mem.le_refl _) ?_ | refine ⟨_, Mem.le_refl _, ?_⟩ | fail)
  refine brn (fun h => ?_) (fun h => ?_)
  · repeat' ((conv => whnf); first | refine ⟨?_, True.intro⟩ | refine brn_t rfl ?_ | refine brn_f rfl ?_ | refine ob rfl ?_ | refine ob (by decide) ?_ | refine grow_same (Mem.le_refl _) ?_ | refine ob (Mem.le_refl _) ?_ | refine ⟨_, Mem.le_refl _, ?_⟩ | fail)
    refine on (hd.self.c1 rfl) ?_
    repeat' ((conv => whnf); first | refine ⟨?_, True.intro⟩ | refine brn_t rfl ?_ | refine brn_f rfl ?_ | refine ob rfl ?_ | refine ob (by decide) ?_ | refine grow_same (Mem.le_refl _) ?_ | refine ob (Mem.le_refl _) ?_ | refine ⟨_, Mem.le_refl _, ?_⟩ | fail)
    refine hd.map.del idKey i fun p f hm => ?_
    repeat' ((conv => whnf); first | refine ⟨?_, True.intro⟩ | refine brn_t rfl ?_ | refine brn_f rfl ?_ | refine ob rfl ?_ | refine ob (by decide) ?_ | refine grow_same (Mem.le_refl _) ?_ | refine ob (Mem.le_refl _) ?_ | refine ⟨_, Mem.le_refl _, ?_⟩ | fail)
    refine ⟨rfl, ?_, Mem.keep_upd _ _ rfl⟩
    rw [backOf, h, if_pos rfl]
    exact hd.upd (hm M)
  · repeat' ((conv => whnf); first | refine ⟨?_, True.intro⟩ | refine brn_t rfl ?_ | refine brn_f rfl ?_ | refine ob rfl ?_ | refine ob (by decide) ?_ | refine grow_same (Mem.le_refl _) ?_ | refine ob (Mem.le_refl _) ?_ | refine ⟨_, Mem.le_refl _, ?_⟩ | fail)
    refine ⟨rfl, ?_, Mem.keep_refl _ _⟩
    rw [backOf, h]
    exact hd
end Go.Proofs.Ythlleljdahkgpaa
