/- States, plainly: which ones are a store's. -/
import Derived.Test.YtlocjjponfbhmaaGreatJoin28
import Derived.Test.YtlocjjponfbhmaaGreatSeenFc
namespace Go.Proofs.YtlocjjponfbhmaaGreat
open Go Go.Vm
abbrev NxT := List (Int × Int)
structure Nx (me epoch : Int) (ul : NxT) : Prop where
  each : ∀ n ∈ ul, (0 ≤ n.1 ∧ n.1 ≤ 63) ∧ n.1 ≠ me ∧ 1 ≤ n.2 ∧ n.2 ≤ 65535
  sort : ul.Pairwise fun x y => x.1 < y.1
  some : ul ≠ [] → epoch ≠ 0
def NextsP (self epoch : Int) (ul : NxT) : Prop := Nx self epoch ul ∧ 0 ≤ epoch ∧ epoch ≤ 65535
def okM (self epoch : Int) (ul : NxT) (m : MsgD) : Prop := msgErrD m.id m.p.length = 0 ∧ m.id.d ≠ self ∧ (m.id.o = self → m.id.e < epoch ∨ (m.id.e = epoch ∧ m.id.c ≤ lastN ul m.id.d))
def HoldsP (self epoch : Int) (ul : NxT) (hs : List MsgD) : Prop := (∀ m ∈ hs, okM self epoch ul m) ∧ (hs.map (·.id)).Nodup
def FormS (self epoch : Int) (ul : NxT) (hs : List MsgD) (mks : List Mk) : Prop := NextsP self epoch ul ∧ HoldsP self epoch ul hs ∧ (∀ m ∈ mks, m.o ≠ self) ∧ FormP mks
def FullS (qh qb qg : Int) (hs : List MsgD) (mks : List Mk) : Prop := qg < sumM mks ∨ qh < hs.length ∨ qb < bytesD hs
/-- what a state is told -/
def CheckS (qh qb qg self epoch : Int) (ul : NxT) (hs : List MsgD) (mks : List Mk) (e : Int) : Prop :=
  (badD self qh qb qg ∧ e = 1) ∨ (¬ badD self qh qb qg ∧ ¬ FormS self epoch ul hs mks ∧ e = 2) ∨ (¬ badD self qh qb qg ∧ FormS self epoch ul hs mks ∧ FullS qh qb qg hs mks ∧ e = 6) ∨
  (¬ badD self qh qb qg ∧ FormS self epoch ul hs mks ∧ ¬ FullS qh qb qg hs mks ∧ e = 0)
theorem CheckS.uniq {qh qb qg self epoch : Int} {ul : NxT} {hs : List MsgD} {mks : List Mk} {e e' : Int} (h : CheckS qh qb qg self epoch ul hs mks e) (h' : CheckS qh qb qg self epoch ul hs mks e') : e = e' := by
  rcases h with ⟨h1, h2⟩ | ⟨h1, h2, h3⟩ | ⟨h1, h2, h3, h4⟩ | ⟨h1, h2, h3, h4⟩ <;> rcases h' with ⟨g1, g2⟩ | ⟨g1, g2, g3⟩ | ⟨g1, g2, g3, g4⟩ | ⟨g1, g2, g3, g4⟩ <;> first | omega | exact absurd h1 g1 | exact absurd g1 h1 | exact absurd h2 g2 | exact absurd g2 h2 | exact absurd h3 g3 | exact absurd g3 h3
/-- counters, as the program has them -/
def arrU (ul : NxT) : List Int := ul.foldl (fun u n => u.set n.1.toNat n.2) (List.replicate 64 0)
theorem arrU_snoc (ul : NxT) (n : Int × Int) : arrU (ul ++ [n]) = (arrU ul).set n.1.toNat n.2 := by simp [arrU]
theorem foldl_len : ∀ (ul : NxT) (u : List Int), (ul.foldl (fun u n => u.set n.1.toNat n.2) u).length = u.length
  | [], _ => rfl
  | n :: r, u => by rw [List.foldl_cons, foldl_len r, List.length_set]
theorem arrU_len (ul : NxT) : (arrU ul).length = 64 := by unfold arrU; rw [foldl_len]; simp
theorem restN_last {n : Int × Int} : ∀ {l : NxT}, (∀ x ∈ l, x.1 < n.1) → restN n false l = l ++ [n]
  | [], _ => rfl
  | x :: r, h => by
    have h1 := h x (by simp)
    rw [restN, if_neg (by omega), if_neg (by omega), restN_last fun y hy => h y (by simp [hy])]
    rfl
theorem usedD_take {self epoch : Int} {ul : NxT} (h : Nx self epoch ul) : ∀ k, k ≤ ul.length → usedD (arrU (ul.take k)) = ul.take k
  | 0, _ => usedD_zero
  | k + 1, hk => by
    have hx : ul[k]? = some ul[k] := List.getElem?_eq_getElem (by omega)
    have htk : ul.take (k + 1) = ul.take k ++ [ul[k]] := by rw [List.take_add_one, hx]; rfl
    have ih := usedD_take h k (by omega)
    have he := h.each ul[k] (List.getElem_mem _)
    have hlt : ∀ x ∈ ul.take k, x.1 < ul[k].1 := fun x hx => by
      obtain ⟨j, hj, rfl⟩ := List.getElem_of_mem hx
      rw [List.getElem_take]
      simp at hj
      exact List.pairwise_iff_getElem.1 h.sort j k (by omega) (by omega) (by omega)
    generalize ul[k] = n at *
    rw [htk, arrU_snoc]
    have := useN_usedF (c := n.2) (by omega) (arrU (ul.take k)) 0 n.1.toNat (by rw [arrU_len]; omega)
    rw [Nat.zero_add] at this
    show usedF 0 ((arrU (ul.take k)).set n.1.toNat n.2) = _
    rw [← this, show usedF 0 (arrU (ul.take k)) = ul.take k from ih, show ((n.1.toNat : Int), n.2) = n from Prod.ext (by show (n.1.toNat : Int) = n.1; omega) rfl]
    exact restN_last hlt
theorem usedD_arrU {self epoch : Int} {ul : NxT} (h : Nx self epoch ul) : usedD (arrU ul) = ul := by
  have := usedD_take h ul.length (by omega)
  rwa [List.take_of_length_le (by omega)] at this
theorem foldl_mem : ∀ (ul : NxT) (u : List Int) (x : Int), x ∈ ul.foldl (fun u n => u.set n.1.toNat n.2) u → x ∈ u ∨ ∃ n ∈ ul, x = n.2
  | [], _, _, h => .inl h
  | n :: r, u, x, h => by
    rw [List.foldl_cons] at h
    rcases foldl_mem r _ x h with h | ⟨m, hm, e⟩
    · rcases List.mem_or_eq_of_mem_set h with h | h
      · exact .inl h
      · exact .inr ⟨n, by simp, h⟩
    · exact .inr ⟨m, by simp [hm], e⟩
theorem arrU_mem {self epoch : Int} {ul : NxT} (h : Nx self epoch ul) : ∀ x ∈ arrU ul, 0 ≤ x ∧ x ≤ 65535 := fun x hx => by
  rcases foldl_mem ul _ x hx with h1 | ⟨n, hn, rfl⟩
  · have := List.eq_of_mem_replicate h1; omega
  · have := h.each n hn; omega
theorem lastN_arrU {self epoch : Int} {ul : NxT} (h : Nx self epoch ul) {d : Int} (hd : 0 ≤ d) : lastN ul d = (arrU ul).getD d.toNat 0 := by
  have := lastN_usedF (arrU ul) 0 d.toNat (fun n hn => (arrU_mem h n hn).1)
  rw [Nat.zero_add, show usedF 0 (arrU ul) = ul from usedD_arrU h, show ((d.toNat : Nat) : Int) = d by omega] at this
  exact this
/-- what held messages make of the counters -/
def usedH (self epoch : Int) (u : List Int) (hs : List MsgD) : List Int := hs.foldl (fun u m => if m.id.o = self ∧ m.id.e = epoch then u.set m.id.d.toNat (max (u.getD m.id.d.toNat 0) m.id.c) else u) u
theorem usedH_snoc (self epoch : Int) (u : List Int) (hs : List MsgD) (m : MsgD) : usedH self epoch u (hs ++ [m]) = if m.id.o = self ∧ m.id.e = epoch then (usedH self epoch u hs).set m.id.d.toNat (max ((usedH self epoch u hs).getD m.id.d.toNat 0) m.id.c) else usedH self epoch u hs := by simp [usedH]
theorem getD_set {u : List Int} {i j : Nat} {v : Int} (hi : i < u.length) : (u.set i v).getD j 0 = if j = i then v else u.getD j 0 := by
  rw [List.getD_eq_getElem?_getD, List.getD_eq_getElem?_getD, List.getElem?_set]
  by_cases h : j = i
  · subst h; rw [if_pos rfl, if_pos hi, if_pos rfl]; rfl
  · rw [if_neg (by omega), if_neg h]
theorem usedH_step {self epoch : Int} {u : List Int} {m : MsgD} (hd : m.id.o = self ∧ m.id.e = epoch → m.id.d.toNat < u.length) :
    let u' := (if m.id.o = self ∧ m.id.e = epoch then u.set m.id.d.toNat (max (u.getD m.id.d.toNat 0) m.id.c) else u)
    u'.length = u.length ∧ (∀ j, u.getD j 0 ≤ u'.getD j 0) ∧ (m.id.o = self ∧ m.id.e = epoch → m.id.c ≤ u'.getD m.id.d.toNat 0) := by
  dsimp only
  split
  · rename_i h
    have := hd h
    refine ⟨by simp, fun j => ?_, fun _ => ?_⟩
    · rw [getD_set this]; split
      · rename_i e; subst e; omega
      · omega
    · rw [getD_set this, if_pos rfl]; omega
  · rename_i h
    exact ⟨rfl, fun j => by omega, fun h' => absurd h' h⟩
theorem usedH_ge {self epoch : Int} : ∀ (hs : List MsgD) (u : List Int), (∀ m ∈ hs, m.id.o = self ∧ m.id.e = epoch → m.id.d.toNat < u.length) →
    (∀ j, u.getD j 0 ≤ (usedH self epoch u hs).getD j 0) ∧ ∀ m ∈ hs, m.id.o = self ∧ m.id.e = epoch → m.id.c ≤ (usedH self epoch u hs).getD m.id.d.toNat 0
  | [], u, _ => ⟨fun j => by simp [usedH], by simp⟩
  | x :: r, u, h => by
    obtain ⟨h1, h2, h3⟩ := usedH_step (self := self) (epoch := epoch) (u := u) (m := x) (h x (by simp))
    have e : usedH self epoch u (x :: r) = usedH self epoch (if x.id.o = self ∧ x.id.e = epoch then u.set x.id.d.toNat (max (u.getD x.id.d.toNat 0) x.id.c) else u) r := rfl
    rw [e]
    generalize (if x.id.o = self ∧ x.id.e = epoch then u.set x.id.d.toNat (max (u.getD x.id.d.toNat 0) x.id.c) else u) = u' at *
    obtain ⟨g1, g2⟩ := usedH_ge r u' (fun m hm hc => by rw [h1]; exact h m (by simp [hm]) hc)
    refine ⟨fun j => Int.le_trans (h2 j) (g1 j), fun m hm hc => ?_⟩
    rcases List.mem_cons.1 hm with rfl | hm
    · exact Int.le_trans (h3 hc) (g1 _)
    · exact g2 m hm hc
theorem usedH_same {self epoch : Int} : ∀ (hs : List MsgD) (u : List Int), (∀ m ∈ hs, m.id.o = self ∧ m.id.e = epoch → m.id.d.toNat < u.length ∧ m.id.c ≤ u.getD m.id.d.toNat 0) → usedH self epoch u hs = u
  | [], _, _ => rfl
  | x :: r, u, h => by
    have e : usedH self epoch u (x :: r) = usedH self epoch (if x.id.o = self ∧ x.id.e = epoch then u.set x.id.d.toNat (max (u.getD x.id.d.toNat 0) x.id.c) else u) r := rfl
    have e2 : (if x.id.o = self ∧ x.id.e = epoch then u.set x.id.d.toNat (max (u.getD x.id.d.toNat 0) x.id.c) else u) = u := by
      split
      · rename_i hc
        obtain ⟨h1, h2⟩ := h x (by simp) hc
        exact set_same h2 h1
      · rfl
    rw [e, e2]
    exact usedH_same r u fun m hm => h m (by simp [hm])
end Go.Proofs.YtlocjjponfbhmaaGreat

/- States: are the counters right? -/
namespace Go.Proofs.YtlocjjponfbhmaaGreat
open Go Go.Vm
attribute [local irreducible] Brn Ob Grow CallsM inR LoopVC Mem.row Mem.cells Mem.setCells Mem.upd Own AppVC SrcVC StrVC NextVC New SrcOk subA NewSl Mem.textAt Mem.mapAt Mem.iterAt entryOf kfind Wr NewEls Elems
set_option maxRecDepth 10000
set_option linter.unusedSimpArgs false
variable {M : Mem} {self epoch : Int} {ul : NxT}
theorem Nx.snoc {me ep : Int} {l : NxT} {n : Int × Int} (h : Nx me ep l) (h1 : 0 ≤ n.1 ∧ n.1 ≤ 63) (h2 : n.1 ≠ me) (h3 : 1 ≤ n.2 ∧ n.2 ≤ 65535) (h4 : ep ≠ 0) (h5 : ∀ x ∈ l, x.1 < n.1) : Nx me ep (l ++ [n]) := by
  refine ⟨fun x hx => ?_, ?_, fun _ => h4⟩
  · rcases List.mem_append.1 hx with hx | hx
    · exact h.each x hx
    · simp only [List.mem_singleton] at hx; subst hx; exact ⟨h1, h2, h3⟩
  · rw [List.pairwise_append]
    exact ⟨h.sort, by simp, fun x hx y hy => by simp only [List.mem_singleton] at hy; subst hy; exact h5 x hx⟩
theorem nexts_ok {ua ha ma : Option Addr} {un uc hn hc mn mc : Nat} (hu : SrcOk M 2 ua un (ul.flatMap encN)) (hun : un ≤ 4194000) :
    CallsM Tryz.prog F.store_nexts [statV self epoch ua un uc ha hn hc ma mn mc] M fun v M' => ∃ b : Bool, v = .bool b ∧ (b = true ↔ NextsP self epoch ul) ∧ M = M' := by
  refine fo_store_nexts (by simp) ?_
  have hl := hu.flen encN_len (by decide)
  (conv => whnf)
  refine loopF (σ := Nat × Int) [9, 3] (fun y => [(9, .int .i64 y.1), (3, .int .i64 y.2)]) (fun _ => [.live T.api_State [.v (.int .i64 self), .v (.int .i64 epoch), .v (.slice ua un uc), .v (.slice ha hn hc), .v (.slice ma mn mc)]]) (fun _ => M)
    (fun | ⟨i, last⟩ => i ≤ un ∧ Nx self epoch (ul.take i) ∧ (∀ x ∈ ul.take i, x.1 ≤ last) ∧ ((i = 0 ∧ last = -1) ∨ ∃ x ∈ ul.take i, x.1 = last)) (fun y => un - y.1) ⟨0, -1⟩ ⟨by omega, ⟨by simp, by simp, by simp⟩, by simp, .inl ⟨rfl, rfl⟩⟩ ⟨(by repeat' first | exact True.intro | refine ⟨rfl, ?_⟩), (by repeat' first | exact True.intro | refine ⟨rfl, ?_⟩), Mem.le_refl _, rfl⟩ ?_
  rintro ⟨i, last⟩ ⟨hi, hN, hlast, hmax⟩
  (conv => whnf); refine brn (fun g => ?_) (fun g => ?_)
  rotate_left
  · have hge : un ≤ i := by have := of_decide_eq_false g; dsimp only at this; omega
    rw [List.take_of_length_le (by omega)] at hN
    repeat' ((conv => whnf); first | refine ⟨?_, True.intro⟩ | refine brn_t rfl ?_ | refine brn_f rfl ?_ | refine ob rfl ?_ | refine ob (by decide) ?_ | refine grow_same (Mem.le_refl _) ?_ | refine ob (Mem.le_refl _) ?_ | refine ⟨_, Mem.le_refl _, ?_⟩ | fail)
    refine (inS_ok _ _).mono ?_
    rintro v _ ⟨rfl, rfl⟩
    repeat' ((conv => whnf); first | refine ⟨?_, True.intro⟩ | refine brn_t rfl ?_ | refine brn_f rfl ?_ | refine ob rfl ?_ | refine ob (by decide) ?_ | refine grow_same (Mem.le_refl _) ?_ | refine ob (Mem.le_refl _) ?_ | refine ⟨_, Mem.le_refl _, ?_⟩ | fail)
    exact ⟨_, rfl, by rw [decide_eq_true_iff]; exact ⟨fun h => ⟨hN, h⟩, fun h => h.2⟩, rfl⟩
  have hlt : i < ul.length := by have := of_decide_eq_true g; dsimp only at this; omega
  have hx : ul[i]? = some ul[i] := List.getElem?_eq_getElem hlt
  obtain ⟨b1, o1, ha1, hc1⟩ := hu.fparts encN_len (by decide) hx
  have htk : ul.take (i + 1) = ul.take i ++ [ul[i]] := by rw [List.take_add_one, hx]; rfl
  have hmem : ul[i] ∈ ul := List.getElem_mem _
  have hord : NextsP self epoch ul → ∀ x ∈ ul.take i, x.1 < ul[i].1 := fun h x hx => by
    obtain ⟨j, hj, rfl⟩ := List.getElem_of_mem hx
    rw [List.getElem_take]
    simp at hj
    exact List.pairwise_iff_getElem.1 h.1.sort j i (by omega) (by omega) (by omega)
  generalize ul[i] = n at *
  (conv => whnf); refine ob (by first | omega | (dsimp only; omega)) ?_
  (conv => whnf); refine atp ha1 ?_
  (conv => whnf); refine on (hc1 0 2 (by decide)) ?_
  (conv => whnf); refine brn (fun gg => ?_) (fun g1 => ?_)
  · repeat' ((conv => whnf); first | refine ⟨?_, True.intro⟩ | refine brn_t rfl ?_ | refine brn_f rfl ?_ | refine ob rfl ?_ | refine ob (by decide) ?_ | refine grow_same (Mem.le_refl _) ?_ | refine ob (Mem.le_refl _) ?_ | refine ⟨_, Mem.le_refl _, ?_⟩ | fail)
    refine ⟨false, rfl, ⟨by simp, fun h => ?_⟩, rfl⟩
    exfalso
    have he := h.1.each n hmem
    have ho := hord h
    have hs := h.1.some (fun e => by rw [e] at hmem; cases hmem)
    first
    | (simp only [decide_eq_true_eq, Bool.not_eq_true', decide_eq_false_iff_not] at gg; omega)
    | (rcases hmax with ⟨_, rfl⟩ | ⟨x, hx, rfl⟩
       · simp only [decide_eq_true_eq] at gg; omega
       · have := ho x hx; simp only [decide_eq_true_eq] at gg; omega)
  repeat' ((conv => whnf); first | refine ⟨?_, True.intro⟩ | refine brn_t rfl ?_ | refine brn_f rfl ?_ | refine ob rfl ?_ | refine ob (by decide) ?_ | refine grow_same (Mem.le_refl _) ?_ | refine ob (Mem.le_refl _) ?_ | refine ⟨_, Mem.le_refl _, ?_⟩ | fail)
  refine (inS_ok _ _).mono ?_
  rintro v _ ⟨rfl, rfl⟩
  (conv => whnf); refine brn (fun gg => ?_) (fun g2 => ?_)
  · repeat' ((conv => whnf); first | refine ⟨?_, True.intro⟩ | refine brn_t rfl ?_ | refine brn_f rfl ?_ | refine ob rfl ?_ | refine ob (by decide) ?_ | refine grow_same (Mem.le_refl _) ?_ | refine ob (Mem.le_refl _) ?_ | refine ⟨_, Mem.le_refl _, ?_⟩ | fail)
    refine ⟨false, rfl, ⟨by simp, fun h => ?_⟩, rfl⟩
    exfalso
    have he := h.1.each n hmem
    have ho := hord h
    have hs := h.1.some (fun e => by rw [e] at hmem; cases hmem)
    first
    | (simp only [decide_eq_true_eq, Bool.not_eq_true', decide_eq_false_iff_not] at gg; omega)
    | (rcases hmax with ⟨_, rfl⟩ | ⟨x, hx, rfl⟩
       · simp only [decide_eq_true_eq] at gg; omega
       · have := ho x hx; simp only [decide_eq_true_eq] at gg; omega)
  (conv => whnf); refine brn (fun gg => ?_) (fun g3 => ?_)
  · repeat' ((conv => whnf); first | refine ⟨?_, True.intro⟩ | refine brn_t rfl ?_ | refine brn_f rfl ?_ | refine ob rfl ?_ | refine ob (by decide) ?_ | refine grow_same (Mem.le_refl _) ?_ | refine ob (Mem.le_refl _) ?_ | refine ⟨_, Mem.le_refl _, ?_⟩ | fail)
    refine ⟨false, rfl, ⟨by simp, fun h => ?_⟩, rfl⟩
    exfalso
    have he := h.1.each n hmem
    have ho := hord h
    have hs := h.1.some (fun e => by rw [e] at hmem; cases hmem)
    first
    | (simp only [decide_eq_true_eq, Bool.not_eq_true', decide_eq_false_iff_not] at gg; omega)
    | (rcases hmax with ⟨_, rfl⟩ | ⟨x, hx, rfl⟩
       · simp only [decide_eq_true_eq] at gg; omega
       · have := ho x hx; simp only [decide_eq_true_eq] at gg; omega)
  (conv => whnf); refine brn (fun gg => ?_) (fun g4 => ?_)
  · repeat' ((conv => whnf); first | refine ⟨?_, True.intro⟩ | refine brn_t rfl ?_ | refine brn_f rfl ?_ | refine ob rfl ?_ | refine ob (by decide) ?_ | refine grow_same (Mem.le_refl _) ?_ | refine ob (Mem.le_refl _) ?_ | refine ⟨_, Mem.le_refl _, ?_⟩ | fail)
    refine ⟨false, rfl, ⟨by simp, fun h => ?_⟩, rfl⟩
    exfalso
    have he := h.1.each n hmem
    have ho := hord h
    have hs := h.1.some (fun e => by rw [e] at hmem; cases hmem)
    first
    | (simp only [decide_eq_true_eq, Bool.not_eq_true', decide_eq_false_iff_not] at gg; omega)
    | (rcases hmax with ⟨_, rfl⟩ | ⟨x, hx, rfl⟩
       · simp only [decide_eq_true_eq] at gg; omega
       · have := ho x hx; simp only [decide_eq_true_eq] at gg; omega)
  (conv => whnf); refine brn (fun gg => ?_) (fun g5 => ?_)
  · repeat' ((conv => whnf); first | refine ⟨?_, True.intro⟩ | refine brn_t rfl ?_ | refine brn_f rfl ?_ | refine ob rfl ?_ | refine ob (by decide) ?_ | refine grow_same (Mem.le_refl _) ?_ | refine ob (Mem.le_refl _) ?_ | refine ⟨_, Mem.le_refl _, ?_⟩ | fail)
    refine ⟨false, rfl, ⟨by simp, fun h => ?_⟩, rfl⟩
    exfalso
    have he := h.1.each n hmem
    have ho := hord h
    have hs := h.1.some (fun e => by rw [e] at hmem; cases hmem)
    first
    | (simp only [decide_eq_true_eq, Bool.not_eq_true', decide_eq_false_iff_not] at gg; omega)
    | (rcases hmax with ⟨_, rfl⟩ | ⟨x, hx, rfl⟩
       · simp only [decide_eq_true_eq] at gg; omega
       · have := ho x hx; simp only [decide_eq_true_eq] at gg; omega)
  (conv => whnf); refine brn (fun gg => ?_) (fun g6 => ?_)
  · repeat' ((conv => whnf); first | refine ⟨?_, True.intro⟩ | refine brn_t rfl ?_ | refine brn_f rfl ?_ | refine ob rfl ?_ | refine ob (by decide) ?_ | refine grow_same (Mem.le_refl _) ?_ | refine ob (Mem.le_refl _) ?_ | refine ⟨_, Mem.le_refl _, ?_⟩ | fail)
    refine ⟨false, rfl, ⟨by simp, fun h => ?_⟩, rfl⟩
    exfalso
    have he := h.1.each n hmem
    have ho := hord h
    have hs := h.1.some (fun e => by rw [e] at hmem; cases hmem)
    first
    | (simp only [decide_eq_true_eq, Bool.not_eq_true', decide_eq_false_iff_not] at gg; omega)
    | (rcases hmax with ⟨_, rfl⟩ | ⟨x, hx, rfl⟩
       · simp only [decide_eq_true_eq] at gg; omega
       · have := ho x hx; simp only [decide_eq_true_eq] at gg; omega)
  simp only [decide_eq_false_iff_not, Bool.not_eq_false', decide_eq_true_eq] at g1 g2 g3 g4 g5 g6
  repeat' ((conv => whnf); first | refine ⟨?_, True.intro⟩ | refine brn_t rfl ?_ | refine brn_f rfl ?_ | refine ob rfl ?_ | refine ob (by decide) ?_ | refine grow_same (Mem.le_refl _) ?_ | refine ob (Mem.le_refl _) ?_ | refine ⟨_, Mem.le_refl _, ?_⟩ | fail)
  refine ob (inR_i64 (by first | omega | (dsimp only; omega))) ?_
  (conv => whnf)
  have hlt' : ∀ x ∈ ul.take i, x.1 < n.1 := fun x hx => by have := hlast x hx; omega
  refine ⟨⟨i + 1, n.1⟩, ⟨by omega, htk ▸ hN.snoc g2 g3 (by omega) g6 hlt', fun x hx => ?_, .inr ⟨n, by rw [htk]; simp, rfl⟩⟩, by dsimp only; omega, ⟨(by repeat' first | exact True.intro | refine ⟨rfl, ?_⟩), (by repeat' first | exact True.intro | refine ⟨rfl, ?_⟩), Mem.le_refl _, rfl⟩⟩
  rw [htk] at hx
  rcases List.mem_append.1 hx with hx | hx
  · have := hlt' x hx; omega
  · simp only [List.mem_singleton] at hx; subst hx; omega
end Go.Proofs.YtlocjjponfbhmaaGreat

/- States: are the messages right? what the document says; copies. -/
namespace Go.Proofs.YtlocjjponfbhmaaGreat
open Go Go.Vm
attribute [local irreducible] Brn Ob Grow CallsM inR LoopVC Mem.row Mem.cells Mem.setCells Mem.upd Own AppVC SrcVC StrVC NextVC New SrcOk subA NewSl Mem.textAt Mem.mapAt Mem.iterAt entryOf kfind Wr NewEls Elems
set_option maxRecDepth 10000
set_option linter.unusedSimpArgs false
variable {M : Mem} {self epoch : Int} {ul : NxT} {ms : List MX} {mk : List MkC}
theorem MsgsR.take {a : Option Addr} {n c : Nat} (h : MsgsR M a n ms) {k : Nat} (hk : k ≤ n) (hc : n ≤ c) : MsgsR M (subA a 0 c 5) k (ms.take k) := by
  refine ⟨?_, fun m hm => h.data m (List.mem_of_mem_take hm)⟩
  have h6 := h.row.sub (lo := 0) (hi := k) (by omega) hk hc (by decide)
  rw [Nat.zero_mul, List.drop_zero, Nat.sub_zero, flat_take encX_len] at h6
  exact h6
theorem hasD_iff {l : List MsgD} {i : IdT} : hasD l i = true ↔ i ∈ l.map (·.id) := by
  unfold hasD
  rw [List.any_eq_true]
  constructor
  · rintro ⟨m, hm, h⟩; exact List.mem_map.2 ⟨m, hm, by simpa using h⟩
  · intro h; obtain ⟨m, hm, e⟩ := List.mem_map.1 h; exact ⟨m, hm, by simpa using e⟩
/-- what is needed of a state that is read -/
structure BigS (ms : List MX) (mk : List MkC) (un hn hc mn : Nat) : Prop where
  b1 : un ≤ 1048576
  b2 : hn ≤ 1048576
  b3 : hn ≤ hc
  b4 : mn ≤ 1048576
  msgs : ∀ m ∈ ms, m.p.length ≤ 1048576
  marks : ∀ m ∈ mk, m.more.length ≤ 1048576
end Go.Proofs.YtlocjjponfbhmaaGreat

