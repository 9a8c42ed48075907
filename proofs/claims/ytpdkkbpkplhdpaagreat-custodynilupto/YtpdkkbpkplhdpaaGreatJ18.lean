/- Part of this proof; laid by program. -/
import Derived.Test.YtpdkkbpkplhdpaaGreatJ17
namespace Go.Proofs.YtpdkkbpkplhdpaaGreat
open Go Go.Vm
attribute [local irreducible] Brn Ob Grow CallsM inR LoopVC LoopVC0 Mem.row Mem.cells Mem.setCells Mem.upd Go.Vm.Own AppVC SrcVC StrVC NextVC New SrcOk subA NewSl Mem.textAt Mem.mapAt Mem.iterAt entryOf kfind Wr NewEls Elems
set_option maxRecDepth 10000
section
structure MsgD where
  id : IdT
  p : List UInt8
deriving DecidableEq
structure StR where
  self : Int
  qh : Int
  qb : Int
  qg : Int
  epoch : Int
  used : List Int
  l : List MsgD
structure EvD where
  kind : Int
  id : IdT
  p : List UInt8
@[reducible] def idErrD (i : IdT) : Int := idErr i.o i.d i.e i.c
@[reducible] def msgErrD (i : IdT) (n : Nat) : Int := msgErr i.o i.d i.e i.c n
def zeroId (i : IdT) : Prop := i.o = 0 ∧ i.d = 0 ∧ i.e = 0 ∧ i.c = 0
instance (i : IdT) : Decidable (zeroId i) := by unfold zeroId; infer_instance
def formD (k : Int) (i : IdT) (n : Nat) : Int :=
  if k = 1 then (if ¬ zeroId i ∨ 0 < n then 2 else 0)
  else if k = 2 then msgErrD i n
  else if k = 3 ∨ k = 4 then (if idErrD i ≠ 0 then idErrD i else if 0 < n then 2 else 0)
  else 1
def bytesD (l : List MsgD) : Nat := (l.map fun m => m.p.length).sum
def hasD (l : List MsgD) (i : IdT) : Bool := l.any fun m => decide (m.id = i)
def mayD (S : StR) (set : IdT → Int) (k : Int) (i : IdT) (n : Nat) : Int :=
  if formD k i n ≠ 0 then formD k i n
  else if k = 1 then (if S.epoch = 65535 then 10 else 0)
  else if k = 2 then (if i.d = S.self ∨ (i.o = S.self ∧ S.epoch < i.e) then 2 else if hasD S.l i then 5 else if S.qh ≤ S.l.length ∨ S.qb < bytesD S.l + n then 6 else 0)
  else if k = 3 then (if hasD S.l i then 0 else 4)
  else (if i.d ≠ S.self then 2 else set i)
def lastD (S : StR) (d : Int) : Int := S.used.getD d.toNat 0
def applyD (S : StR) (k : Int) (i : IdT) (p : List UInt8) : StR :=
  if k = 1 then { S with epoch := S.epoch + 1, used := List.replicate 64 0 }
  else if k = 2 then { S with l := S.l ++ [⟨i, p⟩], used := if i.o = S.self ∧ i.e = S.epoch then S.used.set i.d.toNat (max (lastD S i.d) i.c) else S.used }
  else if k = 3 then { S with l := S.l.filter fun m => decide (m.id ≠ i) }
  else S
structure InvS (S : StR) : Prop where
  self : 0 ≤ S.self ∧ S.self ≤ 63
  epoch : 0 ≤ S.epoch ∧ S.epoch ≤ 65535
  ulen : S.used.length = 64
  used : ∀ n ∈ S.used, 0 ≤ n ∧ n ≤ 65535
  qh : (S.l.length : Int) ≤ S.qh ∧ S.qh ≤ 2097152
  qb : (bytesD S.l : Int) ≤ S.qb ∧ S.qb ≤ 134217728
  msgs : ∀ m ∈ S.l, msgErrD m.id m.p.length = 0 ∧ m.id.d ≠ S.self ∧ (m.id.o = S.self → m.id.e ≤ S.epoch)
  nodup : (S.l.map (·.id)).Nodup
structure PX where
  id : IdT
  a : Option Addr
  c : Nat
  p : List UInt8
  n : Int
@[reducible] def PX.msg (x : PX) : MsgD := ⟨x.id, x.p⟩
abbrev HsT := List (IdT × PX)
@[reducible] def idA (i : IdT) : Value := .agg #[.int .i64 i.o, .int .i64 i.d, .int .i64 i.e, .int .i64 i.c]
@[reducible] def pxV (x : PX) : Value := .agg #[.int .i64 x.id.o, .int .i64 x.id.d, .int .i64 x.id.e, .int .i64 x.id.c, .slice x.a x.p.length x.c, .int .i64 x.n]
theorem idK : KeyOk idA := by
  intro a b
  obtain ⟨a1, a2, a3, a4⟩ := a
  obtain ⟨b1, b2, b3, b4⟩ := b
  simp only [sameV, sameCs, if_true, IdT.mk.injEq]
  (repeat' split) <;> simp_all
@[reducible] def stCs (S : StR) (b : Nat) (came : Int) (bytes : Int) (sp : Nat) : List Value :=
  [.int .i64 S.self, .int .i64 S.qh, .int .i64 S.qb, .int .i64 S.qg, .int .i64 S.epoch] ++ S.used.map intV ++ [.map (some b), .int .i64 came, .int .i64 bytes, ptr sp]
structure StAt (M : Mem) (p b sp sb : Nat) (S : StR) (came : Int) (xs : HsT) (es : EsT) : Prop where
  self : M.has p T.store_Store (stCs S b came (bytesD S.l) sp)
  map : MapAt idA pxV M b xs
  data : ∀ q ∈ xs, Wr M T.uint8 1 q.2.a q.2.p.length q.2.c (q.2.p.map byteV)
  set : SetAt M sp sb S.qg es
  held : xs.map (fun q => q.2.msg) = S.l
  keys : ∀ q ∈ xs, q.2.id = q.1
  ord : xs.Pairwise fun x y => x.2.n < y.2.n
  came : 0 ≤ came ∧ ∀ q ∈ xs, 0 ≤ q.2.n ∧ q.2.n < came
  ne : b ≠ sb
def stB (p b sp sb : Nat) (xs : HsT) (es : EsT) : Nat → Prop := fun y => y = p ∨ y = b ∨ (∃ q ∈ xs, blk q.2.a y) ∨ setB sp sb es y
variable {M : Mem} {p b sp sb : Nat} {S : StR} {came : Int} {xs : HsT} {es : EsT}
theorem SetAt.mono {M' : Mem} {gaps : Int} (h : SetAt M sp sb gaps es) (hk : ∀ y o, setB sp sb es y → M y = some o → M' y = some o) : SetAt M' sp sb gaps es :=
  ⟨hk _ _ (.inl rfl) h.self, h.map.mono fun o ho => hk _ _ (.inr (.inl rfl)) ho, fun q hq => (h.ents q hq).mono fun y o hy ho => hk y o (.inr (.inr ⟨q, hq, hy⟩)) ho, h.apart⟩
theorem StAt.mono {M' : Mem} (h : StAt M p b sp sb S came xs es) (hk : ∀ y o, stB p b sp sb xs es y → M y = some o → M' y = some o) : StAt M' p b sp sb S came xs es :=
  ⟨hk _ _ (.inl rfl) h.self, h.map.mono fun o ho => hk _ _ (.inr (.inl rfl)) ho, fun q hq => (h.data q hq).mono fun y o hy ho => hk _ o (.inr (.inr (.inl ⟨q, hq, _, hy, rfl⟩))) ho, h.set.mono fun y o hy ho => hk y o (.inr (.inr (.inr hy))) ho, h.held, h.keys, h.ord, h.came, h.ne⟩
theorem StAt.le {M' : Mem} (h : StAt M p b sp sb S came xs es) (hle : M.le M') : StAt M' p b sp sb S came xs es := h.mono fun y o _ => hle y o
theorem stCs_len (hu : S.used.length = 64) (b : Nat) (came bytes : Int) (sp : Nat) : (stCs S b came bytes sp).length = 73 := by simp [hu]
theorem stCs_map (hu : S.used.length = 64) (b : Nat) (came bytes : Int) (sp : Nat) : (stCs S b came bytes sp)[69]? = some (.map (some b)) := by
  simp [hu]
theorem stCs_came (hu : S.used.length = 64) (b : Nat) (came bytes : Int) (sp : Nat) : (stCs S b came bytes sp)[70]? = some (.int .i64 came) := by
  simp [hu]
theorem stCs_bytes (hu : S.used.length = 64) (b : Nat) (came bytes : Int) (sp : Nat) : (stCs S b came bytes sp)[71]? = some (.int .i64 bytes) := by
  simp [hu]
theorem stCs_set (hu : S.used.length = 64) (b : Nat) (came bytes : Int) (sp : Nat) : (stCs S b came bytes sp)[72]? = some (ptr sp) := by
  simp [hu]
theorem stCs_used (hu : S.used.length = 64) (b : Nat) (came bytes : Int) (sp : Nat) {d : Nat} (hd : d < 64) : (stCs S b came bytes sp)[5 + d]? = some (.int .i64 (S.used.getD d 0)) := by
  have h : d < S.used.length := by omega
  rw [Nat.add_comm 5 d]
  simp [List.getElem?_append, h]
end
section
variable {M : Mem} {p b sp sb : Nat} {S : StR} {came : Int} {xs : HsT} {es : EsT}
theorem inS_ok (n most : Int) : CallsM Tryz.prog F.store_in [.int .i64 n, .int .i64 most] M fun v M' => v = .bool (decide (0 ≤ n ∧ n ≤ most)) ∧ M = M' := by
  refine fo_store_in (by simp) ?_
  (conv => whnf); refine brn (fun h => ?_) (fun h => ?_)
  all_goals (conv => whnf)
  · exact ⟨by have := of_decide_eq_true h; simp_all, rfl⟩
  · exact ⟨by have := of_decide_eq_false h; simp_all; omega, rfl⟩
theorem form_ok (k : Int) (i : IdT) (a : Option Addr) (n c : Nat) : CallsM Tryz.prog F.store_form [.agg #[.int .i64 k, .int .i64 i.o, .int .i64 i.d, .int .i64 i.e, .int .i64 i.c, .slice a n c]] M fun v M' => v = .int .i64 (formD k i n) ∧ M = M' := by
  refine fo_store_form (by simp) ?_
  (conv => whnf); refine brn (fun h => ?_) (fun h => ?_)
  · have h' : k = 1 := of_decide_eq_true h
    subst h'
    refine zR ?_
    refine brn (fun g => ?_) (fun g => ?_)
    · have g1 : ¬ zeroId i := by unfold zeroId; simp at g; omega
      refine zR ?_
      exact ⟨by unfold formD; rw [if_pos rfl, if_pos (.inl g1)], rfl⟩
    have g1 : zeroId i := by unfold zeroId; simp at g; omega
    (conv => whnf); refine brn (fun g2 => ?_) (fun g2 => ?_)
    · have g3 : 0 < n := by have := of_decide_eq_true g2; omega
      refine zR ?_
      exact ⟨by unfold formD; rw [if_pos rfl, if_pos (.inr g3)], rfl⟩
    · have g3 : ¬ 0 < n := by have := of_decide_eq_false g2; omega
      refine zR ?_
      exact ⟨by unfold formD; rw [if_pos rfl, if_neg (by simp [g1, g3])], rfl⟩
  (conv => whnf); refine brn (fun h2 => ?_) (fun h2 => ?_)
  · have h' : k = 2 := of_decide_eq_true h2
    subst h'
    refine zR ?_
    refine (checkMsg_ok _ _ _ _ _ _ _ _).mono ?_
    rintro v _ ⟨rfl, rfl⟩
    refine zR ?_
    exact ⟨rfl, rfl⟩
  have e1 : ¬ k = 1 := of_decide_eq_false h
  have e2 : ¬ k = 2 := of_decide_eq_false h2
  (conv => whnf); refine brn (fun h3 => ?_) (fun h3 => ?_)
  · have e3 : k = 3 := of_decide_eq_true h3
    (conv => whnf); refine brn_t h3 ?_
    (conv => whnf)
    refine zR ?_
    refine (check_ok _ _ _ _ _).mono ?_
    rintro v _ ⟨rfl, rfl⟩
    (conv => whnf); refine brn (fun g => ?_) (fun g => ?_)
    · have g' : ¬ idErrD i = 0 := by simpa using g
      refine zR ?_
      exact ⟨by unfold formD; rw [if_neg e1, if_neg e2, if_pos (by omega), if_pos g'], rfl⟩
    have g' : idErrD i = 0 := by simpa using g
    (conv => whnf); refine brn (fun g2 => ?_) (fun g2 => ?_)
    · have g3 : 0 < n := by have := of_decide_eq_true g2; omega
      refine zR ?_
      exact ⟨by unfold formD; rw [if_neg e1, if_neg e2, if_pos (by omega), if_neg (by simp [g']), if_pos g3], rfl⟩
    · have g3 : ¬ 0 < n := by have := of_decide_eq_false g2; omega
      refine zR ?_
      exact ⟨by unfold formD; rw [if_neg e1, if_neg e2, if_pos (by omega), if_neg (by simp [g']), if_neg g3], rfl⟩
  have e3 : ¬ k = 3 := of_decide_eq_false h3
  (conv => whnf); refine brn (fun h4 => ?_) (fun h4 => ?_)
  · have e4 : k = 4 := of_decide_eq_true h4
    (conv => whnf)
    refine zR ?_
    refine (check_ok _ _ _ _ _).mono ?_
    rintro v _ ⟨rfl, rfl⟩
    (conv => whnf); refine brn (fun g => ?_) (fun g => ?_)
    · have g' : ¬ idErrD i = 0 := by simpa using g
      refine zR ?_
      exact ⟨by unfold formD; rw [if_neg e1, if_neg e2, if_pos (by omega), if_pos g'], rfl⟩
    have g' : idErrD i = 0 := by simpa using g
    (conv => whnf); refine brn (fun g2 => ?_) (fun g2 => ?_)
    · have g3 : 0 < n := by have := of_decide_eq_true g2; omega
      refine zR ?_
      exact ⟨by unfold formD; rw [if_neg e1, if_neg e2, if_pos (by omega), if_neg (by simp [g']), if_pos g3], rfl⟩
    · have g3 : ¬ 0 < n := by have := of_decide_eq_false g2; omega
      refine zR ?_
      exact ⟨by unfold formD; rw [if_neg e1, if_neg e2, if_pos (by omega), if_neg (by simp [g']), if_neg g3], rfl⟩
  · have e4 : ¬ k = 4 := of_decide_eq_false h4
    refine zR ?_
    exact ⟨by unfold formD; rw [if_neg e1, if_neg e2, if_neg (by omega)], rfl⟩
structure FreshSt (M0 M : Mem) (p b sp sb : Nat) (S : StR) (came : Int) (xs : HsT) (es : EsT) : Prop where
  le : M0.le M
  at' : StAt M p b sp sb S came xs es
  inv : InvS S
  invE : InvE es
  room : (gapsE es : Int) ≤ S.qg ∧ S.qg ≤ 256
  fresh : ∀ y, stB p b sp sb xs es y → M0 y = none
def badD (self qh qb qg : Int) : Prop := ¬ (0 ≤ self ∧ self ≤ 63) ∨ ¬ (0 ≤ qh ∧ qh ≤ 256) ∨ ¬ (0 ≤ qb ∧ qb ≤ 1048576) ∨ ¬ (0 ≤ qg ∧ qg ≤ 256)
def newD (self qh qb qg : Int) : StR := ⟨self, qh, qb, qg, 0, List.replicate 64 0, []⟩
theorem newD_inv {self qh qb qg : Int} (h : ¬ badD self qh qb qg) : InvS (newD self qh qb qg) := by
  unfold badD at h
  refine ⟨?_, ?_, ?_, ?_, ?_, ?_, ?_, ?_⟩ <;> simp [newD, bytesD] <;> omega
theorem New15_ok (self qh qb qg : Int) : CallsM Tryz.prog F.store_New [.int .i64 self, .agg #[.int .i64 qh, .int .i64 qb, .int .i64 qg]] M fun v M' =>
    (badD self qh qb qg ∧ v = .tuple #[.pointer none, .int .i64 1] ∧ M = M') ∨
    (¬ badD self qh qb qg ∧ ∃ p b sp sb, v = .tuple #[ptr p, .int .i64 0] ∧ FreshSt M M' p b sp sb (newD self qh qb qg) 0 [] []) := by
  refine fo_store_New (by simp) ?_
  refine zR ?_
  refine (inS_ok _ _).mono ?_
  rintro v _ ⟨rfl, rfl⟩
  (conv => whnf); refine brn (fun g => ?_) (fun g => ?_)
  · (conv => whnf)
    refine zR ?_
    exact .inl ⟨by unfold badD; simp only [Bool.not_eq_true', decide_eq_false_iff_not] at *; omega, rfl, rfl⟩
  (conv => whnf); refine (inS_ok _ _).mono ?_
  rintro v _ ⟨rfl, rfl⟩
  (conv => whnf); refine brn (fun g1 => ?_) (fun g1 => ?_)
  · (conv => whnf)
    refine zR ?_
    exact .inl ⟨by unfold badD; simp only [Bool.not_eq_true', decide_eq_false_iff_not] at *; omega, rfl, rfl⟩
  (conv => whnf); refine (inS_ok _ _).mono ?_
  rintro v _ ⟨rfl, rfl⟩
  (conv => whnf); refine brn (fun g2 => ?_) (fun g2 => ?_)
  · (conv => whnf)
    refine zR ?_
    exact .inl ⟨by unfold badD; simp only [Bool.not_eq_true', decide_eq_false_iff_not] at *; omega, rfl, rfl⟩
  (conv => whnf); refine (inS_ok _ _).mono ?_
  rintro v _ ⟨rfl, rfl⟩
  (conv => whnf); refine brn (fun g3 => ?_) (fun g3 => ?_)
  · (conv => whnf)
    refine zR ?_
    exact .inl ⟨by unfold badD; simp only [Bool.not_eq_true', decide_eq_false_iff_not] at *; omega, rfl, rfl⟩
  have hn : ¬ badD self qh qb qg := by
    unfold badD
    simp only [Bool.not_eq_false', decide_eq_true_eq] at *
    omega
  refine zR ?_
  refine (newS qg).mono ?_
  rintro v M1 (⟨h, -⟩ | ⟨-, sp, sb, rfl, h1⟩)
  · unfold badD at hn; omega
  refine zR ?_
  refine new (fun b hb => ?_)
  replace hb : M1 b = none := hb
  (conv => whnf); refine new (fun p hp => ?_)
  replace hp : (M1.upd b (.map #[] 0)) p = none := hp
  have hne : p ≠ b := fun e => by subst e; rw [Mem.upd_same] at hp; cases hp
  rw [Mem.upd_ne _ _ hne] at hp
  (conv => whnf)
  refine .inr ⟨hn, p, b, sp, sb, rfl, ?_⟩
  have hq : M1.le (M1.upd b (.map #[] 0)) := Mem.le_upd hb
  have hp' : (M1.upd b (.map #[] 0)) p = none := by rw [Mem.upd_ne _ _ hne]; exact hp
  have hq2 : (M1.upd b (.map #[] 0)).le ((M1.upd b (.map #[] 0)).setCells p T.store_Store (stCs (newD self qh qb qg) b 0 0 sp)) := Mem.le_setCells hp'
  have hsl := h1.at'.le (Mem.le_trans hq hq2)
  have hnb : b ≠ sb := fun e => by
    subst e
    obtain ⟨l, c, hh, _⟩ := h1.at'.map
    rw [hh] at hb; cases hb
  have lo : ∀ y, M1 y = none → M y = none := fun y hy => by
    cases e : M y with
    | none => rfl
    | some o => rw [h1.le y o e] at hy; cases hy
  refine ⟨Mem.le_trans h1.le (Mem.le_trans hq hq2), ⟨Mem.has_setCells, (MapAt.new M1 b).mono fun o ho => hq2 _ _ ho, by simp, hsl, rfl, by simp, by simp, by simp, hnb⟩, newD_inv hn, InvE.nil, h1.room, fun y hy => ?_⟩
  rcases hy with rfl | rfl | ⟨q, hq, _⟩ | hy
  · exact lo _ hp
  · exact lo _ hb
  · cases hq
  · exact h1.fresh y hy
end
section
variable {M : Mem} {p b sp sb : Nat} {S : StR} {came : Int} {xs : HsT} {es : EsT}
def freshD (S : StR) (d : Int) : IdT × Int :=
  if S.epoch = 0 then (⟨0, 0, 0, 0⟩, 7) else if ¬ (0 ≤ d ∧ d ≤ 63) then (⟨0, 0, 0, 0⟩, 1) else if d = S.self then (⟨0, 0, 0, 0⟩, 2)
  else if lastD S d = 65535 then (⟨0, 0, 0, 0⟩, 10) else (⟨S.self, d, S.epoch, lastD S d + 1⟩, 0)
theorem lastD_range (hI : InvS S) (d : Int) : 0 ≤ lastD S d ∧ lastD S d ≤ 65535 := by
  unfold lastD
  rw [List.getD_eq_getElem?_getD]
  cases h : S.used[d.toNat]? with
  | none => simp
  | some x => exact hI.used x (List.mem_of_getElem? h)
theorem Fresh_ok (h : StAt M p b sp sb S came xs es) (hI : InvS S) (d : Int) : CallsM Tryz.prog F.store_Store_Fresh [ptr p, .int .i64 d] M fun v M' =>
    v = .tuple #[idA (freshD S d).1, .int .i64 (freshD S d).2] ∧ M = M' := by
  refine fo_store_Store_Fresh (by simp) ?_
  have hr := lastD_range hI d
  refine zR ?_
  refine on (h.self.c1 rfl) ?_
  (conv => whnf); refine brn (fun g => ?_) (fun g => ?_)
  · have g1 : S.epoch = 0 := of_decide_eq_true g
    refine zR ?_
    exact ⟨by unfold freshD; rw [if_pos g1], rfl⟩
  have g1 : ¬ S.epoch = 0 := of_decide_eq_false g
  refine zR ?_
  refine (inS_ok _ _).mono ?_
  rintro v _ ⟨rfl, rfl⟩
  (conv => whnf); refine brn (fun g2 => ?_) (fun g2 => ?_)
  · have g3 : ¬ (0 ≤ d ∧ d ≤ 63) := by simp at g2; omega
    refine zR ?_
    exact ⟨by unfold freshD; rw [if_neg g1, if_pos g3], rfl⟩
  have g3 : 0 ≤ d ∧ d ≤ 63 := by simpa using g2
  (conv => whnf); refine on (h.self.c1 rfl) ?_
  (conv => whnf); refine brn (fun g4 => ?_) (fun g4 => ?_)
  · have g5 : d = S.self := of_decide_eq_true g4
    refine zR ?_
    exact ⟨by unfold freshD; rw [if_neg g1, if_neg (by omega), if_pos g5], rfl⟩
  have g5 : ¬ d = S.self := of_decide_eq_false g4
  obtain ⟨k, rfl⟩ : ∃ k : Nat, d = k := ⟨d.toNat, by omega⟩
  have hk : M.row p (0 + 0 + 5 + ((k : Int)).toNat * 1) 1 = some [.int .i64 (lastD S k)] := by
    have := h.self.c1 (stCs_used hI.ulen b came (bytesD S.l) sp (d := k) (by omega))
    rw [show 0 + 0 + 5 + ((k : Int)).toNat * 1 = 5 + k by omega]; exact this
  (conv => whnf); refine ob (by omega) ?_
  (conv => whnf); refine on hk ?_
  (conv => whnf); refine brn (fun g6 => ?_) (fun g6 => ?_)
  · have g7 : lastD S k = 65535 := of_decide_eq_true g6
    refine zR ?_
    exact ⟨by unfold freshD; rw [if_neg g1, if_neg (by omega), if_neg g5, if_pos g7], rfl⟩
  have g7 : ¬ lastD S k = 65535 := of_decide_eq_false g6
  (conv => whnf); refine on (h.self.c1 rfl) ?_
  (conv => whnf); refine on (h.self.c1 rfl) ?_
  (conv => whnf); refine ob (by omega) ?_
  (conv => whnf); refine on hk ?_
  (conv => whnf); refine ob (inR_i64 (by omega)) ?_
  refine zR ?_
  exact ⟨by unfold freshD; rw [if_neg g1, if_neg (by omega), if_neg g5, if_neg g7], rfl⟩
theorem aget_held (h : StAt M p b sp sb S came xs es) (i : IdT) : (aget xs i = none ∧ hasD S.l i = false ∧ ∀ m ∈ S.l, m.id ≠ i) ∨ (∃ x, aget xs i = some x ∧ x.id = i ∧ hasD S.l i = true ∧ x.msg ∈ S.l) := by
  cases e : aget xs i with
  | none =>
    have hn : ∀ m ∈ S.l, m.id ≠ i := fun m hm he => by
      rw [← h.held] at hm
      obtain ⟨q, hq, rfl⟩ := List.mem_map.1 hm
      exact aget_none.1 e (List.mem_map.2 ⟨q, hq, by rw [← h.keys q hq]; exact he⟩)
    refine .inl ⟨rfl, ?_, hn⟩
    unfold hasD
    rw [List.any_eq_false]
    intro m hm
    simpa using hn m hm
  | some x =>
    have hm := aget_mem e
    have hx : x.id = i := h.keys _ hm
    have hl : x.msg ∈ S.l := by rw [← h.held]; exact List.mem_map.2 ⟨_, hm, rfl⟩
    refine .inr ⟨x, rfl, hx, ?_, hl⟩
    unfold hasD
    rw [List.any_eq_true]
    exact ⟨_, hl, by simp [hx]⟩
theorem Find_ok (h : StAt M p b sp sb S came xs es) (hI : InvS S) (i : IdT) : CallsM Tryz.prog F.store_Store_Find [ptr p, idA i] M fun v M' =>
    (v = .tuple #[.agg #[.int .i64 0, .int .i64 0, .int .i64 0, .int .i64 0, .slice none 0 0], .bool false] ∧ hasD S.l i = false ∧ M = M') ∨
    (∃ a n c l, v = .tuple #[.agg #[.int .i64 i.o, .int .i64 i.d, .int .i64 i.e, .int .i64 i.c, .slice a n c], .bool true] ∧ hasD S.l i = true ∧ ⟨i, l⟩ ∈ S.l ∧ NewSl M T.uint8 1 a n c (l.map byteV) M') := by
  refine fo_store_Store_Find (by simp) ?_
  refine zR ?_
  refine on (h.self.c1 (stCs_map hI.ulen ..)) ?_
  (conv => whnf)
  refine h.map.get idK i (fun hn => ?_) (fun x j hx => ?_)
  · rcases aget_held h i with ⟨_, h0, _⟩ | ⟨x, hx, _⟩
    rotate_left
    · rw [hn] at hx; cases hx
    refine zR ?_
    exact .inl ⟨rfl, h0, rfl⟩
  · rcases aget_held h i with ⟨hn, _⟩ | ⟨x', hx', hxi, h0, hm⟩
    · rw [hx] at hn; cases hn
    rw [hx] at hx'
    cases hx'
    have hd := h.data _ (aget_mem hx)
    have hpl : x.p.length ≤ 48 := by
      have : msgErrD x.id x.p.length = 0 := (hI.msgs _ hm).1
      unfold msgErrD msgErr at this
      repeat' split at this
      all_goals omega
    refine zR ?_
    refine new (fun b2 hb2 => ?_)
    replace hb2 : M b2 = none := hb2
    have hN1 : NewSl M T.uint8 1 (some ⟨b2, 0, none⟩) 0 0 (([] : List UInt8).map byteV) _ := NewSl.lit hb2 T.uint8 1 0 [] rfl
    obtain ⟨M5, hM5⟩ : ∃ M5, M5 = M.setCells b2 T.uint8 [] := ⟨_, rfl⟩
    rw [← hM5] at hN1
    (conv => whnf)
    erw [← hM5]
    refine zT (hN1.le) ?_
    (conv => whnf)
    refine srcv (hd.src.le hN1.le) ?_
    (conv => whnf); refine appN M _ hN1 (by first | omega | (dsimp only; omega)) (by simp [maxLen]; omega) (by simp [Value.oneCell', byteV]) fun a5 c5 M6 hN6 => ?_
    refine zT (hN6.le) ?_
    refine zR ?_
    (conv => whnf)
    exact .inr ⟨a5, _, c5, x.p, rfl, h0, by rw [← hxi]; exact hm, by simpa using hN6⟩
end
section
variable {M M0 : Mem} {p b sp sb : Nat} {S : StR} {came : Int} {xs : HsT} {es : EsT}
@[reducible] def setMay (S : StR) (es : EsT) (i : IdT) : Int := mayE S.qg es i.o i.d i.e i.c
@[reducible] def evV (k : Int) (i : IdT) (a : Option Addr) (n c : Nat) : Value := .agg #[.int .i64 k, .int .i64 i.o, .int .i64 i.d, .int .i64 i.e, .int .i64 i.c, .slice a n c]
theorem May15_ok (h : FreshSt M0 M p b sp sb S came xs es) (k : Int) (i : IdT) (a : Option Addr) (n c : Nat) (hn : n ≤ 1048576) : CallsM Tryz.prog F.store_Store_May [ptr p, evV k i a n c] M fun v M' =>
    v = .int .i64 (mayD S (setMay S es) k i n) ∧ M.le M' := by
  refine fo_store_Store_May (by simp) ?_
  have hI := h.inv
  have hA := h.at'
  have hqb := hI.qb
  have hqh := hI.qh
  have hxl : xs.length = S.l.length := by rw [← hA.held, List.length_map]
  refine zR ?_
  refine (form_ok k i a n c).mono ?_
  rintro v _ ⟨rfl, rfl⟩
  (conv => whnf); refine brn (fun g => ?_) (fun g => ?_)
  · have g1 : ¬ formD k i n = 0 := by simpa using g
    refine zR ?_
    exact ⟨by unfold mayD; rw [if_pos g1], Mem.le_refl _⟩
  have g1 : formD k i n = 0 := by simpa using g
  have hk : k = 1 ∨ k = 2 ∨ k = 3 ∨ k = 4 := by
    unfold formD at g1
    repeat' split at g1
    all_goals omega
  refine zR ?_
  refine on (hA.self.c1 (stCs_map hI.ulen ..)) ?_
  (conv => whnf)
  refine hA.map.get idK i (fun hn => ?_) (fun x j hx => ?_)
  · rcases aget_held hA i with ⟨_, h0, _⟩ | ⟨x, hx, _⟩
    rotate_left
    · rw [hn] at hx; cases hx
    rcases hk with rfl | rfl | rfl | rfl
    · (conv => whnf)
      refine zR ?_
      refine on (hA.self.c1 rfl) ?_
      (conv => whnf); refine brn (fun g2 => ?_) (fun g2 => ?_)
      · have g3 : S.epoch = 65535 := of_decide_eq_true g2
        refine zR ?_
        exact ⟨by unfold mayD; rw [if_neg (by simp [g1]), if_pos rfl, if_pos g3], Mem.le_refl _⟩
      · have g3 : ¬ S.epoch = 65535 := of_decide_eq_false g2
        refine zR ?_
        exact ⟨by unfold mayD; rw [if_neg (by simp [g1]), if_pos rfl, if_neg g3], Mem.le_refl _⟩
    · refine zR ?_
      refine on (hA.self.c1 rfl) ?_
      (conv => whnf); refine brn (fun a1 => ?_) (fun a1 => ?_)
      · have a2 : i.d = S.self := of_decide_eq_true a1
        refine zR ?_
        exact ⟨by unfold mayD; rw [if_neg (by simp [g1]), if_neg (by decide), if_pos rfl, if_pos (.inl a2)], Mem.le_refl _⟩
      have a2 : ¬ i.d = S.self := of_decide_eq_false a1
      (conv => whnf); refine on (hA.self.c1 rfl) ?_
      (conv => whnf); refine brn (fun a3 => ?_) (fun a3 => ?_)
      · have a4 : i.o = S.self := of_decide_eq_true a3
        (conv => whnf); refine on (hA.self.c1 rfl) ?_
        (conv => whnf); refine brn (fun a5 => ?_) (fun a5 => ?_)
        · have a6 : S.epoch < i.e := of_decide_eq_true a5
          (conv => whnf); refine brn_t a5 ?_
          refine zR ?_
          exact ⟨by unfold mayD; rw [if_neg (by simp [g1]), if_neg (by decide), if_pos rfl, if_pos (.inr ⟨a4, a6⟩)], Mem.le_refl _⟩
        · have a6 : ¬ S.epoch < i.e := of_decide_eq_false a5
          have a7 : ¬ (i.d = S.self ∨ (i.o = S.self ∧ S.epoch < i.e)) := by omega
          refine zR ?_
          refine on (hA.self.c1 (stCs_map hI.ulen ..)) ?_
          (conv => whnf)
          refine hA.map.len fun e2 c2 hsz => ?_
          (conv => whnf); refine on (hA.self.c1 rfl) ?_
          (conv => whnf); refine brn (fun a8 => ?_) (fun a8 => ?_)
          · have a9 : S.qh ≤ S.l.length := by have := of_decide_eq_true a8; dsimp only at this; rw [hsz] at this; omega
            refine zR ?_
            exact ⟨by unfold mayD; rw [if_neg (by simp [g1]), if_neg (by decide), if_pos rfl, if_neg a7, h0, if_neg (by decide), if_pos (.inl a9)], Mem.le_refl _⟩
          have a9 : ¬ S.qh ≤ S.l.length := by have := of_decide_eq_false a8; dsimp only at this; rw [hsz] at this; omega
          (conv => whnf); refine on (hA.self.c1 rfl) ?_
          (conv => whnf); refine on (hA.self.c1 (stCs_bytes hI.ulen ..)) ?_
          (conv => whnf); refine ob (inR_i64 (by omega)) ?_
          (conv => whnf); refine brn (fun b8 => ?_) (fun b8 => ?_)
          · have b9 : S.qb < bytesD S.l + n := by have := of_decide_eq_true b8; omega
            refine zR ?_
            exact ⟨by unfold mayD; rw [if_neg (by simp [g1]), if_neg (by decide), if_pos rfl, if_neg a7, h0, if_neg (by decide), if_pos (.inr b9)], Mem.le_refl _⟩
          have b9 : ¬ S.qb < bytesD S.l + n := by have := of_decide_eq_false b8; omega
          refine zR ?_
          (conv => whnf)
          exact ⟨by unfold mayD; rw [if_neg (by simp [g1]), if_neg (by decide), if_pos rfl, if_neg a7, h0, if_neg (by decide), if_neg (by omega)], Mem.le_refl _⟩
      · have a4 : ¬ i.o = S.self := of_decide_eq_false a3
        have a7 : ¬ (i.d = S.self ∨ (i.o = S.self ∧ S.epoch < i.e)) := by omega
        refine zR ?_
        refine on (hA.self.c1 (stCs_map hI.ulen ..)) ?_
        (conv => whnf)
        refine hA.map.len fun e2 c2 hsz => ?_
        (conv => whnf); refine on (hA.self.c1 rfl) ?_
        (conv => whnf); refine brn (fun a8 => ?_) (fun a8 => ?_)
        · have a9 : S.qh ≤ S.l.length := by have := of_decide_eq_true a8; dsimp only at this; rw [hsz] at this; omega
          refine zR ?_
          exact ⟨by unfold mayD; rw [if_neg (by simp [g1]), if_neg (by decide), if_pos rfl, if_neg a7, h0, if_neg (by decide), if_pos (.inl a9)], Mem.le_refl _⟩
        have a9 : ¬ S.qh ≤ S.l.length := by have := of_decide_eq_false a8; dsimp only at this; rw [hsz] at this; omega
        (conv => whnf); refine on (hA.self.c1 rfl) ?_
        (conv => whnf); refine on (hA.self.c1 (stCs_bytes hI.ulen ..)) ?_
        (conv => whnf); refine ob (inR_i64 (by omega)) ?_
        (conv => whnf); refine brn (fun b8 => ?_) (fun b8 => ?_)
        · have b9 : S.qb < bytesD S.l + n := by have := of_decide_eq_true b8; omega
          refine zR ?_
          exact ⟨by unfold mayD; rw [if_neg (by simp [g1]), if_neg (by decide), if_pos rfl, if_neg a7, h0, if_neg (by decide), if_pos (.inr b9)], Mem.le_refl _⟩
        have b9 : ¬ S.qb < bytesD S.l + n := by have := of_decide_eq_false b8; omega
        refine zR ?_
        (conv => whnf)
        exact ⟨by unfold mayD; rw [if_neg (by simp [g1]), if_neg (by decide), if_pos rfl, if_neg a7, h0, if_neg (by decide), if_neg (by omega)], Mem.le_refl _⟩
    · (conv => whnf)
      refine zR ?_
      (conv => whnf)
      exact ⟨by unfold mayD; rw [if_neg (by simp [g1]), if_neg (by decide), if_neg (by decide), if_pos rfl, h0]; rfl, Mem.le_refl _⟩
    · (conv => whnf)
      refine zR ?_
      refine on (hA.self.c1 rfl) ?_
      (conv => whnf); refine brn (fun g2 => ?_) (fun g2 => ?_)
      · have g3 : i.d ≠ S.self := by simpa using g2
        refine zR ?_
        exact ⟨by unfold mayD; rw [if_neg (by simp [g1]), if_neg (by decide), if_neg (by decide), if_neg (by decide), if_pos g3], Mem.le_refl _⟩
      · have g3 : ¬ i.d ≠ S.self := by simpa using g2
        refine zR ?_
        refine on (hA.self.c1 (stCs_set hI.ulen ..)) ?_
        refine zR ?_
        refine (May_ok hA.set (by have := h.room; omega) h.invE.good i.o i.d i.e i.c).mono ?_
        rintro v M1 ⟨rfl, h1⟩
        refine zR ?_
        exact ⟨by unfold mayD; rw [if_neg (by simp [g1]), if_neg (by decide), if_neg (by decide), if_neg (by decide), if_neg g3], h1⟩
  · rcases aget_held hA i with ⟨hn, _⟩ | ⟨x', hx', hxi, h0, hm⟩
    · rw [hx] at hn; cases hn
    rcases hk with rfl | rfl | rfl | rfl
    · (conv => whnf)
      refine zR ?_
      refine on (hA.self.c1 rfl) ?_
      (conv => whnf); refine brn (fun g2 => ?_) (fun g2 => ?_)
      · have g3 : S.epoch = 65535 := of_decide_eq_true g2
        refine zR ?_
        exact ⟨by unfold mayD; rw [if_neg (by simp [g1]), if_pos rfl, if_pos g3], Mem.le_refl _⟩
      · have g3 : ¬ S.epoch = 65535 := of_decide_eq_false g2
        refine zR ?_
        exact ⟨by unfold mayD; rw [if_neg (by simp [g1]), if_pos rfl, if_neg g3], Mem.le_refl _⟩
    · refine zR ?_
      refine on (hA.self.c1 rfl) ?_
      (conv => whnf); refine brn (fun a1 => ?_) (fun a1 => ?_)
      · have a2 : i.d = S.self := of_decide_eq_true a1
        refine zR ?_
        exact ⟨by unfold mayD; rw [if_neg (by simp [g1]), if_neg (by decide), if_pos rfl, if_pos (.inl a2)], Mem.le_refl _⟩
      have a2 : ¬ i.d = S.self := of_decide_eq_false a1
      (conv => whnf); refine on (hA.self.c1 rfl) ?_
      (conv => whnf); refine brn (fun a3 => ?_) (fun a3 => ?_)
      · have a4 : i.o = S.self := of_decide_eq_true a3
        (conv => whnf); refine on (hA.self.c1 rfl) ?_
        (conv => whnf); refine brn (fun a5 => ?_) (fun a5 => ?_)
        · have a6 : S.epoch < i.e := of_decide_eq_true a5
          (conv => whnf); refine brn_t a5 ?_
          refine zR ?_
          exact ⟨by unfold mayD; rw [if_neg (by simp [g1]), if_neg (by decide), if_pos rfl, if_pos (.inr ⟨a4, a6⟩)], Mem.le_refl _⟩
        · have a6 : ¬ S.epoch < i.e := of_decide_eq_false a5
          have a7 : ¬ (i.d = S.self ∨ (i.o = S.self ∧ S.epoch < i.e)) := by omega
          refine zR ?_
          exact ⟨by unfold mayD; rw [if_neg (by simp [g1]), if_neg (by decide), if_pos rfl, if_neg a7, h0]; rfl, Mem.le_refl _⟩
      · have a4 : ¬ i.o = S.self := of_decide_eq_false a3
        have a7 : ¬ (i.d = S.self ∨ (i.o = S.self ∧ S.epoch < i.e)) := by omega
        refine zR ?_
        exact ⟨by unfold mayD; rw [if_neg (by simp [g1]), if_neg (by decide), if_pos rfl, if_neg a7, h0]; rfl, Mem.le_refl _⟩
    · (conv => whnf)
      refine zR ?_
      (conv => whnf)
      exact ⟨by unfold mayD; rw [if_neg (by simp [g1]), if_neg (by decide), if_neg (by decide), if_pos rfl, h0]; rfl, Mem.le_refl _⟩
    · (conv => whnf)
      refine zR ?_
      refine on (hA.self.c1 rfl) ?_
      (conv => whnf); refine brn (fun g2 => ?_) (fun g2 => ?_)
      · have g3 : i.d ≠ S.self := by simpa using g2
        refine zR ?_
        exact ⟨by unfold mayD; rw [if_neg (by simp [g1]), if_neg (by decide), if_neg (by decide), if_neg (by decide), if_pos g3], Mem.le_refl _⟩
      · have g3 : ¬ i.d ≠ S.self := by simpa using g2
        refine zR ?_
        refine on (hA.self.c1 (stCs_set hI.ulen ..)) ?_
        refine zR ?_
        refine (May_ok hA.set (by have := h.room; omega) h.invE.good i.o i.d i.e i.c).mono ?_
        rintro v M1 ⟨rfl, h1⟩
        refine zR ?_
        exact ⟨by unfold mayD; rw [if_neg (by simp [g1]), if_neg (by decide), if_neg (by decide), if_neg (by decide), if_neg g3], h1⟩
end
end Go.Proofs.YtpdkkbpkplhdpaaGreat
namespace Go.Proofs.YtpdkkbpkplhdpaaGreat
open Go Go.Vm
variable {S : StR} {set : IdT → Int} {k : Int} {i : IdT} {p : List UInt8}
theorem bytesD_append (l r : List MsgD) : bytesD (l ++ r) = bytesD l + bytesD r := by simp [bytesD]
theorem bytesD_filter (l : List MsgD) (f : MsgD → Bool) : bytesD (l.filter f) ≤ bytesD l := by
  induction l with
  | nil => simp
  | cons x r ih =>
    simp only [List.filter_cons]
    split
    · simp only [bytesD, List.map_cons, List.sum_cons] at ih ⊢; omega
    · simp only [bytesD, List.map_cons, List.sum_cons] at ih ⊢; omega
theorem hasD_false {l : List MsgD} (h : hasD l i = false) : ∀ m ∈ l, m.id ≠ i := fun m hm => by
  unfold hasD at h
  rw [List.any_eq_false] at h
  simpa using h m hm
theorem idErr_all {a b c d : Int} (h : idErr a b c d = 0) : (0 ≤ a ∧ a ≤ 63) ∧ (0 ≤ b ∧ b ≤ 63) ∧ (1 ≤ c ∧ c ≤ 65535) ∧ (1 ≤ d ∧ d ≤ 65535) ∧ a ≠ b := by
  unfold idErr at h
  repeat' split at h
  all_goals omega
theorem msgErr_zero {n : Nat} (h : msgErrD i n = 0) : idErrD i = 0 ∧ 0 < n ∧ n ≤ 48 := by
  unfold msgErrD msgErr at h
  unfold idErrD
  repeat' split at h
  all_goals omega
theorem mayHold (h : mayD S set 2 i p.length = 0) : msgErrD i p.length = 0 ∧ i.d ≠ S.self ∧ ¬ (i.o = S.self ∧ S.epoch < i.e) ∧ hasD S.l i = false ∧ (S.l.length : Int) < S.qh ∧ (bytesD S.l : Int) + p.length ≤ S.qb := by
  unfold mayD at h
  split at h
  · rename_i g; exact absurd h g
  rename_i g
  have g0 : formD 2 i p.length = 0 := by simpa using g
  rw [if_neg (by decide), if_pos rfl] at h
  have g1 : msgErrD i p.length = 0 := by unfold formD at g0; rwa [if_neg (by decide), if_pos rfl] at g0
  split at h
  · cases h
  rename_i g2
  split at h
  · cases h
  rename_i g3
  split at h
  · cases h
  rename_i g4
  exact ⟨g1, by omega, by omega, by simpa using g3, by omega, by omega⟩
theorem applyD_inv (hI : InvS S) (hm : mayD S set k i p.length = 0) : InvS (applyD S k i p) := by
  by_cases h1 : k = 1
  · subst h1
    have he : S.epoch < 65535 := by
      have := hI.epoch
      unfold mayD at hm
      split at hm
      · rename_i g; exact absurd hm g
      rw [if_pos rfl] at hm
      split at hm
      · cases hm
      · omega
    have e : applyD S 1 i p = { S with epoch := S.epoch + 1, used := List.replicate 64 0 } := by unfold applyD; rw [if_pos rfl]
    rw [e]
    refine ⟨hI.self, ?_, by simp, ?_, hI.qh, hI.qb, fun m h => ?_, hI.nodup⟩
    · have := hI.epoch; dsimp only; omega
    · intro n hn
      dsimp only at hn
      have := List.eq_of_mem_replicate hn
      omega
    · obtain ⟨a, b, c⟩ := hI.msgs m h
      exact ⟨a, b, fun h => by have := c h; dsimp only; omega⟩
  by_cases h2 : k = 2
  · subst h2
    obtain ⟨g1, g2, g3, g4, g5, g6⟩ := mayHold hm
    obtain ⟨u1, u2, u3⟩ := msgErr_zero g1
    have hc := (idErr_zero u1).2
    have e : applyD S 2 i p = { S with l := S.l ++ [⟨i, p⟩], used := if i.o = S.self ∧ i.e = S.epoch then S.used.set i.d.toNat (max (lastD S i.d) i.c) else S.used } := by unfold applyD; rw [if_neg (by decide), if_pos rfl]
    rw [e]
    refine ⟨hI.self, hI.epoch, ?_, ?_, ?_, ?_, fun m h => ?_, ?_⟩
    · dsimp only; split
      · rw [List.length_set]; exact hI.ulen
      · exact hI.ulen
    · intro n hn
      dsimp only at hn
      split at hn
      · rcases List.mem_or_eq_of_mem_set hn with h | h
        · exact hI.used n h
        · have := lastD_range hI i.d; omega
      · exact hI.used n hn
    · have := hI.qh; simp only [List.length_append, List.length_singleton]; omega
    · have := hI.qb; rw [bytesD_append]; simp only [bytesD, List.map_cons, List.map_nil, List.sum_cons, List.sum_nil] at *; omega
    · rcases List.mem_append.1 h with h | h
      · exact hI.msgs m h
      · simp at h; subst h; exact ⟨g1, g2, fun h => by dsimp only at h ⊢; omega⟩
    · rw [List.map_append, List.nodup_append]
      refine ⟨hI.nodup, by simp, fun a ha b hb => ?_⟩
      simp at hb
      subst hb
      obtain ⟨m, hm, rfl⟩ := List.mem_map.1 ha
      exact hasD_false g4 m hm
  by_cases h3 : k = 3
  · subst h3
    have e : applyD S 3 i p = { S with l := S.l.filter fun m => decide (m.id ≠ i) } := by unfold applyD; rw [if_neg (by decide), if_neg (by decide), if_pos rfl]
    rw [e]
    refine ⟨hI.self, hI.epoch, hI.ulen, hI.used, ?_, ?_, fun m h => hI.msgs m (List.mem_filter.1 h).1, ?_⟩
    · have := hI.qh; have h4 := List.length_filter_le (fun m : MsgD => decide (m.id ≠ i)) S.l; dsimp only; omega
    · have := hI.qb; have h4 := bytesD_filter S.l (fun m : MsgD => decide (m.id ≠ i)); dsimp only; omega
    · exact hI.nodup.sublist (List.Sublist.map _ List.filter_sublist)
  · have e : applyD S k i p = S := by unfold applyD; rw [if_neg h1, if_neg h2, if_neg h3]
    rw [e]; exact hI
end Go.Proofs.YtpdkkbpkplhdpaaGreat
namespace Go.Proofs.YtpdkkbpkplhdpaaGreat
open Go Go.Vm
attribute [local irreducible] Brn Ob Grow CallsM inR LoopVC LoopVC0 Mem.row Mem.cells Mem.setCells Mem.upd Go.Vm.Own AppVC SrcVC StrVC NextVC New SrcOk subA NewSl Mem.textAt Mem.mapAt Mem.iterAt entryOf kfind Wr NewEls Elems
set_option maxRecDepth 10000
variable {M M0 : Mem} {p b sp sb : Nat} {S : StR} {came : Int} {xs : HsT} {es : EsT}
theorem StAt.pset (h : StAt M p b sp sb S came xs es) : ¬ setB sp sb es p := by
  rintro (e | e | ⟨q, hq, hy⟩)
  · have := h.set.self
    rw [← e] at this
    exact absurd (this.inj h.self).1 (by decide)
  · exact h.set.map.nb h.self e
  · have hE := h.set.ents q hq
    rcases hy with e | ⟨a, ha, e⟩
    · have := hE.self
      rw [← e] at this
      exact absurd (this.inj h.self).1 (by decide)
    · obtain ⟨cs, hh⟩ := hE.more.block ha
      rw [e] at hh
      exact absurd (hh.inj h.self).1 (by decide)
theorem StAt.bset (h : StAt M p b sp sb S came xs es) : ¬ setB sp sb es b := by
  rintro (e | e | ⟨q, hq, hy⟩)
  · exact h.map.nb h.set.self e.symm
  · exact h.ne e
  · have hE := h.set.ents q hq
    rcases hy with e | ⟨a, ha, e⟩
    · exact h.map.nb hE.self e.symm
    · obtain ⟨cs, hh⟩ := hE.more.block ha
      exact h.map.nb hh e
theorem StAt.dhas (h : StAt M p b sp sb S came xs es) {q : IdT × PX} (hq : q ∈ xs) {y : Nat} (hy : blk q.2.a y) : ∃ cs, M.has y T.uint8 cs := by
  obtain ⟨a, ha, e⟩ := hy
  obtain ⟨cs, hh⟩ := (h.data q hq).block ha
  exact ⟨cs, e ▸ hh⟩
theorem StAt.dset (h : StAt M p b sp sb S came xs es) {q : IdT × PX} (hq : q ∈ xs) {y : Nat} (hy : blk q.2.a y) : ¬ setB sp sb es y ∧ y ≠ p ∧ y ≠ b := by
  obtain ⟨cs, hc⟩ := h.dhas hq hy
  refine ⟨?_, fun e => ?_, h.map.nb hc⟩
  · rintro (e | e | ⟨q, hq, hy⟩)
    · have := h.set.self
      rw [← e] at this
      exact absurd (this.inj hc).1 (by decide)
    · exact h.set.map.nb hc e
    · have hE := h.set.ents q hq
      rcases hy with e | ⟨a, ha, e⟩
      · have := hE.self
        rw [← e] at this
        exact absurd (this.inj hc).1 (by decide)
      · obtain ⟨cs, hh⟩ := hE.more.block ha
        rw [e] at hh
        exact absurd (hh.inj hc).1 (by decide)
  · subst e
    exact absurd (h.self.inj hc).1 (by decide)
theorem StAt.head {M' : Mem} (h : StAt M p b sp sb S came xs es) {S' : StR} {came' : Int} (hk : Mem.keep (fun y => y = p) M M') (hs : M'.has p T.store_Store (stCs S' b came' (bytesD S'.l) sp)) (hl : S'.l = S.l) (hq : S'.qg = S.qg) (hc : came ≤ came') : StAt M' p b sp sb S' came' xs es := by
  have hb : b ≠ p := (h.map.nb h.self).symm
  refine ⟨hs, h.map.mono fun o ho => hk b o hb ho, fun q hx => (h.data q hx).mono fun a o ha ho => hk _ o (h.dset hx ⟨a, ha, rfl⟩).2.1 ho, ?_, hl ▸ h.held, h.keys, h.ord, ⟨Int.le_trans h.came.1 hc, fun q hx => ⟨(h.came.2 q hx).1, Int.lt_of_lt_of_le (h.came.2 q hx).2 hc⟩⟩, h.ne⟩
  rw [hq]
  exact h.set.mono fun y o hy ho => hk y o (fun e => h.pset (e ▸ hy)) ho
theorem StAt.turned {M' : Mem} {es' : EsT} (h : StAt M p b sp sb S came xs es) (hB : (M.minus (setB sp sb es)).le M') (hs : SetAt M' sp sb S.qg es') : StAt M' p b sp sb S came xs es' := by
  have keep : ∀ y o, ¬ setB sp sb es y → M y = some o → M' y = some o := fun y o hy ho => hB y o (by unfold Mem.minus; rw [if_neg hy]; exact ho)
  exact ⟨keep _ _ h.pset h.self, h.map.mono fun o ho => keep _ _ h.bset ho, fun q hq => (h.data q hq).mono fun a o ha ho => keep _ o (h.dset hq ⟨a, ha, rfl⟩).1 ho, hs, h.held, h.keys, h.ord, h.came, h.ne⟩
theorem StAt.turn {M' : Mem} (h : StAt M p b sp sb S came xs es) {S' : StR} {came' : Int} {xs' : HsT} (hk : Mem.keep (fun y => y = p ∨ y = b) M M') (hs : M'.has p T.store_Store (stCs S' b came' (bytesD S'.l) sp)) (hm : MapAt idA pxV M' b xs')
    (hd : ∀ q ∈ xs', q ∈ xs ∨ Wr M' T.uint8 1 q.2.a q.2.p.length q.2.c (q.2.p.map byteV)) (hq : S'.qg = S.qg) (hl : xs'.map (fun q => q.2.msg) = S'.l) (hkeys : ∀ q ∈ xs', q.2.id = q.1) (hord : xs'.Pairwise fun x y => x.2.n < y.2.n)
    (hc : 0 ≤ came' ∧ ∀ q ∈ xs', 0 ≤ q.2.n ∧ q.2.n < came') : StAt M' p b sp sb S' came' xs' es := by
  refine ⟨hs, hm, fun q hx => ?_, ?_, hl, hkeys, hord, hc, h.ne⟩
  · rcases hd q hx with hx | hx
    · exact (h.data q hx).mono fun a o ha ho => hk _ o (fun e => by have := h.dset hx ⟨a, ha, rfl⟩; rcases e with e | e; exact this.2.1 e; exact this.2.2 e) ho
    · exact hx
  · rw [hq]
    exact h.set.mono fun y o hy ho => hk y o (fun e => by rcases e with e | e; exact h.pset (e ▸ hy); exact h.bset (e ▸ hy)) ho
theorem bytesD_del {i : IdT} : ∀ {l : List MsgD} {m : MsgD}, (l.map (·.id)).Nodup → m ∈ l → m.id = i → bytesD (l.filter fun m => decide (m.id ≠ i)) + m.p.length = bytesD l
  | x :: r, m, hn, hm, he => by
    simp only [List.map_cons, List.nodup_cons] at hn
    rcases List.mem_cons.1 hm with rfl | hm
    · have hall : r.filter (fun m => decide (m.id ≠ i)) = r := by
        rw [List.filter_eq_self]
        intro y hy
        have : y.id ≠ m.id := fun e => hn.1 (List.mem_map.2 ⟨y, hy, e⟩)
        simp; rw [← he]; exact this
      rw [List.filter_cons, if_neg (by simp [he]), hall]
      simp only [bytesD, List.map_cons, List.sum_cons]
      omega
    · have hx : x.id ≠ i := fun e => hn.1 (List.mem_map.2 ⟨m, hm, by rw [he, e]⟩)
      have ih := bytesD_del hn.2 hm he
      rw [List.filter_cons, if_pos (by simpa using hx)]
      simp only [bytesD, List.map_cons, List.sum_cons] at ih ⊢
      omega
theorem splice1 {L R : List Value} {x y : Value} {n : Nat} (h : L.length = n) : splice (L ++ x :: R) n [y] = L ++ y :: R := by
  unfold splice
  subst h
  simp
theorem stCs_cut (S : StR) (b : Nat) (came bytes : Int) (sp : Nat) : stCs S b came bytes sp = ([.int .i64 S.self, .int .i64 S.qh, .int .i64 S.qb, .int .i64 S.qg, .int .i64 S.epoch] ++ S.used.map intV ++ [.map (some b)]) ++ .int .i64 came :: [.int .i64 bytes, ptr sp] := by simp [stCs]
theorem stCs_put_came (hu : S.used.length = 64) (came bytes v : Int) : splice (stCs S b came bytes sp) 70 [.int .i64 v] = stCs S b v bytes sp := by
  rw [stCs_cut, stCs_cut, splice1 (by simp [hu])]
theorem stCs_put_bytes (hu : S.used.length = 64) (came bytes v : Int) : splice (stCs S b came bytes sp) 71 [.int .i64 v] = stCs S b came v sp := by
  have e : ∀ w, stCs S b came w sp = ([.int .i64 S.self, .int .i64 S.qh, .int .i64 S.qb, .int .i64 S.qg, .int .i64 S.epoch] ++ S.used.map intV ++ [.map (some b), .int .i64 came]) ++ .int .i64 w :: [ptr sp] := fun w => by simp [stCs]
  rw [e, e, splice1 (by simp [hu])]
theorem stCs_put_used (hu : S.used.length = 64) (came bytes v : Int) {d : Nat} (hd : d < 64) : splice (stCs S b came bytes sp) (5 + d) [.int .i64 v] = stCs { S with used := S.used.set d v } b came bytes sp := by
  unfold stCs
  have h1 : splice (([.int .i64 S.self, .int .i64 S.qh, .int .i64 S.qb, .int .i64 S.qg, .int .i64 S.epoch] : List Value) ++ S.used.map intV ++ [.map (some b), .int .i64 came, .int .i64 bytes, ptr sp]) (5 + d) [.int .i64 v] = ([.int .i64 S.self, .int .i64 S.qh, .int .i64 S.qb, .int .i64 S.qg, .int .i64 S.epoch] : List Value) ++ (S.used.map intV).set d (intV v) ++ [.map (some b), .int .i64 came, .int .i64 bytes, ptr sp] := by
    have hlt : d < (S.used.map intV).length := by simp [hu, hd]
    obtain ⟨A, x, B, hAB, hA⟩ : ∃ A x B, S.used.map intV = A ++ x :: B ∧ A.length = d := ⟨_, _, _, (List.take_append_drop d _).symm.trans (by rw [List.drop_eq_getElem_cons hlt]), by simp [hu]; omega⟩
    rw [hAB]
    have e2 : (A ++ x :: B).set d (intV v) = A ++ intV v :: B := by subst hA; simp
    rw [e2]
    have e3 : ∀ y, ([.int .i64 S.self, .int .i64 S.qh, .int .i64 S.qb, .int .i64 S.qg, .int .i64 S.epoch] : List Value) ++ (A ++ y :: B) ++ [.map (some b), .int .i64 came, .int .i64 bytes, ptr sp] = (([.int .i64 S.self, .int .i64 S.qh, .int .i64 S.qb, .int .i64 S.qg, .int .i64 S.epoch] : List Value) ++ A) ++ y :: (B ++ [.map (some b), .int .i64 came, .int .i64 bytes, ptr sp]) := fun y => by simp
    rw [e3, e3, splice1 (by simp [hA]; omega)]
  rw [h1, List.map_set]
end Go.Proofs.YtpdkkbpkplhdpaaGreat
