/- A nil desk. -/
import Derived.Test.YthlleljdahkgpaaAwake
namespace Go.Proofs.Ythlleljdahkgpaa
open Go Go.Vm
attribute [local irreducible] Brn Ob CallsM inR LoopVC Mem.row Mem.cells Mem.setCells Mem.upd Own AppVC SrcVC StrVC NextVC New SrcOk subA NewSl Mem.textAt Wr NewEls Elems
set_option maxRecDepth 10000
@[reducible] def nilP : Value := .pointer none
variable {M : Mem}
theorem nilPlan (a1 a2 a3 : Option Addr) (n1 n2 n3 c1 c2 c3 : Nat) : CallsM Try.prog F.hop_Desk_Plan [nilP, .slice a1 n1 c1, .slice a2 n2 c2, .slice a3 n3 c3] M fun v M' => v = .slice none 0 0 ∧ M = M' := by
  refine fo_hop_Desk_Plan (by simp) ?_
  repeat' ((conv => whnf); first | refine ⟨?_, True.intro⟩ | refine brn_t rfl ?_ | refine brn_f rfl ?_ | refine ob rfl ?_ | refine ob (Mem.le_refl _) ?_ | refine ⟨_, Mem.le_refl _, ?_⟩ | fail)
  exact ⟨rfl, rfl⟩
theorem nilTick : CallsM Try.prog F.hop_Desk_Tick [nilP] M fun v M' => v = .int .i64 7 ∧ M = M' := by
  refine fo_hop_Desk_Tick (by simp) ?_
  repeat' ((conv => whnf); first | refine ⟨?_, True.intro⟩ | refine brn_t rfl ?_ | refine brn_f rfl ?_ | refine ob rfl ?_ | refine ob (Mem.le_refl _) ?_ | refine ⟨_, Mem.le_refl _, ?_⟩ | fail)
  exact ⟨rfl, rfl⟩
theorem nilTo (n : Int) (i : Id) : CallsM Try.prog F.hop_Desk_to [nilP, .int .i64 n, i.v] M fun v M' => v = .bool false ∧ M = M' := by
  refine fo_hop_Desk_to (by simp) ?_
  repeat' ((conv => whnf); first | refine ⟨?_, True.intro⟩ | refine brn_t rfl ?_ | refine brn_f rfl ?_ | refine ob rfl ?_ | refine ob (Mem.le_refl _) ?_ | refine ⟨_, Mem.le_refl _, ?_⟩ | fail)
  exact ⟨rfl, rfl⟩
theorem nilAck (n k : Int) (i : Id) : CallsM Try.prog F.hop_Desk_Ack [nilP, .int .i64 n, .int .i64 k, i.v] M fun v M' => v = .bool false ∧ M = M' := by
  refine fo_hop_Desk_Ack (by simp) ?_
  repeat' ((conv => whnf); first | refine ⟨?_, True.intro⟩ | refine brn_t rfl ?_ | refine brn_f rfl ?_ | refine ob rfl ?_ | refine ob (Mem.le_refl _) ?_ | refine ⟨_, Mem.le_refl _, ?_⟩ | fail)
  refine (nilTo n i).mono ?_
  rintro v M' ⟨rfl, rfl⟩
  repeat' ((conv => whnf); first | refine ⟨?_, True.intro⟩ | refine brn_t rfl ?_ | refine brn_f rfl ?_ | refine ob rfl ?_ | refine ob (Mem.le_refl _) ?_ | refine ⟨_, Mem.le_refl _, ?_⟩ | fail)
  exact ⟨rfl, rfl⟩
theorem nilRefuse (n k : Int) (i : Id) : CallsM Try.prog F.hop_Desk_Refuse [nilP, .int .i64 n, .int .i64 k, i.v] M fun v M' => v = .bool false ∧ M = M' := by
  refine fo_hop_Desk_Refuse (by simp) ?_
  repeat' ((conv => whnf); first | refine ⟨?_, True.intro⟩ | refine brn_t rfl ?_ | refine brn_f rfl ?_ | refine ob rfl ?_ | refine ob (Mem.le_refl _) ?_ | refine ⟨_, Mem.le_refl _, ?_⟩ | fail)
  refine (nilTo n i).mono ?_
  rintro v M' ⟨rfl, rfl⟩
  repeat' ((conv => whnf); first | refine ⟨?_, True.intro⟩ | refine brn_t rfl ?_ | refine brn_f rfl ?_ | refine ob rfl ?_ | refine ob (Mem.le_refl _) ?_ | refine ⟨_, Mem.le_refl _, ?_⟩ | fail)
  exact ⟨rfl, rfl⟩
theorem nilIs (i : Id) : CallsM Try.prog F.hop_Desk_Is [nilP, i.v] M fun v M' => v = .bool false ∧ M = M' := by
  refine fo_hop_Desk_Is (by simp) ?_
  repeat' ((conv => whnf); first | refine ⟨?_, True.intro⟩ | refine brn_t rfl ?_ | refine brn_f rfl ?_ | refine ob rfl ?_ | refine ob (Mem.le_refl _) ?_ | refine ⟨_, Mem.le_refl _, ?_⟩ | fail)
  exact ⟨rfl, rfl⟩
theorem nilBack (i : Id) : CallsM Try.prog F.hop_Desk_Back [nilP, i.v] M fun v M' => v = .bool false ∧ M = M' := by
  refine fo_hop_Desk_Back (by simp) ?_
  repeat' ((conv => whnf); first | refine ⟨?_, True.intro⟩ | refine brn_t rfl ?_ | refine brn_f rfl ?_ | refine ob rfl ?_ | refine ob (Mem.le_refl _) ?_ | refine ⟨_, Mem.le_refl _, ?_⟩ | fail)
  refine (nilIs i).mono ?_
  rintro v M' ⟨rfl, rfl⟩
  repeat' ((conv => whnf); first | refine ⟨?_, True.intro⟩ | refine brn_t rfl ?_ | refine brn_f rfl ?_ | refine ob rfl ?_ | refine ob (Mem.le_refl _) ?_ | refine ⟨_, Mem.le_refl _, ?_⟩ | fail)
  exact ⟨rfl, rfl⟩
theorem nilWaits (i : Id) : CallsM Try.prog F.hop_Desk_Waits [nilP, i.v] M fun v M' => v = .int .i64 0 ∧ M = M' := by
  refine fo_hop_Desk_Waits (by simp) ?_
  repeat' ((conv => whnf); first | refine ⟨?_, True.intro⟩ | refine brn_t rfl ?_ | refine brn_f rfl ?_ | refine ob rfl ?_ | refine ob (Mem.le_refl _) ?_ | refine ⟨_, Mem.le_refl _, ?_⟩ | fail)
  exact ⟨rfl, rfl⟩
theorem nilOffered (n : Int) : CallsM Try.prog F.hop_Desk_Offered [nilP, .int .i64 n] M fun v M' => v = .slice none 0 0 ∧ M = M' := by
  refine fo_hop_Desk_Offered (by simp) ?_
  repeat' ((conv => whnf); first | refine ⟨?_, True.intro⟩ | refine brn_t rfl ?_ | refine brn_f rfl ?_ | refine ob rfl ?_ | refine ob (Mem.le_refl _) ?_ | refine ⟨_, Mem.le_refl _, ?_⟩ | fail)
  exact ⟨rfl, rfl⟩
theorem nilReset (n : Int) : CallsM Try.prog F.hop_Desk_Reset [nilP, .int .i64 n] M fun v M' => v = .int .i64 0 ∧ M = M' := by
  refine fo_hop_Desk_Reset (by simp) ?_
  repeat' ((conv => whnf); first | refine ⟨?_, True.intro⟩ | refine brn_t rfl ?_ | refine brn_f rfl ?_ | refine ob rfl ?_ | refine ob (Mem.le_refl _) ?_ | refine ⟨_, Mem.le_refl _, ?_⟩ | fail)
  refine (nilOffered n).mono ?_
  rintro v M' ⟨rfl, rfl⟩
  (conv => whnf)
  refine loopQ (σ := Unit) [] (fun _ => []) (fun _ => True) (fun _ => 0) () trivial ⟨(by repeat' first | exact True.intro | refine ⟨rfl, ?_⟩), (by repeat' first | exact True.intro | refine ⟨rfl, ?_⟩), Mem.le_refl _, rfl⟩ ?_
  intro _ _
  repeat' ((conv => whnf); first | refine ⟨?_, True.intro⟩ | refine brn_t rfl ?_ | refine brn_f rfl ?_ | refine ob rfl ?_ | refine ob (Mem.le_refl _) ?_ | refine ⟨_, Mem.le_refl _, ?_⟩ | fail)
  exact ⟨rfl, rfl⟩
set_option maxRecDepth 10000 in
theorem nil_law (kind from' n : Int) (i : Id) (a1 a2 a3 : Option Addr) (n1 n2 n3 c1 c2 c3 : Nat) :
    CallsM Try.prog F.law20_HopNil [.agg #[.int .i64 kind, .slice a1 n1 c1, .slice a2 n2 c2, .slice a3 n3 c3, .int .i64 from', .int .i64 n, .int .i64 i.o, .int .i64 i.d, .int .i64 i.e, .int .i64 i.c]] M fun v M' => v = .bool true ∧ M.le M' := by
  refine fo_law20_HopNil (by simp) ?_
  repeat' ((conv => whnf); first
    | refine brn_t rfl ?_
    | (refine (nilPlan _ _ _ _ _ _ _ _ _).mono ?_; rintro v M' ⟨rfl, rfl⟩)
    | (refine nilTick.mono ?_; rintro v M' ⟨rfl, rfl⟩)
    | (refine (nilAck _ _ i).mono ?_; rintro v M' ⟨rfl, rfl⟩)
    | (refine (nilRefuse _ _ i).mono ?_; rintro v M' ⟨rfl, rfl⟩)
    | (refine (nilIs i).mono ?_; rintro v M' ⟨rfl, rfl⟩)
    | (refine (nilBack i).mono ?_; rintro v M' ⟨rfl, rfl⟩)
    | (refine (nilWaits i).mono ?_; rintro v M' ⟨rfl, rfl⟩)
    | (refine (nilReset _).mono ?_; rintro v M' ⟨rfl, rfl⟩)
    | (refine (nilOffered _).mono ?_; rintro v M' ⟨rfl, rfl⟩)
    | (refine (awake_ok _).mono ?_; rintro v M' ⟨rfl, hle⟩)
    | fail)
  exact ⟨rfl, hle⟩
end Go.Proofs.Ythlleljdahkgpaa
