/- A desk: what is offered to a neighbour; none of it is any more. -/
import Derived.Test.YthlleljdahkgpaaHopQ
namespace Go.Proofs.Ythlleljdahkgpaa
open Go Go.Vm
attribute [local irreducible] Brn Ob Grow CallsM inR LoopVC Mem.row Mem.cells Mem.setCells Mem.upd Own AppVC SrcVC StrVC NextVC New SrcOk subA NewSl Mem.textAt Mem.mapAt Mem.iterAt entryOf kfind Wr NewEls Elems
set_option maxRecDepth 10000
variable {p b : Nat} {wait next : Int} {m : List (Id × Known)} {M : Mem}
theorem cmpI_ok (x y : Id) : CallsM Try.prog F.hop_Desk_Offered_1 [.agg (encI x).toArray, .agg (encI y).toArray] M fun v _ => v = .int .i64 (cmpI x y) := by
  refine fo_hop_Desk_Offered_1 (by simp) ?_
  (conv => whnf); refine (less_ok x y M).mono ?_
  rintro v _ ⟨rfl, rfl⟩
  (conv => whnf); refine brn (fun g => ?_) (fun g => ?_)
  · repeat' ((conv => whnf); first | refine ⟨?_, True.intro⟩ | refine brn_t rfl ?_ | refine brn_f rfl ?_ | refine ob rfl ?_ | refine ob (by decide) ?_ | refine grow_same (Mem.le_refl _) ?_ | refine ob (Mem.le_refl _) ?_ | refine ⟨_, Mem.le_refl _, ?_⟩ | fail)
    exact (by simp [cmpI, g] : Value.int .i64 (-1) = .int .i64 (cmpI x y))
  · repeat' ((conv => whnf); first | refine ⟨?_, True.intro⟩ | refine brn_t rfl ?_ | refine brn_f rfl ?_ | refine ob rfl ?_ | refine ob (by decide) ?_ | refine grow_same (Mem.le_refl _) ?_ | refine ob (Mem.le_refl _) ?_ | refine ⟨_, Mem.le_refl _, ?_⟩ | fail)
    exact (by simp [cmpI, g] : Value.int .i64 1 = .int .i64 (cmpI x y))
theorem offered_ok (hd : DeskAt M p b wait next m) (n : Int) (hm : m.length ≤ 100000000) : CallsM Try.prog F.hop_Desk_Offered [ptr p, .int .i64 n] M fun v M' =>
    ∃ a c, ∃ l : List Id, v = .slice a l.length c ∧ NewSl M T.api_Id 4 a l.length c (l.flatMap encI) M' ∧ l.Nodup ∧ l.length ≤ m.length ∧ (l.Pairwise fun x y => ¬ ltId y x = true) ∧ ∀ i, i ∈ l ↔ isTo m n i = true := by
  refine fo_hop_Desk_Offered (by simp) ?_
  (conv => whnf); refine brn_f rfl ?_
  (conv => whnf); refine on (hd.self.c1 rfl) ?_
  (conv => whnf)
  refine hd.map.range fun q bi hbi hI => ?_
  replace hbi : M bi = none := hbi
  (conv => whnf)
  refine loopF (σ := Mem × (Option Addr × Nat × Nat) × List Id × KL) [5] (fun x => [(5, .slice x.2.1.1 x.2.1.2.1 x.2.1.2.2)]) (fun _ => []) (fun x => x.1)
    (fun | ⟨M1, (a, n1, c), l, todo⟩ => NewSl M T.api_Id 4 a n1 c (l.flatMap encI) M1 ∧ n1 = l.length ∧ Iter Id.v Known.v M1 bi b m todo ∧ (todo.map (·.1)).Nodup ∧ l.Nodup ∧ l.length + todo.length ≤ m.length ∧ (∀ i, i ∈ l → i ∉ todo.map (·.1)) ∧ (∀ i, i ∈ l → isTo m n i = true) ∧ (∀ i, isTo m n i = true → i ∈ l ∨ i ∈ todo.map (·.1))) (fun x => x.2.2.2.length) ⟨_, (none, 0, 0), [], m⟩
    ⟨(NewSl.none M _ _).up (Mem.le_upd hbi), rfl, hI, hd.map.nodup, by simp, by simp, by simp, by simp, fun i h => .inr (by
      obtain ⟨k, hk, _⟩ := isTo_iff.1 h
      exact List.mem_map.2 ⟨_, aget_mem hk, rfl⟩)⟩ ⟨(by repeat' first | exact True.intro | refine ⟨rfl, ?_⟩), (by repeat' first | exact True.intro | refine ⟨rfl, ?_⟩), Mem.le_refl _, rfl⟩ ?_
  rintro ⟨M1, ⟨a, n1, c⟩, l, todo⟩ ⟨hN, hn1, hI1, hnd, hln, hlen, hdis, hin, hall⟩
  (conv => whnf)
  replace hn1 : n1 = l.length := hn1
  refine hI1.next (fun h0 => ?_) (fun i k todo' o' hperm hI2 hent => ?_)
  · subst h0 hn1
    repeat' ((conv => whnf); first | refine ⟨?_, True.intro⟩ | refine brn_t rfl ?_ | refine brn_f rfl ?_ | refine ob rfl ?_ | refine ob (by decide) ?_ | refine grow_same (Mem.le_refl _) ?_ | refine ob (Mem.le_refl _) ?_ | refine ⟨_, Mem.le_refl _, ?_⟩ | fail)
    refine (sortF_ok Try.laysF (by kernel_rfl) (k := 4) (by decide) Try.isAgg23 Try.sizeOf23 encI_len encI_one cmpI_swo (g := F.hop_Desk_Offered_1) (fun args w => enters_run (by kernel_rfl) args w) (fun x y => cmpI_ok x y) hN.wr (by simp at hlen; omega)).mono ?_
    rintro v M5 ⟨rfl, l', hp', hs', hw', hk'⟩
    (conv => whnf)
    have hll := hp'.length_eq
    refine ⟨a, c, l', by rw [hll], ?_, hp'.nodup_iff.2 hln, by simp at hlen; omega, hs'.imp fun {x y} h => by rwa [← cmpI_lt], fun i => ?_⟩
    · rw [hll]; exact hN.ofWr hw' hk' rfl
    · rw [hp'.mem_iff]; exact ⟨hin i, fun h => by simpa using hall i h⟩
  · have hkp : Mem.keep (fun y => y = bi) M1 (M1.upd bi o') := Mem.keep_upd _ _ rfl
    have hle2 : M.le (M1.upd bi o') := fun y o hb => by
      rw [Mem.upd_ne _ _ (fun e => by subst e; rw [hbi] at hb; cases hb)]; exact hN.le _ _ hb
    have hN2 : NewSl M T.api_Id 4 a n1 c (l.flatMap encI) (M1.upd bi o') := hN.keep hkp (fun y e => e ▸ hbi) (fun q hq e => by
        obtain ⟨_, cs, hh⟩ := hN.block hq
        exact (hI1.nb hh).1 e)
    obtain ⟨M2, hM2⟩ : ∃ M2, M2 = M1.upd bi o' := ⟨_, rfl⟩
    rw [← hM2] at hI2 hent hle2 hN2
    have hnd' : ((i, k) :: todo').map (·.1) |>.Nodup := (hperm.map (·.1)).nodup_iff.1 hnd
    rw [List.map_cons, List.nodup_cons] at hnd'
    have hpl := hperm.length_eq
    simp only [List.length_cons] at hpl
    have hmk : ∀ j, j ∈ todo.map (·.1) ↔ j = i ∨ j ∈ todo'.map (·.1) := fun j => by
      rw [(hperm.map (·.1)).mem_iff]; simp
    (conv => whnf)
    erw [← hM2]
    repeat' ((conv => whnf); first | refine ⟨?_, True.intro⟩ | refine brn_t rfl ?_ | refine brn_f rfl ?_ | refine ob rfl ?_ | refine ob (by decide) ?_ | refine grow_same (Mem.le_refl _) ?_ | refine ob (Mem.le_refl _) ?_ | refine ⟨_, Mem.le_refl _, ?_⟩ | fail)
    refine on hent ?_
    repeat' ((conv => whnf); first | refine ⟨?_, True.intro⟩ | refine brn_t rfl ?_ | refine brn_f rfl ?_ | refine ob rfl ?_ | refine ob (by decide) ?_ | refine grow_same (Mem.le_refl _) ?_ | refine ob (Mem.le_refl _) ?_ | refine ⟨_, Mem.le_refl _, ?_⟩ | fail)
    refine (to_ok p b wait next m M2 (hd.le hle2) n i).mono ?_
    rintro v _ ⟨rfl, rfl⟩
    (conv => whnf); refine brn (fun g => ?_) (fun g => ?_)
    · repeat' ((conv => whnf); first | refine ⟨?_, True.intro⟩ | refine brn_t rfl ?_ | refine brn_f rfl ?_ | refine ob rfl ?_ | refine ob (by decide) ?_ | refine grow_same (Mem.le_refl _) ?_ | refine ob (Mem.le_refl _) ?_ | refine ⟨_, Mem.le_refl _, ?_⟩ | fail)
      refine appF M hN2 i (by simp) (by dsimp only; omega) (by dsimp only; simp [maxLen]; omega) (encI_one i) fun a6 c6 M6 hN6 hk6 => ?_
      (conv => whnf)
      have hfr : ∀ y, blk a y → M y = none := fun y ⟨q, hq, e⟩ => e ▸ (hN2.block hq).1
      have hnb : ∀ y, blk a y → y ≠ bi ∧ y ≠ b := fun y ⟨q, hq, e⟩ => by
        obtain ⟨_, cs, hh⟩ := hN2.block hq
        exact e ▸ hI2.nb hh
      have hI6 := hI2.keep hk6 (fun hb => (hnb _ hb).1 rfl) (fun hb => (hnb _ hb).2 rfl)
      refine ⟨⟨M6, (a6, n1 + 1, c6), l ++ [i], todo'⟩, ⟨hN6, by simp [hn1], hI6, hnd'.2, ?_, by simp; omega, fun j hj => ?_, fun j hj => ?_, fun j hj => ?_⟩, by simp; omega, ⟨(by repeat' first | exact True.intro | refine ⟨rfl, ?_⟩), (by repeat' first | exact True.intro | refine ⟨rfl, ?_⟩), Mem.le_refl _, rfl⟩⟩
      · rw [List.nodup_append]
        refine ⟨hln, by simp, fun x hx y hy e => ?_⟩
        simp only [List.mem_singleton] at hy
        subst hy e
        exact hdis _ hx ((hmk _).2 (.inl rfl))
      · rcases List.mem_append.1 hj with hj | hj
        · exact fun h => hdis j hj ((hmk j).2 (.inr h))
        · simp only [List.mem_singleton] at hj; subst hj; exact hnd'.1
      · rcases List.mem_append.1 hj with hj | hj
        · exact hin j hj
        · simp only [List.mem_singleton] at hj; subst hj; exact g
      · rcases hall j hj with h | h
        · exact .inl (List.mem_append.2 (.inl h))
        · rcases (hmk j).1 h with rfl | h
          · exact .inl (by simp)
          · exact .inr h
    · repeat' ((conv => whnf); first | refine ⟨?_, True.intro⟩ | refine brn_t rfl ?_ | refine brn_f rfl ?_ | refine ob rfl ?_ | refine ob (by decide) ?_ | refine grow_same (Mem.le_refl _) ?_ | refine ob (Mem.le_refl _) ?_ | refine ⟨_, Mem.le_refl _, ?_⟩ | fail)
      refine ⟨⟨M2, (a, n1, c), l, todo'⟩, ⟨hN2, hn1, hI2, hnd'.2, hln, by omega, fun j hj h => hdis j hj ((hmk j).2 (.inr h)), hin, fun j hj => ?_⟩, by simp; omega, ⟨(by repeat' first | exact True.intro | refine ⟨rfl, ?_⟩), (by repeat' first | exact True.intro | refine ⟨rfl, ?_⟩), Mem.le_refl _, rfl⟩⟩
      rcases hall j hj with h | h
      · exact .inl h
      · rcases (hmk j).1 h with rfl | h
        · rw [hj] at g; cases g
        · exact .inr h
theorem reset_ok (hd : DeskAt M p b wait next m) (n : Int) (hm : m.length ≤ 100000000) : CallsM Try.prog F.hop_Desk_Reset [ptr p, .int .i64 n] M fun v M' =>
    ∃ l : List Id, v = .int .i64 l.length ∧ l.Nodup ∧ (l.Pairwise fun x y => ¬ ltId y x = true) ∧ (∀ i, i ∈ l ↔ isTo m n i = true) ∧ DeskAt M' p b wait next (l.foldl adel m) ∧ Mem.keep (one b) M M' := by
  refine fo_hop_Desk_Reset (by simp) ?_
  (conv => whnf); refine (offered_ok hd n hm).mono ?_
  rintro v M1 ⟨a, c, l, rfl, hN, hln, hll, hs, hall⟩
  have hd1 := hd.le hN.le
  have hbb : ∀ y, blk a y → y ≠ b := fun y ⟨q, hq, e⟩ e2 => (hd.here (hN.block hq).1).2 (e ▸ e2)
  (conv => whnf)
  refine loopF (σ := Nat × Mem) [13] (fun x => [(13, .int .i64 x.1)]) (fun _ => []) (fun x => x.2) (fun | ⟨k, M2⟩ => k ≤ l.length ∧ DeskAt M2 p b wait next ((l.take k).foldl adel m) ∧ Mem.keep (one b) M1 M2) (fun x => l.length - x.1) ⟨0, M1⟩ ⟨by omega, hd1, Mem.keep_refl _ _⟩ ⟨(by repeat' first | exact True.intro | refine ⟨rfl, ?_⟩), (by repeat' first | exact True.intro | refine ⟨rfl, ?_⟩), Mem.le_refl _, rfl⟩ ?_
  rintro ⟨k, M2⟩ ⟨hk, hd2, hk2⟩
  have hN2 : Wr M2 T.api_Id 4 a l.length c (l.flatMap encI) := hN.wr.mono fun q o hq ho => hk2 _ o (hbb _ ⟨q, hq, rfl⟩) ho
  (conv => whnf); refine brn (fun g => ?_) (fun g => ?_)
  · have hlt : k < l.length := by have := of_decide_eq_true g; dsimp only at this; omega
    have hx : l[k]? = some l[k] := List.getElem?_eq_getElem hlt
    have htk : (l.take (k + 1)).foldl adel m = adel ((l.take k).foldl adel m) l[k] := by
      rw [List.take_add_one, hx, Option.toList_some, List.foldl_append]; rfl
    generalize l[k] = i at *
    obtain ⟨b1, o1, ha1, hc1⟩ := hN2.src.fparts encI_len (by decide) hx
    (conv => whnf); refine ob (by first | omega | (dsimp only; omega)) ?_
    (conv => whnf); refine atp ha1 ?_
    (conv => whnf); refine on (hc1 0 4 (by decide)) ?_
    repeat' ((conv => whnf); first | refine ⟨?_, True.intro⟩ | refine brn_t rfl ?_ | refine brn_f rfl ?_ | refine ob rfl ?_ | refine ob (by decide) ?_ | refine grow_same (Mem.le_refl _) ?_ | refine ob (Mem.le_refl _) ?_ | refine ⟨_, Mem.le_refl _, ?_⟩ | fail)
    refine on (hd2.self.c1 rfl) ?_
    repeat' ((conv => whnf); first | refine ⟨?_, True.intro⟩ | refine brn_t rfl ?_ | refine brn_f rfl ?_ | refine ob rfl ?_ | refine ob (by decide) ?_ | refine grow_same (Mem.le_refl _) ?_ | refine ob (Mem.le_refl _) ?_ | refine ⟨_, Mem.le_refl _, ?_⟩ | fail)
    refine hd2.map.del idKey i fun q f hm' => ?_
    have hk3 : Mem.keep (one b) M1 (M2.upd b (mdrop q f)) := Mem.keep_trans hk2 (Mem.keep_upd _ _ rfl)
    have hd3 := hd2.upd (hm' M2)
    repeat' ((conv => whnf); first | refine ⟨?_, True.intro⟩ | refine brn_t rfl ?_ | refine brn_f rfl ?_ | refine ob rfl ?_ | refine ob (by decide) ?_ | refine grow_same (Mem.le_refl _) ?_ | refine ob (Mem.le_refl _) ?_ | refine ⟨_, Mem.le_refl _, ?_⟩ | fail)
    refine ob (inR_i64 (by first | omega | (dsimp only; omega))) ?_
    (conv => whnf)
    exact ⟨⟨k + 1, _⟩, ⟨by omega, htk ▸ hd3, hk3⟩, by dsimp only; omega, ⟨(by repeat' first | exact True.intro | refine ⟨rfl, ?_⟩), (by repeat' first | exact True.intro | refine ⟨rfl, ?_⟩), Mem.le_refl _, rfl⟩⟩
  · have hge : k = l.length := by have := of_decide_eq_false g; dsimp only at this; omega
    subst hge
    rw [List.take_length] at hd2
    repeat' ((conv => whnf); first | refine ⟨?_, True.intro⟩ | refine brn_t rfl ?_ | refine brn_f rfl ?_ | refine ob rfl ?_ | refine ob (by decide) ?_ | refine grow_same (Mem.le_refl _) ?_ | refine ob (Mem.le_refl _) ?_ | refine ⟨_, Mem.le_refl _, ?_⟩ | fail)
    exact ⟨l, rfl, hln, hs, hall, hd2, Mem.keep_trans (Mem.keep_of_le hN.le) hk2⟩
end Go.Proofs.Ythlleljdahkgpaa
