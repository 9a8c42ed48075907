/- A desk's plan, plainly; a desk and two rows of one's own. -/
import Derived.Test.YthlleljdahkgpaaHopM
import Derived.Test.YthlleljdahkgpaaAwake
namespace Go.Proofs.Ythlleljdahkgpaa
open Go Go.Vm
attribute [local irreducible] Brn Ob Grow CallsM inR LoopVC Mem.row Mem.cells Mem.setCells Mem.upd Own AppVC SrcVC StrVC NextVC New SrcOk subA NewSl Mem.textAt Mem.mapAt Mem.iterAt entryOf kfind Wr NewEls Elems
set_option maxRecDepth 10000
structure PlanR (s P : PlanSt) (n : Nat) (r : List Offer) : Prop where
  nd : (s.m.map (·.1)).Nodup → (P.m.map (·.1)).Nodup
  keep : ∀ x k, aget s.m x = some k → aget P.m x = some k
  new : ∀ x k, aget P.m x = some k → aget s.m x = some k ∨ (k.waits = 0 ∧ k.ticks = 0)
  out : P.out = s.out ++ r
  ids : (r.map (·.msg.id)).Nodup
  was : ∀ o ∈ r, aget s.m o.msg.id = none ∧ ∃ k, aget P.m o.msg.id = some k ∧ k.waits = 0 ∧ k.ticks = 0
  len : P.m.length ≤ s.m.length + n
  rlen : r.length ≤ n
  nx : 0 ≤ s.next ∧ s.next ≤ 65535 → 0 ≤ P.next ∧ P.next ≤ 65535
theorem aput_length (m : KL) (i : Id) (k : Known) : (aput m i k).length ≤ m.length + 1 := by
  have := congrArg List.length (aput_keys m i k)
  simp only [List.length_map] at this
  rw [this]
  split <;> simp
theorem plan_r (via up : List Int) : ∀ (held : List Msg) (s : PlanSt), ∃ r, PlanR s (held.foldl (planStep via up) s) held.length r
  | [], s => ⟨[], ⟨fun h => h, fun _ _ h => h, fun _ _ h => .inl h, by simp, by simp, by simp, by simp, by simp, fun h => h⟩⟩
  | x :: rest, s => by
    obtain ⟨r, h⟩ := plan_r via up rest (planStep via up s x)
    rw [List.foldl_cons]
    generalize rest.foldl (planStep via up) (planStep via up s x) = P at *
    have hn := planStep_next (via := via) (up := up) (s := s) (x := x)
    by_cases hc : (0 ≤ x.id.d ∧ x.id.d < 64) ∧ toOf via x.id ∈ up ∧ aget s.m x.id = none
    · have e : planStep via up s x = ⟨aput s.m x.id ⟨toOf via x.id, s.next, 0, 0⟩, (s.next + 1) % 65536, s.out ++ [⟨toOf via x.id, s.next, x⟩]⟩ := by rw [planStep, if_pos hc]
      rw [e] at h hn
      have hx := hc.2.2
      have hput := aget_aput s.m x.id ⟨toOf via x.id, s.next, 0, 0⟩
      refine ⟨⟨toOf via x.id, s.next, x⟩ :: r, ⟨fun h0 => h.nd (aput_nodup h0 _ _), fun y k hy => h.keep y k ?_, fun y k hy => ?_, ?_, ?_, fun o ho => ?_, ?_, ?_, fun h0 => h.nx (hn h0)⟩⟩
      · dsimp only
        rw [hput, if_neg (fun e => by rw [e, hx] at hy; cases hy)]; exact hy
      · rcases h.new y k hy with h1 | h1
        · dsimp only at h1
          rw [hput] at h1
          split at h1
          · cases h1; exact .inr ⟨rfl, rfl⟩
          · exact .inl h1
        · exact .inr h1
      · rw [h.out]; simp
      · rw [List.map_cons, List.nodup_cons]
        refine ⟨fun hm => ?_, h.ids⟩
        obtain ⟨o, ho, e2⟩ := List.mem_map.1 hm
        have := (h.was o ho).1
        dsimp only at this e2
        rw [e2, hput, if_pos rfl] at this
        cases this
      · rcases List.mem_cons.1 ho with rfl | ho
        · refine ⟨hx, _, h.keep _ _ (by dsimp only; rw [hput, if_pos rfl]), rfl, rfl⟩
        · obtain ⟨h1, h2⟩ := h.was o ho
          refine ⟨?_, h2⟩
          dsimp only at h1
          rw [hput] at h1
          split at h1
          · cases h1
          · exact h1
      · have h1 := h.len
        have h2 := aput_length s.m x.id ⟨toOf via x.id, s.next, 0, 0⟩
        dsimp only at h1
        rw [List.length_cons]; omega
      · have := h.rlen; simp; omega
    · have e : planStep via up s x = s := by rw [planStep, if_neg hc]
      rw [e] at h
      refine ⟨r, ⟨h.nd, h.keep, h.new, h.out, h.ids, h.was, ?_, ?_, h.nx⟩⟩
      · have := h.len; rw [List.length_cons]; omega
      · have := h.rlen; rw [List.length_cons]; omega
theorem plan_out (m : KL) (next : Int) (held : List Msg) (via up : List Int) : PlanR ⟨m, next, []⟩ (planOf m next held via up) held.length (planOf m next held via up).out := by
  obtain ⟨r, h⟩ := plan_r via up held ⟨m, next, []⟩
  have h1 := h.out
  have h2 : (planOf m next held via up).out = r := h1.trans (List.nil_append _)
  rw [h2]; exact h
theorem AllK.plan {m : KL} (h : AllK m) {next : Int} {held : List Msg} {via up : List Int} : AllK (planOf m next held via up).m := fun i k hk => by
  rcases (plan_out m next held via up).new i k hk with h1 | ⟨h1, h2⟩
  · exact h i k h1
  · exact ⟨⟨by omega, by omega, by omega, by omega⟩, fun h => by omega⟩
theorem AllK.all {m : KL} (h : AllK m) : KAll m := fun i k hk => (h i k hk).ok
theorem DeskAt.apart {M : Mem} {p b : Nat} {wait next : Int} {m : KL} (h : DeskAt M p b wait next m) {E : TypeId} {s : Nat} {a : Option Addr} {n c : Nat} {l : List Value} (hw : Wr M E s a n c l) (hE : E ≠ T.hop_Desk) : ∀ y, blk a y → ¬ two' p b y := fun y ⟨q, hq, e⟩ hy => by
  obtain ⟨cs, hh⟩ := hw.block hq
  rw [e] at hh
  rcases hy with rfl | rfl
  · exact hE (hh.inj h.self).1
  · exact h.map.nb hh rfl
theorem wr_new {M : Mem} {E : TypeId} {s : Nat} {a : Option Addr} {n c : Nat} {l : List Value} (h : Wr M E s a n c l) : NewSl (M.minus (blk a)) E s a n c l M := by
  rw [newSl_iff]
  unfold Wr at h
  obtain ⟨h1, h2, h3⟩ := h
  exact ⟨Mem.minus_le _ _, h1, h2, h3.imp id fun ⟨b, cs, ha, hh, hr⟩ => ⟨b, cs, ha, Mem.minus_in ⟨_, ha, rfl⟩, hh, hr⟩⟩
theorem wr_apart {M : Mem} {E E' : TypeId} {s s' : Nat} {a a' : Option Addr} {n c n' c' : Nat} {l l' : List Value} (h : Wr M E s a n c l) (h' : Wr M E' s' a' n' c' l') (hE : E ≠ E') : ∀ y, blk a y → ¬ blk a' y := fun y ⟨q, hq, e⟩ ⟨q', hq', e'⟩ => by
  obtain ⟨cs, hh⟩ := h.block hq
  obtain ⟨cs', hh'⟩ := h'.block hq'
  rw [e] at hh
  rw [e'] at hh'
  exact hE (hh.inj hh').1
/-- what the law has in its hands: a desk, and two rows -/
structure Lay (A M : Mem) (p b : Nat) (wait next : Int) (m : KL) (op : List Id) (oa : Option Addr) (oc : Nat) (si : List Int) (sa : Option Addr) (sc : Nat) : Prop where
  le : A.le M
  desk : DeskAt M p b wait next m
  fp : A p = none
  fb : A b = none
  op : Wr M T.api_Id 4 oa op.length oc (op.flatMap encI)
  si : Wr M T.int 1 sa si.length sc (si.map intV)
  fo : ∀ y, blk oa y → A y = none
  fs : ∀ y, blk sa y → A y = none
variable {A M : Mem} {p b : Nat} {wait next : Int} {m : KL} {op : List Id} {oa : Option Addr} {oc : Nat} {si : List Int} {sa : Option Addr} {sc : Nat}
theorem Lay.up {M' : Mem} (h : Lay A M p b wait next m op oa oc si sa sc) (hle : M.le M') : Lay A M' p b wait next m op oa oc si sa sc :=
  ⟨Mem.le_trans h.le hle, h.desk.le hle, h.fp, h.fb, h.op.le hle, h.si.le hle, h.fo, h.fs⟩
theorem Lay.turn {M' : Mem} {next' : Int} {m' : KL} (h : Lay A M p b wait next m op oa oc si sa sc) (hd : DeskAt M' p b wait next' m') (hk : Mem.keep (two' p b) M M') : Lay A M' p b wait next' m' op oa oc si sa sc := by
  have ho := h.desk.apart h.op (by decide)
  have hs := h.desk.apart h.si (by decide)
  exact ⟨hk.le h.le fun y hy => by rcases hy with rfl | rfl; exact h.fp; exact h.fb, hd, h.fp, h.fb, h.op.mono fun q o hq hh => hk _ o (ho _ ⟨q, hq, rfl⟩) hh, h.si.mono fun q o hq hh => hk _ o (hs _ ⟨q, hq, rfl⟩) hh, h.fo, h.fs⟩
theorem Lay.turn1 {M' : Mem} {m' : KL} (h : Lay A M p b wait next m op oa oc si sa sc) (hd : DeskAt M' p b wait next m') (hk : Mem.keep (one b) M M') : Lay A M' p b wait next m' op oa oc si sa sc :=
  h.turn hd (Mem.keep_mono hk fun y hy => .inr hy)
/-- the second row is written -/
theorem Lay.since {M' : Mem} {si' : List Int} {sa' : Option Addr} {sc' : Nat} (h : Lay A M p b wait next m op oa oc si sa sc) (hk : Mem.keep (blk sa) M M') (hw : Wr M' T.int 1 sa' si'.length sc' (si'.map intV)) (hf : ∀ y, blk sa' y → A y = none) : Lay A M' p b wait next m op oa oc si' sa' sc' := by
  have hs := h.desk.apart h.si (by decide)
  have ho := wr_apart h.op h.si (by decide)
  exact ⟨hk.le h.le h.fs, h.desk.mono fun c o hc hh => hk _ o (fun hb => hs _ hb hc) hh, h.fp, h.fb, h.op.mono fun q o hq hh => hk _ o (ho _ ⟨q, hq, rfl⟩) hh, hw, h.fo, hf⟩
/-- the first row is written -/
theorem Lay.open' {M' : Mem} {op' : List Id} {oa' : Option Addr} {oc' : Nat} (h : Lay A M p b wait next m op oa oc si sa sc) (hk : Mem.keep (blk oa) M M') (hw : Wr M' T.api_Id 4 oa' op'.length oc' (op'.flatMap encI)) (hf : ∀ y, blk oa' y → A y = none) : Lay A M' p b wait next m op' oa' oc' si sa sc := by
  have ho := h.desk.apart h.op (by decide)
  have hs := wr_apart h.si h.op (by decide)
  exact ⟨hk.le h.le h.fo, h.desk.mono fun c o hc hh => hk _ o (fun hb => ho _ hb hc) hh, h.fp, h.fb, hw, h.si.mono fun q o hq hh => hk _ o (hs _ ⟨q, hq, rfl⟩) hh, hf, h.fs⟩
/-- what was offered is still known, with its ticks -/
structure OnceI (m : KL) (now : Int) (op : List Id) (si : List Int) : Prop where
  len : si.length = op.length
  sat : ∀ (j : Nat) x s, op[j]? = some x → si[j]? = some s → (-64 ≤ s ∧ s ≤ now) ∧ (now - s < 64 → ∃ k, aget m x = some k ∧ k.waits = 0 ∧ k.ticks = now - s)
theorem OnceI.nil (m : KL) (now : Int) : OnceI m now [] [] := ⟨rfl, by simp⟩
theorem OnceI.mono {m m' : KL} {now : Int} (h : OnceI m now op si) (hm : ∀ x k, aget m x = some k → k.waits = 0 → aget m' x = some k) : OnceI m' now op si :=
  ⟨h.len, fun j x s hx hs => ⟨(h.sat j x s hx hs).1, fun hn => by
    obtain ⟨k, h1, h2, h3⟩ := (h.sat j x s hx hs).2 hn
    exact ⟨k, hm x k h1 h2, h2, h3⟩⟩⟩
theorem OnceI.tick {m m' : KL} {now : Int} (h : OnceI m now op si) (hA : AllK m) (hm : ∀ i, aget m' i = (aget m i).bind tickK) : OnceI m' (now + 1) op si :=
  ⟨h.len, fun j x s hx hs => ⟨by have := (h.sat j x s hx hs).1; omega, fun hn => by
    obtain ⟨k, h1, h2, h3⟩ := (h.sat j x s hx hs).2 (by omega)
    refine ⟨{ k with ticks := k.ticks + 1 }, ?_, h2, by dsimp only; omega⟩
    rw [hm, h1]
    have hk := (hA x k h1).ok
    obtain ⟨g1, g2, g3, g4⟩ := hk
    show tickK k = _
    unfold tickK
    rw [if_neg (by omega), if_neg (by omega)]⟩⟩
/-- one more is offered -/
theorem OnceI.push {m : KL} {now : Int} (h : OnceI m now op si) {i : Id} {k : Known} (hk : aget m i = some k) (h0 : k.waits = 0 ∧ k.ticks = 0) (hn : 0 ≤ now) : OnceI m now (op ++ [i]) (si ++ [now]) := by
  have hl := h.len
  refine ⟨by simp [h.len], fun j x s hx hs => ?_⟩
  by_cases hj : j < op.length
  · rw [List.getElem?_append_left hj] at hx
    rw [List.getElem?_append_left (by omega)] at hs
    exact h.sat j x s hx hs
  · rw [List.getElem?_append_right (by omega)] at hx
    rw [List.getElem?_append_right (by omega)] at hs
    have e1 : x = i := by
      cases e : j - op.length with
      | zero => rw [e] at hx; simpa using hx.symm
      | succ t => rw [e] at hx; simp at hx
    have e2 : s = now := by
      cases e : j - si.length with
      | zero => rw [e] at hs; simpa using hs.symm
      | succ t => rw [e] at hs; simp at hs
    subst e1 e2
    exact ⟨⟨by omega, by omega⟩, fun _ => ⟨k, hk, h0.1, by rw [h0.2]; omega⟩⟩
/-- an id is let go -/
theorem OnceI.drop {m m' : KL} {now : Int} (h : OnceI m now op si) (hn : 0 ≤ now) {i : Id} {si' : List Int} (hl : si'.length = si.length) (hs' : ∀ (j : Nat) x s, op[j]? = some x → si'[j]? = some s → (x = i ∧ s = -64) ∨ (x ≠ i ∧ si[j]? = some s))
    (hm : ∀ x k, x ≠ i → aget m x = some k → aget m' x = some k) : OnceI m' now op si' := by
  refine ⟨hl.trans h.len, fun j x s hx hs => ?_⟩
  rcases hs' j x s hx hs with ⟨rfl, rfl⟩ | ⟨hne, h1⟩
  · exact ⟨by omega, fun h => by omega⟩
  · obtain ⟨h2, h3⟩ := h.sat j x s hx h1
    refine ⟨h2, fun hh => ?_⟩
    obtain ⟨k, h4, h5, h6⟩ := h3 hh
    exact ⟨k, hm x k hne h4, h5, h6⟩
def dropS (i : Id) (op : List Id) (si : List Int) : Nat → List Int
  | 0 => si
  | j + 1 => if op[j]? = some i then (dropS i op si j).set j (-64) else dropS i op si j
theorem dropS_len (i : Id) (op : List Id) (si : List Int) : ∀ j, (dropS i op si j).length = si.length
  | 0 => rfl
  | j + 1 => by
    rw [dropS]
    split
    · rw [List.length_set, dropS_len i op si j]
    · exact dropS_len i op si j
theorem dropS_get (i : Id) (op : List Id) (si : List Int) (t : Nat) : ∀ j, (dropS i op si j)[t]? = if t < j ∧ op[t]? = some i then (si[t]?).map (fun _ => -64) else si[t]?
  | 0 => by rw [dropS, if_neg (by omega)]
  | j + 1 => by
    have ih := dropS_get i op si t j
    rw [dropS]
    by_cases hj : op[j]? = some i
    · rw [if_pos hj, List.getElem?_set, dropS_len]
      by_cases e : j = t
      · subst e
        rw [if_pos rfl, if_pos (show j < j + 1 ∧ op[j]? = some i from ⟨by omega, hj⟩)]
        by_cases hl : j < si.length
        · rw [if_pos hl, List.getElem?_eq_getElem hl]; rfl
        · rw [if_neg hl, List.getElem?_eq_none (by omega)]; rfl
      · rw [if_neg e, ih]
        by_cases h : t < j ∧ op[t]? = some i
        · rw [if_pos h, if_pos ⟨by omega, h.2⟩]
        · rw [if_neg h, if_neg (fun h' => h ⟨by omega, h'.2⟩)]
    · rw [if_neg hj, ih]
      by_cases h : t < j ∧ op[t]? = some i
      · rw [if_pos h, if_pos ⟨by omega, h.2⟩]
      · rw [if_neg h, if_neg (fun h' => h ⟨by
          have : t ≠ j := fun e => hj (e ▸ h'.2)
          omega, h'.2⟩)]
theorem OnceI.dropped {m m' : KL} {now : Int} (h : OnceI m now op si) (hn : 0 ≤ now) (i : Id) (hm : ∀ x k, x ≠ i → aget m x = some k → aget m' x = some k) : OnceI m' now op (dropS i op si op.length) :=
  h.drop hn (i := i) (dropS_len ..) (fun j x s hx hs => by
    rw [dropS_get] at hs
    have hjl := (List.getElem?_eq_some_iff.1 hx).1
    by_cases e : x = i
    · subst e
      rw [if_pos ⟨hjl, hx⟩] at hs
      refine .inl ⟨rfl, ?_⟩
      cases hsi : si[j]? with
      | none => rw [hsi] at hs; cases hs
      | some y => rw [hsi] at hs; simpa using hs.symm
    · rw [if_neg (fun h' => e (by rw [hx] at h'; exact Option.some.inj h'.2))] at hs
      exact .inr ⟨e, hs⟩) hm
/-- a row of offers, but for the messages' bytes -/
def OffI (cs : List Value) (x : Offer) : Prop := ∃ v, cs = [.int .i64 x.to, .int .i64 x.n, .int .i64 x.msg.id.o, .int .i64 x.msg.id.d, .int .i64 x.msg.id.e, .int .i64 x.msg.id.c, v]
structure PlanF (m m' : KL) (next' : Int) (n : Nat) (out : List Offer) : Prop where
  keep : ∀ x k, aget m x = some k → aget m' x = some k
  ids : (out.map (·.msg.id)).Nodup
  was : ∀ o ∈ out, aget m o.msg.id = none ∧ ∃ k, aget m' o.msg.id = some k ∧ k.waits = 0 ∧ k.ticks = 0
  len : m'.length ≤ m.length + n
  olen : out.length ≤ n
  all : AllK m → AllK m'
  nx : 0 ≤ next' ∧ next' ≤ 65535
theorem Lay.weak {Z : Mem} (h : Lay Z M p b wait next m op oa oc si sa sc) (hA : A.le Z) : Lay A M p b wait next m op oa oc si sa sc := by
  have hn : ∀ y, Z y = none → A y = none := fun y hy => by
    cases e : A y with
    | none => rfl
    | some o => rw [hA y o e] at hy; cases hy
  exact ⟨Mem.le_trans hA h.le, h.desk, hn _ h.fp, hn _ h.fb, h.op, h.si, fun y hy => hn y (h.fo y hy), fun y hy => hn y (h.fs y hy)⟩
theorem Lay.plan (h : Lay A M p b wait next m op oa oc si sa sc) (hnx : 0 ≤ next ∧ next ≤ 65535) (a1 a2 a3 : Option Addr) (n1 n2 n3 c1 c2 c3 : Nat) (held : List Msg) (via up : List Int)
    (h1 : Elems A 5 a1 n1 (MsgR A) held) (h2 : SrcOk A 1 a2 n2 (via.map intV)) (h3 : SrcOk A 1 a3 n3 (up.map intV)) (hn1 : n1 ≤ 1048576) (hn3 : n3 ≤ 1048576) :
    CallsM Try.prog F.hop_Desk_Plan [ptr p, .slice a1 n1 c1, .slice a2 n2 c2, .slice a3 n3 c3] M fun v M' => ∃ (Z : Mem) (a : Option Addr) (c : Nat) (out : List Offer) (next' : Int) (m' : KL), v = .slice a out.length c ∧ A.le Z ∧
      Lay Z M' p b wait next' m' op oa oc si sa sc ∧ Elems Z 7 a out.length OffI out ∧ PlanF m m' next' 1048576 out := by
  by_cases hv : n2 = 64
  · refine (planN_ok A h.desk hnx h.fp h.fb h.le a1 a2 a3 n1 n2 n3 c1 c2 c3 held via up h1 h2 h3 hv (by omega) (by omega)).mono ?_
    have hP := plan_out m next held via up
    have hA := fun h : AllK m => h.plan (next := next) (held := held) (via := via) (up := up)
    have hl := h1.len
    generalize planOf m next held via up = P at *
    rintro v M' ⟨a, c, rfl, hd, hN⟩
    have ht := h.turn hd (Mem.keep_minus.2 hN.le)
    have hnb : ∀ q, a = some q → ¬ (two' p b q.block ∨ blk oa q.block ∨ blk sa q.block) := fun q hq hb => by
      obtain ⟨_, cs, hh⟩ := hN.block hq
      rcases hb with (hb | hb) | ⟨q', hq', e⟩ | ⟨q', hq', e⟩
      · rw [hb] at hh; exact absurd (hh.inj hd.self).1 (by decide)
      · rw [hb] at hh; exact hd.map.nb hh rfl
      · obtain ⟨cs', hh'⟩ := ht.op.block hq'
        rw [e] at hh'; exact absurd (hh.inj hh').1 (by decide)
      · obtain ⟨cs', hh'⟩ := ht.si.block hq'
        rw [e] at hh'; exact absurd (hh.inj hh').1 (by decide)
    have hAM : A.le (M'.minus fun y => two' p b y ∨ blk oa y ∨ blk sa y) := Mem.le_minus ht.le fun y hy => by
      rcases hy with (rfl | rfl) | hy | hy
      · exact h.fp
      · exact h.fb
      · exact h.fo y hy
      · exact h.fs y hy
    refine ⟨M'.minus fun y => two' p b y ∨ blk oa y ∨ blk sa y, a, c, P.out, P.next, P.m, rfl, hAM, ⟨Mem.minus_le _ _, hd, Mem.minus_in (.inl (.inl rfl)), Mem.minus_in (.inl (.inr rfl)), ht.op, ht.si, fun y hy => Mem.minus_in (.inr (.inl hy)), fun y hy => Mem.minus_in (.inr (.inr hy))⟩, ?_, ⟨hP.keep, hP.ids, hP.was, by have := hP.len; dsimp only at this; omega, by have := hP.rlen; omega, hA, hP.nx hnx⟩⟩
    have h8 := hN.imp (R' := OffI) (fun cs y _ ⟨p1, n1, k1, e1, _⟩ => ⟨_, e1⟩)
    unfold NewEls at h8
    obtain ⟨css, g1, g2⟩ := h8
    unfold Elems
    exact ⟨css, g1.src.minus hnb, g2⟩
  · refine (plan_no hv).mono ?_
    rintro v _ ⟨rfl, rfl⟩
    exact ⟨A, none, 0, [], next, m, rfl, Mem.le_refl _, h, Elems.nil _ _ _, ⟨fun _ _ h => h, by simp, by simp, by omega, by simp, fun h => h, hnx⟩⟩
theorem nodup_len : ∀ {l l' : List Id}, l.Nodup → (∀ x ∈ l, x ∈ l') → l.length ≤ l'.length
  | [], _, _, _ => by simp
  | x :: r, l', h, hs => by
    rw [List.nodup_cons] at h
    have hx := hs x (by simp)
    have h1 := nodup_len (l := r) (l' := l'.erase x) h.2 fun y hy => (List.mem_erase_of_ne fun e => h.1 (by rw [← e]; exact hy)).2 (hs y (by simp [hy]))
    rw [List.length_erase_of_mem hx] at h1
    have := List.length_pos_of_mem hx
    rw [List.length_cons]; omega
theorem keys_len {m m' : KL} (hn : (m'.map (·.1)).Nodup) (hs : ∀ x k, aget m' x = some k → ∃ k', aget m x = some k') : m'.length ≤ m.length := by
  have := nodup_len hn (l' := m.map (·.1)) fun x hx => by
    obtain ⟨q, hq, rfl⟩ := List.mem_map.1 hx
    obtain ⟨k', hk'⟩ := hs q.1 q.2 (aget_of_mem hn hq)
    exact List.mem_map.2 ⟨_, aget_mem hk', rfl⟩
  simpa using this
theorem AllK.tick {m m' : KL} (hA : AllK m) (hm : ∀ i, aget m' i = (aget m i).bind tickK) : AllK m' := fun i k' hk => by
  rw [hm] at hk
  cases e : aget m i with
  | none => rw [e] at hk; cases hk
  | some k =>
    rw [e] at hk
    have hk' : tickK k = some k' := hk
    rw [tick_same (hA i k e)] at hk'
    exact tickD_inv (hA i k e) hk'
theorem wr_none (M : Mem) (E : TypeId) (s : Nat) : Wr M E s none 0 0 [] := by
  unfold Wr
  exact ⟨by simp, Nat.le_refl _, .inl ⟨rfl, rfl⟩⟩
theorem adel_length (m : KL) (i : Id) : (adel m i).length ≤ m.length := List.length_filter_le _ _
/-- what a call that lets an id go makes of what is known -/
structure GoF (m m' : KL) (i : Id) (ok : Bool) : Prop where
  no : ok = false → m' = m
  other : ∀ x k, x ≠ i → aget m x = some k → aget m' x = some k
  all : AllK m → AllK m'
  len : m'.length ≤ m.length + 1
theorem GoF.same (m : KL) (i : Id) : GoF m m i false := ⟨fun _ => rfl, fun _ _ _ h => h, fun h => h, by omega⟩
theorem GoF.del (m : KL) (i : Id) : GoF m (adel m i) i true :=
  ⟨fun h => (by cases h), fun x k hx hk => by rw [aget_adel, if_neg hx]; exact hk, fun h => h.sub fun j k hk => by rw [aget_adel] at hk; split at hk <;> first | cases hk | exact hk, by have := adel_length m i; omega⟩
theorem GoF.put (m : KL) (i : Id) {k : Known} (hk : KInv k) : GoF m (aput m i k) i true :=
  ⟨fun h => (by cases h), fun x y hx hy => by rw [aget_aput, if_neg hx]; exact hy, fun h j y hy => by
    rw [aget_aput] at hy
    split at hy
    · cases hy; exact hk
    · exact h j y hy, aput_length m i k⟩
end Go.Proofs.Ythlleljdahkgpaa
