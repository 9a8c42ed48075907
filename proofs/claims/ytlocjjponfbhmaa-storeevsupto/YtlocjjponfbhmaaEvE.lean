/- Events and their bytes: what both sides' functions say. -/
import Derived.Test.YtlocjjponfbhmaaJoin28
namespace Go.Proofs.Ytlocjjponfbhmaa
open Go Go.Vm
attribute [local irreducible] Brn Ob Grow CallsM inR LoopVC Mem.row Mem.cells Mem.setCells Mem.upd Own AppVC SrcVC StrVC NextVC New SrcOk subA NewSl Mem.textAt Mem.mapAt Mem.iterAt entryOf kfind Wr NewEls Elems
set_option maxRecDepth 10000
variable {M : Mem}
theorem conv_kind (x : Int) : Value.int .u8 (IntKind.u8.wrap x) = byteV (byteOf x) := conv_byte x
theorem putMsg_ok (i : IdT) {a : Option Addr} {c : Nat} {l : List UInt8} (hl : SrcOk M 1 a l.length (l.map byteV)) (h0 : msgErrD i l.length = 0) : CallsM Try.prog F.msg_Put [.agg #[.int .i64 i.o, .int .i64 i.d, .int .i64 i.e, .int .i64 i.c, .slice a l.length c]] M fun v M' =>
    ∃ a' c', v = .tuple #[.slice a' (6 + l.length) c', .int .i64 0] ∧ NewSl M T.uint8 1 a' (6 + l.length) c' ((idBytes i.o i.d i.e i.c ++ l).map byteV) M' := by
  refine fo_msg_Put (by simp) ?_
  obtain ⟨h1, h2, h3⟩ := msgErr_zero h0
  repeat' ((conv => whnf); first | refine ⟨?_, True.intro⟩ | refine brn_t rfl ?_ | refine brn_f rfl ?_ | refine ob rfl ?_ | refine ob (by decide) ?_ | refine grow_same (Mem.le_refl _) ?_ | refine ob (Mem.le_refl _) ?_ | refine ⟨_, Mem.le_refl _, ?_⟩ | fail)
  refine (checkMsg_ok _ _ _ _ _ _ _ _).mono ?_
  rintro v _ ⟨rfl, rfl⟩
  (conv => whnf); refine brn_f (by rw [show msgErr i.o i.d i.e i.c l.length = 0 from h0]; rfl) ?_
  repeat' ((conv => whnf); first | refine ⟨?_, True.intro⟩ | refine brn_t rfl ?_ | refine brn_f rfl ?_ | refine ob rfl ?_ | refine ob (by decide) ?_ | refine grow_same (Mem.le_refl _) ?_ | refine ob (Mem.le_refl _) ?_ | refine ⟨_, Mem.le_refl _, ?_⟩ | fail)
  refine (putId_ok _ _ _ _ _).mono ?_
  rintro v M1 (⟨hne, -⟩ | ⟨-, a1, c1, rfl, hN⟩)
  · exact absurd h1 hne
  repeat' ((conv => whnf); first | refine ⟨?_, True.intro⟩ | refine brn_t rfl ?_ | refine brn_f rfl ?_ | refine ob rfl ?_ | refine ob (by decide) ?_ | refine grow_same (Mem.le_refl _) ?_ | refine ob (Mem.le_refl _) ?_ | refine ⟨_, Mem.le_refl _, ?_⟩ | fail)
  refine srcv (hl.le hN.le) ?_
  (conv => whnf); refine appN M _ hN (by first | omega | (dsimp only; omega)) (by simp [maxLen] <;> omega) (bytes_one _) fun a2 c2 M2 hN2 => ?_
  repeat' ((conv => whnf); first | refine ⟨?_, True.intro⟩ | refine brn_t rfl ?_ | refine brn_f rfl ?_ | refine ob rfl ?_ | refine ob (by decide) ?_ | refine grow_same (Mem.le_refl _) ?_ | refine ob (Mem.le_refl _) ?_ | refine ⟨_, Mem.le_refl _, ?_⟩ | fail)
  exact ⟨a2, c2, rfl, by simpa using hN2⟩
theorem putMsgR_ok (i : IdT) {a : Option Addr} {c : Nat} {l : List UInt8} (hl : SrcOk M 1 a l.length (l.map byteV)) (h0 : msgErrD i l.length = 0) : CallsM Try.prog F.ref13_Put [.agg #[.int .i64 i.o, .int .i64 i.d, .int .i64 i.e, .int .i64 i.c, .slice a l.length c]] M fun v M' =>
    ∃ a' c', v = .tuple #[.slice a' (6 + l.length) c', .int .i64 0] ∧ NewSl M T.uint8 1 a' (6 + l.length) c' ((idBytes i.o i.d i.e i.c ++ l).map byteV) M' := by
  refine fo_ref13_Put (by simp) ?_
  obtain ⟨h1, h2, h3⟩ := msgErr_zero h0
  repeat' ((conv => whnf); first | refine ⟨?_, True.intro⟩ | refine brn_t rfl ?_ | refine brn_f rfl ?_ | refine ob rfl ?_ | refine ob (by decide) ?_ | refine grow_same (Mem.le_refl _) ?_ | refine ob (Mem.le_refl _) ?_ | refine ⟨_, Mem.le_refl _, ?_⟩ | fail)
  refine (checkMsgR_ok _ _ _ _ _ _ _ _).mono ?_
  rintro v _ ⟨rfl, rfl⟩
  (conv => whnf); refine brn_f (by rw [show msgErr i.o i.d i.e i.c l.length = 0 from h0]; rfl) ?_
  repeat' ((conv => whnf); first | refine ⟨?_, True.intro⟩ | refine brn_t rfl ?_ | refine brn_f rfl ?_ | refine ob rfl ?_ | refine ob (by decide) ?_ | refine grow_same (Mem.le_refl _) ?_ | refine ob (Mem.le_refl _) ?_ | refine ⟨_, Mem.le_refl _, ?_⟩ | fail)
  refine (putIdR_ok _ _ _ _ _).mono ?_
  rintro v M1 (⟨hne, -⟩ | ⟨-, a1, c1, rfl, hN⟩)
  · exact absurd h1 hne
  repeat' ((conv => whnf); first | refine ⟨?_, True.intro⟩ | refine brn_t rfl ?_ | refine brn_f rfl ?_ | refine ob rfl ?_ | refine ob (by decide) ?_ | refine grow_same (Mem.le_refl _) ?_ | refine ob (Mem.le_refl _) ?_ | refine ⟨_, Mem.le_refl _, ?_⟩ | fail)
  refine srcv (hl.le hN.le) ?_
  (conv => whnf); refine appN M _ hN (by first | omega | (dsimp only; omega)) (by simp [maxLen] <;> omega) (bytes_one _) fun a2 c2 M2 hN2 => ?_
  repeat' ((conv => whnf); first | refine ⟨?_, True.intro⟩ | refine brn_t rfl ?_ | refine brn_f rfl ?_ | refine ob rfl ?_ | refine ob (by decide) ?_ | refine grow_same (Mem.le_refl _) ?_ | refine ob (Mem.le_refl _) ?_ | refine ⟨_, Mem.le_refl _, ?_⟩ | fail)
  exact ⟨a2, c2, rfl, by simpa using hN2⟩
/-- what is put -/
def PutOut (x : EvX) (M : Mem) (v : Value) (M' : Mem) : Prop := ∃ a c, v = .tuple #[.slice a (putEvD x).length c, .int .i64 (evErr x)] ∧ NewSl M T.uint8 1 a (putEvD x).length c ((putEvD x).map byteV) M'
theorem putEv_ok (x : EvX) {a : Option Addr} {c : Nat} (hl : SrcOk M 1 a x.p.length (x.p.map byteV)) : CallsM Try.prog F.store_PutEv [evV x.kind x.id a x.p.length c] M (PutOut x M) := by
  obtain ⟨k, i, p⟩ := x
  dsimp only at hl ⊢
  refine fo_store_PutEv (by simp) ?_
  repeat' ((conv => whnf); first | refine ⟨?_, True.intro⟩ | refine brn_t rfl ?_ | refine brn_f rfl ?_ | refine ob rfl ?_ | refine ob (by decide) ?_ | refine grow_same (Mem.le_refl _) ?_ | refine ob (Mem.le_refl _) ?_ | refine ⟨_, Mem.le_refl _, ?_⟩ | fail)
  refine (form_ok k i a p.length c).mono ?_
  rintro v _ ⟨rfl, rfl⟩
  (conv => whnf); refine brn (fun g => ?_) (fun g => ?_)
  · have g1 : ¬ formD k i p.length = 0 := by simpa using g
    have e : putEvD ⟨k, i, p⟩ = [] := by unfold putEvD evErr; rw [if_neg g1]
    repeat' ((conv => whnf); first | refine ⟨?_, True.intro⟩ | refine brn_t rfl ?_ | refine brn_f rfl ?_ | refine ob rfl ?_ | refine ob (by decide) ?_ | refine grow_same (Mem.le_refl _) ?_ | refine ob (Mem.le_refl _) ?_ | refine ⟨_, Mem.le_refl _, ?_⟩ | fail)
    refine ⟨none, 0, ?_, ?_⟩
    · rw [e]; rfl
    · rw [e]; exact NewSl.none _ _ _
  have g0 : formD k i p.length = 0 := by simpa using g
  have g1 : evErr ⟨k, i, p⟩ = 0 := g0
  have e : putEvD ⟨k, i, p⟩ = evBytes ⟨k, i, p⟩ := by unfold putEvD; rw [if_pos g1]
  have hk := evErr_kind g1
  dsimp only at hk
  rcases hk with rfl | rfl | rfl | rfl
  · have eb : evBytes ⟨1, i, p⟩ = [byteOf 1] := rfl
    have hlen : 1 + 0 = (putEvD ⟨1, i, p⟩).length := by rw [e, eb]; rfl
    have hle := Mem.le_refl M
    repeat' ((conv => whnf); first | refine ⟨?_, True.intro⟩ | refine brn_t rfl ?_ | refine brn_f rfl ?_ | refine ob rfl ?_ | refine ob (by decide) ?_ | refine grow_same (Mem.le_refl _) ?_ | refine ob (Mem.le_refl _) ?_ | refine ⟨_, Mem.le_refl _, ?_⟩ | fail)
    refine new (fun b9 hb9 => ?_)
    replace hb9 : M b9 = none := hb9
    rw [conv_byte]
    have hN9 : NewSl M T.uint8 1 (some ⟨b9, 0, none⟩) 1 1 ([byteOf 1].map byteV) _ := NewSl.lit hb9 T.uint8 1 1 [byteV (byteOf 1)] rfl
    (conv => whnf)
    refine srcv (vs := ([] : List UInt8).map byteV) (SrcOk.nil _ _) ?_
    (conv => whnf); refine appN _ _ hN9 (by first | omega | (dsimp only; omega)) (by simp [maxLen] <;> omega) (bytes_one _) fun a2 c2 M2 hN2 => ?_
    repeat' ((conv => whnf); first | refine ⟨?_, True.intro⟩ | refine brn_t rfl ?_ | refine brn_f rfl ?_ | refine ob rfl ?_ | refine ob (by decide) ?_ | refine grow_same (Mem.le_refl _) ?_ | refine ob (Mem.le_refl _) ?_ | refine ⟨_, Mem.le_refl _, ?_⟩ | fail)
    refine ⟨a2, c2, by rw [← hlen, g1], ?_⟩
    rw [← hlen, e, eb]
    exact NewSl.mono (by simpa using hN2) hle
  · obtain ⟨h1, h2, h3⟩ := evErr_two g1 rfl
    dsimp only at h1 h2 h3
    have eb : evBytes ⟨2, i, p⟩ = byteOf 2 :: (idBytes i.o i.d i.e i.c ++ p) := rfl
    have hlen : 1 + (6 + p.length) = (putEvD ⟨2, i, p⟩).length := by rw [e, eb, List.length_cons, List.length_append, idBytes_len]; omega
    repeat' ((conv => whnf); first | refine ⟨?_, True.intro⟩ | refine brn_t rfl ?_ | refine brn_f rfl ?_ | refine ob rfl ?_ | refine ob (by decide) ?_ | refine grow_same (Mem.le_refl _) ?_ | refine ob (Mem.le_refl _) ?_ | refine ⟨_, Mem.le_refl _, ?_⟩ | fail)
    refine (putMsg_ok i hl (by unfold formD at g0; rwa [if_neg (by decide), if_pos rfl] at g0)).mono ?_
    rintro v M1 ⟨a1, c1, rfl, hN⟩
    repeat' ((conv => whnf); first | refine ⟨?_, True.intro⟩ | refine brn_t rfl ?_ | refine brn_f rfl ?_ | refine ob rfl ?_ | refine ob (by decide) ?_ | refine grow_same (Mem.le_refl _) ?_ | refine ob (Mem.le_refl _) ?_ | refine ⟨_, Mem.le_refl _, ?_⟩ | fail)
    refine new (fun b9 hb9 => ?_)
    replace hb9 : M1 b9 = none := hb9
    have hle := hN.le
    rw [conv_byte]
    have hN9 : NewSl M1 T.uint8 1 (some ⟨b9, 0, none⟩) 1 1 ([byteOf 2].map byteV) _ := NewSl.lit hb9 T.uint8 1 1 [byteV (byteOf 2)] rfl
    (conv => whnf)
    refine srcv (hN.src.le hN9.le) ?_
    (conv => whnf); refine appN _ _ hN9 (by first | omega | (dsimp only; omega)) (by simp [maxLen] <;> omega) (bytes_one _) fun a2 c2 M2 hN2 => ?_
    repeat' ((conv => whnf); first | refine ⟨?_, True.intro⟩ | refine brn_t rfl ?_ | refine brn_f rfl ?_ | refine ob rfl ?_ | refine ob (by decide) ?_ | refine grow_same (Mem.le_refl _) ?_ | refine ob (Mem.le_refl _) ?_ | refine ⟨_, Mem.le_refl _, ?_⟩ | fail)
    refine ⟨a2, c2, by rw [← hlen, g1], ?_⟩
    rw [← hlen, e, eb]
    exact NewSl.mono (by simpa using hN2) hle
  · have eb : evBytes ⟨3, i, p⟩ = byteOf 3 :: idBytes i.o i.d i.e i.c := rfl
    have hlen : 1 + 6 = (putEvD ⟨3, i, p⟩).length := by rw [e, eb, List.length_cons, idBytes_len]
    obtain ⟨h1, h2⟩ := evErr_rest g1 (by dsimp only; omega)
    repeat' ((conv => whnf); first | refine ⟨?_, True.intro⟩ | refine brn_t rfl ?_ | refine brn_f rfl ?_ | refine ob rfl ?_ | refine ob (by decide) ?_ | refine grow_same (Mem.le_refl _) ?_ | refine ob (Mem.le_refl _) ?_ | refine ⟨_, Mem.le_refl _, ?_⟩ | fail)
    refine (putId_ok _ _ _ _ _).mono ?_
    rintro v M1 (⟨hne, -⟩ | ⟨-, a1, c1, rfl, hN⟩)
    · exact absurd h1 hne
    repeat' ((conv => whnf); first | refine ⟨?_, True.intro⟩ | refine brn_t rfl ?_ | refine brn_f rfl ?_ | refine ob rfl ?_ | refine ob (by decide) ?_ | refine grow_same (Mem.le_refl _) ?_ | refine ob (Mem.le_refl _) ?_ | refine ⟨_, Mem.le_refl _, ?_⟩ | fail)
    refine new (fun b9 hb9 => ?_)
    replace hb9 : M1 b9 = none := hb9
    have hle := hN.le
    rw [conv_byte]
    have hN9 : NewSl M1 T.uint8 1 (some ⟨b9, 0, none⟩) 1 1 ([byteOf 3].map byteV) _ := NewSl.lit hb9 T.uint8 1 1 [byteV (byteOf 3)] rfl
    (conv => whnf)
    refine srcv (hN.src.le hN9.le) ?_
    (conv => whnf); refine appN _ _ hN9 (by first | omega | (dsimp only; omega)) (by simp [maxLen] <;> omega) (bytes_one _) fun a2 c2 M2 hN2 => ?_
    repeat' ((conv => whnf); first | refine ⟨?_, True.intro⟩ | refine brn_t rfl ?_ | refine brn_f rfl ?_ | refine ob rfl ?_ | refine ob (by decide) ?_ | refine grow_same (Mem.le_refl _) ?_ | refine ob (Mem.le_refl _) ?_ | refine ⟨_, Mem.le_refl _, ?_⟩ | fail)
    refine ⟨a2, c2, by rw [← hlen, g1], ?_⟩
    rw [← hlen, e, eb]
    exact NewSl.mono (by simpa using hN2) hle
  · have eb : evBytes ⟨4, i, p⟩ = byteOf 4 :: idBytes i.o i.d i.e i.c := rfl
    have hlen : 1 + 6 = (putEvD ⟨4, i, p⟩).length := by rw [e, eb, List.length_cons, idBytes_len]
    obtain ⟨h1, h2⟩ := evErr_rest g1 (by dsimp only; omega)
    repeat' ((conv => whnf); first | refine ⟨?_, True.intro⟩ | refine brn_t rfl ?_ | refine brn_f rfl ?_ | refine ob rfl ?_ | refine ob (by decide) ?_ | refine grow_same (Mem.le_refl _) ?_ | refine ob (Mem.le_refl _) ?_ | refine ⟨_, Mem.le_refl _, ?_⟩ | fail)
    refine (putId_ok _ _ _ _ _).mono ?_
    rintro v M1 (⟨hne, -⟩ | ⟨-, a1, c1, rfl, hN⟩)
    · exact absurd h1 hne
    repeat' ((conv => whnf); first | refine ⟨?_, True.intro⟩ | refine brn_t rfl ?_ | refine brn_f rfl ?_ | refine ob rfl ?_ | refine ob (by decide) ?_ | refine grow_same (Mem.le_refl _) ?_ | refine ob (Mem.le_refl _) ?_ | refine ⟨_, Mem.le_refl _, ?_⟩ | fail)
    refine new (fun b9 hb9 => ?_)
    replace hb9 : M1 b9 = none := hb9
    have hle := hN.le
    rw [conv_byte]
    have hN9 : NewSl M1 T.uint8 1 (some ⟨b9, 0, none⟩) 1 1 ([byteOf 4].map byteV) _ := NewSl.lit hb9 T.uint8 1 1 [byteV (byteOf 4)] rfl
    (conv => whnf)
    refine srcv (hN.src.le hN9.le) ?_
    (conv => whnf); refine appN _ _ hN9 (by first | omega | (dsimp only; omega)) (by simp [maxLen] <;> omega) (bytes_one _) fun a2 c2 M2 hN2 => ?_
    repeat' ((conv => whnf); first | refine ⟨?_, True.intro⟩ | refine brn_t rfl ?_ | refine brn_f rfl ?_ | refine ob rfl ?_ | refine ob (by decide) ?_ | refine grow_same (Mem.le_refl _) ?_ | refine ob (Mem.le_refl _) ?_ | refine ⟨_, Mem.le_refl _, ?_⟩ | fail)
    refine ⟨a2, c2, by rw [← hlen, g1], ?_⟩
    rw [← hlen, e, eb]
    exact NewSl.mono (by simpa using hN2) hle
theorem putEvR_ok (x : EvX) {a : Option Addr} {c : Nat} (hl : SrcOk M 1 a x.p.length (x.p.map byteV)) : CallsM Try.prog F.ref15_PutEv [evV x.kind x.id a x.p.length c] M (PutOut x M) := by
  obtain ⟨k, i, p⟩ := x
  dsimp only at hl ⊢
  refine fo_ref15_PutEv (by simp) ?_
  repeat' ((conv => whnf); first | refine ⟨?_, True.intro⟩ | refine brn_t rfl ?_ | refine brn_f rfl ?_ | refine ob rfl ?_ | refine ob (by decide) ?_ | refine grow_same (Mem.le_refl _) ?_ | refine ob (Mem.le_refl _) ?_ | refine ⟨_, Mem.le_refl _, ?_⟩ | fail)
  refine (formR_ok k i a p.length c).mono ?_
  rintro v _ ⟨rfl, rfl⟩
  (conv => whnf); refine brn (fun g => ?_) (fun g => ?_)
  · have g1 : ¬ formD k i p.length = 0 := by simpa using g
    have e : putEvD ⟨k, i, p⟩ = [] := by unfold putEvD evErr; rw [if_neg g1]
    repeat' ((conv => whnf); first | refine ⟨?_, True.intro⟩ | refine brn_t rfl ?_ | refine brn_f rfl ?_ | refine ob rfl ?_ | refine ob (by decide) ?_ | refine grow_same (Mem.le_refl _) ?_ | refine ob (Mem.le_refl _) ?_ | refine ⟨_, Mem.le_refl _, ?_⟩ | fail)
    refine (formR_ok k i a p.length c).mono ?_
    rintro v _ ⟨rfl, rfl⟩
    repeat' ((conv => whnf); first | refine ⟨?_, True.intro⟩ | refine brn_t rfl ?_ | refine brn_f rfl ?_ | refine ob rfl ?_ | refine ob (by decide) ?_ | refine grow_same (Mem.le_refl _) ?_ | refine ob (Mem.le_refl _) ?_ | refine ⟨_, Mem.le_refl _, ?_⟩ | fail)
    refine ⟨none, 0, ?_, ?_⟩
    · rw [e]; rfl
    · rw [e]; exact NewSl.none _ _ _
  have g0 : formD k i p.length = 0 := by simpa using g
  have g1 : evErr ⟨k, i, p⟩ = 0 := g0
  have e : putEvD ⟨k, i, p⟩ = evBytes ⟨k, i, p⟩ := by unfold putEvD; rw [if_pos g1]
  have hk := evErr_kind g1
  dsimp only at hk
  repeat' ((conv => whnf); first | refine ⟨?_, True.intro⟩ | refine brn_t rfl ?_ | refine brn_f rfl ?_ | refine ob rfl ?_ | refine ob (by decide) ?_ | refine grow_same (Mem.le_refl _) ?_ | refine ob (Mem.le_refl _) ?_ | refine ⟨_, Mem.le_refl _, ?_⟩ | fail)
  refine new (fun b9 hb9 => ?_)
  replace hb9 : M b9 = none := hb9
  rw [conv_byte]
  have hN0 : NewSl M T.uint8 1 (some ⟨b9, 0, none⟩) 1 1 ([byteOf k].map byteV) _ := NewSl.lit hb9 T.uint8 1 1 [byteV (byteOf k)] rfl
  obtain ⟨M0, hM0⟩ : ∃ M0, M0 = M.setCells b9 T.uint8 [byteV (byteOf k)] := ⟨_, rfl⟩
  rw [← hM0] at hN0
  (conv => whnf)
  erw [← hM0]
  rcases hk with rfl | rfl | rfl | rfl
  · have eb : evBytes ⟨1, i, p⟩ = [byteOf 1] := rfl
    have hlen : 1 + 0 = (putEvD ⟨1, i, p⟩).length := by rw [e, eb]; rfl
    obtain ⟨h1, -⟩ := evErr_one g1 rfl
    dsimp only at h1
    repeat' ((conv => whnf); first | refine ⟨?_, True.intro⟩ | refine brn_t rfl ?_ | refine brn_f rfl ?_ | refine ob rfl ?_ | refine ob (by decide) ?_ | refine grow_same (Mem.le_refl _) ?_ | refine ob (Mem.le_refl _) ?_ | refine ⟨_, Mem.le_refl _, ?_⟩ | fail)
    refine (putIdR_ok _ _ _ _ _).mono ?_
    rintro v M1 (⟨-, rfl, rfl⟩ | ⟨hz, -⟩)
    rotate_left
    · have := idErr_all hz
      unfold zeroId at h1
      omega
    have hN9 := hN0
    repeat' ((conv => whnf); first | refine ⟨?_, True.intro⟩ | refine brn_t rfl ?_ | refine brn_f rfl ?_ | refine ob rfl ?_ | refine ob (by decide) ?_ | refine grow_same (Mem.le_refl _) ?_ | refine ob (Mem.le_refl _) ?_ | refine ⟨_, Mem.le_refl _, ?_⟩ | fail)
    refine srcv (vs := ([] : List UInt8).map byteV) (SrcOk.nil _ _) ?_
    (conv => whnf); refine appN _ _ hN9 (by first | omega | (dsimp only; omega)) (by simp [maxLen] <;> omega) (bytes_one _) fun a2 c2 M2 hN2 => ?_
    repeat' ((conv => whnf); first | refine ⟨?_, True.intro⟩ | refine brn_t rfl ?_ | refine brn_f rfl ?_ | refine ob rfl ?_ | refine ob (by decide) ?_ | refine grow_same (Mem.le_refl _) ?_ | refine ob (Mem.le_refl _) ?_ | refine ⟨_, Mem.le_refl _, ?_⟩ | fail)
    refine ⟨a2, c2, by rw [← hlen, g1], ?_⟩
    rw [← hlen, e, eb]
    simpa using hN2
  · obtain ⟨h1, h2, h3⟩ := evErr_two g1 rfl
    dsimp only at h1 h2 h3
    have eb : evBytes ⟨2, i, p⟩ = byteOf 2 :: (idBytes i.o i.d i.e i.c ++ p) := rfl
    have hlen : 1 + (6 + p.length) = (putEvD ⟨2, i, p⟩).length := by rw [e, eb, List.length_cons, List.length_append, idBytes_len]; omega
    repeat' ((conv => whnf); first | refine ⟨?_, True.intro⟩ | refine brn_t rfl ?_ | refine brn_f rfl ?_ | refine ob rfl ?_ | refine ob (by decide) ?_ | refine grow_same (Mem.le_refl _) ?_ | refine ob (Mem.le_refl _) ?_ | refine ⟨_, Mem.le_refl _, ?_⟩ | fail)
    refine (putMsgR_ok i (hl.le hN0.le) (by unfold formD at g0; rwa [if_neg (by decide), if_pos rfl] at g0)).mono ?_
    rintro v M1 ⟨a1, c1, rfl, hN⟩
    have hN9 := hN0.up hN.le
    repeat' ((conv => whnf); first | refine ⟨?_, True.intro⟩ | refine brn_t rfl ?_ | refine brn_f rfl ?_ | refine ob rfl ?_ | refine ob (by decide) ?_ | refine grow_same (Mem.le_refl _) ?_ | refine ob (Mem.le_refl _) ?_ | refine ⟨_, Mem.le_refl _, ?_⟩ | fail)
    refine srcv hN.src ?_
    (conv => whnf); refine appN _ _ hN9 (by first | omega | (dsimp only; omega)) (by simp [maxLen] <;> omega) (bytes_one _) fun a2 c2 M2 hN2 => ?_
    repeat' ((conv => whnf); first | refine ⟨?_, True.intro⟩ | refine brn_t rfl ?_ | refine brn_f rfl ?_ | refine ob rfl ?_ | refine ob (by decide) ?_ | refine grow_same (Mem.le_refl _) ?_ | refine ob (Mem.le_refl _) ?_ | refine ⟨_, Mem.le_refl _, ?_⟩ | fail)
    refine ⟨a2, c2, by rw [← hlen, g1], ?_⟩
    rw [← hlen, e, eb]
    simpa using hN2
  · have eb : evBytes ⟨3, i, p⟩ = byteOf 3 :: idBytes i.o i.d i.e i.c := rfl
    have hlen : 1 + 6 = (putEvD ⟨3, i, p⟩).length := by rw [e, eb, List.length_cons, idBytes_len]
    obtain ⟨h1, h2⟩ := evErr_rest g1 (by dsimp only; omega)
    repeat' ((conv => whnf); first | refine ⟨?_, True.intro⟩ | refine brn_t rfl ?_ | refine brn_f rfl ?_ | refine ob rfl ?_ | refine ob (by decide) ?_ | refine grow_same (Mem.le_refl _) ?_ | refine ob (Mem.le_refl _) ?_ | refine ⟨_, Mem.le_refl _, ?_⟩ | fail)
    refine (putIdR_ok _ _ _ _ _).mono ?_
    rintro v M1 (⟨hne, -⟩ | ⟨-, a1, c1, rfl, hN⟩)
    · exact absurd h1 hne
    have hN9 := hN0.up hN.le
    repeat' ((conv => whnf); first | refine ⟨?_, True.intro⟩ | refine brn_t rfl ?_ | refine brn_f rfl ?_ | refine ob rfl ?_ | refine ob (by decide) ?_ | refine grow_same (Mem.le_refl _) ?_ | refine ob (Mem.le_refl _) ?_ | refine ⟨_, Mem.le_refl _, ?_⟩ | fail)
    refine srcv hN.src ?_
    (conv => whnf); refine appN _ _ hN9 (by first | omega | (dsimp only; omega)) (by simp [maxLen] <;> omega) (bytes_one _) fun a2 c2 M2 hN2 => ?_
    repeat' ((conv => whnf); first | refine ⟨?_, True.intro⟩ | refine brn_t rfl ?_ | refine brn_f rfl ?_ | refine ob rfl ?_ | refine ob (by decide) ?_ | refine grow_same (Mem.le_refl _) ?_ | refine ob (Mem.le_refl _) ?_ | refine ⟨_, Mem.le_refl _, ?_⟩ | fail)
    refine ⟨a2, c2, by rw [← hlen, g1], ?_⟩
    rw [← hlen, e, eb]
    simpa using hN2
  · have eb : evBytes ⟨4, i, p⟩ = byteOf 4 :: idBytes i.o i.d i.e i.c := rfl
    have hlen : 1 + 6 = (putEvD ⟨4, i, p⟩).length := by rw [e, eb, List.length_cons, idBytes_len]
    obtain ⟨h1, h2⟩ := evErr_rest g1 (by dsimp only; omega)
    repeat' ((conv => whnf); first | refine ⟨?_, True.intro⟩ | refine brn_t rfl ?_ | refine brn_f rfl ?_ | refine ob rfl ?_ | refine ob (by decide) ?_ | refine grow_same (Mem.le_refl _) ?_ | refine ob (Mem.le_refl _) ?_ | refine ⟨_, Mem.le_refl _, ?_⟩ | fail)
    refine (putIdR_ok _ _ _ _ _).mono ?_
    rintro v M1 (⟨hne, -⟩ | ⟨-, a1, c1, rfl, hN⟩)
    · exact absurd h1 hne
    have hN9 := hN0.up hN.le
    repeat' ((conv => whnf); first | refine ⟨?_, True.intro⟩ | refine brn_t rfl ?_ | refine brn_f rfl ?_ | refine ob rfl ?_ | refine ob (by decide) ?_ | refine grow_same (Mem.le_refl _) ?_ | refine ob (Mem.le_refl _) ?_ | refine ⟨_, Mem.le_refl _, ?_⟩ | fail)
    refine srcv hN.src ?_
    (conv => whnf); refine appN _ _ hN9 (by first | omega | (dsimp only; omega)) (by simp [maxLen] <;> omega) (bytes_one _) fun a2 c2 M2 hN2 => ?_
    repeat' ((conv => whnf); first | refine ⟨?_, True.intro⟩ | refine brn_t rfl ?_ | refine brn_f rfl ?_ | refine ob rfl ?_ | refine ob (by decide) ?_ | refine grow_same (Mem.le_refl _) ?_ | refine ob (Mem.le_refl _) ?_ | refine ⟨_, Mem.le_refl _, ?_⟩ | fail)
    refine ⟨a2, c2, by rw [← hlen, g1], ?_⟩
    rw [← hlen, e, eb]
    simpa using hN2
end Go.Proofs.Ytlocjjponfbhmaa

