/- What bytes say is the word of which they are. -/
import Derived.Test.YthlleljdahkgpaaGetD
namespace Go.Proofs.Ythlleljdahkgpaa
open Go Go.Vm
attribute [local irreducible] Brn Ob CallsM inR LoopVC Mem.row Mem.cells Mem.setCells Mem.upd Own AppVC SrcVC StrVC NextVC New SrcOk subA NewSl Mem.textAt Mem.mapAt Mem.iterAt entryOf kfind Wr NewEls Elems
set_option maxRecDepth 10000
theorem Word.bytes4 {x : Word} (h : x.kind = 4) : x.bytes = byteOf x.kind :: x.costs.map byteOf := by
  unfold Word.bytes W.bytes
  rw [if_pos (show (x.w none 0 none 0).kind = 4 from h)]
  rfl
theorem Word.bytesN {x : Word} (h : x.kind ≠ 4) : x.bytes = byteOf x.kind :: (two x.n ++ idBytes x.id.o x.id.d x.id.e x.id.c ++ x.data) := by
  unfold Word.bytes W.bytes
  rw [if_neg (show (x.w none 0 none 0).kind ≠ 4 from h)]
  rfl
theorem getIdErr_zero {l : List UInt8} (h : getIdErr l = 0) : l.length = 6 ∧ (idOf l).err = 0 := by
  unfold getIdErr at h
  split at h
  · cases h
  · split at h
    · cases h
    · rename_i h1 h2; exact ⟨by simpa using h1, by simpa using h2⟩
theorem getIdErr_of {l : List UInt8} (h1 : l.length = 6) (h2 : (idOf l).err = 0) : getIdErr l = 0 := by
  unfold getIdErr
  rw [if_neg (by omega), if_neg (by simp [h2])]
theorem getMsgErr_zero {l : List UInt8} (h : getMsgErr l = 0) : (7 ≤ l.length ∧ l.length ≤ 54) ∧ getIdErr (l.take 6) = 0 := by
  unfold getMsgErr at h
  split at h
  · cases h
  · split at h
    · cases h
    · split at h
      · cases h
      · rename_i h1 h2 h3; exact ⟨by omega, by simpa using h2⟩
theorem map_byteOf (l : List UInt8) : (l.map fun b => (b.toNat : Int)).map byteOf = l := by
  rw [List.map_map]
  conv => rhs; rw [← List.map_id l]
  apply List.map_congr_left
  intro b _
  exact toNat_byteOf b
theorem map_toNat {l : List Int} (h : l.all cost = true) : (l.map byteOf).map (fun b => (b.toNat : Int)) = l := by
  rw [List.map_map]
  conv => rhs; rw [← List.map_id l]
  apply List.map_congr_left
  intro b hb
  have := List.all_eq_true.1 h b hb
  simp only [cost, decide_eq_true_eq] at this
  exact byteOf_toNat (by omega)
theorem parse_bytes {l : List UInt8} {x : Word} (h : parse l = some x) : x.err = 0 ∧ x.bytes = l := by
  unfold parse at h
  split at h
  · cases h
  · rename_i hc
    simp only [not_or, ne_eq, Classical.not_not] at hc
    obtain ⟨hne, h2, h3⟩ := hc
    cases h
    refine ⟨h3, ?_⟩
    match l, hne with
    | a :: r, _ =>
      have ha := a.toNat_lt
      have hd : (a :: r).getD 0 0 = a := rfl
      unfold said at h2 ⊢
      simp only [hd] at h2 ⊢
      split
      · rename_i h4
        rw [Word.bytes4 rfl]
        simp only [List.drop_succ_cons, List.drop_zero]
        rw [map_byteOf, ← h4, toNat_byteOf]
      · rename_i h4
        rw [if_neg h4] at h2
        split
        · rename_i h5; rw [if_pos h5] at h2; cases h2
        · rename_i h5
          rw [if_neg h5] at h2
          match r, h5 with
          | [], h5 => simp at h5
          | [b], h5 => simp at h5
          | b :: c :: r, _ =>
            have hnum : getNum (a :: b :: c :: r) 1 2 = num [b, c] 0 := rfl
            simp only [List.drop_succ_cons, List.drop_zero] at h2 ⊢
            split
            · rename_i h6
              rw [if_pos h6] at h2
              obtain ⟨h7, h8⟩ := getMsgErr_zero h2
              have hm : getMsg r = ⟨idOf (r.take 6), r.drop 6⟩ := by rw [getMsg, if_pos h2]
              rw [Word.bytesN (by simp), hm]
              simp only [hnum]
              rw [two_num, idBytes_of (getIdErr_zero h8).1, ← h6, toNat_byteOf]
              simp
            · rename_i h6
              rw [if_neg h6] at h2
              have hm : getId r = idOf r := by rw [getId, if_pos h2]
              rw [Word.bytesN (by simpa using h4), hm]
              simp only [hnum]
              rw [two_num, idBytes_of (getIdErr_zero h2).1, toNat_byteOf]
              simp
theorem bytes_parse {l : List UInt8} {x : Word} (h : x.err = 0) (hb : x.bytes = l) : parse l = some x := by
  obtain ⟨hr, h4, hn4, hk1, hkn⟩ := x.zero h
  have hkb : ((byteOf x.kind).toNat : Int) = x.kind := byteOf_toNat (by omega)
  have key : said l = (x, 0) → parse l = some x := fun hs => by
    unfold parse
    have hne : l ≠ [] := by
      rw [← hb]
      by_cases hk : x.kind = 4
      · rw [Word.bytes4 hk]; simp
      · rw [Word.bytesN hk]; simp
    rw [hs, if_neg (by simp [hne, h])]
  apply key
  by_cases hk : x.kind = 4
  · obtain ⟨⟨hc, hcl⟩, hi, hd, hn⟩ := h4 hk
    rw [Word.bytes4 hk] at hb
    rw [← hb]
    unfold said
    have hd0 : (byteOf x.kind :: x.costs.map byteOf).getD 0 0 = byteOf x.kind := rfl
    simp only [hd0, hkb, hk, if_true, List.drop_succ_cons, List.drop_zero]
    rw [map_toNat hc]
    obtain ⟨kind, n, id, data, costs⟩ := x
    simp only at hk hi hd hn
    subst hk hi hd hn
    rfl
  · obtain ⟨hid, hcosts⟩ := hn4 hk
    rw [Word.bytesN hk] at hb
    obtain ⟨q1, q2⟩ := idOf_bytes hid
    rw [← hb]
    unfold said
    have hd0 : (byteOf x.kind :: (two x.n ++ idBytes x.id.o x.id.d x.id.e x.id.c ++ x.data)).getD 0 0 = byteOf x.kind := rfl
    have hd3 : (byteOf x.kind :: (two x.n ++ idBytes x.id.o x.id.d x.id.e x.id.c ++ x.data)).drop 3 = idBytes x.id.o x.id.d x.id.e x.id.c ++ x.data := rfl
    have hnum : (getNum (byteOf x.kind :: (two x.n ++ idBytes x.id.o x.id.d x.id.e x.id.c ++ x.data)) 1 2 : Int) = x.n := by
      have : getNum (byteOf x.kind :: (two x.n ++ idBytes x.id.o x.id.d x.id.e x.id.c ++ x.data)) 1 2 = num (two x.n) 0 := rfl
      rw [this]; exact num_twoOf (by omega)
    simp only [hd0, hkb, hd3, hnum]
    rw [if_neg hk, if_neg (by simp [two])]
    have htake : (idBytes x.id.o x.id.d x.id.e x.id.c ++ x.data).take 6 = idBytes x.id.o x.id.d x.id.e x.id.c := by rw [← q2]; simp
    have hdrop : (idBytes x.id.o x.id.d x.id.e x.id.c ++ x.data).drop 6 = x.data := by rw [← q2]; simp
    have hge : getIdErr (idBytes x.id.o x.id.d x.id.e x.id.c) = 0 := getIdErr_of q2 (by rw [q1]; exact hid)
    by_cases hk' : x.kind = 1
    · rw [if_pos hk']
      have := hk1 hk'
      have hme : getMsgErr (idBytes x.id.o x.id.d x.id.e x.id.c ++ x.data) = 0 := by
        unfold getMsgErr
        rw [if_neg (by simp [q2]), htake, if_neg (by simp [hge]), if_neg (by rw [List.length_append, q2]; omega)]
      rw [getMsg, hme, if_pos rfl, htake, hdrop, q1]
      obtain ⟨kind, n, id, data, costs⟩ := x
      simp only at hk' hcosts
      subst hk' hcosts
      rfl
    · rw [if_neg hk']
      have hdata := hkn hk'
      rw [hdata, List.append_nil, getId, hge, if_pos rfl, q1]
      obtain ⟨kind, n, id, data, costs⟩ := x
      simp only at hdata hcosts
      subst hdata hcosts
      rfl
theorem parse_none {l : List UInt8} (h : parse l = none) (x : Word) (hx : x.err = 0) : x.bytes ≠ l := fun hb => by
  rw [bytes_parse hx hb] at h; cases h
end Go.Proofs.Ythlleljdahkgpaa
