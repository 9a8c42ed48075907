/- The resolved texts of the functions; made by program. -/
import Derived.Test.YtlocjjponfbhmaaGreatNames
namespace Go.Proofs.YtlocjjponfbhmaaGreat
open Go.Vm Go.Vm.S
/-- portage/portagelaw15.StorePlays -/
def k_law15_StorePlays (i : Nat) : List Nat := match i with | 0 => [0, 4] | 1 => [14, 15, 16, 17, 18, 19, 20, 21] | 2 => [2, 22, 23, 24, 25, 26, 27, 28, 29] | 3 => [6, 30, 31, 32, 33, 34, 35, 36, 37, 38] | 5 => [8, 40] | 6 => [42] | 7 => [43, 44] | 9 => [45, 46, 47] | 11 => [51, 52, 53, 54, 55] | 12 => [56, 57, 58, 59, 60, 61, 62, 63, 64] | 13 => [11, 65] | 14 => [12, 66, 67, 68, 69] | 17 => [71, 72, 73, 74, 75] | 19 => [79, 80, 81, 82, 83, 84, 85, 86, 87, 88, 89, 90] | 18 => [77, 78] | 20 => [91, 92, 93] | 10 => [49, 50] | 22 => [95] | _ => []
def c_law15_StorePlays : RCode :=
 .seq (.ops [o 2 (.box 25 (t 0)),
 mv 4 (kb false)] [0, 4])
 (.seq (.ops [fa 15 0 (t 2),
 l1 16 (t 15),
 fa 17 1 (t 2),
 la 18 3 (t 17),
 ca 19 F.store_New [(t 16), (t 18)],
 mv 14 (t 19),
 ex 20 (t 14) 0,
 ex 21 (t 14) 1,
 mv 5 (t 20),
 mv 6 (t 21)] [14, 15, 16, 17, 18, 19, 20, 21])
 (.seq (.ops [fa 23 0 (t 2),
 l1 24 (t 23),
 fa 25 1 (t 2),
 la 26 3 (t 25),
 ca 27 F.ref15_New [(t 24), (t 26)],
 mv 22 (t 27),
 ex 28 (t 22) 0,
 ex 29 (t 22) 1,
 o 7 (.alloc 37 [(i 0), (i 0), (i 0), (i 0), (i 0), sn, sn, (i 0), sn]),
 st 9 (t 7) (t 28),
 mv 8 (t 29)] [2, 22, 23, 24, 25, 26, 27, 28, 29])
 (.seq (.seq (.ops [mv 30 (t 6),
 mv 31 (t 8),
 o 32 (.ibin .neq (t 30) (t 31)),
 os 33 (.mov (t 32)),
 gf 33 34 (.mov (t 5)),
 gf 33 35 (.pnil .eql (t 34) (.const (.pointer none))),
 gf 33 36 (.mov (t 8)),
 gf 33 37 (.ibin .neq (t 36) (k 0)),
 gf 33 38 (.bbin .neq (t 35) (t 37)),
 o 39 (.pick (t 33) (kb true) (t 38))] [6, 30, 31, 32, 33, 34, 35, 36, 37, 38])
 (.cond (t 39)
  (.seq (.ops [mv 4 (kb false)] [])
  (.ret))
  (.skip)))
 (.seq (.seq (.ops [mv 40 (t 8),
 o 41 (.ibin .neq (t 40) (k 0))] [8, 40])
 (.cond (t 41)
  (.seq (.ops [ca 42 F.law15_awake [],
  mv 4 (t 42)] [42])
  (.ret))
  (.skip)))
 (.seq (.ops [mv 43 (t 1),
 ca 44 F.law15_cut [(t 43)],
 mv 1 (t 44)] [43, 44])
 (.seq (.seq (.ops [mv 9 (k 0)] [])
 (.block 0 (.loop (.seq (.seq (.ops [mv 45 (t 9),
  mv 46 (t 1),
  o 47 (.len (t 46)),
  o 48 (.ibin .lss (t 45) (t 47))] [45, 46, 47])
  (.cond (t 48)
   (.skip)
   (.exit 0)))
  (.seq (.block 1 (.seq (.ops [mv 51 (t 1),
  mv 52 (t 9),
  o 53 (.iaddr 6 (t 51) (t 52)),
  la 54 6 (t 53),
  ca 55 F.law15_copied [(t 54)],
  o 10 (.alloc 48 [(i 0), (i 0), (i 0), (i 0), (i 0), sn]),
  st 6 (t 10) (t 55)] [51, 52, 53, 54, 55])
  (.seq (.draw (.take (la 57 9 (t 7)) (.take (mv 58 (t 1)) (.take (mv 59 (t 9)) (.take (o 60 (.iaddr 6 (t 58) (t 59))) (.take (la 61 6 (t 60)) (.alt (ca 62 F.ref15_Apply [(t 57), (t 61)]) false
   (.take (mv 56 (t 62)) (.take (ex 63 (t 56) 0) (.take (ex 64 (t 56) 1) (.alt (o 11 (.alloc 37 [(i 0), (i 0), (i 0), (i 0), (i 0), sn, sn, (i 0), sn])) false
    (.alt (st 9 (t 11) (t 63)) false
     (.take (mv 12 (t 64)) (.done))
     (.none))
    (.none)))))
   (.alt (o 11 (.alloc 37 [(i 0), (i 0), (i 0), (i 0), (i 0), sn, sn, (i 0), sn])) false
    (.alt (ca 62 F.ref15_Apply [(t 57), (t 61)]) false
     (.take (mv 56 (t 62)) (.take (ex 63 (t 56) 0) (.take (ex 64 (t 56) 1) (.alt (st 9 (t 11) (t 63)) false
      (.take (mv 12 (t 64)) (.done))
      (.none)))))
     (.none))
    (.none)))))))) [56, 57, 58, 59, 60, 61, 62, 63, 64])
  (.seq (.ops [la 65 9 (t 11),
  st 9 (t 7) (t 65)] [11, 65])
  (.seq (.seq (.ops [mv 66 (t 5),
  la 67 6 (t 10),
  ca 68 F.store_Store_Apply [(t 66), (t 67)],
  mv 69 (t 12),
  o 70 (.ibin .neq (t 68) (t 69))] [12, 66, 67, 68, 69])
  (.cond (t 70)
   (.seq (.ops [mv 4 (kb false)] [])
   (.ret))
   (.skip)))
  (.seq (.seq (.ops [mv 13 (k 0)] [])
  (.block 2 (.loop (.seq (.seq (.ops [mv 71 (t 13),
   fa 72 1 (t 10),
   fa 73 4 (t 72),
   l1 74 (t 73),
   o 75 (.len (t 74)),
   o 76 (.ibin .lss (t 71) (t 75))] [71, 72, 73, 74, 75])
   (.cond (t 76)
    (.skip)
    (.exit 2)))
   (.seq (.block 3 (.draw (.take (fa 79 1 (t 10)) (.take (fa 80 4 (t 79)) (.take (l1 81 (t 80)) (.take (mv 82 (t 13)) (.take (fa 83 1 (t 10)) (.take (fa 84 4 (t 83)) (.take (l1 85 (t 84)) (.take (mv 86 (t 13)) (.take (o 87 (.iaddr 1 (t 85) (t 86))) (.take (l1 88 (t 87)) (.take (o 89 (.ibin .sub (.const (u 255)) (t 88))) (.take (o 90 (.iaddr 1 (t 81) (t 82))) (.alt (st 1 (t 90) (t 89)) false
    (.done)
    (.none)))))))))))))) [79, 80, 81, 82, 83, 84, 85, 86, 87, 88, 89, 90]))
   (.ops [mv 77 (t 13),
   ad 78 (t 77) (k 1),
   mv 13 (t 78)] [77, 78]))))))
  (.seq (.ops [mv 91 (t 5),
  la 92 9 (t 7),
  ca 93 F.law15_told [(t 91), (t 92)],
  o 94 (.not (t 93))] [91, 92, 93])
  (.cond (t 94)
   (.seq (.ops [mv 4 (kb false)] [])
   (.ret))
   (.skip)))))))))
  (.ops [mv 49 (t 9),
  ad 50 (t 49) (k 1),
  mv 9 (t 50)] [49, 50]))))))
 (.seq (.ops [ca 95 F.law15_awake [],
 mv 4 (t 95)] [95])
 (.ret))))))))
def r_law15_StorePlays : List RRes := [.tmp 4]
theorem fo_law15_StorePlays {args : List Value} {M : Mem} {R : Value → Mem → Prop} (hn : args.length ≤ 96) (h : vfn Tryz.prog c_law15_StorePlays r_law15_StorePlays args M R) : CallsM Tryz.prog F.law15_StorePlays args M R :=
  fn_ok (kf := k_law15_StorePlays) Tryz.func3 (by kernel_rfl) (by kernel_rfl) hn (by kernel_rfl) h
/-- portage/portagelaw15.StoreMays -/
def k_law15_StoreMays (i : Nat) : List Nat := match i with | 0 => [0, 2, 6] | 1 => [1, 3, 16, 17, 18, 19, 20, 21, 22] | 2 => [9, 23] | 3 => [7, 25, 26, 27, 28, 29] | 4 => [30, 31] | 6 => [32, 33, 34] | 9 => [38, 39, 40, 41, 42, 43, 44] | 11 => [48, 49, 50, 51, 52, 53, 54, 55, 56, 57, 58, 59, 60, 61, 62, 63] | 10 => [46, 47] | 12 => [64, 65, 66, 67] | 7 => [36, 37] | 13 => [68, 69] | 15 => [70, 71, 72, 73] | 17 => [77, 78, 79, 80, 81] | 16 => [75, 76] | 18 => [82, 83, 84] | 19 => [85, 86, 87] | 21 => [5, 7, 8, 15, 89, 90, 91, 92, 93, 94, 95, 96, 97, 98, 99, 100, 101, 102, 103, 104, 105] | _ => []
def c_law15_StoreMays : RCode :=
 .seq (.ops [o 3 (.box 25 (t 0)),
 o 5 (.box 48 (t 2)),
 mv 6 (kb false)] [0, 2, 6])
 (.seq (.ops [la 17 4 (t 3),
 mv 18 (t 1),
 ca 19 F.law15_done [(t 17), (t 18)],
 mv 16 (t 19),
 ex 20 (t 16) 0,
 ex 21 (t 16) 1,
 ex 22 (t 16) 2,
 o 8 (.alloc 37 [(i 0), (i 0), (i 0), (i 0), (i 0), sn, sn, (i 0), sn]),
 mv 7 (t 20),
 st 9 (t 8) (t 21),
 mv 9 (t 22)] [1, 3, 16, 17, 18, 19, 20, 21, 22])
 (.seq (.seq (.ops [mv 23 (t 9),
 o 24 (.not (t 23))] [9, 23])
 (.cond (t 24)
  (.seq (.ops [mv 25 (t 7),
  o 26 (.pnil .eql (t 25) (.const (.pointer none))),
  os 27 (.mov (t 26)),
  gt 27 28 (.call (fn F.law15_awake) []),
  o 29 (.pick (t 27) (t 28) (kb false)),
  mv 6 (t 29)] [7, 25, 26, 27, 28, 29])
  (.ret))
  (.skip)))
 (.seq (.ops [mv 30 (t 7),
 ca 31 F.store_Store_Held [(t 30)],
 mv 10 (t 31)] [30, 31])
 (.seq (.seq (.ops [mv 11 (k 0)] [])
 (.block 0 (.loop (.seq (.seq (.ops [mv 32 (t 11),
  mv 33 (t 10),
  o 34 (.len (t 33)),
  o 35 (.ibin .lss (t 32) (t 34))] [32, 33, 34])
  (.cond (t 35)
   (.skip)
   (.exit 0)))
  (.seq (.block 1 (.seq (.seq (.ops [mv 12 (k 0)] [])
  (.block 2 (.loop (.seq (.seq (.ops [mv 38 (t 12),
   mv 39 (t 10),
   mv 40 (t 11),
   o 41 (.iaddr 5 (t 39) (t 40)),
   fa 42 4 (t 41),
   l1 43 (t 42),
   o 44 (.len (t 43)),
   o 45 (.ibin .lss (t 38) (t 44))] [38, 39, 40, 41, 42, 43, 44])
   (.cond (t 45)
    (.skip)
    (.exit 2)))
   (.seq (.block 3 (.draw (.take (mv 48 (t 10)) (.take (mv 49 (t 11)) (.take (o 50 (.iaddr 5 (t 48) (t 49))) (.take (fa 51 4 (t 50)) (.take (l1 52 (t 51)) (.take (mv 53 (t 12)) (.take (mv 54 (t 10)) (.take (mv 55 (t 11)) (.take (o 56 (.iaddr 5 (t 54) (t 55))) (.take (fa 57 4 (t 56)) (.take (l1 58 (t 57)) (.take (mv 59 (t 12)) (.take (o 60 (.iaddr 1 (t 58) (t 59))) (.take (l1 61 (t 60)) (.take (o 62 (.ibin .sub (.const (u 255)) (t 61))) (.take (o 63 (.iaddr 1 (t 52) (t 53))) (.alt (st 1 (t 63) (t 62)) false
    (.done)
    (.none)))))))))))))))))) [48, 49, 50, 51, 52, 53, 54, 55, 56, 57, 58, 59, 60, 61, 62, 63]))
   (.ops [mv 46 (t 12),
   ad 47 (t 46) (k 1),
   mv 12 (t 47)] [46, 47]))))))
  (.ops [mv 64 (t 10),
  mv 65 (t 11),
  o 66 (.build [(i 0), (i 0), (i 0), (i 0), sn] []),
  o 67 (.iaddr 5 (t 64) (t 65)),
  st 5 (t 67) (t 66)] [64, 65, 66, 67])))
  (.ops [mv 36 (t 11),
  ad 37 (t 36) (k 1),
  mv 11 (t 37)] [36, 37]))))))
 (.seq (.ops [mv 68 (t 7),
 ca 69 F.store_Store_State [(t 68)],
 o 13 (.alloc 59 [(i 0), (i 0), sn, sn, sn]),
 st 5 (t 13) (t 69)] [68, 69])
 (.seq (.seq (.ops [mv 14 (k 0)] [])
 (.block 4 (.loop (.seq (.seq (.ops [mv 70 (t 14),
  fa 71 2 (t 13),
  l1 72 (t 71),
  o 73 (.len (t 72)),
  o 74 (.ibin .lss (t 70) (t 73))] [70, 71, 72, 73])
  (.cond (t 74)
   (.skip)
   (.exit 4)))
  (.seq (.block 5 (.ops [fa 77 2 (t 13),
  l1 78 (t 77),
  mv 79 (t 14),
  o 80 (.iaddr 2 (t 78) (t 79)),
  fa 81 1 (t 80),
  st 1 (t 81) (k 77)] [77, 78, 79, 80, 81]))
  (.ops [mv 75 (t 14),
  ad 76 (t 75) (k 1),
  mv 14 (t 76)] [75, 76]))))))
 (.seq (.ops [mv 82 (t 7),
 la 83 6 (t 5),
 ca 84 F.store_Store_May [(t 82), (t 83)],
 mv 15 (t 84)] [82, 83, 84])
 (.seq (.seq (.ops [mv 85 (t 7),
 la 86 9 (t 8),
 ca 87 F.law15_told [(t 85), (t 86)],
 o 88 (.not (t 87))] [85, 86, 87])
 (.cond (t 88)
  (.seq (.ops [mv 6 (kb false)] [])
  (.ret))
  (.skip)))
 (.seq (.ops [mv 89 (t 7),
 la 90 6 (t 5),
 ca 91 F.store_Store_Apply [(t 89), (t 90)],
 mv 92 (t 15),
 o 93 (.ibin .eql (t 91) (t 92)),
 os 94 (.mov (t 93)),
 gt 94 95 (.mov (t 15)),
 gt 94 96 (.ibin .eql (t 95) (k 0)),
 ⟨(some 97), .mov (t 96), some (94, true), true⟩,
 gf 97 98 (.mov (t 7)),
 gf 97 99 (.load true 9 (t 8)),
 gf 97 100 (.call (fn F.law15_told) [(t 98), (t 99)]),
 gt 94 101 (.pick (t 97) (kb true) (t 100)),
 o 102 (.pick (t 94) (t 101) (kb false)),
 os 103 (.mov (t 102)),
 gt 103 104 (.call (fn F.law15_awake) []),
 o 105 (.pick (t 103) (t 104) (kb false)),
 mv 6 (t 105)] [5, 7, 8, 15, 89, 90, 91, 92, 93, 94, 95, 96, 97, 98, 99, 100, 101, 102, 103, 104, 105])
 (.ret))))))))))
def r_law15_StoreMays : List RRes := [.tmp 6]
theorem fo_law15_StoreMays {args : List Value} {M : Mem} {R : Value → Mem → Prop} (hn : args.length ≤ 106) (h : vfn Tryz.prog c_law15_StoreMays r_law15_StoreMays args M R) : CallsM Tryz.prog F.law15_StoreMays args M R :=
  fn_ok (kf := k_law15_StoreMays) Tryz.func4 (by kernel_rfl) (by kernel_rfl) hn (by kernel_rfl) h
/-- portage/portagelaw15.StoreGoes -/
def k_law15_StoreGoes (i : Nat) : List Nat := match i with | 0 => [0, 6] | 1 => [1, 15, 16, 17, 18, 19, 20, 21] | 2 => [9, 22] | 3 => [7, 24, 25, 26, 27, 28] | 4 => [3, 29, 30, 31, 32, 33, 34, 35, 36] | 5 => [11, 37, 38, 39, 40, 41] | 7 => [43, 44] | 9 => [45, 46, 47] | 11 => [51, 52, 53, 54, 55, 56, 57, 58, 59] | 12 => [13, 60] | 13 => [14, 61, 62, 63, 64, 65, 66, 67, 68, 69, 70, 71, 72, 73, 74, 75, 76, 77] | 10 => [49, 50] | 15 => [7, 8, 10, 79, 80, 81, 82, 83, 84, 85, 86, 87, 88, 89] | _ => []
def c_law15_StoreGoes : RCode :=
 .seq (.ops [o 3 (.box 25 (t 0)),
 mv 6 (kb false)] [0, 6])
 (.seq (.ops [la 16 4 (t 3),
 mv 17 (t 1),
 ca 18 F.law15_done [(t 16), (t 17)],
 mv 15 (t 18),
 ex 19 (t 15) 0,
 ex 20 (t 15) 1,
 ex 21 (t 15) 2,
 o 8 (.alloc 37 [(i 0), (i 0), (i 0), (i 0), (i 0), sn, sn, (i 0), sn]),
 mv 7 (t 19),
 st 9 (t 8) (t 20),
 mv 9 (t 21)] [1, 15, 16, 17, 18, 19, 20, 21])
 (.seq (.seq (.ops [mv 22 (t 9),
 o 23 (.not (t 22))] [9, 22])
 (.cond (t 23)
  (.seq (.ops [mv 24 (t 7),
  o 25 (.pnil .eql (t 24) (.const (.pointer none))),
  os 26 (.mov (t 25)),
  gt 26 27 (.call (fn F.law15_awake) []),
  o 28 (.pick (t 26) (t 27) (kb false)),
  mv 6 (t 28)] [7, 24, 25, 26, 27, 28])
  (.ret))
  (.skip)))
 (.seq (.draw (.take (fa 30 1 (t 3)) (.take (la 31 3 (t 30)) (.take (mv 32 (t 7)) (.alt (ca 33 F.store_Store_State [(t 32)]) true
  (.alt (ca 34 F.store_From [(t 31), (t 33)]) false
   (.take (mv 29 (t 34)) (.take (ex 35 (t 29) 0) (.take (ex 36 (t 29) 1) (.take (mv 10 (t 35)) (.take (mv 11 (t 36)) (.done))))))
   (.none))
  (.none))))) [3, 29, 30, 31, 32, 33, 34, 35, 36])
 (.seq (.seq (.ops [mv 37 (t 11),
 o 38 (.ibin .neq (t 37) (k 0)),
 os 39 (.mov (t 38)),
 gf 39 40 (.mov (t 10)),
 gf 39 41 (.pnil .eql (t 40) (.const (.pointer none))),
 o 42 (.pick (t 39) (kb true) (t 41))] [11, 37, 38, 39, 40, 41])
 (.cond (t 42)
  (.seq (.ops [mv 6 (kb false)] [])
  (.ret))
  (.skip)))
 (.seq (.ops [mv 43 (t 2),
 ca 44 F.law15_cut [(t 43)],
 mv 2 (t 44)] [43, 44])
 (.seq (.seq (.ops [mv 12 (k 0)] [])
 (.block 0 (.loop (.seq (.seq (.ops [mv 45 (t 12),
  mv 46 (t 2),
  o 47 (.len (t 46)),
  o 48 (.ibin .lss (t 45) (t 47))] [45, 46, 47])
  (.cond (t 48)
   (.skip)
   (.exit 0)))
  (.seq (.block 1 (.seq (.draw (.take (la 52 9 (t 8)) (.take (mv 53 (t 2)) (.take (mv 54 (t 12)) (.take (o 55 (.iaddr 6 (t 53) (t 54))) (.take (la 56 6 (t 55)) (.alt (ca 57 F.ref15_Apply [(t 52), (t 56)]) false
   (.take (mv 51 (t 57)) (.take (ex 58 (t 51) 0) (.take (ex 59 (t 51) 1) (.alt (o 13 (.alloc 37 [(i 0), (i 0), (i 0), (i 0), (i 0), sn, sn, (i 0), sn])) false
    (.alt (st 9 (t 13) (t 58)) false
     (.take (mv 14 (t 59)) (.done))
     (.none))
    (.none)))))
   (.alt (o 13 (.alloc 37 [(i 0), (i 0), (i 0), (i 0), (i 0), sn, sn, (i 0), sn])) false
    (.alt (ca 57 F.ref15_Apply [(t 52), (t 56)]) false
     (.take (mv 51 (t 57)) (.take (ex 58 (t 51) 0) (.take (ex 59 (t 51) 1) (.alt (st 9 (t 13) (t 58)) false
      (.take (mv 14 (t 59)) (.done))
      (.none)))))
     (.none))
    (.none)))))))) [51, 52, 53, 54, 55, 56, 57, 58, 59])
  (.seq (.ops [la 60 9 (t 13),
  st 9 (t 8) (t 60)] [13, 60])
  (.seq (.ops [mv 61 (t 7),
  mv 62 (t 2),
  mv 63 (t 12),
  o 64 (.iaddr 6 (t 62) (t 63)),
  la 65 6 (t 64),
  ca 66 F.store_Store_Apply [(t 61), (t 65)],
  mv 67 (t 14),
  o 68 (.ibin .neq (t 66) (t 67)),
  os 69 (.mov (t 68)),
  gf 69 70 (.mov (t 10)),
  gf 69 71 (.mov (t 2)),
  gf 69 72 (.mov (t 12)),
  gf 69 73 (.iaddr 6 (t 71) (t 72)),
  gf 69 74 (.load true 6 (t 73)),
  gf 69 75 (.call (fn F.store_Store_Apply) [(t 70), (t 74)]),
  gf 69 76 (.mov (t 14)),
  gf 69 77 (.ibin .neq (t 75) (t 76)),
  o 78 (.pick (t 69) (kb true) (t 77))] [14, 61, 62, 63, 64, 65, 66, 67, 68, 69, 70, 71, 72, 73, 74, 75, 76, 77])
  (.cond (t 78)
   (.seq (.ops [mv 6 (kb false)] [])
   (.ret))
   (.skip))))))
  (.ops [mv 49 (t 12),
  ad 50 (t 49) (k 1),
  mv 12 (t 50)] [49, 50]))))))
 (.seq (.ops [mv 79 (t 7),
 la 80 9 (t 8),
 ca 81 F.law15_told [(t 79), (t 80)],
 os 82 (.mov (t 81)),
 gt 82 83 (.mov (t 10)),
 gt 82 84 (.load true 9 (t 8)),
 gt 82 85 (.call (fn F.law15_told) [(t 83), (t 84)]),
 o 86 (.pick (t 82) (t 85) (kb false)),
 os 87 (.mov (t 86)),
 gt 87 88 (.call (fn F.law15_awake) []),
 o 89 (.pick (t 87) (t 88) (kb false)),
 mv 6 (t 89)] [7, 8, 10, 79, 80, 81, 82, 83, 84, 85, 86, 87, 88, 89])
 (.ret))))))))
def r_law15_StoreGoes : List RRes := [.tmp 6]
theorem fo_law15_StoreGoes {args : List Value} {M : Mem} {R : Value → Mem → Prop} (hn : args.length ≤ 90) (h : vfn Tryz.prog c_law15_StoreGoes r_law15_StoreGoes args M R) : CallsM Tryz.prog F.law15_StoreGoes args M R :=
  fn_ok (kf := k_law15_StoreGoes) Tryz.func5 (by kernel_rfl) (by kernel_rfl) hn (by kernel_rfl) h
/-- portage/store.New -/
def k_store_New (i : Nat) : List Nat := match i with | 0 => [1, 4, 5] | 1 => [8, 9, 10, 11, 12, 13, 14, 15, 16, 17, 18, 19, 20, 21, 22, 23, 24, 25, 26, 27] | 3 => [7, 29, 30, 31, 32, 33, 34] | 4 => [0, 3, 6, 35, 36, 37, 38, 39, 40] | _ => []
def c_store_New : RCode :=
 .seq (.ops [o 3 (.box 23 (t 1)),
 mv 4 (.const (.pointer none)),
 mv 5 (k 0)] [1, 4, 5])
 (.seq (.seq (.ops [mv 8 (t 0),
 ca 9 F.store_in [(t 8), (k 63)],
 o 10 (.not (t 9)),
 os 11 (.mov (t 10)),
 gf 11 12 (.faddr 0 (t 3)),
 gf 11 13 (.load false 1 (t 12)),
 gf 11 14 (.call (fn F.store_in) [(t 13), (k 256)]),
 gf 11 15 (.not (t 14)),
 o 16 (.pick (t 11) (kb true) (t 15)),
 os 17 (.mov (t 16)),
 gf 17 18 (.faddr 1 (t 3)),
 gf 17 19 (.load false 1 (t 18)),
 gf 17 20 (.call (fn F.store_in) [(t 19), (k 1048576)]),
 gf 17 21 (.not (t 20)),
 o 22 (.pick (t 17) (kb true) (t 21)),
 os 23 (.mov (t 22)),
 gf 23 24 (.faddr 2 (t 3)),
 gf 23 25 (.load false 1 (t 24)),
 gf 23 26 (.call (fn F.store_in) [(t 25), (k 256)]),
 gf 23 27 (.not (t 26)),
 o 28 (.pick (t 23) (kb true) (t 27))] [8, 9, 10, 11, 12, 13, 14, 15, 16, 17, 18, 19, 20, 21, 22, 23, 24, 25, 26, 27])
 (.cond (t 28)
  (.seq (.ops [mv 4 (.const (.pointer none)),
  mv 5 (k 1)] [])
  (.ret))
  (.skip)))
 (.seq (.ops [fa 30 2 (t 3),
 l1 31 (t 30),
 ca 32 F.seen_New [(t 31)],
 mv 29 (t 32),
 ex 33 (t 29) 0,
 ex 34 (t 29) 1,
 mv 6 (t 33),
 mv 7 (t 34)] [7, 29, 30, 31, 32, 33, 34])
 (.seq (.ops [mv 35 (t 0),
 la 36 3 (t 3),
 o 37 (.mkMap),
 mv 38 (t 6),
 o 39 (.build [(i 0), (i 0), (i 0), (i 0), (i 0), (i 0), (i 0), (i 0), (i 0), (i 0), (i 0), (i 0), (i 0), (i 0), (i 0), (i 0), (i 0), (i 0), (i 0), (i 0), (i 0), (i 0), (i 0), (i 0), (i 0), (i 0), (i 0), (i 0), (i 0), (i 0), (i 0), (i 0), (i 0), (i 0), (i 0), (i 0), (i 0), (i 0), (i 0), (i 0), (i 0), (i 0), (i 0), (i 0), (i 0), (i 0), (i 0), (i 0), (i 0), (i 0), (i 0), (i 0), (i 0), (i 0), (i 0), (i 0), (i 0), (i 0), (i 0), (i 0), (i 0), (i 0), (i 0), (i 0), (i 0), (i 0), (i 0), (i 0), (i 0), (.map none), (i 0), (i 0), (.pointer none)] [(0, 1, (t 35)), (1, 3, (t 36)), (69, 1, (t 37)), (72, 1, (t 38))]),
 o 40 (.box 73 (t 39)),
 mv 4 (t 40),
 mv 5 (k 0)] [0, 3, 6, 35, 36, 37, 38, 39, 40])
 (.ret))))
def r_store_New : List RRes := [.tmp 4, .tmp 5]
theorem fo_store_New {args : List Value} {M : Mem} {R : Value → Mem → Prop} (hn : args.length ≤ 41) (h : vfn Tryz.prog c_store_New r_store_New args M R) : CallsM Tryz.prog F.store_New args M R :=
  fn_ok (kf := k_store_New) Tryz.func6 (by kernel_rfl) (by kernel_rfl) hn (by kernel_rfl) h
/-- portage/portageref15.New -/
def k_ref15_New (i : Nat) : List Nat := match i with | 0 => [1, 5] | 1 => [6, 7, 8, 9, 10, 11, 12, 13, 14, 15, 16, 17, 18, 19, 20, 21, 22, 23, 24, 25] | 2 => [27] | 3 => [0, 3, 28, 29, 30, 31, 32, 33] | _ => []
def c_ref15_New : RCode :=
 .seq (.ops [o 3 (.box 23 (t 1)),
 o 4 (.alloc 37 [(i 0), (i 0), (i 0), (i 0), (i 0), sn, sn, (i 0), sn]),
 mv 5 (k 0)] [1, 5])
 (.seq (.seq (.ops [mv 6 (t 0),
 ca 7 F.ref15_number [(t 6), (k 63)],
 o 8 (.not (t 7)),
 os 9 (.mov (t 8)),
 gf 9 10 (.faddr 0 (t 3)),
 gf 9 11 (.load false 1 (t 10)),
 gf 9 12 (.call (fn F.ref15_number) [(t 11), (k 256)]),
 gf 9 13 (.not (t 12)),
 o 14 (.pick (t 9) (kb true) (t 13)),
 os 15 (.mov (t 14)),
 gf 15 16 (.faddr 1 (t 3)),
 gf 15 17 (.load false 1 (t 16)),
 gf 15 18 (.call (fn F.ref15_number) [(t 17), (k 1048576)]),
 gf 15 19 (.not (t 18)),
 o 20 (.pick (t 15) (kb true) (t 19)),
 os 21 (.mov (t 20)),
 gf 21 22 (.faddr 2 (t 3)),
 gf 21 23 (.load false 1 (t 22)),
 gf 21 24 (.call (fn F.ref15_number) [(t 23), (k 256)]),
 gf 21 25 (.not (t 24)),
 o 26 (.pick (t 21) (kb true) (t 25))] [6, 7, 8, 9, 10, 11, 12, 13, 14, 15, 16, 17, 18, 19, 20, 21, 22, 23, 24, 25])
 (.cond (t 26)
  (.seq (.ops [o 27 (.build [(i 0), (i 0), (i 0), (i 0), (i 0), sn, sn, (i 0), sn] []),
  st 9 (t 4) (t 27),
  mv 5 (k 1)] [27])
  (.ret))
  (.skip)))
 (.seq (.ops [mv 28 (t 0),
 la 29 3 (t 3),
 fa 30 2 (t 3),
 l1 31 (t 30),
 o 32 (.build [(i 0), sn] [(0, 1, (t 31))]),
 o 33 (.build [(i 0), (i 0), (i 0), (i 0), (i 0), sn, sn, (i 0), sn] [(0, 1, (t 28)), (1, 3, (t 29)), (7, 2, (t 32))]),
 st 9 (t 4) (t 33),
 mv 5 (k 0)] [0, 3, 28, 29, 30, 31, 32, 33])
 (.ret)))
def r_ref15_New : List RRes := [.cell true 9 4, .tmp 5]
theorem fo_ref15_New {args : List Value} {M : Mem} {R : Value → Mem → Prop} (hn : args.length ≤ 34) (h : vfn Tryz.prog c_ref15_New r_ref15_New args M R) : CallsM Tryz.prog F.ref15_New args M R :=
  fn_ok (kf := k_ref15_New) Tryz.func7 (by kernel_rfl) (by kernel_rfl) hn (by kernel_rfl) h
/-- portage/portagelaw15.awake -/
def k_law15_awake (i : Nat) : List Nat := match i with | 0 => [0] | 1 => [8, 9, 10, 11, 12] | 2 => [2, 13, 14, 15, 16, 17, 18, 19, 20, 21, 22, 23] | 4 => [25, 26, 27, 28, 29] | 5 => [30, 31, 32, 33, 34, 35, 36] | 6 => [1, 37, 38, 39, 40, 41, 42] | 7 => [3, 4, 5, 6, 7, 43, 44, 45, 46, 47, 48, 49, 50, 51, 52, 53, 54, 55, 56, 57, 58, 59, 60, 61, 62] | _ => []
def c_law15_awake : RCode :=
 .seq (.ops [mv 0 (kb false)] [0])
 (.seq (.ops [ca 9 F.law15_quota [],
 ca 10 F.store_New [(k 1), (t 9)],
 mv 8 (t 10),
 ex 11 (t 8) 0,
 ex 12 (t 8) 1,
 mv 1 (t 11),
 mv 2 (t 12)] [8, 9, 10, 11, 12])
 (.seq (.seq (.ops [mv 13 (t 2),
 o 14 (.ibin .neq (t 13) (k 0)),
 os 15 (.mov (t 14)),
 gf 15 16 (.mov (t 1)),
 gf 15 17 (.pnil .eql (t 16) (.const (.pointer none))),
 o 18 (.pick (t 15) (kb true) (t 17)),
 os 19 (.mov (t 18)),
 gf 19 20 (.mov (t 1)),
 gf 19 21 (.build [(i 0), (i 0), (i 0), (i 0), (i 0), sn] [(0, 1, (k 1))]),
 gf 19 22 (.call (fn F.store_Store_Apply) [(t 20), (t 21)]),
 gf 19 23 (.ibin .neq (t 22) (k 0)),
 o 24 (.pick (t 19) (kb true) (t 23))] [2, 13, 14, 15, 16, 17, 18, 19, 20, 21, 22, 23])
 (.cond (t 24)
  (.seq (.ops [mv 0 (kb false)] [])
  (.ret))
  (.skip)))
 (.seq (.ops [mv 26 (t 1),
 ca 27 F.store_Store_Fresh [(t 26), (k 2)],
 mv 25 (t 27),
 ex 28 (t 25) 0,
 ex 29 (t 25) 1,
 o 3 (.alloc 43 [(i 0), (i 0), (i 0), (i 0)]),
 st 4 (t 3) (t 28),
 mv 4 (t 29)] [25, 26, 27, 28, 29])
 (.seq (.ops [mv 30 (t 1),
 la 31 4 (t 3),
 o 32 (.mkSl false 5 1 [(u 0)] [(0, 1, (.const (u 97)))]),
 o 33 (.strish (t 32)),
 o 34 (.build [(i 0), (i 0), (i 0), (i 0), sn] [(0, 4, (t 31)), (4, 1, (t 33))]),
 o 35 (.build [(i 0), (i 0), (i 0), (i 0), (i 0), sn] [(0, 1, (k 2)), (1, 5, (t 34))]),
 ca 36 F.store_Store_Apply [(t 30), (t 35)],
 mv 5 (t 36)] [30, 31, 32, 33, 34, 35, 36])
 (.seq (.ops [mv 38 (t 1),
 la 39 4 (t 3),
 ca 40 F.store_Store_Find [(t 38), (t 39)],
 mv 37 (t 40),
 ex 41 (t 37) 0,
 ex 42 (t 37) 1,
 o 6 (.alloc 46 [(i 0), (i 0), (i 0), (i 0), sn]),
 st 5 (t 6) (t 41),
 mv 7 (t 42)] [1, 37, 38, 39, 40, 41, 42])
 (.seq (.ops [mv 43 (t 4),
 o 44 (.ibin .eql (t 43) (k 0)),
 os 45 (.mov (t 44)),
 gt 45 46 (.mov (t 5)),
 gt 45 47 (.ibin .eql (t 46) (k 0)),
 o 48 (.pick (t 45) (t 47) (kb false)),
 os 49 (.mov (t 48)),
 gt 49 50 (.mov (t 7)),
 o 51 (.pick (t 49) (t 50) (kb false)),
 os 52 (.mov (t 51)),
 gt 52 53 (.faddr 4 (t 6)),
 gt 52 54 (.load false 1 (t 53)),
 gt 52 55 (.strOf (t 54)),
 gt 52 56 (.strE .eql (t 55) (.const (.string ⟨#[97]⟩))),
 o 57 (.pick (t 52) (t 56) (kb false)),
 os 58 (.mov (t 57)),
 gt 58 59 (.load true 4 (t 3)),
 gt 58 60 (.build [(i 0), (i 0), (i 0), (i 0)] [(0, 1, (k 1)), (1, 1, (k 2)), (2, 1, (k 1)), (3, 1, (k 1))]),
 gt 58 61 (.aeq .eql 4 (t 59) (t 60)),
 o 62 (.pick (t 58) (t 61) (kb false)),
 mv 0 (t 62)] [3, 4, 5, 6, 7, 43, 44, 45, 46, 47, 48, 49, 50, 51, 52, 53, 54, 55, 56, 57, 58, 59, 60, 61, 62])
 (.ret)))))))
def r_law15_awake : List RRes := [.tmp 0]
theorem fo_law15_awake {args : List Value} {M : Mem} {R : Value → Mem → Prop} (hn : args.length ≤ 63) (h : vfn Tryz.prog c_law15_awake r_law15_awake args M R) : CallsM Tryz.prog F.law15_awake args M R :=
  fn_ok (kf := k_law15_awake) Tryz.func8 (by kernel_rfl) (by kernel_rfl) hn (by kernel_rfl) h
/-- portage/portagelaw15.cut -/
def k_law15_cut (i : Nat) : List Nat := match i with | 0 => [2] | 1 => [3, 4] | 2 => [0, 6, 7] | 3 => [0, 8] | _ => []
def c_law15_cut : RCode :=
 .seq (.ops [mv 2 (.const sn)] [2])
 (.seq (.seq (.ops [mv 3 (t 0),
 o 4 (.len (t 3)),
 o 5 (.ibin .gtr (t 4) (k 50))] [3, 4])
 (.cond (t 5)
  (.seq (.ops [mv 6 (t 0),
  o 7 (.slx 6 (t 6) none (some (k 50))),
  mv 2 (t 7)] [0, 6, 7])
  (.ret))
  (.skip)))
 (.seq (.ops [mv 8 (t 0),
 mv 2 (t 8)] [0, 8])
 (.ret)))
def r_law15_cut : List RRes := [.tmp 2]
theorem fo_law15_cut {args : List Value} {M : Mem} {R : Value → Mem → Prop} (hn : args.length ≤ 9) (h : vfn Tryz.prog c_law15_cut r_law15_cut args M R) : CallsM Tryz.prog F.law15_cut args M R :=
  fn_ok (kf := k_law15_cut) Tryz.func9 (by kernel_rfl) (by kernel_rfl) hn (by kernel_rfl) h
/-- portage/portagelaw15.copied -/
def k_law15_copied (i : Nat) : List Nat := match i with | 0 => [0] | 1 => [1, 3, 4, 5, 6, 7, 8, 9, 10, 11, 12, 13, 14] | _ => []
def c_law15_copied : RCode :=
 .seq (.ops [o 1 (.box 48 (t 0)),
 o 2 (.alloc 48 [(i 0), (i 0), (i 0), (i 0), (i 0), sn])] [0])
 (.seq (.draw (.take (fa 3 0 (t 1)) (.take (l1 4 (t 3)) (.take (fa 5 1 (t 1)) (.take (fa 6 0 (t 5)) (.take (la 7 4 (t 6)) (.take (fa 9 1 (t 1)) (.take (fa 10 4 (t 9)) (.take (l1 11 (t 10)) (.alt (o 8 (.mkSl false 5 0 [] [])) false
  (.alt (o 12 (.app 5 1 1 [(u 0)] (t 8) (t 11))) true
   (.take (o 13 (.build [(i 0), (i 0), (i 0), (i 0), sn] [(0, 4, (t 7)), (4, 1, (t 12))])) (.take (o 14 (.build [(i 0), (i 0), (i 0), (i 0), (i 0), sn] [(0, 1, (t 4)), (1, 5, (t 13))])) (.alt (st 6 (t 2) (t 14)) false
    (.done)
    (.none))))
   (.none))
  (.none)))))))))) [1, 3, 4, 5, 6, 7, 8, 9, 10, 11, 12, 13, 14])
 (.ret))
def r_law15_copied : List RRes := [.cell true 6 2]
theorem fo_law15_copied {args : List Value} {M : Mem} {R : Value → Mem → Prop} (hn : args.length ≤ 15) (h : vfn Tryz.prog c_law15_copied r_law15_copied args M R) : CallsM Tryz.prog F.law15_copied args M R :=
  fn_ok (kf := k_law15_copied) Tryz.func10 (by kernel_rfl) (by kernel_rfl) hn (by kernel_rfl) h
/-- portage/portageref15.Apply -/
def k_ref15_Apply (i : Nat) : List Nat := match i with | 0 => [0, 1, 5] | 1 => [8, 9, 10] | 2 => [2, 3, 12, 13, 14, 15] | 3 => [16, 17, 18] | 4 => [19] | 5 => [22] | 6 => [23, 24, 25, 26] | 7 => [27] | 8 => [29] | 9 => [30, 31, 32, 33] | 10 => [3, 7, 34, 35, 36, 37, 38, 39, 40, 41, 42, 43, 44] | 11 => [45, 46, 47, 48, 49, 50, 51, 52, 53, 54, 55, 56, 57, 58, 59, 60, 61, 62, 63, 64] | 12 => [6, 66, 67, 68, 69, 70, 71, 72, 73, 74] | 13 => [76] | 14 => [6, 77, 78, 79, 80, 81] | 15 => [20, 83] | 16 => [6, 84, 85, 86, 87, 88, 89, 90, 91] | 17 => [2, 92] | _ => []
def c_ref15_Apply : RCode :=
 .seq (.ops [o 2 (.box 37 (t 0)),
 o 3 (.box 48 (t 1)),
 o 4 (.alloc 37 [(i 0), (i 0), (i 0), (i 0), (i 0), sn, sn, (i 0), sn]),
 mv 5 (k 0)] [0, 1, 5])
 (.seq (.seq (.ops [la 8 9 (t 2),
 la 9 6 (t 3),
 ca 10 F.ref15_May [(t 8), (t 9)],
 o 11 (.ibin .neq (t 10) (k 0))] [8, 9, 10])
 (.cond (t 11)
  (.seq (.draw (.take (la 12 9 (t 2)) (.take (la 13 9 (t 2)) (.take (la 14 6 (t 3)) (.alt (ca 15 F.ref15_May [(t 13), (t 14)]) true
   (.alt (st 9 (t 4) (t 12)) false
    (.take (mv 5 (t 15)) (.done))
    (.none))
   (.none))))) [2, 3, 12, 13, 14, 15])
  (.ret))
  (.skip)))
 (.seq (.ops [fa 16 1 (t 3),
 fa 17 0 (t 16),
 la 18 4 (t 17),
 o 6 (.alloc 43 [(i 0), (i 0), (i 0), (i 0)]),
 st 4 (t 6) (t 18)] [16, 17, 18])
 (.seq (.seq (.ops [fa 19 0 (t 3),
 l1 20 (t 19)] [19])
 (.block 0 (.seq (.ops [o 22 (.ibin .eql (t 20) (k 1)),
 mv 21 (t 22)] [22])
 (.cond (t 21)
  (.seq (.ops [fa 23 4 (t 2),
  l1 24 (t 23),
  ad 25 (t 24) (k 1),
  fa 26 4 (t 2),
  st 1 (t 26) (t 25)] [23, 24, 25, 26])
  (.ops [fa 27 5 (t 2),
  st 1 (t 27) (.const sn)] [27]))
  (.seq (.ops [o 29 (.ibin .eql (t 20) (k 2)),
  mv 28 (t 29)] [29])
  (.cond (t 28)
   (.seq (.ops [o 30 (.mkSl false 46 0 [] []),
   fa 31 6 (t 2),
   l1 32 (t 31),
   o 33 (.app 46 5 56 [(i 0), (i 0), (i 0), (i 0), sn] (t 30) (t 32)),
   mv 7 (t 33)] [30, 31, 32, 33])
   (.seq (.draw (.take (mv 34 (t 7)) (.take (la 35 4 (t 6)) (.take (fa 37 1 (t 3)) (.take (fa 38 4 (t 37)) (.take (l1 39 (t 38)) (.alt (o 36 (.mkSl false 5 0 [] [])) false
    (.alt (o 40 (.app 5 1 1 [(u 0)] (t 36) (t 39))) true
     (.take (o 41 (.build [(i 0), (i 0), (i 0), (i 0), sn] [(0, 4, (t 35)), (4, 1, (t 40))])) (.alt (o 42 (.mkSl true 46 1 [(i 0), (i 0), (i 0), (i 0), sn] [(0, 5, (t 41))])) false
      (.alt (o 43 (.app 46 5 56 [(i 0), (i 0), (i 0), (i 0), sn] (t 34) (t 42))) false
       (.take (fa 44 6 (t 2)) (.alt (st 1 (t 44) (t 43)) false
        (.done)
        (.none)))
       (.none))
      (.none)))
     (.none))
    (.none))))))) [3, 7, 34, 35, 36, 37, 38, 39, 40, 41, 42, 43, 44])
   (.seq (.draw (.take (fa 45 0 (t 6)) (.take (l1 46 (t 45)) (.take (fa 47 0 (t 2)) (.take (l1 48 (t 47)) (.take (o 49 (.ibin .eql (t 46) (t 48))) (.take (os 50 (.mov (t 49))) (.take (gt 50 51 (.faddr 2 (t 6))) (.take (gt 50 52 (.load false 1 (t 51))) (.take (gt 50 53 (.faddr 4 (t 2))) (.take (gt 50 54 (.load false 1 (t 53))) (.take (gt 50 55 (.ibin .eql (t 52) (t 54))) (.take (o 56 (.pick (t 50) (t 55) (kb false))) (.take (os 57 (.mov (t 56))) (.take (gt 57 58 (.faddr 3 (t 6))) (.take (gt 57 59 (.load false 1 (t 58))) (.take (gt 57 60 (.load true 9 (t 2))) (.take (gt 57 61 (.faddr 1 (t 6))) (.take (gt 57 62 (.load false 1 (t 61))) (.alt (gt 57 63 (.call (fn F.ref15_Last) [(t 60), (t 62)])) true
    (.take (gt 57 64 (.ibin .gtr (t 59) (t 63))) (.take (o 65 (.pick (t 57) (t 64) (kb false))) (.done)))
    (.none)))))))))))))))))))) [45, 46, 47, 48, 49, 50, 51, 52, 53, 54, 55, 56, 57, 58, 59, 60, 61, 62, 63, 64])
   (.cond (t 65)
    (.ops [fa 66 5 (t 2),
    l1 67 (t 66),
    fa 68 1 (t 6),
    l1 69 (t 68),
    fa 70 3 (t 6),
    l1 71 (t 70),
    o 72 (.build [(i 0), (i 0)] [(0, 1, (t 69)), (1, 1, (t 71))]),
    ca 73 F.ref15_use [(t 67), (t 72)],
    fa 74 5 (t 2),
    st 1 (t 74) (t 73)] [6, 66, 67, 68, 69, 70, 71, 72, 73, 74])
    (.skip)))))
   (.seq (.ops [o 76 (.ibin .eql (t 20) (k 3)),
   mv 75 (t 76)] [76])
   (.cond (t 75)
    (.ops [fa 77 6 (t 2),
    l1 78 (t 77),
    la 79 4 (t 6),
    ca 80 F.ref15_without [(t 78), (t 79)],
    fa 81 6 (t 2),
    st 1 (t 81) (t 80)] [6, 77, 78, 79, 80, 81])
    (.seq (.ops [o 83 (.ibin .eql (t 20) (k 4)),
    mv 82 (t 83)] [20, 83])
    (.cond (t 82)
     (.ops [fa 85 7 (t 2),
     la 86 2 (t 85),
     la 87 4 (t 6),
     ca 88 F.ref14_Add [(t 86), (t 87)],
     mv 84 (t 88),
     ex 89 (t 84) 0,
     ex 90 (t 84) 1,
     fa 91 7 (t 2),
     st 2 (t 91) (t 89)] [6, 84, 85, 86, 87, 88, 89, 90, 91])
     (.skip)))))))))))
 (.seq (.ops [la 92 9 (t 2),
 st 9 (t 4) (t 92),
 mv 5 (k 0)] [2, 92])
 (.ret)))))
def r_ref15_Apply : List RRes := [.cell true 9 4, .tmp 5]
theorem fo_ref15_Apply {args : List Value} {M : Mem} {R : Value → Mem → Prop} (hn : args.length ≤ 93) (h : vfn Tryz.prog c_ref15_Apply r_ref15_Apply args M R) : CallsM Tryz.prog F.ref15_Apply args M R :=
  fn_ok (kf := k_ref15_Apply) Tryz.func11 (by kernel_rfl) (by kernel_rfl) hn (by kernel_rfl) h
/-- (*portage/store.Store).Apply -/
def k_store_Store_Apply (i : Nat) : List Nat := match i with | 0 => [1, 4] | 1 => [7, 8, 9] | 2 => [10] | 3 => [5, 12] | 4 => [13, 14, 15] | 5 => [16] | 7 => [25] | 8 => [26, 27, 28, 29, 30, 31, 32] | 9 => [0, 33, 34, 35, 36] | 10 => [38] | 11 => [39, 40, 41, 42, 43, 44, 45, 46, 47, 48, 49, 50, 51, 52, 53, 54, 55] | 12 => [56, 57, 58, 59, 60, 61, 62] | 13 => [3, 63, 64, 65, 66, 67, 68, 69, 70, 71, 72, 73] | 14 => [74, 75, 76, 77, 78, 79, 80, 81, 82, 83, 84, 85, 86, 87, 88] | 15 => [0, 6, 90, 91, 92, 93, 94, 95, 96, 97, 98, 99, 100, 101, 102, 103, 104, 105] | 16 => [17, 107] | 17 => [108, 109, 110, 111, 112, 113, 114, 115, 116, 117, 118, 119, 120, 121, 122, 123] | 18 => [0, 6, 124, 125, 126, 127, 128] | 6 => [0, 6, 18, 19, 20, 21, 22, 23] | _ => []
def c_store_Store_Apply : RCode :=
 .seq (.ops [o 3 (.box 48 (t 1)),
 mv 4 (k 0)] [1, 4])
 (.seq (.seq (.ops [mv 7 (t 0),
 la 8 6 (t 3),
 ca 9 F.store_Store_May [(t 7), (t 8)],
 mv 5 (t 9)] [7, 8, 9])
 (.seq (.ops [mv 10 (t 5),
 o 11 (.ibin .neq (t 10) (k 0))] [10])
 (.cond (t 11)
  (.seq (.ops [mv 12 (t 5),
  mv 4 (t 12)] [5, 12])
  (.ret))
  (.skip))))
 (.seq (.ops [fa 13 1 (t 3),
 fa 14 0 (t 13),
 la 15 4 (t 14),
 o 6 (.alloc 43 [(i 0), (i 0), (i 0), (i 0)]),
 st 4 (t 6) (t 15)] [13, 14, 15])
 (.seq (.seq (.ops [fa 16 0 (t 3),
 l1 17 (t 16)] [16])
 (.block 0 (.seq (.ops [o 25 (.ibin .eql (t 17) (k 1)),
 mv 24 (t 25)] [25])
 (.cond (t 24)
  (.seq (.ops [mv 26 (t 0),
  o 27 (.nilck (t 26)),
  fa 28 4 (t 27),
  l1 29 (t 28),
  ad 30 (t 29) (k 1),
  o 31 (.nilck (t 26)),
  fa 32 4 (t 31),
  st 1 (t 32) (t 30)] [26, 27, 28, 29, 30, 31, 32])
  (.ops [mv 33 (t 0),
  o 34 (.build [(i 0), (i 0), (i 0), (i 0), (i 0), (i 0), (i 0), (i 0), (i 0), (i 0), (i 0), (i 0), (i 0), (i 0), (i 0), (i 0), (i 0), (i 0), (i 0), (i 0), (i 0), (i 0), (i 0), (i 0), (i 0), (i 0), (i 0), (i 0), (i 0), (i 0), (i 0), (i 0), (i 0), (i 0), (i 0), (i 0), (i 0), (i 0), (i 0), (i 0), (i 0), (i 0), (i 0), (i 0), (i 0), (i 0), (i 0), (i 0), (i 0), (i 0), (i 0), (i 0), (i 0), (i 0), (i 0), (i 0), (i 0), (i 0), (i 0), (i 0), (i 0), (i 0), (i 0), (i 0)] []),
  o 35 (.nilck (t 33)),
  fa 36 5 (t 35),
  st 64 (t 36) (t 34)] [0, 33, 34, 35, 36]))
  (.seq (.ops [o 38 (.ibin .eql (t 17) (k 2)),
  mv 37 (t 38)] [38])
  (.cond (t 37)
   (.seq (.draw (.take (mv 39 (t 0)) (.take (o 40 (.nilck (t 39))) (.take (fa 41 69 (t 40)) (.take (l1 42 (t 41)) (.take (la 43 4 (t 6)) (.take (la 44 4 (t 6)) (.take (fa 46 1 (t 3)) (.take (fa 47 4 (t 46)) (.take (l1 48 (t 47)) (.take (mv 51 (t 0)) (.take (o 52 (.nilck (t 51))) (.take (fa 53 70 (t 52)) (.take (l1 54 (t 53)) (.alt (o 45 (.mkSl false 5 0 [] [])) false
    (.alt (o 49 (.app 5 1 1 [(u 0)] (t 45) (t 48))) true
     (.take (o 50 (.build [(i 0), (i 0), (i 0), (i 0), sn] [(0, 4, (t 44)), (4, 1, (t 49))])) (.take (o 55 (.build [(i 0), (i 0), (i 0), (i 0), sn, (i 0)] [(0, 5, (t 50)), (5, 1, (t 54))])) (.alt (e (.mset (.agg 4) (t 42) (t 43) (t 55))) false
      (.done)
      (.none))))
     (.none))
    (.none))))))))))))))) [39, 40, 41, 42, 43, 44, 45, 46, 47, 48, 49, 50, 51, 52, 53, 54, 55])
   (.seq (.ops [mv 56 (t 0),
   o 57 (.nilck (t 56)),
   fa 58 70 (t 57),
   l1 59 (t 58),
   ad 60 (t 59) (k 1),
   o 61 (.nilck (t 56)),
   fa 62 70 (t 61),
   st 1 (t 62) (t 60)] [56, 57, 58, 59, 60, 61, 62])
   (.seq (.draw (.take (mv 63 (t 0)) (.take (o 64 (.nilck (t 63))) (.take (fa 65 71 (t 64)) (.take (l1 66 (t 65)) (.take (fa 67 1 (t 3)) (.take (fa 68 4 (t 67)) (.take (l1 69 (t 68)) (.take (o 70 (.len (t 69))) (.take (ad 71 (t 66) (t 70)) (.take (o 72 (.nilck (t 63))) (.take (fa 73 71 (t 72)) (.alt (st 1 (t 73) (t 71)) false
    (.done)
    (.none))))))))))))) [3, 63, 64, 65, 66, 67, 68, 69, 70, 71, 72, 73])
   (.seq (.draw (.take (fa 74 0 (t 6)) (.take (l1 75 (t 74)) (.take (mv 76 (t 0)) (.take (o 77 (.nilck (t 76))) (.take (fa 78 0 (t 77)) (.take (l1 79 (t 78)) (.take (o 80 (.ibin .eql (t 75) (t 79))) (.take (os 81 (.mov (t 80))) (.take (gt 81 82 (.faddr 2 (t 6))) (.take (gt 81 83 (.load false 1 (t 82))) (.take (gt 81 84 (.mov (t 0))) (.take (gt 81 85 (.nilck (t 84))) (.take (gt 81 86 (.faddr 4 (t 85))) (.take (gt 81 87 (.load false 1 (t 86))) (.take (gt 81 88 (.ibin .eql (t 83) (t 87))) (.take (o 89 (.pick (t 81) (t 88) (kb false))) (.done))))))))))))))))) [74, 75, 76, 77, 78, 79, 80, 81, 82, 83, 84, 85, 86, 87, 88])
   (.cond (t 89)
    (.draw (.take (mv 90 (t 0)) (.take (fa 91 1 (t 6)) (.take (l1 92 (t 91)) (.take (mv 93 (t 0)) (.take (fa 94 1 (t 6)) (.take (l1 95 (t 94)) (.take (o 96 (.nilck (t 93))) (.take (fa 97 5 (t 96)) (.take (o 98 (.iaddrA 64 1 (t 97) (t 95))) (.take (l1 99 (t 98)) (.take (fa 100 3 (t 6)) (.take (l1 101 (t 100)) (.take (o 102 (.imm true (t 99) (t 101))) (.take (o 103 (.nilck (t 90))) (.take (fa 104 5 (t 103)) (.take (o 105 (.iaddrA 64 1 (t 104) (t 92))) (.alt (st 1 (t 105) (t 102)) false
     (.done)
     (.none)))))))))))))))))) [0, 6, 90, 91, 92, 93, 94, 95, 96, 97, 98, 99, 100, 101, 102, 103, 104, 105])
    (.skip))))))
   (.seq (.ops [o 107 (.ibin .eql (t 17) (k 3)),
   mv 106 (t 107)] [17, 107])
   (.cond (t 106)
    (.seq (.draw (.take (mv 108 (t 0)) (.take (o 109 (.nilck (t 108))) (.take (fa 110 71 (t 109)) (.take (l1 111 (t 110)) (.take (mv 112 (t 0)) (.take (o 113 (.nilck (t 112))) (.take (fa 114 69 (t 113)) (.take (l1 115 (t 114)) (.take (la 116 4 (t 6)) (.take (o 117 (.mget (.agg 4) false (.agg #[(i 0), (i 0), (i 0), (i 0), sn, (i 0)]) (t 115) (t 116))) (.take (o 118 (.field true 0 5 (t 117))) (.take (o 119 (.field false 4 1 (t 118))) (.take (o 120 (.len (t 119))) (.take (o 121 (.ibin .sub (t 111) (t 120))) (.take (o 122 (.nilck (t 108))) (.take (fa 123 71 (t 122)) (.alt (st 1 (t 123) (t 121)) false
     (.done)
     (.none)))))))))))))))))) [108, 109, 110, 111, 112, 113, 114, 115, 116, 117, 118, 119, 120, 121, 122, 123])
    (.draw (.take (mv 124 (t 0)) (.take (o 125 (.nilck (t 124))) (.take (fa 126 69 (t 125)) (.take (l1 127 (t 126)) (.take (la 128 4 (t 6)) (.alt (e (.mdel (.agg 4) (t 127) (t 128))) false
     (.done)
     (.none))))))) [0, 6, 124, 125, 126, 127, 128]))
    (.draw (.take (mv 18 (t 0)) (.take (o 19 (.nilck (t 18))) (.take (fa 20 72 (t 19)) (.take (l1 21 (t 20)) (.take (la 22 4 (t 6)) (.alt (ca 23 F.seen_Set_Add [(t 21), (t 22)]) false
     (.done)
     (.none))))))) [0, 6, 18, 19, 20, 21, 22, 23])))))))))
 (.seq (.ops [mv 4 (k 0)] [])
 (.ret)))))
def r_store_Store_Apply : List RRes := [.tmp 4]
theorem fo_store_Store_Apply {args : List Value} {M : Mem} {R : Value → Mem → Prop} (hn : args.length ≤ 129) (h : vfn Tryz.prog c_store_Store_Apply r_store_Store_Apply args M R) : CallsM Tryz.prog F.store_Store_Apply args M R :=
  fn_ok (kf := k_store_Store_Apply) Tryz.func12 (by kernel_rfl) (by kernel_rfl) hn (by kernel_rfl) h
/-- portage/portagelaw15.told -/
def k_law15_told (i : Nat) : List Nat := match i with | 0 => [1, 4] | 1 => [0, 3, 5, 6, 7, 8, 9, 10, 11, 12, 13, 14, 15, 16, 17, 18, 19, 20, 21, 22, 23, 24, 25, 26, 27, 28, 29, 30] | _ => []
def c_law15_told : RCode :=
 .seq (.ops [o 3 (.box 37 (t 1)),
 mv 4 (kb false)] [1, 4])
 (.seq (.draw (.take (mv 5 (t 0)) (.take (la 7 9 (t 3)) (.alt (ca 6 F.store_Store_State [(t 5)]) true
  (.alt (ca 8 F.ref15_State [(t 7)]) true
   (.alt (ca 9 F.ref15_SameState [(t 6), (t 8)]) true
    (.take (os 10 (.mov (t 9))) (.take (gt 10 11 (.mov (t 0))) (.take (gt 10 13 (.faddr 6 (t 3))) (.take (gt 10 14 (.load false 1 (t 13))) (.alt (gt 10 12 (.call (fn F.store_Store_Held) [(t 11)])) true
     (.alt (gt 10 15 (.call (fn F.ref13_SameAll) [(t 12), (t 14)])) true
      (.take (o 16 (.pick (t 10) (t 15) (kb false))) (.take (os 17 (.mov (t 16))) (.take (gt 17 18 (.mov (t 0))) (.take (gt 17 20 (.load true 9 (t 3))) (.alt (gt 17 19 (.call (fn F.store_Store_Bytes) [(t 18)])) true
       (.alt (gt 17 21 (.call (fn F.ref15_Bytes) [(t 20)])) true
        (.take (gt 17 22 (.ibin .eql (t 19) (t 21))) (.take (o 23 (.pick (t 17) (t 22) (kb false))) (.take (os 24 (.mov (t 23))) (.take (gt 24 25 (.mov (t 0))) (.take (gt 24 27 (.faddr 4 (t 3))) (.take (gt 24 28 (.load false 1 (t 27))) (.alt (gt 24 26 (.call (fn F.store_Store_Epoch) [(t 25)])) true
         (.take (gt 24 29 (.ibin .eql (t 26) (t 28))) (.take (o 30 (.pick (t 24) (t 29) (kb false))) (.take (mv 4 (t 30)) (.done))))
         (.none))))))))
        (.none))
       (.none))))))
      (.none))
     (.none))))))
    (.none))
   (.none))
  (.none)))) [0, 3, 5, 6, 7, 8, 9, 10, 11, 12, 13, 14, 15, 16, 17, 18, 19, 20, 21, 22, 23, 24, 25, 26, 27, 28, 29, 30])
 (.ret))
def r_law15_told : List RRes := [.tmp 4]
theorem fo_law15_told {args : List Value} {M : Mem} {R : Value → Mem → Prop} (hn : args.length ≤ 31) (h : vfn Tryz.prog c_law15_told r_law15_told args M R) : CallsM Tryz.prog F.law15_told args M R :=
  fn_ok (kf := k_law15_told) Tryz.func13 (by kernel_rfl) (by kernel_rfl) hn (by kernel_rfl) h
/-- portage/portagelaw15.done -/
def k_law15_done (i : Nat) : List Nat := match i with | 0 => [0, 4, 6] | 1 => [12, 13, 14, 15, 16, 17, 18, 19] | 2 => [2, 20, 21, 22, 23, 24, 25, 26, 27] | 3 => [8, 10, 28, 29, 30, 31, 32, 33, 34, 35, 36] | 4 => [7, 9, 38, 39] | 5 => [40, 41] | 7 => [42, 43, 44] | 9 => [48, 49, 50, 51, 52, 53] | 10 => [54, 55, 56, 57, 58, 59, 60, 61, 62] | 8 => [46, 47] | 11 => [7, 9, 63, 64] | _ => []
def c_law15_done : RCode :=
 .seq (.ops [o 2 (.box 25 (t 0)),
 mv 4 (.const (.pointer none)),
 o 5 (.alloc 37 [(i 0), (i 0), (i 0), (i 0), (i 0), sn, sn, (i 0), sn]),
 mv 6 (kb false)] [0, 4, 6])
 (.seq (.ops [fa 13 0 (t 2),
 l1 14 (t 13),
 fa 15 1 (t 2),
 la 16 3 (t 15),
 ca 17 F.store_New [(t 14), (t 16)],
 mv 12 (t 17),
 ex 18 (t 12) 0,
 ex 19 (t 12) 1,
 mv 7 (t 18),
 mv 8 (t 19)] [12, 13, 14, 15, 16, 17, 18, 19])
 (.seq (.ops [fa 21 0 (t 2),
 l1 22 (t 21),
 fa 23 1 (t 2),
 la 24 3 (t 23),
 ca 25 F.ref15_New [(t 22), (t 24)],
 mv 20 (t 25),
 ex 26 (t 20) 0,
 ex 27 (t 20) 1,
 o 9 (.alloc 37 [(i 0), (i 0), (i 0), (i 0), (i 0), sn, sn, (i 0), sn]),
 st 9 (t 9) (t 26),
 mv 10 (t 27)] [2, 20, 21, 22, 23, 24, 25, 26, 27])
 (.seq (.seq (.ops [mv 28 (t 8),
 o 29 (.ibin .neq (t 28) (k 0)),
 os 30 (.mov (t 29)),
 gf 30 31 (.mov (t 10)),
 gf 30 32 (.ibin .neq (t 31) (k 0)),
 o 33 (.pick (t 30) (kb true) (t 32)),
 os 34 (.mov (t 33)),
 gf 34 35 (.mov (t 7)),
 gf 34 36 (.pnil .eql (t 35) (.const (.pointer none))),
 o 37 (.pick (t 34) (kb true) (t 36))] [8, 10, 28, 29, 30, 31, 32, 33, 34, 35, 36])
 (.cond (t 37)
  (.seq (.draw (.take (mv 38 (t 7)) (.take (la 39 9 (t 9)) (.take (mv 4 (t 38)) (.alt (st 9 (t 5) (t 39)) false
   (.take (mv 6 (kb false)) (.done))
   (.none))))) [7, 9, 38, 39])
  (.ret))
  (.skip)))
 (.seq (.ops [mv 40 (t 1),
 ca 41 F.law15_cut [(t 40)],
 mv 1 (t 41)] [40, 41])
 (.seq (.seq (.ops [mv 11 (k 0)] [])
 (.block 0 (.loop (.seq (.seq (.ops [mv 42 (t 11),
  mv 43 (t 1),
  o 44 (.len (t 43)),
  o 45 (.ibin .lss (t 42) (t 44))] [42, 43, 44])
  (.cond (t 45)
   (.skip)
   (.exit 0)))
  (.seq (.block 1 (.seq (.ops [mv 48 (t 7),
  mv 49 (t 1),
  mv 50 (t 11),
  o 51 (.iaddr 6 (t 49) (t 50)),
  la 52 6 (t 51),
  ca 53 F.store_Store_Apply [(t 48), (t 52)]] [48, 49, 50, 51, 52, 53])
  (.draw (.take (la 55 9 (t 9)) (.take (mv 56 (t 1)) (.take (mv 57 (t 11)) (.take (o 58 (.iaddr 6 (t 56) (t 57))) (.take (la 59 6 (t 58)) (.alt (ca 60 F.ref15_Apply [(t 55), (t 59)]) false
   (.take (mv 54 (t 60)) (.take (ex 61 (t 54) 0) (.take (ex 62 (t 54) 1) (.alt (st 9 (t 9) (t 61)) false
    (.done)
    (.none)))))
   (.none))))))) [54, 55, 56, 57, 58, 59, 60, 61, 62])))
  (.ops [mv 46 (t 11),
  ad 47 (t 46) (k 1),
  mv 11 (t 47)] [46, 47]))))))
 (.seq (.draw (.take (mv 63 (t 7)) (.take (la 64 9 (t 9)) (.take (mv 4 (t 63)) (.alt (st 9 (t 5) (t 64)) false
  (.take (mv 6 (kb true)) (.done))
  (.none))))) [7, 9, 63, 64])
 (.ret)))))))
def r_law15_done : List RRes := [.tmp 4, .cell true 9 5, .tmp 6]
theorem fo_law15_done {args : List Value} {M : Mem} {R : Value → Mem → Prop} (hn : args.length ≤ 65) (h : vfn Tryz.prog c_law15_done r_law15_done args M R) : CallsM Tryz.prog F.law15_done args M R :=
  fn_ok (kf := k_law15_done) Tryz.func14 (by kernel_rfl) (by kernel_rfl) hn (by kernel_rfl) h
/-- (*portage/store.Store).Held -/
def k_store_Store_Held (i : Nat) : List Nat := match i with | 0 => [2] | 1 => [9] | 4 => [0, 11, 12, 13, 14] | 5 => [16] | 6 => [18, 19] | 7 => [5, 20, 21, 22, 23] | 8 => [24, 25] | 10 => [3] | 12 => [30, 31] | 13 => [8, 32, 33, 34, 35, 36, 37, 38, 39, 40, 41, 42, 43] | 14 => [44] | 15 => [6, 45] | _ => []
def c_store_Store_Held : RCode :=
 .seq (.ops [mv 2 (.const sn)] [2])
 (.seq (.seq (.ops [mv 9 (t 0),
 o 10 (.pnil .eql (t 9) (.const (.pointer none)))] [9])
 (.cond (t 10)
  (.seq (.ops [mv 2 (.const sn)] [])
  (.ret))
  (.skip)))
 (.seq (.ops [mv 3 (.const sn)] [])
 (.seq (.seq (.ops [mv 11 (t 0),
 o 12 (.nilck (t 11)),
 fa 13 69 (t 12),
 l1 14 (t 13),
 o 15 (.mrange (t 14))] [0, 11, 12, 13, 14])
 (.block 0 (.loop (.seq (.ops [o 16 (.mnext (t 15)),
  ex 17 (t 16) 0] [16])
  (.seq (.cond (t 17)
   (.skip)
   (.exit 0))
  (.block 1 (.seq (.ops [o 18 (.mentry (t 15)),
  ex 19 (t 18) 1,
  o 5 (.alloc 86 [(i 0), (i 0), (i 0), (i 0), sn, (i 0)]),
  st 6 (t 5) (t 19)] [18, 19])
  (.ops [mv 20 (t 3),
  la 21 6 (t 5),
  o 22 (.mkSl true 86 1 [(i 0), (i 0), (i 0), (i 0), sn, (i 0)] [(0, 6, (t 21))]),
  o 23 (.app 86 6 64 [(i 0), (i 0), (i 0), (i 0), sn, (i 0)] (t 20) (t 22)),
  mv 3 (t 23)] [5, 20, 21, 22, 23]))))))))
 (.seq (.ops [mv 24 (t 3),
 ca 25 F.slices_SortFunc_store_place_store_place [(t 24), (fn F.store_Store_Held_1)]] [24, 25])
 (.seq (.ops [mv 6 (.const sn)] [])
 (.seq (.seq (.ops [mv 26 (t 3),
 o 27 (.len (t 26)),
 mv 28 (k 0)] [3])
 (.block 2 (.loop (.seq (.ops [o 29 (.ibin .lss (t 28) (t 27))] [])
  (.seq (.cond (t 29)
   (.skip)
   (.exit 2))
  (.seq (.block 3 (.seq (.ops [o 30 (.iaddr 6 (t 26) (t 28)),
  la 31 6 (t 30),
  o 8 (.alloc 86 [(i 0), (i 0), (i 0), (i 0), sn, (i 0)]),
  st 6 (t 8) (t 31)] [30, 31])
  (.draw (.take (mv 32 (t 6)) (.take (fa 33 0 (t 8)) (.take (fa 34 0 (t 33)) (.take (la 35 4 (t 34)) (.take (fa 37 0 (t 8)) (.take (fa 38 4 (t 37)) (.take (l1 39 (t 38)) (.alt (o 36 (.mkSl false 5 0 [] [])) false
   (.alt (o 40 (.app 5 1 1 [(u 0)] (t 36) (t 39))) true
    (.take (o 41 (.build [(i 0), (i 0), (i 0), (i 0), sn] [(0, 4, (t 35)), (4, 1, (t 40))])) (.alt (o 42 (.mkSl true 46 1 [(i 0), (i 0), (i 0), (i 0), sn] [(0, 5, (t 41))])) false
     (.alt (o 43 (.app 46 5 56 [(i 0), (i 0), (i 0), (i 0), sn] (t 32) (t 42))) false
      (.take (mv 6 (t 43)) (.done))
      (.none))
     (.none)))
    (.none))
   (.none))))))))) [8, 32, 33, 34, 35, 36, 37, 38, 39, 40, 41, 42, 43])))
  (.ops [ad 44 (t 28) (k 1),
  mv 28 (t 44)] [44])))))))
 (.seq (.ops [mv 45 (t 6),
 mv 2 (t 45)] [6, 45])
 (.ret))))))))
def r_store_Store_Held : List RRes := [.tmp 2]
theorem fo_store_Store_Held {args : List Value} {M : Mem} {R : Value → Mem → Prop} (hn : args.length ≤ 46) (h : vfn Tryz.prog c_store_Store_Held r_store_Store_Held args M R) : CallsM Tryz.prog F.store_Store_Held args M R :=
  fn_ok (kf := k_store_Store_Held) Tryz.func15 (by kernel_rfl) (by kernel_rfl) hn (by kernel_rfl) h
/-- (*portage/store.Store).State -/
def k_store_Store_State (i : Nat) : List Nat := match i with | 1 => [6] | 2 => [8] | 3 => [9, 10, 11, 12, 13, 14, 15, 16, 17, 18, 19, 20, 21, 22, 23, 24] | 4 => [0, 25, 26, 27] | 6 => [31, 32] | 7 => [33] | 8 => [4, 5, 35, 36, 37, 38, 39, 40, 41, 42] | 9 => [43] | 10 => [3, 44] | _ => []
def c_store_Store_State : RCode :=
 .seq (.ops [o 2 (.alloc 59 [(i 0), (i 0), sn, sn, sn])] [])
 (.seq (.seq (.ops [mv 6 (t 0),
 o 7 (.pnil .eql (t 6) (.const (.pointer none)))] [6])
 (.cond (t 7)
  (.seq (.ops [o 8 (.build [(i 0), (i 0), sn, sn, sn] []),
  st 5 (t 2) (t 8)] [8])
  (.ret))
  (.skip)))
 (.seq (.draw (.take (mv 9 (t 0)) (.take (o 10 (.nilck (t 9))) (.take (fa 11 0 (t 10)) (.take (l1 12 (t 11)) (.take (mv 13 (t 0)) (.take (o 14 (.nilck (t 13))) (.take (fa 15 4 (t 14)) (.take (l1 16 (t 15)) (.take (mv 17 (t 0)) (.take (mv 19 (t 0)) (.take (o 20 (.nilck (t 19))) (.take (fa 21 72 (t 20)) (.take (l1 22 (t 21)) (.alt (ca 18 F.store_Store_Held [(t 17)]) true
  (.alt (ca 23 F.seen_Set_Marks [(t 22)]) true
   (.take (o 24 (.build [(i 0), (i 0), sn, sn, sn] [(0, 1, (t 12)), (1, 1, (t 16)), (3, 1, (t 18)), (4, 1, (t 23))])) (.alt (o 3 (.alloc 59 [(i 0), (i 0), sn, sn, sn])) false
    (.alt (st 5 (t 3) (t 24)) false
     (.done)
     (.none))
    (.none)))
   (.alt (o 3 (.alloc 59 [(i 0), (i 0), sn, sn, sn])) false
    (.alt (ca 23 F.seen_Set_Marks [(t 22)]) true
     (.take (o 24 (.build [(i 0), (i 0), sn, sn, sn] [(0, 1, (t 12)), (1, 1, (t 16)), (3, 1, (t 18)), (4, 1, (t 23))])) (.alt (st 5 (t 3) (t 24)) false
      (.done)
      (.none)))
     (.none))
    (.none)))
  (.alt (o 3 (.alloc 59 [(i 0), (i 0), sn, sn, sn])) false
   (.alt (ca 18 F.store_Store_Held [(t 17)]) true
    (.alt (ca 23 F.seen_Set_Marks [(t 22)]) true
     (.take (o 24 (.build [(i 0), (i 0), sn, sn, sn] [(0, 1, (t 12)), (1, 1, (t 16)), (3, 1, (t 18)), (4, 1, (t 23))])) (.alt (st 5 (t 3) (t 24)) false
      (.done)
      (.none)))
     (.none))
    (.none))
   (.none)))))))))))))))) [9, 10, 11, 12, 13, 14, 15, 16, 17, 18, 19, 20, 21, 22, 23, 24])
 (.seq (.seq (.ops [mv 25 (t 0),
 o 26 (.nilck (t 25)),
 fa 27 5 (t 26),
 la 28 64 (t 27),
 mv 29 (k 0)] [0, 25, 26, 27])
 (.block 0 (.loop (.seq (.ops [o 30 (.ibin .lss (t 29) (k 64))] [])
  (.seq (.cond (t 30)
   (.skip)
   (.exit 0))
  (.seq (.block 1 (.seq (.ops [mv 31 (t 29),
  o 32 (.aidx false 64 1 (t 28) (t 29)),
  mv 4 (t 31),
  mv 5 (t 32)] [31, 32])
  (.seq (.ops [mv 33 (t 5),
  o 34 (.ibin .gtr (t 33) (k 0))] [33])
  (.cond (t 34)
   (.ops [fa 35 2 (t 3),
   l1 36 (t 35),
   mv 37 (t 4),
   mv 38 (t 5),
   o 39 (.build [(i 0), (i 0)] [(0, 1, (t 37)), (1, 1, (t 38))]),
   o 40 (.mkSl true 62 1 [(i 0), (i 0)] [(0, 2, (t 39))]),
   o 41 (.app 62 2 16 [(i 0), (i 0)] (t 36) (t 40)),
   fa 42 2 (t 3),
   st 1 (t 42) (t 41)] [4, 5, 35, 36, 37, 38, 39, 40, 41, 42])
   (.skip)))))
  (.ops [ad 43 (t 29) (k 1),
  mv 29 (t 43)] [43])))))))
 (.seq (.ops [la 44 5 (t 3),
 st 5 (t 2) (t 44)] [3, 44])
 (.ret)))))
def r_store_Store_State : List RRes := [.cell true 5 2]
theorem fo_store_Store_State {args : List Value} {M : Mem} {R : Value → Mem → Prop} (hn : args.length ≤ 45) (h : vfn Tryz.prog c_store_Store_State r_store_Store_State args M R) : CallsM Tryz.prog F.store_Store_State args M R :=
  fn_ok (kf := k_store_Store_State) Tryz.func16 (by kernel_rfl) (by kernel_rfl) hn (by kernel_rfl) h
/-- (*portage/store.Store).May -/
def k_store_Store_May (i : Nat) : List Nat := match i with | 0 => [1, 4] | 1 => [9] | 3 => [11, 12] | 4 => [13] | 5 => [5, 15] | 6 => [16, 17, 18] | 7 => [7, 19, 20, 21, 22, 23, 24, 25, 26, 27] | 8 => [29, 30, 31, 32, 33, 34, 35, 36, 37, 38] | 10 => [40, 41, 42, 43, 44, 45, 46, 47, 48, 49, 50, 51, 52, 53, 54, 55, 56, 57, 58, 59, 60, 61, 62, 63, 64, 65, 66, 67, 68, 69] | 11 => [70, 71, 72, 73, 74, 75, 76, 77, 78, 79, 80, 81] | 13 => [83, 84, 85, 86, 87, 88] | 15 => [90, 91, 92, 93, 94, 95, 96, 97, 98, 99, 100, 101, 102, 103, 104, 105, 106, 107, 108, 109, 110, 111, 112, 113, 114, 115, 116, 117, 118, 119, 120, 121, 122] | 17 => [8, 124, 125, 126, 127, 128, 129, 130] | 19 => [3, 132, 133, 134] | 20 => [0, 6, 135, 136, 137, 138, 139, 140] | _ => []
def c_store_Store_May : RCode :=
 .seq (.ops [o 3 (.box 48 (t 1)),
 mv 4 (k 0)] [1, 4])
 (.seq (.seq (.ops [mv 9 (t 0),
 o 10 (.pnil .eql (t 9) (.const (.pointer none)))] [9])
 (.cond (t 10)
  (.seq (.ops [mv 4 (k 7)] [])
  (.ret))
  (.skip)))
 (.seq (.seq (.ops [la 11 6 (t 3),
 ca 12 F.store_form [(t 11)],
 mv 5 (t 12)] [11, 12])
 (.seq (.ops [mv 13 (t 5),
 o 14 (.ibin .neq (t 13) (k 0))] [13])
 (.cond (t 14)
  (.seq (.ops [mv 15 (t 5),
  mv 4 (t 15)] [5, 15])
  (.ret))
  (.skip))))
 (.seq (.ops [fa 16 1 (t 3),
 fa 17 0 (t 16),
 la 18 4 (t 17),
 o 6 (.alloc 43 [(i 0), (i 0), (i 0), (i 0)]),
 st 4 (t 6) (t 18)] [16, 17, 18])
 (.seq (.draw (.take (mv 20 (t 0)) (.take (o 21 (.nilck (t 20))) (.take (fa 22 69 (t 21)) (.take (l1 23 (t 22)) (.take (la 24 4 (t 6)) (.take (o 25 (.mget (.agg 4) true (.agg #[(i 0), (i 0), (i 0), (i 0), sn, (i 0)]) (t 23) (t 24))) (.take (mv 19 (t 25)) (.take (ex 26 (t 19) 0) (.take (ex 27 (t 19) 1) (.alt (o 7 (.alloc 86 [(i 0), (i 0), (i 0), (i 0), sn, (i 0)])) false
  (.alt (st 6 (t 7) (t 26)) false
   (.take (mv 8 (t 27)) (.done))
   (.none))
  (.none))))))))))) [7, 19, 20, 21, 22, 23, 24, 25, 26, 27])
 (.seq (.block 0 (.seq (.ops [fa 29 0 (t 3),
 l1 30 (t 29),
 o 31 (.ibin .eql (t 30) (k 1)),
 os 32 (.mov (t 31)),
 gt 32 33 (.mov (t 0)),
 gt 32 34 (.nilck (t 33)),
 gt 32 35 (.faddr 4 (t 34)),
 gt 32 36 (.load false 1 (t 35)),
 gt 32 37 (.ibin .eql (t 36) (k 65535)),
 o 38 (.pick (t 32) (t 37) (kb false)),
 mv 28 (t 38)] [29, 30, 31, 32, 33, 34, 35, 36, 37, 38])
 (.cond (t 28)
  (.seq (.ops [mv 4 (k 10)] [])
  (.ret))
  (.seq (.seq (.draw (.take (fa 40 0 (t 3)) (.take (l1 41 (t 40)) (.take (o 42 (.ibin .eql (t 41) (k 2))) (.take (os 43 (.mov (t 42))) (.take (gt 43 44 (.faddr 1 (t 6))) (.take (gt 43 45 (.load false 1 (t 44))) (.take (gt 43 46 (.mov (t 0))) (.take (gt 43 47 (.nilck (t 46))) (.take (gt 43 48 (.faddr 0 (t 47))) (.take (gt 43 49 (.load false 1 (t 48))) (.take (gt 43 50 (.ibin .eql (t 45) (t 49))) (.take (⟨(some 51), .mov (t 50), some (43, true), true⟩) (.take (gf 51 52 (.faddr 0 (t 6))) (.take (gf 51 53 (.load false 1 (t 52))) (.take (gf 51 54 (.mov (t 0))) (.take (gf 51 55 (.nilck (t 54))) (.take (gf 51 56 (.faddr 0 (t 55))) (.take (gf 51 57 (.load false 1 (t 56))) (.take (gf 51 58 (.ibin .eql (t 53) (t 57))) (.take (⟨(some 59), .mov (t 58), some (51, false), true⟩) (.take (gt 59 60 (.faddr 2 (t 6))) (.take (gt 59 61 (.load false 1 (t 60))) (.take (gt 59 62 (.mov (t 0))) (.take (gt 59 63 (.nilck (t 62))) (.take (gt 59 64 (.faddr 4 (t 63))) (.take (gt 59 65 (.load false 1 (t 64))) (.take (gt 59 66 (.ibin .gtr (t 61) (t 65))) (.take (gf 51 67 (.pick (t 59) (t 66) (kb false))) (.take (gt 43 68 (.pick (t 51) (kb true) (t 67))) (.take (o 69 (.pick (t 43) (t 68) (kb false))) (.take (mv 39 (t 69)) (.done)))))))))))))))))))))))))))))))) [40, 41, 42, 43, 44, 45, 46, 47, 48, 49, 50, 51, 52, 53, 54, 55, 56, 57, 58, 59, 60, 61, 62, 63, 64, 65, 66, 67, 68, 69])
  (.cond (t 39)
   (.skip)
   (.draw (.take (fa 70 0 (t 3)) (.take (l1 71 (t 70)) (.take (o 72 (.ibin .eql (t 71) (k 4))) (.take (os 73 (.mov (t 72))) (.take (gt 73 74 (.faddr 1 (t 6))) (.take (gt 73 75 (.load false 1 (t 74))) (.take (gt 73 76 (.mov (t 0))) (.take (gt 73 77 (.nilck (t 76))) (.take (gt 73 78 (.faddr 0 (t 77))) (.take (gt 73 79 (.load false 1 (t 78))) (.take (gt 73 80 (.ibin .neq (t 75) (t 79))) (.take (o 81 (.pick (t 73) (t 80) (kb false))) (.take (mv 39 (t 81)) (.done)))))))))))))) [70, 71, 72, 73, 74, 75, 76, 77, 78, 79, 80, 81])))
  (.cond (t 39)
   (.seq (.ops [mv 4 (k 2)] [])
   (.ret))
   (.seq (.ops [fa 83 0 (t 3),
   l1 84 (t 83),
   o 85 (.ibin .eql (t 84) (k 2)),
   os 86 (.mov (t 85)),
   gt 86 87 (.mov (t 8)),
   o 88 (.pick (t 86) (t 87) (kb false)),
   mv 82 (t 88)] [83, 84, 85, 86, 87, 88])
   (.cond (t 82)
    (.seq (.ops [mv 4 (k 5)] [])
    (.ret))
    (.seq (.draw (.take (fa 90 0 (t 3)) (.take (l1 91 (t 90)) (.take (o 92 (.ibin .eql (t 91) (k 2))) (.take (os 93 (.mov (t 92))) (.take (gt 93 94 (.mov (t 0))) (.take (gt 93 95 (.nilck (t 94))) (.take (gt 93 96 (.faddr 69 (t 95))) (.take (gt 93 97 (.load false 1 (t 96))) (.take (gt 93 98 (.mlen (t 97))) (.take (gt 93 99 (.mov (t 0))) (.take (gt 93 100 (.nilck (t 99))) (.take (gt 93 101 (.faddr 1 (t 100))) (.take (gt 93 102 (.faddr 0 (t 101))) (.take (gt 93 103 (.load false 1 (t 102))) (.take (gt 93 104 (.ibin .geq (t 98) (t 103))) (.take (⟨(some 105), .mov (t 104), some (93, true), true⟩) (.take (gf 105 106 (.faddr 1 (t 3))) (.take (gf 105 107 (.faddr 4 (t 106))) (.take (gf 105 108 (.load false 1 (t 107))) (.take (gf 105 109 (.len (t 108))) (.take (gf 105 110 (.mov (t 0))) (.take (gf 105 111 (.nilck (t 110))) (.take (gf 105 112 (.faddr 1 (t 111))) (.take (gf 105 113 (.faddr 1 (t 112))) (.take (gf 105 114 (.load false 1 (t 113))) (.take (gf 105 115 (.mov (t 0))) (.take (gf 105 116 (.nilck (t 115))) (.take (gf 105 117 (.faddr 71 (t 116))) (.take (gf 105 118 (.load false 1 (t 117))) (.take (gf 105 119 (.ibin .sub (t 114) (t 118))) (.take (gf 105 120 (.ibin .gtr (t 109) (t 119))) (.take (gt 93 121 (.pick (t 105) (kb true) (t 120))) (.take (o 122 (.pick (t 93) (t 121) (kb false))) (.take (mv 89 (t 122)) (.done))))))))))))))))))))))))))))))))))) [90, 91, 92, 93, 94, 95, 96, 97, 98, 99, 100, 101, 102, 103, 104, 105, 106, 107, 108, 109, 110, 111, 112, 113, 114, 115, 116, 117, 118, 119, 120, 121, 122])
    (.cond (t 89)
     (.seq (.ops [mv 4 (k 6)] [])
     (.ret))
     (.seq (.ops [fa 124 0 (t 3),
     l1 125 (t 124),
     o 126 (.ibin .eql (t 125) (k 3)),
     os 127 (.mov (t 126)),
     gt 127 128 (.mov (t 8)),
     gt 127 129 (.not (t 128)),
     o 130 (.pick (t 127) (t 129) (kb false)),
     mv 123 (t 130)] [8, 124, 125, 126, 127, 128, 129, 130])
     (.cond (t 123)
      (.seq (.ops [mv 4 (k 4)] [])
      (.ret))
      (.seq (.ops [fa 132 0 (t 3),
      l1 133 (t 132),
      o 134 (.ibin .eql (t 133) (k 4)),
      mv 131 (t 134)] [3, 132, 133, 134])
      (.cond (t 131)
       (.seq (.draw (.take (mv 135 (t 0)) (.take (o 136 (.nilck (t 135))) (.take (fa 137 72 (t 136)) (.take (l1 138 (t 137)) (.take (la 139 4 (t 6)) (.alt (ca 140 F.seen_Set_May [(t 138), (t 139)]) false
        (.take (mv 4 (t 140)) (.done))
        (.none))))))) [0, 6, 135, 136, 137, 138, 139, 140])
       (.ret))
       (.skip))))))))))))))
 (.seq (.ops [mv 4 (k 0)] [])
 (.ret)))))))
def r_store_Store_May : List RRes := [.tmp 4]
theorem fo_store_Store_May {args : List Value} {M : Mem} {R : Value → Mem → Prop} (hn : args.length ≤ 141) (h : vfn Tryz.prog c_store_Store_May r_store_Store_May args M R) : CallsM Tryz.prog F.store_Store_May args M R :=
  fn_ok (kf := k_store_Store_May) Tryz.func17 (by kernel_rfl) (by kernel_rfl) hn (by kernel_rfl) h
/-- portage/store.From -/
def k_store_From (i : Nat) : List Nat := match i with | 0 => [0, 1, 4, 5] | 1 => [16, 17, 18, 19, 20, 21, 22] | 2 => [23] | 3 => [7, 25] | 4 => [26, 27] | 6 => [29, 30, 31, 32, 33] | 7 => [34] | 9 => [39, 40] | 10 => [9, 41, 42, 43, 44, 45, 46, 47, 48] | 11 => [49] | 12 => [50, 51, 52, 53] | 13 => [54, 55, 56, 57, 58, 59, 60, 61, 62, 63, 64, 65, 66, 67, 68] | 14 => [69] | 16 => [74, 75] | 17 => [12, 76, 77, 78, 79] | 19 => [81] | 20 => [82, 83, 84, 85] | 21 => [10, 86, 87, 88, 89, 90] | 23 => [92] | 25 => [97, 98] | 26 => [14, 99, 100, 101, 102] | 28 => [104] | 29 => [3, 105, 106, 107, 108, 109, 110, 111, 112] | 30 => [113] | 31 => [7, 115] | 32 => [2, 7, 116, 117, 118, 119, 120, 121, 122, 123, 124, 125, 126, 127, 128, 129, 130, 131, 132, 133, 134, 135] | 34 => [15, 137, 138, 139, 140] | 35 => [6, 141] | _ => []
def c_store_From : RCode :=
 .seq (.ops [o 2 (.box 23 (t 0)),
 o 3 (.box 59 (t 1)),
 mv 4 (.const (.pointer none)),
 mv 5 (k 0)] [0, 1, 4, 5])
 (.seq (.ops [fa 17 0 (t 3),
 l1 18 (t 17),
 la 19 3 (t 2),
 ca 20 F.store_New [(t 18), (t 19)],
 mv 16 (t 20),
 ex 21 (t 16) 0,
 ex 22 (t 16) 1,
 mv 6 (t 21),
 mv 7 (t 22)] [16, 17, 18, 19, 20, 21, 22])
 (.seq (.seq (.ops [mv 23 (t 7),
 o 24 (.ibin .neq (t 23) (k 0))] [23])
 (.cond (t 24)
  (.seq (.ops [mv 25 (t 7),
  mv 4 (.const (.pointer none)),
  mv 5 (t 25)] [7, 25])
  (.ret))
  (.skip)))
 (.seq (.seq (.ops [la 26 5 (t 3),
 ca 27 F.store_nexts [(t 26)],
 o 28 (.not (t 27))] [26, 27])
 (.cond (t 28)
  (.seq (.ops [mv 4 (.const (.pointer none)),
  mv 5 (k 2)] [])
  (.ret))
  (.skip)))
 (.seq (.ops [mv 29 (t 6),
 fa 30 1 (t 3),
 l1 31 (t 30),
 o 32 (.nilck (t 29)),
 fa 33 4 (t 32),
 st 1 (t 33) (t 31)] [29, 30, 31, 32, 33])
 (.seq (.seq (.ops [fa 34 2 (t 3),
 l1 35 (t 34),
 o 36 (.len (t 35)),
 mv 37 (k 0)] [34])
 (.block 0 (.loop (.seq (.ops [o 38 (.ibin .lss (t 37) (t 36))] [])
  (.seq (.cond (t 38)
   (.skip)
   (.exit 0))
  (.seq (.block 1 (.seq (.ops [o 39 (.iaddr 2 (t 35) (t 37)),
  la 40 2 (t 39),
  o 9 (.alloc 62 [(i 0), (i 0)]),
  st 2 (t 9) (t 40)] [39, 40])
  (.draw (.take (mv 41 (t 6)) (.take (fa 42 0 (t 9)) (.take (l1 43 (t 42)) (.take (fa 44 1 (t 9)) (.take (l1 45 (t 44)) (.take (o 46 (.nilck (t 41))) (.take (fa 47 5 (t 46)) (.take (o 48 (.iaddrA 64 1 (t 47) (t 43))) (.alt (st 1 (t 48) (t 45)) false
   (.done)
   (.none)))))))))) [9, 41, 42, 43, 44, 45, 46, 47, 48])))
  (.ops [ad 49 (t 37) (k 1),
  mv 37 (t 49)] [49])))))))
 (.seq (.ops [mv 50 (t 6),
 o 51 (.nilck (t 50)),
 fa 52 5 (t 51),
 la 53 64 (t 52),
 o 10 (.alloc 71 [(i 0), (i 0), (i 0), (i 0), (i 0), (i 0), (i 0), (i 0), (i 0), (i 0), (i 0), (i 0), (i 0), (i 0), (i 0), (i 0), (i 0), (i 0), (i 0), (i 0), (i 0), (i 0), (i 0), (i 0), (i 0), (i 0), (i 0), (i 0), (i 0), (i 0), (i 0), (i 0), (i 0), (i 0), (i 0), (i 0), (i 0), (i 0), (i 0), (i 0), (i 0), (i 0), (i 0), (i 0), (i 0), (i 0), (i 0), (i 0), (i 0), (i 0), (i 0), (i 0), (i 0), (i 0), (i 0), (i 0), (i 0), (i 0), (i 0), (i 0), (i 0), (i 0), (i 0), (i 0)]),
 st 64 (t 10) (t 53)] [50, 51, 52, 53])
 (.seq (.draw (.take (mv 54 (t 6)) (.take (mv 55 (t 6)) (.take (fa 56 3 (t 3)) (.take (l1 57 (t 56)) (.take (o 58 (.len (t 57))) (.take (fa 59 3 (t 3)) (.take (l1 60 (t 59)) (.take (o 61 (.len (t 60))) (.take (o 62 (.ibin .mul (k 48) (t 61))) (.take (o 63 (.nilck (t 54))) (.take (fa 64 1 (t 63)) (.take (fa 65 0 (t 64)) (.alt (st 1 (t 65) (t 58)) true
  (.take (o 66 (.nilck (t 55))) (.take (fa 67 1 (t 66)) (.take (fa 68 1 (t 67)) (.alt (st 1 (t 68) (t 62)) false
   (.done)
   (.none)))))
  (.none)))))))))))))) [54, 55, 56, 57, 58, 59, 60, 61, 62, 63, 64, 65, 66, 67, 68])
 (.seq (.seq (.ops [fa 69 3 (t 3),
 l1 70 (t 69),
 o 71 (.len (t 70)),
 mv 72 (k 0)] [69])
 (.block 2 (.loop (.seq (.ops [o 73 (.ibin .lss (t 72) (t 71))] [])
  (.seq (.cond (t 73)
   (.skip)
   (.exit 2))
  (.seq (.block 3 (.seq (.ops [o 74 (.iaddr 5 (t 70) (t 72)),
  la 75 5 (t 74),
  o 12 (.alloc 46 [(i 0), (i 0), (i 0), (i 0), sn]),
  st 5 (t 12) (t 75)] [74, 75])
  (.seq (.ops [mv 76 (t 6),
  la 77 5 (t 12),
  o 78 (.build [(i 0), (i 0), (i 0), (i 0), (i 0), sn] [(0, 1, (k 2)), (1, 5, (t 77))]),
  ca 79 F.store_Store_Apply [(t 76), (t 78)],
  o 80 (.ibin .neq (t 79) (k 0))] [12, 76, 77, 78, 79])
  (.cond (t 80)
   (.seq (.ops [mv 4 (.const (.pointer none)),
   mv 5 (k 2)] [])
   (.ret))
   (.skip)))))
  (.ops [ad 81 (t 72) (k 1),
  mv 72 (t 81)] [81])))))))
 (.seq (.ops [mv 82 (t 6),
 la 83 3 (t 2),
 o 84 (.nilck (t 82)),
 fa 85 1 (t 84),
 st 3 (t 85) (t 83)] [82, 83, 84, 85])
 (.seq (.seq (.draw (.take (mv 86 (t 6)) (.take (o 87 (.nilck (t 86))) (.take (fa 88 5 (t 87)) (.take (la 89 64 (t 88)) (.take (la 90 64 (t 10)) (.take (o 91 (.aeq .neq 64 (t 89) (t 90))) (.done))))))) [10, 86, 87, 88, 89, 90])
 (.cond (t 91)
  (.seq (.ops [mv 4 (.const (.pointer none)),
  mv 5 (k 2)] [])
  (.ret))
  (.skip)))
 (.seq (.seq (.ops [fa 92 4 (t 3),
 l1 93 (t 92),
 o 94 (.len (t 93)),
 mv 95 (k 0)] [92])
 (.block 4 (.loop (.seq (.ops [o 96 (.ibin .lss (t 95) (t 94))] [])
  (.seq (.cond (t 96)
   (.skip)
   (.exit 4))
  (.seq (.block 5 (.seq (.ops [o 97 (.iaddr 4 (t 93) (t 95)),
  la 98 4 (t 97),
  o 14 (.alloc 101 [(i 0), (i 0), (i 0), sn]),
  st 4 (t 14) (t 98)] [97, 98])
  (.seq (.ops [fa 99 0 (t 14),
  l1 100 (t 99),
  fa 101 0 (t 3),
  l1 102 (t 101),
  o 103 (.ibin .eql (t 100) (t 102))] [14, 99, 100, 101, 102])
  (.cond (t 103)
   (.seq (.ops [mv 4 (.const (.pointer none)),
   mv 5 (k 2)] [])
   (.ret))
   (.skip)))))
  (.ops [ad 104 (t 95) (k 1),
  mv 95 (t 104)] [104])))))))
 (.seq (.ops [fa 106 2 (t 2),
 l1 107 (t 106),
 fa 108 4 (t 3),
 l1 109 (t 108),
 ca 110 F.seen_From [(t 107), (t 109)],
 mv 105 (t 110),
 ex 111 (t 105) 0,
 ex 112 (t 105) 1,
 mv 15 (t 111),
 mv 7 (t 112)] [3, 105, 106, 107, 108, 109, 110, 111, 112])
 (.seq (.seq (.ops [mv 113 (t 7),
 o 114 (.ibin .eql (t 113) (k 2))] [113])
 (.cond (t 114)
  (.seq (.ops [mv 115 (t 7),
  mv 4 (.const (.pointer none)),
  mv 5 (t 115)] [7, 115])
  (.ret))
  (.skip)))
 (.seq (.seq (.draw (.take (mv 116 (t 7)) (.take (o 117 (.ibin .neq (t 116) (k 0))) (.take (os 118 (.mov (t 117))) (.take (gf 118 119 (.mov (t 6))) (.take (gf 118 120 (.nilck (t 119))) (.take (gf 118 121 (.faddr 69 (t 120))) (.take (gf 118 122 (.load false 1 (t 121))) (.take (gf 118 123 (.mlen (t 122))) (.take (gf 118 124 (.faddr 0 (t 2))) (.take (gf 118 125 (.load false 1 (t 124))) (.take (gf 118 126 (.ibin .gtr (t 123) (t 125))) (.take (o 127 (.pick (t 118) (kb true) (t 126))) (.take (os 128 (.mov (t 127))) (.take (gf 128 129 (.mov (t 6))) (.take (gf 128 130 (.nilck (t 129))) (.take (gf 128 131 (.faddr 71 (t 130))) (.take (gf 128 132 (.load false 1 (t 131))) (.take (gf 128 133 (.faddr 1 (t 2))) (.take (gf 128 134 (.load false 1 (t 133))) (.take (gf 128 135 (.ibin .gtr (t 132) (t 134))) (.take (o 136 (.pick (t 128) (kb true) (t 135))) (.done)))))))))))))))))))))) [2, 7, 116, 117, 118, 119, 120, 121, 122, 123, 124, 125, 126, 127, 128, 129, 130, 131, 132, 133, 134, 135])
 (.cond (t 136)
  (.seq (.ops [mv 4 (.const (.pointer none)),
  mv 5 (k 6)] [])
  (.ret))
  (.skip)))
 (.seq (.ops [mv 137 (t 6),
 mv 138 (t 15),
 o 139 (.nilck (t 137)),
 fa 140 72 (t 139),
 st 1 (t 140) (t 138)] [15, 137, 138, 139, 140])
 (.seq (.ops [mv 141 (t 6),
 mv 4 (t 141),
 mv 5 (k 0)] [6, 141])
 (.ret)))))))))))))))))
def r_store_From : List RRes := [.tmp 4, .tmp 5]
theorem fo_store_From {args : List Value} {M : Mem} {R : Value → Mem → Prop} (hn : args.length ≤ 142) (h : vfn Tryz.prog c_store_From r_store_From args M R) : CallsM Tryz.prog F.store_From args M R :=
  fn_ok (kf := k_store_From) Tryz.func18 (by kernel_rfl) (by kernel_rfl) hn (by kernel_rfl) h
/-- portage/store.in -/
def k_store_in (i : Nat) : List Nat := match i with | 0 => [4] | 1 => [0, 1, 5, 6, 7, 8, 9, 10, 11] | _ => []
def c_store_in : RCode :=
 .seq (.ops [mv 4 (kb false)] [4])
 (.seq (.ops [mv 5 (t 0),
 o 6 (.ibin .geq (t 5) (k 0)),
 os 7 (.mov (t 6)),
 gt 7 8 (.mov (t 0)),
 gt 7 9 (.mov (t 1)),
 gt 7 10 (.ibin .leq (t 8) (t 9)),
 o 11 (.pick (t 7) (t 10) (kb false)),
 mv 4 (t 11)] [0, 1, 5, 6, 7, 8, 9, 10, 11])
 (.ret))
def r_store_in : List RRes := [.tmp 4]
theorem fo_store_in {args : List Value} {M : Mem} {R : Value → Mem → Prop} (hn : args.length ≤ 12) (h : vfn Tryz.prog c_store_in r_store_in args M R) : CallsM Tryz.prog F.store_in args M R :=
  fn_ok (kf := k_store_in) Tryz.func19 (by kernel_rfl) (by kernel_rfl) hn (by kernel_rfl) h
/-- portage/seen.New -/
def k_seen_New (i : Nat) : List Nat := match i with | 0 => [2, 3] | 1 => [4, 5, 6, 7, 8] | 3 => [0, 10, 11, 12, 13] | _ => []
def c_seen_New : RCode :=
 .seq (.ops [mv 2 (.const (.pointer none)),
 mv 3 (k 0)] [2, 3])
 (.seq (.seq (.ops [mv 4 (t 0),
 o 5 (.ibin .lss (t 4) (k 0)),
 os 6 (.mov (t 5)),
 gf 6 7 (.mov (t 0)),
 gf 6 8 (.ibin .gtr (t 7) (k 256)),
 o 9 (.pick (t 6) (kb true) (t 8))] [4, 5, 6, 7, 8])
 (.cond (t 9)
  (.seq (.ops [mv 2 (.const (.pointer none)),
  mv 3 (k 1)] [])
  (.ret))
  (.skip)))
 (.seq (.ops [mv 10 (t 0),
 o 11 (.mkMap),
 o 12 (.build [(i 0), (.map none)] [(0, 1, (t 10)), (1, 1, (t 11))]),
 o 13 (.box 105 (t 12)),
 mv 2 (t 13),
 mv 3 (k 0)] [0, 10, 11, 12, 13])
 (.ret)))
def r_seen_New : List RRes := [.tmp 2, .tmp 3]
theorem fo_seen_New {args : List Value} {M : Mem} {R : Value → Mem → Prop} (hn : args.length ≤ 14) (h : vfn Tryz.prog c_seen_New r_seen_New args M R) : CallsM Tryz.prog F.seen_New args M R :=
  fn_ok (kf := k_seen_New) Tryz.func20 (by kernel_rfl) (by kernel_rfl) hn (by kernel_rfl) h
/-- portage/portageref15.number -/
def k_ref15_number (i : Nat) : List Nat := match i with | 0 => [4] | 1 => [0, 1, 5, 6, 7, 8, 9, 10, 11] | _ => []
def c_ref15_number : RCode :=
 .seq (.ops [mv 4 (kb false)] [4])
 (.seq (.ops [mv 5 (t 0),
 o 6 (.ibin .geq (t 5) (k 0)),
 os 7 (.mov (t 6)),
 gt 7 8 (.mov (t 0)),
 gt 7 9 (.mov (t 1)),
 gt 7 10 (.ibin .leq (t 8) (t 9)),
 o 11 (.pick (t 7) (t 10) (kb false)),
 mv 4 (t 11)] [0, 1, 5, 6, 7, 8, 9, 10, 11])
 (.ret))
def r_ref15_number : List RRes := [.tmp 4]
theorem fo_ref15_number {args : List Value} {M : Mem} {R : Value → Mem → Prop} (hn : args.length ≤ 12) (h : vfn Tryz.prog c_ref15_number r_ref15_number args M R) : CallsM Tryz.prog F.ref15_number args M R :=
  fn_ok (kf := k_ref15_number) Tryz.func21 (by kernel_rfl) (by kernel_rfl) hn (by kernel_rfl) h
/-- portage/portagelaw15.quota -/
def k_law15_quota (i : Nat) : List Nat := match i with | 1 => [1] | _ => []
def c_law15_quota : RCode :=
 .seq (.ops [o 0 (.alloc 23 [(i 0), (i 0), (i 0)])] [])
 (.seq (.ops [o 1 (.build [(i 0), (i 0), (i 0)] [(0, 1, (k 256)), (1, 1, (k 1048576)), (2, 1, (k 256))]),
 st 3 (t 0) (t 1)] [1])
 (.ret))
def r_law15_quota : List RRes := [.cell true 3 0]
theorem fo_law15_quota {args : List Value} {M : Mem} {R : Value → Mem → Prop} (hn : args.length ≤ 2) (h : vfn Tryz.prog c_law15_quota r_law15_quota args M R) : CallsM Tryz.prog F.law15_quota args M R :=
  fn_ok (kf := k_law15_quota) Tryz.func22 (by kernel_rfl) (by kernel_rfl) hn (by kernel_rfl) h
/-- (*portage/store.Store).Fresh -/
def k_store_Store_Fresh (i : Nat) : List Nat := match i with | 0 => [5] | 1 => [7, 8, 9, 10, 11, 12, 13, 14, 15] | 2 => [16] | 3 => [18, 19, 20] | 4 => [21] | 5 => [23, 24, 25, 26, 27, 28] | 6 => [29] | 7 => [31, 32, 33, 34, 35, 36, 37] | 8 => [38] | 9 => [0, 1, 39, 40, 41, 42, 43, 44, 45, 46, 47, 48, 49, 50, 51, 52, 53, 54, 55] | _ => []
def c_store_Store_Fresh : RCode :=
 .seq (.ops [o 4 (.alloc 43 [(i 0), (i 0), (i 0), (i 0)]),
 mv 5 (k 0)] [5])
 (.seq (.block 0 (.seq (.ops [mv 7 (t 0),
 o 8 (.pnil .eql (t 7) (.const (.pointer none))),
 os 9 (.mov (t 8)),
 gf 9 10 (.mov (t 0)),
 gf 9 11 (.nilck (t 10)),
 gf 9 12 (.faddr 4 (t 11)),
 gf 9 13 (.load false 1 (t 12)),
 gf 9 14 (.ibin .eql (t 13) (k 0)),
 o 15 (.pick (t 9) (kb true) (t 14)),
 mv 6 (t 15)] [7, 8, 9, 10, 11, 12, 13, 14, 15])
 (.cond (t 6)
  (.seq (.ops [o 16 (.build [(i 0), (i 0), (i 0), (i 0)] []),
  st 4 (t 4) (t 16),
  mv 5 (k 7)] [16])
  (.ret))
  (.seq (.ops [mv 18 (t 1),
  ca 19 F.store_in [(t 18), (k 63)],
  o 20 (.not (t 19)),
  mv 17 (t 20)] [18, 19, 20])
  (.cond (t 17)
   (.seq (.ops [o 21 (.build [(i 0), (i 0), (i 0), (i 0)] []),
   st 4 (t 4) (t 21),
   mv 5 (k 1)] [21])
   (.ret))
   (.seq (.ops [mv 23 (t 1),
   mv 24 (t 0),
   o 25 (.nilck (t 24)),
   fa 26 0 (t 25),
   l1 27 (t 26),
   o 28 (.ibin .eql (t 23) (t 27)),
   mv 22 (t 28)] [23, 24, 25, 26, 27, 28])
   (.cond (t 22)
    (.seq (.ops [o 29 (.build [(i 0), (i 0), (i 0), (i 0)] []),
    st 4 (t 4) (t 29),
    mv 5 (k 2)] [29])
    (.ret))
    (.seq (.ops [mv 31 (t 0),
    mv 32 (t 1),
    o 33 (.nilck (t 31)),
    fa 34 5 (t 33),
    o 35 (.iaddrA 64 1 (t 34) (t 32)),
    l1 36 (t 35),
    o 37 (.ibin .eql (t 36) (k 65535)),
    mv 30 (t 37)] [31, 32, 33, 34, 35, 36, 37])
    (.cond (t 30)
     (.seq (.ops [o 38 (.build [(i 0), (i 0), (i 0), (i 0)] []),
     st 4 (t 4) (t 38),
     mv 5 (k 10)] [38])
     (.ret))
     (.skip))))))))))
 (.seq (.draw (.take (mv 39 (t 0)) (.take (o 40 (.nilck (t 39))) (.take (fa 41 0 (t 40)) (.take (l1 42 (t 41)) (.take (mv 43 (t 1)) (.take (mv 44 (t 0)) (.take (o 45 (.nilck (t 44))) (.take (fa 46 4 (t 45)) (.take (l1 47 (t 46)) (.take (mv 48 (t 0)) (.take (mv 49 (t 1)) (.take (o 50 (.nilck (t 48))) (.take (fa 51 5 (t 50)) (.take (o 52 (.iaddrA 64 1 (t 51) (t 49))) (.take (l1 53 (t 52)) (.take (ad 54 (t 53) (k 1)) (.take (o 55 (.build [(i 0), (i 0), (i 0), (i 0)] [(0, 1, (t 42)), (1, 1, (t 43)), (2, 1, (t 47)), (3, 1, (t 54))])) (.alt (st 4 (t 4) (t 55)) false
  (.take (mv 5 (k 0)) (.done))
  (.none))))))))))))))))))) [0, 1, 39, 40, 41, 42, 43, 44, 45, 46, 47, 48, 49, 50, 51, 52, 53, 54, 55])
 (.ret)))
def r_store_Store_Fresh : List RRes := [.cell true 4 4, .tmp 5]
theorem fo_store_Store_Fresh {args : List Value} {M : Mem} {R : Value → Mem → Prop} (hn : args.length ≤ 56) (h : vfn Tryz.prog c_store_Store_Fresh r_store_Store_Fresh args M R) : CallsM Tryz.prog F.store_Store_Fresh args M R :=
  fn_ok (kf := k_store_Store_Fresh) Tryz.func23 (by kernel_rfl) (by kernel_rfl) hn (by kernel_rfl) h
/-- (*portage/store.Store).Find -/
def k_store_Store_Find (i : Nat) : List Nat := match i with | 0 => [1, 5] | 1 => [8] | 2 => [10] | 3 => [0, 11, 12, 13, 14, 15, 16, 17, 18, 19] | 4 => [7, 20] | 5 => [22] | 6 => [3, 6, 23, 24, 25, 26, 27, 28, 29] | _ => []
def c_store_Store_Find : RCode :=
 .seq (.ops [o 3 (.box 43 (t 1)),
 o 4 (.alloc 46 [(i 0), (i 0), (i 0), (i 0), sn]),
 mv 5 (kb false)] [1, 5])
 (.seq (.seq (.ops [mv 8 (t 0),
 o 9 (.pnil .eql (t 8) (.const (.pointer none)))] [8])
 (.cond (t 9)
  (.seq (.ops [o 10 (.build [(i 0), (i 0), (i 0), (i 0), sn] []),
  st 5 (t 4) (t 10),
  mv 5 (kb false)] [10])
  (.ret))
  (.skip)))
 (.seq (.draw (.take (mv 12 (t 0)) (.take (o 13 (.nilck (t 12))) (.take (fa 14 69 (t 13)) (.take (l1 15 (t 14)) (.take (la 16 4 (t 3)) (.take (o 17 (.mget (.agg 4) true (.agg #[(i 0), (i 0), (i 0), (i 0), sn, (i 0)]) (t 15) (t 16))) (.take (mv 11 (t 17)) (.take (ex 18 (t 11) 0) (.take (ex 19 (t 11) 1) (.alt (o 6 (.alloc 86 [(i 0), (i 0), (i 0), (i 0), sn, (i 0)])) false
  (.alt (st 6 (t 6) (t 18)) false
   (.take (mv 7 (t 19)) (.done))
   (.none))
  (.none))))))))))) [0, 11, 12, 13, 14, 15, 16, 17, 18, 19])
 (.seq (.seq (.ops [mv 20 (t 7),
 o 21 (.not (t 20))] [7, 20])
 (.cond (t 21)
  (.seq (.ops [o 22 (.build [(i 0), (i 0), (i 0), (i 0), sn] []),
  st 5 (t 4) (t 22),
  mv 5 (kb false)] [22])
  (.ret))
  (.skip)))
 (.seq (.draw (.take (la 23 4 (t 3)) (.take (fa 25 0 (t 6)) (.take (fa 26 4 (t 25)) (.take (l1 27 (t 26)) (.alt (o 24 (.mkSl false 5 0 [] [])) false
  (.alt (o 28 (.app 5 1 1 [(u 0)] (t 24) (t 27))) true
   (.take (o 29 (.build [(i 0), (i 0), (i 0), (i 0), sn] [(0, 4, (t 23)), (4, 1, (t 28))])) (.alt (st 5 (t 4) (t 29)) false
    (.take (mv 5 (kb true)) (.done))
    (.none)))
   (.none))
  (.none)))))) [3, 6, 23, 24, 25, 26, 27, 28, 29])
 (.ret)))))
def r_store_Store_Find : List RRes := [.cell true 5 4, .tmp 5]
theorem fo_store_Store_Find {args : List Value} {M : Mem} {R : Value → Mem → Prop} (hn : args.length ≤ 30) (h : vfn Tryz.prog c_store_Store_Find r_store_Store_Find args M R) : CallsM Tryz.prog F.store_Store_Find args M R :=
  fn_ok (kf := k_store_Store_Find) Tryz.func24 (by kernel_rfl) (by kernel_rfl) hn (by kernel_rfl) h
/-- portage/portageref15.May -/
def k_ref15_May (i : Nat) : List Nat := match i with | 0 => [0, 1, 4] | 1 => [6, 7] | 2 => [3, 9, 10] | 3 => [11, 12, 13] | 4 => [14] | 5 => [17] | 6 => [2, 18, 19] | 8 => [22] | 9 => [23, 24, 25, 26, 27, 28, 29, 30, 31, 32, 33, 34, 35, 36, 37, 38, 39, 40] | 11 => [5, 42, 43, 44] | 13 => [2, 3, 46, 47, 48, 49, 50, 51, 52, 53, 54, 55, 56, 57, 58, 59, 60, 61, 62, 63, 64] | 15 => [67] | 16 => [2, 5, 68, 69, 70, 71] | 18 => [15, 74] | 19 => [75, 76, 77, 78] | 21 => [2, 5, 80, 81, 82, 83] | _ => []
def c_ref15_May : RCode :=
 .seq (.ops [o 2 (.box 37 (t 0)),
 o 3 (.box 48 (t 1)),
 mv 4 (k 0)] [0, 1, 4])
 (.seq (.seq (.ops [la 6 6 (t 3),
 ca 7 F.ref15_Form [(t 6)],
 o 8 (.ibin .neq (t 7) (k 0))] [6, 7])
 (.cond (t 8)
  (.seq (.ops [la 9 6 (t 3),
  ca 10 F.ref15_Form [(t 9)],
  mv 4 (t 10)] [3, 9, 10])
  (.ret))
  (.skip)))
 (.seq (.ops [fa 11 1 (t 3),
 fa 12 0 (t 11),
 la 13 4 (t 12),
 o 5 (.alloc 43 [(i 0), (i 0), (i 0), (i 0)]),
 st 4 (t 5) (t 13)] [11, 12, 13])
 (.seq (.seq (.ops [fa 14 0 (t 3),
 l1 15 (t 14)] [14])
 (.block 0 (.seq (.ops [o 17 (.ibin .eql (t 15) (k 1)),
 mv 16 (t 17)] [17])
 (.cond (t 16)
  (.seq (.ops [fa 18 4 (t 2),
  l1 19 (t 18),
  o 20 (.ibin .geq (t 19) (k 65535))] [2, 18, 19])
  (.cond (t 20)
   (.seq (.ops [mv 4 (k 10)] [])
   (.ret))
   (.skip)))
  (.seq (.ops [o 22 (.ibin .eql (t 15) (k 2)),
  mv 21 (t 22)] [22])
  (.cond (t 21)
   (.seq (.seq (.ops [fa 23 1 (t 5),
   l1 24 (t 23),
   fa 25 0 (t 2),
   l1 26 (t 25),
   o 27 (.ibin .eql (t 24) (t 26)),
   os 28 (.mov (t 27)),
   gf 28 29 (.faddr 0 (t 5)),
   gf 28 30 (.load false 1 (t 29)),
   gf 28 31 (.faddr 0 (t 2)),
   gf 28 32 (.load false 1 (t 31)),
   gf 28 33 (.ibin .eql (t 30) (t 32)),
   ⟨(some 34), .mov (t 33), some (28, false), true⟩,
   gt 34 35 (.faddr 2 (t 5)),
   gt 34 36 (.load false 1 (t 35)),
   gt 34 37 (.faddr 4 (t 2)),
   gt 34 38 (.load false 1 (t 37)),
   gt 34 39 (.ibin .gtr (t 36) (t 38)),
   gf 28 40 (.pick (t 34) (t 39) (kb false)),
   o 41 (.pick (t 28) (kb true) (t 40))] [23, 24, 25, 26, 27, 28, 29, 30, 31, 32, 33, 34, 35, 36, 37, 38, 39, 40])
   (.cond (t 41)
    (.seq (.ops [mv 4 (k 2)] [])
    (.ret))
    (.skip)))
   (.seq (.seq (.ops [fa 42 6 (t 2),
   l1 43 (t 42),
   la 44 4 (t 5),
   ca 45 F.ref13_Has [(t 43), (t 44)]] [5, 42, 43, 44])
   (.cond (t 45)
    (.seq (.ops [mv 4 (k 5)] [])
    (.ret))
    (.skip)))
   (.seq (.draw (.take (fa 46 6 (t 2)) (.take (l1 47 (t 46)) (.take (o 48 (.len (t 47))) (.take (fa 49 1 (t 2)) (.take (fa 50 0 (t 49)) (.take (l1 51 (t 50)) (.take (o 52 (.ibin .geq (t 48) (t 51))) (.take (os 53 (.mov (t 52))) (.take (gf 53 54 (.load true 9 (t 2))) (.take (gf 53 56 (.faddr 1 (t 3))) (.take (gf 53 57 (.faddr 4 (t 56))) (.take (gf 53 58 (.load false 1 (t 57))) (.take (gf 53 59 (.len (t 58))) (.take (gf 53 61 (.faddr 1 (t 2))) (.take (gf 53 62 (.faddr 1 (t 61))) (.take (gf 53 63 (.load false 1 (t 62))) (.alt (gf 53 55 (.call (fn F.ref15_Bytes) [(t 54)])) true
    (.take (gf 53 60 (.ibin .add (t 55) (t 59))) (.take (gf 53 64 (.ibin .gtr (t 60) (t 63))) (.take (o 65 (.pick (t 53) (kb true) (t 64))) (.done))))
    (.none)))))))))))))))))) [2, 3, 46, 47, 48, 49, 50, 51, 52, 53, 54, 55, 56, 57, 58, 59, 60, 61, 62, 63, 64])
   (.cond (t 65)
    (.seq (.ops [mv 4 (k 6)] [])
    (.ret))
    (.skip)))))
   (.seq (.ops [o 67 (.ibin .eql (t 15) (k 3)),
   mv 66 (t 67)] [67])
   (.cond (t 66)
    (.seq (.ops [fa 68 6 (t 2),
    l1 69 (t 68),
    la 70 4 (t 5),
    ca 71 F.ref13_Has [(t 69), (t 70)],
    o 72 (.not (t 71))] [2, 5, 68, 69, 70, 71])
    (.cond (t 72)
     (.seq (.ops [mv 4 (k 4)] [])
     (.ret))
     (.skip)))
    (.seq (.ops [o 74 (.ibin .eql (t 15) (k 4)),
    mv 73 (t 74)] [15, 74])
    (.cond (t 73)
     (.seq (.seq (.ops [fa 75 1 (t 5),
     l1 76 (t 75),
     fa 77 0 (t 2),
     l1 78 (t 77),
     o 79 (.ibin .neq (t 76) (t 78))] [75, 76, 77, 78])
     (.cond (t 79)
      (.seq (.ops [mv 4 (k 2)] [])
      (.ret))
      (.skip)))
     (.seq (.ops [fa 80 7 (t 2),
     la 81 2 (t 80),
     la 82 4 (t 5),
     ca 83 F.ref14_May [(t 81), (t 82)],
     mv 4 (t 83)] [2, 5, 80, 81, 82, 83])
     (.ret)))
     (.skip)))))))))))
 (.seq (.ops [mv 4 (k 0)] [])
 (.ret)))))
def r_ref15_May : List RRes := [.tmp 4]
theorem fo_ref15_May {args : List Value} {M : Mem} {R : Value → Mem → Prop} (hn : args.length ≤ 84) (h : vfn Tryz.prog c_ref15_May r_ref15_May args M R) : CallsM Tryz.prog F.ref15_May args M R :=
  fn_ok (kf := k_ref15_May) Tryz.func25 (by kernel_rfl) (by kernel_rfl) hn (by kernel_rfl) h
/-- portage/portageref15.Last -/
def k_ref15_Last (i : Nat) : List Nat := match i with | 0 => [0, 4] | 2 => [6, 7, 8, 9] | 4 => [13, 14, 15, 16, 17, 18, 19] | 5 => [2, 5, 21, 22, 23, 24, 25, 26] | 3 => [11, 12] | _ => []
def c_ref15_Last : RCode :=
 .seq (.ops [o 2 (.box 37 (t 0)),
 mv 4 (k 0)] [0, 4])
 (.seq (.seq (.ops [mv 5 (k 0)] [])
 (.block 0 (.loop (.seq (.seq (.ops [mv 6 (t 5),
  fa 7 5 (t 2),
  l1 8 (t 7),
  o 9 (.len (t 8)),
  o 10 (.ibin .lss (t 6) (t 9))] [6, 7, 8, 9])
  (.cond (t 10)
   (.skip)
   (.exit 0)))
  (.seq (.block 1 (.seq (.ops [fa 13 5 (t 2),
  l1 14 (t 13),
  mv 15 (t 5),
  o 16 (.iaddr 2 (t 14) (t 15)),
  fa 17 0 (t 16),
  l1 18 (t 17),
  mv 19 (t 1),
  o 20 (.ibin .eql (t 18) (t 19))] [13, 14, 15, 16, 17, 18, 19])
  (.cond (t 20)
   (.seq (.ops [fa 21 5 (t 2),
   l1 22 (t 21),
   mv 23 (t 5),
   o 24 (.iaddr 2 (t 22) (t 23)),
   fa 25 1 (t 24),
   l1 26 (t 25),
   mv 4 (t 26)] [2, 5, 21, 22, 23, 24, 25, 26])
   (.ret))
   (.skip))))
  (.ops [mv 11 (t 5),
  ad 12 (t 11) (k 1),
  mv 5 (t 12)] [11, 12]))))))
 (.seq (.ops [mv 4 (k 0)] [])
 (.ret)))
def r_ref15_Last : List RRes := [.tmp 4]
theorem fo_ref15_Last {args : List Value} {M : Mem} {R : Value → Mem → Prop} (hn : args.length ≤ 27) (h : vfn Tryz.prog c_ref15_Last r_ref15_Last args M R) : CallsM Tryz.prog F.ref15_Last args M R :=
  fn_ok (kf := k_ref15_Last) Tryz.func26 (by kernel_rfl) (by kernel_rfl) hn (by kernel_rfl) h
/-- portage/portageref15.use -/
def k_ref15_use (i : Nat) : List Nat := match i with | 0 => [1, 4] | 1 => [8] | 4 => [9, 10, 11] | 6 => [15, 16, 17, 18, 19, 20, 21] | 7 => [23, 24, 25, 26, 27, 28, 29, 30, 31, 32, 33] | 8 => [35, 36, 37, 38] | 10 => [39, 40, 41, 42, 43, 44, 45] | 5 => [13, 14] | 11 => [6, 46] | 12 => [3, 48, 49, 50, 51] | 13 => [5, 52] | _ => []
def c_ref15_use : RCode :=
 .seq (.ops [o 3 (.box 62 (t 1)),
 mv 4 (.const sn)] [1, 4])
 (.seq (.ops [o 8 (.mkSl false 62 0 [] []),
 mv 5 (t 8)] [8])
 (.seq (.ops [mv 6 (kb false)] [])
 (.seq (.seq (.ops [mv 7 (k 0)] [])
 (.block 0 (.loop (.seq (.seq (.ops [mv 9 (t 7),
  mv 10 (t 0),
  o 11 (.len (t 10)),
  o 12 (.ibin .lss (t 9) (t 11))] [9, 10, 11])
  (.cond (t 12)
   (.skip)
   (.exit 0)))
  (.seq (.block 1 (.seq (.seq (.draw (.take (mv 15 (t 0)) (.take (mv 16 (t 7)) (.take (o 17 (.iaddr 2 (t 15) (t 16))) (.take (fa 18 0 (t 17)) (.take (l1 19 (t 18)) (.take (fa 20 0 (t 3)) (.take (l1 21 (t 20)) (.take (o 22 (.ibin .eql (t 19) (t 21))) (.done))))))))) [15, 16, 17, 18, 19, 20, 21])
  (.cond (t 22)
   (.exit 1)
   (.skip)))
  (.seq (.seq (.draw (.take (mv 23 (t 6)) (.take (o 24 (.not (t 23))) (.take (os 25 (.mov (t 24))) (.take (gt 25 26 (.faddr 0 (t 3))) (.take (gt 25 27 (.load false 1 (t 26))) (.take (gt 25 28 (.mov (t 0))) (.take (gt 25 29 (.mov (t 7))) (.take (gt 25 30 (.iaddr 2 (t 28) (t 29))) (.take (gt 25 31 (.faddr 0 (t 30))) (.take (gt 25 32 (.load false 1 (t 31))) (.take (gt 25 33 (.ibin .lss (t 27) (t 32))) (.take (o 34 (.pick (t 25) (t 33) (kb false))) (.done))))))))))))) [23, 24, 25, 26, 27, 28, 29, 30, 31, 32, 33])
  (.cond (t 34)
   (.seq (.ops [mv 35 (t 5),
   la 36 2 (t 3),
   o 37 (.mkSl true 62 1 [(i 0), (i 0)] [(0, 2, (t 36))]),
   o 38 (.app 62 2 16 [(i 0), (i 0)] (t 35) (t 37)),
   mv 5 (t 38)] [35, 36, 37, 38])
   (.ops [mv 6 (kb true)] []))
   (.skip)))
  (.ops [mv 39 (t 5),
  mv 40 (t 0),
  mv 41 (t 7),
  o 42 (.iaddr 2 (t 40) (t 41)),
  la 43 2 (t 42),
  o 44 (.mkSl true 62 1 [(i 0), (i 0)] [(0, 2, (t 43))]),
  o 45 (.app 62 2 16 [(i 0), (i 0)] (t 39) (t 44)),
  mv 5 (t 45)] [39, 40, 41, 42, 43, 44, 45]))))
  (.ops [mv 13 (t 7),
  ad 14 (t 13) (k 1),
  mv 7 (t 14)] [13, 14]))))))
 (.seq (.seq (.ops [mv 46 (t 6),
 o 47 (.not (t 46))] [6, 46])
 (.cond (t 47)
  (.ops [mv 48 (t 5),
  la 49 2 (t 3),
  o 50 (.mkSl true 62 1 [(i 0), (i 0)] [(0, 2, (t 49))]),
  o 51 (.app 62 2 16 [(i 0), (i 0)] (t 48) (t 50)),
  mv 5 (t 51)] [3, 48, 49, 50, 51])
  (.skip)))
 (.seq (.ops [mv 52 (t 5),
 mv 4 (t 52)] [5, 52])
 (.ret))))))
def r_ref15_use : List RRes := [.tmp 4]
theorem fo_ref15_use {args : List Value} {M : Mem} {R : Value → Mem → Prop} (hn : args.length ≤ 53) (h : vfn Tryz.prog c_ref15_use r_ref15_use args M R) : CallsM Tryz.prog F.ref15_use args M R :=
  fn_ok (kf := k_ref15_use) Tryz.func27 (by kernel_rfl) (by kernel_rfl) hn (by kernel_rfl) h
/-- portage/portageref15.without -/
def k_ref15_without (i : Nat) : List Nat := match i with | 0 => [1, 4] | 1 => [7] | 3 => [8, 9, 10] | 5 => [14, 15, 16, 17, 18, 19] | 6 => [21, 22, 23, 24, 25, 26, 27] | 4 => [12, 13] | 7 => [5, 28] | _ => []
def c_ref15_without : RCode :=
 .seq (.ops [o 3 (.box 43 (t 1)),
 mv 4 (.const sn)] [1, 4])
 (.seq (.ops [o 7 (.mkSl false 46 0 [] []),
 mv 5 (t 7)] [7])
 (.seq (.seq (.ops [mv 6 (k 0)] [])
 (.block 0 (.loop (.seq (.seq (.ops [mv 8 (t 6),
  mv 9 (t 0),
  o 10 (.len (t 9)),
  o 11 (.ibin .lss (t 8) (t 10))] [8, 9, 10])
  (.cond (t 11)
   (.skip)
   (.exit 0)))
  (.seq (.block 1 (.seq (.draw (.take (mv 14 (t 0)) (.take (mv 15 (t 6)) (.take (o 16 (.iaddr 5 (t 14) (t 15))) (.take (fa 17 0 (t 16)) (.take (la 18 4 (t 17)) (.take (la 19 4 (t 3)) (.take (o 20 (.aeq .neq 4 (t 18) (t 19))) (.done)))))))) [14, 15, 16, 17, 18, 19])
  (.cond (t 20)
   (.ops [mv 21 (t 5),
   mv 22 (t 0),
   mv 23 (t 6),
   o 24 (.iaddr 5 (t 22) (t 23)),
   la 25 5 (t 24),
   o 26 (.mkSl true 46 1 [(i 0), (i 0), (i 0), (i 0), sn] [(0, 5, (t 25))]),
   o 27 (.app 46 5 56 [(i 0), (i 0), (i 0), (i 0), sn] (t 21) (t 26)),
   mv 5 (t 27)] [21, 22, 23, 24, 25, 26, 27])
   (.skip))))
  (.ops [mv 12 (t 6),
  ad 13 (t 12) (k 1),
  mv 6 (t 13)] [12, 13]))))))
 (.seq (.ops [mv 28 (t 5),
 mv 4 (t 28)] [5, 28])
 (.ret))))
def r_ref15_without : List RRes := [.tmp 4]
theorem fo_ref15_without {args : List Value} {M : Mem} {R : Value → Mem → Prop} (hn : args.length ≤ 29) (h : vfn Tryz.prog c_ref15_without r_ref15_without args M R) : CallsM Tryz.prog F.ref15_without args M R :=
  fn_ok (kf := k_ref15_without) Tryz.func28 (by kernel_rfl) (by kernel_rfl) hn (by kernel_rfl) h
/-- portage/portageref14.Add -/
def k_ref14_Add (i : Nat) : List Nat := match i with | 0 => [0, 1, 5] | 1 => [6, 7, 8] | 2 => [2, 3, 10, 11, 12, 13] | 3 => [2, 3, 14, 15, 16, 17, 18, 19, 20, 21, 22, 23, 24, 25, 26] | _ => []
def c_ref14_Add : RCode :=
 .seq (.ops [o 2 (.box 35 (t 0)),
 o 3 (.box 43 (t 1)),
 o 4 (.alloc 35 [(i 0), sn]),
 mv 5 (k 0)] [0, 1, 5])
 (.seq (.seq (.ops [la 6 2 (t 2),
 la 7 4 (t 3),
 ca 8 F.ref14_May [(t 6), (t 7)],
 o 9 (.ibin .neq (t 8) (k 0))] [6, 7, 8])
 (.cond (t 9)
  (.seq (.draw (.take (la 10 2 (t 2)) (.take (la 11 2 (t 2)) (.take (la 12 4 (t 3)) (.alt (ca 13 F.ref14_May [(t 11), (t 12)]) true
   (.alt (st 2 (t 4) (t 10)) false
    (.take (mv 5 (t 13)) (.done))
    (.none))
   (.none))))) [2, 3, 10, 11, 12, 13])
  (.ret))
  (.skip)))
 (.seq (.draw (.take (fa 14 0 (t 2)) (.take (l1 15 (t 14)) (.take (fa 16 1 (t 2)) (.take (l1 17 (t 16)) (.take (fa 18 0 (t 3)) (.take (l1 19 (t 18)) (.take (fa 20 2 (t 3)) (.take (l1 21 (t 20)) (.take (fa 22 3 (t 3)) (.take (l1 23 (t 22)) (.take (o 24 (.build [(i 0), (i 0), (i 0)] [(0, 1, (t 19)), (1, 1, (t 21)), (2, 1, (t 23))])) (.alt (ca 25 F.ref14_put [(t 17), (t 24)]) true
  (.take (o 26 (.build [(i 0), sn] [(0, 1, (t 15)), (1, 1, (t 25))])) (.alt (st 2 (t 4) (t 26)) false
   (.take (mv 5 (k 0)) (.done))
   (.none)))
  (.none))))))))))))) [2, 3, 14, 15, 16, 17, 18, 19, 20, 21, 22, 23, 24, 25, 26])
 (.ret)))
def r_ref14_Add : List RRes := [.cell true 2 4, .tmp 5]
theorem fo_ref14_Add {args : List Value} {M : Mem} {R : Value → Mem → Prop} (hn : args.length ≤ 27) (h : vfn Tryz.prog c_ref14_Add r_ref14_Add args M R) : CallsM Tryz.prog F.ref14_Add args M R :=
  fn_ok (kf := k_ref14_Add) Tryz.func29 (by kernel_rfl) (by kernel_rfl) hn (by kernel_rfl) h
/-- (*portage/seen.Set).Add -/
def k_seen_Set_Add (i : Nat) : List Nat := match i with | 0 => [1, 4] | 1 => [9, 10, 11] | 2 => [12] | 3 => [5, 14] | 4 => [15, 16, 17] | 5 => [0, 18, 19, 20, 21, 22, 23, 24, 25, 26, 27] | 6 => [8, 28, 29, 30, 31, 32, 33, 34, 35, 36, 37] | 7 => [3, 7, 38, 39, 40, 41, 42, 43, 44, 45, 46, 47, 48, 49] | 8 => [50, 51, 52, 53, 54, 55, 56, 57, 58, 59, 60, 61, 62, 63, 64, 65, 66, 67, 68] | 9 => [70, 71, 72, 73, 74, 75, 76] | 10 => [77, 78, 79, 80, 81, 82, 83, 84, 85, 86, 87, 88, 89, 90, 91, 92, 93, 94] | _ => []
def c_seen_Set_Add : RCode :=
 .seq (.ops [o 3 (.box 43 (t 1)),
 mv 4 (k 0)] [1, 4])
 (.seq (.seq (.ops [mv 9 (t 0),
 la 10 4 (t 3),
 ca 11 F.seen_Set_May [(t 9), (t 10)],
 mv 5 (t 11)] [9, 10, 11])
 (.seq (.ops [mv 12 (t 5),
 o 13 (.ibin .neq (t 12) (k 0))] [12])
 (.cond (t 13)
  (.seq (.ops [mv 14 (t 5),
  mv 4 (t 14)] [5, 14])
  (.ret))
  (.skip))))
 (.seq (.ops [mv 15 (t 0),
 la 16 4 (t 3),
 ca 17 F.seen_Set_of [(t 15), (t 16)],
 mv 6 (t 17)] [15, 16, 17])
 (.seq (.draw (.take (mv 18 (t 0)) (.take (o 19 (.nilck (t 18))) (.take (fa 20 1 (t 19)) (.take (l1 21 (t 20)) (.take (fa 22 0 (t 3)) (.take (l1 23 (t 22)) (.take (fa 24 2 (t 3)) (.take (l1 25 (t 24)) (.take (o 26 (.build [(i 0), (i 0)] [(0, 1, (t 23)), (1, 1, (t 25))])) (.take (mv 27 (t 6)) (.alt (e (.mset (.agg 2) (t 21) (t 26) (t 27))) false
  (.done)
  (.none)))))))))))) [0, 18, 19, 20, 21, 22, 23, 24, 25, 26, 27])
 (.seq (.draw (.take (mv 29 (t 6)) (.take (o 30 (.nilck (t 29))) (.take (fa 31 1 (t 30)) (.take (l1 32 (t 31)) (.take (fa 33 3 (t 3)) (.take (l1 34 (t 33)) (.alt (ca 35 F.slices_BinarySearch_int_int [(t 32), (t 34)]) false
  (.take (mv 28 (t 35)) (.take (ex 36 (t 28) 0) (.take (ex 37 (t 28) 1) (.take (mv 7 (t 36)) (.take (mv 8 (t 37)) (.done))))))
  (.none)))))))) [8, 28, 29, 30, 31, 32, 33, 34, 35, 36, 37])
 (.seq (.draw (.take (mv 38 (t 6)) (.take (mv 39 (t 6)) (.take (o 40 (.nilck (t 39))) (.take (fa 41 1 (t 40)) (.take (l1 42 (t 41)) (.take (mv 43 (t 7)) (.take (fa 44 3 (t 3)) (.take (l1 45 (t 44)) (.alt (o 46 (.mkSl false 3 1 [(i 0)] [(0, 1, (t 45))])) false
  (.alt (ca 47 F.slices_Insert_int_int [(t 42), (t 43), (t 46)]) false
   (.take (o 48 (.nilck (t 38))) (.take (fa 49 1 (t 48)) (.alt (st 1 (t 49) (t 47)) false
    (.done)
    (.none))))
   (.none))
  (.none)))))))))) [3, 7, 38, 39, 40, 41, 42, 43, 44, 45, 46, 47, 48, 49])
 (.seq (.block 0 (.loop (.seq (.seq (.draw (.take (mv 50 (t 6)) (.take (o 51 (.nilck (t 50))) (.take (fa 52 1 (t 51)) (.take (l1 53 (t 52)) (.take (o 54 (.len (t 53))) (.take (o 55 (.ibin .gtr (t 54) (k 0))) (.take (os 56 (.mov (t 55))) (.take (gt 56 57 (.mov (t 6))) (.take (gt 56 58 (.nilck (t 57))) (.take (gt 56 59 (.faddr 1 (t 58))) (.take (gt 56 60 (.load false 1 (t 59))) (.take (gt 56 61 (.iaddr 1 (t 60) (k 0))) (.take (gt 56 62 (.load false 1 (t 61))) (.take (gt 56 63 (.mov (t 6))) (.take (gt 56 64 (.nilck (t 63))) (.take (gt 56 65 (.faddr 0 (t 64))) (.take (gt 56 66 (.load false 1 (t 65))) (.take (gt 56 67 (.ibin .add (t 66) (k 1))) (.take (gt 56 68 (.ibin .eql (t 62) (t 67))) (.take (o 69 (.pick (t 56) (t 68) (kb false))) (.done))))))))))))))))))))) [50, 51, 52, 53, 54, 55, 56, 57, 58, 59, 60, 61, 62, 63, 64, 65, 66, 67, 68])
  (.cond (t 69)
   (.skip)
   (.exit 0)))
  (.block 1 (.seq (.ops [mv 70 (t 6),
  o 71 (.nilck (t 70)),
  fa 72 0 (t 71),
  l1 73 (t 72),
  ad 74 (t 73) (k 1),
  o 75 (.nilck (t 70)),
  fa 76 0 (t 75),
  st 1 (t 76) (t 74)] [70, 71, 72, 73, 74, 75, 76])
  (.draw (.take (mv 77 (t 6)) (.take (mv 78 (t 6)) (.take (o 79 (.nilck (t 78))) (.take (fa 80 1 (t 79)) (.take (l1 81 (t 80)) (.take (mv 82 (t 6)) (.take (o 83 (.nilck (t 82))) (.take (fa 84 1 (t 83)) (.take (l1 85 (t 84)) (.take (o 86 (.len (t 85))) (.take (mv 87 (t 6)) (.take (o 88 (.nilck (t 87))) (.take (fa 89 1 (t 88)) (.take (l1 90 (t 89)) (.take (o 91 (.len (t 90))) (.take (o 92 (.slx3 1 (t 81) (k 1) (t 86) (t 91))) (.take (o 93 (.nilck (t 77))) (.take (fa 94 1 (t 93)) (.alt (st 1 (t 94) (t 92)) false
   (.done)
   (.none)))))))))))))))))))) [77, 78, 79, 80, 81, 82, 83, 84, 85, 86, 87, 88, 89, 90, 91, 92, 93, 94]))))))
 (.seq (.ops [mv 4 (k 0)] [])
 (.ret))))))))
def r_seen_Set_Add : List RRes := [.tmp 4]
theorem fo_seen_Set_Add {args : List Value} {M : Mem} {R : Value → Mem → Prop} (hn : args.length ≤ 95) (h : vfn Tryz.prog c_seen_Set_Add r_seen_Set_Add args M R) : CallsM Tryz.prog F.seen_Set_Add args M R :=
  fn_ok (kf := k_seen_Set_Add) Tryz.func30 (by kernel_rfl) (by kernel_rfl) hn (by kernel_rfl) h
/-- portage/portageref15.SameState -/
def k_ref15_SameState (i : Nat) : List Nat := match i with | 0 => [0, 1, 4] | 1 => [6, 7, 8, 9, 10, 11, 12, 13, 14, 15, 16, 17, 18, 19, 20, 21, 22, 23, 24, 25] | 4 => [27, 28, 29, 30] | 6 => [34, 35, 36, 37, 38, 39, 40, 41, 42, 43] | 5 => [32, 33] | 8 => [2, 3, 45, 46, 47, 48, 49, 50, 51, 52, 53, 54, 55, 56] | _ => []
def c_ref15_SameState : RCode :=
 .seq (.ops [o 2 (.box 59 (t 0)),
 o 3 (.box 59 (t 1)),
 mv 4 (kb false)] [0, 1, 4])
 (.seq (.seq (.ops [fa 6 0 (t 2),
 l1 7 (t 6),
 fa 8 0 (t 3),
 l1 9 (t 8),
 o 10 (.ibin .neq (t 7) (t 9)),
 os 11 (.mov (t 10)),
 gf 11 12 (.faddr 1 (t 2)),
 gf 11 13 (.load false 1 (t 12)),
 gf 11 14 (.faddr 1 (t 3)),
 gf 11 15 (.load false 1 (t 14)),
 gf 11 16 (.ibin .neq (t 13) (t 15)),
 o 17 (.pick (t 11) (kb true) (t 16)),
 os 18 (.mov (t 17)),
 gf 18 19 (.faddr 2 (t 2)),
 gf 18 20 (.load false 1 (t 19)),
 gf 18 21 (.len (t 20)),
 gf 18 22 (.faddr 2 (t 3)),
 gf 18 23 (.load false 1 (t 22)),
 gf 18 24 (.len (t 23)),
 gf 18 25 (.ibin .neq (t 21) (t 24)),
 o 26 (.pick (t 18) (kb true) (t 25))] [6, 7, 8, 9, 10, 11, 12, 13, 14, 15, 16, 17, 18, 19, 20, 21, 22, 23, 24, 25])
 (.cond (t 26)
  (.seq (.ops [mv 4 (kb false)] [])
  (.ret))
  (.skip)))
 (.seq (.seq (.ops [mv 5 (k 0)] [])
 (.block 0 (.loop (.seq (.seq (.ops [mv 27 (t 5),
  fa 28 2 (t 2),
  l1 29 (t 28),
  o 30 (.len (t 29)),
  o 31 (.ibin .lss (t 27) (t 30))] [27, 28, 29, 30])
  (.cond (t 31)
   (.skip)
   (.exit 0)))
  (.seq (.block 1 (.seq (.draw (.take (fa 34 2 (t 2)) (.take (l1 35 (t 34)) (.take (mv 36 (t 5)) (.take (o 37 (.iaddr 2 (t 35) (t 36))) (.take (la 38 2 (t 37)) (.take (fa 39 2 (t 3)) (.take (l1 40 (t 39)) (.take (mv 41 (t 5)) (.take (o 42 (.iaddr 2 (t 40) (t 41))) (.take (la 43 2 (t 42)) (.take (o 44 (.aeq .neq 2 (t 38) (t 43))) (.done)))))))))))) [34, 35, 36, 37, 38, 39, 40, 41, 42, 43])
  (.cond (t 44)
   (.seq (.ops [mv 4 (kb false)] [])
   (.ret))
   (.skip))))
  (.ops [mv 32 (t 5),
  ad 33 (t 32) (k 1),
  mv 5 (t 33)] [32, 33]))))))
 (.seq (.ops [fa 45 3 (t 2),
 l1 46 (t 45),
 fa 47 3 (t 3),
 l1 48 (t 47),
 ca 49 F.ref13_SameAll [(t 46), (t 48)],
 os 50 (.mov (t 49)),
 gt 50 51 (.faddr 4 (t 2)),
 gt 50 52 (.load false 1 (t 51)),
 gt 50 53 (.faddr 4 (t 3)),
 gt 50 54 (.load false 1 (t 53)),
 gt 50 55 (.call (fn F.ref14_SameMarks) [(t 52), (t 54)]),
 o 56 (.pick (t 50) (t 55) (kb false)),
 mv 4 (t 56)] [2, 3, 45, 46, 47, 48, 49, 50, 51, 52, 53, 54, 55, 56])
 (.ret))))
def r_ref15_SameState : List RRes := [.tmp 4]
theorem fo_ref15_SameState {args : List Value} {M : Mem} {R : Value → Mem → Prop} (hn : args.length ≤ 57) (h : vfn Tryz.prog c_ref15_SameState r_ref15_SameState args M R) : CallsM Tryz.prog F.ref15_SameState args M R :=
  fn_ok (kf := k_ref15_SameState) Tryz.func31 (by kernel_rfl) (by kernel_rfl) hn (by kernel_rfl) h
/-- portage/portageref15.State -/
def k_ref15_State (i : Nat) : List Nat := match i with | 0 => [0] | 1 => [1, 3, 4, 5, 6, 7, 8, 9, 10, 11, 12, 13, 14] | _ => []
def c_ref15_State : RCode :=
 .seq (.ops [o 1 (.box 37 (t 0)),
 o 2 (.alloc 59 [(i 0), (i 0), sn, sn, sn])] [0])
 (.seq (.draw (.take (fa 3 0 (t 1)) (.take (l1 4 (t 3)) (.take (fa 5 4 (t 1)) (.take (l1 6 (t 5)) (.take (fa 7 5 (t 1)) (.take (l1 8 (t 7)) (.take (fa 9 6 (t 1)) (.take (l1 10 (t 9)) (.take (fa 11 7 (t 1)) (.take (la 12 2 (t 11)) (.alt (ca 13 F.ref14_Marks [(t 12)]) true
  (.take (o 14 (.build [(i 0), (i 0), sn, sn, sn] [(0, 1, (t 4)), (1, 1, (t 6)), (2, 1, (t 8)), (3, 1, (t 10)), (4, 1, (t 13))])) (.alt (st 5 (t 2) (t 14)) false
   (.done)
   (.none)))
  (.none)))))))))))) [1, 3, 4, 5, 6, 7, 8, 9, 10, 11, 12, 13, 14])
 (.ret))
def r_ref15_State : List RRes := [.cell true 5 2]
theorem fo_ref15_State {args : List Value} {M : Mem} {R : Value → Mem → Prop} (hn : args.length ≤ 15) (h : vfn Tryz.prog c_ref15_State r_ref15_State args M R) : CallsM Tryz.prog F.ref15_State args M R :=
  fn_ok (kf := k_ref15_State) Tryz.func32 (by kernel_rfl) (by kernel_rfl) hn (by kernel_rfl) h
/-- portage/portageref13.SameAll -/
def k_ref13_SameAll (i : Nat) : List Nat := match i with | 0 => [4] | 1 => [6, 7, 8, 9] | 4 => [11, 12, 13] | 6 => [17, 18, 19, 20, 21, 22, 23, 24, 25] | 5 => [15, 16] | _ => []
def c_ref13_SameAll : RCode :=
 .seq (.ops [mv 4 (kb false)] [4])
 (.seq (.seq (.ops [mv 6 (t 0),
 o 7 (.len (t 6)),
 mv 8 (t 1),
 o 9 (.len (t 8)),
 o 10 (.ibin .neq (t 7) (t 9))] [6, 7, 8, 9])
 (.cond (t 10)
  (.seq (.ops [mv 4 (kb false)] [])
  (.ret))
  (.skip)))
 (.seq (.seq (.ops [mv 5 (k 0)] [])
 (.block 0 (.loop (.seq (.seq (.ops [mv 11 (t 5),
  mv 12 (t 0),
  o 13 (.len (t 12)),
  o 14 (.ibin .lss (t 11) (t 13))] [11, 12, 13])
  (.cond (t 14)
   (.skip)
   (.exit 0)))
  (.seq (.block 1 (.seq (.draw (.take (mv 17 (t 0)) (.take (mv 18 (t 5)) (.take (o 19 (.iaddr 5 (t 17) (t 18))) (.take (la 20 5 (t 19)) (.take (mv 21 (t 1)) (.take (mv 22 (t 5)) (.take (o 23 (.iaddr 5 (t 21) (t 22))) (.take (la 24 5 (t 23)) (.alt (ca 25 F.ref13_Same [(t 20), (t 24)]) false
   (.take (o 26 (.not (t 25))) (.done))
   (.none)))))))))) [17, 18, 19, 20, 21, 22, 23, 24, 25])
  (.cond (t 26)
   (.seq (.ops [mv 4 (kb false)] [])
   (.ret))
   (.skip))))
  (.ops [mv 15 (t 5),
  ad 16 (t 15) (k 1),
  mv 5 (t 16)] [15, 16]))))))
 (.seq (.ops [mv 4 (kb true)] [])
 (.ret))))
def r_ref13_SameAll : List RRes := [.tmp 4]
theorem fo_ref13_SameAll {args : List Value} {M : Mem} {R : Value → Mem → Prop} (hn : args.length ≤ 27) (h : vfn Tryz.prog c_ref13_SameAll r_ref13_SameAll args M R) : CallsM Tryz.prog F.ref13_SameAll args M R :=
  fn_ok (kf := k_ref13_SameAll) Tryz.func33 (by kernel_rfl) (by kernel_rfl) hn (by kernel_rfl) h
/-- (*portage/store.Store).Bytes -/
def k_store_Store_Bytes (i : Nat) : List Nat := match i with | 0 => [2] | 1 => [3] | 3 => [0, 5, 6, 7, 8] | _ => []
def c_store_Store_Bytes : RCode :=
 .seq (.ops [mv 2 (k 0)] [2])
 (.seq (.seq (.ops [mv 3 (t 0),
 o 4 (.pnil .eql (t 3) (.const (.pointer none)))] [3])
 (.cond (t 4)
  (.seq (.ops [mv 2 (k 0)] [])
  (.ret))
  (.skip)))
 (.seq (.ops [mv 5 (t 0),
 o 6 (.nilck (t 5)),
 fa 7 71 (t 6),
 l1 8 (t 7),
 mv 2 (t 8)] [0, 5, 6, 7, 8])
 (.ret)))
def r_store_Store_Bytes : List RRes := [.tmp 2]
theorem fo_store_Store_Bytes {args : List Value} {M : Mem} {R : Value → Mem → Prop} (hn : args.length ≤ 9) (h : vfn Tryz.prog c_store_Store_Bytes r_store_Store_Bytes args M R) : CallsM Tryz.prog F.store_Store_Bytes args M R :=
  fn_ok (kf := k_store_Store_Bytes) Tryz.func34 (by kernel_rfl) (by kernel_rfl) hn (by kernel_rfl) h
/-- portage/portageref15.Bytes -/
def k_ref15_Bytes (i : Nat) : List Nat := match i with | 0 => [0, 2] | 3 => [5, 6, 7, 8] | 5 => [12, 13, 14, 15, 16, 17, 18, 19, 20] | 4 => [10, 11] | 6 => [3, 21] | _ => []
def c_ref15_Bytes : RCode :=
 .seq (.ops [o 1 (.box 37 (t 0)),
 mv 2 (k 0)] [0, 2])
 (.seq (.ops [mv 3 (k 0)] [])
 (.seq (.seq (.ops [mv 4 (k 0)] [])
 (.block 0 (.loop (.seq (.seq (.ops [mv 5 (t 4),
  fa 6 6 (t 1),
  l1 7 (t 6),
  o 8 (.len (t 7)),
  o 9 (.ibin .lss (t 5) (t 8))] [5, 6, 7, 8])
  (.cond (t 9)
   (.skip)
   (.exit 0)))
  (.seq (.block 1 (.ops [mv 12 (t 3),
  fa 13 6 (t 1),
  l1 14 (t 13),
  mv 15 (t 4),
  o 16 (.iaddr 5 (t 14) (t 15)),
  fa 17 4 (t 16),
  l1 18 (t 17),
  o 19 (.len (t 18)),
  ad 20 (t 12) (t 19),
  mv 3 (t 20)] [12, 13, 14, 15, 16, 17, 18, 19, 20]))
  (.ops [mv 10 (t 4),
  ad 11 (t 10) (k 1),
  mv 4 (t 11)] [10, 11]))))))
 (.seq (.ops [mv 21 (t 3),
 mv 2 (t 21)] [3, 21])
 (.ret))))
def r_ref15_Bytes : List RRes := [.tmp 2]
theorem fo_ref15_Bytes {args : List Value} {M : Mem} {R : Value → Mem → Prop} (hn : args.length ≤ 22) (h : vfn Tryz.prog c_ref15_Bytes r_ref15_Bytes args M R) : CallsM Tryz.prog F.ref15_Bytes args M R :=
  fn_ok (kf := k_ref15_Bytes) Tryz.func35 (by kernel_rfl) (by kernel_rfl) hn (by kernel_rfl) h
/-- (*portage/store.Store).Epoch -/
def k_store_Store_Epoch (i : Nat) : List Nat := match i with | 0 => [2] | 1 => [3] | 3 => [0, 5, 6, 7, 8] | _ => []
def c_store_Store_Epoch : RCode :=
 .seq (.ops [mv 2 (k 0)] [2])
 (.seq (.seq (.ops [mv 3 (t 0),
 o 4 (.pnil .eql (t 3) (.const (.pointer none)))] [3])
 (.cond (t 4)
  (.seq (.ops [mv 2 (k 0)] [])
  (.ret))
  (.skip)))
 (.seq (.ops [mv 5 (t 0),
 o 6 (.nilck (t 5)),
 fa 7 4 (t 6),
 l1 8 (t 7),
 mv 2 (t 8)] [0, 5, 6, 7, 8])
 (.ret)))
def r_store_Store_Epoch : List RRes := [.tmp 2]
theorem fo_store_Store_Epoch {args : List Value} {M : Mem} {R : Value → Mem → Prop} (hn : args.length ≤ 9) (h : vfn Tryz.prog c_store_Store_Epoch r_store_Store_Epoch args M R) : CallsM Tryz.prog F.store_Store_Epoch args M R :=
  fn_ok (kf := k_store_Store_Epoch) Tryz.func36 (by kernel_rfl) (by kernel_rfl) hn (by kernel_rfl) h
/-- slices.SortFunc[[]portage/store.place,portage/store.place] -/
def k_slices_SortFunc_store_place_store_place (i : Nat) : List Nat := match i with | 0 => [5, 6] | 1 => [0, 1, 4, 7, 8, 9, 10, 11, 12, 13] | _ => []
def c_slices_SortFunc_store_place_store_place : RCode :=
 .seq (.ops [mv 5 (t 0),
 o 6 (.len (t 5)),
 mv 4 (t 6)] [5, 6])
 (.ops [mv 7 (t 0),
 mv 8 (t 4),
 mv 9 (t 4),
 o 10 (.conv .u64 (t 9)),
 ca 11 F.math_bits_Len [(t 10)],
 mv 12 (t 1),
 ca 13 F.slices_pdqsortCmpFunc_store_place [(t 7), (k 0), (t 8), (t 11), (t 12)]] [0, 1, 4, 7, 8, 9, 10, 11, 12, 13])
def r_slices_SortFunc_store_place_store_place : List RRes := []
theorem fo_slices_SortFunc_store_place_store_place {args : List Value} {M : Mem} {R : Value → Mem → Prop} (hn : args.length ≤ 14) (h : vfn Tryz.prog c_slices_SortFunc_store_place_store_place r_slices_SortFunc_store_place_store_place args M R) : CallsM Tryz.prog F.slices_SortFunc_store_place_store_place args M R :=
  fn_ok (kf := k_slices_SortFunc_store_place_store_place) Tryz.func37 (by kernel_rfl) (by kernel_rfl) hn (by kernel_rfl) h
/-- (*portage/store.Store).Held$1 -/
def k_store_Store_Held_1 (i : Nat) : List Nat := match i with | 0 => [0, 1, 4] | 1 => [2, 3, 5, 6, 7, 8, 9] | _ => []
def c_store_Store_Held_1 : RCode :=
 .seq (.ops [o 2 (.box 86 (t 0)),
 o 3 (.box 86 (t 1)),
 mv 4 (k 0)] [0, 1, 4])
 (.seq (.ops [fa 5 5 (t 2),
 l1 6 (t 5),
 fa 7 5 (t 3),
 l1 8 (t 7),
 o 9 (.ibin .sub (t 6) (t 8)),
 mv 4 (t 9)] [2, 3, 5, 6, 7, 8, 9])
 (.ret))
def r_store_Store_Held_1 : List RRes := [.tmp 4]
theorem fo_store_Store_Held_1 {args : List Value} {M : Mem} {R : Value → Mem → Prop} (hn : args.length ≤ 10) (h : vfn Tryz.prog c_store_Store_Held_1 r_store_Store_Held_1 args M R) : CallsM Tryz.prog F.store_Store_Held_1 args M R :=
  fn_ok (kf := k_store_Store_Held_1) Tryz.func38 (by kernel_rfl) (by kernel_rfl) hn (by kernel_rfl) h
/-- (*portage/seen.Set).Marks -/
def k_seen_Set_Marks (i : Nat) : List Nat := match i with | 0 => [2] | 1 => [6] | 4 => [0, 8, 9, 10, 11] | 5 => [13] | 6 => [15, 16, 17] | 7 => [4, 5, 18, 19, 20, 21, 22, 23, 24, 25, 26, 27, 28, 29, 30, 31, 32, 33, 34, 35] | 8 => [36, 37] | 9 => [3, 38] | _ => []
def c_seen_Set_Marks : RCode :=
 .seq (.ops [mv 2 (.const sn)] [2])
 (.seq (.seq (.ops [mv 6 (t 0),
 o 7 (.pnil .eql (t 6) (.const (.pointer none)))] [6])
 (.cond (t 7)
  (.seq (.ops [mv 2 (.const sn)] [])
  (.ret))
  (.skip)))
 (.seq (.ops [mv 3 (.const sn)] [])
 (.seq (.seq (.ops [mv 8 (t 0),
 o 9 (.nilck (t 8)),
 fa 10 1 (t 9),
 l1 11 (t 10),
 o 12 (.mrange (t 11))] [0, 8, 9, 10, 11])
 (.block 0 (.loop (.seq (.ops [o 13 (.mnext (t 12)),
  ex 14 (t 13) 0] [13])
  (.seq (.cond (t 14)
   (.skip)
   (.exit 0))
  (.block 1 (.seq (.ops [o 15 (.mentry (t 12)),
  ex 16 (t 15) 0,
  ex 17 (t 15) 1,
  o 4 (.alloc 113 [(i 0), (i 0)]),
  st 2 (t 4) (t 16),
  mv 5 (t 17)] [15, 16, 17])
  (.draw (.take (mv 18 (t 3)) (.take (o 19 (.iaddrA 2 1 (t 4) (k 0))) (.take (l1 20 (t 19)) (.take (o 21 (.iaddrA 2 1 (t 4) (k 1))) (.take (l1 22 (t 21)) (.take (mv 23 (t 5)) (.take (o 24 (.nilck (t 23))) (.take (fa 25 0 (t 24)) (.take (l1 26 (t 25)) (.take (mv 28 (t 5)) (.take (o 29 (.nilck (t 28))) (.take (fa 30 1 (t 29)) (.take (l1 31 (t 30)) (.alt (o 27 (.mkSl false 3 0 [] [])) false
   (.alt (o 32 (.app 3 1 8 [(i 0)] (t 27) (t 31))) true
    (.take (o 33 (.build [(i 0), (i 0), (i 0), sn] [(0, 1, (t 20)), (1, 1, (t 22)), (2, 1, (t 26)), (3, 1, (t 32))])) (.alt (o 34 (.mkSl true 101 1 [(i 0), (i 0), (i 0), sn] [(0, 4, (t 33))])) false
     (.alt (o 35 (.app 101 4 48 [(i 0), (i 0), (i 0), sn] (t 18) (t 34))) false
      (.take (mv 3 (t 35)) (.done))
      (.none))
     (.none)))
    (.none))
   (.none))))))))))))))) [4, 5, 18, 19, 20, 21, 22, 23, 24, 25, 26, 27, 28, 29, 30, 31, 32, 33, 34, 35]))))))))
 (.seq (.ops [mv 36 (t 3),
 ca 37 F.slices_SortFunc_api_Mark_api_Mark [(t 36), (fn F.seen_Set_Marks_1)]] [36, 37])
 (.seq (.ops [mv 38 (t 3),
 mv 2 (t 38)] [3, 38])
 (.ret))))))
def r_seen_Set_Marks : List RRes := [.tmp 2]
theorem fo_seen_Set_Marks {args : List Value} {M : Mem} {R : Value → Mem → Prop} (hn : args.length ≤ 39) (h : vfn Tryz.prog c_seen_Set_Marks r_seen_Set_Marks args M R) : CallsM Tryz.prog F.seen_Set_Marks args M R :=
  fn_ok (kf := k_seen_Set_Marks) Tryz.func39 (by kernel_rfl) (by kernel_rfl) hn (by kernel_rfl) h
/-- portage/store.form -/
def k_store_form (i : Nat) : List Nat := match i with | 0 => [0, 2] | 1 => [4] | 3 => [7] | 4 => [1, 8, 9, 10, 11, 12, 13, 14, 15, 16, 17, 18] | 6 => [21] | 7 => [1, 22, 23, 24] | 8 => [26] | 9 => [5, 27] | 10 => [28, 29, 30, 31] | 11 => [32] | 12 => [3, 34] | 13 => [1, 35, 36, 37, 38] | _ => []
def c_store_form : RCode :=
 .seq (.ops [o 1 (.box 48 (t 0)),
 mv 2 (k 0)] [0, 2])
 (.seq (.seq (.ops [fa 4 0 (t 1),
 l1 5 (t 4)] [4])
 (.block 0 (.seq (.ops [o 7 (.ibin .eql (t 5) (k 1)),
 mv 6 (t 7)] [7])
 (.cond (t 6)
  (.seq (.ops [fa 8 1 (t 1),
  fa 9 0 (t 8),
  la 10 4 (t 9),
  o 11 (.build [(i 0), (i 0), (i 0), (i 0)] []),
  o 12 (.aeq .neq 4 (t 10) (t 11)),
  os 13 (.mov (t 12)),
  gf 13 14 (.faddr 1 (t 1)),
  gf 13 15 (.faddr 4 (t 14)),
  gf 13 16 (.load false 1 (t 15)),
  gf 13 17 (.len (t 16)),
  gf 13 18 (.ibin .gtr (t 17) (k 0)),
  o 19 (.pick (t 13) (kb true) (t 18))] [1, 8, 9, 10, 11, 12, 13, 14, 15, 16, 17, 18])
  (.cond (t 19)
   (.seq (.ops [mv 2 (k 2)] [])
   (.ret))
   (.skip)))
  (.seq (.ops [o 21 (.ibin .eql (t 5) (k 2)),
  mv 20 (t 21)] [21])
  (.cond (t 20)
   (.seq (.ops [fa 22 1 (t 1),
   la 23 5 (t 22),
   ca 24 F.msg_CheckMsg [(t 23)],
   mv 2 (t 24)] [1, 22, 23, 24])
   (.ret))
   (.seq (.seq (.ops [o 26 (.ibin .eql (t 5) (k 3)),
   mv 25 (t 26)] [26])
   (.cond (t 25)
    (.skip)
    (.ops [o 27 (.ibin .eql (t 5) (k 4)),
    mv 25 (t 27)] [5, 27])))
   (.cond (t 25)
    (.seq (.seq (.ops [fa 28 1 (t 1),
    fa 29 0 (t 28),
    la 30 4 (t 29),
    ca 31 F.msg_Check [(t 30)],
    mv 3 (t 31)] [28, 29, 30, 31])
    (.seq (.ops [mv 32 (t 3),
    o 33 (.ibin .neq (t 32) (k 0))] [32])
    (.cond (t 33)
     (.seq (.ops [mv 34 (t 3),
     mv 2 (t 34)] [3, 34])
     (.ret))
     (.skip))))
    (.seq (.ops [fa 35 1 (t 1),
    fa 36 4 (t 35),
    l1 37 (t 36),
    o 38 (.len (t 37)),
    o 39 (.ibin .gtr (t 38) (k 0))] [1, 35, 36, 37, 38])
    (.cond (t 39)
     (.seq (.ops [mv 2 (k 2)] [])
     (.ret))
     (.skip))))
    (.seq (.ops [mv 2 (k 1)] [])
    (.ret))))))))))
 (.seq (.ops [mv 2 (k 0)] [])
 (.ret)))
def r_store_form : List RRes := [.tmp 2]
theorem fo_store_form {args : List Value} {M : Mem} {R : Value → Mem → Prop} (hn : args.length ≤ 40) (h : vfn Tryz.prog c_store_form r_store_form args M R) : CallsM Tryz.prog F.store_form args M R :=
  fn_ok (kf := k_store_form) Tryz.func40 (by kernel_rfl) (by kernel_rfl) hn (by kernel_rfl) h
/-- (*portage/seen.Set).May -/
def k_seen_Set_May (i : Nat) : List Nat := match i with | 0 => [1, 4] | 1 => [6] | 3 => [8, 9] | 4 => [10] | 5 => [5, 12] | 6 => [13, 14] | 8 => [0, 3, 16, 17, 18, 19, 20, 21, 22, 23, 24, 25, 26, 27, 28, 29, 30, 31, 32, 33] | _ => []
def c_seen_Set_May : RCode :=
 .seq (.ops [o 3 (.box 43 (t 1)),
 mv 4 (k 0)] [1, 4])
 (.seq (.seq (.ops [mv 6 (t 0),
 o 7 (.pnil .eql (t 6) (.const (.pointer none)))] [6])
 (.cond (t 7)
  (.seq (.ops [mv 4 (k 7)] [])
  (.ret))
  (.skip)))
 (.seq (.seq (.ops [la 8 4 (t 3),
 ca 9 F.msg_Check [(t 8)],
 mv 5 (t 9)] [8, 9])
 (.seq (.ops [mv 10 (t 5),
 o 11 (.ibin .neq (t 10) (k 0))] [10])
 (.cond (t 11)
  (.seq (.ops [mv 12 (t 5),
  mv 4 (t 12)] [5, 12])
  (.ret))
  (.skip))))
 (.seq (.seq (.ops [mv 13 (t 0),
 la 14 4 (t 3),
 ca 15 F.seen_Set_Has [(t 13), (t 14)]] [13, 14])
 (.cond (t 15)
  (.seq (.ops [mv 4 (k 5)] [])
  (.ret))
  (.skip)))
 (.seq (.seq (.draw (.take (fa 16 3 (t 3)) (.take (l1 17 (t 16)) (.take (mv 18 (t 0)) (.take (la 19 4 (t 3)) (.alt (ca 20 F.seen_Set_of [(t 18), (t 19)]) true
  (.take (o 21 (.nilck (t 20))) (.take (fa 22 0 (t 21)) (.take (l1 23 (t 22)) (.take (ad 24 (t 23) (k 1)) (.take (o 25 (.ibin .neq (t 17) (t 24))) (.take (os 26 (.mov (t 25))) (.take (gt 26 27 (.mov (t 0))) (.take (gt 26 29 (.mov (t 0))) (.take (gt 26 30 (.nilck (t 29))) (.take (gt 26 31 (.faddr 0 (t 30))) (.take (gt 26 32 (.load false 1 (t 31))) (.alt (gt 26 28 (.call (fn F.seen_Set_Gaps) [(t 27)])) true
   (.take (gt 26 33 (.ibin .geq (t 28) (t 32))) (.take (o 34 (.pick (t 26) (t 33) (kb false))) (.done)))
   (.none)))))))))))))
  (.none)))))) [0, 3, 16, 17, 18, 19, 20, 21, 22, 23, 24, 25, 26, 27, 28, 29, 30, 31, 32, 33])
 (.cond (t 34)
  (.seq (.ops [mv 4 (k 6)] [])
  (.ret))
  (.skip)))
 (.seq (.ops [mv 4 (k 0)] [])
 (.ret))))))
def r_seen_Set_May : List RRes := [.tmp 4]
theorem fo_seen_Set_May {args : List Value} {M : Mem} {R : Value → Mem → Prop} (hn : args.length ≤ 35) (h : vfn Tryz.prog c_seen_Set_May r_seen_Set_May args M R) : CallsM Tryz.prog F.seen_Set_May args M R :=
  fn_ok (kf := k_seen_Set_May) Tryz.func41 (by kernel_rfl) (by kernel_rfl) hn (by kernel_rfl) h
/-- portage/store.nexts -/
def k_store_nexts (i : Nat) : List Nat := match i with | 0 => [0, 2] | 2 => [6] | 4 => [11, 12] | 5 => [3, 13, 14, 15, 16, 17, 18, 19, 20, 21, 22, 23, 24, 25, 26, 27, 28, 29, 30, 31, 32, 33, 34, 35, 36, 37, 38, 39, 40, 41, 42, 43] | 7 => [5, 45, 46] | 8 => [47] | 9 => [1, 48, 49, 50] | _ => []
def c_store_nexts : RCode :=
 .seq (.ops [o 1 (.box 59 (t 0)),
 mv 2 (kb false)] [0, 2])
 (.seq (.ops [mv 3 (k (-1))] [])
 (.seq (.seq (.ops [fa 6 2 (t 1),
 l1 7 (t 6),
 o 8 (.len (t 7)),
 mv 9 (k 0)] [6])
 (.block 0 (.loop (.seq (.ops [o 10 (.ibin .lss (t 9) (t 8))] [])
  (.seq (.cond (t 10)
   (.skip)
   (.exit 0))
  (.seq (.block 1 (.seq (.ops [o 11 (.iaddr 2 (t 7) (t 9)),
  la 12 2 (t 11),
  o 5 (.alloc 62 [(i 0), (i 0)]),
  st 2 (t 5) (t 12)] [11, 12])
  (.seq (.seq (.ops [fa 13 0 (t 5),
  l1 14 (t 13),
  mv 15 (t 3),
  o 16 (.ibin .leq (t 14) (t 15)),
  os 17 (.mov (t 16)),
  gf 17 18 (.faddr 0 (t 5)),
  gf 17 19 (.load false 1 (t 18)),
  gf 17 20 (.call (fn F.store_in) [(t 19), (k 63)]),
  gf 17 21 (.not (t 20)),
  o 22 (.pick (t 17) (kb true) (t 21)),
  os 23 (.mov (t 22)),
  gf 23 24 (.faddr 0 (t 5)),
  gf 23 25 (.load false 1 (t 24)),
  gf 23 26 (.faddr 0 (t 1)),
  gf 23 27 (.load false 1 (t 26)),
  gf 23 28 (.ibin .eql (t 25) (t 27)),
  o 29 (.pick (t 23) (kb true) (t 28)),
  os 30 (.mov (t 29)),
  gf 30 31 (.faddr 1 (t 5)),
  gf 30 32 (.load false 1 (t 31)),
  gf 30 33 (.ibin .lss (t 32) (k 1)),
  o 34 (.pick (t 30) (kb true) (t 33)),
  os 35 (.mov (t 34)),
  gf 35 36 (.faddr 1 (t 5)),
  gf 35 37 (.load false 1 (t 36)),
  gf 35 38 (.ibin .gtr (t 37) (k 65535)),
  o 39 (.pick (t 35) (kb true) (t 38)),
  os 40 (.mov (t 39)),
  gf 40 41 (.faddr 1 (t 1)),
  gf 40 42 (.load false 1 (t 41)),
  gf 40 43 (.ibin .eql (t 42) (k 0)),
  o 44 (.pick (t 40) (kb true) (t 43))] [3, 13, 14, 15, 16, 17, 18, 19, 20, 21, 22, 23, 24, 25, 26, 27, 28, 29, 30, 31, 32, 33, 34, 35, 36, 37, 38, 39, 40, 41, 42, 43])
  (.cond (t 44)
   (.seq (.ops [mv 2 (kb false)] [])
   (.ret))
   (.skip)))
  (.ops [fa 45 0 (t 5),
  l1 46 (t 45),
  mv 3 (t 46)] [5, 45, 46]))))
  (.ops [ad 47 (t 9) (k 1),
  mv 9 (t 47)] [47])))))))
 (.seq (.ops [fa 48 1 (t 1),
 l1 49 (t 48),
 ca 50 F.store_in [(t 49), (k 65535)],
 mv 2 (t 50)] [1, 48, 49, 50])
 (.ret))))
def r_store_nexts : List RRes := [.tmp 2]
theorem fo_store_nexts {args : List Value} {M : Mem} {R : Value → Mem → Prop} (hn : args.length ≤ 51) (h : vfn Tryz.prog c_store_nexts r_store_nexts args M R) : CallsM Tryz.prog F.store_nexts args M R :=
  fn_ok (kf := k_store_nexts) Tryz.func42 (by kernel_rfl) (by kernel_rfl) hn (by kernel_rfl) h
/-- portage/seen.From -/
def k_seen_From (i : Nat) : List Nat := match i with | 0 => [4, 5] | 1 => [10, 11, 12, 13, 14] | 2 => [15] | 3 => [7, 17] | 6 => [22, 23, 24] | 7 => [8, 25, 26, 27, 28, 29, 30, 31, 32, 33, 34, 35, 36, 37, 38, 39, 40, 41, 42, 43, 44, 45, 46, 47, 48, 49, 50, 51, 52] | 9 => [9, 54, 55, 56, 57, 58, 59, 60, 61, 62, 63, 64, 65, 66, 67, 68, 69, 70] | 10 => [71] | 11 => [0, 72, 73, 74] | 13 => [6, 76] | _ => []
def c_seen_From : RCode :=
 .seq (.ops [mv 4 (.const (.pointer none)),
 mv 5 (k 0)] [4, 5])
 (.seq (.ops [mv 11 (t 0),
 ca 12 F.seen_New [(t 11)],
 mv 10 (t 12),
 ex 13 (t 10) 0,
 ex 14 (t 10) 1,
 mv 6 (t 13),
 mv 7 (t 14)] [10, 11, 12, 13, 14])
 (.seq (.seq (.ops [mv 15 (t 7),
 o 16 (.ibin .neq (t 15) (k 0))] [15])
 (.cond (t 16)
  (.seq (.ops [mv 17 (t 7),
  mv 4 (.const (.pointer none)),
  mv 5 (t 17)] [7, 17])
  (.ret))
  (.skip)))
 (.seq (.seq (.ops [mv 18 (t 1),
 o 19 (.len (t 18)),
 mv 20 (k 0)] [])
 (.block 0 (.loop (.seq (.ops [o 21 (.ibin .lss (t 20) (t 19))] [])
  (.seq (.cond (t 21)
   (.skip)
   (.exit 0))
  (.seq (.block 1 (.seq (.ops [mv 22 (t 20),
  o 23 (.iaddr 4 (t 18) (t 20)),
  la 24 4 (t 23),
  o 9 (.alloc 101 [(i 0), (i 0), (i 0), sn]),
  mv 8 (t 22),
  st 4 (t 9) (t 24)] [22, 23, 24])
  (.seq (.seq (.draw (.take (la 25 4 (t 9)) (.alt (ca 26 F.seen_right [(t 25)]) true
   (.take (o 27 (.not (t 26))) (.take (os 28 (.mov (t 27))) (.take (gf 28 29 (.mov (t 8))) (.take (gf 28 30 (.ibin .gtr (t 29) (k 0))) (.take (⟨(some 31), .mov (t 30), some (28, false), true⟩) (.take (gt 31 32 (.mov (t 1))) (.take (gt 31 33 (.mov (t 8))) (.take (gt 31 34 (.ibin .sub (t 33) (k 1))) (.take (gt 31 35 (.iaddr 4 (t 32) (t 34))) (.take (gt 31 36 (.faddr 0 (t 35))) (.take (gt 31 37 (.load false 1 (t 36))) (.take (gt 31 38 (.mov (t 1))) (.take (gt 31 39 (.mov (t 8))) (.take (gt 31 40 (.ibin .sub (t 39) (k 1))) (.take (gt 31 41 (.iaddr 4 (t 38) (t 40))) (.take (gt 31 42 (.faddr 1 (t 41))) (.take (gt 31 43 (.load false 1 (t 42))) (.take (gt 31 45 (.faddr 0 (t 9))) (.take (gt 31 46 (.load false 1 (t 45))) (.take (gt 31 47 (.faddr 1 (t 9))) (.take (gt 31 48 (.load false 1 (t 47))) (.alt (gt 31 44 (.mkSl false 3 2 [(i 0), (i 0)] [(0, 1, (t 37)), (1, 1, (t 43))])) false
    (.alt (gt 31 49 (.mkSl false 3 2 [(i 0), (i 0)] [(0, 1, (t 46)), (1, 1, (t 48))])) false
     (.alt (gt 31 50 (.call (fn F.slices_Compare_int_int) [(t 44), (t 49)])) false
      (.take (gt 31 51 (.ibin .geq (t 50) (k 0))) (.take (gf 28 52 (.pick (t 31) (t 51) (kb false))) (.take (o 53 (.pick (t 28) (kb true) (t 52))) (.done))))
      (.none))
     (.none))
    (.alt (gt 31 49 (.mkSl false 3 2 [(i 0), (i 0)] [(0, 1, (t 46)), (1, 1, (t 48))])) false
     (.alt (gt 31 44 (.mkSl false 3 2 [(i 0), (i 0)] [(0, 1, (t 37)), (1, 1, (t 43))])) false
      (.alt (gt 31 50 (.call (fn F.slices_Compare_int_int) [(t 44), (t 49)])) false
       (.take (gt 31 51 (.ibin .geq (t 50) (k 0))) (.take (gf 28 52 (.pick (t 31) (t 51) (kb false))) (.take (o 53 (.pick (t 28) (kb true) (t 52))) (.done))))
       (.none))
      (.none))
     (.none))))))))))))))))))))))))
   (.none))) [8, 25, 26, 27, 28, 29, 30, 31, 32, 33, 34, 35, 36, 37, 38, 39, 40, 41, 42, 43, 44, 45, 46, 47, 48, 49, 50, 51, 52])
  (.cond (t 53)
   (.seq (.ops [mv 4 (.const (.pointer none)),
   mv 5 (k 2)] [])
   (.ret))
   (.skip)))
  (.draw (.take (mv 54 (t 6)) (.take (o 55 (.nilck (t 54))) (.take (fa 56 1 (t 55)) (.take (l1 57 (t 56)) (.take (fa 58 0 (t 9)) (.take (l1 59 (t 58)) (.take (fa 60 1 (t 9)) (.take (l1 61 (t 60)) (.take (o 62 (.build [(i 0), (i 0)] [(0, 1, (t 59)), (1, 1, (t 61))])) (.take (fa 63 2 (t 9)) (.take (l1 64 (t 63)) (.take (fa 66 3 (t 9)) (.take (l1 67 (t 66)) (.alt (o 65 (.mkSl false 3 0 [] [])) false
   (.alt (o 68 (.app 3 1 8 [(i 0)] (t 65) (t 67))) true
    (.take (o 69 (.build [(i 0), sn] [(0, 1, (t 64)), (1, 1, (t 68))])) (.alt (o 70 (.box 117 (t 69))) false
     (.alt (e (.mset (.agg 2) (t 57) (t 62) (t 70))) false
      (.done)
      (.none))
     (.none)))
    (.none))
   (.none))))))))))))))) [9, 54, 55, 56, 57, 58, 59, 60, 61, 62, 63, 64, 65, 66, 67, 68, 69, 70]))))
  (.ops [ad 71 (t 20) (k 1),
  mv 20 (t 71)] [71])))))))
 (.seq (.seq (.ops [mv 72 (t 6),
 ca 73 F.seen_Set_Gaps [(t 72)],
 mv 74 (t 0),
 o 75 (.ibin .gtr (t 73) (t 74))] [0, 72, 73, 74])
 (.cond (t 75)
  (.seq (.ops [mv 4 (.const (.pointer none)),
  mv 5 (k 6)] [])
  (.ret))
  (.skip)))
 (.seq (.ops [mv 76 (t 6),
 mv 4 (t 76),
 mv 5 (k 0)] [6, 76])
 (.ret))))))
def r_seen_From : List RRes := [.tmp 4, .tmp 5]
theorem fo_seen_From {args : List Value} {M : Mem} {R : Value → Mem → Prop} (hn : args.length ≤ 77) (h : vfn Tryz.prog c_seen_From r_seen_From args M R) : CallsM Tryz.prog F.seen_From args M R :=
  fn_ok (kf := k_seen_From) Tryz.func43 (by kernel_rfl) (by kernel_rfl) hn (by kernel_rfl) h
/-- portage/portageref15.Form -/
def k_ref15_Form (i : Nat) : List Nat := match i with | 0 => [0, 2] | 1 => [3, 4, 5, 6, 7, 8, 9] | 3 => [11, 12] | 4 => [1, 14, 15, 16] | 5 => [17, 18] | 6 => [1, 20, 21, 22, 23, 24, 25, 26, 27, 28, 29, 30] | 9 => [32, 33, 34, 35] | 10 => [1, 37, 38, 39, 40] | 11 => [1, 41, 42, 43, 44] | _ => []
def c_ref15_Form : RCode :=
 .seq (.ops [o 1 (.box 48 (t 0)),
 mv 2 (k 0)] [0, 2])
 (.seq (.seq (.ops [fa 3 0 (t 1),
 l1 4 (t 3),
 o 5 (.ibin .lss (t 4) (k 1)),
 os 6 (.mov (t 5)),
 gf 6 7 (.faddr 0 (t 1)),
 gf 6 8 (.load false 1 (t 7)),
 gf 6 9 (.ibin .gtr (t 8) (k 4)),
 o 10 (.pick (t 6) (kb true) (t 9))] [3, 4, 5, 6, 7, 8, 9])
 (.cond (t 10)
  (.seq (.ops [mv 2 (k 1)] [])
  (.ret))
  (.skip)))
 (.seq (.seq (.ops [fa 11 0 (t 1),
 l1 12 (t 11),
 o 13 (.ibin .eql (t 12) (k 2))] [11, 12])
 (.cond (t 13)
  (.seq (.ops [fa 14 1 (t 1),
  la 15 5 (t 14),
  ca 16 F.ref13_CheckMsg [(t 15)],
  mv 2 (t 16)] [1, 14, 15, 16])
  (.ret))
  (.skip)))
 (.seq (.seq (.ops [fa 17 0 (t 1),
 l1 18 (t 17),
 o 19 (.ibin .eql (t 18) (k 1))] [17, 18])
 (.cond (t 19)
  (.seq (.seq (.ops [fa 20 1 (t 1),
  fa 21 0 (t 20),
  la 22 4 (t 21),
  ca 23 F.ref15_zero [(t 22)],
  o 24 (.not (t 23)),
  os 25 (.mov (t 24)),
  gf 25 26 (.faddr 1 (t 1)),
  gf 25 27 (.faddr 4 (t 26)),
  gf 25 28 (.load false 1 (t 27)),
  gf 25 29 (.len (t 28)),
  gf 25 30 (.ibin .gtr (t 29) (k 0)),
  o 31 (.pick (t 25) (kb true) (t 30))] [1, 20, 21, 22, 23, 24, 25, 26, 27, 28, 29, 30])
  (.cond (t 31)
   (.seq (.ops [mv 2 (k 2)] [])
   (.ret))
   (.skip)))
  (.seq (.ops [mv 2 (k 0)] [])
  (.ret)))
  (.skip)))
 (.seq (.seq (.ops [fa 32 1 (t 1),
 fa 33 0 (t 32),
 la 34 4 (t 33),
 ca 35 F.ref13_Check [(t 34)],
 o 36 (.ibin .neq (t 35) (k 0))] [32, 33, 34, 35])
 (.cond (t 36)
  (.seq (.ops [fa 37 1 (t 1),
  fa 38 0 (t 37),
  la 39 4 (t 38),
  ca 40 F.ref13_Check [(t 39)],
  mv 2 (t 40)] [1, 37, 38, 39, 40])
  (.ret))
  (.skip)))
 (.seq (.seq (.ops [fa 41 1 (t 1),
 fa 42 4 (t 41),
 l1 43 (t 42),
 o 44 (.len (t 43)),
 o 45 (.ibin .gtr (t 44) (k 0))] [1, 41, 42, 43, 44])
 (.cond (t 45)
  (.seq (.ops [mv 2 (k 2)] [])
  (.ret))
  (.skip)))
 (.seq (.ops [mv 2 (k 0)] [])
 (.ret)))))))
def r_ref15_Form : List RRes := [.tmp 2]
theorem fo_ref15_Form {args : List Value} {M : Mem} {R : Value → Mem → Prop} (hn : args.length ≤ 46) (h : vfn Tryz.prog c_ref15_Form r_ref15_Form args M R) : CallsM Tryz.prog F.ref15_Form args M R :=
  fn_ok (kf := k_ref15_Form) Tryz.func44 (by kernel_rfl) (by kernel_rfl) hn (by kernel_rfl) h
/-- portage/portageref13.Has -/
def k_ref13_Has (i : Nat) : List Nat := match i with | 0 => [1, 4] | 2 => [6, 7, 8] | 4 => [12, 13, 14, 15, 16, 17] | 3 => [10, 11] | _ => []
def c_ref13_Has : RCode :=
 .seq (.ops [o 3 (.box 43 (t 1)),
 mv 4 (kb false)] [1, 4])
 (.seq (.seq (.ops [mv 5 (k 0)] [])
 (.block 0 (.loop (.seq (.seq (.ops [mv 6 (t 5),
  mv 7 (t 0),
  o 8 (.len (t 7)),
  o 9 (.ibin .lss (t 6) (t 8))] [6, 7, 8])
  (.cond (t 9)
   (.skip)
   (.exit 0)))
  (.seq (.block 1 (.seq (.draw (.take (mv 12 (t 0)) (.take (mv 13 (t 5)) (.take (o 14 (.iaddr 5 (t 12) (t 13))) (.take (fa 15 0 (t 14)) (.take (la 16 4 (t 15)) (.take (la 17 4 (t 3)) (.take (o 18 (.aeq .eql 4 (t 16) (t 17))) (.done)))))))) [12, 13, 14, 15, 16, 17])
  (.cond (t 18)
   (.seq (.ops [mv 4 (kb true)] [])
   (.ret))
   (.skip))))
  (.ops [mv 10 (t 5),
  ad 11 (t 10) (k 1),
  mv 5 (t 11)] [10, 11]))))))
 (.seq (.ops [mv 4 (kb false)] [])
 (.ret)))
def r_ref13_Has : List RRes := [.tmp 4]
theorem fo_ref13_Has {args : List Value} {M : Mem} {R : Value → Mem → Prop} (hn : args.length ≤ 19) (h : vfn Tryz.prog c_ref13_Has r_ref13_Has args M R) : CallsM Tryz.prog F.ref13_Has args M R :=
  fn_ok (kf := k_ref13_Has) Tryz.func45 (by kernel_rfl) (by kernel_rfl) hn (by kernel_rfl) h
/-- portage/portageref14.May -/
def k_ref14_May (i : Nat) : List Nat := match i with | 0 => [0, 1, 4] | 1 => [5, 6] | 2 => [3, 8, 9] | 3 => [10, 11] | 5 => [2, 3, 13, 14, 15, 16, 17, 18, 19, 20, 21, 22, 23, 24] | _ => []
def c_ref14_May : RCode :=
 .seq (.ops [o 2 (.box 35 (t 0)),
 o 3 (.box 43 (t 1)),
 mv 4 (k 0)] [0, 1, 4])
 (.seq (.seq (.ops [la 5 4 (t 3),
 ca 6 F.ref13_Check [(t 5)],
 o 7 (.ibin .neq (t 6) (k 0))] [5, 6])
 (.cond (t 7)
  (.seq (.ops [la 8 4 (t 3),
  ca 9 F.ref13_Check [(t 8)],
  mv 4 (t 9)] [3, 8, 9])
  (.ret))
  (.skip)))
 (.seq (.seq (.ops [la 10 2 (t 2),
 la 11 4 (t 3),
 ca 12 F.ref14_Has [(t 10), (t 11)]] [10, 11])
 (.cond (t 12)
  (.seq (.ops [mv 4 (k 5)] [])
  (.ret))
  (.skip)))
 (.seq (.seq (.draw (.take (fa 13 3 (t 3)) (.take (l1 14 (t 13)) (.take (la 15 2 (t 2)) (.take (la 16 4 (t 3)) (.alt (ca 17 F.ref14_Next [(t 15), (t 16)]) true
  (.take (o 18 (.ibin .neq (t 14) (t 17))) (.take (os 19 (.mov (t 18))) (.take (gt 19 20 (.load true 2 (t 2))) (.take (gt 19 22 (.faddr 0 (t 2))) (.take (gt 19 23 (.load false 1 (t 22))) (.alt (gt 19 21 (.call (fn F.ref14_Gaps) [(t 20)])) true
   (.take (gt 19 24 (.ibin .geq (t 21) (t 23))) (.take (o 25 (.pick (t 19) (t 24) (kb false))) (.done)))
   (.none)))))))
  (.none)))))) [2, 3, 13, 14, 15, 16, 17, 18, 19, 20, 21, 22, 23, 24])
 (.cond (t 25)
  (.seq (.ops [mv 4 (k 6)] [])
  (.ret))
  (.skip)))
 (.seq (.ops [mv 4 (k 0)] [])
 (.ret)))))
def r_ref14_May : List RRes := [.tmp 4]
theorem fo_ref14_May {args : List Value} {M : Mem} {R : Value → Mem → Prop} (hn : args.length ≤ 26) (h : vfn Tryz.prog c_ref14_May r_ref14_May args M R) : CallsM Tryz.prog F.ref14_May args M R :=
  fn_ok (kf := k_ref14_May) Tryz.func46 (by kernel_rfl) (by kernel_rfl) hn (by kernel_rfl) h
/-- portage/portageref14.put -/
def k_ref14_put (i : Nat) : List Nat := match i with | 0 => [1, 4] | 1 => [8] | 4 => [9, 10, 11] | 6 => [15, 16, 17, 18, 19, 20, 21, 22, 23] | 7 => [25, 26, 27, 28] | 9 => [29, 30, 31, 32, 33, 34, 35] | 5 => [13, 14] | 10 => [6, 36] | 11 => [3, 38, 39, 40, 41] | 12 => [5, 42] | _ => []
def c_ref14_put : RCode :=
 .seq (.ops [o 3 (.box 110 (t 1)),
 mv 4 (.const sn)] [1, 4])
 (.seq (.ops [o 8 (.mkSl false 110 0 [] []),
 mv 5 (t 8)] [8])
 (.seq (.ops [mv 6 (kb false)] [])
 (.seq (.seq (.ops [mv 7 (k 0)] [])
 (.block 0 (.loop (.seq (.seq (.ops [mv 9 (t 7),
  mv 10 (t 0),
  o 11 (.len (t 10)),
  o 12 (.ibin .lss (t 9) (t 11))] [9, 10, 11])
  (.cond (t 12)
   (.skip)
   (.exit 0)))
  (.seq (.block 1 (.seq (.seq (.draw (.take (mv 15 (t 6)) (.take (o 16 (.not (t 15))) (.take (os 17 (.mov (t 16))) (.take (gt 17 18 (.load true 3 (t 3))) (.take (gt 17 19 (.mov (t 0))) (.take (gt 17 20 (.mov (t 7))) (.take (gt 17 21 (.iaddr 3 (t 19) (t 20))) (.take (gt 17 22 (.load true 3 (t 21))) (.alt (gt 17 23 (.call (fn F.ref14_less) [(t 18), (t 22)])) false
   (.take (o 24 (.pick (t 17) (t 23) (kb false))) (.done))
   (.none)))))))))) [15, 16, 17, 18, 19, 20, 21, 22, 23])
  (.cond (t 24)
   (.seq (.ops [mv 25 (t 5),
   la 26 3 (t 3),
   o 27 (.mkSl true 110 1 [(i 0), (i 0), (i 0)] [(0, 3, (t 26))]),
   o 28 (.app 110 3 24 [(i 0), (i 0), (i 0)] (t 25) (t 27)),
   mv 5 (t 28)] [25, 26, 27, 28])
   (.ops [mv 6 (kb true)] []))
   (.skip)))
  (.ops [mv 29 (t 5),
  mv 30 (t 0),
  mv 31 (t 7),
  o 32 (.iaddr 3 (t 30) (t 31)),
  la 33 3 (t 32),
  o 34 (.mkSl true 110 1 [(i 0), (i 0), (i 0)] [(0, 3, (t 33))]),
  o 35 (.app 110 3 24 [(i 0), (i 0), (i 0)] (t 29) (t 34)),
  mv 5 (t 35)] [29, 30, 31, 32, 33, 34, 35])))
  (.ops [mv 13 (t 7),
  ad 14 (t 13) (k 1),
  mv 7 (t 14)] [13, 14]))))))
 (.seq (.seq (.ops [mv 36 (t 6),
 o 37 (.not (t 36))] [6, 36])
 (.cond (t 37)
  (.ops [mv 38 (t 5),
  la 39 3 (t 3),
  o 40 (.mkSl true 110 1 [(i 0), (i 0), (i 0)] [(0, 3, (t 39))]),
  o 41 (.app 110 3 24 [(i 0), (i 0), (i 0)] (t 38) (t 40)),
  mv 5 (t 41)] [3, 38, 39, 40, 41])
  (.skip)))
 (.seq (.ops [mv 42 (t 5),
 mv 4 (t 42)] [5, 42])
 (.ret))))))
def r_ref14_put : List RRes := [.tmp 4]
theorem fo_ref14_put {args : List Value} {M : Mem} {R : Value → Mem → Prop} (hn : args.length ≤ 43) (h : vfn Tryz.prog c_ref14_put r_ref14_put args M R) : CallsM Tryz.prog F.ref14_put args M R :=
  fn_ok (kf := k_ref14_put) Tryz.func47 (by kernel_rfl) (by kernel_rfl) hn (by kernel_rfl) h
/-- (*portage/seen.Set).of -/
def k_seen_Set_of (i : Nat) : List Nat := match i with | 0 => [1, 4] | 1 => [0, 3, 6, 7, 8, 9, 10, 11, 12, 13, 14, 15] | 2 => [16] | 3 => [5, 18] | 4 => [19, 20] | _ => []
def c_seen_Set_of : RCode :=
 .seq (.ops [o 3 (.box 43 (t 1)),
 mv 4 (.const (.pointer none))] [1, 4])
 (.seq (.seq (.draw (.take (mv 6 (t 0)) (.take (o 7 (.nilck (t 6))) (.take (fa 8 1 (t 7)) (.take (l1 9 (t 8)) (.take (fa 10 0 (t 3)) (.take (l1 11 (t 10)) (.take (fa 12 2 (t 3)) (.take (l1 13 (t 12)) (.take (o 14 (.build [(i 0), (i 0)] [(0, 1, (t 11)), (1, 1, (t 13))])) (.take (o 15 (.mget (.agg 2) false (.pointer none) (t 9) (t 14))) (.take (mv 5 (t 15)) (.done)))))))))))) [0, 3, 6, 7, 8, 9, 10, 11, 12, 13, 14, 15])
 (.seq (.ops [mv 16 (t 5),
 o 17 (.pnil .neq (t 16) (.const (.pointer none)))] [16])
 (.cond (t 17)
  (.seq (.ops [mv 18 (t 5),
  mv 4 (t 18)] [5, 18])
  (.ret))
  (.skip))))
 (.seq (.ops [o 19 (.build [(i 0), sn] []),
 o 20 (.box 117 (t 19)),
 mv 4 (t 20)] [19, 20])
 (.ret)))
def r_seen_Set_of : List RRes := [.tmp 4]
theorem fo_seen_Set_of {args : List Value} {M : Mem} {R : Value → Mem → Prop} (hn : args.length ≤ 21) (h : vfn Tryz.prog c_seen_Set_of r_seen_Set_of args M R) : CallsM Tryz.prog F.seen_Set_of args M R :=
  fn_ok (kf := k_seen_Set_of) Tryz.func48 (by kernel_rfl) (by kernel_rfl) hn (by kernel_rfl) h
/-- slices.BinarySearch[[]int,int] -/
def k_slices_BinarySearch_int_int (i : Nat) : List Nat := match i with | 0 => [4, 5] | 1 => [10, 11] | 2 => [12] | 3 => [13, 14] | 4 => [16, 17, 18, 19, 20, 21] | 5 => [22, 23, 24, 25, 26] | 6 => [9, 28, 29] | 7 => [9, 30] | 8 => [0, 1, 6, 7, 31, 32, 33, 34, 35, 36, 37, 38, 39, 40, 41, 42, 43, 44, 45, 46, 47, 48, 49, 50, 51, 52, 53] | _ => []
def c_slices_BinarySearch_int_int : RCode :=
 .seq (.ops [mv 4 (k 0),
 mv 5 (kb false)] [4, 5])
 (.seq (.ops [mv 10 (t 0),
 o 11 (.len (t 10)),
 mv 6 (t 11)] [10, 11])
 (.seq (.ops [mv 12 (t 6),
 mv 7 (k 0),
 mv 8 (t 12)] [12])
 (.seq (.block 0 (.loop (.seq (.seq (.ops [mv 13 (t 7),
  mv 14 (t 8),
  o 15 (.ibin .lss (t 13) (t 14))] [13, 14])
  (.cond (t 15)
   (.skip)
   (.exit 0)))
  (.block 1 (.seq (.ops [mv 16 (t 7),
  mv 17 (t 8),
  ad 18 (t 16) (t 17),
  o 19 (.conv .u64 (t 18)),
  o 20 (.ibin .shr (t 19) (.const (.int .u64 1))),
  o 21 (.conv .i64 (t 20)),
  mv 9 (t 21)] [16, 17, 18, 19, 20, 21])
  (.seq (.ops [mv 22 (t 0),
  mv 23 (t 9),
  o 24 (.iaddr 1 (t 22) (t 23)),
  l1 25 (t 24),
  mv 26 (t 1),
  ca 27 F.cmp_Less_int [(t 25), (t 26)]] [22, 23, 24, 25, 26])
  (.cond (t 27)
   (.ops [mv 28 (t 9),
   ad 29 (t 28) (k 1),
   mv 7 (t 29)] [9, 28, 29])
   (.ops [mv 30 (t 9),
   mv 8 (t 30)] [9, 30]))))))))
 (.seq (.ops [mv 31 (t 7),
 mv 32 (t 7),
 mv 33 (t 6),
 o 34 (.ibin .lss (t 32) (t 33)),
 os 35 (.mov (t 34)),
 gt 35 36 (.mov (t 0)),
 gt 35 37 (.mov (t 7)),
 gt 35 38 (.iaddr 1 (t 36) (t 37)),
 gt 35 39 (.load false 1 (t 38)),
 gt 35 40 (.mov (t 1)),
 gt 35 41 (.ibin .eql (t 39) (t 40)),
 ⟨(some 42), .mov (t 41), some (35, true), true⟩,
 gf 42 43 (.mov (t 0)),
 gf 42 44 (.mov (t 7)),
 gf 42 45 (.iaddr 1 (t 43) (t 44)),
 gf 42 46 (.load false 1 (t 45)),
 gf 42 47 (.call (fn F.slices_isNaN_int) [(t 46)]),
 ⟨(some 48), .mov (t 47), some (42, false), true⟩,
 gt 48 49 (.mov (t 1)),
 gt 48 50 (.call (fn F.slices_isNaN_int) [(t 49)]),
 gf 42 51 (.pick (t 48) (t 50) (kb false)),
 gt 35 52 (.pick (t 42) (kb true) (t 51)),
 o 53 (.pick (t 35) (t 52) (kb false)),
 mv 4 (t 31),
 mv 5 (t 53)] [0, 1, 6, 7, 31, 32, 33, 34, 35, 36, 37, 38, 39, 40, 41, 42, 43, 44, 45, 46, 47, 48, 49, 50, 51, 52, 53])
 (.ret)))))
def r_slices_BinarySearch_int_int : List RRes := [.tmp 4, .tmp 5]
theorem fo_slices_BinarySearch_int_int {args : List Value} {M : Mem} {R : Value → Mem → Prop} (hn : args.length ≤ 54) (h : vfn Tryz.prog c_slices_BinarySearch_int_int r_slices_BinarySearch_int_int args M R) : CallsM Tryz.prog F.slices_BinarySearch_int_int args M R :=
  fn_ok (kf := k_slices_BinarySearch_int_int) Tryz.func49 (by kernel_rfl) (by kernel_rfl) hn (by kernel_rfl) h
/-- portage/portageref14.SameMarks -/
def k_ref14_SameMarks (i : Nat) : List Nat := match i with | 0 => [4] | 1 => [7, 8, 9, 10] | 4 => [12, 13, 14] | 6 => [18, 19, 20, 21, 22, 23, 24, 25, 26, 27, 28, 29, 30, 31, 32, 33, 34, 35, 36, 37, 38, 39, 40, 41, 42, 43, 44, 45, 46, 47, 48, 49, 50, 51, 52, 53, 54, 55, 56, 57, 58, 59, 60, 61, 62, 63, 64, 65, 66, 67, 68] | 9 => [70, 71, 72, 73, 74, 75, 76] | 11 => [80, 81, 82, 83, 84, 85, 86, 87, 88, 89, 90, 91, 92, 93, 94, 95] | 10 => [78, 79] | 5 => [16, 17] | _ => []
def c_ref14_SameMarks : RCode :=
 .seq (.ops [mv 4 (kb false)] [4])
 (.seq (.seq (.ops [mv 7 (t 0),
 o 8 (.len (t 7)),
 mv 9 (t 1),
 o 10 (.len (t 9)),
 o 11 (.ibin .neq (t 8) (t 10))] [7, 8, 9, 10])
 (.cond (t 11)
  (.seq (.ops [mv 4 (kb false)] [])
  (.ret))
  (.skip)))
 (.seq (.seq (.ops [mv 5 (k 0)] [])
 (.block 0 (.loop (.seq (.seq (.ops [mv 12 (t 5),
  mv 13 (t 0),
  o 14 (.len (t 13)),
  o 15 (.ibin .lss (t 12) (t 14))] [12, 13, 14])
  (.cond (t 15)
   (.skip)
   (.exit 0)))
  (.seq (.block 1 (.seq (.seq (.draw (.take (mv 18 (t 0)) (.take (mv 19 (t 5)) (.take (o 20 (.iaddr 4 (t 18) (t 19))) (.take (fa 21 0 (t 20)) (.take (l1 22 (t 21)) (.take (mv 23 (t 1)) (.take (mv 24 (t 5)) (.take (o 25 (.iaddr 4 (t 23) (t 24))) (.take (fa 26 0 (t 25)) (.take (l1 27 (t 26)) (.take (o 28 (.ibin .neq (t 22) (t 27))) (.take (os 29 (.mov (t 28))) (.take (gf 29 30 (.mov (t 0))) (.take (gf 29 31 (.mov (t 5))) (.take (gf 29 32 (.iaddr 4 (t 30) (t 31))) (.take (gf 29 33 (.faddr 1 (t 32))) (.take (gf 29 34 (.load false 1 (t 33))) (.take (gf 29 35 (.mov (t 1))) (.take (gf 29 36 (.mov (t 5))) (.take (gf 29 37 (.iaddr 4 (t 35) (t 36))) (.take (gf 29 38 (.faddr 1 (t 37))) (.take (gf 29 39 (.load false 1 (t 38))) (.take (gf 29 40 (.ibin .neq (t 34) (t 39))) (.take (o 41 (.pick (t 29) (kb true) (t 40))) (.take (os 42 (.mov (t 41))) (.take (gf 42 43 (.mov (t 0))) (.take (gf 42 44 (.mov (t 5))) (.take (gf 42 45 (.iaddr 4 (t 43) (t 44))) (.take (gf 42 46 (.faddr 2 (t 45))) (.take (gf 42 47 (.load false 1 (t 46))) (.take (gf 42 48 (.mov (t 1))) (.take (gf 42 49 (.mov (t 5))) (.take (gf 42 50 (.iaddr 4 (t 48) (t 49))) (.take (gf 42 51 (.faddr 2 (t 50))) (.take (gf 42 52 (.load false 1 (t 51))) (.take (gf 42 53 (.ibin .neq (t 47) (t 52))) (.take (o 54 (.pick (t 42) (kb true) (t 53))) (.take (os 55 (.mov (t 54))) (.take (gf 55 56 (.mov (t 0))) (.take (gf 55 57 (.mov (t 5))) (.take (gf 55 58 (.iaddr 4 (t 56) (t 57))) (.take (gf 55 59 (.faddr 3 (t 58))) (.take (gf 55 60 (.load false 1 (t 59))) (.take (gf 55 61 (.len (t 60))) (.take (gf 55 62 (.mov (t 1))) (.take (gf 55 63 (.mov (t 5))) (.take (gf 55 64 (.iaddr 4 (t 62) (t 63))) (.take (gf 55 65 (.faddr 3 (t 64))) (.take (gf 55 66 (.load false 1 (t 65))) (.take (gf 55 67 (.len (t 66))) (.take (gf 55 68 (.ibin .neq (t 61) (t 67))) (.take (o 69 (.pick (t 55) (kb true) (t 68))) (.done))))))))))))))))))))))))))))))))))))))))))))))))))))) [18, 19, 20, 21, 22, 23, 24, 25, 26, 27, 28, 29, 30, 31, 32, 33, 34, 35, 36, 37, 38, 39, 40, 41, 42, 43, 44, 45, 46, 47, 48, 49, 50, 51, 52, 53, 54, 55, 56, 57, 58, 59, 60, 61, 62, 63, 64, 65, 66, 67, 68])
  (.cond (t 69)
   (.seq (.ops [mv 4 (kb false)] [])
   (.ret))
   (.skip)))
  (.seq (.ops [mv 6 (k 0)] [])
  (.block 2 (.loop (.seq (.seq (.ops [mv 70 (t 6),
   mv 71 (t 0),
   mv 72 (t 5),
   o 73 (.iaddr 4 (t 71) (t 72)),
   fa 74 3 (t 73),
   l1 75 (t 74),
   o 76 (.len (t 75)),
   o 77 (.ibin .lss (t 70) (t 76))] [70, 71, 72, 73, 74, 75, 76])
   (.cond (t 77)
    (.skip)
    (.exit 2)))
   (.seq (.block 3 (.seq (.draw (.take (mv 80 (t 0)) (.take (mv 81 (t 5)) (.take (o 82 (.iaddr 4 (t 80) (t 81))) (.take (fa 83 3 (t 82)) (.take (l1 84 (t 83)) (.take (mv 85 (t 6)) (.take (o 86 (.iaddr 1 (t 84) (t 85))) (.take (l1 87 (t 86)) (.take (mv 88 (t 1)) (.take (mv 89 (t 5)) (.take (o 90 (.iaddr 4 (t 88) (t 89))) (.take (fa 91 3 (t 90)) (.take (l1 92 (t 91)) (.take (mv 93 (t 6)) (.take (o 94 (.iaddr 1 (t 92) (t 93))) (.take (l1 95 (t 94)) (.take (o 96 (.ibin .neq (t 87) (t 95))) (.done)))))))))))))))))) [80, 81, 82, 83, 84, 85, 86, 87, 88, 89, 90, 91, 92, 93, 94, 95])
   (.cond (t 96)
    (.seq (.ops [mv 4 (kb false)] [])
    (.ret))
    (.skip))))
   (.ops [mv 78 (t 6),
   ad 79 (t 78) (k 1),
   mv 6 (t 79)] [78, 79]))))))))
  (.ops [mv 16 (t 5),
  ad 17 (t 16) (k 1),
  mv 5 (t 17)] [16, 17]))))))
 (.seq (.ops [mv 4 (kb true)] [])
 (.ret))))
def r_ref14_SameMarks : List RRes := [.tmp 4]
theorem fo_ref14_SameMarks {args : List Value} {M : Mem} {R : Value → Mem → Prop} (hn : args.length ≤ 97) (h : vfn Tryz.prog c_ref14_SameMarks r_ref14_SameMarks args M R) : CallsM Tryz.prog F.ref14_SameMarks args M R :=
  fn_ok (kf := k_ref14_SameMarks) Tryz.func51 (by kernel_rfl) (by kernel_rfl) hn (by kernel_rfl) h
/-- portage/portageref14.Marks -/
def k_ref14_Marks (i : Nat) : List Nat := match i with | 0 => [0, 2] | 1 => [7] | 3 => [8, 9, 10, 11] | 5 => [15, 16, 17, 18, 19] | 6 => [20, 21, 22] | 7 => [23, 24, 25, 26, 27, 28, 29, 30, 31, 32, 33, 34, 35, 36, 37, 38, 39, 40, 41, 42, 43] | 8 => [45, 46, 47, 48, 49, 50, 51, 52] | 9 => [53, 54] | 10 => [55, 56, 57, 58, 59, 60, 61, 62, 63, 64, 65, 66, 67, 68, 69, 70, 71] | 11 => [6, 73, 74, 75, 76, 77, 78, 79, 80] | 12 => [5, 6, 81, 82, 83, 84, 85, 86, 87, 88, 89, 90, 91, 92, 93] | 4 => [13, 14] | 13 => [3, 94] | _ => []
def c_ref14_Marks : RCode :=
 .seq (.ops [o 1 (.box 35 (t 0)),
 mv 2 (.const sn)] [0, 2])
 (.seq (.ops [o 7 (.mkSl false 101 0 [] []),
 mv 3 (t 7)] [7])
 (.seq (.seq (.ops [mv 4 (k 0)] [])
 (.block 0 (.loop (.seq (.seq (.ops [mv 8 (t 4),
  fa 9 1 (t 1),
  l1 10 (t 9),
  o 11 (.len (t 10)),
  o 12 (.ibin .lss (t 8) (t 11))] [8, 9, 10, 11])
  (.cond (t 12)
   (.skip)
   (.exit 0)))
  (.seq (.block 1 (.seq (.ops [fa 15 1 (t 1),
  l1 16 (t 15),
  mv 17 (t 4),
  o 18 (.iaddr 3 (t 16) (t 17)),
  la 19 3 (t 18),
  o 5 (.alloc 110 [(i 0), (i 0), (i 0)]),
  st 3 (t 5) (t 19)] [15, 16, 17, 18, 19])
  (.seq (.ops [mv 20 (t 3),
  o 21 (.len (t 20)),
  o 22 (.ibin .sub (t 21) (k 1)),
  mv 6 (t 22)] [20, 21, 22])
  (.seq (.seq (.draw (.take (mv 23 (t 6)) (.take (o 24 (.ibin .lss (t 23) (k 0))) (.take (os 25 (.mov (t 24))) (.take (gf 25 26 (.mov (t 3))) (.take (gf 25 27 (.mov (t 6))) (.take (gf 25 28 (.iaddr 4 (t 26) (t 27))) (.take (gf 25 29 (.faddr 0 (t 28))) (.take (gf 25 30 (.load false 1 (t 29))) (.take (gf 25 31 (.faddr 0 (t 5))) (.take (gf 25 32 (.load false 1 (t 31))) (.take (gf 25 33 (.ibin .neq (t 30) (t 32))) (.take (o 34 (.pick (t 25) (kb true) (t 33))) (.take (os 35 (.mov (t 34))) (.take (gf 35 36 (.mov (t 3))) (.take (gf 35 37 (.mov (t 6))) (.take (gf 35 38 (.iaddr 4 (t 36) (t 37))) (.take (gf 35 39 (.faddr 1 (t 38))) (.take (gf 35 40 (.load false 1 (t 39))) (.take (gf 35 41 (.faddr 1 (t 5))) (.take (gf 35 42 (.load false 1 (t 41))) (.take (gf 35 43 (.ibin .neq (t 40) (t 42))) (.take (o 44 (.pick (t 35) (kb true) (t 43))) (.done))))))))))))))))))))))) [23, 24, 25, 26, 27, 28, 29, 30, 31, 32, 33, 34, 35, 36, 37, 38, 39, 40, 41, 42, 43])
  (.cond (t 44)
   (.seq (.ops [mv 45 (t 3),
   fa 46 0 (t 5),
   l1 47 (t 46),
   fa 48 1 (t 5),
   l1 49 (t 48),
   o 50 (.build [(i 0), (i 0), (i 0), sn] [(0, 1, (t 47)), (1, 1, (t 49))]),
   o 51 (.mkSl true 101 1 [(i 0), (i 0), (i 0), sn] [(0, 4, (t 50))]),
   o 52 (.app 101 4 48 [(i 0), (i 0), (i 0), sn] (t 45) (t 51)),
   mv 3 (t 52)] [45, 46, 47, 48, 49, 50, 51, 52])
   (.ops [mv 53 (t 6),
   ad 54 (t 53) (k 1),
   mv 6 (t 54)] [53, 54]))
   (.skip)))
  (.seq (.draw (.take (mv 55 (t 3)) (.take (mv 56 (t 6)) (.take (o 57 (.iaddr 4 (t 55) (t 56))) (.take (fa 58 3 (t 57)) (.take (l1 59 (t 58)) (.take (o 60 (.len (t 59))) (.take (o 61 (.ibin .eql (t 60) (k 0))) (.take (os 62 (.mov (t 61))) (.take (gt 62 63 (.faddr 2 (t 5))) (.take (gt 62 64 (.load false 1 (t 63))) (.take (gt 62 65 (.mov (t 3))) (.take (gt 62 66 (.mov (t 6))) (.take (gt 62 67 (.iaddr 4 (t 65) (t 66))) (.take (gt 62 68 (.faddr 2 (t 67))) (.take (gt 62 69 (.load false 1 (t 68))) (.take (gt 62 70 (.ibin .add (t 69) (k 1))) (.take (gt 62 71 (.ibin .eql (t 64) (t 70))) (.take (o 72 (.pick (t 62) (t 71) (kb false))) (.done))))))))))))))))))) [55, 56, 57, 58, 59, 60, 61, 62, 63, 64, 65, 66, 67, 68, 69, 70, 71])
  (.cond (t 72)
   (.ops [mv 73 (t 3),
   mv 74 (t 6),
   o 75 (.iaddr 4 (t 73) (t 74)),
   fa 76 2 (t 75),
   l1 77 (t 76),
   ad 78 (t 77) (k 1),
   o 79 (.iaddr 4 (t 73) (t 74)),
   fa 80 2 (t 79),
   st 1 (t 80) (t 78)] [6, 73, 74, 75, 76, 77, 78, 79, 80])
   (.draw (.take (mv 81 (t 3)) (.take (mv 82 (t 6)) (.take (mv 83 (t 3)) (.take (mv 84 (t 6)) (.take (o 85 (.iaddr 4 (t 83) (t 84))) (.take (fa 86 3 (t 85)) (.take (l1 87 (t 86)) (.take (fa 88 2 (t 5)) (.take (l1 89 (t 88)) (.alt (o 90 (.mkSl true 3 1 [(i 0)] [(0, 1, (t 89))])) false
    (.alt (o 91 (.app 3 1 8 [(i 0)] (t 87) (t 90))) false
     (.take (o 92 (.iaddr 4 (t 81) (t 82))) (.take (fa 93 3 (t 92)) (.alt (st 1 (t 93) (t 91)) false
      (.done)
      (.none))))
     (.none))
    (.none))))))))))) [5, 6, 81, 82, 83, 84, 85, 86, 87, 88, 89, 90, 91, 92, 93])))))))
  (.ops [mv 13 (t 4),
  ad 14 (t 13) (k 1),
  mv 4 (t 14)] [13, 14]))))))
 (.seq (.ops [mv 94 (t 3),
 mv 2 (t 94)] [3, 94])
 (.ret))))
def r_ref14_Marks : List RRes := [.tmp 2]
theorem fo_ref14_Marks {args : List Value} {M : Mem} {R : Value → Mem → Prop} (hn : args.length ≤ 95) (h : vfn Tryz.prog c_ref14_Marks r_ref14_Marks args M R) : CallsM Tryz.prog F.ref14_Marks args M R :=
  fn_ok (kf := k_ref14_Marks) Tryz.func52 (by kernel_rfl) (by kernel_rfl) hn (by kernel_rfl) h
/-- portage/portageref13.Same -/
def k_ref13_Same (i : Nat) : List Nat := match i with | 0 => [0, 1, 4] | 1 => [2, 3, 5, 6, 7, 8, 9, 10, 11, 12, 13, 14, 15, 16, 17, 18] | _ => []
def c_ref13_Same : RCode :=
 .seq (.ops [o 2 (.box 46 (t 0)),
 o 3 (.box 46 (t 1)),
 mv 4 (kb false)] [0, 1, 4])
 (.seq (.ops [fa 5 0 (t 2),
 la 6 4 (t 5),
 fa 7 0 (t 3),
 la 8 4 (t 7),
 o 9 (.aeq .eql 4 (t 6) (t 8)),
 os 10 (.mov (t 9)),
 gt 10 11 (.faddr 4 (t 2)),
 gt 10 12 (.load false 1 (t 11)),
 gt 10 13 (.strOf (t 12)),
 gt 10 14 (.faddr 4 (t 3)),
 gt 10 15 (.load false 1 (t 14)),
 gt 10 16 (.strOf (t 15)),
 gt 10 17 (.strE .eql (t 13) (t 16)),
 o 18 (.pick (t 10) (t 17) (kb false)),
 mv 4 (t 18)] [2, 3, 5, 6, 7, 8, 9, 10, 11, 12, 13, 14, 15, 16, 17, 18])
 (.ret))
def r_ref13_Same : List RRes := [.tmp 4]
theorem fo_ref13_Same {args : List Value} {M : Mem} {R : Value → Mem → Prop} (hn : args.length ≤ 19) (h : vfn Tryz.prog c_ref13_Same r_ref13_Same args M R) : CallsM Tryz.prog F.ref13_Same args M R :=
  fn_ok (kf := k_ref13_Same) Tryz.func53 (by kernel_rfl) (by kernel_rfl) hn (by kernel_rfl) h
/-- slices.pdqsortCmpFunc[portage/store.place] -/
def k_slices_pdqsortCmpFunc_store_place (i : Nat) : List Nat := match i with | 2 => [21, 22, 23] | 3 => [24] | 4 => [0, 1, 2, 4, 26, 27, 28, 29, 30] | 5 => [31] | 6 => [0, 1, 2, 4, 33, 34, 35, 36, 37] | 7 => [38] | 8 => [40, 41, 42, 43, 44] | 9 => [45, 46] | 10 => [47, 48, 49, 50, 51, 52, 53, 54] | 11 => [55] | 12 => [57, 58, 59, 60, 61] | 13 => [62, 63, 64, 65, 66, 67] | 15 => [14, 68, 69, 70, 71, 72, 73, 74] | 16 => [76, 77, 78, 79] | 17 => [81, 82, 83, 84, 85, 86, 87, 88, 89, 90, 91, 92, 93, 94, 95, 96] | 18 => [1, 13, 98, 99, 100, 101, 102, 103] | 19 => [15, 104] | 20 => [13, 105, 106, 107, 108, 109, 110, 111, 112, 113] | 21 => [17, 114] | 22 => [115, 116, 117, 118, 119, 120] | 23 => [12, 121, 122] | 24 => [123, 124] | 25 => [18, 20, 126, 127, 128] | 26 => [1, 129, 130, 131, 132, 133, 134] | 27 => [16, 135, 136] | 28 => [19, 20, 137, 138, 139] | 29 => [2, 140, 141, 142, 143, 144, 145, 146] | 30 => [16, 147] | _ => []
def c_slices_pdqsortCmpFunc_store_place : RCode :=
 .seq (.ops [mv 10 (kb true)] [])
 (.seq (.ops [mv 11 (kb true)] [])
 (.block 0 (.loop (.block 1 (.seq (.ops [mv 21 (t 2),
  mv 22 (t 1),
  o 23 (.ibin .sub (t 21) (t 22)),
  mv 12 (t 23)] [21, 22, 23])
  (.seq (.seq (.ops [mv 24 (t 12),
  o 25 (.ibin .leq (t 24) (k 12))] [24])
  (.cond (t 25)
   (.seq (.ops [mv 26 (t 0),
   mv 27 (t 1),
   mv 28 (t 2),
   mv 29 (t 4),
   ca 30 F.slices_insertionSortCmpFunc_store_place [(t 26), (t 27), (t 28), (t 29)]] [0, 1, 2, 4, 26, 27, 28, 29, 30])
   (.ret))
   (.skip)))
  (.seq (.seq (.ops [mv 31 (t 3),
  o 32 (.ibin .eql (t 31) (k 0))] [31])
  (.cond (t 32)
   (.seq (.ops [mv 33 (t 0),
   mv 34 (t 1),
   mv 35 (t 2),
   mv 36 (t 4),
   ca 37 F.slices_heapSortCmpFunc_store_place [(t 33), (t 34), (t 35), (t 36)]] [0, 1, 2, 4, 33, 34, 35, 36, 37])
   (.ret))
   (.skip)))
  (.seq (.seq (.ops [mv 38 (t 10),
  o 39 (.not (t 38))] [38])
  (.cond (t 39)
   (.seq (.ops [mv 40 (t 0),
   mv 41 (t 1),
   mv 42 (t 2),
   mv 43 (t 4),
   ca 44 F.slices_breakPatternsCmpFunc_store_place [(t 40), (t 41), (t 42), (t 43)]] [40, 41, 42, 43, 44])
   (.ops [mv 45 (t 3),
   o 46 (.ibin .sub (t 45) (k 1)),
   mv 3 (t 46)] [45, 46]))
   (.skip)))
  (.seq (.ops [mv 48 (t 0),
  mv 49 (t 1),
  mv 50 (t 2),
  mv 51 (t 4),
  ca 52 F.slices_choosePivotCmpFunc_store_place [(t 48), (t 49), (t 50), (t 51)],
  mv 47 (t 52),
  ex 53 (t 47) 0,
  ex 54 (t 47) 1,
  mv 13 (t 53),
  mv 14 (t 54)] [47, 48, 49, 50, 51, 52, 53, 54])
  (.seq (.seq (.ops [mv 55 (t 14),
  o 56 (.ibin .eql (t 55) (k 2))] [55])
  (.cond (t 56)
   (.seq (.ops [mv 57 (t 0),
   mv 58 (t 1),
   mv 59 (t 2),
   mv 60 (t 4),
   ca 61 F.slices_reverseRangeCmpFunc_store_place [(t 57), (t 58), (t 59), (t 60)]] [57, 58, 59, 60, 61])
   (.seq (.ops [mv 62 (t 2),
   o 63 (.ibin .sub (t 62) (k 1)),
   mv 64 (t 13),
   mv 65 (t 1),
   o 66 (.ibin .sub (t 64) (t 65)),
   o 67 (.ibin .sub (t 63) (t 66)),
   mv 13 (t 67)] [62, 63, 64, 65, 66, 67])
   (.ops [mv 14 (k 1)] [])))
   (.skip)))
  (.seq (.seq (.ops [mv 68 (t 10),
  os 69 (.mov (t 68)),
  gt 69 70 (.mov (t 11)),
  o 71 (.pick (t 69) (t 70) (kb false)),
  os 72 (.mov (t 71)),
  gt 72 73 (.mov (t 14)),
  gt 72 74 (.ibin .eql (t 73) (k 1)),
  o 75 (.pick (t 72) (t 74) (kb false))] [14, 68, 69, 70, 71, 72, 73, 74])
  (.cond (t 75)
   (.seq (.ops [mv 76 (t 0),
   mv 77 (t 1),
   mv 78 (t 2),
   mv 79 (t 4),
   ca 80 F.slices_partialInsertionSortCmpFunc_store_place [(t 76), (t 77), (t 78), (t 79)]] [76, 77, 78, 79])
   (.cond (t 80)
    (.ret)
    (.skip)))
   (.skip)))
  (.seq (.seq (.draw (.take (mv 81 (t 1)) (.take (o 82 (.ibin .gtr (t 81) (k 0))) (.take (os 83 (.mov (t 82))) (.take (gt 83 84 (.mov (t 4))) (.take (gt 83 85 (.mov (t 0))) (.take (gt 83 86 (.mov (t 1))) (.take (gt 83 87 (.ibin .sub (t 86) (k 1))) (.take (gt 83 88 (.iaddr 6 (t 85) (t 87))) (.take (gt 83 89 (.load true 6 (t 88))) (.take (gt 83 90 (.mov (t 0))) (.take (gt 83 91 (.mov (t 13))) (.take (gt 83 92 (.iaddr 6 (t 90) (t 91))) (.take (gt 83 93 (.load true 6 (t 92))) (.alt (gt 83 94 (.call (t 84) [(t 89), (t 93)])) false
   (.take (gt 83 95 (.ibin .lss (t 94) (k 0))) (.take (gt 83 96 (.not (t 95))) (.take (o 97 (.pick (t 83) (t 96) (kb false))) (.done))))
   (.none))))))))))))))) [81, 82, 83, 84, 85, 86, 87, 88, 89, 90, 91, 92, 93, 94, 95, 96])
  (.cond (t 97)
   (.seq (.ops [mv 98 (t 0),
   mv 99 (t 1),
   mv 100 (t 2),
   mv 101 (t 13),
   mv 102 (t 4),
   ca 103 F.slices_partitionEqualCmpFunc_store_place [(t 98), (t 99), (t 100), (t 101), (t 102)],
   mv 15 (t 103)] [1, 13, 98, 99, 100, 101, 102, 103])
   (.seq (.ops [mv 104 (t 15),
   mv 1 (t 104)] [15, 104])
   (.exit 1)))
   (.skip)))
  (.seq (.ops [mv 106 (t 0),
  mv 107 (t 1),
  mv 108 (t 2),
  mv 109 (t 13),
  mv 110 (t 4),
  ca 111 F.slices_partitionCmpFunc_store_place [(t 106), (t 107), (t 108), (t 109), (t 110)],
  mv 105 (t 111),
  ex 112 (t 105) 0,
  ex 113 (t 105) 1,
  mv 16 (t 112),
  mv 17 (t 113)] [13, 105, 106, 107, 108, 109, 110, 111, 112, 113])
  (.seq (.ops [mv 114 (t 17),
  mv 11 (t 114)] [17, 114])
  (.seq (.ops [mv 115 (t 16),
  mv 116 (t 1),
  o 117 (.ibin .sub (t 115) (t 116)),
  mv 118 (t 2),
  mv 119 (t 16),
  o 120 (.ibin .sub (t 118) (t 119)),
  mv 18 (t 117),
  mv 19 (t 120)] [115, 116, 117, 118, 119, 120])
  (.seq (.ops [mv 121 (t 12),
  o 122 (.ibin .quo (t 121) (k 8)),
  mv 20 (t 122)] [12, 121, 122])
  (.seq (.ops [mv 123 (t 18),
  mv 124 (t 19),
  o 125 (.ibin .lss (t 123) (t 124))] [123, 124])
  (.cond (t 125)
   (.seq (.ops [mv 126 (t 18),
   mv 127 (t 20),
   o 128 (.ibin .geq (t 126) (t 127)),
   mv 10 (t 128)] [18, 20, 126, 127, 128])
   (.seq (.ops [mv 129 (t 0),
   mv 130 (t 1),
   mv 131 (t 16),
   mv 132 (t 3),
   mv 133 (t 4),
   ca 134 F.slices_pdqsortCmpFunc_store_place [(t 129), (t 130), (t 131), (t 132), (t 133)]] [1, 129, 130, 131, 132, 133, 134])
   (.ops [mv 135 (t 16),
   ad 136 (t 135) (k 1),
   mv 1 (t 136)] [16, 135, 136])))
   (.seq (.ops [mv 137 (t 19),
   mv 138 (t 20),
   o 139 (.ibin .geq (t 137) (t 138)),
   mv 10 (t 139)] [19, 20, 137, 138, 139])
   (.seq (.ops [mv 140 (t 0),
   mv 141 (t 16),
   ad 142 (t 141) (k 1),
   mv 143 (t 2),
   mv 144 (t 3),
   mv 145 (t 4),
   ca 146 F.slices_pdqsortCmpFunc_store_place [(t 140), (t 142), (t 143), (t 144), (t 145)]] [2, 140, 141, 142, 143, 144, 145, 146])
   (.ops [mv 147 (t 16),
   mv 2 (t 147)] [16, 147])))))))))))))))))))))
def r_slices_pdqsortCmpFunc_store_place : List RRes := []
theorem fo_slices_pdqsortCmpFunc_store_place {args : List Value} {M : Mem} {R : Value → Mem → Prop} (hn : args.length ≤ 148) (h : vfn Tryz.prog c_slices_pdqsortCmpFunc_store_place r_slices_pdqsortCmpFunc_store_place args M R) : CallsM Tryz.prog F.slices_pdqsortCmpFunc_store_place args M R :=
  fn_ok (kf := k_slices_pdqsortCmpFunc_store_place) Tryz.func54 (by kernel_rfl) (by kernel_rfl) hn (by kernel_rfl) h
/-- math/bits.Len -/
def k_math_bits_Len (i : Nat) : List Nat := match i with | 0 => [2] | 1 => [0, 3, 4, 5] | 2 => [0, 6, 7] | _ => []
def c_math_bits_Len : RCode :=
 .seq (.ops [mv 2 (k 0)] [2])
 (.seq (.cond (kb false)
  (.seq (.ops [mv 3 (t 0),
  o 4 (.conv .u32 (t 3)),
  ca 5 F.math_bits_Len32 [(t 4)],
  mv 2 (t 5)] [0, 3, 4, 5])
  (.ret))
  (.skip))
 (.seq (.ops [mv 6 (t 0),
 ca 7 F.math_bits_Len64 [(t 6)],
 mv 2 (t 7)] [0, 6, 7])
 (.ret)))
def r_math_bits_Len : List RRes := [.tmp 2]
theorem fo_math_bits_Len {args : List Value} {M : Mem} {R : Value → Mem → Prop} (hn : args.length ≤ 8) (h : vfn Tryz.prog c_math_bits_Len r_math_bits_Len args M R) : CallsM Tryz.prog F.math_bits_Len args M R :=
  fn_ok (kf := k_math_bits_Len) Tryz.func55 (by kernel_rfl) (by kernel_rfl) hn (by kernel_rfl) h
/-- slices.SortFunc[[]portage/api.Mark,portage/api.Mark] -/
def k_slices_SortFunc_api_Mark_api_Mark (i : Nat) : List Nat := match i with | 0 => [5, 6] | 1 => [0, 1, 4, 7, 8, 9, 10, 11, 12, 13] | _ => []
def c_slices_SortFunc_api_Mark_api_Mark : RCode :=
 .seq (.ops [mv 5 (t 0),
 o 6 (.len (t 5)),
 mv 4 (t 6)] [5, 6])
 (.ops [mv 7 (t 0),
 mv 8 (t 4),
 mv 9 (t 4),
 o 10 (.conv .u64 (t 9)),
 ca 11 F.math_bits_Len [(t 10)],
 mv 12 (t 1),
 ca 13 F.slices_pdqsortCmpFunc_api_Mark [(t 7), (k 0), (t 8), (t 11), (t 12)]] [0, 1, 4, 7, 8, 9, 10, 11, 12, 13])
def r_slices_SortFunc_api_Mark_api_Mark : List RRes := []
theorem fo_slices_SortFunc_api_Mark_api_Mark {args : List Value} {M : Mem} {R : Value → Mem → Prop} (hn : args.length ≤ 14) (h : vfn Tryz.prog c_slices_SortFunc_api_Mark_api_Mark r_slices_SortFunc_api_Mark_api_Mark args M R) : CallsM Tryz.prog F.slices_SortFunc_api_Mark_api_Mark args M R :=
  fn_ok (kf := k_slices_SortFunc_api_Mark_api_Mark) Tryz.func56 (by kernel_rfl) (by kernel_rfl) hn (by kernel_rfl) h
/-- (*portage/seen.Set).Marks$1 -/
def k_seen_Set_Marks_1 (i : Nat) : List Nat := match i with | 0 => [0, 1, 4] | 1 => [2, 3, 5, 6, 7, 8, 9, 10, 11, 12, 13, 14, 15] | _ => []
def c_seen_Set_Marks_1 : RCode :=
 .seq (.ops [o 2 (.box 101 (t 0)),
 o 3 (.box 101 (t 1)),
 mv 4 (k 0)] [0, 1, 4])
 (.seq (.ops [fa 5 0 (t 2),
 l1 6 (t 5),
 fa 7 1 (t 2),
 l1 8 (t 7),
 o 9 (.mkSl false 3 2 [(i 0), (i 0)] [(0, 1, (t 6)), (1, 1, (t 8))]),
 fa 10 0 (t 3),
 l1 11 (t 10),
 fa 12 1 (t 3),
 l1 13 (t 12),
 o 14 (.mkSl false 3 2 [(i 0), (i 0)] [(0, 1, (t 11)), (1, 1, (t 13))]),
 ca 15 F.slices_Compare_int_int [(t 9), (t 14)],
 mv 4 (t 15)] [2, 3, 5, 6, 7, 8, 9, 10, 11, 12, 13, 14, 15])
 (.ret))
def r_seen_Set_Marks_1 : List RRes := [.tmp 4]
theorem fo_seen_Set_Marks_1 {args : List Value} {M : Mem} {R : Value → Mem → Prop} (hn : args.length ≤ 16) (h : vfn Tryz.prog c_seen_Set_Marks_1 r_seen_Set_Marks_1 args M R) : CallsM Tryz.prog F.seen_Set_Marks_1 args M R :=
  fn_ok (kf := k_seen_Set_Marks_1) Tryz.func57 (by kernel_rfl) (by kernel_rfl) hn (by kernel_rfl) h
/-- slices.Compare[[]int,int] -/
def k_slices_Compare_int_int (i : Nat) : List Nat := match i with | 0 => [4] | 3 => [13, 14, 15] | 4 => [16, 17, 18] | 6 => [5, 20, 21, 22, 23] | 7 => [6, 7, 24, 25, 26] | 8 => [27] | 9 => [8, 29] | 10 => [30] | 11 => [0, 1, 31, 32, 33, 34] | _ => []
def c_slices_Compare_int_int : RCode :=
 .seq (.ops [mv 4 (k 0)] [4])
 (.seq (.seq (.ops [mv 9 (t 0),
 o 10 (.len (t 9)),
 mv 11 (k 0)] [])
 (.block 0 (.loop (.seq (.ops [o 12 (.ibin .lss (t 11) (t 10))] [])
  (.seq (.cond (t 12)
   (.skip)
   (.exit 0))
  (.seq (.block 1 (.seq (.ops [mv 13 (t 11),
  o 14 (.iaddr 1 (t 9) (t 11)),
  l1 15 (t 14),
  mv 5 (t 13),
  mv 6 (t 15)] [13, 14, 15])
  (.seq (.seq (.ops [mv 16 (t 5),
  mv 17 (t 1),
  o 18 (.len (t 17)),
  o 19 (.ibin .geq (t 16) (t 18))] [16, 17, 18])
  (.cond (t 19)
   (.seq (.ops [mv 4 (k 1)] [])
   (.ret))
   (.skip)))
  (.seq (.ops [mv 20 (t 1),
  mv 21 (t 5),
  o 22 (.iaddr 1 (t 20) (t 21)),
  l1 23 (t 22),
  mv 7 (t 23)] [5, 20, 21, 22, 23])
  (.seq (.ops [mv 24 (t 6),
  mv 25 (t 7),
  ca 26 F.cmp_Compare_int [(t 24), (t 25)],
  mv 8 (t 26)] [6, 7, 24, 25, 26])
  (.seq (.ops [mv 27 (t 8),
  o 28 (.ibin .neq (t 27) (k 0))] [27])
  (.cond (t 28)
   (.seq (.ops [mv 29 (t 8),
   mv 4 (t 29)] [8, 29])
   (.ret))
   (.skip))))))))
  (.ops [ad 30 (t 11) (k 1),
  mv 11 (t 30)] [30])))))))
 (.seq (.seq (.ops [mv 31 (t 0),
 o 32 (.len (t 31)),
 mv 33 (t 1),
 o 34 (.len (t 33)),
 o 35 (.ibin .lss (t 32) (t 34))] [0, 1, 31, 32, 33, 34])
 (.cond (t 35)
  (.seq (.ops [mv 4 (k (-1))] [])
  (.ret))
  (.skip)))
 (.seq (.ops [mv 4 (k 0)] [])
 (.ret))))
def r_slices_Compare_int_int : List RRes := [.tmp 4]
theorem fo_slices_Compare_int_int {args : List Value} {M : Mem} {R : Value → Mem → Prop} (hn : args.length ≤ 36) (h : vfn Tryz.prog c_slices_Compare_int_int r_slices_Compare_int_int args M R) : CallsM Tryz.prog F.slices_Compare_int_int args M R :=
  fn_ok (kf := k_slices_Compare_int_int) Tryz.func58 (by kernel_rfl) (by kernel_rfl) hn (by kernel_rfl) h
/-- portage/msg.CheckMsg -/
def k_msg_CheckMsg (i : Nat) : List Nat := match i with | 0 => [0, 2] | 1 => [4, 5, 6] | 2 => [7] | 3 => [3, 9] | 4 => [10, 11, 12] | 6 => [1, 14, 15, 16] | _ => []
def c_msg_CheckMsg : RCode :=
 .seq (.ops [o 1 (.box 46 (t 0)),
 mv 2 (k 0)] [0, 2])
 (.seq (.seq (.ops [fa 4 0 (t 1),
 la 5 4 (t 4),
 ca 6 F.msg_Check [(t 5)],
 mv 3 (t 6)] [4, 5, 6])
 (.seq (.ops [mv 7 (t 3),
 o 8 (.ibin .neq (t 7) (k 0))] [7])
 (.cond (t 8)
  (.seq (.ops [mv 9 (t 3),
  mv 2 (t 9)] [3, 9])
  (.ret))
  (.skip))))
 (.seq (.seq (.ops [fa 10 4 (t 1),
 l1 11 (t 10),
 o 12 (.len (t 11)),
 o 13 (.ibin .eql (t 12) (k 0))] [10, 11, 12])
 (.cond (t 13)
  (.seq (.ops [mv 2 (k 2)] [])
  (.ret))
  (.skip)))
 (.seq (.seq (.ops [fa 14 4 (t 1),
 l1 15 (t 14),
 o 16 (.len (t 15)),
 o 17 (.ibin .gtr (t 16) (k 48))] [1, 14, 15, 16])
 (.cond (t 17)
  (.seq (.ops [mv 2 (k 3)] [])
  (.ret))
  (.skip)))
 (.seq (.ops [mv 2 (k 0)] [])
 (.ret)))))
def r_msg_CheckMsg : List RRes := [.tmp 2]
theorem fo_msg_CheckMsg {args : List Value} {M : Mem} {R : Value → Mem → Prop} (hn : args.length ≤ 18) (h : vfn Tryz.prog c_msg_CheckMsg r_msg_CheckMsg args M R) : CallsM Tryz.prog F.msg_CheckMsg args M R :=
  fn_ok (kf := k_msg_CheckMsg) Tryz.func59 (by kernel_rfl) (by kernel_rfl) hn (by kernel_rfl) h
/-- portage/msg.Check -/
def k_msg_Check (i : Nat) : List Nat := match i with | 0 => [0, 2] | 2 => [3, 4, 5, 6, 7, 8, 9, 10, 11, 12, 13, 14, 15, 16, 17, 18, 19, 20, 21, 22, 23, 24, 25, 26, 27, 28] | 4 => [1, 30, 31, 32, 33] | _ => []
def c_msg_Check : RCode :=
 .seq (.ops [o 1 (.box 43 (t 0)),
 mv 2 (k 0)] [0, 2])
 (.seq (.ops [mv 3 (fn F.msg_Check_1)] [])
 (.seq (.seq (.ops [mv 4 (t 3),
 fa 5 0 (t 1),
 l1 6 (t 5),
 o 7 (.call (t 4) [(t 6), (k 0), (k 63)]),
 o 8 (.not (t 7)),
 os 9 (.mov (t 8)),
 gf 9 10 (.mov (t 3)),
 gf 9 11 (.faddr 1 (t 1)),
 gf 9 12 (.load false 1 (t 11)),
 gf 9 13 (.call (t 10) [(t 12), (k 0), (k 63)]),
 gf 9 14 (.not (t 13)),
 o 15 (.pick (t 9) (kb true) (t 14)),
 os 16 (.mov (t 15)),
 gf 16 17 (.mov (t 3)),
 gf 16 18 (.faddr 2 (t 1)),
 gf 16 19 (.load false 1 (t 18)),
 gf 16 20 (.call (t 17) [(t 19), (k 1), (k 65535)]),
 gf 16 21 (.not (t 20)),
 o 22 (.pick (t 16) (kb true) (t 21)),
 os 23 (.mov (t 22)),
 gf 23 24 (.mov (t 3)),
 gf 23 25 (.faddr 3 (t 1)),
 gf 23 26 (.load false 1 (t 25)),
 gf 23 27 (.call (t 24) [(t 26), (k 1), (k 65535)]),
 gf 23 28 (.not (t 27)),
 o 29 (.pick (t 23) (kb true) (t 28))] [3, 4, 5, 6, 7, 8, 9, 10, 11, 12, 13, 14, 15, 16, 17, 18, 19, 20, 21, 22, 23, 24, 25, 26, 27, 28])
 (.cond (t 29)
  (.seq (.ops [mv 2 (k 1)] [])
  (.ret))
  (.skip)))
 (.seq (.seq (.ops [fa 30 0 (t 1),
 l1 31 (t 30),
 fa 32 1 (t 1),
 l1 33 (t 32),
 o 34 (.ibin .eql (t 31) (t 33))] [1, 30, 31, 32, 33])
 (.cond (t 34)
  (.seq (.ops [mv 2 (k 2)] [])
  (.ret))
  (.skip)))
 (.seq (.ops [mv 2 (k 0)] [])
 (.ret)))))
def r_msg_Check : List RRes := [.tmp 2]
theorem fo_msg_Check {args : List Value} {M : Mem} {R : Value → Mem → Prop} (hn : args.length ≤ 35) (h : vfn Tryz.prog c_msg_Check r_msg_Check args M R) : CallsM Tryz.prog F.msg_Check args M R :=
  fn_ok (kf := k_msg_Check) Tryz.func60 (by kernel_rfl) (by kernel_rfl) hn (by kernel_rfl) h
/-- (*portage/seen.Set).Has -/
def k_seen_Set_Has (i : Nat) : List Nat := match i with | 0 => [1, 4] | 1 => [6, 7, 8, 9, 10, 11] | 3 => [0, 13, 14, 15] | 4 => [3, 5, 16, 17, 18, 19, 20, 21, 22, 23, 24, 25, 26, 27, 28, 29, 30, 31] | _ => []
def c_seen_Set_Has : RCode :=
 .seq (.ops [o 3 (.box 43 (t 1)),
 mv 4 (kb false)] [1, 4])
 (.seq (.seq (.ops [mv 6 (t 0),
 o 7 (.pnil .eql (t 6) (.const (.pointer none))),
 os 8 (.mov (t 7)),
 gf 8 9 (.load true 4 (t 3)),
 gf 8 10 (.call (fn F.msg_Check) [(t 9)]),
 gf 8 11 (.ibin .neq (t 10) (k 0)),
 o 12 (.pick (t 8) (kb true) (t 11))] [6, 7, 8, 9, 10, 11])
 (.cond (t 12)
  (.seq (.ops [mv 4 (kb false)] [])
  (.ret))
  (.skip)))
 (.seq (.ops [mv 13 (t 0),
 la 14 4 (t 3),
 ca 15 F.seen_Set_of [(t 13), (t 14)],
 mv 5 (t 15)] [0, 13, 14, 15])
 (.seq (.draw (.take (fa 16 3 (t 3)) (.take (l1 17 (t 16)) (.take (mv 18 (t 5)) (.take (o 19 (.nilck (t 18))) (.take (fa 20 0 (t 19)) (.take (l1 21 (t 20)) (.take (o 22 (.ibin .leq (t 17) (t 21))) (.take (os 23 (.mov (t 22))) (.take (gf 23 24 (.mov (t 5))) (.take (gf 23 25 (.nilck (t 24))) (.take (gf 23 26 (.faddr 1 (t 25))) (.take (gf 23 27 (.load false 1 (t 26))) (.take (gf 23 28 (.faddr 3 (t 3))) (.take (gf 23 29 (.load false 1 (t 28))) (.alt (gf 23 30 (.call (fn F.slices_Contains_int_int) [(t 27), (t 29)])) false
  (.take (o 31 (.pick (t 23) (kb true) (t 30))) (.take (mv 4 (t 31)) (.done)))
  (.none)))))))))))))))) [3, 5, 16, 17, 18, 19, 20, 21, 22, 23, 24, 25, 26, 27, 28, 29, 30, 31])
 (.ret))))
def r_seen_Set_Has : List RRes := [.tmp 4]
theorem fo_seen_Set_Has {args : List Value} {M : Mem} {R : Value → Mem → Prop} (hn : args.length ≤ 32) (h : vfn Tryz.prog c_seen_Set_Has r_seen_Set_Has args M R) : CallsM Tryz.prog F.seen_Set_Has args M R :=
  fn_ok (kf := k_seen_Set_Has) Tryz.func61 (by kernel_rfl) (by kernel_rfl) hn (by kernel_rfl) h
/-- (*portage/seen.Set).Gaps -/
def k_seen_Set_Gaps (i : Nat) : List Nat := match i with | 0 => [2] | 2 => [6] | 3 => [0, 8, 9, 10, 11] | 4 => [13] | 5 => [15, 16] | 6 => [5, 17, 18, 19, 20, 21, 22, 23] | 7 => [3, 24] | _ => []
def c_seen_Set_Gaps : RCode :=
 .seq (.ops [mv 2 (k 0)] [2])
 (.seq (.ops [mv 3 (k 0)] [])
 (.seq (.seq (.ops [mv 6 (t 0),
 o 7 (.pnil .neq (t 6) (.const (.pointer none)))] [6])
 (.cond (t 7)
  (.seq (.ops [mv 8 (t 0),
  o 9 (.nilck (t 8)),
  fa 10 1 (t 9),
  l1 11 (t 10),
  o 12 (.mrange (t 11))] [0, 8, 9, 10, 11])
  (.block 0 (.loop (.seq (.ops [o 13 (.mnext (t 12)),
   ex 14 (t 13) 0] [13])
   (.seq (.cond (t 14)
    (.skip)
    (.exit 0))
   (.block 1 (.seq (.ops [o 15 (.mentry (t 12)),
   ex 16 (t 15) 1,
   mv 5 (t 16)] [15, 16])
   (.ops [mv 17 (t 3),
   mv 18 (t 5),
   o 19 (.nilck (t 18)),
   fa 20 1 (t 19),
   l1 21 (t 20),
   o 22 (.len (t 21)),
   ad 23 (t 17) (t 22),
   mv 3 (t 23)] [5, 17, 18, 19, 20, 21, 22, 23]))))))))
  (.skip)))
 (.seq (.ops [mv 24 (t 3),
 mv 2 (t 24)] [3, 24])
 (.ret))))
def r_seen_Set_Gaps : List RRes := [.tmp 2]
theorem fo_seen_Set_Gaps {args : List Value} {M : Mem} {R : Value → Mem → Prop} (hn : args.length ≤ 25) (h : vfn Tryz.prog c_seen_Set_Gaps r_seen_Set_Gaps args M R) : CallsM Tryz.prog F.seen_Set_Gaps args M R :=
  fn_ok (kf := k_seen_Set_Gaps) Tryz.func62 (by kernel_rfl) (by kernel_rfl) hn (by kernel_rfl) h
/-- portage/seen.right -/
def k_seen_right (i : Nat) : List Nat := match i with | 0 => [0, 2] | 1 => [6, 7, 8, 9, 10, 11, 12, 13, 14, 15, 16, 17, 18, 19, 20, 21, 22, 23, 24, 25, 26, 27, 28, 29, 30, 31, 32] | 3 => [34, 35, 36] | 4 => [37] | 6 => [42, 43] | 7 => [3, 44, 45, 46, 47, 48, 49] | 9 => [5, 51] | 10 => [52] | 11 => [1, 53, 54, 55, 56, 57, 58, 59, 60, 61] | _ => []
def c_seen_right : RCode :=
 .seq (.ops [o 1 (.box 101 (t 0)),
 mv 2 (kb false)] [0, 2])
 (.seq (.seq (.ops [fa 6 0 (t 1),
 l1 7 (t 6),
 o 8 (.ibin .lss (t 7) (k 0)),
 os 9 (.mov (t 8)),
 gf 9 10 (.faddr 0 (t 1)),
 gf 9 11 (.load false 1 (t 10)),
 gf 9 12 (.ibin .geq (t 11) (k 64)),
 o 13 (.pick (t 9) (kb true) (t 12)),
 os 14 (.mov (t 13)),
 gf 14 15 (.faddr 1 (t 1)),
 gf 14 16 (.load false 1 (t 15)),
 gf 14 17 (.ibin .lss (t 16) (k 1)),
 o 18 (.pick (t 14) (kb true) (t 17)),
 os 19 (.mov (t 18)),
 gf 19 20 (.faddr 1 (t 1)),
 gf 19 21 (.load false 1 (t 20)),
 gf 19 22 (.ibin .gtr (t 21) (k 65535)),
 o 23 (.pick (t 19) (kb true) (t 22)),
 os 24 (.mov (t 23)),
 gf 24 25 (.faddr 2 (t 1)),
 gf 24 26 (.load false 1 (t 25)),
 gf 24 27 (.ibin .lss (t 26) (k 0)),
 o 28 (.pick (t 24) (kb true) (t 27)),
 os 29 (.mov (t 28)),
 gf 29 30 (.faddr 2 (t 1)),
 gf 29 31 (.load false 1 (t 30)),
 gf 29 32 (.ibin .gtr (t 31) (k 65535)),
 o 33 (.pick (t 29) (kb true) (t 32))] [6, 7, 8, 9, 10, 11, 12, 13, 14, 15, 16, 17, 18, 19, 20, 21, 22, 23, 24, 25, 26, 27, 28, 29, 30, 31, 32])
 (.cond (t 33)
  (.seq (.ops [mv 2 (kb false)] [])
  (.ret))
  (.skip)))
 (.seq (.ops [fa 34 2 (t 1),
 l1 35 (t 34),
 ad 36 (t 35) (k 1),
 mv 3 (t 36)] [34, 35, 36])
 (.seq (.seq (.ops [fa 37 3 (t 1),
 l1 38 (t 37),
 o 39 (.len (t 38)),
 mv 40 (k 0)] [37])
 (.block 0 (.loop (.seq (.ops [o 41 (.ibin .lss (t 40) (t 39))] [])
  (.seq (.cond (t 41)
   (.skip)
   (.exit 0))
  (.seq (.block 1 (.seq (.ops [o 42 (.iaddr 1 (t 38) (t 40)),
  l1 43 (t 42),
  mv 5 (t 43)] [42, 43])
  (.seq (.seq (.ops [mv 44 (t 5),
  mv 45 (t 3),
  o 46 (.ibin .leq (t 44) (t 45)),
  os 47 (.mov (t 46)),
  gf 47 48 (.mov (t 5)),
  gf 47 49 (.ibin .gtr (t 48) (k 65535)),
  o 50 (.pick (t 47) (kb true) (t 49))] [3, 44, 45, 46, 47, 48, 49])
  (.cond (t 50)
   (.seq (.ops [mv 2 (kb false)] [])
   (.ret))
   (.skip)))
  (.ops [mv 51 (t 5),
  mv 3 (t 51)] [5, 51]))))
  (.ops [ad 52 (t 40) (k 1),
  mv 40 (t 52)] [52])))))))
 (.seq (.ops [fa 53 2 (t 1),
 l1 54 (t 53),
 o 55 (.ibin .gtr (t 54) (k 0)),
 os 56 (.mov (t 55)),
 gf 56 57 (.faddr 3 (t 1)),
 gf 56 58 (.load false 1 (t 57)),
 gf 56 59 (.len (t 58)),
 gf 56 60 (.ibin .gtr (t 59) (k 0)),
 o 61 (.pick (t 56) (kb true) (t 60)),
 mv 2 (t 61)] [1, 53, 54, 55, 56, 57, 58, 59, 60, 61])
 (.ret)))))
def r_seen_right : List RRes := [.tmp 2]
theorem fo_seen_right {args : List Value} {M : Mem} {R : Value → Mem → Prop} (hn : args.length ≤ 62) (h : vfn Tryz.prog c_seen_right r_seen_right args M R) : CallsM Tryz.prog F.seen_right args M R :=
  fn_ok (kf := k_seen_right) Tryz.func63 (by kernel_rfl) (by kernel_rfl) hn (by kernel_rfl) h
/-- portage/portageref13.CheckMsg -/
def k_ref13_CheckMsg (i : Nat) : List Nat := match i with | 0 => [0, 2] | 1 => [3, 4, 5] | 2 => [1, 7, 8, 9] | 3 => [10, 11, 12] | 5 => [1, 14, 15, 16] | _ => []
def c_ref13_CheckMsg : RCode :=
 .seq (.ops [o 1 (.box 46 (t 0)),
 mv 2 (k 0)] [0, 2])
 (.seq (.seq (.ops [fa 3 0 (t 1),
 la 4 4 (t 3),
 ca 5 F.ref13_Check [(t 4)],
 o 6 (.ibin .neq (t 5) (k 0))] [3, 4, 5])
 (.cond (t 6)
  (.seq (.ops [fa 7 0 (t 1),
  la 8 4 (t 7),
  ca 9 F.ref13_Check [(t 8)],
  mv 2 (t 9)] [1, 7, 8, 9])
  (.ret))
  (.skip)))
 (.seq (.seq (.ops [fa 10 4 (t 1),
 l1 11 (t 10),
 o 12 (.len (t 11)),
 o 13 (.ibin .eql (t 12) (k 0))] [10, 11, 12])
 (.cond (t 13)
  (.seq (.ops [mv 2 (k 2)] [])
  (.ret))
  (.skip)))
 (.seq (.seq (.ops [fa 14 4 (t 1),
 l1 15 (t 14),
 o 16 (.len (t 15)),
 o 17 (.ibin .gtr (t 16) (k 48))] [1, 14, 15, 16])
 (.cond (t 17)
  (.seq (.ops [mv 2 (k 3)] [])
  (.ret))
  (.skip)))
 (.seq (.ops [mv 2 (k 0)] [])
 (.ret)))))
def r_ref13_CheckMsg : List RRes := [.tmp 2]
theorem fo_ref13_CheckMsg {args : List Value} {M : Mem} {R : Value → Mem → Prop} (hn : args.length ≤ 18) (h : vfn Tryz.prog c_ref13_CheckMsg r_ref13_CheckMsg args M R) : CallsM Tryz.prog F.ref13_CheckMsg args M R :=
  fn_ok (kf := k_ref13_CheckMsg) Tryz.func64 (by kernel_rfl) (by kernel_rfl) hn (by kernel_rfl) h
/-- portage/portageref15.zero -/
def k_ref15_zero (i : Nat) : List Nat := match i with | 0 => [0, 2] | 1 => [1, 3, 4, 5, 6, 7, 8, 9, 10, 11, 12, 13, 14, 15, 16, 17, 18, 19, 20] | _ => []
def c_ref15_zero : RCode :=
 .seq (.ops [o 1 (.box 43 (t 0)),
 mv 2 (kb false)] [0, 2])
 (.seq (.ops [fa 3 0 (t 1),
 l1 4 (t 3),
 o 5 (.ibin .eql (t 4) (k 0)),
 os 6 (.mov (t 5)),
 gt 6 7 (.faddr 1 (t 1)),
 gt 6 8 (.load false 1 (t 7)),
 gt 6 9 (.ibin .eql (t 8) (k 0)),
 o 10 (.pick (t 6) (t 9) (kb false)),
 os 11 (.mov (t 10)),
 gt 11 12 (.faddr 2 (t 1)),
 gt 11 13 (.load false 1 (t 12)),
 gt 11 14 (.ibin .eql (t 13) (k 0)),
 o 15 (.pick (t 11) (t 14) (kb false)),
 os 16 (.mov (t 15)),
 gt 16 17 (.faddr 3 (t 1)),
 gt 16 18 (.load false 1 (t 17)),
 gt 16 19 (.ibin .eql (t 18) (k 0)),
 o 20 (.pick (t 16) (t 19) (kb false)),
 mv 2 (t 20)] [1, 3, 4, 5, 6, 7, 8, 9, 10, 11, 12, 13, 14, 15, 16, 17, 18, 19, 20])
 (.ret))
def r_ref15_zero : List RRes := [.tmp 2]
theorem fo_ref15_zero {args : List Value} {M : Mem} {R : Value → Mem → Prop} (hn : args.length ≤ 21) (h : vfn Tryz.prog c_ref15_zero r_ref15_zero args M R) : CallsM Tryz.prog F.ref15_zero args M R :=
  fn_ok (kf := k_ref15_zero) Tryz.func65 (by kernel_rfl) (by kernel_rfl) hn (by kernel_rfl) h
/-- portage/portageref13.Check -/
def k_ref13_Check (i : Nat) : List Nat := match i with | 0 => [0, 2] | 1 => [3, 4, 5, 6, 7, 8, 9, 10, 11, 12, 13, 14, 15, 16, 17, 18, 19, 20, 21, 22, 23, 24, 25, 26, 27, 28, 29, 30, 31, 32, 33, 34, 35, 36, 37, 38, 39] | 3 => [1, 41, 42, 43, 44] | _ => []
def c_ref13_Check : RCode :=
 .seq (.ops [o 1 (.box 43 (t 0)),
 mv 2 (k 0)] [0, 2])
 (.seq (.seq (.ops [fa 3 0 (t 1),
 l1 4 (t 3),
 o 5 (.ibin .lss (t 4) (k 0)),
 os 6 (.mov (t 5)),
 gf 6 7 (.faddr 0 (t 1)),
 gf 6 8 (.load false 1 (t 7)),
 gf 6 9 (.ibin .geq (t 8) (k 64)),
 o 10 (.pick (t 6) (kb true) (t 9)),
 os 11 (.mov (t 10)),
 gf 11 12 (.faddr 1 (t 1)),
 gf 11 13 (.load false 1 (t 12)),
 gf 11 14 (.ibin .lss (t 13) (k 0)),
 o 15 (.pick (t 11) (kb true) (t 14)),
 os 16 (.mov (t 15)),
 gf 16 17 (.faddr 1 (t 1)),
 gf 16 18 (.load false 1 (t 17)),
 gf 16 19 (.ibin .geq (t 18) (k 64)),
 o 20 (.pick (t 16) (kb true) (t 19)),
 os 21 (.mov (t 20)),
 gf 21 22 (.faddr 2 (t 1)),
 gf 21 23 (.load false 1 (t 22)),
 gf 21 24 (.ibin .lss (t 23) (k 1)),
 o 25 (.pick (t 21) (kb true) (t 24)),
 os 26 (.mov (t 25)),
 gf 26 27 (.faddr 2 (t 1)),
 gf 26 28 (.load false 1 (t 27)),
 gf 26 29 (.ibin .gtr (t 28) (k 65535)),
 o 30 (.pick (t 26) (kb true) (t 29)),
 os 31 (.mov (t 30)),
 gf 31 32 (.faddr 3 (t 1)),
 gf 31 33 (.load false 1 (t 32)),
 gf 31 34 (.ibin .lss (t 33) (k 1)),
 o 35 (.pick (t 31) (kb true) (t 34)),
 os 36 (.mov (t 35)),
 gf 36 37 (.faddr 3 (t 1)),
 gf 36 38 (.load false 1 (t 37)),
 gf 36 39 (.ibin .gtr (t 38) (k 65535)),
 o 40 (.pick (t 36) (kb true) (t 39))] [3, 4, 5, 6, 7, 8, 9, 10, 11, 12, 13, 14, 15, 16, 17, 18, 19, 20, 21, 22, 23, 24, 25, 26, 27, 28, 29, 30, 31, 32, 33, 34, 35, 36, 37, 38, 39])
 (.cond (t 40)
  (.seq (.ops [mv 2 (k 1)] [])
  (.ret))
  (.skip)))
 (.seq (.seq (.ops [fa 41 0 (t 1),
 l1 42 (t 41),
 fa 43 1 (t 1),
 l1 44 (t 43),
 o 45 (.ibin .eql (t 42) (t 44))] [1, 41, 42, 43, 44])
 (.cond (t 45)
  (.seq (.ops [mv 2 (k 2)] [])
  (.ret))
  (.skip)))
 (.seq (.ops [mv 2 (k 0)] [])
 (.ret))))
def r_ref13_Check : List RRes := [.tmp 2]
theorem fo_ref13_Check {args : List Value} {M : Mem} {R : Value → Mem → Prop} (hn : args.length ≤ 46) (h : vfn Tryz.prog c_ref13_Check r_ref13_Check args M R) : CallsM Tryz.prog F.ref13_Check args M R :=
  fn_ok (kf := k_ref13_Check) Tryz.func66 (by kernel_rfl) (by kernel_rfl) hn (by kernel_rfl) h
/-- portage/portageref14.Has -/
def k_ref14_Has (i : Nat) : List Nat := match i with | 0 => [0, 1, 4] | 1 => [2, 3, 5, 6, 7, 8, 9, 10, 11, 12, 13, 14, 15, 16, 17, 18] | _ => []
def c_ref14_Has : RCode :=
 .seq (.ops [o 2 (.box 35 (t 0)),
 o 3 (.box 43 (t 1)),
 mv 4 (kb false)] [0, 1, 4])
 (.seq (.ops [la 5 4 (t 3),
 ca 6 F.ref13_Check [(t 5)],
 o 7 (.ibin .eql (t 6) (k 0)),
 os 8 (.mov (t 7)),
 gt 8 9 (.load true 2 (t 2)),
 gt 8 10 (.faddr 0 (t 3)),
 gt 8 11 (.load false 1 (t 10)),
 gt 8 12 (.faddr 2 (t 3)),
 gt 8 13 (.load false 1 (t 12)),
 gt 8 14 (.faddr 3 (t 3)),
 gt 8 15 (.load false 1 (t 14)),
 gt 8 16 (.build [(i 0), (i 0), (i 0)] [(0, 1, (t 11)), (1, 1, (t 13)), (2, 1, (t 15))]),
 gt 8 17 (.call (fn F.ref14_There) [(t 9), (t 16)]),
 o 18 (.pick (t 8) (t 17) (kb false)),
 mv 4 (t 18)] [2, 3, 5, 6, 7, 8, 9, 10, 11, 12, 13, 14, 15, 16, 17, 18])
 (.ret))
def r_ref14_Has : List RRes := [.tmp 4]
theorem fo_ref14_Has {args : List Value} {M : Mem} {R : Value → Mem → Prop} (hn : args.length ≤ 19) (h : vfn Tryz.prog c_ref14_Has r_ref14_Has args M R) : CallsM Tryz.prog F.ref14_Has args M R :=
  fn_ok (kf := k_ref14_Has) Tryz.func67 (by kernel_rfl) (by kernel_rfl) hn (by kernel_rfl) h
/-- portage/portageref14.Next -/
def k_ref14_Next (i : Nat) : List Nat := match i with | 0 => [0, 1, 4] | 1 => [2, 7, 8] | 3 => [9, 10, 11] | 5 => [15, 16, 17, 18, 19, 20, 21, 22, 23, 24, 25, 26, 27, 28, 29, 30, 31] | 6 => [5, 6, 33, 34, 35, 36, 37, 38] | 4 => [13, 14] | _ => []
def c_ref14_Next : RCode :=
 .seq (.ops [o 2 (.box 35 (t 0)),
 o 3 (.box 43 (t 1)),
 mv 4 (k 0)] [0, 1, 4])
 (.seq (.ops [la 7 2 (t 2),
 ca 8 F.ref14_Marks [(t 7)],
 mv 5 (t 8)] [2, 7, 8])
 (.seq (.seq (.ops [mv 6 (k 0)] [])
 (.block 0 (.loop (.seq (.seq (.ops [mv 9 (t 6),
  mv 10 (t 5),
  o 11 (.len (t 10)),
  o 12 (.ibin .lss (t 9) (t 11))] [9, 10, 11])
  (.cond (t 12)
   (.skip)
   (.exit 0)))
  (.seq (.block 1 (.seq (.draw (.take (mv 15 (t 5)) (.take (mv 16 (t 6)) (.take (o 17 (.iaddr 4 (t 15) (t 16))) (.take (fa 18 0 (t 17)) (.take (l1 19 (t 18)) (.take (fa 20 0 (t 3)) (.take (l1 21 (t 20)) (.take (o 22 (.ibin .eql (t 19) (t 21))) (.take (os 23 (.mov (t 22))) (.take (gt 23 24 (.mov (t 5))) (.take (gt 23 25 (.mov (t 6))) (.take (gt 23 26 (.iaddr 4 (t 24) (t 25))) (.take (gt 23 27 (.faddr 1 (t 26))) (.take (gt 23 28 (.load false 1 (t 27))) (.take (gt 23 29 (.faddr 2 (t 3))) (.take (gt 23 30 (.load false 1 (t 29))) (.take (gt 23 31 (.ibin .eql (t 28) (t 30))) (.take (o 32 (.pick (t 23) (t 31) (kb false))) (.done))))))))))))))))))) [15, 16, 17, 18, 19, 20, 21, 22, 23, 24, 25, 26, 27, 28, 29, 30, 31])
  (.cond (t 32)
   (.seq (.ops [mv 33 (t 5),
   mv 34 (t 6),
   o 35 (.iaddr 4 (t 33) (t 34)),
   fa 36 2 (t 35),
   l1 37 (t 36),
   ad 38 (t 37) (k 1),
   mv 4 (t 38)] [5, 6, 33, 34, 35, 36, 37, 38])
   (.ret))
   (.skip))))
  (.ops [mv 13 (t 6),
  ad 14 (t 13) (k 1),
  mv 6 (t 14)] [13, 14]))))))
 (.seq (.ops [mv 4 (k 1)] [])
 (.ret))))
def r_ref14_Next : List RRes := [.tmp 4]
theorem fo_ref14_Next {args : List Value} {M : Mem} {R : Value → Mem → Prop} (hn : args.length ≤ 39) (h : vfn Tryz.prog c_ref14_Next r_ref14_Next args M R) : CallsM Tryz.prog F.ref14_Next args M R :=
  fn_ok (kf := k_ref14_Next) Tryz.func68 (by kernel_rfl) (by kernel_rfl) hn (by kernel_rfl) h
/-- portage/portageref14.Gaps -/
def k_ref14_Gaps (i : Nat) : List Nat := match i with | 0 => [0, 2] | 1 => [1, 6, 7] | 4 => [8, 9, 10] | 6 => [14, 15, 16, 17, 18, 19, 20, 21] | 5 => [12, 13] | 7 => [4, 22] | _ => []
def c_ref14_Gaps : RCode :=
 .seq (.ops [o 1 (.box 35 (t 0)),
 mv 2 (k 0)] [0, 2])
 (.seq (.ops [la 6 2 (t 1),
 ca 7 F.ref14_Marks [(t 6)],
 mv 3 (t 7)] [1, 6, 7])
 (.seq (.ops [mv 4 (k 0)] [])
 (.seq (.seq (.ops [mv 5 (k 0)] [])
 (.block 0 (.loop (.seq (.seq (.ops [mv 8 (t 5),
  mv 9 (t 3),
  o 10 (.len (t 9)),
  o 11 (.ibin .lss (t 8) (t 10))] [8, 9, 10])
  (.cond (t 11)
   (.skip)
   (.exit 0)))
  (.seq (.block 1 (.ops [mv 14 (t 4),
  mv 15 (t 3),
  mv 16 (t 5),
  o 17 (.iaddr 4 (t 15) (t 16)),
  fa 18 3 (t 17),
  l1 19 (t 18),
  o 20 (.len (t 19)),
  ad 21 (t 14) (t 20),
  mv 4 (t 21)] [14, 15, 16, 17, 18, 19, 20, 21]))
  (.ops [mv 12 (t 5),
  ad 13 (t 12) (k 1),
  mv 5 (t 13)] [12, 13]))))))
 (.seq (.ops [mv 22 (t 4),
 mv 2 (t 22)] [4, 22])
 (.ret)))))
def r_ref14_Gaps : List RRes := [.tmp 2]
theorem fo_ref14_Gaps {args : List Value} {M : Mem} {R : Value → Mem → Prop} (hn : args.length ≤ 23) (h : vfn Tryz.prog c_ref14_Gaps r_ref14_Gaps args M R) : CallsM Tryz.prog F.ref14_Gaps args M R :=
  fn_ok (kf := k_ref14_Gaps) Tryz.func69 (by kernel_rfl) (by kernel_rfl) hn (by kernel_rfl) h
/-- portage/portageref14.less -/
def k_ref14_less (i : Nat) : List Nat := match i with | 0 => [0, 1, 4] | 1 => [5, 6, 7, 8] | 2 => [2, 3, 10, 11, 12, 13, 14] | 3 => [15, 16, 17, 18] | 4 => [2, 3, 20, 21, 22, 23, 24] | 5 => [2, 3, 25, 26, 27, 28, 29] | _ => []
def c_ref14_less : RCode :=
 .seq (.ops [o 2 (.box 110 (t 0)),
 o 3 (.box 110 (t 1)),
 mv 4 (kb false)] [0, 1, 4])
 (.seq (.seq (.ops [fa 5 0 (t 2),
 l1 6 (t 5),
 fa 7 0 (t 3),
 l1 8 (t 7),
 o 9 (.ibin .neq (t 6) (t 8))] [5, 6, 7, 8])
 (.cond (t 9)
  (.seq (.ops [fa 10 0 (t 2),
  l1 11 (t 10),
  fa 12 0 (t 3),
  l1 13 (t 12),
  o 14 (.ibin .lss (t 11) (t 13)),
  mv 4 (t 14)] [2, 3, 10, 11, 12, 13, 14])
  (.ret))
  (.skip)))
 (.seq (.seq (.ops [fa 15 1 (t 2),
 l1 16 (t 15),
 fa 17 1 (t 3),
 l1 18 (t 17),
 o 19 (.ibin .neq (t 16) (t 18))] [15, 16, 17, 18])
 (.cond (t 19)
  (.seq (.ops [fa 20 1 (t 2),
  l1 21 (t 20),
  fa 22 1 (t 3),
  l1 23 (t 22),
  o 24 (.ibin .lss (t 21) (t 23)),
  mv 4 (t 24)] [2, 3, 20, 21, 22, 23, 24])
  (.ret))
  (.skip)))
 (.seq (.ops [fa 25 2 (t 2),
 l1 26 (t 25),
 fa 27 2 (t 3),
 l1 28 (t 27),
 o 29 (.ibin .lss (t 26) (t 28)),
 mv 4 (t 29)] [2, 3, 25, 26, 27, 28, 29])
 (.ret))))
def r_ref14_less : List RRes := [.tmp 4]
theorem fo_ref14_less {args : List Value} {M : Mem} {R : Value → Mem → Prop} (hn : args.length ≤ 30) (h : vfn Tryz.prog c_ref14_less r_ref14_less args M R) : CallsM Tryz.prog F.ref14_less args M R :=
  fn_ok (kf := k_ref14_less) Tryz.func70 (by kernel_rfl) (by kernel_rfl) hn (by kernel_rfl) h
/-- cmp.Less[int] -/
def k_cmp_Less_int (i : Nat) : List Nat := match i with | 0 => [4] | 1 => [0, 1, 5, 6, 7, 8, 9, 10, 11, 12, 13, 14, 15, 16] | _ => []
def c_cmp_Less_int : RCode :=
 .seq (.ops [mv 4 (kb false)] [4])
 (.seq (.ops [mv 5 (t 0),
 ca 6 F.cmp_isNaN_int [(t 5)],
 os 7 (.mov (t 6)),
 gt 7 8 (.mov (t 1)),
 gt 7 9 (.call (fn F.cmp_isNaN_int) [(t 8)]),
 gt 7 10 (.not (t 9)),
 o 11 (.pick (t 7) (t 10) (kb false)),
 os 12 (.mov (t 11)),
 gf 12 13 (.mov (t 0)),
 gf 12 14 (.mov (t 1)),
 gf 12 15 (.ibin .lss (t 13) (t 14)),
 o 16 (.pick (t 12) (kb true) (t 15)),
 mv 4 (t 16)] [0, 1, 5, 6, 7, 8, 9, 10, 11, 12, 13, 14, 15, 16])
 (.ret))
def r_cmp_Less_int : List RRes := [.tmp 4]
theorem fo_cmp_Less_int {args : List Value} {M : Mem} {R : Value → Mem → Prop} (hn : args.length ≤ 17) (h : vfn Tryz.prog c_cmp_Less_int r_cmp_Less_int args M R) : CallsM Tryz.prog F.cmp_Less_int args M R :=
  fn_ok (kf := k_cmp_Less_int) Tryz.func71 (by kernel_rfl) (by kernel_rfl) hn (by kernel_rfl) h
/-- slices.isNaN[int] -/
def k_slices_isNaN_int (i : Nat) : List Nat := match i with | 0 => [2] | 1 => [0, 3, 4, 5] | _ => []
def c_slices_isNaN_int : RCode :=
 .seq (.ops [mv 2 (kb false)] [2])
 (.seq (.ops [mv 3 (t 0),
 mv 4 (t 0),
 o 5 (.ibin .neq (t 3) (t 4)),
 mv 2 (t 5)] [0, 3, 4, 5])
 (.ret))
def r_slices_isNaN_int : List RRes := [.tmp 2]
theorem fo_slices_isNaN_int {args : List Value} {M : Mem} {R : Value → Mem → Prop} (hn : args.length ≤ 6) (h : vfn Tryz.prog c_slices_isNaN_int r_slices_isNaN_int args M R) : CallsM Tryz.prog F.slices_isNaN_int args M R :=
  fn_ok (kf := k_slices_isNaN_int) Tryz.func72 (by kernel_rfl) (by kernel_rfl) hn (by kernel_rfl) h
/-- slices.rotateRight[int] -/
def k_slices_rotateRight_int (i : Nat) : List Nat := match i with | 0 => [0, 1, 4, 5, 6, 7, 8, 9] | _ => []
def c_slices_rotateRight_int : RCode :=
 .ops [mv 4 (t 0),
 mv 5 (t 0),
 o 6 (.len (t 5)),
 mv 7 (t 1),
 o 8 (.ibin .sub (t 6) (t 7)),
 ca 9 F.slices_rotateLeft_int [(t 4), (t 8)]] [0, 1, 4, 5, 6, 7, 8, 9]
def r_slices_rotateRight_int : List RRes := []
theorem fo_slices_rotateRight_int {args : List Value} {M : Mem} {R : Value → Mem → Prop} (hn : args.length ≤ 10) (h : vfn Tryz.prog c_slices_rotateRight_int r_slices_rotateRight_int args M R) : CallsM Tryz.prog F.slices_rotateRight_int args M R :=
  fn_ok (kf := k_slices_rotateRight_int) Tryz.func74 (by kernel_rfl) (by kernel_rfl) hn (by kernel_rfl) h
/-- slices.insertionSortCmpFunc[portage/store.place] -/
def k_slices_insertionSortCmpFunc_store_place (i : Nat) : List Nat := match i with | 0 => [10, 11] | 1 => [12, 13] | 3 => [17] | 4 => [18, 19, 20, 21, 22, 23, 24, 25, 26, 27, 28, 29, 30, 31, 32, 33] | 6 => [37, 38, 39, 40, 41, 42, 43, 44, 45, 46, 47, 48, 49, 50, 51, 52] | 5 => [35, 36] | 2 => [15, 16] | _ => []
def c_slices_insertionSortCmpFunc_store_place : RCode :=
 .seq (.ops [mv 10 (t 1),
 ad 11 (t 10) (k 1),
 mv 8 (t 11)] [10, 11])
 (.block 0 (.loop (.seq (.seq (.ops [mv 12 (t 8),
  mv 13 (t 2),
  o 14 (.ibin .lss (t 12) (t 13))] [12, 13])
  (.cond (t 14)
   (.skip)
   (.exit 0)))
  (.seq (.block 1 (.seq (.ops [mv 17 (t 8),
  mv 9 (t 17)] [17])
  (.block 2 (.loop (.seq (.seq (.draw (.take (mv 18 (t 9)) (.take (mv 19 (t 1)) (.take (o 20 (.ibin .gtr (t 18) (t 19))) (.take (os 21 (.mov (t 20))) (.take (gt 21 22 (.mov (t 3))) (.take (gt 21 23 (.mov (t 0))) (.take (gt 21 24 (.mov (t 9))) (.take (gt 21 25 (.iaddr 6 (t 23) (t 24))) (.take (gt 21 26 (.load true 6 (t 25))) (.take (gt 21 27 (.mov (t 0))) (.take (gt 21 28 (.mov (t 9))) (.take (gt 21 29 (.ibin .sub (t 28) (k 1))) (.take (gt 21 30 (.iaddr 6 (t 27) (t 29))) (.take (gt 21 31 (.load true 6 (t 30))) (.alt (gt 21 32 (.call (t 22) [(t 26), (t 31)])) false
    (.take (gt 21 33 (.ibin .lss (t 32) (k 0))) (.take (o 34 (.pick (t 21) (t 33) (kb false))) (.done)))
    (.none)))))))))))))))) [18, 19, 20, 21, 22, 23, 24, 25, 26, 27, 28, 29, 30, 31, 32, 33])
   (.cond (t 34)
    (.skip)
    (.exit 2)))
   (.seq (.block 3 (.draw (.take (mv 37 (t 0)) (.take (mv 38 (t 9)) (.take (mv 39 (t 0)) (.take (mv 40 (t 9)) (.take (o 41 (.ibin .sub (t 40) (k 1))) (.take (mv 42 (t 0)) (.take (mv 43 (t 9)) (.take (o 44 (.ibin .sub (t 43) (k 1))) (.take (o 45 (.iaddr 6 (t 42) (t 44))) (.take (la 46 6 (t 45)) (.take (mv 47 (t 0)) (.take (mv 48 (t 9)) (.take (o 49 (.iaddr 6 (t 47) (t 48))) (.take (la 50 6 (t 49)) (.take (o 51 (.iaddr 6 (t 37) (t 38))) (.alt (st 6 (t 51) (t 46)) false
    (.take (o 52 (.iaddr 6 (t 39) (t 41))) (.alt (st 6 (t 52) (t 50)) false
     (.done)
     (.none)))
    (.none))))))))))))))))) [37, 38, 39, 40, 41, 42, 43, 44, 45, 46, 47, 48, 49, 50, 51, 52]))
   (.ops [mv 35 (t 9),
   o 36 (.ibin .sub (t 35) (k 1)),
   mv 9 (t 36)] [35, 36])))))))
  (.ops [mv 15 (t 8),
  ad 16 (t 15) (k 1),
  mv 8 (t 16)] [15, 16])))))
def r_slices_insertionSortCmpFunc_store_place : List RRes := []
theorem fo_slices_insertionSortCmpFunc_store_place {args : List Value} {M : Mem} {R : Value → Mem → Prop} (hn : args.length ≤ 53) (h : vfn Tryz.prog c_slices_insertionSortCmpFunc_store_place r_slices_insertionSortCmpFunc_store_place args M R) : CallsM Tryz.prog F.slices_insertionSortCmpFunc_store_place args M R :=
  fn_ok (kf := k_slices_insertionSortCmpFunc_store_place) Tryz.func75 (by kernel_rfl) (by kernel_rfl) hn (by kernel_rfl) h
/-- slices.heapSortCmpFunc[portage/store.place] -/
def k_slices_heapSortCmpFunc_store_place (i : Nat) : List Nat := match i with | 0 => [13] | 2 => [1, 2, 14, 15, 16] | 3 => [17, 18, 19] | 4 => [20] | 6 => [24, 25, 26, 27, 28, 29] | 5 => [22, 23] | 7 => [10, 30, 31] | 8 => [32] | 10 => [36, 37, 38, 39, 40, 41, 42, 43, 44, 45, 46, 47, 48, 49, 50, 51, 52, 53] | 11 => [54, 55, 56, 57, 58, 59] | 9 => [34, 35] | _ => []
def c_slices_heapSortCmpFunc_store_place : RCode :=
 .seq (.ops [mv 13 (t 1),
 mv 8 (t 13)] [13])
 (.seq (.ops [mv 9 (k 0)] [])
 (.seq (.ops [mv 14 (t 2),
 mv 15 (t 1),
 o 16 (.ibin .sub (t 14) (t 15)),
 mv 10 (t 16)] [1, 2, 14, 15, 16])
 (.seq (.seq (.ops [mv 17 (t 10),
 o 18 (.ibin .sub (t 17) (k 1)),
 o 19 (.ibin .quo (t 18) (k 2)),
 mv 11 (t 19)] [17, 18, 19])
 (.block 0 (.loop (.seq (.seq (.ops [mv 20 (t 11),
  o 21 (.ibin .geq (t 20) (k 0))] [20])
  (.cond (t 21)
   (.skip)
   (.exit 0)))
  (.seq (.block 1 (.ops [mv 24 (t 0),
  mv 25 (t 11),
  mv 26 (t 10),
  mv 27 (t 8),
  mv 28 (t 3),
  ca 29 F.slices_siftDownCmpFunc_store_place [(t 24), (t 25), (t 26), (t 27), (t 28)]] [24, 25, 26, 27, 28, 29]))
  (.ops [mv 22 (t 11),
  o 23 (.ibin .sub (t 22) (k 1)),
  mv 11 (t 23)] [22, 23]))))))
 (.seq (.ops [mv 30 (t 10),
 o 31 (.ibin .sub (t 30) (k 1)),
 mv 12 (t 31)] [10, 30, 31])
 (.block 2 (.loop (.seq (.seq (.ops [mv 32 (t 12),
  o 33 (.ibin .geq (t 32) (k 0))] [32])
  (.cond (t 33)
   (.skip)
   (.exit 2)))
  (.seq (.block 3 (.seq (.draw (.take (mv 36 (t 0)) (.take (mv 37 (t 8)) (.take (mv 38 (t 0)) (.take (mv 39 (t 8)) (.take (mv 40 (t 12)) (.take (ad 41 (t 39) (t 40)) (.take (mv 42 (t 0)) (.take (mv 43 (t 8)) (.take (mv 44 (t 12)) (.take (ad 45 (t 43) (t 44)) (.take (o 46 (.iaddr 6 (t 42) (t 45))) (.take (la 47 6 (t 46)) (.take (mv 48 (t 0)) (.take (mv 49 (t 8)) (.take (o 50 (.iaddr 6 (t 48) (t 49))) (.take (la 51 6 (t 50)) (.take (o 52 (.iaddr 6 (t 36) (t 37))) (.alt (st 6 (t 52) (t 47)) false
   (.take (o 53 (.iaddr 6 (t 38) (t 41))) (.alt (st 6 (t 53) (t 51)) false
    (.done)
    (.none)))
   (.none))))))))))))))))))) [36, 37, 38, 39, 40, 41, 42, 43, 44, 45, 46, 47, 48, 49, 50, 51, 52, 53])
  (.ops [mv 54 (t 0),
  mv 55 (t 9),
  mv 56 (t 12),
  mv 57 (t 8),
  mv 58 (t 3),
  ca 59 F.slices_siftDownCmpFunc_store_place [(t 54), (t 55), (t 56), (t 57), (t 58)]] [54, 55, 56, 57, 58, 59])))
  (.ops [mv 34 (t 12),
  o 35 (.ibin .sub (t 34) (k 1)),
  mv 12 (t 35)] [34, 35])))))))))
def r_slices_heapSortCmpFunc_store_place : List RRes := []
theorem fo_slices_heapSortCmpFunc_store_place {args : List Value} {M : Mem} {R : Value → Mem → Prop} (hn : args.length ≤ 60) (h : vfn Tryz.prog c_slices_heapSortCmpFunc_store_place r_slices_heapSortCmpFunc_store_place args M R) : CallsM Tryz.prog F.slices_heapSortCmpFunc_store_place args M R :=
  fn_ok (kf := k_slices_heapSortCmpFunc_store_place) Tryz.func76 (by kernel_rfl) (by kernel_rfl) hn (by kernel_rfl) h
/-- slices.breakPatternsCmpFunc[portage/store.place] -/
def k_slices_breakPatternsCmpFunc_store_place (i : Nat) : List Nat := match i with | 0 => [2, 13, 14, 15] | 1 => [16] | 2 => [18, 19] | 3 => [20, 21] | 4 => [22, 23, 24, 25, 26, 27] | 5 => [28, 29, 30, 31, 32, 33, 34] | 7 => [38, 39, 40, 41, 42] | 8 => [43, 44] | 9 => [46, 47, 48] | 10 => [12, 49, 50, 51, 52, 53, 54, 55, 56, 57, 58, 59, 60, 61, 62, 63, 64, 65, 66] | 6 => [36, 37] | _ => []
def c_slices_breakPatternsCmpFunc_store_place : RCode :=
 .seq (.ops [mv 13 (t 2),
 mv 14 (t 1),
 o 15 (.ibin .sub (t 13) (t 14)),
 mv 8 (t 15)] [2, 13, 14, 15])
 (.seq (.ops [mv 16 (t 8),
 o 17 (.ibin .geq (t 16) (k 8))] [16])
 (.cond (t 17)
  (.seq (.ops [mv 18 (t 8),
  o 19 (.conv .u64 (t 18)),
  o 9 (.alloc 154 [(.int .u64 0)]),
  st 1 (t 9) (t 19)] [18, 19])
  (.seq (.ops [mv 20 (t 8),
  ca 21 F.slices_nextPowerOfTwo [(t 20)],
  mv 10 (t 21)] [20, 21])
  (.seq (.ops [mv 22 (t 1),
  mv 23 (t 8),
  o 24 (.ibin .quo (t 23) (k 4)),
  o 25 (.ibin .mul (t 24) (k 2)),
  ad 26 (t 22) (t 25),
  o 27 (.ibin .sub (t 26) (k 1)),
  mv 11 (t 27)] [22, 23, 24, 25, 26, 27])
  (.block 0 (.loop (.seq (.seq (.ops [mv 28 (t 11),
   mv 29 (t 1),
   mv 30 (t 8),
   o 31 (.ibin .quo (t 30) (k 4)),
   o 32 (.ibin .mul (t 31) (k 2)),
   ad 33 (t 29) (t 32),
   ad 34 (t 33) (k 1),
   o 35 (.ibin .leq (t 28) (t 34))] [28, 29, 30, 31, 32, 33, 34])
   (.cond (t 35)
    (.skip)
    (.exit 0)))
   (.seq (.block 1 (.seq (.ops [ca 38 F.slices_xorshift_Next [(t 9)],
   mv 39 (t 10),
   o 40 (.ibin .sub (t 39) (.const (.int .u64 1))),
   o 41 (.ibin .and (t 38) (t 40)),
   o 42 (.conv .i64 (t 41)),
   mv 12 (t 42)] [38, 39, 40, 41, 42])
   (.seq (.seq (.ops [mv 43 (t 12),
   mv 44 (t 8),
   o 45 (.ibin .geq (t 43) (t 44))] [43, 44])
   (.cond (t 45)
    (.ops [mv 46 (t 12),
    mv 47 (t 8),
    o 48 (.ibin .sub (t 46) (t 47)),
    mv 12 (t 48)] [46, 47, 48])
    (.skip)))
   (.draw (.take (mv 49 (t 0)) (.take (mv 50 (t 11)) (.take (mv 51 (t 0)) (.take (mv 52 (t 1)) (.take (mv 53 (t 12)) (.take (ad 54 (t 52) (t 53)) (.take (mv 55 (t 0)) (.take (mv 56 (t 1)) (.take (mv 57 (t 12)) (.take (ad 58 (t 56) (t 57)) (.take (o 59 (.iaddr 6 (t 55) (t 58))) (.take (la 60 6 (t 59)) (.take (mv 61 (t 0)) (.take (mv 62 (t 11)) (.take (o 63 (.iaddr 6 (t 61) (t 62))) (.take (la 64 6 (t 63)) (.take (o 65 (.iaddr 6 (t 49) (t 50))) (.alt (st 6 (t 65) (t 60)) false
    (.take (o 66 (.iaddr 6 (t 51) (t 54))) (.alt (st 6 (t 66) (t 64)) false
     (.done)
     (.none)))
    (.none))))))))))))))))))) [12, 49, 50, 51, 52, 53, 54, 55, 56, 57, 58, 59, 60, 61, 62, 63, 64, 65, 66]))))
   (.ops [mv 36 (t 11),
   ad 37 (t 36) (k 1),
   mv 11 (t 37)] [36, 37]))))))))
  (.skip)))
def r_slices_breakPatternsCmpFunc_store_place : List RRes := []
theorem fo_slices_breakPatternsCmpFunc_store_place {args : List Value} {M : Mem} {R : Value → Mem → Prop} (hn : args.length ≤ 67) (h : vfn Tryz.prog c_slices_breakPatternsCmpFunc_store_place r_slices_breakPatternsCmpFunc_store_place args M R) : CallsM Tryz.prog F.slices_breakPatternsCmpFunc_store_place args M R :=
  fn_ok (kf := k_slices_breakPatternsCmpFunc_store_place) Tryz.func77 (by kernel_rfl) (by kernel_rfl) hn (by kernel_rfl) h
/-- slices.choosePivotCmpFunc[portage/store.place] -/
def k_slices_choosePivotCmpFunc_store_place (i : Nat) : List Nat := match i with | 0 => [8, 9] | 1 => [2, 15, 16, 17] | 3 => [18, 19, 20, 21, 22] | 4 => [23, 24, 25, 26, 27] | 5 => [1, 28, 29, 30, 31, 32] | 6 => [33] | 7 => [10, 35] | 8 => [37, 38, 39, 40] | 9 => [41, 42, 43, 44] | 10 => [45, 46, 47, 48] | 11 => [0, 3, 12, 14, 49, 50, 51, 52, 53, 54] | 12 => [11] | 14 => [58] | 15 => [13, 59] | 16 => [55, 61] | 17 => [13, 62] | 13 => [13, 56] | _ => []
def c_slices_choosePivotCmpFunc_store_place : RCode :=
 .seq (.ops [mv 8 (k 0),
 mv 9 (k 0)] [8, 9])
 (.seq (.ops [mv 15 (t 2),
 mv 16 (t 1),
 o 17 (.ibin .sub (t 15) (t 16)),
 mv 10 (t 17)] [2, 15, 16, 17])
 (.seq (.ops [o 11 (.alloc 3 [(i 0)])] [])
 (.seq (.ops [mv 18 (t 1),
 mv 19 (t 10),
 o 20 (.ibin .quo (t 19) (k 4)),
 o 21 (.ibin .mul (t 20) (k 1)),
 ad 22 (t 18) (t 21),
 mv 12 (t 22)] [18, 19, 20, 21, 22])
 (.seq (.ops [mv 23 (t 1),
 mv 24 (t 10),
 o 25 (.ibin .quo (t 24) (k 4)),
 o 26 (.ibin .mul (t 25) (k 2)),
 ad 27 (t 23) (t 26),
 mv 13 (t 27)] [23, 24, 25, 26, 27])
 (.seq (.ops [mv 28 (t 1),
 mv 29 (t 10),
 o 30 (.ibin .quo (t 29) (k 4)),
 o 31 (.ibin .mul (t 30) (k 3)),
 ad 32 (t 28) (t 31),
 mv 14 (t 32)] [1, 28, 29, 30, 31, 32])
 (.seq (.seq (.ops [mv 33 (t 10),
 o 34 (.ibin .geq (t 33) (k 8))] [33])
 (.cond (t 34)
  (.seq (.seq (.ops [mv 35 (t 10),
  o 36 (.ibin .geq (t 35) (k 50))] [10, 35])
  (.cond (t 36)
   (.seq (.ops [mv 37 (t 0),
   mv 38 (t 12),
   mv 39 (t 3),
   ca 40 F.slices_medianAdjacentCmpFunc_store_place [(t 37), (t 38), (t 11), (t 39)],
   mv 12 (t 40)] [37, 38, 39, 40])
   (.seq (.ops [mv 41 (t 0),
   mv 42 (t 13),
   mv 43 (t 3),
   ca 44 F.slices_medianAdjacentCmpFunc_store_place [(t 41), (t 42), (t 11), (t 43)],
   mv 13 (t 44)] [41, 42, 43, 44])
   (.ops [mv 45 (t 0),
   mv 46 (t 14),
   mv 47 (t 3),
   ca 48 F.slices_medianAdjacentCmpFunc_store_place [(t 45), (t 46), (t 11), (t 47)],
   mv 14 (t 48)] [45, 46, 47, 48])))
   (.skip)))
  (.ops [mv 49 (t 0),
  mv 50 (t 12),
  mv 51 (t 13),
  mv 52 (t 14),
  mv 53 (t 3),
  ca 54 F.slices_medianCmpFunc_store_place [(t 49), (t 50), (t 51), (t 52), (t 11), (t 53)],
  mv 13 (t 54)] [0, 3, 12, 14, 49, 50, 51, 52, 53, 54]))
  (.skip)))
 (.seq (.ops [l1 55 (t 11)] [11])
 (.block 0 (.seq (.ops [o 58 (.ibin .eql (t 55) (k 0)),
 mv 57 (t 58)] [58])
 (.cond (t 57)
  (.seq (.ops [mv 59 (t 13),
  mv 8 (t 59),
  mv 9 (k 1)] [13, 59])
  (.ret))
  (.seq (.ops [o 61 (.ibin .eql (t 55) (k 12)),
  mv 60 (t 61)] [55, 61])
  (.cond (t 60)
   (.seq (.ops [mv 62 (t 13),
   mv 8 (t 62),
   mv 9 (k 2)] [13, 62])
   (.ret))
   (.seq (.ops [mv 56 (t 13),
   mv 8 (t 56),
   mv 9 (k 0)] [13, 56])
   (.ret))))))))))))))
def r_slices_choosePivotCmpFunc_store_place : List RRes := [.tmp 8, .tmp 9]
theorem fo_slices_choosePivotCmpFunc_store_place {args : List Value} {M : Mem} {R : Value → Mem → Prop} (hn : args.length ≤ 63) (h : vfn Tryz.prog c_slices_choosePivotCmpFunc_store_place r_slices_choosePivotCmpFunc_store_place args M R) : CallsM Tryz.prog F.slices_choosePivotCmpFunc_store_place args M R :=
  fn_ok (kf := k_slices_choosePivotCmpFunc_store_place) Tryz.func78 (by kernel_rfl) (by kernel_rfl) hn (by kernel_rfl) h
/-- slices.reverseRangeCmpFunc[portage/store.place] -/
def k_slices_reverseRangeCmpFunc_store_place (i : Nat) : List Nat := match i with | 0 => [1, 10] | 1 => [2, 11, 12] | 2 => [13, 14] | 3 => [16, 17, 18, 19, 20, 21, 22, 23, 24, 25, 26, 27, 28, 29] | 4 => [30, 31] | 5 => [32, 33] | _ => []
def c_slices_reverseRangeCmpFunc_store_place : RCode :=
 .seq (.ops [mv 10 (t 1),
 mv 8 (t 10)] [1, 10])
 (.seq (.ops [mv 11 (t 2),
 o 12 (.ibin .sub (t 11) (k 1)),
 mv 9 (t 12)] [2, 11, 12])
 (.block 0 (.loop (.seq (.seq (.ops [mv 13 (t 8),
  mv 14 (t 9),
  o 15 (.ibin .lss (t 13) (t 14))] [13, 14])
  (.cond (t 15)
   (.skip)
   (.exit 0)))
  (.block 1 (.seq (.draw (.take (mv 16 (t 0)) (.take (mv 17 (t 8)) (.take (mv 18 (t 0)) (.take (mv 19 (t 9)) (.take (mv 20 (t 0)) (.take (mv 21 (t 9)) (.take (o 22 (.iaddr 6 (t 20) (t 21))) (.take (la 23 6 (t 22)) (.take (mv 24 (t 0)) (.take (mv 25 (t 8)) (.take (o 26 (.iaddr 6 (t 24) (t 25))) (.take (la 27 6 (t 26)) (.take (o 28 (.iaddr 6 (t 16) (t 17))) (.alt (st 6 (t 28) (t 23)) false
   (.take (o 29 (.iaddr 6 (t 18) (t 19))) (.alt (st 6 (t 29) (t 27)) false
    (.done)
    (.none)))
   (.none))))))))))))))) [16, 17, 18, 19, 20, 21, 22, 23, 24, 25, 26, 27, 28, 29])
  (.seq (.ops [mv 30 (t 8),
  ad 31 (t 30) (k 1),
  mv 8 (t 31)] [30, 31])
  (.ops [mv 32 (t 9),
  o 33 (.ibin .sub (t 32) (k 1)),
  mv 9 (t 33)] [32, 33]))))))))
def r_slices_reverseRangeCmpFunc_store_place : List RRes := []
theorem fo_slices_reverseRangeCmpFunc_store_place {args : List Value} {M : Mem} {R : Value → Mem → Prop} (hn : args.length ≤ 34) (h : vfn Tryz.prog c_slices_reverseRangeCmpFunc_store_place r_slices_reverseRangeCmpFunc_store_place args M R) : CallsM Tryz.prog F.slices_reverseRangeCmpFunc_store_place args M R :=
  fn_ok (kf := k_slices_reverseRangeCmpFunc_store_place) Tryz.func79 (by kernel_rfl) (by kernel_rfl) hn (by kernel_rfl) h
/-- slices.partialInsertionSortCmpFunc[portage/store.place] -/
def k_slices_partialInsertionSortCmpFunc_store_place (i : Nat) : List Nat := match i with | 0 => [8] | 1 => [13, 14] | 3 => [15] | 5 => [19, 20, 21, 22, 23, 24, 25, 26, 27, 28, 29, 30, 31, 32, 33, 34, 35] | 6 => [37, 38] | 7 => [39, 40] | 9 => [42, 43, 44] | 11 => [46, 47, 48, 49, 50, 51, 52, 53, 54, 55, 56, 57, 58, 59, 60, 61] | 12 => [62, 63, 64] | 13 => [66, 67] | 14 => [68] | 16 => [72, 73, 74, 75, 76, 77, 78, 79, 80, 81, 82, 83] | 17 => [85, 86, 87, 88, 89, 90, 91, 92, 93, 94, 95, 96, 97, 98, 99, 100] | 15 => [70, 71] | 18 => [101, 102, 103] | 19 => [105, 106] | 20 => [107, 108] | 22 => [112, 113, 114, 115, 116, 117, 118, 119, 120, 121, 122, 123] | 23 => [125, 126, 127, 128, 129, 130, 131, 132, 133, 134, 135, 136, 137, 138, 139, 140] | 21 => [110, 111] | 4 => [17, 18] | _ => []
def c_slices_partialInsertionSortCmpFunc_store_place : RCode :=
 .seq (.ops [mv 8 (kb false)] [8])
 (.seq (.ops [mv 13 (t 1),
 ad 14 (t 13) (k 1),
 mv 9 (t 14)] [13, 14])
 (.seq (.seq (.ops [mv 10 (k 0)] [])
 (.block 0 (.loop (.seq (.seq (.ops [mv 15 (t 10),
  o 16 (.ibin .lss (t 15) (k 5))] [15])
  (.cond (t 16)
   (.skip)
   (.exit 0)))
  (.seq (.block 1 (.seq (.block 2 (.loop (.seq (.seq (.draw (.take (mv 19 (t 9)) (.take (mv 20 (t 2)) (.take (o 21 (.ibin .lss (t 19) (t 20))) (.take (os 22 (.mov (t 21))) (.take (gt 22 23 (.mov (t 3))) (.take (gt 22 24 (.mov (t 0))) (.take (gt 22 25 (.mov (t 9))) (.take (gt 22 26 (.iaddr 6 (t 24) (t 25))) (.take (gt 22 27 (.load true 6 (t 26))) (.take (gt 22 28 (.mov (t 0))) (.take (gt 22 29 (.mov (t 9))) (.take (gt 22 30 (.ibin .sub (t 29) (k 1))) (.take (gt 22 31 (.iaddr 6 (t 28) (t 30))) (.take (gt 22 32 (.load true 6 (t 31))) (.alt (gt 22 33 (.call (t 23) [(t 27), (t 32)])) false
    (.take (gt 22 34 (.ibin .lss (t 33) (k 0))) (.take (gt 22 35 (.not (t 34))) (.take (o 36 (.pick (t 22) (t 35) (kb false))) (.done))))
    (.none)))))))))))))))) [19, 20, 21, 22, 23, 24, 25, 26, 27, 28, 29, 30, 31, 32, 33, 34, 35])
   (.cond (t 36)
    (.skip)
    (.exit 2)))
   (.block 3 (.ops [mv 37 (t 9),
   ad 38 (t 37) (k 1),
   mv 9 (t 38)] [37, 38])))))
  (.seq (.seq (.ops [mv 39 (t 9),
  mv 40 (t 2),
  o 41 (.ibin .eql (t 39) (t 40))] [39, 40])
  (.cond (t 41)
   (.seq (.ops [mv 8 (kb true)] [])
   (.ret))
   (.skip)))
  (.seq (.seq (.ops [mv 42 (t 2),
  mv 43 (t 1),
  o 44 (.ibin .sub (t 42) (t 43)),
  o 45 (.ibin .lss (t 44) (k 50))] [42, 43, 44])
  (.cond (t 45)
   (.seq (.ops [mv 8 (kb false)] [])
   (.ret))
   (.skip)))
  (.seq (.draw (.take (mv 46 (t 0)) (.take (mv 47 (t 9)) (.take (mv 48 (t 0)) (.take (mv 49 (t 9)) (.take (o 50 (.ibin .sub (t 49) (k 1))) (.take (mv 51 (t 0)) (.take (mv 52 (t 9)) (.take (o 53 (.ibin .sub (t 52) (k 1))) (.take (o 54 (.iaddr 6 (t 51) (t 53))) (.take (la 55 6 (t 54)) (.take (mv 56 (t 0)) (.take (mv 57 (t 9)) (.take (o 58 (.iaddr 6 (t 56) (t 57))) (.take (la 59 6 (t 58)) (.take (o 60 (.iaddr 6 (t 46) (t 47))) (.alt (st 6 (t 60) (t 55)) false
   (.take (o 61 (.iaddr 6 (t 48) (t 50))) (.alt (st 6 (t 61) (t 59)) false
    (.done)
    (.none)))
   (.none))))))))))))))))) [46, 47, 48, 49, 50, 51, 52, 53, 54, 55, 56, 57, 58, 59, 60, 61])
  (.seq (.seq (.ops [mv 62 (t 9),
  mv 63 (t 1),
  o 64 (.ibin .sub (t 62) (t 63)),
  o 65 (.ibin .geq (t 64) (k 2))] [62, 63, 64])
  (.cond (t 65)
   (.seq (.ops [mv 66 (t 9),
   o 67 (.ibin .sub (t 66) (k 1)),
   mv 11 (t 67)] [66, 67])
   (.block 4 (.loop (.seq (.seq (.ops [mv 68 (t 11),
    o 69 (.ibin .geq (t 68) (k 1))] [68])
    (.cond (t 69)
     (.skip)
     (.exit 4)))
    (.seq (.block 5 (.seq (.seq (.draw (.take (mv 72 (t 3)) (.take (mv 73 (t 0)) (.take (mv 74 (t 11)) (.take (o 75 (.iaddr 6 (t 73) (t 74))) (.take (la 76 6 (t 75)) (.take (mv 77 (t 0)) (.take (mv 78 (t 11)) (.take (o 79 (.ibin .sub (t 78) (k 1))) (.take (o 80 (.iaddr 6 (t 77) (t 79))) (.take (la 81 6 (t 80)) (.alt (o 82 (.call (t 72) [(t 76), (t 81)])) false
     (.take (o 83 (.ibin .lss (t 82) (k 0))) (.take (o 84 (.not (t 83))) (.done)))
     (.none)))))))))))) [72, 73, 74, 75, 76, 77, 78, 79, 80, 81, 82, 83])
    (.cond (t 84)
     (.exit 4)
     (.skip)))
    (.draw (.take (mv 85 (t 0)) (.take (mv 86 (t 11)) (.take (mv 87 (t 0)) (.take (mv 88 (t 11)) (.take (o 89 (.ibin .sub (t 88) (k 1))) (.take (mv 90 (t 0)) (.take (mv 91 (t 11)) (.take (o 92 (.ibin .sub (t 91) (k 1))) (.take (o 93 (.iaddr 6 (t 90) (t 92))) (.take (la 94 6 (t 93)) (.take (mv 95 (t 0)) (.take (mv 96 (t 11)) (.take (o 97 (.iaddr 6 (t 95) (t 96))) (.take (la 98 6 (t 97)) (.take (o 99 (.iaddr 6 (t 85) (t 86))) (.alt (st 6 (t 99) (t 94)) false
     (.take (o 100 (.iaddr 6 (t 87) (t 89))) (.alt (st 6 (t 100) (t 98)) false
      (.done)
      (.none)))
     (.none))))))))))))))))) [85, 86, 87, 88, 89, 90, 91, 92, 93, 94, 95, 96, 97, 98, 99, 100])))
    (.ops [mv 70 (t 11),
    o 71 (.ibin .sub (t 70) (k 1)),
    mv 11 (t 71)] [70, 71]))))))
   (.skip)))
  (.seq (.ops [mv 101 (t 2),
  mv 102 (t 9),
  o 103 (.ibin .sub (t 101) (t 102)),
  o 104 (.ibin .geq (t 103) (k 2))] [101, 102, 103])
  (.cond (t 104)
   (.seq (.ops [mv 105 (t 9),
   ad 106 (t 105) (k 1),
   mv 12 (t 106)] [105, 106])
   (.block 6 (.loop (.seq (.seq (.ops [mv 107 (t 12),
    mv 108 (t 2),
    o 109 (.ibin .lss (t 107) (t 108))] [107, 108])
    (.cond (t 109)
     (.skip)
     (.exit 6)))
    (.seq (.block 7 (.seq (.seq (.draw (.take (mv 112 (t 3)) (.take (mv 113 (t 0)) (.take (mv 114 (t 12)) (.take (o 115 (.iaddr 6 (t 113) (t 114))) (.take (la 116 6 (t 115)) (.take (mv 117 (t 0)) (.take (mv 118 (t 12)) (.take (o 119 (.ibin .sub (t 118) (k 1))) (.take (o 120 (.iaddr 6 (t 117) (t 119))) (.take (la 121 6 (t 120)) (.alt (o 122 (.call (t 112) [(t 116), (t 121)])) false
     (.take (o 123 (.ibin .lss (t 122) (k 0))) (.take (o 124 (.not (t 123))) (.done)))
     (.none)))))))))))) [112, 113, 114, 115, 116, 117, 118, 119, 120, 121, 122, 123])
    (.cond (t 124)
     (.exit 6)
     (.skip)))
    (.draw (.take (mv 125 (t 0)) (.take (mv 126 (t 12)) (.take (mv 127 (t 0)) (.take (mv 128 (t 12)) (.take (o 129 (.ibin .sub (t 128) (k 1))) (.take (mv 130 (t 0)) (.take (mv 131 (t 12)) (.take (o 132 (.ibin .sub (t 131) (k 1))) (.take (o 133 (.iaddr 6 (t 130) (t 132))) (.take (la 134 6 (t 133)) (.take (mv 135 (t 0)) (.take (mv 136 (t 12)) (.take (o 137 (.iaddr 6 (t 135) (t 136))) (.take (la 138 6 (t 137)) (.take (o 139 (.iaddr 6 (t 125) (t 126))) (.alt (st 6 (t 139) (t 134)) false
     (.take (o 140 (.iaddr 6 (t 127) (t 129))) (.alt (st 6 (t 140) (t 138)) false
      (.done)
      (.none)))
     (.none))))))))))))))))) [125, 126, 127, 128, 129, 130, 131, 132, 133, 134, 135, 136, 137, 138, 139, 140])))
    (.ops [mv 110 (t 12),
    ad 111 (t 110) (k 1),
    mv 12 (t 111)] [110, 111]))))))
   (.skip)))))))))
  (.ops [mv 17 (t 10),
  ad 18 (t 17) (k 1),
  mv 10 (t 18)] [17, 18]))))))
 (.seq (.ops [mv 8 (kb false)] [])
 (.ret))))
def r_slices_partialInsertionSortCmpFunc_store_place : List RRes := [.tmp 8]
theorem fo_slices_partialInsertionSortCmpFunc_store_place {args : List Value} {M : Mem} {R : Value → Mem → Prop} (hn : args.length ≤ 141) (h : vfn Tryz.prog c_slices_partialInsertionSortCmpFunc_store_place r_slices_partialInsertionSortCmpFunc_store_place args M R) : CallsM Tryz.prog F.slices_partialInsertionSortCmpFunc_store_place args M R :=
  fn_ok (kf := k_slices_partialInsertionSortCmpFunc_store_place) Tryz.func80 (by kernel_rfl) (by kernel_rfl) hn (by kernel_rfl) h
/-- slices.partitionEqualCmpFunc[portage/store.place] -/
def k_slices_partitionEqualCmpFunc_store_place (i : Nat) : List Nat := match i with | 0 => [10] | 1 => [3, 13, 14, 15, 16, 17, 18, 19, 20, 21, 22, 23, 24, 25, 26] | 2 => [2, 27, 28, 29, 30] | 3 => [31, 32, 33, 34, 35, 36, 37, 38, 39, 40, 41, 42, 43, 44, 45, 46] | 4 => [48, 49] | 5 => [50, 51, 52, 53, 54, 55, 56, 57, 58, 59, 60, 61, 62, 63, 64] | 6 => [66, 67] | 7 => [68, 69] | 8 => [71, 72, 73, 74, 75, 76, 77, 78, 79, 80, 81, 82, 83, 84] | 9 => [85, 86] | 10 => [87, 88] | 11 => [11, 89] | _ => []
def c_slices_partitionEqualCmpFunc_store_place : RCode :=
 .seq (.ops [mv 10 (k 0)] [10])
 (.seq (.draw (.take (mv 13 (t 0)) (.take (mv 14 (t 1)) (.take (mv 15 (t 0)) (.take (mv 16 (t 3)) (.take (mv 17 (t 0)) (.take (mv 18 (t 3)) (.take (o 19 (.iaddr 6 (t 17) (t 18))) (.take (la 20 6 (t 19)) (.take (mv 21 (t 0)) (.take (mv 22 (t 1)) (.take (o 23 (.iaddr 6 (t 21) (t 22))) (.take (la 24 6 (t 23)) (.take (o 25 (.iaddr 6 (t 13) (t 14))) (.alt (st 6 (t 25) (t 20)) false
  (.take (o 26 (.iaddr 6 (t 15) (t 16))) (.alt (st 6 (t 26) (t 24)) false
   (.done)
   (.none)))
  (.none))))))))))))))) [3, 13, 14, 15, 16, 17, 18, 19, 20, 21, 22, 23, 24, 25, 26])
 (.seq (.ops [mv 27 (t 1),
 ad 28 (t 27) (k 1),
 mv 29 (t 2),
 o 30 (.ibin .sub (t 29) (k 1)),
 mv 11 (t 28),
 mv 12 (t 30)] [2, 27, 28, 29, 30])
 (.seq (.block 0 (.loop (.block 1 (.seq (.block 2 (.loop (.seq (.seq (.draw (.take (mv 31 (t 11)) (.take (mv 32 (t 12)) (.take (o 33 (.ibin .leq (t 31) (t 32))) (.take (os 34 (.mov (t 33))) (.take (gt 34 35 (.mov (t 4))) (.take (gt 34 36 (.mov (t 0))) (.take (gt 34 37 (.mov (t 1))) (.take (gt 34 38 (.iaddr 6 (t 36) (t 37))) (.take (gt 34 39 (.load true 6 (t 38))) (.take (gt 34 40 (.mov (t 0))) (.take (gt 34 41 (.mov (t 11))) (.take (gt 34 42 (.iaddr 6 (t 40) (t 41))) (.take (gt 34 43 (.load true 6 (t 42))) (.alt (gt 34 44 (.call (t 35) [(t 39), (t 43)])) false
    (.take (gt 34 45 (.ibin .lss (t 44) (k 0))) (.take (gt 34 46 (.not (t 45))) (.take (o 47 (.pick (t 34) (t 46) (kb false))) (.done))))
    (.none))))))))))))))) [31, 32, 33, 34, 35, 36, 37, 38, 39, 40, 41, 42, 43, 44, 45, 46])
   (.cond (t 47)
    (.skip)
    (.exit 2)))
   (.block 3 (.ops [mv 48 (t 11),
   ad 49 (t 48) (k 1),
   mv 11 (t 49)] [48, 49])))))
  (.seq (.block 4 (.loop (.seq (.seq (.draw (.take (mv 50 (t 11)) (.take (mv 51 (t 12)) (.take (o 52 (.ibin .leq (t 50) (t 51))) (.take (os 53 (.mov (t 52))) (.take (gt 53 54 (.mov (t 4))) (.take (gt 53 55 (.mov (t 0))) (.take (gt 53 56 (.mov (t 1))) (.take (gt 53 57 (.iaddr 6 (t 55) (t 56))) (.take (gt 53 58 (.load true 6 (t 57))) (.take (gt 53 59 (.mov (t 0))) (.take (gt 53 60 (.mov (t 12))) (.take (gt 53 61 (.iaddr 6 (t 59) (t 60))) (.take (gt 53 62 (.load true 6 (t 61))) (.alt (gt 53 63 (.call (t 54) [(t 58), (t 62)])) false
    (.take (gt 53 64 (.ibin .lss (t 63) (k 0))) (.take (o 65 (.pick (t 53) (t 64) (kb false))) (.done)))
    (.none))))))))))))))) [50, 51, 52, 53, 54, 55, 56, 57, 58, 59, 60, 61, 62, 63, 64])
   (.cond (t 65)
    (.skip)
    (.exit 4)))
   (.block 5 (.ops [mv 66 (t 12),
   o 67 (.ibin .sub (t 66) (k 1)),
   mv 12 (t 67)] [66, 67])))))
  (.seq (.seq (.ops [mv 68 (t 11),
  mv 69 (t 12),
  o 70 (.ibin .gtr (t 68) (t 69))] [68, 69])
  (.cond (t 70)
   (.exit 0)
   (.skip)))
  (.seq (.draw (.take (mv 71 (t 0)) (.take (mv 72 (t 11)) (.take (mv 73 (t 0)) (.take (mv 74 (t 12)) (.take (mv 75 (t 0)) (.take (mv 76 (t 12)) (.take (o 77 (.iaddr 6 (t 75) (t 76))) (.take (la 78 6 (t 77)) (.take (mv 79 (t 0)) (.take (mv 80 (t 11)) (.take (o 81 (.iaddr 6 (t 79) (t 80))) (.take (la 82 6 (t 81)) (.take (o 83 (.iaddr 6 (t 71) (t 72))) (.alt (st 6 (t 83) (t 78)) false
   (.take (o 84 (.iaddr 6 (t 73) (t 74))) (.alt (st 6 (t 84) (t 82)) false
    (.done)
    (.none)))
   (.none))))))))))))))) [71, 72, 73, 74, 75, 76, 77, 78, 79, 80, 81, 82, 83, 84])
  (.seq (.ops [mv 85 (t 11),
  ad 86 (t 85) (k 1),
  mv 11 (t 86)] [85, 86])
  (.ops [mv 87 (t 12),
  o 88 (.ibin .sub (t 87) (k 1)),
  mv 12 (t 88)] [87, 88])))))))))
 (.seq (.ops [mv 89 (t 11),
 mv 10 (t 89)] [11, 89])
 (.ret)))))
def r_slices_partitionEqualCmpFunc_store_place : List RRes := [.tmp 10]
theorem fo_slices_partitionEqualCmpFunc_store_place {args : List Value} {M : Mem} {R : Value → Mem → Prop} (hn : args.length ≤ 90) (h : vfn Tryz.prog c_slices_partitionEqualCmpFunc_store_place r_slices_partitionEqualCmpFunc_store_place args M R) : CallsM Tryz.prog F.slices_partitionEqualCmpFunc_store_place args M R :=
  fn_ok (kf := k_slices_partitionEqualCmpFunc_store_place) Tryz.func81 (by kernel_rfl) (by kernel_rfl) hn (by kernel_rfl) h
/-- slices.partitionCmpFunc[portage/store.place] -/
def k_slices_partitionCmpFunc_store_place (i : Nat) : List Nat := match i with | 0 => [10, 11] | 1 => [3, 14, 15, 16, 17, 18, 19, 20, 21, 22, 23, 24, 25, 26, 27] | 2 => [2, 28, 29, 30, 31] | 3 => [32, 33, 34, 35, 36, 37, 38, 39, 40, 41, 42, 43, 44, 45, 46] | 4 => [48, 49] | 5 => [50, 51, 52, 53, 54, 55, 56, 57, 58, 59, 60, 61, 62, 63, 64, 65] | 6 => [67, 68] | 7 => [69, 70] | 8 => [0, 1, 72, 73, 74, 75, 76, 77, 78, 79, 80, 81, 82, 83, 84, 85] | 9 => [13, 86] | 10 => [87, 88, 89, 90, 91, 92, 93, 94, 95, 96, 97, 98, 99, 100] | 11 => [101, 102] | 12 => [103, 104] | 13 => [105, 106, 107, 108, 109, 110, 111, 112, 113, 114, 115, 116, 117, 118, 119] | 14 => [121, 122] | 15 => [123, 124, 125, 126, 127, 128, 129, 130, 131, 132, 133, 134, 135, 136, 137, 138] | 16 => [140, 141] | 17 => [142, 143] | 18 => [145, 146, 147, 148, 149, 150, 151, 152, 153, 154, 155, 156, 157, 158] | 19 => [159, 160] | 20 => [161, 162] | 21 => [0, 1, 163, 164, 165, 166, 167, 168, 169, 170, 171, 172, 173, 174, 175, 176] | 22 => [13, 177] | _ => []
def c_slices_partitionCmpFunc_store_place : RCode :=
 .seq (.ops [mv 10 (k 0),
 mv 11 (kb false)] [10, 11])
 (.seq (.draw (.take (mv 14 (t 0)) (.take (mv 15 (t 1)) (.take (mv 16 (t 0)) (.take (mv 17 (t 3)) (.take (mv 18 (t 0)) (.take (mv 19 (t 3)) (.take (o 20 (.iaddr 6 (t 18) (t 19))) (.take (la 21 6 (t 20)) (.take (mv 22 (t 0)) (.take (mv 23 (t 1)) (.take (o 24 (.iaddr 6 (t 22) (t 23))) (.take (la 25 6 (t 24)) (.take (o 26 (.iaddr 6 (t 14) (t 15))) (.alt (st 6 (t 26) (t 21)) false
  (.take (o 27 (.iaddr 6 (t 16) (t 17))) (.alt (st 6 (t 27) (t 25)) false
   (.done)
   (.none)))
  (.none))))))))))))))) [3, 14, 15, 16, 17, 18, 19, 20, 21, 22, 23, 24, 25, 26, 27])
 (.seq (.ops [mv 28 (t 1),
 ad 29 (t 28) (k 1),
 mv 30 (t 2),
 o 31 (.ibin .sub (t 30) (k 1)),
 mv 12 (t 29),
 mv 13 (t 31)] [2, 28, 29, 30, 31])
 (.seq (.block 0 (.loop (.seq (.seq (.draw (.take (mv 32 (t 12)) (.take (mv 33 (t 13)) (.take (o 34 (.ibin .leq (t 32) (t 33))) (.take (os 35 (.mov (t 34))) (.take (gt 35 36 (.mov (t 4))) (.take (gt 35 37 (.mov (t 0))) (.take (gt 35 38 (.mov (t 12))) (.take (gt 35 39 (.iaddr 6 (t 37) (t 38))) (.take (gt 35 40 (.load true 6 (t 39))) (.take (gt 35 41 (.mov (t 0))) (.take (gt 35 42 (.mov (t 1))) (.take (gt 35 43 (.iaddr 6 (t 41) (t 42))) (.take (gt 35 44 (.load true 6 (t 43))) (.alt (gt 35 45 (.call (t 36) [(t 40), (t 44)])) false
   (.take (gt 35 46 (.ibin .lss (t 45) (k 0))) (.take (o 47 (.pick (t 35) (t 46) (kb false))) (.done)))
   (.none))))))))))))))) [32, 33, 34, 35, 36, 37, 38, 39, 40, 41, 42, 43, 44, 45, 46])
  (.cond (t 47)
   (.skip)
   (.exit 0)))
  (.block 1 (.ops [mv 48 (t 12),
  ad 49 (t 48) (k 1),
  mv 12 (t 49)] [48, 49])))))
 (.seq (.block 2 (.loop (.seq (.seq (.draw (.take (mv 50 (t 12)) (.take (mv 51 (t 13)) (.take (o 52 (.ibin .leq (t 50) (t 51))) (.take (os 53 (.mov (t 52))) (.take (gt 53 54 (.mov (t 4))) (.take (gt 53 55 (.mov (t 0))) (.take (gt 53 56 (.mov (t 13))) (.take (gt 53 57 (.iaddr 6 (t 55) (t 56))) (.take (gt 53 58 (.load true 6 (t 57))) (.take (gt 53 59 (.mov (t 0))) (.take (gt 53 60 (.mov (t 1))) (.take (gt 53 61 (.iaddr 6 (t 59) (t 60))) (.take (gt 53 62 (.load true 6 (t 61))) (.alt (gt 53 63 (.call (t 54) [(t 58), (t 62)])) false
   (.take (gt 53 64 (.ibin .lss (t 63) (k 0))) (.take (gt 53 65 (.not (t 64))) (.take (o 66 (.pick (t 53) (t 65) (kb false))) (.done))))
   (.none))))))))))))))) [50, 51, 52, 53, 54, 55, 56, 57, 58, 59, 60, 61, 62, 63, 64, 65])
  (.cond (t 66)
   (.skip)
   (.exit 2)))
  (.block 3 (.ops [mv 67 (t 13),
  o 68 (.ibin .sub (t 67) (k 1)),
  mv 13 (t 68)] [67, 68])))))
 (.seq (.seq (.ops [mv 69 (t 12),
 mv 70 (t 13),
 o 71 (.ibin .gtr (t 69) (t 70))] [69, 70])
 (.cond (t 71)
  (.seq (.draw (.take (mv 72 (t 0)) (.take (mv 73 (t 13)) (.take (mv 74 (t 0)) (.take (mv 75 (t 1)) (.take (mv 76 (t 0)) (.take (mv 77 (t 1)) (.take (o 78 (.iaddr 6 (t 76) (t 77))) (.take (la 79 6 (t 78)) (.take (mv 80 (t 0)) (.take (mv 81 (t 13)) (.take (o 82 (.iaddr 6 (t 80) (t 81))) (.take (la 83 6 (t 82)) (.take (o 84 (.iaddr 6 (t 72) (t 73))) (.alt (st 6 (t 84) (t 79)) false
   (.take (o 85 (.iaddr 6 (t 74) (t 75))) (.alt (st 6 (t 85) (t 83)) false
    (.done)
    (.none)))
   (.none))))))))))))))) [0, 1, 72, 73, 74, 75, 76, 77, 78, 79, 80, 81, 82, 83, 84, 85])
  (.seq (.ops [mv 86 (t 13),
  mv 10 (t 86),
  mv 11 (kb true)] [13, 86])
  (.ret)))
  (.skip)))
 (.seq (.draw (.take (mv 87 (t 0)) (.take (mv 88 (t 12)) (.take (mv 89 (t 0)) (.take (mv 90 (t 13)) (.take (mv 91 (t 0)) (.take (mv 92 (t 13)) (.take (o 93 (.iaddr 6 (t 91) (t 92))) (.take (la 94 6 (t 93)) (.take (mv 95 (t 0)) (.take (mv 96 (t 12)) (.take (o 97 (.iaddr 6 (t 95) (t 96))) (.take (la 98 6 (t 97)) (.take (o 99 (.iaddr 6 (t 87) (t 88))) (.alt (st 6 (t 99) (t 94)) false
  (.take (o 100 (.iaddr 6 (t 89) (t 90))) (.alt (st 6 (t 100) (t 98)) false
   (.done)
   (.none)))
  (.none))))))))))))))) [87, 88, 89, 90, 91, 92, 93, 94, 95, 96, 97, 98, 99, 100])
 (.seq (.ops [mv 101 (t 12),
 ad 102 (t 101) (k 1),
 mv 12 (t 102)] [101, 102])
 (.seq (.ops [mv 103 (t 13),
 o 104 (.ibin .sub (t 103) (k 1)),
 mv 13 (t 104)] [103, 104])
 (.seq (.block 4 (.loop (.block 5 (.seq (.block 6 (.loop (.seq (.seq (.draw (.take (mv 105 (t 12)) (.take (mv 106 (t 13)) (.take (o 107 (.ibin .leq (t 105) (t 106))) (.take (os 108 (.mov (t 107))) (.take (gt 108 109 (.mov (t 4))) (.take (gt 108 110 (.mov (t 0))) (.take (gt 108 111 (.mov (t 12))) (.take (gt 108 112 (.iaddr 6 (t 110) (t 111))) (.take (gt 108 113 (.load true 6 (t 112))) (.take (gt 108 114 (.mov (t 0))) (.take (gt 108 115 (.mov (t 1))) (.take (gt 108 116 (.iaddr 6 (t 114) (t 115))) (.take (gt 108 117 (.load true 6 (t 116))) (.alt (gt 108 118 (.call (t 109) [(t 113), (t 117)])) false
    (.take (gt 108 119 (.ibin .lss (t 118) (k 0))) (.take (o 120 (.pick (t 108) (t 119) (kb false))) (.done)))
    (.none))))))))))))))) [105, 106, 107, 108, 109, 110, 111, 112, 113, 114, 115, 116, 117, 118, 119])
   (.cond (t 120)
    (.skip)
    (.exit 6)))
   (.block 7 (.ops [mv 121 (t 12),
   ad 122 (t 121) (k 1),
   mv 12 (t 122)] [121, 122])))))
  (.seq (.block 8 (.loop (.seq (.seq (.draw (.take (mv 123 (t 12)) (.take (mv 124 (t 13)) (.take (o 125 (.ibin .leq (t 123) (t 124))) (.take (os 126 (.mov (t 125))) (.take (gt 126 127 (.mov (t 4))) (.take (gt 126 128 (.mov (t 0))) (.take (gt 126 129 (.mov (t 13))) (.take (gt 126 130 (.iaddr 6 (t 128) (t 129))) (.take (gt 126 131 (.load true 6 (t 130))) (.take (gt 126 132 (.mov (t 0))) (.take (gt 126 133 (.mov (t 1))) (.take (gt 126 134 (.iaddr 6 (t 132) (t 133))) (.take (gt 126 135 (.load true 6 (t 134))) (.alt (gt 126 136 (.call (t 127) [(t 131), (t 135)])) false
    (.take (gt 126 137 (.ibin .lss (t 136) (k 0))) (.take (gt 126 138 (.not (t 137))) (.take (o 139 (.pick (t 126) (t 138) (kb false))) (.done))))
    (.none))))))))))))))) [123, 124, 125, 126, 127, 128, 129, 130, 131, 132, 133, 134, 135, 136, 137, 138])
   (.cond (t 139)
    (.skip)
    (.exit 8)))
   (.block 9 (.ops [mv 140 (t 13),
   o 141 (.ibin .sub (t 140) (k 1)),
   mv 13 (t 141)] [140, 141])))))
  (.seq (.seq (.ops [mv 142 (t 12),
  mv 143 (t 13),
  o 144 (.ibin .gtr (t 142) (t 143))] [142, 143])
  (.cond (t 144)
   (.exit 4)
   (.skip)))
  (.seq (.draw (.take (mv 145 (t 0)) (.take (mv 146 (t 12)) (.take (mv 147 (t 0)) (.take (mv 148 (t 13)) (.take (mv 149 (t 0)) (.take (mv 150 (t 13)) (.take (o 151 (.iaddr 6 (t 149) (t 150))) (.take (la 152 6 (t 151)) (.take (mv 153 (t 0)) (.take (mv 154 (t 12)) (.take (o 155 (.iaddr 6 (t 153) (t 154))) (.take (la 156 6 (t 155)) (.take (o 157 (.iaddr 6 (t 145) (t 146))) (.alt (st 6 (t 157) (t 152)) false
   (.take (o 158 (.iaddr 6 (t 147) (t 148))) (.alt (st 6 (t 158) (t 156)) false
    (.done)
    (.none)))
   (.none))))))))))))))) [145, 146, 147, 148, 149, 150, 151, 152, 153, 154, 155, 156, 157, 158])
  (.seq (.ops [mv 159 (t 12),
  ad 160 (t 159) (k 1),
  mv 12 (t 160)] [159, 160])
  (.ops [mv 161 (t 13),
  o 162 (.ibin .sub (t 161) (k 1)),
  mv 13 (t 162)] [161, 162])))))))))
 (.seq (.draw (.take (mv 163 (t 0)) (.take (mv 164 (t 13)) (.take (mv 165 (t 0)) (.take (mv 166 (t 1)) (.take (mv 167 (t 0)) (.take (mv 168 (t 1)) (.take (o 169 (.iaddr 6 (t 167) (t 168))) (.take (la 170 6 (t 169)) (.take (mv 171 (t 0)) (.take (mv 172 (t 13)) (.take (o 173 (.iaddr 6 (t 171) (t 172))) (.take (la 174 6 (t 173)) (.take (o 175 (.iaddr 6 (t 163) (t 164))) (.alt (st 6 (t 175) (t 170)) false
  (.take (o 176 (.iaddr 6 (t 165) (t 166))) (.alt (st 6 (t 176) (t 174)) false
   (.done)
   (.none)))
  (.none))))))))))))))) [0, 1, 163, 164, 165, 166, 167, 168, 169, 170, 171, 172, 173, 174, 175, 176])
 (.seq (.ops [mv 177 (t 13),
 mv 10 (t 177),
 mv 11 (kb false)] [13, 177])
 (.ret))))))))))))
def r_slices_partitionCmpFunc_store_place : List RRes := [.tmp 10, .tmp 11]
theorem fo_slices_partitionCmpFunc_store_place {args : List Value} {M : Mem} {R : Value → Mem → Prop} (hn : args.length ≤ 178) (h : vfn Tryz.prog c_slices_partitionCmpFunc_store_place r_slices_partitionCmpFunc_store_place args M R) : CallsM Tryz.prog F.slices_partitionCmpFunc_store_place args M R :=
  fn_ok (kf := k_slices_partitionCmpFunc_store_place) Tryz.func82 (by kernel_rfl) (by kernel_rfl) hn (by kernel_rfl) h
/-- math/bits.Len32 -/
def k_math_bits_Len32 (i : Nat) : List Nat := match i with | 1 => [3] | 2 => [5, 6] | 4 => [7] | 5 => [9, 10] | 6 => [11, 12] | 7 => [0, 13, 14, 15, 16, 17, 18] | _ => []
def c_math_bits_Len32 : RCode :=
 .seq (.ops [mv 2 (k 0)] [])
 (.seq (.seq (.ops [mv 3 (t 0),
 o 4 (.ibin .geq (t 3) (.const (.int .u32 65536)))] [3])
 (.cond (t 4)
  (.seq (.ops [mv 5 (t 0),
  o 6 (.ibin .shr (t 5) (.const (.int .u64 16))),
  mv 0 (t 6)] [5, 6])
  (.ops [mv 2 (k 16)] []))
  (.skip)))
 (.seq (.seq (.ops [mv 7 (t 0),
 o 8 (.ibin .geq (t 7) (.const (.int .u32 256)))] [7])
 (.cond (t 8)
  (.seq (.ops [mv 9 (t 0),
  o 10 (.ibin .shr (t 9) (.const (.int .u64 8))),
  mv 0 (t 10)] [9, 10])
  (.ops [mv 11 (t 2),
  ad 12 (t 11) (k 8),
  mv 2 (t 12)] [11, 12]))
  (.skip)))
 (.seq (.ops [mv 13 (t 2),
 mv 14 (t 0),
 o 15 (.conv .u8 (t 14)),
 o 16 (.sidx (.const (.string ⟨#[0, 1, 2, 2, 3, 3, 3, 3, 4, 4, 4, 4, 4, 4, 4, 4, 5, 5, 5, 5, 5, 5, 5, 5, 5, 5, 5, 5, 5, 5, 5, 5, 6, 6, 6, 6, 6, 6, 6, 6, 6, 6, 6, 6, 6, 6, 6, 6, 6, 6, 6, 6, 6, 6, 6, 6, 6, 6, 6, 6, 6, 6, 6, 6, 7, 7, 7, 7, 7, 7, 7, 7, 7, 7, 7, 7, 7, 7, 7, 7, 7, 7, 7, 7, 7, 7, 7, 7, 7, 7, 7, 7, 7, 7, 7, 7, 7, 7, 7, 7, 7, 7, 7, 7, 7, 7, 7, 7, 7, 7, 7, 7, 7, 7, 7, 7, 7, 7, 7, 7, 7, 7, 7, 7, 7, 7, 7, 7, 8, 8, 8, 8, 8, 8, 8, 8, 8, 8, 8, 8, 8, 8, 8, 8, 8, 8, 8, 8, 8, 8, 8, 8, 8, 8, 8, 8, 8, 8, 8, 8, 8, 8, 8, 8, 8, 8, 8, 8, 8, 8, 8, 8, 8, 8, 8, 8, 8, 8, 8, 8, 8, 8, 8, 8, 8, 8, 8, 8, 8, 8, 8, 8, 8, 8, 8, 8, 8, 8, 8, 8, 8, 8, 8, 8, 8, 8, 8, 8, 8, 8, 8, 8, 8, 8, 8, 8, 8, 8, 8, 8, 8, 8, 8, 8, 8, 8, 8, 8, 8, 8, 8, 8, 8, 8, 8, 8, 8, 8, 8, 8, 8, 8, 8, 8, 8, 8, 8, 8, 8, 8, 8, 8, 8, 8, 8, 8]⟩)) (t 15)),
 o 17 (.conv .i64 (t 16)),
 ad 18 (t 13) (t 17),
 mv 2 (t 18)] [0, 13, 14, 15, 16, 17, 18])
 (.ret))))
def r_math_bits_Len32 : List RRes := [.tmp 2]
theorem fo_math_bits_Len32 {args : List Value} {M : Mem} {R : Value → Mem → Prop} (hn : args.length ≤ 19) (h : vfn Tryz.prog c_math_bits_Len32 r_math_bits_Len32 args M R) : CallsM Tryz.prog F.math_bits_Len32 args M R :=
  fn_ok (kf := k_math_bits_Len32) Tryz.func83 (by kernel_rfl) (by kernel_rfl) hn (by kernel_rfl) h
/-- math/bits.Len64 -/
def k_math_bits_Len64 (i : Nat) : List Nat := match i with | 1 => [3] | 2 => [5, 6] | 4 => [7] | 5 => [9, 10] | 6 => [11, 12] | 7 => [13] | 8 => [15, 16] | 9 => [17, 18] | 10 => [0, 19, 20, 21, 22, 23, 24] | _ => []
def c_math_bits_Len64 : RCode :=
 .seq (.ops [mv 2 (k 0)] [])
 (.seq (.seq (.ops [mv 3 (t 0),
 o 4 (.ibin .geq (t 3) (.const (.int .u64 4294967296)))] [3])
 (.cond (t 4)
  (.seq (.ops [mv 5 (t 0),
  o 6 (.ibin .shr (t 5) (.const (.int .u64 32))),
  mv 0 (t 6)] [5, 6])
  (.ops [mv 2 (k 32)] []))
  (.skip)))
 (.seq (.seq (.ops [mv 7 (t 0),
 o 8 (.ibin .geq (t 7) (.const (.int .u64 65536)))] [7])
 (.cond (t 8)
  (.seq (.ops [mv 9 (t 0),
  o 10 (.ibin .shr (t 9) (.const (.int .u64 16))),
  mv 0 (t 10)] [9, 10])
  (.ops [mv 11 (t 2),
  ad 12 (t 11) (k 16),
  mv 2 (t 12)] [11, 12]))
  (.skip)))
 (.seq (.seq (.ops [mv 13 (t 0),
 o 14 (.ibin .geq (t 13) (.const (.int .u64 256)))] [13])
 (.cond (t 14)
  (.seq (.ops [mv 15 (t 0),
  o 16 (.ibin .shr (t 15) (.const (.int .u64 8))),
  mv 0 (t 16)] [15, 16])
  (.ops [mv 17 (t 2),
  ad 18 (t 17) (k 8),
  mv 2 (t 18)] [17, 18]))
  (.skip)))
 (.seq (.ops [mv 19 (t 2),
 mv 20 (t 0),
 o 21 (.conv .u8 (t 20)),
 o 22 (.sidx (.const (.string ⟨#[0, 1, 2, 2, 3, 3, 3, 3, 4, 4, 4, 4, 4, 4, 4, 4, 5, 5, 5, 5, 5, 5, 5, 5, 5, 5, 5, 5, 5, 5, 5, 5, 6, 6, 6, 6, 6, 6, 6, 6, 6, 6, 6, 6, 6, 6, 6, 6, 6, 6, 6, 6, 6, 6, 6, 6, 6, 6, 6, 6, 6, 6, 6, 6, 7, 7, 7, 7, 7, 7, 7, 7, 7, 7, 7, 7, 7, 7, 7, 7, 7, 7, 7, 7, 7, 7, 7, 7, 7, 7, 7, 7, 7, 7, 7, 7, 7, 7, 7, 7, 7, 7, 7, 7, 7, 7, 7, 7, 7, 7, 7, 7, 7, 7, 7, 7, 7, 7, 7, 7, 7, 7, 7, 7, 7, 7, 7, 7, 8, 8, 8, 8, 8, 8, 8, 8, 8, 8, 8, 8, 8, 8, 8, 8, 8, 8, 8, 8, 8, 8, 8, 8, 8, 8, 8, 8, 8, 8, 8, 8, 8, 8, 8, 8, 8, 8, 8, 8, 8, 8, 8, 8, 8, 8, 8, 8, 8, 8, 8, 8, 8, 8, 8, 8, 8, 8, 8, 8, 8, 8, 8, 8, 8, 8, 8, 8, 8, 8, 8, 8, 8, 8, 8, 8, 8, 8, 8, 8, 8, 8, 8, 8, 8, 8, 8, 8, 8, 8, 8, 8, 8, 8, 8, 8, 8, 8, 8, 8, 8, 8, 8, 8, 8, 8, 8, 8, 8, 8, 8, 8, 8, 8, 8, 8, 8, 8, 8, 8, 8, 8, 8, 8, 8, 8, 8, 8]⟩)) (t 21)),
 o 23 (.conv .i64 (t 22)),
 ad 24 (t 19) (t 23),
 mv 2 (t 24)] [0, 19, 20, 21, 22, 23, 24])
 (.ret)))))
def r_math_bits_Len64 : List RRes := [.tmp 2]
theorem fo_math_bits_Len64 {args : List Value} {M : Mem} {R : Value → Mem → Prop} (hn : args.length ≤ 25) (h : vfn Tryz.prog c_math_bits_Len64 r_math_bits_Len64 args M R) : CallsM Tryz.prog F.math_bits_Len64 args M R :=
  fn_ok (kf := k_math_bits_Len64) Tryz.func84 (by kernel_rfl) (by kernel_rfl) hn (by kernel_rfl) h
/-- slices.pdqsortCmpFunc[portage/api.Mark] -/
def k_slices_pdqsortCmpFunc_api_Mark (i : Nat) : List Nat := match i with | 2 => [21, 22, 23] | 3 => [24] | 4 => [0, 1, 2, 4, 26, 27, 28, 29, 30] | 5 => [31] | 6 => [0, 1, 2, 4, 33, 34, 35, 36, 37] | 7 => [38] | 8 => [40, 41, 42, 43, 44] | 9 => [45, 46] | 10 => [47, 48, 49, 50, 51, 52, 53, 54] | 11 => [55] | 12 => [57, 58, 59, 60, 61] | 13 => [62, 63, 64, 65, 66, 67] | 15 => [14, 68, 69, 70, 71, 72, 73, 74] | 16 => [76, 77, 78, 79] | 17 => [81, 82, 83, 84, 85, 86, 87, 88, 89, 90, 91, 92, 93, 94, 95, 96] | 18 => [1, 13, 98, 99, 100, 101, 102, 103] | 19 => [15, 104] | 20 => [13, 105, 106, 107, 108, 109, 110, 111, 112, 113] | 21 => [17, 114] | 22 => [115, 116, 117, 118, 119, 120] | 23 => [12, 121, 122] | 24 => [123, 124] | 25 => [18, 20, 126, 127, 128] | 26 => [1, 129, 130, 131, 132, 133, 134] | 27 => [16, 135, 136] | 28 => [19, 20, 137, 138, 139] | 29 => [2, 140, 141, 142, 143, 144, 145, 146] | 30 => [16, 147] | _ => []
def c_slices_pdqsortCmpFunc_api_Mark : RCode :=
 .seq (.ops [mv 10 (kb true)] [])
 (.seq (.ops [mv 11 (kb true)] [])
 (.block 0 (.loop (.block 1 (.seq (.ops [mv 21 (t 2),
  mv 22 (t 1),
  o 23 (.ibin .sub (t 21) (t 22)),
  mv 12 (t 23)] [21, 22, 23])
  (.seq (.seq (.ops [mv 24 (t 12),
  o 25 (.ibin .leq (t 24) (k 12))] [24])
  (.cond (t 25)
   (.seq (.ops [mv 26 (t 0),
   mv 27 (t 1),
   mv 28 (t 2),
   mv 29 (t 4),
   ca 30 F.slices_insertionSortCmpFunc_api_Mark [(t 26), (t 27), (t 28), (t 29)]] [0, 1, 2, 4, 26, 27, 28, 29, 30])
   (.ret))
   (.skip)))
  (.seq (.seq (.ops [mv 31 (t 3),
  o 32 (.ibin .eql (t 31) (k 0))] [31])
  (.cond (t 32)
   (.seq (.ops [mv 33 (t 0),
   mv 34 (t 1),
   mv 35 (t 2),
   mv 36 (t 4),
   ca 37 F.slices_heapSortCmpFunc_api_Mark [(t 33), (t 34), (t 35), (t 36)]] [0, 1, 2, 4, 33, 34, 35, 36, 37])
   (.ret))
   (.skip)))
  (.seq (.seq (.ops [mv 38 (t 10),
  o 39 (.not (t 38))] [38])
  (.cond (t 39)
   (.seq (.ops [mv 40 (t 0),
   mv 41 (t 1),
   mv 42 (t 2),
   mv 43 (t 4),
   ca 44 F.slices_breakPatternsCmpFunc_api_Mark [(t 40), (t 41), (t 42), (t 43)]] [40, 41, 42, 43, 44])
   (.ops [mv 45 (t 3),
   o 46 (.ibin .sub (t 45) (k 1)),
   mv 3 (t 46)] [45, 46]))
   (.skip)))
  (.seq (.ops [mv 48 (t 0),
  mv 49 (t 1),
  mv 50 (t 2),
  mv 51 (t 4),
  ca 52 F.slices_choosePivotCmpFunc_api_Mark [(t 48), (t 49), (t 50), (t 51)],
  mv 47 (t 52),
  ex 53 (t 47) 0,
  ex 54 (t 47) 1,
  mv 13 (t 53),
  mv 14 (t 54)] [47, 48, 49, 50, 51, 52, 53, 54])
  (.seq (.seq (.ops [mv 55 (t 14),
  o 56 (.ibin .eql (t 55) (k 2))] [55])
  (.cond (t 56)
   (.seq (.ops [mv 57 (t 0),
   mv 58 (t 1),
   mv 59 (t 2),
   mv 60 (t 4),
   ca 61 F.slices_reverseRangeCmpFunc_api_Mark [(t 57), (t 58), (t 59), (t 60)]] [57, 58, 59, 60, 61])
   (.seq (.ops [mv 62 (t 2),
   o 63 (.ibin .sub (t 62) (k 1)),
   mv 64 (t 13),
   mv 65 (t 1),
   o 66 (.ibin .sub (t 64) (t 65)),
   o 67 (.ibin .sub (t 63) (t 66)),
   mv 13 (t 67)] [62, 63, 64, 65, 66, 67])
   (.ops [mv 14 (k 1)] [])))
   (.skip)))
  (.seq (.seq (.ops [mv 68 (t 10),
  os 69 (.mov (t 68)),
  gt 69 70 (.mov (t 11)),
  o 71 (.pick (t 69) (t 70) (kb false)),
  os 72 (.mov (t 71)),
  gt 72 73 (.mov (t 14)),
  gt 72 74 (.ibin .eql (t 73) (k 1)),
  o 75 (.pick (t 72) (t 74) (kb false))] [14, 68, 69, 70, 71, 72, 73, 74])
  (.cond (t 75)
   (.seq (.ops [mv 76 (t 0),
   mv 77 (t 1),
   mv 78 (t 2),
   mv 79 (t 4),
   ca 80 F.slices_partialInsertionSortCmpFunc_api_Mark [(t 76), (t 77), (t 78), (t 79)]] [76, 77, 78, 79])
   (.cond (t 80)
    (.ret)
    (.skip)))
   (.skip)))
  (.seq (.seq (.draw (.take (mv 81 (t 1)) (.take (o 82 (.ibin .gtr (t 81) (k 0))) (.take (os 83 (.mov (t 82))) (.take (gt 83 84 (.mov (t 4))) (.take (gt 83 85 (.mov (t 0))) (.take (gt 83 86 (.mov (t 1))) (.take (gt 83 87 (.ibin .sub (t 86) (k 1))) (.take (gt 83 88 (.iaddr 4 (t 85) (t 87))) (.take (gt 83 89 (.load true 4 (t 88))) (.take (gt 83 90 (.mov (t 0))) (.take (gt 83 91 (.mov (t 13))) (.take (gt 83 92 (.iaddr 4 (t 90) (t 91))) (.take (gt 83 93 (.load true 4 (t 92))) (.alt (gt 83 94 (.call (t 84) [(t 89), (t 93)])) false
   (.take (gt 83 95 (.ibin .lss (t 94) (k 0))) (.take (gt 83 96 (.not (t 95))) (.take (o 97 (.pick (t 83) (t 96) (kb false))) (.done))))
   (.none))))))))))))))) [81, 82, 83, 84, 85, 86, 87, 88, 89, 90, 91, 92, 93, 94, 95, 96])
  (.cond (t 97)
   (.seq (.ops [mv 98 (t 0),
   mv 99 (t 1),
   mv 100 (t 2),
   mv 101 (t 13),
   mv 102 (t 4),
   ca 103 F.slices_partitionEqualCmpFunc_api_Mark [(t 98), (t 99), (t 100), (t 101), (t 102)],
   mv 15 (t 103)] [1, 13, 98, 99, 100, 101, 102, 103])
   (.seq (.ops [mv 104 (t 15),
   mv 1 (t 104)] [15, 104])
   (.exit 1)))
   (.skip)))
  (.seq (.ops [mv 106 (t 0),
  mv 107 (t 1),
  mv 108 (t 2),
  mv 109 (t 13),
  mv 110 (t 4),
  ca 111 F.slices_partitionCmpFunc_api_Mark [(t 106), (t 107), (t 108), (t 109), (t 110)],
  mv 105 (t 111),
  ex 112 (t 105) 0,
  ex 113 (t 105) 1,
  mv 16 (t 112),
  mv 17 (t 113)] [13, 105, 106, 107, 108, 109, 110, 111, 112, 113])
  (.seq (.ops [mv 114 (t 17),
  mv 11 (t 114)] [17, 114])
  (.seq (.ops [mv 115 (t 16),
  mv 116 (t 1),
  o 117 (.ibin .sub (t 115) (t 116)),
  mv 118 (t 2),
  mv 119 (t 16),
  o 120 (.ibin .sub (t 118) (t 119)),
  mv 18 (t 117),
  mv 19 (t 120)] [115, 116, 117, 118, 119, 120])
  (.seq (.ops [mv 121 (t 12),
  o 122 (.ibin .quo (t 121) (k 8)),
  mv 20 (t 122)] [12, 121, 122])
  (.seq (.ops [mv 123 (t 18),
  mv 124 (t 19),
  o 125 (.ibin .lss (t 123) (t 124))] [123, 124])
  (.cond (t 125)
   (.seq (.ops [mv 126 (t 18),
   mv 127 (t 20),
   o 128 (.ibin .geq (t 126) (t 127)),
   mv 10 (t 128)] [18, 20, 126, 127, 128])
   (.seq (.ops [mv 129 (t 0),
   mv 130 (t 1),
   mv 131 (t 16),
   mv 132 (t 3),
   mv 133 (t 4),
   ca 134 F.slices_pdqsortCmpFunc_api_Mark [(t 129), (t 130), (t 131), (t 132), (t 133)]] [1, 129, 130, 131, 132, 133, 134])
   (.ops [mv 135 (t 16),
   ad 136 (t 135) (k 1),
   mv 1 (t 136)] [16, 135, 136])))
   (.seq (.ops [mv 137 (t 19),
   mv 138 (t 20),
   o 139 (.ibin .geq (t 137) (t 138)),
   mv 10 (t 139)] [19, 20, 137, 138, 139])
   (.seq (.ops [mv 140 (t 0),
   mv 141 (t 16),
   ad 142 (t 141) (k 1),
   mv 143 (t 2),
   mv 144 (t 3),
   mv 145 (t 4),
   ca 146 F.slices_pdqsortCmpFunc_api_Mark [(t 140), (t 142), (t 143), (t 144), (t 145)]] [2, 140, 141, 142, 143, 144, 145, 146])
   (.ops [mv 147 (t 16),
   mv 2 (t 147)] [16, 147])))))))))))))))))))))
def r_slices_pdqsortCmpFunc_api_Mark : List RRes := []
theorem fo_slices_pdqsortCmpFunc_api_Mark {args : List Value} {M : Mem} {R : Value → Mem → Prop} (hn : args.length ≤ 148) (h : vfn Tryz.prog c_slices_pdqsortCmpFunc_api_Mark r_slices_pdqsortCmpFunc_api_Mark args M R) : CallsM Tryz.prog F.slices_pdqsortCmpFunc_api_Mark args M R :=
  fn_ok (kf := k_slices_pdqsortCmpFunc_api_Mark) Tryz.func85 (by kernel_rfl) (by kernel_rfl) hn (by kernel_rfl) h
/-- cmp.Compare[int] -/
def k_cmp_Compare_int (i : Nat) : List Nat := match i with | 0 => [4] | 1 => [7, 8] | 2 => [9, 10] | 3 => [5] | 4 => [6] | 7 => [6] | 9 => [14, 15] | 11 => [0, 1, 17, 18] | _ => []
def c_cmp_Compare_int : RCode :=
 .seq (.ops [mv 4 (k 0)] [4])
 (.seq (.ops [mv 7 (t 0),
 ca 8 F.cmp_isNaN_int [(t 7)],
 mv 5 (t 8)] [7, 8])
 (.seq (.ops [mv 9 (t 1),
 ca 10 F.cmp_isNaN_int [(t 9)],
 mv 6 (t 10)] [9, 10])
 (.seq (.seq (.ops [mv 11 (t 5)] [5])
 (.cond (t 11)
  (.seq (.seq (.ops [mv 12 (t 6)] [6])
  (.cond (t 12)
   (.seq (.ops [mv 4 (k 0)] [])
   (.ret))
   (.skip)))
  (.seq (.ops [mv 4 (k (-1))] [])
  (.ret)))
  (.skip)))
 (.seq (.seq (.ops [mv 13 (t 6)] [6])
 (.cond (t 13)
  (.seq (.ops [mv 4 (k 1)] [])
  (.ret))
  (.skip)))
 (.seq (.seq (.ops [mv 14 (t 0),
 mv 15 (t 1),
 o 16 (.ibin .lss (t 14) (t 15))] [14, 15])
 (.cond (t 16)
  (.seq (.ops [mv 4 (k (-1))] [])
  (.ret))
  (.skip)))
 (.seq (.seq (.ops [mv 17 (t 0),
 mv 18 (t 1),
 o 19 (.ibin .gtr (t 17) (t 18))] [0, 1, 17, 18])
 (.cond (t 19)
  (.seq (.ops [mv 4 (k 1)] [])
  (.ret))
  (.skip)))
 (.seq (.ops [mv 4 (k 0)] [])
 (.ret))))))))
def r_cmp_Compare_int : List RRes := [.tmp 4]
theorem fo_cmp_Compare_int {args : List Value} {M : Mem} {R : Value → Mem → Prop} (hn : args.length ≤ 20) (h : vfn Tryz.prog c_cmp_Compare_int r_cmp_Compare_int args M R) : CallsM Tryz.prog F.cmp_Compare_int args M R :=
  fn_ok (kf := k_cmp_Compare_int) Tryz.func86 (by kernel_rfl) (by kernel_rfl) hn (by kernel_rfl) h
/-- portage/msg.Check$1 -/
def k_msg_Check_1 (i : Nat) : List Nat := match i with | 0 => [6] | 1 => [0, 1, 2, 7, 8, 9, 10, 11, 12, 13, 14] | _ => []
def c_msg_Check_1 : RCode :=
 .seq (.ops [mv 6 (kb false)] [6])
 (.seq (.ops [mv 7 (t 0),
 mv 8 (t 1),
 o 9 (.ibin .geq (t 7) (t 8)),
 os 10 (.mov (t 9)),
 gt 10 11 (.mov (t 0)),
 gt 10 12 (.mov (t 2)),
 gt 10 13 (.ibin .leq (t 11) (t 12)),
 o 14 (.pick (t 10) (t 13) (kb false)),
 mv 6 (t 14)] [0, 1, 2, 7, 8, 9, 10, 11, 12, 13, 14])
 (.ret))
def r_msg_Check_1 : List RRes := [.tmp 6]
theorem fo_msg_Check_1 {args : List Value} {M : Mem} {R : Value → Mem → Prop} (hn : args.length ≤ 15) (h : vfn Tryz.prog c_msg_Check_1 r_msg_Check_1 args M R) : CallsM Tryz.prog F.msg_Check_1 args M R :=
  fn_ok (kf := k_msg_Check_1) Tryz.func87 (by kernel_rfl) (by kernel_rfl) hn (by kernel_rfl) h
/-- slices.Contains[[]int,int] -/
def k_slices_Contains_int_int (i : Nat) : List Nat := match i with | 0 => [4] | 1 => [0, 1, 5, 6, 7, 8] | _ => []
def c_slices_Contains_int_int : RCode :=
 .seq (.ops [mv 4 (kb false)] [4])
 (.seq (.ops [mv 5 (t 0),
 mv 6 (t 1),
 ca 7 F.slices_Index_int_int [(t 5), (t 6)],
 o 8 (.ibin .geq (t 7) (k 0)),
 mv 4 (t 8)] [0, 1, 5, 6, 7, 8])
 (.ret))
def r_slices_Contains_int_int : List RRes := [.tmp 4]
theorem fo_slices_Contains_int_int {args : List Value} {M : Mem} {R : Value → Mem → Prop} (hn : args.length ≤ 9) (h : vfn Tryz.prog c_slices_Contains_int_int r_slices_Contains_int_int args M R) : CallsM Tryz.prog F.slices_Contains_int_int args M R :=
  fn_ok (kf := k_slices_Contains_int_int) Tryz.func88 (by kernel_rfl) (by kernel_rfl) hn (by kernel_rfl) h
/-- portage/portageref14.There -/
def k_ref14_There (i : Nat) : List Nat := match i with | 0 => [0, 1, 4] | 2 => [6, 7, 8, 9] | 4 => [13, 14, 15, 16, 17, 18] | 3 => [11, 12] | _ => []
def c_ref14_There : RCode :=
 .seq (.ops [o 2 (.box 35 (t 0)),
 o 3 (.box 110 (t 1)),
 mv 4 (kb false)] [0, 1, 4])
 (.seq (.seq (.ops [mv 5 (k 0)] [])
 (.block 0 (.loop (.seq (.seq (.ops [mv 6 (t 5),
  fa 7 1 (t 2),
  l1 8 (t 7),
  o 9 (.len (t 8)),
  o 10 (.ibin .lss (t 6) (t 9))] [6, 7, 8, 9])
  (.cond (t 10)
   (.skip)
   (.exit 0)))
  (.seq (.block 1 (.seq (.draw (.take (fa 13 1 (t 2)) (.take (l1 14 (t 13)) (.take (mv 15 (t 5)) (.take (o 16 (.iaddr 3 (t 14) (t 15))) (.take (la 17 3 (t 16)) (.take (la 18 3 (t 3)) (.take (o 19 (.aeq .eql 3 (t 17) (t 18))) (.done)))))))) [13, 14, 15, 16, 17, 18])
  (.cond (t 19)
   (.seq (.ops [mv 4 (kb true)] [])
   (.ret))
   (.skip))))
  (.ops [mv 11 (t 5),
  ad 12 (t 11) (k 1),
  mv 5 (t 12)] [11, 12]))))))
 (.seq (.ops [mv 4 (kb false)] [])
 (.ret)))
def r_ref14_There : List RRes := [.tmp 4]
theorem fo_ref14_There {args : List Value} {M : Mem} {R : Value → Mem → Prop} (hn : args.length ≤ 20) (h : vfn Tryz.prog c_ref14_There r_ref14_There args M R) : CallsM Tryz.prog F.ref14_There args M R :=
  fn_ok (kf := k_ref14_There) Tryz.func89 (by kernel_rfl) (by kernel_rfl) hn (by kernel_rfl) h
/-- cmp.isNaN[int] -/
def k_cmp_isNaN_int (i : Nat) : List Nat := match i with | 0 => [2] | 1 => [0, 3, 4, 5] | _ => []
def c_cmp_isNaN_int : RCode :=
 .seq (.ops [mv 2 (kb false)] [2])
 (.seq (.ops [mv 3 (t 0),
 mv 4 (t 0),
 o 5 (.ibin .neq (t 3) (t 4)),
 mv 2 (t 5)] [0, 3, 4, 5])
 (.ret))
def r_cmp_isNaN_int : List RRes := [.tmp 2]
theorem fo_cmp_isNaN_int {args : List Value} {M : Mem} {R : Value → Mem → Prop} (hn : args.length ≤ 6) (h : vfn Tryz.prog c_cmp_isNaN_int r_cmp_isNaN_int args M R) : CallsM Tryz.prog F.cmp_isNaN_int args M R :=
  fn_ok (kf := k_cmp_isNaN_int) Tryz.func90 (by kernel_rfl) (by kernel_rfl) hn (by kernel_rfl) h
/-- slices.rotateLeft[int] -/
def k_slices_rotateLeft_int (i : Nat) : List Nat := match i with | 0 => [4, 5, 6, 7] | 1 => [1, 8, 9, 10, 11] | 2 => [0, 12, 13] | _ => []
def c_slices_rotateLeft_int : RCode :=
 .seq (.ops [mv 4 (t 0),
 mv 5 (t 1),
 o 6 (.slx 1 (t 4) none (some (t 5))),
 ca 7 F.slices_Reverse_int_int [(t 6)]] [4, 5, 6, 7])
 (.seq (.ops [mv 8 (t 0),
 mv 9 (t 1),
 o 10 (.slx 1 (t 8) (some (t 9)) none),
 ca 11 F.slices_Reverse_int_int [(t 10)]] [1, 8, 9, 10, 11])
 (.ops [mv 12 (t 0),
 ca 13 F.slices_Reverse_int_int [(t 12)]] [0, 12, 13]))
def r_slices_rotateLeft_int : List RRes := []
theorem fo_slices_rotateLeft_int {args : List Value} {M : Mem} {R : Value → Mem → Prop} (hn : args.length ≤ 14) (h : vfn Tryz.prog c_slices_rotateLeft_int r_slices_rotateLeft_int args M R) : CallsM Tryz.prog F.slices_rotateLeft_int args M R :=
  fn_ok (kf := k_slices_rotateLeft_int) Tryz.func91 (by kernel_rfl) (by kernel_rfl) hn (by kernel_rfl) h
/-- slices.siftDownCmpFunc[portage/store.place] -/
def k_slices_siftDownCmpFunc_store_place (i : Nat) : List Nat := match i with | 0 => [1, 12] | 1 => [13, 14, 15] | 2 => [16, 17] | 3 => [19, 20, 21, 22, 23, 24, 25, 26, 27, 28, 29, 30, 31, 32, 33, 34, 35, 36, 37, 38, 39] | 4 => [41, 42] | 5 => [43, 44, 45, 46, 47, 48, 49, 50, 51, 52, 53, 54, 55, 56, 57] | 6 => [10, 59, 60, 61, 62, 63, 64, 65, 66, 67, 68, 69, 70, 71, 72, 73, 74, 75, 76, 77, 78, 79, 80] | 7 => [11, 81] | _ => []
def c_slices_siftDownCmpFunc_store_place : RCode :=
 .seq (.ops [mv 12 (t 1),
 mv 10 (t 12)] [1, 12])
 (.block 0 (.loop (.block 1 (.seq (.ops [mv 13 (t 10),
  o 14 (.ibin .mul (k 2) (t 13)),
  ad 15 (t 14) (k 1),
  mv 11 (t 15)] [13, 14, 15])
  (.seq (.seq (.ops [mv 16 (t 11),
  mv 17 (t 2),
  o 18 (.ibin .geq (t 16) (t 17))] [16, 17])
  (.cond (t 18)
   (.exit 0)
   (.skip)))
  (.seq (.seq (.draw (.take (mv 19 (t 11)) (.take (ad 20 (t 19) (k 1)) (.take (mv 21 (t 2)) (.take (o 22 (.ibin .lss (t 20) (t 21))) (.take (os 23 (.mov (t 22))) (.take (gt 23 24 (.mov (t 4))) (.take (gt 23 25 (.mov (t 0))) (.take (gt 23 26 (.mov (t 3))) (.take (gt 23 27 (.mov (t 11))) (.take (gt 23 28 (.ibin .add (t 26) (t 27))) (.take (gt 23 29 (.iaddr 6 (t 25) (t 28))) (.take (gt 23 30 (.load true 6 (t 29))) (.take (gt 23 31 (.mov (t 0))) (.take (gt 23 32 (.mov (t 3))) (.take (gt 23 33 (.mov (t 11))) (.take (gt 23 34 (.ibin .add (t 32) (t 33))) (.take (gt 23 35 (.ibin .add (t 34) (k 1))) (.take (gt 23 36 (.iaddr 6 (t 31) (t 35))) (.take (gt 23 37 (.load true 6 (t 36))) (.alt (gt 23 38 (.call (t 24) [(t 30), (t 37)])) false
   (.take (gt 23 39 (.ibin .lss (t 38) (k 0))) (.take (o 40 (.pick (t 23) (t 39) (kb false))) (.done)))
   (.none))))))))))))))))))))) [19, 20, 21, 22, 23, 24, 25, 26, 27, 28, 29, 30, 31, 32, 33, 34, 35, 36, 37, 38, 39])
  (.cond (t 40)
   (.ops [mv 41 (t 11),
   ad 42 (t 41) (k 1),
   mv 11 (t 42)] [41, 42])
   (.skip)))
  (.seq (.seq (.draw (.take (mv 43 (t 4)) (.take (mv 44 (t 0)) (.take (mv 45 (t 3)) (.take (mv 46 (t 10)) (.take (ad 47 (t 45) (t 46)) (.take (o 48 (.iaddr 6 (t 44) (t 47))) (.take (la 49 6 (t 48)) (.take (mv 50 (t 0)) (.take (mv 51 (t 3)) (.take (mv 52 (t 11)) (.take (ad 53 (t 51) (t 52)) (.take (o 54 (.iaddr 6 (t 50) (t 53))) (.take (la 55 6 (t 54)) (.alt (o 56 (.call (t 43) [(t 49), (t 55)])) false
   (.take (o 57 (.ibin .lss (t 56) (k 0))) (.take (o 58 (.not (t 57))) (.done)))
   (.none))))))))))))))) [43, 44, 45, 46, 47, 48, 49, 50, 51, 52, 53, 54, 55, 56, 57])
  (.cond (t 58)
   (.ret)
   (.skip)))
  (.seq (.draw (.take (mv 59 (t 0)) (.take (mv 60 (t 3)) (.take (mv 61 (t 10)) (.take (ad 62 (t 60) (t 61)) (.take (mv 63 (t 0)) (.take (mv 64 (t 3)) (.take (mv 65 (t 11)) (.take (ad 66 (t 64) (t 65)) (.take (mv 67 (t 0)) (.take (mv 68 (t 3)) (.take (mv 69 (t 11)) (.take (ad 70 (t 68) (t 69)) (.take (o 71 (.iaddr 6 (t 67) (t 70))) (.take (la 72 6 (t 71)) (.take (mv 73 (t 0)) (.take (mv 74 (t 3)) (.take (mv 75 (t 10)) (.take (ad 76 (t 74) (t 75)) (.take (o 77 (.iaddr 6 (t 73) (t 76))) (.take (la 78 6 (t 77)) (.take (o 79 (.iaddr 6 (t 59) (t 62))) (.alt (st 6 (t 79) (t 72)) false
   (.take (o 80 (.iaddr 6 (t 63) (t 66))) (.alt (st 6 (t 80) (t 78)) false
    (.done)
    (.none)))
   (.none))))))))))))))))))))))) [10, 59, 60, 61, 62, 63, 64, 65, 66, 67, 68, 69, 70, 71, 72, 73, 74, 75, 76, 77, 78, 79, 80])
  (.ops [mv 81 (t 11),
  mv 10 (t 81)] [11, 81])))))))))
def r_slices_siftDownCmpFunc_store_place : List RRes := []
theorem fo_slices_siftDownCmpFunc_store_place {args : List Value} {M : Mem} {R : Value → Mem → Prop} (hn : args.length ≤ 82) (h : vfn Tryz.prog c_slices_siftDownCmpFunc_store_place r_slices_siftDownCmpFunc_store_place args M R) : CallsM Tryz.prog F.slices_siftDownCmpFunc_store_place args M R :=
  fn_ok (kf := k_slices_siftDownCmpFunc_store_place) Tryz.func92 (by kernel_rfl) (by kernel_rfl) hn (by kernel_rfl) h
/-- slices.nextPowerOfTwo -/
def k_slices_nextPowerOfTwo (i : Nat) : List Nat := match i with | 0 => [2] | 1 => [0, 3, 4, 5, 6] | _ => []
def c_slices_nextPowerOfTwo : RCode :=
 .seq (.ops [mv 2 (.const (.int .u64 0))] [2])
 (.seq (.ops [mv 3 (t 0),
 o 4 (.conv .u64 (t 3)),
 ca 5 F.math_bits_Len [(t 4)],
 o 6 (.ibin .shl (.const (.int .u64 1)) (t 5)),
 mv 2 (t 6)] [0, 3, 4, 5, 6])
 (.ret))
def r_slices_nextPowerOfTwo : List RRes := [.tmp 2]
theorem fo_slices_nextPowerOfTwo {args : List Value} {M : Mem} {R : Value → Mem → Prop} (hn : args.length ≤ 7) (h : vfn Tryz.prog c_slices_nextPowerOfTwo r_slices_nextPowerOfTwo args M R) : CallsM Tryz.prog F.slices_nextPowerOfTwo args M R :=
  fn_ok (kf := k_slices_nextPowerOfTwo) Tryz.func93 (by kernel_rfl) (by kernel_rfl) hn (by kernel_rfl) h
/-- (*slices.xorshift).Next -/
def k_slices_xorshift_Next (i : Nat) : List Nat := match i with | 0 => [2] | 1 => [3, 4, 5, 6, 7, 8, 9, 10, 11] | 2 => [12, 13, 14, 15, 16, 17, 18, 19, 20] | 3 => [21, 22, 23, 24, 25, 26, 27, 28, 29] | 4 => [0, 30, 31, 32] | _ => []
def c_slices_xorshift_Next : RCode :=
 .seq (.ops [mv 2 (.const (.int .u64 0))] [2])
 (.seq (.draw (.take (mv 3 (t 0)) (.take (o 4 (.nilck (t 3))) (.take (l1 5 (t 4)) (.take (mv 6 (t 0)) (.take (o 7 (.nilck (t 6))) (.take (l1 8 (t 7)) (.take (o 9 (.ibin .shl (t 8) (.const (.int .u64 13)))) (.take (o 10 (.ibin .xor (t 5) (t 9))) (.take (o 11 (.nilck (t 3))) (.alt (st 1 (t 11) (t 10)) false
  (.done)
  (.none))))))))))) [3, 4, 5, 6, 7, 8, 9, 10, 11])
 (.seq (.draw (.take (mv 12 (t 0)) (.take (o 13 (.nilck (t 12))) (.take (l1 14 (t 13)) (.take (mv 15 (t 0)) (.take (o 16 (.nilck (t 15))) (.take (l1 17 (t 16)) (.take (o 18 (.ibin .shr (t 17) (.const (.int .u64 7)))) (.take (o 19 (.ibin .xor (t 14) (t 18))) (.take (o 20 (.nilck (t 12))) (.alt (st 1 (t 20) (t 19)) false
  (.done)
  (.none))))))))))) [12, 13, 14, 15, 16, 17, 18, 19, 20])
 (.seq (.draw (.take (mv 21 (t 0)) (.take (o 22 (.nilck (t 21))) (.take (l1 23 (t 22)) (.take (mv 24 (t 0)) (.take (o 25 (.nilck (t 24))) (.take (l1 26 (t 25)) (.take (o 27 (.ibin .shl (t 26) (.const (.int .u64 17)))) (.take (o 28 (.ibin .xor (t 23) (t 27))) (.take (o 29 (.nilck (t 21))) (.alt (st 1 (t 29) (t 28)) false
  (.done)
  (.none))))))))))) [21, 22, 23, 24, 25, 26, 27, 28, 29])
 (.seq (.ops [mv 30 (t 0),
 o 31 (.nilck (t 30)),
 l1 32 (t 31),
 mv 2 (t 32)] [0, 30, 31, 32])
 (.ret)))))
def r_slices_xorshift_Next : List RRes := [.tmp 2]
theorem fo_slices_xorshift_Next {args : List Value} {M : Mem} {R : Value → Mem → Prop} (hn : args.length ≤ 33) (h : vfn Tryz.prog c_slices_xorshift_Next r_slices_xorshift_Next args M R) : CallsM Tryz.prog F.slices_xorshift_Next args M R :=
  fn_ok (kf := k_slices_xorshift_Next) Tryz.func94 (by kernel_rfl) (by kernel_rfl) hn (by kernel_rfl) h
/-- slices.medianAdjacentCmpFunc[portage/store.place] -/
def k_slices_medianAdjacentCmpFunc_store_place (i : Nat) : List Nat := match i with | 0 => [8] | 1 => [0, 1, 2, 3, 9, 10, 11, 12, 13, 14, 15, 16, 17] | _ => []
def c_slices_medianAdjacentCmpFunc_store_place : RCode :=
 .seq (.ops [mv 8 (k 0)] [8])
 (.seq (.ops [mv 9 (t 0),
 mv 10 (t 1),
 o 11 (.ibin .sub (t 10) (k 1)),
 mv 12 (t 1),
 mv 13 (t 1),
 ad 14 (t 13) (k 1),
 mv 15 (t 2),
 mv 16 (t 3),
 ca 17 F.slices_medianCmpFunc_store_place [(t 9), (t 11), (t 12), (t 14), (t 15), (t 16)],
 mv 8 (t 17)] [0, 1, 2, 3, 9, 10, 11, 12, 13, 14, 15, 16, 17])
 (.ret))
def r_slices_medianAdjacentCmpFunc_store_place : List RRes := [.tmp 8]
theorem fo_slices_medianAdjacentCmpFunc_store_place {args : List Value} {M : Mem} {R : Value → Mem → Prop} (hn : args.length ≤ 18) (h : vfn Tryz.prog c_slices_medianAdjacentCmpFunc_store_place r_slices_medianAdjacentCmpFunc_store_place args M R) : CallsM Tryz.prog F.slices_medianAdjacentCmpFunc_store_place args M R :=
  fn_ok (kf := k_slices_medianAdjacentCmpFunc_store_place) Tryz.func95 (by kernel_rfl) (by kernel_rfl) hn (by kernel_rfl) h
/-- slices.medianCmpFunc[portage/store.place] -/
def k_slices_medianCmpFunc_store_place (i : Nat) : List Nat := match i with | 0 => [12] | 1 => [13, 14, 15, 16, 17, 18, 19, 20, 21] | 2 => [3, 22, 23, 24, 25, 26, 27, 28, 29, 30] | 3 => [0, 1, 4, 5, 31, 32, 33, 34, 35, 36, 37, 38, 39] | 4 => [2, 40] | _ => []
def c_slices_medianCmpFunc_store_place : RCode :=
 .seq (.ops [mv 12 (k 0)] [12])
 (.seq (.ops [mv 14 (t 0),
 mv 15 (t 1),
 mv 16 (t 2),
 mv 17 (t 4),
 mv 18 (t 5),
 ca 19 F.slices_order2CmpFunc_store_place [(t 14), (t 15), (t 16), (t 17), (t 18)],
 mv 13 (t 19),
 ex 20 (t 13) 0,
 ex 21 (t 13) 1,
 mv 1 (t 20),
 mv 2 (t 21)] [13, 14, 15, 16, 17, 18, 19, 20, 21])
 (.seq (.ops [mv 23 (t 0),
 mv 24 (t 2),
 mv 25 (t 3),
 mv 26 (t 4),
 mv 27 (t 5),
 ca 28 F.slices_order2CmpFunc_store_place [(t 23), (t 24), (t 25), (t 26), (t 27)],
 mv 22 (t 28),
 ex 29 (t 22) 0,
 ex 30 (t 22) 1,
 mv 2 (t 29),
 mv 3 (t 30)] [3, 22, 23, 24, 25, 26, 27, 28, 29, 30])
 (.seq (.ops [mv 32 (t 0),
 mv 33 (t 1),
 mv 34 (t 2),
 mv 35 (t 4),
 mv 36 (t 5),
 ca 37 F.slices_order2CmpFunc_store_place [(t 32), (t 33), (t 34), (t 35), (t 36)],
 mv 31 (t 37),
 ex 38 (t 31) 0,
 ex 39 (t 31) 1,
 mv 1 (t 38),
 mv 2 (t 39)] [0, 1, 4, 5, 31, 32, 33, 34, 35, 36, 37, 38, 39])
 (.seq (.ops [mv 40 (t 2),
 mv 12 (t 40)] [2, 40])
 (.ret)))))
def r_slices_medianCmpFunc_store_place : List RRes := [.tmp 12]
theorem fo_slices_medianCmpFunc_store_place {args : List Value} {M : Mem} {R : Value → Mem → Prop} (hn : args.length ≤ 41) (h : vfn Tryz.prog c_slices_medianCmpFunc_store_place r_slices_medianCmpFunc_store_place args M R) : CallsM Tryz.prog F.slices_medianCmpFunc_store_place args M R :=
  fn_ok (kf := k_slices_medianCmpFunc_store_place) Tryz.func96 (by kernel_rfl) (by kernel_rfl) hn (by kernel_rfl) h
/-- slices.insertionSortCmpFunc[portage/api.Mark] -/
def k_slices_insertionSortCmpFunc_api_Mark (i : Nat) : List Nat := match i with | 0 => [10, 11] | 1 => [12, 13] | 3 => [17] | 4 => [18, 19, 20, 21, 22, 23, 24, 25, 26, 27, 28, 29, 30, 31, 32, 33] | 6 => [37, 38, 39, 40, 41, 42, 43, 44, 45, 46, 47, 48, 49, 50, 51, 52] | 5 => [35, 36] | 2 => [15, 16] | _ => []
def c_slices_insertionSortCmpFunc_api_Mark : RCode :=
 .seq (.ops [mv 10 (t 1),
 ad 11 (t 10) (k 1),
 mv 8 (t 11)] [10, 11])
 (.block 0 (.loop (.seq (.seq (.ops [mv 12 (t 8),
  mv 13 (t 2),
  o 14 (.ibin .lss (t 12) (t 13))] [12, 13])
  (.cond (t 14)
   (.skip)
   (.exit 0)))
  (.seq (.block 1 (.seq (.ops [mv 17 (t 8),
  mv 9 (t 17)] [17])
  (.block 2 (.loop (.seq (.seq (.draw (.take (mv 18 (t 9)) (.take (mv 19 (t 1)) (.take (o 20 (.ibin .gtr (t 18) (t 19))) (.take (os 21 (.mov (t 20))) (.take (gt 21 22 (.mov (t 3))) (.take (gt 21 23 (.mov (t 0))) (.take (gt 21 24 (.mov (t 9))) (.take (gt 21 25 (.iaddr 4 (t 23) (t 24))) (.take (gt 21 26 (.load true 4 (t 25))) (.take (gt 21 27 (.mov (t 0))) (.take (gt 21 28 (.mov (t 9))) (.take (gt 21 29 (.ibin .sub (t 28) (k 1))) (.take (gt 21 30 (.iaddr 4 (t 27) (t 29))) (.take (gt 21 31 (.load true 4 (t 30))) (.alt (gt 21 32 (.call (t 22) [(t 26), (t 31)])) false
    (.take (gt 21 33 (.ibin .lss (t 32) (k 0))) (.take (o 34 (.pick (t 21) (t 33) (kb false))) (.done)))
    (.none)))))))))))))))) [18, 19, 20, 21, 22, 23, 24, 25, 26, 27, 28, 29, 30, 31, 32, 33])
   (.cond (t 34)
    (.skip)
    (.exit 2)))
   (.seq (.block 3 (.draw (.take (mv 37 (t 0)) (.take (mv 38 (t 9)) (.take (mv 39 (t 0)) (.take (mv 40 (t 9)) (.take (o 41 (.ibin .sub (t 40) (k 1))) (.take (mv 42 (t 0)) (.take (mv 43 (t 9)) (.take (o 44 (.ibin .sub (t 43) (k 1))) (.take (o 45 (.iaddr 4 (t 42) (t 44))) (.take (la 46 4 (t 45)) (.take (mv 47 (t 0)) (.take (mv 48 (t 9)) (.take (o 49 (.iaddr 4 (t 47) (t 48))) (.take (la 50 4 (t 49)) (.take (o 51 (.iaddr 4 (t 37) (t 38))) (.alt (st 4 (t 51) (t 46)) false
    (.take (o 52 (.iaddr 4 (t 39) (t 41))) (.alt (st 4 (t 52) (t 50)) false
     (.done)
     (.none)))
    (.none))))))))))))))))) [37, 38, 39, 40, 41, 42, 43, 44, 45, 46, 47, 48, 49, 50, 51, 52]))
   (.ops [mv 35 (t 9),
   o 36 (.ibin .sub (t 35) (k 1)),
   mv 9 (t 36)] [35, 36])))))))
  (.ops [mv 15 (t 8),
  ad 16 (t 15) (k 1),
  mv 8 (t 16)] [15, 16])))))
def r_slices_insertionSortCmpFunc_api_Mark : List RRes := []
theorem fo_slices_insertionSortCmpFunc_api_Mark {args : List Value} {M : Mem} {R : Value → Mem → Prop} (hn : args.length ≤ 53) (h : vfn Tryz.prog c_slices_insertionSortCmpFunc_api_Mark r_slices_insertionSortCmpFunc_api_Mark args M R) : CallsM Tryz.prog F.slices_insertionSortCmpFunc_api_Mark args M R :=
  fn_ok (kf := k_slices_insertionSortCmpFunc_api_Mark) Tryz.func97 (by kernel_rfl) (by kernel_rfl) hn (by kernel_rfl) h
/-- slices.heapSortCmpFunc[portage/api.Mark] -/
def k_slices_heapSortCmpFunc_api_Mark (i : Nat) : List Nat := match i with | 0 => [13] | 2 => [1, 2, 14, 15, 16] | 3 => [17, 18, 19] | 4 => [20] | 6 => [24, 25, 26, 27, 28, 29] | 5 => [22, 23] | 7 => [10, 30, 31] | 8 => [32] | 10 => [36, 37, 38, 39, 40, 41, 42, 43, 44, 45, 46, 47, 48, 49, 50, 51, 52, 53] | 11 => [54, 55, 56, 57, 58, 59] | 9 => [34, 35] | _ => []
def c_slices_heapSortCmpFunc_api_Mark : RCode :=
 .seq (.ops [mv 13 (t 1),
 mv 8 (t 13)] [13])
 (.seq (.ops [mv 9 (k 0)] [])
 (.seq (.ops [mv 14 (t 2),
 mv 15 (t 1),
 o 16 (.ibin .sub (t 14) (t 15)),
 mv 10 (t 16)] [1, 2, 14, 15, 16])
 (.seq (.seq (.ops [mv 17 (t 10),
 o 18 (.ibin .sub (t 17) (k 1)),
 o 19 (.ibin .quo (t 18) (k 2)),
 mv 11 (t 19)] [17, 18, 19])
 (.block 0 (.loop (.seq (.seq (.ops [mv 20 (t 11),
  o 21 (.ibin .geq (t 20) (k 0))] [20])
  (.cond (t 21)
   (.skip)
   (.exit 0)))
  (.seq (.block 1 (.ops [mv 24 (t 0),
  mv 25 (t 11),
  mv 26 (t 10),
  mv 27 (t 8),
  mv 28 (t 3),
  ca 29 F.slices_siftDownCmpFunc_api_Mark [(t 24), (t 25), (t 26), (t 27), (t 28)]] [24, 25, 26, 27, 28, 29]))
  (.ops [mv 22 (t 11),
  o 23 (.ibin .sub (t 22) (k 1)),
  mv 11 (t 23)] [22, 23]))))))
 (.seq (.ops [mv 30 (t 10),
 o 31 (.ibin .sub (t 30) (k 1)),
 mv 12 (t 31)] [10, 30, 31])
 (.block 2 (.loop (.seq (.seq (.ops [mv 32 (t 12),
  o 33 (.ibin .geq (t 32) (k 0))] [32])
  (.cond (t 33)
   (.skip)
   (.exit 2)))
  (.seq (.block 3 (.seq (.draw (.take (mv 36 (t 0)) (.take (mv 37 (t 8)) (.take (mv 38 (t 0)) (.take (mv 39 (t 8)) (.take (mv 40 (t 12)) (.take (ad 41 (t 39) (t 40)) (.take (mv 42 (t 0)) (.take (mv 43 (t 8)) (.take (mv 44 (t 12)) (.take (ad 45 (t 43) (t 44)) (.take (o 46 (.iaddr 4 (t 42) (t 45))) (.take (la 47 4 (t 46)) (.take (mv 48 (t 0)) (.take (mv 49 (t 8)) (.take (o 50 (.iaddr 4 (t 48) (t 49))) (.take (la 51 4 (t 50)) (.take (o 52 (.iaddr 4 (t 36) (t 37))) (.alt (st 4 (t 52) (t 47)) false
   (.take (o 53 (.iaddr 4 (t 38) (t 41))) (.alt (st 4 (t 53) (t 51)) false
    (.done)
    (.none)))
   (.none))))))))))))))))))) [36, 37, 38, 39, 40, 41, 42, 43, 44, 45, 46, 47, 48, 49, 50, 51, 52, 53])
  (.ops [mv 54 (t 0),
  mv 55 (t 9),
  mv 56 (t 12),
  mv 57 (t 8),
  mv 58 (t 3),
  ca 59 F.slices_siftDownCmpFunc_api_Mark [(t 54), (t 55), (t 56), (t 57), (t 58)]] [54, 55, 56, 57, 58, 59])))
  (.ops [mv 34 (t 12),
  o 35 (.ibin .sub (t 34) (k 1)),
  mv 12 (t 35)] [34, 35])))))))))
def r_slices_heapSortCmpFunc_api_Mark : List RRes := []
theorem fo_slices_heapSortCmpFunc_api_Mark {args : List Value} {M : Mem} {R : Value → Mem → Prop} (hn : args.length ≤ 60) (h : vfn Tryz.prog c_slices_heapSortCmpFunc_api_Mark r_slices_heapSortCmpFunc_api_Mark args M R) : CallsM Tryz.prog F.slices_heapSortCmpFunc_api_Mark args M R :=
  fn_ok (kf := k_slices_heapSortCmpFunc_api_Mark) Tryz.func98 (by kernel_rfl) (by kernel_rfl) hn (by kernel_rfl) h
/-- slices.breakPatternsCmpFunc[portage/api.Mark] -/
def k_slices_breakPatternsCmpFunc_api_Mark (i : Nat) : List Nat := match i with | 0 => [2, 13, 14, 15] | 1 => [16] | 2 => [18, 19] | 3 => [20, 21] | 4 => [22, 23, 24, 25, 26, 27] | 5 => [28, 29, 30, 31, 32, 33, 34] | 7 => [38, 39, 40, 41, 42] | 8 => [43, 44] | 9 => [46, 47, 48] | 10 => [12, 49, 50, 51, 52, 53, 54, 55, 56, 57, 58, 59, 60, 61, 62, 63, 64, 65, 66] | 6 => [36, 37] | _ => []
def c_slices_breakPatternsCmpFunc_api_Mark : RCode :=
 .seq (.ops [mv 13 (t 2),
 mv 14 (t 1),
 o 15 (.ibin .sub (t 13) (t 14)),
 mv 8 (t 15)] [2, 13, 14, 15])
 (.seq (.ops [mv 16 (t 8),
 o 17 (.ibin .geq (t 16) (k 8))] [16])
 (.cond (t 17)
  (.seq (.ops [mv 18 (t 8),
  o 19 (.conv .u64 (t 18)),
  o 9 (.alloc 154 [(.int .u64 0)]),
  st 1 (t 9) (t 19)] [18, 19])
  (.seq (.ops [mv 20 (t 8),
  ca 21 F.slices_nextPowerOfTwo [(t 20)],
  mv 10 (t 21)] [20, 21])
  (.seq (.ops [mv 22 (t 1),
  mv 23 (t 8),
  o 24 (.ibin .quo (t 23) (k 4)),
  o 25 (.ibin .mul (t 24) (k 2)),
  ad 26 (t 22) (t 25),
  o 27 (.ibin .sub (t 26) (k 1)),
  mv 11 (t 27)] [22, 23, 24, 25, 26, 27])
  (.block 0 (.loop (.seq (.seq (.ops [mv 28 (t 11),
   mv 29 (t 1),
   mv 30 (t 8),
   o 31 (.ibin .quo (t 30) (k 4)),
   o 32 (.ibin .mul (t 31) (k 2)),
   ad 33 (t 29) (t 32),
   ad 34 (t 33) (k 1),
   o 35 (.ibin .leq (t 28) (t 34))] [28, 29, 30, 31, 32, 33, 34])
   (.cond (t 35)
    (.skip)
    (.exit 0)))
   (.seq (.block 1 (.seq (.ops [ca 38 F.slices_xorshift_Next [(t 9)],
   mv 39 (t 10),
   o 40 (.ibin .sub (t 39) (.const (.int .u64 1))),
   o 41 (.ibin .and (t 38) (t 40)),
   o 42 (.conv .i64 (t 41)),
   mv 12 (t 42)] [38, 39, 40, 41, 42])
   (.seq (.seq (.ops [mv 43 (t 12),
   mv 44 (t 8),
   o 45 (.ibin .geq (t 43) (t 44))] [43, 44])
   (.cond (t 45)
    (.ops [mv 46 (t 12),
    mv 47 (t 8),
    o 48 (.ibin .sub (t 46) (t 47)),
    mv 12 (t 48)] [46, 47, 48])
    (.skip)))
   (.draw (.take (mv 49 (t 0)) (.take (mv 50 (t 11)) (.take (mv 51 (t 0)) (.take (mv 52 (t 1)) (.take (mv 53 (t 12)) (.take (ad 54 (t 52) (t 53)) (.take (mv 55 (t 0)) (.take (mv 56 (t 1)) (.take (mv 57 (t 12)) (.take (ad 58 (t 56) (t 57)) (.take (o 59 (.iaddr 4 (t 55) (t 58))) (.take (la 60 4 (t 59)) (.take (mv 61 (t 0)) (.take (mv 62 (t 11)) (.take (o 63 (.iaddr 4 (t 61) (t 62))) (.take (la 64 4 (t 63)) (.take (o 65 (.iaddr 4 (t 49) (t 50))) (.alt (st 4 (t 65) (t 60)) false
    (.take (o 66 (.iaddr 4 (t 51) (t 54))) (.alt (st 4 (t 66) (t 64)) false
     (.done)
     (.none)))
    (.none))))))))))))))))))) [12, 49, 50, 51, 52, 53, 54, 55, 56, 57, 58, 59, 60, 61, 62, 63, 64, 65, 66]))))
   (.ops [mv 36 (t 11),
   ad 37 (t 36) (k 1),
   mv 11 (t 37)] [36, 37]))))))))
  (.skip)))
def r_slices_breakPatternsCmpFunc_api_Mark : List RRes := []
theorem fo_slices_breakPatternsCmpFunc_api_Mark {args : List Value} {M : Mem} {R : Value → Mem → Prop} (hn : args.length ≤ 67) (h : vfn Tryz.prog c_slices_breakPatternsCmpFunc_api_Mark r_slices_breakPatternsCmpFunc_api_Mark args M R) : CallsM Tryz.prog F.slices_breakPatternsCmpFunc_api_Mark args M R :=
  fn_ok (kf := k_slices_breakPatternsCmpFunc_api_Mark) Tryz.func99 (by kernel_rfl) (by kernel_rfl) hn (by kernel_rfl) h
/-- slices.choosePivotCmpFunc[portage/api.Mark] -/
def k_slices_choosePivotCmpFunc_api_Mark (i : Nat) : List Nat := match i with | 0 => [8, 9] | 1 => [2, 15, 16, 17] | 3 => [18, 19, 20, 21, 22] | 4 => [23, 24, 25, 26, 27] | 5 => [1, 28, 29, 30, 31, 32] | 6 => [33] | 7 => [10, 35] | 8 => [37, 38, 39, 40] | 9 => [41, 42, 43, 44] | 10 => [45, 46, 47, 48] | 11 => [0, 3, 12, 14, 49, 50, 51, 52, 53, 54] | 12 => [11] | 14 => [58] | 15 => [13, 59] | 16 => [55, 61] | 17 => [13, 62] | 13 => [13, 56] | _ => []
def c_slices_choosePivotCmpFunc_api_Mark : RCode :=
 .seq (.ops [mv 8 (k 0),
 mv 9 (k 0)] [8, 9])
 (.seq (.ops [mv 15 (t 2),
 mv 16 (t 1),
 o 17 (.ibin .sub (t 15) (t 16)),
 mv 10 (t 17)] [2, 15, 16, 17])
 (.seq (.ops [o 11 (.alloc 3 [(i 0)])] [])
 (.seq (.ops [mv 18 (t 1),
 mv 19 (t 10),
 o 20 (.ibin .quo (t 19) (k 4)),
 o 21 (.ibin .mul (t 20) (k 1)),
 ad 22 (t 18) (t 21),
 mv 12 (t 22)] [18, 19, 20, 21, 22])
 (.seq (.ops [mv 23 (t 1),
 mv 24 (t 10),
 o 25 (.ibin .quo (t 24) (k 4)),
 o 26 (.ibin .mul (t 25) (k 2)),
 ad 27 (t 23) (t 26),
 mv 13 (t 27)] [23, 24, 25, 26, 27])
 (.seq (.ops [mv 28 (t 1),
 mv 29 (t 10),
 o 30 (.ibin .quo (t 29) (k 4)),
 o 31 (.ibin .mul (t 30) (k 3)),
 ad 32 (t 28) (t 31),
 mv 14 (t 32)] [1, 28, 29, 30, 31, 32])
 (.seq (.seq (.ops [mv 33 (t 10),
 o 34 (.ibin .geq (t 33) (k 8))] [33])
 (.cond (t 34)
  (.seq (.seq (.ops [mv 35 (t 10),
  o 36 (.ibin .geq (t 35) (k 50))] [10, 35])
  (.cond (t 36)
   (.seq (.ops [mv 37 (t 0),
   mv 38 (t 12),
   mv 39 (t 3),
   ca 40 F.slices_medianAdjacentCmpFunc_api_Mark [(t 37), (t 38), (t 11), (t 39)],
   mv 12 (t 40)] [37, 38, 39, 40])
   (.seq (.ops [mv 41 (t 0),
   mv 42 (t 13),
   mv 43 (t 3),
   ca 44 F.slices_medianAdjacentCmpFunc_api_Mark [(t 41), (t 42), (t 11), (t 43)],
   mv 13 (t 44)] [41, 42, 43, 44])
   (.ops [mv 45 (t 0),
   mv 46 (t 14),
   mv 47 (t 3),
   ca 48 F.slices_medianAdjacentCmpFunc_api_Mark [(t 45), (t 46), (t 11), (t 47)],
   mv 14 (t 48)] [45, 46, 47, 48])))
   (.skip)))
  (.ops [mv 49 (t 0),
  mv 50 (t 12),
  mv 51 (t 13),
  mv 52 (t 14),
  mv 53 (t 3),
  ca 54 F.slices_medianCmpFunc_api_Mark [(t 49), (t 50), (t 51), (t 52), (t 11), (t 53)],
  mv 13 (t 54)] [0, 3, 12, 14, 49, 50, 51, 52, 53, 54]))
  (.skip)))
 (.seq (.ops [l1 55 (t 11)] [11])
 (.block 0 (.seq (.ops [o 58 (.ibin .eql (t 55) (k 0)),
 mv 57 (t 58)] [58])
 (.cond (t 57)
  (.seq (.ops [mv 59 (t 13),
  mv 8 (t 59),
  mv 9 (k 1)] [13, 59])
  (.ret))
  (.seq (.ops [o 61 (.ibin .eql (t 55) (k 12)),
  mv 60 (t 61)] [55, 61])
  (.cond (t 60)
   (.seq (.ops [mv 62 (t 13),
   mv 8 (t 62),
   mv 9 (k 2)] [13, 62])
   (.ret))
   (.seq (.ops [mv 56 (t 13),
   mv 8 (t 56),
   mv 9 (k 0)] [13, 56])
   (.ret))))))))))))))
def r_slices_choosePivotCmpFunc_api_Mark : List RRes := [.tmp 8, .tmp 9]
theorem fo_slices_choosePivotCmpFunc_api_Mark {args : List Value} {M : Mem} {R : Value → Mem → Prop} (hn : args.length ≤ 63) (h : vfn Tryz.prog c_slices_choosePivotCmpFunc_api_Mark r_slices_choosePivotCmpFunc_api_Mark args M R) : CallsM Tryz.prog F.slices_choosePivotCmpFunc_api_Mark args M R :=
  fn_ok (kf := k_slices_choosePivotCmpFunc_api_Mark) Tryz.func100 (by kernel_rfl) (by kernel_rfl) hn (by kernel_rfl) h
/-- slices.reverseRangeCmpFunc[portage/api.Mark] -/
def k_slices_reverseRangeCmpFunc_api_Mark (i : Nat) : List Nat := match i with | 0 => [1, 10] | 1 => [2, 11, 12] | 2 => [13, 14] | 3 => [16, 17, 18, 19, 20, 21, 22, 23, 24, 25, 26, 27, 28, 29] | 4 => [30, 31] | 5 => [32, 33] | _ => []
def c_slices_reverseRangeCmpFunc_api_Mark : RCode :=
 .seq (.ops [mv 10 (t 1),
 mv 8 (t 10)] [1, 10])
 (.seq (.ops [mv 11 (t 2),
 o 12 (.ibin .sub (t 11) (k 1)),
 mv 9 (t 12)] [2, 11, 12])
 (.block 0 (.loop (.seq (.seq (.ops [mv 13 (t 8),
  mv 14 (t 9),
  o 15 (.ibin .lss (t 13) (t 14))] [13, 14])
  (.cond (t 15)
   (.skip)
   (.exit 0)))
  (.block 1 (.seq (.draw (.take (mv 16 (t 0)) (.take (mv 17 (t 8)) (.take (mv 18 (t 0)) (.take (mv 19 (t 9)) (.take (mv 20 (t 0)) (.take (mv 21 (t 9)) (.take (o 22 (.iaddr 4 (t 20) (t 21))) (.take (la 23 4 (t 22)) (.take (mv 24 (t 0)) (.take (mv 25 (t 8)) (.take (o 26 (.iaddr 4 (t 24) (t 25))) (.take (la 27 4 (t 26)) (.take (o 28 (.iaddr 4 (t 16) (t 17))) (.alt (st 4 (t 28) (t 23)) false
   (.take (o 29 (.iaddr 4 (t 18) (t 19))) (.alt (st 4 (t 29) (t 27)) false
    (.done)
    (.none)))
   (.none))))))))))))))) [16, 17, 18, 19, 20, 21, 22, 23, 24, 25, 26, 27, 28, 29])
  (.seq (.ops [mv 30 (t 8),
  ad 31 (t 30) (k 1),
  mv 8 (t 31)] [30, 31])
  (.ops [mv 32 (t 9),
  o 33 (.ibin .sub (t 32) (k 1)),
  mv 9 (t 33)] [32, 33]))))))))
def r_slices_reverseRangeCmpFunc_api_Mark : List RRes := []
theorem fo_slices_reverseRangeCmpFunc_api_Mark {args : List Value} {M : Mem} {R : Value → Mem → Prop} (hn : args.length ≤ 34) (h : vfn Tryz.prog c_slices_reverseRangeCmpFunc_api_Mark r_slices_reverseRangeCmpFunc_api_Mark args M R) : CallsM Tryz.prog F.slices_reverseRangeCmpFunc_api_Mark args M R :=
  fn_ok (kf := k_slices_reverseRangeCmpFunc_api_Mark) Tryz.func101 (by kernel_rfl) (by kernel_rfl) hn (by kernel_rfl) h
/-- slices.partialInsertionSortCmpFunc[portage/api.Mark] -/
def k_slices_partialInsertionSortCmpFunc_api_Mark (i : Nat) : List Nat := match i with | 0 => [8] | 1 => [13, 14] | 3 => [15] | 5 => [19, 20, 21, 22, 23, 24, 25, 26, 27, 28, 29, 30, 31, 32, 33, 34, 35] | 6 => [37, 38] | 7 => [39, 40] | 9 => [42, 43, 44] | 11 => [46, 47, 48, 49, 50, 51, 52, 53, 54, 55, 56, 57, 58, 59, 60, 61] | 12 => [62, 63, 64] | 13 => [66, 67] | 14 => [68] | 16 => [72, 73, 74, 75, 76, 77, 78, 79, 80, 81, 82, 83] | 17 => [85, 86, 87, 88, 89, 90, 91, 92, 93, 94, 95, 96, 97, 98, 99, 100] | 15 => [70, 71] | 18 => [101, 102, 103] | 19 => [105, 106] | 20 => [107, 108] | 22 => [112, 113, 114, 115, 116, 117, 118, 119, 120, 121, 122, 123] | 23 => [125, 126, 127, 128, 129, 130, 131, 132, 133, 134, 135, 136, 137, 138, 139, 140] | 21 => [110, 111] | 4 => [17, 18] | _ => []
def c_slices_partialInsertionSortCmpFunc_api_Mark : RCode :=
 .seq (.ops [mv 8 (kb false)] [8])
 (.seq (.ops [mv 13 (t 1),
 ad 14 (t 13) (k 1),
 mv 9 (t 14)] [13, 14])
 (.seq (.seq (.ops [mv 10 (k 0)] [])
 (.block 0 (.loop (.seq (.seq (.ops [mv 15 (t 10),
  o 16 (.ibin .lss (t 15) (k 5))] [15])
  (.cond (t 16)
   (.skip)
   (.exit 0)))
  (.seq (.block 1 (.seq (.block 2 (.loop (.seq (.seq (.draw (.take (mv 19 (t 9)) (.take (mv 20 (t 2)) (.take (o 21 (.ibin .lss (t 19) (t 20))) (.take (os 22 (.mov (t 21))) (.take (gt 22 23 (.mov (t 3))) (.take (gt 22 24 (.mov (t 0))) (.take (gt 22 25 (.mov (t 9))) (.take (gt 22 26 (.iaddr 4 (t 24) (t 25))) (.take (gt 22 27 (.load true 4 (t 26))) (.take (gt 22 28 (.mov (t 0))) (.take (gt 22 29 (.mov (t 9))) (.take (gt 22 30 (.ibin .sub (t 29) (k 1))) (.take (gt 22 31 (.iaddr 4 (t 28) (t 30))) (.take (gt 22 32 (.load true 4 (t 31))) (.alt (gt 22 33 (.call (t 23) [(t 27), (t 32)])) false
    (.take (gt 22 34 (.ibin .lss (t 33) (k 0))) (.take (gt 22 35 (.not (t 34))) (.take (o 36 (.pick (t 22) (t 35) (kb false))) (.done))))
    (.none)))))))))))))))) [19, 20, 21, 22, 23, 24, 25, 26, 27, 28, 29, 30, 31, 32, 33, 34, 35])
   (.cond (t 36)
    (.skip)
    (.exit 2)))
   (.block 3 (.ops [mv 37 (t 9),
   ad 38 (t 37) (k 1),
   mv 9 (t 38)] [37, 38])))))
  (.seq (.seq (.ops [mv 39 (t 9),
  mv 40 (t 2),
  o 41 (.ibin .eql (t 39) (t 40))] [39, 40])
  (.cond (t 41)
   (.seq (.ops [mv 8 (kb true)] [])
   (.ret))
   (.skip)))
  (.seq (.seq (.ops [mv 42 (t 2),
  mv 43 (t 1),
  o 44 (.ibin .sub (t 42) (t 43)),
  o 45 (.ibin .lss (t 44) (k 50))] [42, 43, 44])
  (.cond (t 45)
   (.seq (.ops [mv 8 (kb false)] [])
   (.ret))
   (.skip)))
  (.seq (.draw (.take (mv 46 (t 0)) (.take (mv 47 (t 9)) (.take (mv 48 (t 0)) (.take (mv 49 (t 9)) (.take (o 50 (.ibin .sub (t 49) (k 1))) (.take (mv 51 (t 0)) (.take (mv 52 (t 9)) (.take (o 53 (.ibin .sub (t 52) (k 1))) (.take (o 54 (.iaddr 4 (t 51) (t 53))) (.take (la 55 4 (t 54)) (.take (mv 56 (t 0)) (.take (mv 57 (t 9)) (.take (o 58 (.iaddr 4 (t 56) (t 57))) (.take (la 59 4 (t 58)) (.take (o 60 (.iaddr 4 (t 46) (t 47))) (.alt (st 4 (t 60) (t 55)) false
   (.take (o 61 (.iaddr 4 (t 48) (t 50))) (.alt (st 4 (t 61) (t 59)) false
    (.done)
    (.none)))
   (.none))))))))))))))))) [46, 47, 48, 49, 50, 51, 52, 53, 54, 55, 56, 57, 58, 59, 60, 61])
  (.seq (.seq (.ops [mv 62 (t 9),
  mv 63 (t 1),
  o 64 (.ibin .sub (t 62) (t 63)),
  o 65 (.ibin .geq (t 64) (k 2))] [62, 63, 64])
  (.cond (t 65)
   (.seq (.ops [mv 66 (t 9),
   o 67 (.ibin .sub (t 66) (k 1)),
   mv 11 (t 67)] [66, 67])
   (.block 4 (.loop (.seq (.seq (.ops [mv 68 (t 11),
    o 69 (.ibin .geq (t 68) (k 1))] [68])
    (.cond (t 69)
     (.skip)
     (.exit 4)))
    (.seq (.block 5 (.seq (.seq (.draw (.take (mv 72 (t 3)) (.take (mv 73 (t 0)) (.take (mv 74 (t 11)) (.take (o 75 (.iaddr 4 (t 73) (t 74))) (.take (la 76 4 (t 75)) (.take (mv 77 (t 0)) (.take (mv 78 (t 11)) (.take (o 79 (.ibin .sub (t 78) (k 1))) (.take (o 80 (.iaddr 4 (t 77) (t 79))) (.take (la 81 4 (t 80)) (.alt (o 82 (.call (t 72) [(t 76), (t 81)])) false
     (.take (o 83 (.ibin .lss (t 82) (k 0))) (.take (o 84 (.not (t 83))) (.done)))
     (.none)))))))))))) [72, 73, 74, 75, 76, 77, 78, 79, 80, 81, 82, 83])
    (.cond (t 84)
     (.exit 4)
     (.skip)))
    (.draw (.take (mv 85 (t 0)) (.take (mv 86 (t 11)) (.take (mv 87 (t 0)) (.take (mv 88 (t 11)) (.take (o 89 (.ibin .sub (t 88) (k 1))) (.take (mv 90 (t 0)) (.take (mv 91 (t 11)) (.take (o 92 (.ibin .sub (t 91) (k 1))) (.take (o 93 (.iaddr 4 (t 90) (t 92))) (.take (la 94 4 (t 93)) (.take (mv 95 (t 0)) (.take (mv 96 (t 11)) (.take (o 97 (.iaddr 4 (t 95) (t 96))) (.take (la 98 4 (t 97)) (.take (o 99 (.iaddr 4 (t 85) (t 86))) (.alt (st 4 (t 99) (t 94)) false
     (.take (o 100 (.iaddr 4 (t 87) (t 89))) (.alt (st 4 (t 100) (t 98)) false
      (.done)
      (.none)))
     (.none))))))))))))))))) [85, 86, 87, 88, 89, 90, 91, 92, 93, 94, 95, 96, 97, 98, 99, 100])))
    (.ops [mv 70 (t 11),
    o 71 (.ibin .sub (t 70) (k 1)),
    mv 11 (t 71)] [70, 71]))))))
   (.skip)))
  (.seq (.ops [mv 101 (t 2),
  mv 102 (t 9),
  o 103 (.ibin .sub (t 101) (t 102)),
  o 104 (.ibin .geq (t 103) (k 2))] [101, 102, 103])
  (.cond (t 104)
   (.seq (.ops [mv 105 (t 9),
   ad 106 (t 105) (k 1),
   mv 12 (t 106)] [105, 106])
   (.block 6 (.loop (.seq (.seq (.ops [mv 107 (t 12),
    mv 108 (t 2),
    o 109 (.ibin .lss (t 107) (t 108))] [107, 108])
    (.cond (t 109)
     (.skip)
     (.exit 6)))
    (.seq (.block 7 (.seq (.seq (.draw (.take (mv 112 (t 3)) (.take (mv 113 (t 0)) (.take (mv 114 (t 12)) (.take (o 115 (.iaddr 4 (t 113) (t 114))) (.take (la 116 4 (t 115)) (.take (mv 117 (t 0)) (.take (mv 118 (t 12)) (.take (o 119 (.ibin .sub (t 118) (k 1))) (.take (o 120 (.iaddr 4 (t 117) (t 119))) (.take (la 121 4 (t 120)) (.alt (o 122 (.call (t 112) [(t 116), (t 121)])) false
     (.take (o 123 (.ibin .lss (t 122) (k 0))) (.take (o 124 (.not (t 123))) (.done)))
     (.none)))))))))))) [112, 113, 114, 115, 116, 117, 118, 119, 120, 121, 122, 123])
    (.cond (t 124)
     (.exit 6)
     (.skip)))
    (.draw (.take (mv 125 (t 0)) (.take (mv 126 (t 12)) (.take (mv 127 (t 0)) (.take (mv 128 (t 12)) (.take (o 129 (.ibin .sub (t 128) (k 1))) (.take (mv 130 (t 0)) (.take (mv 131 (t 12)) (.take (o 132 (.ibin .sub (t 131) (k 1))) (.take (o 133 (.iaddr 4 (t 130) (t 132))) (.take (la 134 4 (t 133)) (.take (mv 135 (t 0)) (.take (mv 136 (t 12)) (.take (o 137 (.iaddr 4 (t 135) (t 136))) (.take (la 138 4 (t 137)) (.take (o 139 (.iaddr 4 (t 125) (t 126))) (.alt (st 4 (t 139) (t 134)) false
     (.take (o 140 (.iaddr 4 (t 127) (t 129))) (.alt (st 4 (t 140) (t 138)) false
      (.done)
      (.none)))
     (.none))))))))))))))))) [125, 126, 127, 128, 129, 130, 131, 132, 133, 134, 135, 136, 137, 138, 139, 140])))
    (.ops [mv 110 (t 12),
    ad 111 (t 110) (k 1),
    mv 12 (t 111)] [110, 111]))))))
   (.skip)))))))))
  (.ops [mv 17 (t 10),
  ad 18 (t 17) (k 1),
  mv 10 (t 18)] [17, 18]))))))
 (.seq (.ops [mv 8 (kb false)] [])
 (.ret))))
def r_slices_partialInsertionSortCmpFunc_api_Mark : List RRes := [.tmp 8]
theorem fo_slices_partialInsertionSortCmpFunc_api_Mark {args : List Value} {M : Mem} {R : Value → Mem → Prop} (hn : args.length ≤ 141) (h : vfn Tryz.prog c_slices_partialInsertionSortCmpFunc_api_Mark r_slices_partialInsertionSortCmpFunc_api_Mark args M R) : CallsM Tryz.prog F.slices_partialInsertionSortCmpFunc_api_Mark args M R :=
  fn_ok (kf := k_slices_partialInsertionSortCmpFunc_api_Mark) Tryz.func102 (by kernel_rfl) (by kernel_rfl) hn (by kernel_rfl) h
/-- slices.partitionEqualCmpFunc[portage/api.Mark] -/
def k_slices_partitionEqualCmpFunc_api_Mark (i : Nat) : List Nat := match i with | 0 => [10] | 1 => [3, 13, 14, 15, 16, 17, 18, 19, 20, 21, 22, 23, 24, 25, 26] | 2 => [2, 27, 28, 29, 30] | 3 => [31, 32, 33, 34, 35, 36, 37, 38, 39, 40, 41, 42, 43, 44, 45, 46] | 4 => [48, 49] | 5 => [50, 51, 52, 53, 54, 55, 56, 57, 58, 59, 60, 61, 62, 63, 64] | 6 => [66, 67] | 7 => [68, 69] | 8 => [71, 72, 73, 74, 75, 76, 77, 78, 79, 80, 81, 82, 83, 84] | 9 => [85, 86] | 10 => [87, 88] | 11 => [11, 89] | _ => []
def c_slices_partitionEqualCmpFunc_api_Mark : RCode :=
 .seq (.ops [mv 10 (k 0)] [10])
 (.seq (.draw (.take (mv 13 (t 0)) (.take (mv 14 (t 1)) (.take (mv 15 (t 0)) (.take (mv 16 (t 3)) (.take (mv 17 (t 0)) (.take (mv 18 (t 3)) (.take (o 19 (.iaddr 4 (t 17) (t 18))) (.take (la 20 4 (t 19)) (.take (mv 21 (t 0)) (.take (mv 22 (t 1)) (.take (o 23 (.iaddr 4 (t 21) (t 22))) (.take (la 24 4 (t 23)) (.take (o 25 (.iaddr 4 (t 13) (t 14))) (.alt (st 4 (t 25) (t 20)) false
  (.take (o 26 (.iaddr 4 (t 15) (t 16))) (.alt (st 4 (t 26) (t 24)) false
   (.done)
   (.none)))
  (.none))))))))))))))) [3, 13, 14, 15, 16, 17, 18, 19, 20, 21, 22, 23, 24, 25, 26])
 (.seq (.ops [mv 27 (t 1),
 ad 28 (t 27) (k 1),
 mv 29 (t 2),
 o 30 (.ibin .sub (t 29) (k 1)),
 mv 11 (t 28),
 mv 12 (t 30)] [2, 27, 28, 29, 30])
 (.seq (.block 0 (.loop (.block 1 (.seq (.block 2 (.loop (.seq (.seq (.draw (.take (mv 31 (t 11)) (.take (mv 32 (t 12)) (.take (o 33 (.ibin .leq (t 31) (t 32))) (.take (os 34 (.mov (t 33))) (.take (gt 34 35 (.mov (t 4))) (.take (gt 34 36 (.mov (t 0))) (.take (gt 34 37 (.mov (t 1))) (.take (gt 34 38 (.iaddr 4 (t 36) (t 37))) (.take (gt 34 39 (.load true 4 (t 38))) (.take (gt 34 40 (.mov (t 0))) (.take (gt 34 41 (.mov (t 11))) (.take (gt 34 42 (.iaddr 4 (t 40) (t 41))) (.take (gt 34 43 (.load true 4 (t 42))) (.alt (gt 34 44 (.call (t 35) [(t 39), (t 43)])) false
    (.take (gt 34 45 (.ibin .lss (t 44) (k 0))) (.take (gt 34 46 (.not (t 45))) (.take (o 47 (.pick (t 34) (t 46) (kb false))) (.done))))
    (.none))))))))))))))) [31, 32, 33, 34, 35, 36, 37, 38, 39, 40, 41, 42, 43, 44, 45, 46])
   (.cond (t 47)
    (.skip)
    (.exit 2)))
   (.block 3 (.ops [mv 48 (t 11),
   ad 49 (t 48) (k 1),
   mv 11 (t 49)] [48, 49])))))
  (.seq (.block 4 (.loop (.seq (.seq (.draw (.take (mv 50 (t 11)) (.take (mv 51 (t 12)) (.take (o 52 (.ibin .leq (t 50) (t 51))) (.take (os 53 (.mov (t 52))) (.take (gt 53 54 (.mov (t 4))) (.take (gt 53 55 (.mov (t 0))) (.take (gt 53 56 (.mov (t 1))) (.take (gt 53 57 (.iaddr 4 (t 55) (t 56))) (.take (gt 53 58 (.load true 4 (t 57))) (.take (gt 53 59 (.mov (t 0))) (.take (gt 53 60 (.mov (t 12))) (.take (gt 53 61 (.iaddr 4 (t 59) (t 60))) (.take (gt 53 62 (.load true 4 (t 61))) (.alt (gt 53 63 (.call (t 54) [(t 58), (t 62)])) false
    (.take (gt 53 64 (.ibin .lss (t 63) (k 0))) (.take (o 65 (.pick (t 53) (t 64) (kb false))) (.done)))
    (.none))))))))))))))) [50, 51, 52, 53, 54, 55, 56, 57, 58, 59, 60, 61, 62, 63, 64])
   (.cond (t 65)
    (.skip)
    (.exit 4)))
   (.block 5 (.ops [mv 66 (t 12),
   o 67 (.ibin .sub (t 66) (k 1)),
   mv 12 (t 67)] [66, 67])))))
  (.seq (.seq (.ops [mv 68 (t 11),
  mv 69 (t 12),
  o 70 (.ibin .gtr (t 68) (t 69))] [68, 69])
  (.cond (t 70)
   (.exit 0)
   (.skip)))
  (.seq (.draw (.take (mv 71 (t 0)) (.take (mv 72 (t 11)) (.take (mv 73 (t 0)) (.take (mv 74 (t 12)) (.take (mv 75 (t 0)) (.take (mv 76 (t 12)) (.take (o 77 (.iaddr 4 (t 75) (t 76))) (.take (la 78 4 (t 77)) (.take (mv 79 (t 0)) (.take (mv 80 (t 11)) (.take (o 81 (.iaddr 4 (t 79) (t 80))) (.take (la 82 4 (t 81)) (.take (o 83 (.iaddr 4 (t 71) (t 72))) (.alt (st 4 (t 83) (t 78)) false
   (.take (o 84 (.iaddr 4 (t 73) (t 74))) (.alt (st 4 (t 84) (t 82)) false
    (.done)
    (.none)))
   (.none))))))))))))))) [71, 72, 73, 74, 75, 76, 77, 78, 79, 80, 81, 82, 83, 84])
  (.seq (.ops [mv 85 (t 11),
  ad 86 (t 85) (k 1),
  mv 11 (t 86)] [85, 86])
  (.ops [mv 87 (t 12),
  o 88 (.ibin .sub (t 87) (k 1)),
  mv 12 (t 88)] [87, 88])))))))))
 (.seq (.ops [mv 89 (t 11),
 mv 10 (t 89)] [11, 89])
 (.ret)))))
def r_slices_partitionEqualCmpFunc_api_Mark : List RRes := [.tmp 10]
theorem fo_slices_partitionEqualCmpFunc_api_Mark {args : List Value} {M : Mem} {R : Value → Mem → Prop} (hn : args.length ≤ 90) (h : vfn Tryz.prog c_slices_partitionEqualCmpFunc_api_Mark r_slices_partitionEqualCmpFunc_api_Mark args M R) : CallsM Tryz.prog F.slices_partitionEqualCmpFunc_api_Mark args M R :=
  fn_ok (kf := k_slices_partitionEqualCmpFunc_api_Mark) Tryz.func103 (by kernel_rfl) (by kernel_rfl) hn (by kernel_rfl) h
/-- slices.partitionCmpFunc[portage/api.Mark] -/
def k_slices_partitionCmpFunc_api_Mark (i : Nat) : List Nat := match i with | 0 => [10, 11] | 1 => [3, 14, 15, 16, 17, 18, 19, 20, 21, 22, 23, 24, 25, 26, 27] | 2 => [2, 28, 29, 30, 31] | 3 => [32, 33, 34, 35, 36, 37, 38, 39, 40, 41, 42, 43, 44, 45, 46] | 4 => [48, 49] | 5 => [50, 51, 52, 53, 54, 55, 56, 57, 58, 59, 60, 61, 62, 63, 64, 65] | 6 => [67, 68] | 7 => [69, 70] | 8 => [0, 1, 72, 73, 74, 75, 76, 77, 78, 79, 80, 81, 82, 83, 84, 85] | 9 => [13, 86] | 10 => [87, 88, 89, 90, 91, 92, 93, 94, 95, 96, 97, 98, 99, 100] | 11 => [101, 102] | 12 => [103, 104] | 13 => [105, 106, 107, 108, 109, 110, 111, 112, 113, 114, 115, 116, 117, 118, 119] | 14 => [121, 122] | 15 => [123, 124, 125, 126, 127, 128, 129, 130, 131, 132, 133, 134, 135, 136, 137, 138] | 16 => [140, 141] | 17 => [142, 143] | 18 => [145, 146, 147, 148, 149, 150, 151, 152, 153, 154, 155, 156, 157, 158] | 19 => [159, 160] | 20 => [161, 162] | 21 => [0, 1, 163, 164, 165, 166, 167, 168, 169, 170, 171, 172, 173, 174, 175, 176] | 22 => [13, 177] | _ => []
def c_slices_partitionCmpFunc_api_Mark : RCode :=
 .seq (.ops [mv 10 (k 0),
 mv 11 (kb false)] [10, 11])
 (.seq (.draw (.take (mv 14 (t 0)) (.take (mv 15 (t 1)) (.take (mv 16 (t 0)) (.take (mv 17 (t 3)) (.take (mv 18 (t 0)) (.take (mv 19 (t 3)) (.take (o 20 (.iaddr 4 (t 18) (t 19))) (.take (la 21 4 (t 20)) (.take (mv 22 (t 0)) (.take (mv 23 (t 1)) (.take (o 24 (.iaddr 4 (t 22) (t 23))) (.take (la 25 4 (t 24)) (.take (o 26 (.iaddr 4 (t 14) (t 15))) (.alt (st 4 (t 26) (t 21)) false
  (.take (o 27 (.iaddr 4 (t 16) (t 17))) (.alt (st 4 (t 27) (t 25)) false
   (.done)
   (.none)))
  (.none))))))))))))))) [3, 14, 15, 16, 17, 18, 19, 20, 21, 22, 23, 24, 25, 26, 27])
 (.seq (.ops [mv 28 (t 1),
 ad 29 (t 28) (k 1),
 mv 30 (t 2),
 o 31 (.ibin .sub (t 30) (k 1)),
 mv 12 (t 29),
 mv 13 (t 31)] [2, 28, 29, 30, 31])
 (.seq (.block 0 (.loop (.seq (.seq (.draw (.take (mv 32 (t 12)) (.take (mv 33 (t 13)) (.take (o 34 (.ibin .leq (t 32) (t 33))) (.take (os 35 (.mov (t 34))) (.take (gt 35 36 (.mov (t 4))) (.take (gt 35 37 (.mov (t 0))) (.take (gt 35 38 (.mov (t 12))) (.take (gt 35 39 (.iaddr 4 (t 37) (t 38))) (.take (gt 35 40 (.load true 4 (t 39))) (.take (gt 35 41 (.mov (t 0))) (.take (gt 35 42 (.mov (t 1))) (.take (gt 35 43 (.iaddr 4 (t 41) (t 42))) (.take (gt 35 44 (.load true 4 (t 43))) (.alt (gt 35 45 (.call (t 36) [(t 40), (t 44)])) false
   (.take (gt 35 46 (.ibin .lss (t 45) (k 0))) (.take (o 47 (.pick (t 35) (t 46) (kb false))) (.done)))
   (.none))))))))))))))) [32, 33, 34, 35, 36, 37, 38, 39, 40, 41, 42, 43, 44, 45, 46])
  (.cond (t 47)
   (.skip)
   (.exit 0)))
  (.block 1 (.ops [mv 48 (t 12),
  ad 49 (t 48) (k 1),
  mv 12 (t 49)] [48, 49])))))
 (.seq (.block 2 (.loop (.seq (.seq (.draw (.take (mv 50 (t 12)) (.take (mv 51 (t 13)) (.take (o 52 (.ibin .leq (t 50) (t 51))) (.take (os 53 (.mov (t 52))) (.take (gt 53 54 (.mov (t 4))) (.take (gt 53 55 (.mov (t 0))) (.take (gt 53 56 (.mov (t 13))) (.take (gt 53 57 (.iaddr 4 (t 55) (t 56))) (.take (gt 53 58 (.load true 4 (t 57))) (.take (gt 53 59 (.mov (t 0))) (.take (gt 53 60 (.mov (t 1))) (.take (gt 53 61 (.iaddr 4 (t 59) (t 60))) (.take (gt 53 62 (.load true 4 (t 61))) (.alt (gt 53 63 (.call (t 54) [(t 58), (t 62)])) false
   (.take (gt 53 64 (.ibin .lss (t 63) (k 0))) (.take (gt 53 65 (.not (t 64))) (.take (o 66 (.pick (t 53) (t 65) (kb false))) (.done))))
   (.none))))))))))))))) [50, 51, 52, 53, 54, 55, 56, 57, 58, 59, 60, 61, 62, 63, 64, 65])
  (.cond (t 66)
   (.skip)
   (.exit 2)))
  (.block 3 (.ops [mv 67 (t 13),
  o 68 (.ibin .sub (t 67) (k 1)),
  mv 13 (t 68)] [67, 68])))))
 (.seq (.seq (.ops [mv 69 (t 12),
 mv 70 (t 13),
 o 71 (.ibin .gtr (t 69) (t 70))] [69, 70])
 (.cond (t 71)
  (.seq (.draw (.take (mv 72 (t 0)) (.take (mv 73 (t 13)) (.take (mv 74 (t 0)) (.take (mv 75 (t 1)) (.take (mv 76 (t 0)) (.take (mv 77 (t 1)) (.take (o 78 (.iaddr 4 (t 76) (t 77))) (.take (la 79 4 (t 78)) (.take (mv 80 (t 0)) (.take (mv 81 (t 13)) (.take (o 82 (.iaddr 4 (t 80) (t 81))) (.take (la 83 4 (t 82)) (.take (o 84 (.iaddr 4 (t 72) (t 73))) (.alt (st 4 (t 84) (t 79)) false
   (.take (o 85 (.iaddr 4 (t 74) (t 75))) (.alt (st 4 (t 85) (t 83)) false
    (.done)
    (.none)))
   (.none))))))))))))))) [0, 1, 72, 73, 74, 75, 76, 77, 78, 79, 80, 81, 82, 83, 84, 85])
  (.seq (.ops [mv 86 (t 13),
  mv 10 (t 86),
  mv 11 (kb true)] [13, 86])
  (.ret)))
  (.skip)))
 (.seq (.draw (.take (mv 87 (t 0)) (.take (mv 88 (t 12)) (.take (mv 89 (t 0)) (.take (mv 90 (t 13)) (.take (mv 91 (t 0)) (.take (mv 92 (t 13)) (.take (o 93 (.iaddr 4 (t 91) (t 92))) (.take (la 94 4 (t 93)) (.take (mv 95 (t 0)) (.take (mv 96 (t 12)) (.take (o 97 (.iaddr 4 (t 95) (t 96))) (.take (la 98 4 (t 97)) (.take (o 99 (.iaddr 4 (t 87) (t 88))) (.alt (st 4 (t 99) (t 94)) false
  (.take (o 100 (.iaddr 4 (t 89) (t 90))) (.alt (st 4 (t 100) (t 98)) false
   (.done)
   (.none)))
  (.none))))))))))))))) [87, 88, 89, 90, 91, 92, 93, 94, 95, 96, 97, 98, 99, 100])
 (.seq (.ops [mv 101 (t 12),
 ad 102 (t 101) (k 1),
 mv 12 (t 102)] [101, 102])
 (.seq (.ops [mv 103 (t 13),
 o 104 (.ibin .sub (t 103) (k 1)),
 mv 13 (t 104)] [103, 104])
 (.seq (.block 4 (.loop (.block 5 (.seq (.block 6 (.loop (.seq (.seq (.draw (.take (mv 105 (t 12)) (.take (mv 106 (t 13)) (.take (o 107 (.ibin .leq (t 105) (t 106))) (.take (os 108 (.mov (t 107))) (.take (gt 108 109 (.mov (t 4))) (.take (gt 108 110 (.mov (t 0))) (.take (gt 108 111 (.mov (t 12))) (.take (gt 108 112 (.iaddr 4 (t 110) (t 111))) (.take (gt 108 113 (.load true 4 (t 112))) (.take (gt 108 114 (.mov (t 0))) (.take (gt 108 115 (.mov (t 1))) (.take (gt 108 116 (.iaddr 4 (t 114) (t 115))) (.take (gt 108 117 (.load true 4 (t 116))) (.alt (gt 108 118 (.call (t 109) [(t 113), (t 117)])) false
    (.take (gt 108 119 (.ibin .lss (t 118) (k 0))) (.take (o 120 (.pick (t 108) (t 119) (kb false))) (.done)))
    (.none))))))))))))))) [105, 106, 107, 108, 109, 110, 111, 112, 113, 114, 115, 116, 117, 118, 119])
   (.cond (t 120)
    (.skip)
    (.exit 6)))
   (.block 7 (.ops [mv 121 (t 12),
   ad 122 (t 121) (k 1),
   mv 12 (t 122)] [121, 122])))))
  (.seq (.block 8 (.loop (.seq (.seq (.draw (.take (mv 123 (t 12)) (.take (mv 124 (t 13)) (.take (o 125 (.ibin .leq (t 123) (t 124))) (.take (os 126 (.mov (t 125))) (.take (gt 126 127 (.mov (t 4))) (.take (gt 126 128 (.mov (t 0))) (.take (gt 126 129 (.mov (t 13))) (.take (gt 126 130 (.iaddr 4 (t 128) (t 129))) (.take (gt 126 131 (.load true 4 (t 130))) (.take (gt 126 132 (.mov (t 0))) (.take (gt 126 133 (.mov (t 1))) (.take (gt 126 134 (.iaddr 4 (t 132) (t 133))) (.take (gt 126 135 (.load true 4 (t 134))) (.alt (gt 126 136 (.call (t 127) [(t 131), (t 135)])) false
    (.take (gt 126 137 (.ibin .lss (t 136) (k 0))) (.take (gt 126 138 (.not (t 137))) (.take (o 139 (.pick (t 126) (t 138) (kb false))) (.done))))
    (.none))))))))))))))) [123, 124, 125, 126, 127, 128, 129, 130, 131, 132, 133, 134, 135, 136, 137, 138])
   (.cond (t 139)
    (.skip)
    (.exit 8)))
   (.block 9 (.ops [mv 140 (t 13),
   o 141 (.ibin .sub (t 140) (k 1)),
   mv 13 (t 141)] [140, 141])))))
  (.seq (.seq (.ops [mv 142 (t 12),
  mv 143 (t 13),
  o 144 (.ibin .gtr (t 142) (t 143))] [142, 143])
  (.cond (t 144)
   (.exit 4)
   (.skip)))
  (.seq (.draw (.take (mv 145 (t 0)) (.take (mv 146 (t 12)) (.take (mv 147 (t 0)) (.take (mv 148 (t 13)) (.take (mv 149 (t 0)) (.take (mv 150 (t 13)) (.take (o 151 (.iaddr 4 (t 149) (t 150))) (.take (la 152 4 (t 151)) (.take (mv 153 (t 0)) (.take (mv 154 (t 12)) (.take (o 155 (.iaddr 4 (t 153) (t 154))) (.take (la 156 4 (t 155)) (.take (o 157 (.iaddr 4 (t 145) (t 146))) (.alt (st 4 (t 157) (t 152)) false
   (.take (o 158 (.iaddr 4 (t 147) (t 148))) (.alt (st 4 (t 158) (t 156)) false
    (.done)
    (.none)))
   (.none))))))))))))))) [145, 146, 147, 148, 149, 150, 151, 152, 153, 154, 155, 156, 157, 158])
  (.seq (.ops [mv 159 (t 12),
  ad 160 (t 159) (k 1),
  mv 12 (t 160)] [159, 160])
  (.ops [mv 161 (t 13),
  o 162 (.ibin .sub (t 161) (k 1)),
  mv 13 (t 162)] [161, 162])))))))))
 (.seq (.draw (.take (mv 163 (t 0)) (.take (mv 164 (t 13)) (.take (mv 165 (t 0)) (.take (mv 166 (t 1)) (.take (mv 167 (t 0)) (.take (mv 168 (t 1)) (.take (o 169 (.iaddr 4 (t 167) (t 168))) (.take (la 170 4 (t 169)) (.take (mv 171 (t 0)) (.take (mv 172 (t 13)) (.take (o 173 (.iaddr 4 (t 171) (t 172))) (.take (la 174 4 (t 173)) (.take (o 175 (.iaddr 4 (t 163) (t 164))) (.alt (st 4 (t 175) (t 170)) false
  (.take (o 176 (.iaddr 4 (t 165) (t 166))) (.alt (st 4 (t 176) (t 174)) false
   (.done)
   (.none)))
  (.none))))))))))))))) [0, 1, 163, 164, 165, 166, 167, 168, 169, 170, 171, 172, 173, 174, 175, 176])
 (.seq (.ops [mv 177 (t 13),
 mv 10 (t 177),
 mv 11 (kb false)] [13, 177])
 (.ret))))))))))))
def r_slices_partitionCmpFunc_api_Mark : List RRes := [.tmp 10, .tmp 11]
theorem fo_slices_partitionCmpFunc_api_Mark {args : List Value} {M : Mem} {R : Value → Mem → Prop} (hn : args.length ≤ 178) (h : vfn Tryz.prog c_slices_partitionCmpFunc_api_Mark r_slices_partitionCmpFunc_api_Mark args M R) : CallsM Tryz.prog F.slices_partitionCmpFunc_api_Mark args M R :=
  fn_ok (kf := k_slices_partitionCmpFunc_api_Mark) Tryz.func104 (by kernel_rfl) (by kernel_rfl) hn (by kernel_rfl) h
/-- slices.Index[[]int,int] -/
def k_slices_Index_int_int (i : Nat) : List Nat := match i with | 0 => [4] | 1 => [6] | 3 => [10] | 4 => [11, 12, 13, 14, 15] | 5 => [5, 17] | 6 => [18] | _ => []
def c_slices_Index_int_int : RCode :=
 .seq (.ops [mv 4 (k 0)] [4])
 (.seq (.seq (.ops [mv 6 (t 0),
 o 7 (.len (t 6)),
 mv 8 (k 0)] [6])
 (.block 0 (.loop (.seq (.ops [o 9 (.ibin .lss (t 8) (t 7))] [])
  (.seq (.cond (t 9)
   (.skip)
   (.exit 0))
  (.seq (.block 1 (.seq (.ops [mv 10 (t 8),
  mv 5 (t 10)] [10])
  (.seq (.ops [mv 11 (t 1),
  mv 12 (t 0),
  mv 13 (t 5),
  o 14 (.iaddr 1 (t 12) (t 13)),
  l1 15 (t 14),
  o 16 (.ibin .eql (t 11) (t 15))] [11, 12, 13, 14, 15])
  (.cond (t 16)
   (.seq (.ops [mv 17 (t 5),
   mv 4 (t 17)] [5, 17])
   (.ret))
   (.skip)))))
  (.ops [ad 18 (t 8) (k 1),
  mv 8 (t 18)] [18])))))))
 (.seq (.ops [mv 4 (k (-1))] [])
 (.ret)))
def r_slices_Index_int_int : List RRes := [.tmp 4]
theorem fo_slices_Index_int_int {args : List Value} {M : Mem} {R : Value → Mem → Prop} (hn : args.length ≤ 19) (h : vfn Tryz.prog c_slices_Index_int_int r_slices_Index_int_int args M R) : CallsM Tryz.prog F.slices_Index_int_int args M R :=
  fn_ok (kf := k_slices_Index_int_int) Tryz.func105 (by kernel_rfl) (by kernel_rfl) hn (by kernel_rfl) h
/-- slices.Reverse[[]int,int] -/
def k_slices_Reverse_int_int (i : Nat) : List Nat := match i with | 0 => [4, 5, 6] | 1 => [7, 8] | 3 => [14, 15, 16, 17, 18, 19, 20, 21, 22, 23, 24, 25, 26, 27] | 2 => [10, 11, 12, 13] | _ => []
def c_slices_Reverse_int_int : RCode :=
 .seq (.ops [mv 4 (t 0),
 o 5 (.len (t 4)),
 o 6 (.ibin .sub (t 5) (k 1)),
 mv 2 (k 0),
 mv 3 (t 6)] [4, 5, 6])
 (.block 0 (.loop (.seq (.seq (.ops [mv 7 (t 2),
  mv 8 (t 3),
  o 9 (.ibin .lss (t 7) (t 8))] [7, 8])
  (.cond (t 9)
   (.skip)
   (.exit 0)))
  (.seq (.block 1 (.draw (.take (mv 14 (t 0)) (.take (mv 15 (t 2)) (.take (mv 16 (t 0)) (.take (mv 17 (t 3)) (.take (mv 18 (t 0)) (.take (mv 19 (t 3)) (.take (o 20 (.iaddr 1 (t 18) (t 19))) (.take (l1 21 (t 20)) (.take (mv 22 (t 0)) (.take (mv 23 (t 2)) (.take (o 24 (.iaddr 1 (t 22) (t 23))) (.take (l1 25 (t 24)) (.take (o 26 (.iaddr 1 (t 14) (t 15))) (.alt (st 1 (t 26) (t 21)) false
   (.take (o 27 (.iaddr 1 (t 16) (t 17))) (.alt (st 1 (t 27) (t 25)) false
    (.done)
    (.none)))
   (.none))))))))))))))) [14, 15, 16, 17, 18, 19, 20, 21, 22, 23, 24, 25, 26, 27]))
  (.ops [mv 10 (t 2),
  ad 11 (t 10) (k 1),
  mv 12 (t 3),
  o 13 (.ibin .sub (t 12) (k 1)),
  mv 2 (t 11),
  mv 3 (t 13)] [10, 11, 12, 13])))))
def r_slices_Reverse_int_int : List RRes := []
theorem fo_slices_Reverse_int_int {args : List Value} {M : Mem} {R : Value → Mem → Prop} (hn : args.length ≤ 28) (h : vfn Tryz.prog c_slices_Reverse_int_int r_slices_Reverse_int_int args M R) : CallsM Tryz.prog F.slices_Reverse_int_int args M R :=
  fn_ok (kf := k_slices_Reverse_int_int) Tryz.func106 (by kernel_rfl) (by kernel_rfl) hn (by kernel_rfl) h
/-- slices.order2CmpFunc[portage/store.place] -/
def k_slices_order2CmpFunc_store_place (i : Nat) : List Nat := match i with | 0 => [10, 11] | 1 => [0, 4, 12, 13, 14, 15, 16, 17, 18, 19, 20, 21] | 2 => [3, 23, 24, 25, 26, 27] | 3 => [1, 2, 28, 29] | 4 => [1, 2, 30, 31] | _ => []
def c_slices_order2CmpFunc_store_place : RCode :=
 .seq (.ops [mv 10 (k 0),
 mv 11 (k 0)] [10, 11])
 (.seq (.seq (.draw (.take (mv 12 (t 4)) (.take (mv 13 (t 0)) (.take (mv 14 (t 2)) (.take (o 15 (.iaddr 6 (t 13) (t 14))) (.take (la 16 6 (t 15)) (.take (mv 17 (t 0)) (.take (mv 18 (t 1)) (.take (o 19 (.iaddr 6 (t 17) (t 18))) (.take (la 20 6 (t 19)) (.alt (o 21 (.call (t 12) [(t 16), (t 20)])) false
  (.take (o 22 (.ibin .lss (t 21) (k 0))) (.done))
  (.none))))))))))) [0, 4, 12, 13, 14, 15, 16, 17, 18, 19, 20, 21])
 (.cond (t 22)
  (.seq (.ops [mv 23 (t 3),
  o 24 (.nilck (t 23)),
  l1 25 (t 24),
  ad 26 (t 25) (k 1),
  o 27 (.nilck (t 23)),
  st 1 (t 27) (t 26)] [3, 23, 24, 25, 26, 27])
  (.seq (.ops [mv 28 (t 2),
  mv 29 (t 1),
  mv 10 (t 28),
  mv 11 (t 29)] [1, 2, 28, 29])
  (.ret)))
  (.skip)))
 (.seq (.ops [mv 30 (t 1),
 mv 31 (t 2),
 mv 10 (t 30),
 mv 11 (t 31)] [1, 2, 30, 31])
 (.ret)))
def r_slices_order2CmpFunc_store_place : List RRes := [.tmp 10, .tmp 11]
theorem fo_slices_order2CmpFunc_store_place {args : List Value} {M : Mem} {R : Value → Mem → Prop} (hn : args.length ≤ 32) (h : vfn Tryz.prog c_slices_order2CmpFunc_store_place r_slices_order2CmpFunc_store_place args M R) : CallsM Tryz.prog F.slices_order2CmpFunc_store_place args M R :=
  fn_ok (kf := k_slices_order2CmpFunc_store_place) Tryz.func107 (by kernel_rfl) (by kernel_rfl) hn (by kernel_rfl) h
/-- slices.siftDownCmpFunc[portage/api.Mark] -/
def k_slices_siftDownCmpFunc_api_Mark (i : Nat) : List Nat := match i with | 0 => [1, 12] | 1 => [13, 14, 15] | 2 => [16, 17] | 3 => [19, 20, 21, 22, 23, 24, 25, 26, 27, 28, 29, 30, 31, 32, 33, 34, 35, 36, 37, 38, 39] | 4 => [41, 42] | 5 => [43, 44, 45, 46, 47, 48, 49, 50, 51, 52, 53, 54, 55, 56, 57] | 6 => [10, 59, 60, 61, 62, 63, 64, 65, 66, 67, 68, 69, 70, 71, 72, 73, 74, 75, 76, 77, 78, 79, 80] | 7 => [11, 81] | _ => []
def c_slices_siftDownCmpFunc_api_Mark : RCode :=
 .seq (.ops [mv 12 (t 1),
 mv 10 (t 12)] [1, 12])
 (.block 0 (.loop (.block 1 (.seq (.ops [mv 13 (t 10),
  o 14 (.ibin .mul (k 2) (t 13)),
  ad 15 (t 14) (k 1),
  mv 11 (t 15)] [13, 14, 15])
  (.seq (.seq (.ops [mv 16 (t 11),
  mv 17 (t 2),
  o 18 (.ibin .geq (t 16) (t 17))] [16, 17])
  (.cond (t 18)
   (.exit 0)
   (.skip)))
  (.seq (.seq (.draw (.take (mv 19 (t 11)) (.take (ad 20 (t 19) (k 1)) (.take (mv 21 (t 2)) (.take (o 22 (.ibin .lss (t 20) (t 21))) (.take (os 23 (.mov (t 22))) (.take (gt 23 24 (.mov (t 4))) (.take (gt 23 25 (.mov (t 0))) (.take (gt 23 26 (.mov (t 3))) (.take (gt 23 27 (.mov (t 11))) (.take (gt 23 28 (.ibin .add (t 26) (t 27))) (.take (gt 23 29 (.iaddr 4 (t 25) (t 28))) (.take (gt 23 30 (.load true 4 (t 29))) (.take (gt 23 31 (.mov (t 0))) (.take (gt 23 32 (.mov (t 3))) (.take (gt 23 33 (.mov (t 11))) (.take (gt 23 34 (.ibin .add (t 32) (t 33))) (.take (gt 23 35 (.ibin .add (t 34) (k 1))) (.take (gt 23 36 (.iaddr 4 (t 31) (t 35))) (.take (gt 23 37 (.load true 4 (t 36))) (.alt (gt 23 38 (.call (t 24) [(t 30), (t 37)])) false
   (.take (gt 23 39 (.ibin .lss (t 38) (k 0))) (.take (o 40 (.pick (t 23) (t 39) (kb false))) (.done)))
   (.none))))))))))))))))))))) [19, 20, 21, 22, 23, 24, 25, 26, 27, 28, 29, 30, 31, 32, 33, 34, 35, 36, 37, 38, 39])
  (.cond (t 40)
   (.ops [mv 41 (t 11),
   ad 42 (t 41) (k 1),
   mv 11 (t 42)] [41, 42])
   (.skip)))
  (.seq (.seq (.draw (.take (mv 43 (t 4)) (.take (mv 44 (t 0)) (.take (mv 45 (t 3)) (.take (mv 46 (t 10)) (.take (ad 47 (t 45) (t 46)) (.take (o 48 (.iaddr 4 (t 44) (t 47))) (.take (la 49 4 (t 48)) (.take (mv 50 (t 0)) (.take (mv 51 (t 3)) (.take (mv 52 (t 11)) (.take (ad 53 (t 51) (t 52)) (.take (o 54 (.iaddr 4 (t 50) (t 53))) (.take (la 55 4 (t 54)) (.alt (o 56 (.call (t 43) [(t 49), (t 55)])) false
   (.take (o 57 (.ibin .lss (t 56) (k 0))) (.take (o 58 (.not (t 57))) (.done)))
   (.none))))))))))))))) [43, 44, 45, 46, 47, 48, 49, 50, 51, 52, 53, 54, 55, 56, 57])
  (.cond (t 58)
   (.ret)
   (.skip)))
  (.seq (.draw (.take (mv 59 (t 0)) (.take (mv 60 (t 3)) (.take (mv 61 (t 10)) (.take (ad 62 (t 60) (t 61)) (.take (mv 63 (t 0)) (.take (mv 64 (t 3)) (.take (mv 65 (t 11)) (.take (ad 66 (t 64) (t 65)) (.take (mv 67 (t 0)) (.take (mv 68 (t 3)) (.take (mv 69 (t 11)) (.take (ad 70 (t 68) (t 69)) (.take (o 71 (.iaddr 4 (t 67) (t 70))) (.take (la 72 4 (t 71)) (.take (mv 73 (t 0)) (.take (mv 74 (t 3)) (.take (mv 75 (t 10)) (.take (ad 76 (t 74) (t 75)) (.take (o 77 (.iaddr 4 (t 73) (t 76))) (.take (la 78 4 (t 77)) (.take (o 79 (.iaddr 4 (t 59) (t 62))) (.alt (st 4 (t 79) (t 72)) false
   (.take (o 80 (.iaddr 4 (t 63) (t 66))) (.alt (st 4 (t 80) (t 78)) false
    (.done)
    (.none)))
   (.none))))))))))))))))))))))) [10, 59, 60, 61, 62, 63, 64, 65, 66, 67, 68, 69, 70, 71, 72, 73, 74, 75, 76, 77, 78, 79, 80])
  (.ops [mv 81 (t 11),
  mv 10 (t 81)] [11, 81])))))))))
def r_slices_siftDownCmpFunc_api_Mark : List RRes := []
theorem fo_slices_siftDownCmpFunc_api_Mark {args : List Value} {M : Mem} {R : Value → Mem → Prop} (hn : args.length ≤ 82) (h : vfn Tryz.prog c_slices_siftDownCmpFunc_api_Mark r_slices_siftDownCmpFunc_api_Mark args M R) : CallsM Tryz.prog F.slices_siftDownCmpFunc_api_Mark args M R :=
  fn_ok (kf := k_slices_siftDownCmpFunc_api_Mark) Tryz.func108 (by kernel_rfl) (by kernel_rfl) hn (by kernel_rfl) h
/-- slices.medianAdjacentCmpFunc[portage/api.Mark] -/
def k_slices_medianAdjacentCmpFunc_api_Mark (i : Nat) : List Nat := match i with | 0 => [8] | 1 => [0, 1, 2, 3, 9, 10, 11, 12, 13, 14, 15, 16, 17] | _ => []
def c_slices_medianAdjacentCmpFunc_api_Mark : RCode :=
 .seq (.ops [mv 8 (k 0)] [8])
 (.seq (.ops [mv 9 (t 0),
 mv 10 (t 1),
 o 11 (.ibin .sub (t 10) (k 1)),
 mv 12 (t 1),
 mv 13 (t 1),
 ad 14 (t 13) (k 1),
 mv 15 (t 2),
 mv 16 (t 3),
 ca 17 F.slices_medianCmpFunc_api_Mark [(t 9), (t 11), (t 12), (t 14), (t 15), (t 16)],
 mv 8 (t 17)] [0, 1, 2, 3, 9, 10, 11, 12, 13, 14, 15, 16, 17])
 (.ret))
def r_slices_medianAdjacentCmpFunc_api_Mark : List RRes := [.tmp 8]
theorem fo_slices_medianAdjacentCmpFunc_api_Mark {args : List Value} {M : Mem} {R : Value → Mem → Prop} (hn : args.length ≤ 18) (h : vfn Tryz.prog c_slices_medianAdjacentCmpFunc_api_Mark r_slices_medianAdjacentCmpFunc_api_Mark args M R) : CallsM Tryz.prog F.slices_medianAdjacentCmpFunc_api_Mark args M R :=
  fn_ok (kf := k_slices_medianAdjacentCmpFunc_api_Mark) Tryz.func109 (by kernel_rfl) (by kernel_rfl) hn (by kernel_rfl) h
/-- slices.medianCmpFunc[portage/api.Mark] -/
def k_slices_medianCmpFunc_api_Mark (i : Nat) : List Nat := match i with | 0 => [12] | 1 => [13, 14, 15, 16, 17, 18, 19, 20, 21] | 2 => [3, 22, 23, 24, 25, 26, 27, 28, 29, 30] | 3 => [0, 1, 4, 5, 31, 32, 33, 34, 35, 36, 37, 38, 39] | 4 => [2, 40] | _ => []
def c_slices_medianCmpFunc_api_Mark : RCode :=
 .seq (.ops [mv 12 (k 0)] [12])
 (.seq (.ops [mv 14 (t 0),
 mv 15 (t 1),
 mv 16 (t 2),
 mv 17 (t 4),
 mv 18 (t 5),
 ca 19 F.slices_order2CmpFunc_api_Mark [(t 14), (t 15), (t 16), (t 17), (t 18)],
 mv 13 (t 19),
 ex 20 (t 13) 0,
 ex 21 (t 13) 1,
 mv 1 (t 20),
 mv 2 (t 21)] [13, 14, 15, 16, 17, 18, 19, 20, 21])
 (.seq (.ops [mv 23 (t 0),
 mv 24 (t 2),
 mv 25 (t 3),
 mv 26 (t 4),
 mv 27 (t 5),
 ca 28 F.slices_order2CmpFunc_api_Mark [(t 23), (t 24), (t 25), (t 26), (t 27)],
 mv 22 (t 28),
 ex 29 (t 22) 0,
 ex 30 (t 22) 1,
 mv 2 (t 29),
 mv 3 (t 30)] [3, 22, 23, 24, 25, 26, 27, 28, 29, 30])
 (.seq (.ops [mv 32 (t 0),
 mv 33 (t 1),
 mv 34 (t 2),
 mv 35 (t 4),
 mv 36 (t 5),
 ca 37 F.slices_order2CmpFunc_api_Mark [(t 32), (t 33), (t 34), (t 35), (t 36)],
 mv 31 (t 37),
 ex 38 (t 31) 0,
 ex 39 (t 31) 1,
 mv 1 (t 38),
 mv 2 (t 39)] [0, 1, 4, 5, 31, 32, 33, 34, 35, 36, 37, 38, 39])
 (.seq (.ops [mv 40 (t 2),
 mv 12 (t 40)] [2, 40])
 (.ret)))))
def r_slices_medianCmpFunc_api_Mark : List RRes := [.tmp 12]
theorem fo_slices_medianCmpFunc_api_Mark {args : List Value} {M : Mem} {R : Value → Mem → Prop} (hn : args.length ≤ 41) (h : vfn Tryz.prog c_slices_medianCmpFunc_api_Mark r_slices_medianCmpFunc_api_Mark args M R) : CallsM Tryz.prog F.slices_medianCmpFunc_api_Mark args M R :=
  fn_ok (kf := k_slices_medianCmpFunc_api_Mark) Tryz.func110 (by kernel_rfl) (by kernel_rfl) hn (by kernel_rfl) h

end Go.Proofs.YtlocjjponfbhmaaGreat

