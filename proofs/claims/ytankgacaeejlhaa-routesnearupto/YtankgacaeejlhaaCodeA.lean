/- The resolved texts of the functions; made by program. -/
import Derived.Test.YtankgacaeejlhaaNames
namespace Go.Proofs.Ytankgacaeejlhaa
open Go.Vm Go.Vm.S
/-- portage/portagelaw18.RoutesFind -/
def k_law18_RoutesFind (i : Nat) : List Nat := match i with | 0 => [0, 4] | 1 => [16, 17] | 2 => [18, 19] | 4 => [21, 22] | 6 => [23, 24, 25, 26, 27, 28, 29] | 8 => [33, 34, 35, 36, 37] | 9 => [39, 40, 41, 42, 43, 44, 45, 46, 47, 48, 49, 50, 51, 52, 53, 54, 55, 56, 57, 58, 59, 60, 61, 62] | 7 => [31, 32] | 11 => [63] | 13 => [67, 68, 69] | 12 => [65, 66] | 15 => [70, 71] | 17 => [75, 76, 77, 78] | 19 => [79, 80] | 21 => [84, 85, 86, 87, 88, 89, 90, 91, 92, 93] | 23 => [95] | 25 => [96, 97] | 27 => [101, 102, 103, 104, 105, 106, 107, 108, 109] | 28 => [12, 15, 110, 111, 112, 113, 114, 115, 116, 117, 118, 119, 120, 121, 122, 123, 124, 125, 126, 127, 128, 129, 130, 131, 132, 133, 134] | 30 => [14, 136] | 26 => [99, 100] | 20 => [82, 83] | 31 => [137, 138, 139, 140, 141, 142, 143, 144, 145, 146] | 16 => [73, 74] | 33 => [148] | _ => []
def c_law18_RoutesFind : RCode :=
 .seq (.ops [o 2 (.box 24 (t 0)),
 mv 4 (kb false)] [0, 4])
 (.seq (.ops [la 16 2 (t 2),
 ca 17 F.law18_tables [(t 16)],
 mv 5 (t 17)] [16, 17])
 (.seq (.seq (.ops [mv 18 (t 5),
 o 19 (.len (t 18)),
 o 20 (.ibin .eql (t 19) (k 0))] [18, 19])
 (.cond (t 20)
  (.seq (.ops [mv 4 (kb false)] [])
  (.ret))
  (.skip)))
 (.seq (.ops [mv 21 (t 5),
 o 22 (.len (t 21)),
 mv 6 (t 22)] [21, 22])
 (.seq (.seq (.ops [mv 7 (k 0)] [])
 (.block 0 (.loop (.seq (.seq (.ops [mv 23 (t 7),
  mv 24 (t 1),
  o 25 (.len (t 24)),
  o 26 (.ibin .lss (t 23) (t 25)),
  os 27 (.mov (t 26)),
  gt 27 28 (.mov (t 7)),
  gt 27 29 (.ibin .lss (t 28) (k 60)),
  o 30 (.pick (t 27) (t 29) (kb false))] [23, 24, 25, 26, 27, 28, 29])
  (.cond (t 30)
   (.skip)
   (.exit 0)))
  (.seq (.block 1 (.seq (.ops [mv 33 (t 1),
  mv 34 (t 7),
  o 35 (.iaddr 4 (t 33) (t 34)),
  fa 36 0 (t 35),
  l1 37 (t 36),
  o 38 (.ibin .eql (t 37) (k 1))] [33, 34, 35, 36, 37])
  (.cond (t 38)
   (.draw (.take (mv 39 (t 5)) (.take (mv 40 (t 1)) (.take (mv 41 (t 7)) (.take (o 42 (.iaddr 4 (t 40) (t 41))) (.take (fa 43 1 (t 42)) (.take (l1 44 (t 43)) (.take (o 45 (.conv .u64 (t 44))) (.take (mv 46 (t 6)) (.take (o 47 (.conv .u64 (t 46))) (.take (o 48 (.ibin .rem (t 45) (t 47))) (.take (o 49 (.conv .i64 (t 48))) (.take (o 50 (.iaddr 1 (t 39) (t 49))) (.take (l1 51 (t 50)) (.take (mv 52 (t 1)) (.take (mv 53 (t 7)) (.take (o 54 (.iaddr 4 (t 52) (t 53))) (.take (fa 55 2 (t 54)) (.take (l1 56 (t 55)) (.take (mv 57 (t 1)) (.take (mv 58 (t 7)) (.take (o 59 (.iaddr 4 (t 57) (t 58))) (.take (fa 60 3 (t 59)) (.take (l1 61 (t 60)) (.alt (ca 62 F.routes_Table_Hear [(t 51), (t 56), (t 61)]) true
    (.done)
    (.none))))))))))))))))))))))))) [39, 40, 41, 42, 43, 44, 45, 46, 47, 48, 49, 50, 51, 52, 53, 54, 55, 56, 57, 58, 59, 60, 61, 62])
   (.skip))))
  (.ops [mv 31 (t 7),
  ad 32 (t 31) (k 1),
  mv 7 (t 32)] [31, 32]))))))
 (.seq (.seq (.ops [mv 8 (k 0)] [])
 (.block 2 (.loop (.seq (.seq (.ops [mv 63 (t 8),
  o 64 (.ibin .lss (t 63) (k 24))] [63])
  (.cond (t 64)
   (.skip)
   (.exit 2)))
  (.seq (.block 3 (.ops [la 67 2 (t 2),
  mv 68 (t 5),
  ca 69 F.law18_tell [(t 67), (t 68)]] [67, 68, 69]))
  (.ops [mv 65 (t 8),
  ad 66 (t 65) (k 1),
  mv 8 (t 66)] [65, 66]))))))
 (.seq (.seq (.ops [mv 9 (k 0)] [])
 (.block 4 (.loop (.seq (.seq (.ops [mv 70 (t 9),
  mv 71 (t 6),
  o 72 (.ibin .lss (t 70) (t 71))] [70, 71])
  (.cond (t 72)
   (.skip)
   (.exit 4)))
  (.seq (.block 5 (.seq (.ops [la 75 2 (t 2),
  mv 76 (t 6),
  mv 77 (t 9),
  ca 78 F.law18_lengths [(t 75), (t 76), (t 77)],
  mv 10 (t 78)] [75, 76, 77, 78])
  (.seq (.seq (.ops [mv 11 (k 0)] [])
  (.block 6 (.loop (.seq (.seq (.ops [mv 79 (t 11),
   mv 80 (t 6),
   o 81 (.ibin .lss (t 79) (t 80))] [79, 80])
   (.cond (t 81)
    (.skip)
    (.exit 6)))
   (.seq (.block 7 (.seq (.seq (.draw (.take (mv 84 (t 5)) (.take (mv 85 (t 9)) (.take (o 86 (.iaddr 1 (t 84) (t 85))) (.take (l1 87 (t 86)) (.take (mv 88 (t 11)) (.take (mv 90 (t 10)) (.take (mv 91 (t 11)) (.take (o 92 (.iaddr 1 (t 90) (t 91))) (.take (l1 93 (t 92)) (.alt (ca 89 F.routes_Table_Cost [(t 87), (t 88)]) true
    (.take (o 94 (.ibin .neq (t 89) (t 93))) (.done))
    (.none))))))))))) [84, 85, 86, 87, 88, 89, 90, 91, 92, 93])
   (.cond (t 94)
    (.seq (.ops [mv 4 (kb false)] [])
    (.ret))
    (.skip)))
   (.seq (.ops [mv 95 (t 9),
   mv 12 (t 95)] [95])
   (.seq (.ops [mv 13 (k 0)] [])
   (.block 8 (.loop (.seq (.seq (.ops [mv 96 (t 12),
    mv 97 (t 11),
    o 98 (.ibin .neq (t 96) (t 97))] [96, 97])
    (.cond (t 98)
     (.skip)
     (.exit 8)))
    (.seq (.block 9 (.seq (.ops [mv 102 (t 5),
    mv 103 (t 12),
    o 104 (.iaddr 1 (t 102) (t 103)),
    l1 105 (t 104),
    mv 106 (t 11),
    ca 107 F.routes_Table_Next [(t 105), (t 106)],
    mv 101 (t 107),
    ex 108 (t 101) 0,
    ex 109 (t 101) 1,
    mv 14 (t 108),
    mv 15 (t 109)] [101, 102, 103, 104, 105, 106, 107, 108, 109])
    (.seq (.seq (.ops [mv 110 (t 15),
    o 111 (.not (t 110)),
    os 112 (.mov (t 111)),
    gf 112 113 (.mov (t 13)),
    gf 112 114 (.mov (t 10)),
    gf 112 115 (.mov (t 11)),
    gf 112 116 (.iaddr 1 (t 114) (t 115)),
    gf 112 117 (.load false 1 (t 116)),
    gf 112 118 (.ibin .geq (t 113) (t 117)),
    o 119 (.pick (t 112) (kb true) (t 118)),
    os 120 (.mov (t 119)),
    gf 120 121 (.mov (t 14)),
    gf 120 122 (.ibin .lss (t 121) (k 0)),
    o 123 (.pick (t 120) (kb true) (t 122)),
    os 124 (.mov (t 123)),
    gf 124 125 (.mov (t 14)),
    gf 124 126 (.mov (t 6)),
    gf 124 127 (.ibin .geq (t 125) (t 126)),
    o 128 (.pick (t 124) (kb true) (t 127)),
    os 129 (.mov (t 128)),
    gf 129 130 (.load true 2 (t 2)),
    gf 129 131 (.mov (t 12)),
    gf 129 132 (.mov (t 14)),
    gf 129 133 (.call (fn F.law18_linked) [(t 130), (t 131), (t 132)]),
    gf 129 134 (.not (t 133)),
    o 135 (.pick (t 129) (kb true) (t 134))] [12, 15, 110, 111, 112, 113, 114, 115, 116, 117, 118, 119, 120, 121, 122, 123, 124, 125, 126, 127, 128, 129, 130, 131, 132, 133, 134])
    (.cond (t 135)
     (.seq (.ops [mv 4 (kb false)] [])
     (.ret))
     (.skip)))
    (.ops [mv 136 (t 14),
    mv 12 (t 136)] [14, 136]))))
    (.ops [mv 99 (t 13),
    ad 100 (t 99) (k 1),
    mv 13 (t 100)] [99, 100])))))))))
   (.ops [mv 82 (t 11),
   ad 83 (t 82) (k 1),
   mv 11 (t 83)] [82, 83]))))))
  (.seq (.ops [mv 137 (t 5),
  mv 138 (t 9),
  o 139 (.iaddr 1 (t 137) (t 138)),
  l1 140 (t 139),
  mv 141 (t 6),
  ca 142 F.routes_Table_Cost [(t 140), (t 141)],
  o 143 (.ibin .neq (t 142) (k 16)),
  os 144 (.mov (t 143)),
  gt 144 145 (.mov (t 6)),
  gt 144 146 (.ibin .lss (t 145) (k 64)),
  o 147 (.pick (t 144) (t 146) (kb false))] [137, 138, 139, 140, 141, 142, 143, 144, 145, 146])
  (.cond (t 147)
   (.seq (.ops [mv 4 (kb false)] [])
   (.ret))
   (.skip))))))
  (.ops [mv 73 (t 9),
  ad 74 (t 73) (k 1),
  mv 9 (t 74)] [73, 74]))))))
 (.seq (.ops [ca 148 F.law18_awake [],
 mv 4 (t 148)] [148])
 (.ret))))))))
def r_law18_RoutesFind : List RRes := [.tmp 4]
theorem fo_law18_RoutesFind {args : List Value} {M : Mem} {R : Value → Mem → Prop} (hn : args.length ≤ 149) (h : vfn Try.prog c_law18_RoutesFind r_law18_RoutesFind args M R) : CallsM Try.prog F.law18_RoutesFind args M R :=
  fn_ok (kf := k_law18_RoutesFind) Try.func3 (by kernel_rfl) (by kernel_rfl) hn (by kernel_rfl) h
/-- portage/portagelaw18.RoutesNear -/
def k_law18_RoutesNear (i : Nat) : List Nat := match i with | 0 => [0, 4] | 1 => [15, 16, 17, 18, 19, 20, 21, 22, 23, 24] | 2 => [25, 26, 27, 28, 29] | 3 => [2, 7, 31, 32, 33, 34, 35, 36, 37, 38, 39, 40] | 4 => [5, 6, 8, 41, 42, 43, 44, 45, 46, 47, 48, 49, 50] | 5 => [51] | 7 => [52, 53, 54, 55, 56, 57, 58] | 9 => [62, 63, 64, 65, 66, 67, 68, 69, 70, 71, 72, 73, 74, 75, 76, 77, 78, 79, 80, 81] | 10 => [83, 84, 85, 86, 87, 88, 89, 90, 91, 92, 93, 94] | 11 => [95, 96, 97, 98, 99] | 12 => [101, 102] | 8 => [60, 61] | 14 => [103] | 16 => [107, 108, 109, 110, 111, 112] | 17 => [113, 114, 115] | 18 => [12, 116, 117, 118, 119, 120, 121, 122, 123, 124, 125, 126, 127, 128, 129, 130, 131, 132, 133, 134, 135, 136, 137, 138, 139] | 20 => [13, 14, 141, 142, 143, 144, 145, 146, 147, 148, 149, 150, 151] | 15 => [105, 106] | 22 => [153] | _ => []
def c_law18_RoutesNear : RCode :=
 .seq (.ops [o 2 (.box 44 (t 0)),
 mv 4 (kb false)] [0, 4])
 (.seq (.ops [fa 16 0 (t 2),
 l1 17 (t 16),
 fa 18 1 (t 2),
 l1 19 (t 18),
 fa 20 2 (t 2),
 l1 21 (t 20),
 ca 22 F.routes_New [(t 17), (t 19), (t 21)],
 mv 15 (t 22),
 ex 23 (t 15) 0,
 ex 24 (t 15) 1,
 mv 5 (t 23),
 mv 6 (t 24)] [15, 16, 17, 18, 19, 20, 21, 22, 23, 24])
 (.seq (.seq (.ops [mv 25 (t 6),
 o 26 (.ibin .neq (t 25) (k 0)),
 os 27 (.mov (t 26)),
 gf 27 28 (.mov (t 5)),
 gf 27 29 (.pnil .eql (t 28) (.const (.pointer none))),
 o 30 (.pick (t 27) (kb true) (t 29))] [25, 26, 27, 28, 29])
 (.cond (t 30)
  (.seq (.ops [fa 32 0 (t 2),
  l1 33 (t 32),
  fa 34 1 (t 2),
  l1 35 (t 34),
  fa 36 2 (t 2),
  l1 37 (t 36),
  ca 38 F.ref18_New [(t 33), (t 35), (t 37)],
  mv 31 (t 38),
  ex 39 (t 31) 0,
  ex 40 (t 31) 1,
  o 7 (.alloc 50 [(i 0), (i 0), sn, sn, sn]),
  st 5 (t 7) (t 39),
  mv 8 (t 40)] [2, 7, 31, 32, 33, 34, 35, 36, 37, 38, 39, 40])
  (.seq (.ops [mv 41 (t 5),
  o 42 (.pnil .eql (t 41) (.const (.pointer none))),
  os 43 (.mov (t 42)),
  gt 43 44 (.mov (t 6)),
  gt 43 45 (.mov (t 8)),
  gt 43 46 (.ibin .eql (t 44) (t 45)),
  o 47 (.pick (t 43) (t 46) (kb false)),
  os 48 (.mov (t 47)),
  gt 48 49 (.call (fn F.law18_awake) []),
  o 50 (.pick (t 48) (t 49) (kb false)),
  mv 4 (t 50)] [5, 6, 8, 41, 42, 43, 44, 45, 46, 47, 48, 49, 50])
  (.ret)))
  (.skip)))
 (.seq (.ops [o 51 (.mkSlN 28 24 [sn] (k 64) (k 64)),
 mv 9 (t 51)] [51])
 (.seq (.seq (.ops [mv 10 (k 0)] [])
 (.block 0 (.loop (.seq (.seq (.ops [mv 52 (t 10),
  mv 53 (t 1),
  o 54 (.len (t 53)),
  o 55 (.ibin .lss (t 52) (t 54)),
  os 56 (.mov (t 55)),
  gt 56 57 (.mov (t 10)),
  gt 56 58 (.ibin .lss (t 57) (k 40)),
  o 59 (.pick (t 56) (t 58) (kb false))] [52, 53, 54, 55, 56, 57, 58])
  (.cond (t 59)
   (.skip)
   (.exit 0)))
  (.seq (.block 1 (.seq (.seq (.draw (.take (mv 62 (t 1)) (.take (mv 63 (t 10)) (.take (o 64 (.iaddr 4 (t 62) (t 63))) (.take (fa 65 0 (t 64)) (.take (l1 66 (t 65)) (.take (o 67 (.ibin .eql (t 66) (k 1))) (.take (os 68 (.mov (t 67))) (.take (gt 68 69 (.mov (t 5))) (.take (gt 68 70 (.mov (t 1))) (.take (gt 68 71 (.mov (t 10))) (.take (gt 68 72 (.iaddr 4 (t 70) (t 71))) (.take (gt 68 73 (.faddr 2 (t 72))) (.take (gt 68 74 (.load false 1 (t 73))) (.take (gt 68 75 (.mov (t 1))) (.take (gt 68 76 (.mov (t 10))) (.take (gt 68 77 (.iaddr 4 (t 75) (t 76))) (.take (gt 68 78 (.faddr 3 (t 77))) (.take (gt 68 79 (.load false 1 (t 78))) (.alt (gt 68 80 (.call (fn F.routes_Table_Hear) [(t 69), (t 74), (t 79)])) false
   (.take (gt 68 81 (.ibin .eql (t 80) (k 0))) (.take (o 82 (.pick (t 68) (t 81) (kb false))) (.done)))
   (.none)))))))))))))))))))) [62, 63, 64, 65, 66, 67, 68, 69, 70, 71, 72, 73, 74, 75, 76, 77, 78, 79, 80, 81])
  (.cond (t 82)
   (.draw (.take (mv 83 (t 9)) (.take (mv 84 (t 1)) (.take (mv 85 (t 10)) (.take (o 86 (.iaddr 4 (t 84) (t 85))) (.take (fa 87 2 (t 86)) (.take (l1 88 (t 87)) (.take (mv 89 (t 1)) (.take (mv 90 (t 10)) (.take (o 91 (.iaddr 4 (t 89) (t 90))) (.take (fa 92 3 (t 91)) (.take (l1 93 (t 92)) (.take (o 94 (.iaddr 1 (t 83) (t 88))) (.alt (st 1 (t 94) (t 93)) false
    (.done)
    (.none)))))))))))))) [83, 84, 85, 86, 87, 88, 89, 90, 91, 92, 93, 94])
   (.skip)))
  (.seq (.ops [mv 95 (t 1),
  mv 96 (t 10),
  o 97 (.iaddr 4 (t 95) (t 96)),
  fa 98 0 (t 97),
  l1 99 (t 98),
  o 100 (.ibin .eql (t 99) (k 2))] [95, 96, 97, 98, 99])
  (.cond (t 100)
   (.ops [mv 101 (t 5),
   ca 102 F.routes_Table_Tick [(t 101)]] [101, 102])
   (.skip)))))
  (.ops [mv 60 (t 10),
  ad 61 (t 60) (k 1),
  mv 10 (t 61)] [60, 61]))))))
 (.seq (.seq (.ops [mv 11 (k 0)] [])
 (.block 2 (.loop (.seq (.seq (.ops [mv 103 (t 11),
  o 104 (.ibin .lss (t 103) (k 64))] [103])
  (.cond (t 104)
   (.skip)
   (.exit 2)))
  (.seq (.block 3 (.seq (.ops [mv 108 (t 5),
  mv 109 (t 11),
  ca 110 F.routes_Table_Next [(t 108), (t 109)],
  mv 107 (t 110),
  ex 111 (t 107) 0,
  ex 112 (t 107) 1,
  mv 12 (t 111),
  mv 13 (t 112)] [107, 108, 109, 110, 111, 112])
  (.seq (.ops [mv 113 (t 5),
  mv 114 (t 11),
  ca 115 F.routes_Table_Cost [(t 113), (t 114)],
  mv 14 (t 115)] [113, 114, 115])
  (.seq (.seq (.ops [mv 116 (t 13),
  os 117 (.mov (t 116)),
  gt 117 118 (.mov (t 9)),
  gt 117 119 (.mov (t 12)),
  gt 117 120 (.iaddr 1 (t 118) (t 119)),
  gt 117 121 (.load false 1 (t 120)),
  gt 117 122 (.len (t 121)),
  gt 117 123 (.ibin .neq (t 122) (k 64)),
  ⟨(some 124), .mov (t 123), some (117, true), true⟩,
  gf 124 125 (.mov (t 9)),
  gf 124 126 (.mov (t 12)),
  gf 124 127 (.iaddr 1 (t 125) (t 126)),
  gf 124 128 (.load false 1 (t 127)),
  gf 124 129 (.mov (t 11)),
  gf 124 130 (.iaddr 1 (t 128) (t 129)),
  gf 124 131 (.load false 1 (t 130)),
  gf 124 132 (.ibin .add (t 131) (k 1)),
  gf 124 133 (.mov (t 14)),
  gf 124 134 (.ibin .neq (t 132) (t 133)),
  gt 117 135 (.pick (t 124) (kb true) (t 134)),
  ⟨(some 136), .mov (t 135), some (117, true), true⟩,
  gf 136 137 (.mov (t 14)),
  gf 136 138 (.ibin .geq (t 137) (k 16)),
  gt 117 139 (.pick (t 136) (kb true) (t 138)),
  o 140 (.pick (t 117) (t 139) (kb false))] [12, 116, 117, 118, 119, 120, 121, 122, 123, 124, 125, 126, 127, 128, 129, 130, 131, 132, 133, 134, 135, 136, 137, 138, 139])
  (.cond (t 140)
   (.seq (.ops [mv 4 (kb false)] [])
   (.ret))
   (.skip)))
  (.seq (.ops [mv 141 (t 13),
  o 142 (.not (t 141)),
  os 143 (.mov (t 142)),
  gt 143 144 (.mov (t 11)),
  gt 143 145 (.faddr 0 (t 2)),
  gt 143 146 (.load false 1 (t 145)),
  gt 143 147 (.ibin .neq (t 144) (t 146)),
  o 148 (.pick (t 143) (t 147) (kb false)),
  os 149 (.mov (t 148)),
  gt 149 150 (.mov (t 14)),
  gt 149 151 (.ibin .neq (t 150) (k 16)),
  o 152 (.pick (t 149) (t 151) (kb false))] [13, 14, 141, 142, 143, 144, 145, 146, 147, 148, 149, 150, 151])
  (.cond (t 152)
   (.seq (.ops [mv 4 (kb false)] [])
   (.ret))
   (.skip)))))))
  (.ops [mv 105 (t 11),
  ad 106 (t 105) (k 1),
  mv 11 (t 106)] [105, 106]))))))
 (.seq (.ops [ca 153 F.law18_awake [],
 mv 4 (t 153)] [153])
 (.ret)))))))
def r_law18_RoutesNear : List RRes := [.tmp 4]
theorem fo_law18_RoutesNear {args : List Value} {M : Mem} {R : Value → Mem → Prop} (hn : args.length ≤ 154) (h : vfn Try.prog c_law18_RoutesNear r_law18_RoutesNear args M R) : CallsM Try.prog F.law18_RoutesNear args M R :=
  fn_ok (kf := k_law18_RoutesNear) Try.func4 (by kernel_rfl) (by kernel_rfl) hn (by kernel_rfl) h
/-- portage/portagelaw18.RoutesPlays -/
def k_law18_RoutesPlays (i : Nat) : List Nat := match i with | 0 => [0, 4] | 1 => [17, 18, 19, 20, 21, 22, 23, 24, 25, 26] | 2 => [2, 27, 28, 29, 30, 31, 32, 33, 34, 35, 36] | 3 => [6, 37, 38, 39, 40, 41, 42, 43, 44, 45] | 5 => [8, 47] | 6 => [49] | 8 => [50, 51, 52, 53, 54, 55, 56] | 10 => [60, 61, 62, 63, 64, 65, 66, 67, 68, 69] | 11 => [10, 70] | 12 => [11, 71, 72, 73, 74, 75, 76, 77, 78, 79] | 15 => [81] | 17 => [85, 86, 87, 88, 89, 90] | 18 => [91, 92, 93, 94, 95, 96] | 19 => [13, 14, 15, 16, 97, 98, 99, 100, 101, 102, 103, 104, 105, 106, 107, 108, 109, 110, 111, 112] | 16 => [83, 84] | 9 => [58, 59] | 21 => [114] | _ => []
def c_law18_RoutesPlays : RCode :=
 .seq (.ops [o 2 (.box 44 (t 0)),
 mv 4 (kb false)] [0, 4])
 (.seq (.ops [fa 18 0 (t 2),
 l1 19 (t 18),
 fa 20 1 (t 2),
 l1 21 (t 20),
 fa 22 2 (t 2),
 l1 23 (t 22),
 ca 24 F.routes_New [(t 19), (t 21), (t 23)],
 mv 17 (t 24),
 ex 25 (t 17) 0,
 ex 26 (t 17) 1,
 mv 5 (t 25),
 mv 6 (t 26)] [17, 18, 19, 20, 21, 22, 23, 24, 25, 26])
 (.seq (.ops [fa 28 0 (t 2),
 l1 29 (t 28),
 fa 30 1 (t 2),
 l1 31 (t 30),
 fa 32 2 (t 2),
 l1 33 (t 32),
 ca 34 F.ref18_New [(t 29), (t 31), (t 33)],
 mv 27 (t 34),
 ex 35 (t 27) 0,
 ex 36 (t 27) 1,
 o 7 (.alloc 50 [(i 0), (i 0), sn, sn, sn]),
 st 5 (t 7) (t 35),
 mv 8 (t 36)] [2, 27, 28, 29, 30, 31, 32, 33, 34, 35, 36])
 (.seq (.seq (.ops [mv 37 (t 6),
 mv 38 (t 8),
 o 39 (.ibin .neq (t 37) (t 38)),
 os 40 (.mov (t 39)),
 gf 40 41 (.mov (t 5)),
 gf 40 42 (.pnil .eql (t 41) (.const (.pointer none))),
 gf 40 43 (.mov (t 8)),
 gf 40 44 (.ibin .neq (t 43) (k 0)),
 gf 40 45 (.bbin .neq (t 42) (t 44)),
 o 46 (.pick (t 40) (kb true) (t 45))] [6, 37, 38, 39, 40, 41, 42, 43, 44, 45])
 (.cond (t 46)
  (.seq (.ops [mv 4 (kb false)] [])
  (.ret))
  (.skip)))
 (.seq (.seq (.ops [mv 47 (t 8),
 o 48 (.ibin .neq (t 47) (k 0))] [8, 47])
 (.cond (t 48)
  (.seq (.ops [ca 49 F.law18_awake [],
  mv 4 (t 49)] [49])
  (.ret))
  (.skip)))
 (.seq (.seq (.ops [mv 9 (k 0)] [])
 (.block 0 (.loop (.seq (.seq (.ops [mv 50 (t 9),
  mv 51 (t 1),
  o 52 (.len (t 51)),
  o 53 (.ibin .lss (t 50) (t 52)),
  os 54 (.mov (t 53)),
  gt 54 55 (.mov (t 9)),
  gt 54 56 (.ibin .lss (t 55) (k 40)),
  o 57 (.pick (t 54) (t 56) (kb false))] [50, 51, 52, 53, 54, 55, 56])
  (.cond (t 57)
   (.skip)
   (.exit 0)))
  (.seq (.block 1 (.seq (.draw (.take (mv 61 (t 5)) (.take (la 62 5 (t 7)) (.take (mv 63 (t 1)) (.take (mv 64 (t 9)) (.take (o 65 (.iaddr 4 (t 63) (t 64))) (.take (la 66 4 (t 65)) (.alt (ca 67 F.law18_play [(t 61), (t 62), (t 66)]) false
   (.take (mv 60 (t 67)) (.take (ex 68 (t 60) 0) (.take (ex 69 (t 60) 1) (.alt (o 10 (.alloc 50 [(i 0), (i 0), sn, sn, sn])) false
    (.alt (st 5 (t 10) (t 68)) false
     (.take (mv 11 (t 69)) (.done))
     (.none))
    (.none)))))
   (.alt (o 10 (.alloc 50 [(i 0), (i 0), sn, sn, sn])) false
    (.alt (ca 67 F.law18_play [(t 61), (t 62), (t 66)]) false
     (.take (mv 60 (t 67)) (.take (ex 68 (t 60) 0) (.take (ex 69 (t 60) 1) (.alt (st 5 (t 10) (t 68)) false
      (.take (mv 11 (t 69)) (.done))
      (.none)))))
     (.none))
    (.none))))))))) [60, 61, 62, 63, 64, 65, 66, 67, 68, 69])
  (.seq (.ops [la 70 5 (t 10),
  st 5 (t 7) (t 70)] [10, 70])
  (.seq (.seq (.draw (.take (mv 71 (t 11)) (.take (o 72 (.not (t 71))) (.take (os 73 (.mov (t 72))) (.take (gf 73 74 (.mov (t 5))) (.take (gf 73 76 (.load true 5 (t 7))) (.alt (gf 73 75 (.call (fn F.routes_Table_Heard) [(t 74)])) true
   (.alt (gf 73 77 (.call (fn F.ref18_Froms) [(t 76)])) false
    (.alt (gf 73 78 (.call (fn F.ref06_Same) [(t 75), (t 77)])) false
     (.take (gf 73 79 (.not (t 78))) (.take (o 80 (.pick (t 73) (kb true) (t 79))) (.done)))
     (.none))
    (.none))
   (.none))))))) [11, 71, 72, 73, 74, 75, 76, 77, 78, 79])
  (.cond (t 80)
   (.seq (.ops [mv 4 (kb false)] [])
   (.ret))
   (.skip)))
  (.seq (.ops [mv 12 (k (-1))] [])
  (.block 2 (.loop (.seq (.seq (.ops [mv 81 (t 12),
   o 82 (.ibin .leq (t 81) (k 64))] [81])
   (.cond (t 82)
    (.skip)
    (.exit 2)))
   (.seq (.block 3 (.seq (.ops [mv 86 (t 5),
   mv 87 (t 12),
   ca 88 F.routes_Table_Next [(t 86), (t 87)],
   mv 85 (t 88),
   ex 89 (t 85) 0,
   ex 90 (t 85) 1,
   mv 13 (t 89),
   mv 14 (t 90)] [85, 86, 87, 88, 89, 90])
   (.seq (.ops [la 92 5 (t 7),
   mv 93 (t 12),
   ca 94 F.ref18_Next [(t 92), (t 93)],
   mv 91 (t 94),
   ex 95 (t 91) 0,
   ex 96 (t 91) 1,
   mv 15 (t 95),
   mv 16 (t 96)] [91, 92, 93, 94, 95, 96])
   (.seq (.draw (.take (mv 97 (t 13)) (.take (mv 98 (t 15)) (.take (o 99 (.ibin .neq (t 97) (t 98))) (.take (os 100 (.mov (t 99))) (.take (gf 100 101 (.mov (t 14))) (.take (gf 100 102 (.mov (t 16))) (.take (gf 100 103 (.bbin .neq (t 101) (t 102))) (.take (o 104 (.pick (t 100) (kb true) (t 103))) (.take (os 105 (.mov (t 104))) (.take (gf 105 106 (.mov (t 5))) (.take (gf 105 107 (.mov (t 12))) (.take (gf 105 109 (.load true 5 (t 7))) (.take (gf 105 110 (.mov (t 12))) (.alt (gf 105 108 (.call (fn F.routes_Table_Cost) [(t 106), (t 107)])) true
    (.alt (gf 105 111 (.call (fn F.ref18_Cost) [(t 109), (t 110)])) false
     (.take (gf 105 112 (.ibin .neq (t 108) (t 111))) (.take (o 113 (.pick (t 105) (kb true) (t 112))) (.done)))
     (.none))
    (.none))))))))))))))) [13, 14, 15, 16, 97, 98, 99, 100, 101, 102, 103, 104, 105, 106, 107, 108, 109, 110, 111, 112])
   (.cond (t 113)
    (.seq (.ops [mv 4 (kb false)] [])
    (.ret))
    (.skip))))))
   (.ops [mv 83 (t 12),
   ad 84 (t 83) (k 1),
   mv 12 (t 84)] [83, 84]))))))))))
  (.ops [mv 58 (t 9),
  ad 59 (t 58) (k 1),
  mv 9 (t 59)] [58, 59]))))))
 (.seq (.ops [ca 114 F.law18_awake [],
 mv 4 (t 114)] [114])
 (.ret)))))))
def r_law18_RoutesPlays : List RRes := [.tmp 4]
theorem fo_law18_RoutesPlays {args : List Value} {M : Mem} {R : Value → Mem → Prop} (hn : args.length ≤ 115) (h : vfn Try.prog c_law18_RoutesPlays r_law18_RoutesPlays args M R) : CallsM Try.prog F.law18_RoutesPlays args M R :=
  fn_ok (kf := k_law18_RoutesPlays) Try.func5 (by kernel_rfl) (by kernel_rfl) hn (by kernel_rfl) h
/-- portage/portagelaw18.RoutesVectors -/
def k_law18_RoutesVectors (i : Nat) : List Nat := match i with | 0 => [0, 6] | 1 => [1, 3, 12, 13, 14, 15, 16, 17, 18] | 2 => [9, 19] | 3 => [7, 21, 22, 23, 24, 25] | 4 => [26, 27, 28] | 5 => [29, 30, 31, 32, 33] | 8 => [35, 36, 37] | 10 => [41, 42, 43] | 9 => [39, 40] | 11 => [2, 7, 8, 44, 45, 46, 47, 48, 49, 50, 51, 52, 53] | _ => []
def c_law18_RoutesVectors : RCode :=
 .seq (.ops [o 3 (.box 44 (t 0)),
 mv 6 (kb false)] [0, 6])
 (.seq (.ops [la 13 3 (t 3),
 mv 14 (t 1),
 ca 15 F.law18_done [(t 13), (t 14)],
 mv 12 (t 15),
 ex 16 (t 12) 0,
 ex 17 (t 12) 1,
 ex 18 (t 12) 2,
 o 8 (.alloc 50 [(i 0), (i 0), sn, sn, sn]),
 mv 7 (t 16),
 st 5 (t 8) (t 17),
 mv 9 (t 18)] [1, 3, 12, 13, 14, 15, 16, 17, 18])
 (.seq (.seq (.ops [mv 19 (t 9),
 o 20 (.not (t 19))] [9, 19])
 (.cond (t 20)
  (.seq (.ops [mv 21 (t 7),
  o 22 (.pnil .eql (t 21) (.const (.pointer none))),
  os 23 (.mov (t 22)),
  gt 23 24 (.call (fn F.law18_awake) []),
  o 25 (.pick (t 23) (t 24) (kb false)),
  mv 6 (t 25)] [7, 21, 22, 23, 24, 25])
  (.ret))
  (.skip)))
 (.seq (.ops [mv 26 (t 7),
 mv 27 (t 2),
 ca 28 F.routes_Table_Vector [(t 26), (t 27)],
 mv 10 (t 28)] [26, 27, 28])
 (.seq (.seq (.ops [mv 29 (t 10),
 la 30 5 (t 8),
 mv 31 (t 2),
 ca 32 F.ref18_Vector [(t 30), (t 31)],
 ca 33 F.ref06_Same [(t 29), (t 32)],
 o 34 (.not (t 33))] [29, 30, 31, 32, 33])
 (.cond (t 34)
  (.seq (.ops [mv 6 (kb false)] [])
  (.ret))
  (.skip)))
 (.seq (.seq (.ops [mv 11 (k 0)] [])
 (.block 0 (.loop (.seq (.seq (.ops [mv 35 (t 11),
  mv 36 (t 10),
  o 37 (.len (t 36)),
  o 38 (.ibin .lss (t 35) (t 37))] [35, 36, 37])
  (.cond (t 38)
   (.skip)
   (.exit 0)))
  (.seq (.block 1 (.ops [mv 41 (t 10),
  mv 42 (t 11),
  o 43 (.iaddr 1 (t 41) (t 42)),
  st 1 (t 43) (k 1)] [41, 42, 43]))
  (.ops [mv 39 (t 11),
  ad 40 (t 39) (k 1),
  mv 11 (t 40)] [39, 40]))))))
 (.seq (.draw (.take (mv 44 (t 7)) (.take (mv 45 (t 2)) (.take (la 47 5 (t 8)) (.take (mv 48 (t 2)) (.alt (ca 46 F.routes_Table_Vector [(t 44), (t 45)]) true
  (.alt (ca 49 F.ref18_Vector [(t 47), (t 48)]) false
   (.alt (ca 50 F.ref06_Same [(t 46), (t 49)]) false
    (.take (os 51 (.mov (t 50))) (.alt (gt 51 52 (.call (fn F.law18_awake) [])) false
     (.take (o 53 (.pick (t 51) (t 52) (kb false))) (.take (mv 6 (t 53)) (.done)))
     (.none)))
    (.none))
   (.none))
  (.none)))))) [2, 7, 8, 44, 45, 46, 47, 48, 49, 50, 51, 52, 53])
 (.ret)))))))
def r_law18_RoutesVectors : List RRes := [.tmp 6]
theorem fo_law18_RoutesVectors {args : List Value} {M : Mem} {R : Value → Mem → Prop} (hn : args.length ≤ 54) (h : vfn Try.prog c_law18_RoutesVectors r_law18_RoutesVectors args M R) : CallsM Try.prog F.law18_RoutesVectors args M R :=
  fn_ok (kf := k_law18_RoutesVectors) Try.func6 (by kernel_rfl) (by kernel_rfl) hn (by kernel_rfl) h
/-- portage/portagelaw18.RoutesPoison -/
def k_law18_RoutesPoison (i : Nat) : List Nat := match i with | 0 => [0, 6] | 1 => [1, 14, 15, 16, 17, 18, 19, 20] | 2 => [9, 21] | 3 => [7, 23, 24, 25, 26, 27] | 4 => [28, 29, 30] | 5 => [8, 31, 32, 33, 34] | 6 => [10, 36, 37, 38, 39, 40, 41] | 8 => [42, 43, 44, 45, 46, 47] | 10 => [51, 52, 53, 54, 55, 56] | 11 => [12, 13, 57, 58, 59, 60, 61, 62, 63, 64, 65, 66, 67, 68, 69, 70, 71, 72, 73, 74, 75, 76, 77, 78, 79, 80, 81, 82, 83, 84, 85, 86, 87] | 9 => [49, 50] | 13 => [3, 10, 89, 90, 91, 92, 93, 94, 95, 96, 97, 98, 99, 100, 101, 102] | _ => []
def c_law18_RoutesPoison : RCode :=
 .seq (.ops [o 3 (.box 44 (t 0)),
 mv 6 (kb false)] [0, 6])
 (.seq (.ops [la 15 3 (t 3),
 mv 16 (t 1),
 ca 17 F.law18_done [(t 15), (t 16)],
 mv 14 (t 17),
 ex 18 (t 14) 0,
 ex 19 (t 14) 1,
 ex 20 (t 14) 2,
 o 8 (.alloc 50 [(i 0), (i 0), sn, sn, sn]),
 mv 7 (t 18),
 st 5 (t 8) (t 19),
 mv 9 (t 20)] [1, 14, 15, 16, 17, 18, 19, 20])
 (.seq (.seq (.ops [mv 21 (t 9),
 o 22 (.not (t 21))] [9, 21])
 (.cond (t 22)
  (.seq (.ops [mv 23 (t 7),
  o 24 (.pnil .eql (t 23) (.const (.pointer none))),
  os 25 (.mov (t 24)),
  gt 25 26 (.call (fn F.law18_awake) []),
  o 27 (.pick (t 25) (t 26) (kb false)),
  mv 6 (t 27)] [7, 23, 24, 25, 26, 27])
  (.ret))
  (.skip)))
 (.seq (.ops [mv 28 (t 7),
 mv 29 (t 2),
 ca 30 F.routes_Table_Vector [(t 28), (t 29)],
 mv 10 (t 30)] [28, 29, 30])
 (.seq (.seq (.ops [fa 31 2 (t 8),
 l1 32 (t 31),
 mv 33 (t 2),
 ca 34 F.ref18_Has [(t 32), (t 33)],
 o 35 (.not (t 34))] [8, 31, 32, 33, 34])
 (.cond (t 35)
  (.seq (.ops [mv 36 (t 10),
  o 37 (.len (t 36)),
  o 38 (.ibin .eql (t 37) (k 0)),
  os 39 (.mov (t 38)),
  gt 39 40 (.call (fn F.law18_awake) []),
  o 41 (.pick (t 39) (t 40) (kb false)),
  mv 6 (t 41)] [10, 36, 37, 38, 39, 40, 41])
  (.ret))
  (.skip)))
 (.seq (.seq (.ops [mv 11 (k 0)] [])
 (.block 0 (.loop (.seq (.seq (.ops [mv 42 (t 11),
  o 43 (.ibin .lss (t 42) (k 64)),
  os 44 (.mov (t 43)),
  gt 44 45 (.mov (t 10)),
  gt 44 46 (.len (t 45)),
  gt 44 47 (.ibin .eql (t 46) (k 64)),
  o 48 (.pick (t 44) (t 47) (kb false))] [42, 43, 44, 45, 46, 47])
  (.cond (t 48)
   (.skip)
   (.exit 0)))
  (.seq (.block 1 (.seq (.ops [mv 52 (t 7),
  mv 53 (t 11),
  ca 54 F.routes_Table_Next [(t 52), (t 53)],
  mv 51 (t 54),
  ex 55 (t 51) 0,
  ex 56 (t 51) 1,
  mv 12 (t 55),
  mv 13 (t 56)] [51, 52, 53, 54, 55, 56])
  (.seq (.draw (.take (mv 57 (t 13)) (.take (os 58 (.mov (t 57))) (.take (gt 58 59 (.mov (t 12))) (.take (gt 58 60 (.mov (t 2))) (.take (gt 58 61 (.ibin .eql (t 59) (t 60))) (.take (o 62 (.pick (t 58) (t 61) (kb false))) (.take (os 63 (.mov (t 62))) (.take (gt 63 64 (.mov (t 10))) (.take (gt 63 65 (.mov (t 11))) (.take (gt 63 66 (.iaddr 1 (t 64) (t 65))) (.take (gt 63 67 (.load false 1 (t 66))) (.take (gt 63 68 (.ibin .neq (t 67) (k 16))) (.take (o 69 (.pick (t 63) (t 68) (kb false))) (.take (os 70 (.mov (t 69))) (.take (gf 70 71 (.mov (t 13))) (.take (gf 70 72 (.not (t 71))) (.take (⟨(some 73), .mov (t 72), some (70, false), true⟩) (.take (gf 73 74 (.mov (t 12))) (.take (gf 73 75 (.mov (t 2))) (.take (gf 73 76 (.ibin .neq (t 74) (t 75))) (.take (gf 70 77 (.pick (t 73) (kb true) (t 76))) (.take (⟨(some 78), .mov (t 77), some (70, false), true⟩) (.take (gt 78 79 (.mov (t 10))) (.take (gt 78 80 (.mov (t 11))) (.take (gt 78 81 (.iaddr 1 (t 79) (t 80))) (.take (gt 78 82 (.load false 1 (t 81))) (.take (gt 78 83 (.mov (t 7))) (.take (gt 78 84 (.mov (t 11))) (.alt (gt 78 85 (.call (fn F.routes_Table_Cost) [(t 83), (t 84)])) true
   (.take (gt 78 86 (.ibin .neq (t 82) (t 85))) (.take (gf 70 87 (.pick (t 78) (t 86) (kb false))) (.take (o 88 (.pick (t 70) (kb true) (t 87))) (.done))))
   (.none)))))))))))))))))))))))))))))) [12, 13, 57, 58, 59, 60, 61, 62, 63, 64, 65, 66, 67, 68, 69, 70, 71, 72, 73, 74, 75, 76, 77, 78, 79, 80, 81, 82, 83, 84, 85, 86, 87])
  (.cond (t 88)
   (.seq (.ops [mv 6 (kb false)] [])
   (.ret))
   (.skip)))))
  (.ops [mv 49 (t 11),
  ad 50 (t 49) (k 1),
  mv 11 (t 50)] [49, 50]))))))
 (.seq (.ops [mv 89 (t 10),
 o 90 (.len (t 89)),
 o 91 (.ibin .eql (t 90) (k 64)),
 os 92 (.mov (t 91)),
 gt 92 93 (.mov (t 10)),
 gt 92 94 (.faddr 0 (t 3)),
 gt 92 95 (.load false 1 (t 94)),
 gt 92 96 (.iaddr 1 (t 93) (t 95)),
 gt 92 97 (.load false 1 (t 96)),
 gt 92 98 (.ibin .eql (t 97) (k 0)),
 o 99 (.pick (t 92) (t 98) (kb false)),
 os 100 (.mov (t 99)),
 gt 100 101 (.call (fn F.law18_awake) []),
 o 102 (.pick (t 100) (t 101) (kb false)),
 mv 6 (t 102)] [3, 10, 89, 90, 91, 92, 93, 94, 95, 96, 97, 98, 99, 100, 101, 102])
 (.ret)))))))
def r_law18_RoutesPoison : List RRes := [.tmp 6]
theorem fo_law18_RoutesPoison {args : List Value} {M : Mem} {R : Value → Mem → Prop} (hn : args.length ≤ 103) (h : vfn Try.prog c_law18_RoutesPoison r_law18_RoutesPoison args M R) : CallsM Try.prog F.law18_RoutesPoison args M R :=
  fn_ok (kf := k_law18_RoutesPoison) Try.func7 (by kernel_rfl) (by kernel_rfl) hn (by kernel_rfl) h
/-- portage/portagelaw18.RoutesNil -/
def k_law18_RoutesNil (i : Nat) : List Nat := match i with | 0 => [0, 2] | 2 => [6, 7, 8, 9, 10, 11, 12] | 3 => [1, 3, 4, 5, 13, 14, 15, 16, 17, 18, 19, 20, 21, 22, 23, 24, 25, 26, 27, 28, 29, 30, 31, 32, 33, 34, 35, 36, 37, 38, 39, 40, 41, 42, 43, 44, 45, 46, 47, 48, 49, 50, 51, 52, 53, 54, 55, 56, 57, 58, 59, 60, 61, 62, 63, 64, 65] | _ => []
def c_law18_RoutesNil : RCode :=
 .seq (.ops [o 1 (.box 30 (t 0)),
 mv 2 (kb false)] [0, 2])
 (.seq (.ops [mv 3 (.const (.pointer none))] [])
 (.seq (.ops [mv 7 (t 3),
 fa 8 1 (t 1),
 l1 9 (t 8),
 ca 10 F.routes_Table_Next [(t 7), (t 9)],
 mv 6 (t 10),
 ex 11 (t 6) 0,
 ex 12 (t 6) 1,
 mv 4 (t 11),
 mv 5 (t 12)] [6, 7, 8, 9, 10, 11, 12])
 (.seq (.ops [mv 13 (t 3),
 fa 14 1 (t 1),
 l1 15 (t 14),
 fa 16 2 (t 1),
 l1 17 (t 16),
 ca 18 F.routes_Table_Set [(t 13), (t 15), (t 17)],
 o 19 (.ibin .eql (t 18) (k 7)),
 os 20 (.mov (t 19)),
 gt 20 21 (.mov (t 3)),
 gt 20 22 (.faddr 2 (t 1)),
 gt 20 23 (.load false 1 (t 22)),
 gt 20 24 (.faddr 3 (t 1)),
 gt 20 25 (.load false 1 (t 24)),
 gt 20 26 (.call (fn F.routes_Table_Hear) [(t 21), (t 23), (t 25)]),
 gt 20 27 (.ibin .eql (t 26) (k 7)),
 o 28 (.pick (t 20) (t 27) (kb false)),
 os 29 (.mov (t 28)),
 gt 29 30 (.mov (t 3)),
 gt 29 31 (.call (fn F.routes_Table_Tick) [(t 30)]),
 gt 29 32 (.ibin .eql (t 31) (k 7)),
 o 33 (.pick (t 29) (t 32) (kb false)),
 os 34 (.mov (t 33)),
 gt 34 35 (.mov (t 3)),
 gt 34 36 (.faddr 1 (t 1)),
 gt 34 37 (.load false 1 (t 36)),
 gt 34 38 (.call (fn F.routes_Table_Cost) [(t 35), (t 37)]),
 gt 34 39 (.ibin .eql (t 38) (k 16)),
 o 40 (.pick (t 34) (t 39) (kb false)),
 os 41 (.mov (t 40)),
 gt 41 42 (.mov (t 4)),
 gt 41 43 (.ibin .eql (t 42) (k 0)),
 o 44 (.pick (t 41) (t 43) (kb false)),
 os 45 (.mov (t 44)),
 gt 45 46 (.mov (t 5)),
 gt 45 47 (.not (t 46)),
 o 48 (.pick (t 45) (t 47) (kb false)),
 os 49 (.mov (t 48)),
 gt 49 50 (.mov (t 3)),
 gt 49 51 (.faddr 2 (t 1)),
 gt 49 52 (.load false 1 (t 51)),
 gt 49 53 (.call (fn F.routes_Table_Vector) [(t 50), (t 52)]),
 gt 49 54 (.len (t 53)),
 gt 49 55 (.ibin .eql (t 54) (k 0)),
 o 56 (.pick (t 49) (t 55) (kb false)),
 os 57 (.mov (t 56)),
 gt 57 58 (.mov (t 3)),
 gt 57 59 (.call (fn F.routes_Table_Heard) [(t 58)]),
 gt 57 60 (.len (t 59)),
 gt 57 61 (.ibin .eql (t 60) (k 0)),
 o 62 (.pick (t 57) (t 61) (kb false)),
 os 63 (.mov (t 62)),
 gt 63 64 (.call (fn F.law18_awake) []),
 o 65 (.pick (t 63) (t 64) (kb false)),
 mv 2 (t 65)] [1, 3, 4, 5, 13, 14, 15, 16, 17, 18, 19, 20, 21, 22, 23, 24, 25, 26, 27, 28, 29, 30, 31, 32, 33, 34, 35, 36, 37, 38, 39, 40, 41, 42, 43, 44, 45, 46, 47, 48, 49, 50, 51, 52, 53, 54, 55, 56, 57, 58, 59, 60, 61, 62, 63, 64, 65])
 (.ret))))
def r_law18_RoutesNil : List RRes := [.tmp 2]
theorem fo_law18_RoutesNil {args : List Value} {M : Mem} {R : Value → Mem → Prop} (hn : args.length ≤ 66) (h : vfn Try.prog c_law18_RoutesNil r_law18_RoutesNil args M R) : CallsM Try.prog F.law18_RoutesNil args M R :=
  fn_ok (kf := k_law18_RoutesNil) Try.func8 (by kernel_rfl) (by kernel_rfl) hn (by kernel_rfl) h
/-- portage/portagelaw18.tables -/
def k_law18_tables (i : Nat) : List Nat := match i with | 0 => [0, 2] | 1 => [10, 11, 12, 13, 14, 15] | 2 => [16] | 4 => [17, 18] | 6 => [22] | 8 => [23, 24] | 10 => [28, 29, 30, 31, 32, 33, 34, 35] | 11 => [37, 38, 39, 40] | 9 => [26, 27] | 12 => [6, 41, 42, 43, 44, 45, 46] | 13 => [9, 47, 48, 49, 50, 51] | 15 => [8, 53, 54, 55, 56] | 5 => [20, 21] | 16 => [4, 57] | _ => []
def c_law18_tables : RCode :=
 .seq (.ops [o 1 (.box 24 (t 0)),
 mv 2 (.const sn)] [0, 2])
 (.seq (.ops [fa 10 0 (t 1),
 l1 11 (t 10),
 o 12 (.conv .u64 (t 11)),
 o 13 (.ibin .rem (t 12) (.const (.int .u64 8))),
 o 14 (.conv .i64 (t 13)),
 ad 15 (k 1) (t 14),
 mv 3 (t 15)] [10, 11, 12, 13, 14, 15])
 (.seq (.ops [o 16 (.mkSl false 32 0 [] []),
 mv 4 (t 16)] [16])
 (.seq (.seq (.ops [mv 5 (k 0)] [])
 (.block 0 (.loop (.seq (.seq (.ops [mv 17 (t 5),
  mv 18 (t 3),
  o 19 (.ibin .lss (t 17) (t 18))] [17, 18])
  (.cond (t 19)
   (.skip)
   (.exit 0)))
  (.seq (.block 1 (.seq (.ops [o 22 (.mkSl false 3 0 [] []),
  mv 6 (t 22)] [22])
  (.seq (.seq (.ops [mv 7 (k 0)] [])
  (.block 2 (.loop (.seq (.seq (.ops [mv 23 (t 7),
   mv 24 (t 3),
   o 25 (.ibin .lss (t 23) (t 24))] [23, 24])
   (.cond (t 25)
    (.skip)
    (.exit 2)))
   (.seq (.block 3 (.seq (.ops [mv 28 (t 7),
   mv 29 (t 5),
   o 30 (.ibin .neq (t 28) (t 29)),
   os 31 (.mov (t 30)),
   gt 31 32 (.load true 2 (t 1)),
   gt 31 33 (.mov (t 5)),
   gt 31 34 (.mov (t 7)),
   gt 31 35 (.call (fn F.law18_linked) [(t 32), (t 33), (t 34)]),
   o 36 (.pick (t 31) (t 35) (kb false))] [28, 29, 30, 31, 32, 33, 34, 35])
   (.cond (t 36)
    (.ops [mv 37 (t 6),
    mv 38 (t 7),
    o 39 (.mkSl true 3 1 [(i 0)] [(0, 1, (t 38))]),
    o 40 (.app 3 1 8 [(i 0)] (t 37) (t 39)),
    mv 6 (t 40)] [37, 38, 39, 40])
    (.skip))))
   (.ops [mv 26 (t 7),
   ad 27 (t 26) (k 1),
   mv 7 (t 27)] [26, 27]))))))
  (.seq (.ops [mv 42 (t 5),
  mv 43 (t 6),
  ca 44 F.routes_New [(t 42), (t 43), (k 64)],
  mv 41 (t 44),
  ex 45 (t 41) 0,
  ex 46 (t 41) 1,
  mv 8 (t 45),
  mv 9 (t 46)] [6, 41, 42, 43, 44, 45, 46])
  (.seq (.seq (.ops [mv 47 (t 9),
  o 48 (.ibin .neq (t 47) (k 0)),
  os 49 (.mov (t 48)),
  gf 49 50 (.mov (t 8)),
  gf 49 51 (.pnil .eql (t 50) (.const (.pointer none))),
  o 52 (.pick (t 49) (kb true) (t 51))] [9, 47, 48, 49, 50, 51])
  (.cond (t 52)
   (.seq (.ops [mv 2 (.const sn)] [])
   (.ret))
   (.skip)))
  (.ops [mv 53 (t 4),
  mv 54 (t 8),
  o 55 (.mkSl true 32 1 [(.pointer none)] [(0, 1, (t 54))]),
  o 56 (.app 32 1 8 [(.pointer none)] (t 53) (t 55)),
  mv 4 (t 56)] [8, 53, 54, 55, 56]))))))
  (.ops [mv 20 (t 5),
  ad 21 (t 20) (k 1),
  mv 5 (t 21)] [20, 21]))))))
 (.seq (.ops [mv 57 (t 4),
 mv 2 (t 57)] [4, 57])
 (.ret)))))
def r_law18_tables : List RRes := [.tmp 2]
theorem fo_law18_tables {args : List Value} {M : Mem} {R : Value → Mem → Prop} (hn : args.length ≤ 58) (h : vfn Try.prog c_law18_tables r_law18_tables args M R) : CallsM Try.prog F.law18_tables args M R :=
  fn_ok (kf := k_law18_tables) Try.func9 (by kernel_rfl) (by kernel_rfl) hn (by kernel_rfl) h
/-- (*portage/routes.Table).Hear -/
def k_routes_Table_Hear (i : Nat) : List Nat := match i with | 0 => [6] | 1 => [11, 12] | 3 => [14, 15, 16, 17] | 5 => [19, 20, 21] | 7 => [22, 23, 24, 25, 26] | 8 => [2] | 10 => [31, 32, 33] | 11 => [34, 35, 36, 37, 38] | 13 => [8, 9, 40, 41, 42, 43] | 14 => [44] | 15 => [0, 1, 7, 45, 46, 47, 48, 49, 50] | _ => []
def c_routes_Table_Hear : RCode :=
 .seq (.ops [mv 6 (k 0)] [6])
 (.seq (.block 0 (.seq (.ops [mv 11 (t 0),
 o 12 (.pnil .eql (t 11) (.const (.pointer none))),
 mv 10 (t 12)] [11, 12])
 (.cond (t 10)
  (.seq (.ops [mv 6 (k 7)] [])
  (.ret))
  (.seq (.ops [mv 14 (t 0),
  mv 15 (t 1),
  ca 16 F.routes_Table_near [(t 14), (t 15)],
  o 17 (.not (t 16)),
  mv 13 (t 17)] [14, 15, 16, 17])
  (.cond (t 13)
   (.seq (.ops [mv 6 (k 4)] [])
   (.ret))
   (.seq (.ops [mv 19 (t 2),
   o 20 (.len (t 19)),
   o 21 (.ibin .neq (t 20) (k 64)),
   mv 18 (t 21)] [19, 20, 21])
   (.cond (t 18)
    (.seq (.ops [mv 6 (k 2)] [])
    (.ret))
    (.skip))))))))
 (.seq (.ops [mv 22 (t 0),
 o 23 (.nilck (t 22)),
 fa 24 1 (t 23),
 l1 25 (t 24),
 o 26 (.build [(i 0), (i 0), (i 0), (i 0), (i 0), (i 0), (i 0), (i 0), (i 0), (i 0), (i 0), (i 0), (i 0), (i 0), (i 0), (i 0), (i 0), (i 0), (i 0), (i 0), (i 0), (i 0), (i 0), (i 0), (i 0), (i 0), (i 0), (i 0), (i 0), (i 0), (i 0), (i 0), (i 0), (i 0), (i 0), (i 0), (i 0), (i 0), (i 0), (i 0), (i 0), (i 0), (i 0), (i 0), (i 0), (i 0), (i 0), (i 0), (i 0), (i 0), (i 0), (i 0), (i 0), (i 0), (i 0), (i 0), (i 0), (i 0), (i 0), (i 0), (i 0), (i 0), (i 0), (i 0), (i 0)] [(64, 1, (t 25))]),
 o 7 (.alloc 78 [(i 0), (i 0), (i 0), (i 0), (i 0), (i 0), (i 0), (i 0), (i 0), (i 0), (i 0), (i 0), (i 0), (i 0), (i 0), (i 0), (i 0), (i 0), (i 0), (i 0), (i 0), (i 0), (i 0), (i 0), (i 0), (i 0), (i 0), (i 0), (i 0), (i 0), (i 0), (i 0), (i 0), (i 0), (i 0), (i 0), (i 0), (i 0), (i 0), (i 0), (i 0), (i 0), (i 0), (i 0), (i 0), (i 0), (i 0), (i 0), (i 0), (i 0), (i 0), (i 0), (i 0), (i 0), (i 0), (i 0), (i 0), (i 0), (i 0), (i 0), (i 0), (i 0), (i 0), (i 0), (i 0)]),
 st 65 (t 7) (t 26)] [22, 23, 24, 25, 26])
 (.seq (.seq (.ops [mv 27 (t 2),
 o 28 (.len (t 27)),
 mv 29 (k 0)] [2])
 (.block 1 (.loop (.seq (.ops [o 30 (.ibin .lss (t 29) (t 28))] [])
  (.seq (.cond (t 30)
   (.skip)
   (.exit 1))
  (.seq (.block 2 (.seq (.ops [mv 31 (t 29),
  o 32 (.iaddr 1 (t 27) (t 29)),
  l1 33 (t 32),
  mv 8 (t 31),
  mv 9 (t 33)] [31, 32, 33])
  (.seq (.seq (.ops [mv 34 (t 9),
  o 35 (.ibin .lss (t 34) (k 0)),
  os 36 (.mov (t 35)),
  gf 36 37 (.mov (t 9)),
  gf 36 38 (.ibin .gtr (t 37) (k 16)),
  o 39 (.pick (t 36) (kb true) (t 38))] [34, 35, 36, 37, 38])
  (.cond (t 39)
   (.seq (.ops [mv 6 (k 2)] [])
   (.ret))
   (.skip)))
  (.ops [mv 40 (t 8),
  mv 41 (t 9),
  fa 42 0 (t 7),
  o 43 (.iaddrA 64 1 (t 42) (t 40)),
  st 1 (t 43) (t 41)] [8, 9, 40, 41, 42, 43]))))
  (.ops [ad 44 (t 29) (k 1),
  mv 29 (t 44)] [44])))))))
 (.seq (.draw (.take (mv 45 (t 0)) (.take (o 46 (.nilck (t 45))) (.take (fa 47 4 (t 46)) (.take (l1 48 (t 47)) (.take (mv 49 (t 1)) (.take (la 50 65 (t 7)) (.alt (e (.mset .int (t 48) (t 49) (t 50))) false
  (.done)
  (.none)))))))) [0, 1, 7, 45, 46, 47, 48, 49, 50])
 (.seq (.ops [mv 6 (k 0)] [])
 (.ret))))))
def r_routes_Table_Hear : List RRes := [.tmp 6]
theorem fo_routes_Table_Hear {args : List Value} {M : Mem} {R : Value → Mem → Prop} (hn : args.length ≤ 51) (h : vfn Try.prog c_routes_Table_Hear r_routes_Table_Hear args M R) : CallsM Try.prog F.routes_Table_Hear args M R :=
  fn_ok (kf := k_routes_Table_Hear) Try.func10 (by kernel_rfl) (by kernel_rfl) hn (by kernel_rfl) h
/-- portage/portagelaw18.tell -/
def k_law18_tell (i : Nat) : List Nat := match i with | 0 => [0] | 1 => [9, 10, 11] | 3 => [12, 13, 14] | 6 => [18, 19, 20] | 8 => [24, 25, 26, 27, 28, 29, 30, 31, 32, 33, 34, 35, 36, 37, 38] | 7 => [22, 23] | 4 => [16, 17] | 10 => [39, 40, 41] | 13 => [45, 46, 47] | 15 => [51, 52, 53, 54, 55, 56, 57, 58] | 16 => [60, 61, 62, 63, 64, 65, 66, 67, 68, 69, 70, 71, 72] | 14 => [49, 50] | 11 => [43, 44] | _ => []
def c_law18_tell : RCode :=
 .seq (.ops [o 2 (.box 24 (t 0))] [0])
 (.seq (.ops [mv 9 (t 1),
 o 10 (.len (t 9)),
 o 11 (.mkSlN 53 24 [sn] (t 10) (t 10)),
 mv 4 (t 11)] [9, 10, 11])
 (.seq (.seq (.ops [mv 5 (k 0)] [])
 (.block 0 (.loop (.seq (.seq (.ops [mv 12 (t 5),
  mv 13 (t 1),
  o 14 (.len (t 13)),
  o 15 (.ibin .lss (t 12) (t 14))] [12, 13, 14])
  (.cond (t 15)
   (.skip)
   (.exit 0)))
  (.seq (.block 1 (.seq (.ops [mv 6 (k 0)] [])
  (.block 2 (.loop (.seq (.seq (.ops [mv 18 (t 6),
   mv 19 (t 1),
   o 20 (.len (t 19)),
   o 21 (.ibin .lss (t 18) (t 20))] [18, 19, 20])
   (.cond (t 21)
    (.skip)
    (.exit 2)))
   (.seq (.block 3 (.draw (.take (mv 24 (t 4)) (.take (mv 25 (t 5)) (.take (mv 26 (t 4)) (.take (mv 27 (t 5)) (.take (o 28 (.iaddr 1 (t 26) (t 27))) (.take (l1 29 (t 28)) (.take (mv 30 (t 1)) (.take (mv 31 (t 5)) (.take (o 32 (.iaddr 1 (t 30) (t 31))) (.take (l1 33 (t 32)) (.take (mv 34 (t 6)) (.alt (ca 35 F.routes_Table_Vector [(t 33), (t 34)]) true
    (.alt (o 36 (.mkSl true 28 1 [sn] [(0, 1, (t 35))])) false
     (.alt (o 37 (.app 28 1 24 [sn] (t 29) (t 36))) false
      (.take (o 38 (.iaddr 1 (t 24) (t 25))) (.alt (st 1 (t 38) (t 37)) false
       (.done)
       (.none)))
      (.none))
     (.none))
    (.none))))))))))))) [24, 25, 26, 27, 28, 29, 30, 31, 32, 33, 34, 35, 36, 37, 38]))
   (.ops [mv 22 (t 6),
   ad 23 (t 22) (k 1),
   mv 6 (t 23)] [22, 23])))))))
  (.ops [mv 16 (t 5),
  ad 17 (t 16) (k 1),
  mv 5 (t 17)] [16, 17]))))))
 (.seq (.ops [mv 7 (k 0)] [])
 (.block 4 (.loop (.seq (.seq (.ops [mv 39 (t 7),
  mv 40 (t 1),
  o 41 (.len (t 40)),
  o 42 (.ibin .lss (t 39) (t 41))] [39, 40, 41])
  (.cond (t 42)
   (.skip)
   (.exit 4)))
  (.seq (.block 5 (.seq (.ops [mv 8 (k 0)] [])
  (.block 6 (.loop (.seq (.seq (.ops [mv 45 (t 8),
   mv 46 (t 1),
   o 47 (.len (t 46)),
   o 48 (.ibin .lss (t 45) (t 47))] [45, 46, 47])
   (.cond (t 48)
    (.skip)
    (.exit 6)))
   (.seq (.block 7 (.seq (.ops [mv 51 (t 7),
   mv 52 (t 8),
   o 53 (.ibin .neq (t 51) (t 52)),
   os 54 (.mov (t 53)),
   gt 54 55 (.load true 2 (t 2)),
   gt 54 56 (.mov (t 7)),
   gt 54 57 (.mov (t 8)),
   gt 54 58 (.call (fn F.law18_linked) [(t 55), (t 56), (t 57)]),
   o 59 (.pick (t 54) (t 58) (kb false))] [51, 52, 53, 54, 55, 56, 57, 58])
   (.cond (t 59)
    (.draw (.take (mv 60 (t 1)) (.take (mv 61 (t 8)) (.take (o 62 (.iaddr 1 (t 60) (t 61))) (.take (l1 63 (t 62)) (.take (mv 64 (t 7)) (.take (mv 65 (t 4)) (.take (mv 66 (t 7)) (.take (o 67 (.iaddr 1 (t 65) (t 66))) (.take (l1 68 (t 67)) (.take (mv 69 (t 8)) (.take (o 70 (.iaddr 1 (t 68) (t 69))) (.take (l1 71 (t 70)) (.alt (ca 72 F.routes_Table_Hear [(t 63), (t 64), (t 71)]) false
     (.done)
     (.none)))))))))))))) [60, 61, 62, 63, 64, 65, 66, 67, 68, 69, 70, 71, 72])
    (.skip))))
   (.ops [mv 49 (t 8),
   ad 50 (t 49) (k 1),
   mv 8 (t 50)] [49, 50])))))))
  (.ops [mv 43 (t 7),
  ad 44 (t 43) (k 1),
  mv 7 (t 44)] [43, 44]))))))))
def r_law18_tell : List RRes := []
theorem fo_law18_tell {args : List Value} {M : Mem} {R : Value → Mem → Prop} (hn : args.length ≤ 73) (h : vfn Try.prog c_law18_tell r_law18_tell args M R) : CallsM Try.prog F.law18_tell args M R :=
  fn_ok (kf := k_law18_tell) Try.func11 (by kernel_rfl) (by kernel_rfl) hn (by kernel_rfl) h
/-- portage/portagelaw18.lengths -/
def k_law18_lengths (i : Nat) : List Nat := match i with | 0 => [0, 6] | 1 => [12, 13] | 3 => [14, 15] | 5 => [19, 20, 21] | 4 => [17, 18] | 6 => [2, 22, 23, 24] | 8 => [25, 26] | 11 => [30, 31] | 14 => [35, 36] | 16 => [40, 41, 42] | 17 => [44, 45, 46, 47, 48, 49, 50, 51, 52, 53, 54, 55, 56] | 15 => [38, 39] | 12 => [33, 34] | 9 => [28, 29] | 18 => [7, 57] | _ => []
def c_law18_lengths : RCode :=
 .seq (.ops [o 3 (.box 24 (t 0)),
 mv 6 (.const sn)] [0, 6])
 (.seq (.ops [mv 12 (t 1),
 o 13 (.mkSlN 3 8 [(i 0)] (t 12) (t 12)),
 mv 7 (t 13)] [12, 13])
 (.seq (.seq (.ops [mv 8 (k 0)] [])
 (.block 0 (.loop (.seq (.seq (.ops [mv 14 (t 8),
  mv 15 (t 1),
  o 16 (.ibin .lss (t 14) (t 15))] [14, 15])
  (.cond (t 16)
   (.skip)
   (.exit 0)))
  (.seq (.block 1 (.ops [mv 19 (t 7),
  mv 20 (t 8),
  o 21 (.iaddr 1 (t 19) (t 20)),
  st 1 (t 21) (k 99)] [19, 20, 21]))
  (.ops [mv 17 (t 8),
  ad 18 (t 17) (k 1),
  mv 8 (t 18)] [17, 18]))))))
 (.seq (.ops [mv 22 (t 7),
 mv 23 (t 2),
 o 24 (.iaddr 1 (t 22) (t 23)),
 st 1 (t 24) (k 0)] [2, 22, 23, 24])
 (.seq (.seq (.ops [mv 9 (k 0)] [])
 (.block 2 (.loop (.seq (.seq (.ops [mv 25 (t 9),
  mv 26 (t 1),
  o 27 (.ibin .lss (t 25) (t 26))] [25, 26])
  (.cond (t 27)
   (.skip)
   (.exit 2)))
  (.seq (.block 3 (.seq (.ops [mv 10 (k 0)] [])
  (.block 4 (.loop (.seq (.seq (.ops [mv 30 (t 10),
   mv 31 (t 1),
   o 32 (.ibin .lss (t 30) (t 31))] [30, 31])
   (.cond (t 32)
    (.skip)
    (.exit 4)))
   (.seq (.block 5 (.seq (.ops [mv 11 (k 0)] [])
   (.block 6 (.loop (.seq (.seq (.ops [mv 35 (t 11),
    mv 36 (t 1),
    o 37 (.ibin .lss (t 35) (t 36))] [35, 36])
    (.cond (t 37)
     (.skip)
     (.exit 6)))
    (.seq (.block 7 (.seq (.ops [la 40 2 (t 3),
    mv 41 (t 10),
    mv 42 (t 11),
    ca 43 F.law18_linked [(t 40), (t 41), (t 42)]] [40, 41, 42])
    (.cond (t 43)
     (.draw (.take (mv 44 (t 7)) (.take (mv 45 (t 11)) (.take (mv 46 (t 7)) (.take (mv 47 (t 11)) (.take (o 48 (.iaddr 1 (t 46) (t 47))) (.take (l1 49 (t 48)) (.take (mv 50 (t 7)) (.take (mv 51 (t 10)) (.take (o 52 (.iaddr 1 (t 50) (t 51))) (.take (l1 53 (t 52)) (.take (ad 54 (t 53) (k 1)) (.take (o 55 (.imm false (t 49) (t 54))) (.take (o 56 (.iaddr 1 (t 44) (t 45))) (.alt (st 1 (t 56) (t 55)) false
      (.done)
      (.none))))))))))))))) [44, 45, 46, 47, 48, 49, 50, 51, 52, 53, 54, 55, 56])
     (.skip))))
    (.ops [mv 38 (t 11),
    ad 39 (t 38) (k 1),
    mv 11 (t 39)] [38, 39])))))))
   (.ops [mv 33 (t 10),
   ad 34 (t 33) (k 1),
   mv 10 (t 34)] [33, 34])))))))
  (.ops [mv 28 (t 9),
  ad 29 (t 28) (k 1),
  mv 9 (t 29)] [28, 29]))))))
 (.seq (.ops [mv 57 (t 7),
 mv 6 (t 57)] [7, 57])
 (.ret))))))
def r_law18_lengths : List RRes := [.tmp 6]
theorem fo_law18_lengths {args : List Value} {M : Mem} {R : Value → Mem → Prop} (hn : args.length ≤ 58) (h : vfn Try.prog c_law18_lengths r_law18_lengths args M R) : CallsM Try.prog F.law18_lengths args M R :=
  fn_ok (kf := k_law18_lengths) Try.func12 (by kernel_rfl) (by kernel_rfl) hn (by kernel_rfl) h
/-- (*portage/routes.Table).Cost -/
def k_routes_Table_Cost (i : Nat) : List Nat := match i with | 0 => [4] | 1 => [9, 10, 11, 12, 13, 14] | 3 => [16, 17, 18, 19, 20] | 5 => [22, 23, 24, 25, 26, 27, 28, 29, 30] | 6 => [6] | 7 => [0, 1, 5, 32, 33, 34, 35] | 9 => [36, 37, 38, 39] | 10 => [41] | 11 => [43, 44] | 12 => [8, 45, 46, 47, 48, 49, 50] | 13 => [7, 51] | _ => []
def c_routes_Table_Cost : RCode :=
 .seq (.ops [mv 4 (k 0)] [4])
 (.seq (.seq (.ops [mv 9 (t 0),
 o 10 (.pnil .eql (t 9) (.const (.pointer none))),
 os 11 (.mov (t 10)),
 gf 11 12 (.mov (t 1)),
 gf 11 13 (.call (fn F.routes_node) [(t 12)]),
 gf 11 14 (.not (t 13)),
 o 15 (.pick (t 11) (kb true) (t 14))] [9, 10, 11, 12, 13, 14])
 (.cond (t 15)
  (.seq (.ops [mv 4 (k 16)] [])
  (.ret))
  (.skip)))
 (.seq (.seq (.ops [mv 16 (t 1),
 mv 17 (t 0),
 o 18 (.nilck (t 17)),
 fa 19 0 (t 18),
 l1 20 (t 19),
 o 21 (.ibin .eql (t 16) (t 20))] [16, 17, 18, 19, 20])
 (.cond (t 21)
  (.seq (.ops [mv 4 (k 0)] [])
  (.ret))
  (.skip)))
 (.seq (.seq (.ops [mv 23 (t 0),
 o 24 (.nilck (t 23)),
 fa 25 3 (t 24),
 l1 26 (t 25),
 mv 27 (t 1),
 o 28 (.mget .int true (i 0) (t 26) (t 27)),
 mv 22 (t 28),
 ex 29 (t 22) 0,
 ex 30 (t 22) 1,
 mv 5 (t 29),
 mv 6 (t 30)] [22, 23, 24, 25, 26, 27, 28, 29, 30])
 (.seq (.ops [mv 31 (t 6)] [6])
 (.cond (t 31)
  (.seq (.ops [mv 32 (t 0),
  mv 33 (t 1),
  mv 34 (t 5),
  ca 35 F.routes_Table_cost [(t 32), (t 33), (t 34)],
  mv 4 (t 35)] [0, 1, 5, 32, 33, 34, 35])
  (.ret))
  (.skip))))
 (.seq (.ops [mv 7 (k 16)] [])
 (.seq (.seq (.ops [mv 36 (t 0),
 o 37 (.nilck (t 36)),
 fa 38 4 (t 37),
 l1 39 (t 38),
 o 40 (.mrange (t 39))] [36, 37, 38, 39])
 (.block 0 (.loop (.seq (.ops [o 41 (.mnext (t 40)),
  ex 42 (t 41) 0] [41])
  (.seq (.cond (t 42)
   (.skip)
   (.exit 0))
  (.block 1 (.seq (.ops [o 43 (.mentry (t 40)),
  ex 44 (t 43) 0,
  mv 8 (t 44)] [43, 44])
  (.ops [mv 45 (t 7),
  mv 46 (t 0),
  mv 47 (t 1),
  mv 48 (t 8),
  ca 49 F.routes_Table_cost [(t 46), (t 47), (t 48)],
  o 50 (.imm false (t 45) (t 49)),
  mv 7 (t 50)] [8, 45, 46, 47, 48, 49, 50]))))))))
 (.seq (.ops [mv 51 (t 7),
 mv 4 (t 51)] [7, 51])
 (.ret)))))))
def r_routes_Table_Cost : List RRes := [.tmp 4]
theorem fo_routes_Table_Cost {args : List Value} {M : Mem} {R : Value → Mem → Prop} (hn : args.length ≤ 52) (h : vfn Try.prog c_routes_Table_Cost r_routes_Table_Cost args M R) : CallsM Try.prog F.routes_Table_Cost args M R :=
  fn_ok (kf := k_routes_Table_Cost) Try.func13 (by kernel_rfl) (by kernel_rfl) hn (by kernel_rfl) h
/-- (*portage/routes.Table).Next -/
def k_routes_Table_Next (i : Nat) : List Nat := match i with | 0 => [4, 5] | 1 => [11, 12, 13, 14, 15, 16, 17, 18, 19, 20, 21, 22, 23, 24] | 3 => [26, 27, 28, 29, 30, 31, 32, 33, 34] | 4 => [7] | 5 => [6, 36] | 6 => [37, 38, 39] | 7 => [40, 41, 42] | 9 => [47, 48] | 10 => [49, 50, 51, 52, 53, 54, 55, 56, 57] | 11 => [10, 59] | 12 => [60] | _ => []
def c_routes_Table_Next : RCode :=
 .seq (.ops [mv 4 (k 0),
 mv 5 (kb false)] [4, 5])
 (.seq (.seq (.ops [mv 11 (t 0),
 o 12 (.pnil .eql (t 11) (.const (.pointer none))),
 os 13 (.mov (t 12)),
 gf 13 14 (.mov (t 1)),
 gf 13 15 (.call (fn F.routes_node) [(t 14)]),
 gf 13 16 (.not (t 15)),
 o 17 (.pick (t 13) (kb true) (t 16)),
 os 18 (.mov (t 17)),
 gf 18 19 (.mov (t 1)),
 gf 18 20 (.mov (t 0)),
 gf 18 21 (.nilck (t 20)),
 gf 18 22 (.faddr 0 (t 21)),
 gf 18 23 (.load false 1 (t 22)),
 gf 18 24 (.ibin .eql (t 19) (t 23)),
 o 25 (.pick (t 18) (kb true) (t 24))] [11, 12, 13, 14, 15, 16, 17, 18, 19, 20, 21, 22, 23, 24])
 (.cond (t 25)
  (.seq (.ops [mv 4 (k 0),
  mv 5 (kb false)] [])
  (.ret))
  (.skip)))
 (.seq (.seq (.ops [mv 27 (t 0),
 o 28 (.nilck (t 27)),
 fa 29 3 (t 28),
 l1 30 (t 29),
 mv 31 (t 1),
 o 32 (.mget .int true (i 0) (t 30) (t 31)),
 mv 26 (t 32),
 ex 33 (t 26) 0,
 ex 34 (t 26) 1,
 mv 6 (t 33),
 mv 7 (t 34)] [26, 27, 28, 29, 30, 31, 32, 33, 34])
 (.seq (.ops [mv 35 (t 7)] [7])
 (.cond (t 35)
  (.seq (.ops [mv 36 (t 6),
  mv 4 (t 36),
  mv 5 (kb true)] [6, 36])
  (.ret))
  (.skip))))
 (.seq (.ops [mv 37 (t 0),
 mv 38 (t 1),
 ca 39 F.routes_Table_Cost [(t 37), (t 38)],
 mv 8 (t 39)] [37, 38, 39])
 (.seq (.seq (.ops [mv 40 (t 0),
 o 41 (.nilck (t 40)),
 fa 42 2 (t 41),
 l1 43 (t 42),
 o 44 (.len (t 43)),
 mv 45 (k 0)] [40, 41, 42])
 (.block 0 (.loop (.seq (.ops [o 46 (.ibin .lss (t 45) (t 44))] [])
  (.seq (.cond (t 46)
   (.skip)
   (.exit 0))
  (.seq (.block 1 (.seq (.ops [o 47 (.iaddr 1 (t 43) (t 45)),
  l1 48 (t 47),
  mv 10 (t 48)] [47, 48])
  (.seq (.ops [mv 49 (t 8),
  o 50 (.ibin .lss (t 49) (k 16)),
  os 51 (.mov (t 50)),
  gt 51 52 (.mov (t 0)),
  gt 51 53 (.mov (t 1)),
  gt 51 54 (.mov (t 10)),
  gt 51 55 (.call (fn F.routes_Table_cost) [(t 52), (t 53), (t 54)]),
  gt 51 56 (.mov (t 8)),
  gt 51 57 (.ibin .eql (t 55) (t 56)),
  o 58 (.pick (t 51) (t 57) (kb false))] [49, 50, 51, 52, 53, 54, 55, 56, 57])
  (.cond (t 58)
   (.seq (.ops [mv 59 (t 10),
   mv 4 (t 59),
   mv 5 (kb true)] [10, 59])
   (.ret))
   (.skip)))))
  (.ops [ad 60 (t 45) (k 1),
  mv 45 (t 60)] [60])))))))
 (.seq (.ops [mv 4 (k 0),
 mv 5 (kb false)] [])
 (.ret))))))
def r_routes_Table_Next : List RRes := [.tmp 4, .tmp 5]
theorem fo_routes_Table_Next {args : List Value} {M : Mem} {R : Value → Mem → Prop} (hn : args.length ≤ 61) (h : vfn Try.prog c_routes_Table_Next r_routes_Table_Next args M R) : CallsM Try.prog F.routes_Table_Next args M R :=
  fn_ok (kf := k_routes_Table_Next) Try.func14 (by kernel_rfl) (by kernel_rfl) hn (by kernel_rfl) h
/-- portage/portagelaw18.linked -/
def k_law18_linked (i : Nat) : List Nat := match i with | 0 => [0, 6] | 1 => [7, 8] | 2 => [10, 11] | 3 => [1, 2, 3, 12, 13, 14, 15, 16, 17, 18, 19, 20, 21, 22, 23, 24, 25, 26, 27, 28, 29, 30, 31, 32] | _ => []
def c_law18_linked : RCode :=
 .seq (.ops [o 3 (.box 24 (t 0)),
 mv 6 (kb false)] [0, 6])
 (.seq (.seq (.ops [mv 7 (t 1),
 mv 8 (t 2),
 o 9 (.ibin .gtr (t 7) (t 8))] [7, 8])
 (.cond (t 9)
  (.ops [mv 10 (t 2),
  mv 11 (t 1),
  mv 1 (t 10),
  mv 2 (t 11)] [10, 11])
  (.skip)))
 (.seq (.ops [mv 12 (t 2),
 mv 13 (t 1),
 ad 14 (t 13) (k 1),
 o 15 (.ibin .eql (t 12) (t 14)),
 os 16 (.mov (t 15)),
 gf 16 17 (.mov (t 1)),
 gf 16 18 (.mov (t 2)),
 gf 16 19 (.ibin .neq (t 17) (t 18)),
 ⟨(some 20), .mov (t 19), some (16, false), true⟩,
 gt 20 21 (.faddr 1 (t 3)),
 gt 20 22 (.load false 1 (t 21)),
 gt 20 23 (.mov (t 1)),
 gt 20 24 (.ibin .mul (k 8) (t 23)),
 gt 20 25 (.mov (t 2)),
 gt 20 26 (.ibin .add (t 24) (t 25)),
 gt 20 27 (.conv .u64 (t 26)),
 gt 20 28 (.ibin .shr (t 22) (t 27)),
 gt 20 29 (.ibin .and (t 28) (.const (.int .u64 1))),
 gt 20 30 (.ibin .eql (t 29) (.const (.int .u64 1))),
 gf 16 31 (.pick (t 20) (t 30) (kb false)),
 o 32 (.pick (t 16) (kb true) (t 31)),
 mv 6 (t 32)] [1, 2, 3, 12, 13, 14, 15, 16, 17, 18, 19, 20, 21, 22, 23, 24, 25, 26, 27, 28, 29, 30, 31, 32])
 (.ret)))
def r_law18_linked : List RRes := [.tmp 6]
theorem fo_law18_linked {args : List Value} {M : Mem} {R : Value → Mem → Prop} (hn : args.length ≤ 33) (h : vfn Try.prog c_law18_linked r_law18_linked args M R) : CallsM Try.prog F.law18_linked args M R :=
  fn_ok (kf := k_law18_linked) Try.func15 (by kernel_rfl) (by kernel_rfl) hn (by kernel_rfl) h
/-- portage/portagelaw18.awake -/
def k_law18_awake (i : Nat) : List Nat := match i with | 0 => [0] | 1 => [6, 7, 8, 9, 10] | 2 => [2, 11, 12, 13, 14, 15, 16, 17, 18, 19, 20, 21] | 4 => [23, 24, 25, 26, 27] | 5 => [28, 29] | 6 => [1, 3, 4, 5, 30, 31, 32, 33, 34, 35, 36, 37, 38, 39, 40, 41, 42, 43, 44, 45, 46, 47, 48, 49, 50] | _ => []
def c_law18_awake : RCode :=
 .seq (.ops [mv 0 (kb false)] [0])
 (.seq (.ops [o 7 (.mkSl false 3 2 [(i 0), (i 0)] [(0, 1, (k 0)), (1, 1, (k 2))]),
 ca 8 F.routes_New [(k 1), (t 7), (k 9)],
 mv 6 (t 8),
 ex 9 (t 6) 0,
 ex 10 (t 6) 1,
 mv 1 (t 9),
 mv 2 (t 10)] [6, 7, 8, 9, 10])
 (.seq (.seq (.ops [mv 11 (t 2),
 o 12 (.ibin .neq (t 11) (k 0)),
 os 13 (.mov (t 12)),
 gf 13 14 (.mov (t 1)),
 gf 13 15 (.pnil .eql (t 14) (.const (.pointer none))),
 o 16 (.pick (t 13) (kb true) (t 15)),
 os 17 (.mov (t 16)),
 gf 17 18 (.mov (t 1)),
 gf 17 19 (.call (fn F.law18_flat) [(k 3), (k 1)]),
 gf 17 20 (.call (fn F.routes_Table_Hear) [(t 18), (k 2), (t 19)]),
 gf 17 21 (.ibin .neq (t 20) (k 0)),
 o 22 (.pick (t 17) (kb true) (t 21))] [2, 11, 12, 13, 14, 15, 16, 17, 18, 19, 20, 21])
 (.cond (t 22)
  (.seq (.ops [mv 0 (kb false)] [])
  (.ret))
  (.skip)))
 (.seq (.ops [mv 24 (t 1),
 ca 25 F.routes_Table_Next [(t 24), (k 3)],
 mv 23 (t 25),
 ex 26 (t 23) 0,
 ex 27 (t 23) 1,
 mv 3 (t 26),
 mv 4 (t 27)] [23, 24, 25, 26, 27])
 (.seq (.ops [mv 28 (t 1),
 ca 29 F.routes_Table_Vector [(t 28), (k 2)],
 mv 5 (t 29)] [28, 29])
 (.seq (.ops [mv 30 (t 4),
 os 31 (.mov (t 30)),
 gt 31 32 (.mov (t 3)),
 gt 31 33 (.ibin .eql (t 32) (k 2)),
 o 34 (.pick (t 31) (t 33) (kb false)),
 os 35 (.mov (t 34)),
 gt 35 36 (.mov (t 1)),
 gt 35 37 (.call (fn F.routes_Table_Cost) [(t 36), (k 3)]),
 gt 35 38 (.ibin .eql (t 37) (k 2)),
 o 39 (.pick (t 35) (t 38) (kb false)),
 os 40 (.mov (t 39)),
 gt 40 41 (.mov (t 5)),
 gt 40 42 (.len (t 41)),
 gt 40 43 (.ibin .eql (t 42) (k 64)),
 o 44 (.pick (t 40) (t 43) (kb false)),
 os 45 (.mov (t 44)),
 gt 45 46 (.mov (t 5)),
 gt 45 47 (.iaddr 1 (t 46) (k 3)),
 gt 45 48 (.load false 1 (t 47)),
 gt 45 49 (.ibin .eql (t 48) (k 16)),
 o 50 (.pick (t 45) (t 49) (kb false)),
 mv 0 (t 50)] [1, 3, 4, 5, 30, 31, 32, 33, 34, 35, 36, 37, 38, 39, 40, 41, 42, 43, 44, 45, 46, 47, 48, 49, 50])
 (.ret))))))
def r_law18_awake : List RRes := [.tmp 0]
theorem fo_law18_awake {args : List Value} {M : Mem} {R : Value → Mem → Prop} (hn : args.length ≤ 51) (h : vfn Try.prog c_law18_awake r_law18_awake args M R) : CallsM Try.prog F.law18_awake args M R :=
  fn_ok (kf := k_law18_awake) Try.func16 (by kernel_rfl) (by kernel_rfl) hn (by kernel_rfl) h
/-- portage/routes.New -/
def k_routes_New (i : Nat) : List Nat := match i with | 0 => [6, 7] | 1 => [11, 12, 13, 14, 15, 16, 17, 18, 19, 20] | 6 => [26, 27] | 7 => [8, 28, 29, 30, 31, 32, 33, 34, 35, 36, 37, 38, 39] | 9 => [10, 41] | 10 => [42] | 11 => [0, 1, 2, 43, 44, 45, 46, 47, 48, 49, 50, 51] | _ => []
def c_routes_New : RCode :=
 .seq (.ops [mv 6 (.const (.pointer none)),
 mv 7 (k 0)] [6, 7])
 (.seq (.seq (.ops [mv 11 (t 0),
 ca 12 F.routes_node [(t 11)],
 o 13 (.not (t 12)),
 os 14 (.mov (t 13)),
 gf 14 15 (.mov (t 2)),
 gf 14 16 (.ibin .lss (t 15) (k 1)),
 o 17 (.pick (t 14) (kb true) (t 16)),
 os 18 (.mov (t 17)),
 gf 18 19 (.mov (t 2)),
 gf 18 20 (.ibin .gtr (t 19) (k 64)),
 o 21 (.pick (t 18) (kb true) (t 20))] [11, 12, 13, 14, 15, 16, 17, 18, 19, 20])
 (.cond (t 21)
  (.seq (.ops [mv 6 (.const (.pointer none)),
  mv 7 (k 1)] [])
  (.ret))
  (.skip)))
 (.seq (.ops [mv 8 (k (-1))] [])
 (.seq (.seq (.ops [mv 22 (t 1),
 o 23 (.len (t 22)),
 mv 24 (k 0)] [])
 (.block 0 (.loop (.seq (.ops [o 25 (.ibin .lss (t 24) (t 23))] [])
  (.seq (.cond (t 25)
   (.skip)
   (.exit 0))
  (.seq (.block 1 (.seq (.ops [o 26 (.iaddr 1 (t 22) (t 24)),
  l1 27 (t 26),
  mv 10 (t 27)] [26, 27])
  (.seq (.seq (.ops [mv 28 (t 10),
  ca 29 F.routes_node [(t 28)],
  o 30 (.not (t 29)),
  os 31 (.mov (t 30)),
  gf 31 32 (.mov (t 10)),
  gf 31 33 (.mov (t 0)),
  gf 31 34 (.ibin .eql (t 32) (t 33)),
  o 35 (.pick (t 31) (kb true) (t 34)),
  os 36 (.mov (t 35)),
  gf 36 37 (.mov (t 10)),
  gf 36 38 (.mov (t 8)),
  gf 36 39 (.ibin .leq (t 37) (t 38)),
  o 40 (.pick (t 36) (kb true) (t 39))] [8, 28, 29, 30, 31, 32, 33, 34, 35, 36, 37, 38, 39])
  (.cond (t 40)
   (.seq (.ops [mv 6 (.const (.pointer none)),
   mv 7 (k 2)] [])
   (.ret))
   (.skip)))
  (.ops [mv 41 (t 10),
  mv 8 (t 41)] [10, 41]))))
  (.ops [ad 42 (t 24) (k 1),
  mv 24 (t 42)] [42])))))))
 (.seq (.ops [mv 43 (t 0),
 mv 44 (t 2),
 o 45 (.mkSl false 3 0 [] []),
 mv 46 (t 1),
 o 47 (.app 3 1 8 [(i 0)] (t 45) (t 46)),
 o 48 (.mkMap),
 o 49 (.mkMap),
 o 50 (.build [(i 0), (i 0), sn, (.map none), (.map none)] [(0, 1, (t 43)), (1, 1, (t 44)), (2, 1, (t 47)), (3, 1, (t 48)), (4, 1, (t 49))]),
 o 51 (.box 75 (t 50)),
 mv 6 (t 51),
 mv 7 (k 0)] [0, 1, 2, 43, 44, 45, 46, 47, 48, 49, 50, 51])
 (.ret)))))
def r_routes_New : List RRes := [.tmp 6, .tmp 7]
theorem fo_routes_New {args : List Value} {M : Mem} {R : Value → Mem → Prop} (hn : args.length ≤ 52) (h : vfn Try.prog c_routes_New r_routes_New args M R) : CallsM Try.prog F.routes_New args M R :=
  fn_ok (kf := k_routes_New) Try.func17 (by kernel_rfl) (by kernel_rfl) hn (by kernel_rfl) h
/-- portage/portageref18.New -/
def k_ref18_New (i : Nat) : List Nat := match i with | 0 => [7] | 1 => [9, 10, 11, 12, 13, 14, 15, 16, 17, 18] | 2 => [20] | 4 => [21, 22, 23] | 6 => [27, 28, 29, 30, 31, 32, 33, 34, 35, 36, 37, 38, 39, 40, 41, 42, 43, 44, 45, 46, 47, 48, 49, 50, 51, 52, 53, 54, 55] | 7 => [57] | 5 => [25, 26] | 8 => [0, 1, 2, 58, 59, 60, 61, 62, 63] | _ => []
def c_ref18_New : RCode :=
 .seq (.ops [o 6 (.alloc 50 [(i 0), (i 0), sn, sn, sn]),
 mv 7 (k 0)] [7])
 (.seq (.seq (.ops [mv 9 (t 0),
 ca 10 F.ref18_Node [(t 9)],
 o 11 (.not (t 10)),
 os 12 (.mov (t 11)),
 gf 12 13 (.mov (t 2)),
 gf 12 14 (.ibin .lss (t 13) (k 1)),
 o 15 (.pick (t 12) (kb true) (t 14)),
 os 16 (.mov (t 15)),
 gf 16 17 (.mov (t 2)),
 gf 16 18 (.ibin .gtr (t 17) (k 64)),
 o 19 (.pick (t 16) (kb true) (t 18))] [9, 10, 11, 12, 13, 14, 15, 16, 17, 18])
 (.cond (t 19)
  (.seq (.ops [o 20 (.build [(i 0), (i 0), sn, sn, sn] []),
  st 5 (t 6) (t 20),
  mv 7 (k 1)] [20])
  (.ret))
  (.skip)))
 (.seq (.seq (.ops [mv 8 (k 0)] [])
 (.block 0 (.loop (.seq (.seq (.ops [mv 21 (t 8),
  mv 22 (t 1),
  o 23 (.len (t 22)),
  o 24 (.ibin .lss (t 21) (t 23))] [21, 22, 23])
  (.cond (t 24)
   (.skip)
   (.exit 0)))
  (.seq (.block 1 (.seq (.draw (.take (mv 27 (t 1)) (.take (mv 28 (t 8)) (.take (o 29 (.iaddr 1 (t 27) (t 28))) (.take (l1 30 (t 29)) (.alt (ca 31 F.ref18_Node [(t 30)]) true
   (.take (o 32 (.not (t 31))) (.take (os 33 (.mov (t 32))) (.take (gf 33 34 (.mov (t 1))) (.take (gf 33 35 (.mov (t 8))) (.take (gf 33 36 (.iaddr 1 (t 34) (t 35))) (.take (gf 33 37 (.load false 1 (t 36))) (.take (gf 33 38 (.mov (t 0))) (.take (gf 33 39 (.ibin .eql (t 37) (t 38))) (.take (o 40 (.pick (t 33) (kb true) (t 39))) (.take (os 41 (.mov (t 40))) (.take (gf 41 42 (.mov (t 8))) (.take (gf 41 43 (.ibin .gtr (t 42) (k 0))) (.take (⟨(some 44), .mov (t 43), some (41, false), true⟩) (.take (gt 44 45 (.mov (t 1))) (.take (gt 44 46 (.mov (t 8))) (.take (gt 44 47 (.iaddr 1 (t 45) (t 46))) (.take (gt 44 48 (.load false 1 (t 47))) (.take (gt 44 49 (.mov (t 1))) (.take (gt 44 50 (.mov (t 8))) (.take (gt 44 51 (.ibin .sub (t 50) (k 1))) (.take (gt 44 52 (.iaddr 1 (t 49) (t 51))) (.take (gt 44 53 (.load false 1 (t 52))) (.take (gt 44 54 (.ibin .leq (t 48) (t 53))) (.take (gf 41 55 (.pick (t 44) (t 54) (kb false))) (.take (o 56 (.pick (t 41) (kb true) (t 55))) (.done))))))))))))))))))))))))))
   (.none)))))) [27, 28, 29, 30, 31, 32, 33, 34, 35, 36, 37, 38, 39, 40, 41, 42, 43, 44, 45, 46, 47, 48, 49, 50, 51, 52, 53, 54, 55])
  (.cond (t 56)
   (.seq (.ops [o 57 (.build [(i 0), (i 0), sn, sn, sn] []),
   st 5 (t 6) (t 57),
   mv 7 (k 2)] [57])
   (.ret))
   (.skip))))
  (.ops [mv 25 (t 8),
  ad 26 (t 25) (k 1),
  mv 8 (t 26)] [25, 26]))))))
 (.seq (.ops [mv 58 (t 0),
 mv 59 (t 2),
 o 60 (.mkSl false 3 0 [] []),
 mv 61 (t 1),
 o 62 (.app 3 1 8 [(i 0)] (t 60) (t 61)),
 o 63 (.build [(i 0), (i 0), sn, sn, sn] [(0, 1, (t 58)), (1, 1, (t 59)), (2, 1, (t 62))]),
 st 5 (t 6) (t 63),
 mv 7 (k 0)] [0, 1, 2, 58, 59, 60, 61, 62, 63])
 (.ret))))
def r_ref18_New : List RRes := [.cell true 5 6, .tmp 7]
theorem fo_ref18_New {args : List Value} {M : Mem} {R : Value → Mem → Prop} (hn : args.length ≤ 64) (h : vfn Try.prog c_ref18_New r_ref18_New args M R) : CallsM Try.prog F.ref18_New args M R :=
  fn_ok (kf := k_ref18_New) Try.func18 (by kernel_rfl) (by kernel_rfl) hn (by kernel_rfl) h
/-- (*portage/routes.Table).Tick -/
def k_routes_Table_Tick (i : Nat) : List Nat := match i with | 0 => [2] | 1 => [6] | 3 => [8] | 5 => [13, 14] | 6 => [15, 16, 17, 18, 19, 20] | 7 => [21, 22, 23, 24] | 8 => [25, 26, 27, 28, 29, 30] | 9 => [5, 31, 32] | 10 => [4, 34, 35, 36, 37, 38] | 11 => [39] | _ => []
def c_routes_Table_Tick : RCode :=
 .seq (.ops [mv 2 (k 0)] [2])
 (.seq (.seq (.ops [mv 6 (t 0),
 o 7 (.pnil .eql (t 6) (.const (.pointer none)))] [6])
 (.cond (t 7)
  (.seq (.ops [mv 2 (k 7)] [])
  (.ret))
  (.skip)))
 (.seq (.seq (.ops [mv 8 (t 0),
 ca 9 F.routes_Table_Heard [(t 8)],
 o 10 (.len (t 9)),
 mv 11 (k 0)] [8])
 (.block 0 (.loop (.seq (.ops [o 12 (.ibin .lss (t 11) (t 10))] [])
  (.seq (.cond (t 12)
   (.skip)
   (.exit 0))
  (.seq (.block 1 (.seq (.ops [o 13 (.iaddr 1 (t 9) (t 11)),
  l1 14 (t 13),
  mv 4 (t 14)] [13, 14])
  (.seq (.ops [mv 15 (t 0),
  o 16 (.nilck (t 15)),
  fa 17 4 (t 16),
  l1 18 (t 17),
  mv 19 (t 4),
  o 20 (.mget .int false (.agg #[(i 0), (i 0), (i 0), (i 0), (i 0), (i 0), (i 0), (i 0), (i 0), (i 0), (i 0), (i 0), (i 0), (i 0), (i 0), (i 0), (i 0), (i 0), (i 0), (i 0), (i 0), (i 0), (i 0), (i 0), (i 0), (i 0), (i 0), (i 0), (i 0), (i 0), (i 0), (i 0), (i 0), (i 0), (i 0), (i 0), (i 0), (i 0), (i 0), (i 0), (i 0), (i 0), (i 0), (i 0), (i 0), (i 0), (i 0), (i 0), (i 0), (i 0), (i 0), (i 0), (i 0), (i 0), (i 0), (i 0), (i 0), (i 0), (i 0), (i 0), (i 0), (i 0), (i 0), (i 0), (i 0)]) (t 18) (t 19)),
  o 5 (.alloc 78 [(i 0), (i 0), (i 0), (i 0), (i 0), (i 0), (i 0), (i 0), (i 0), (i 0), (i 0), (i 0), (i 0), (i 0), (i 0), (i 0), (i 0), (i 0), (i 0), (i 0), (i 0), (i 0), (i 0), (i 0), (i 0), (i 0), (i 0), (i 0), (i 0), (i 0), (i 0), (i 0), (i 0), (i 0), (i 0), (i 0), (i 0), (i 0), (i 0), (i 0), (i 0), (i 0), (i 0), (i 0), (i 0), (i 0), (i 0), (i 0), (i 0), (i 0), (i 0), (i 0), (i 0), (i 0), (i 0), (i 0), (i 0), (i 0), (i 0), (i 0), (i 0), (i 0), (i 0), (i 0), (i 0)]),
  st 65 (t 5) (t 20)] [15, 16, 17, 18, 19, 20])
  (.seq (.ops [fa 21 64 (t 5),
  l1 22 (t 21),
  o 23 (.ibin .sub (t 22) (k 1)),
  fa 24 64 (t 5),
  st 1 (t 24) (t 23)] [21, 22, 23, 24])
  (.seq (.draw (.take (mv 25 (t 0)) (.take (o 26 (.nilck (t 25))) (.take (fa 27 4 (t 26)) (.take (l1 28 (t 27)) (.take (mv 29 (t 4)) (.take (la 30 65 (t 5)) (.alt (e (.mset .int (t 28) (t 29) (t 30))) false
   (.done)
   (.none)))))))) [25, 26, 27, 28, 29, 30])
  (.seq (.ops [fa 31 64 (t 5),
  l1 32 (t 31),
  o 33 (.ibin .eql (t 32) (k 0))] [5, 31, 32])
  (.cond (t 33)
   (.ops [mv 34 (t 0),
   o 35 (.nilck (t 34)),
   fa 36 4 (t 35),
   l1 37 (t 36),
   mv 38 (t 4),
   e (.mdel .int (t 37) (t 38))] [4, 34, 35, 36, 37, 38])
   (.skip))))))))
  (.ops [ad 39 (t 11) (k 1),
  mv 11 (t 39)] [39])))))))
 (.seq (.ops [mv 2 (k 0)] [])
 (.ret))))
def r_routes_Table_Tick : List RRes := [.tmp 2]
theorem fo_routes_Table_Tick {args : List Value} {M : Mem} {R : Value → Mem → Prop} (hn : args.length ≤ 40) (h : vfn Try.prog c_routes_Table_Tick r_routes_Table_Tick args M R) : CallsM Try.prog F.routes_Table_Tick args M R :=
  fn_ok (kf := k_routes_Table_Tick) Try.func19 (by kernel_rfl) (by kernel_rfl) hn (by kernel_rfl) h
/-- portage/portagelaw18.play -/
def k_law18_play (i : Nat) : List Nat := match i with | 0 => [1, 2, 7] | 1 => [15] | 2 => [18] | 3 => [4, 19, 20, 21, 22, 23, 24, 25, 26, 27] | 4 => [0, 5, 8, 9, 28, 29, 30, 31, 32, 33, 34, 35, 36] | 5 => [38] | 6 => [39, 40, 41, 42] | 7 => [4, 43, 44, 45, 46, 47, 48, 49, 50, 51] | 8 => [0, 5, 52, 53, 54, 55, 56] | 10 => [57, 58, 59] | 12 => [63, 64, 65] | 11 => [61, 62] | 13 => [11, 12, 13, 66, 67, 68, 69] | 14 => [16, 71] | 15 => [0, 4, 72, 73, 74, 75, 76] | 16 => [4, 77] | _ => []
def c_law18_play : RCode :=
 .seq (.ops [o 4 (.box 50 (t 1)),
 o 5 (.box 30 (t 2)),
 o 6 (.alloc 50 [(i 0), (i 0), sn, sn, sn]),
 mv 7 (kb false)] [1, 2, 7])
 (.seq (.seq (.ops [fa 15 0 (t 5),
 l1 16 (t 15)] [15])
 (.block 0 (.seq (.ops [o 18 (.ibin .eql (t 16) (k 0)),
 mv 17 (t 18)] [18])
 (.cond (t 17)
  (.seq (.ops [la 20 5 (t 4),
  fa 21 1 (t 5),
  l1 22 (t 21),
  fa 23 2 (t 5),
  l1 24 (t 23),
  ca 25 F.ref18_Set [(t 20), (t 22), (t 24)],
  mv 19 (t 25),
  ex 26 (t 19) 0,
  ex 27 (t 19) 1,
  o 8 (.alloc 50 [(i 0), (i 0), sn, sn, sn]),
  st 5 (t 8) (t 26),
  mv 9 (t 27)] [4, 19, 20, 21, 22, 23, 24, 25, 26, 27])
  (.seq (.draw (.take (la 28 5 (t 8)) (.take (mv 29 (t 0)) (.take (fa 30 1 (t 5)) (.take (l1 31 (t 30)) (.take (fa 32 2 (t 5)) (.take (l1 33 (t 32)) (.take (mv 35 (t 9)) (.alt (ca 34 F.routes_Table_Set [(t 29), (t 31), (t 33)]) true
   (.take (o 36 (.ibin .eql (t 34) (t 35))) (.alt (st 5 (t 6) (t 28)) false
    (.take (mv 7 (t 36)) (.done))
    (.none)))
   (.none))))))))) [0, 5, 8, 9, 28, 29, 30, 31, 32, 33, 34, 35, 36])
  (.ret)))
  (.seq (.ops [o 38 (.ibin .eql (t 16) (k 1)),
  mv 37 (t 38)] [38])
  (.cond (t 37)
   (.seq (.ops [o 39 (.mkSl false 3 0 [] []),
   fa 40 3 (t 5),
   l1 41 (t 40),
   o 42 (.app 3 1 8 [(i 0)] (t 39) (t 41)),
   mv 10 (t 42)] [39, 40, 41, 42])
   (.seq (.ops [la 44 5 (t 4),
   fa 45 2 (t 5),
   l1 46 (t 45),
   fa 47 3 (t 5),
   l1 48 (t 47),
   ca 49 F.ref18_Hear [(t 44), (t 46), (t 48)],
   mv 43 (t 49),
   ex 50 (t 43) 0,
   ex 51 (t 43) 1,
   o 11 (.alloc 50 [(i 0), (i 0), sn, sn, sn]),
   st 5 (t 11) (t 50),
   mv 12 (t 51)] [4, 43, 44, 45, 46, 47, 48, 49, 50, 51])
   (.seq (.ops [mv 52 (t 0),
   fa 53 2 (t 5),
   l1 54 (t 53),
   mv 55 (t 10),
   ca 56 F.routes_Table_Hear [(t 52), (t 54), (t 55)],
   mv 13 (t 56)] [0, 5, 52, 53, 54, 55, 56])
   (.seq (.seq (.ops [mv 14 (k 0)] [])
   (.block 1 (.loop (.seq (.seq (.ops [mv 57 (t 14),
    mv 58 (t 10),
    o 59 (.len (t 58)),
    o 60 (.ibin .lss (t 57) (t 59))] [57, 58, 59])
    (.cond (t 60)
     (.skip)
     (.exit 1)))
    (.seq (.block 2 (.ops [mv 63 (t 10),
    mv 64 (t 14),
    o 65 (.iaddr 1 (t 63) (t 64)),
    st 1 (t 65) (k 1)] [63, 64, 65]))
    (.ops [mv 61 (t 14),
    ad 62 (t 61) (k 1),
    mv 14 (t 62)] [61, 62]))))))
   (.seq (.ops [la 66 5 (t 11),
   mv 67 (t 13),
   mv 68 (t 12),
   o 69 (.ibin .eql (t 67) (t 68)),
   st 5 (t 6) (t 66),
   mv 7 (t 69)] [11, 12, 13, 66, 67, 68, 69])
   (.ret))))))
   (.seq (.ops [o 71 (.ibin .eql (t 16) (k 2)),
   mv 70 (t 71)] [16, 71])
   (.cond (t 70)
    (.seq (.ops [la 72 5 (t 4),
    ca 73 F.ref18_Tick [(t 72)],
    mv 74 (t 0),
    ca 75 F.routes_Table_Tick [(t 74)],
    o 76 (.ibin .eql (t 75) (k 0)),
    st 5 (t 6) (t 73),
    mv 7 (t 76)] [0, 4, 72, 73, 74, 75, 76])
    (.ret))
    (.skip)))))))))
 (.seq (.ops [la 77 5 (t 4),
 st 5 (t 6) (t 77),
 mv 7 (kb true)] [4, 77])
 (.ret)))
def r_law18_play : List RRes := [.cell true 5 6, .tmp 7]
theorem fo_law18_play {args : List Value} {M : Mem} {R : Value → Mem → Prop} (hn : args.length ≤ 78) (h : vfn Try.prog c_law18_play r_law18_play args M R) : CallsM Try.prog F.law18_play args M R :=
  fn_ok (kf := k_law18_play) Try.func20 (by kernel_rfl) (by kernel_rfl) hn (by kernel_rfl) h
/-- portage/portageref06.Same -/
def k_ref06_Same (i : Nat) : List Nat := match i with | 0 => [4] | 1 => [6, 7, 8, 9] | 4 => [11, 12, 13] | 6 => [17, 18, 19, 20, 21, 22, 23, 24] | 5 => [15, 16] | _ => []
def c_ref06_Same : RCode :=
 .seq (.ops [mv 4 (kb false)] [4])
 (.seq (.seq (.ops [mv 6 (t 0),
 o 7 (.len (t 6)),
 mv 8 (t 1),
 o 9 (.len (t 8)),
 o 10 (.ibin .neq (t 7) (t 9))] [6, 7, 8, 9])
 (.cond (t 10)
  (.seq (.ops [mv 4 (kb false)] [])
  (.ret))
  (.skip)))
 (.seq (.seq (.ops [mv 5 (k 0)] [])
 (.block 0 (.loop (.seq (.seq (.ops [mv 11 (t 5),
  mv 12 (t 0),
  o 13 (.len (t 12)),
  o 14 (.ibin .lss (t 11) (t 13))] [11, 12, 13])
  (.cond (t 14)
   (.skip)
   (.exit 0)))
  (.seq (.block 1 (.seq (.draw (.take (mv 17 (t 0)) (.take (mv 18 (t 5)) (.take (o 19 (.iaddr 1 (t 17) (t 18))) (.take (l1 20 (t 19)) (.take (mv 21 (t 1)) (.take (mv 22 (t 5)) (.take (o 23 (.iaddr 1 (t 21) (t 22))) (.take (l1 24 (t 23)) (.take (o 25 (.ibin .neq (t 20) (t 24))) (.done)))))))))) [17, 18, 19, 20, 21, 22, 23, 24])
  (.cond (t 25)
   (.seq (.ops [mv 4 (kb false)] [])
   (.ret))
   (.skip))))
  (.ops [mv 15 (t 5),
  ad 16 (t 15) (k 1),
  mv 5 (t 16)] [15, 16]))))))
 (.seq (.ops [mv 4 (kb true)] [])
 (.ret))))
def r_ref06_Same : List RRes := [.tmp 4]
theorem fo_ref06_Same {args : List Value} {M : Mem} {R : Value → Mem → Prop} (hn : args.length ≤ 26) (h : vfn Try.prog c_ref06_Same r_ref06_Same args M R) : CallsM Try.prog F.ref06_Same args M R :=
  fn_ok (kf := k_ref06_Same) Try.func21 (by kernel_rfl) (by kernel_rfl) hn (by kernel_rfl) h
/-- (*portage/routes.Table).Heard -/
def k_routes_Table_Heard (i : Nat) : List Nat := match i with | 0 => [2] | 1 => [5] | 4 => [0, 7, 8, 9, 10] | 5 => [12] | 6 => [14, 15] | 7 => [4, 16, 17, 18, 19] | 8 => [20, 21] | 9 => [3, 22] | _ => []
def c_routes_Table_Heard : RCode :=
 .seq (.ops [mv 2 (.const sn)] [2])
 (.seq (.seq (.ops [mv 5 (t 0),
 o 6 (.pnil .eql (t 5) (.const (.pointer none)))] [5])
 (.cond (t 6)
  (.seq (.ops [mv 2 (.const sn)] [])
  (.ret))
  (.skip)))
 (.seq (.ops [mv 3 (.const sn)] [])
 (.seq (.seq (.ops [mv 7 (t 0),
 o 8 (.nilck (t 7)),
 fa 9 4 (t 8),
 l1 10 (t 9),
 o 11 (.mrange (t 10))] [0, 7, 8, 9, 10])
 (.block 0 (.loop (.seq (.ops [o 12 (.mnext (t 11)),
  ex 13 (t 12) 0] [12])
  (.seq (.cond (t 13)
   (.skip)
   (.exit 0))
  (.block 1 (.seq (.ops [o 14 (.mentry (t 11)),
  ex 15 (t 14) 0,
  mv 4 (t 15)] [14, 15])
  (.ops [mv 16 (t 3),
  mv 17 (t 4),
  o 18 (.mkSl true 3 1 [(i 0)] [(0, 1, (t 17))]),
  o 19 (.app 3 1 8 [(i 0)] (t 16) (t 18)),
  mv 3 (t 19)] [4, 16, 17, 18, 19]))))))))
 (.seq (.ops [mv 20 (t 3),
 ca 21 F.slices_Sort_int_int [(t 20)]] [20, 21])
 (.seq (.ops [mv 22 (t 3),
 mv 2 (t 22)] [3, 22])
 (.ret))))))
def r_routes_Table_Heard : List RRes := [.tmp 2]
theorem fo_routes_Table_Heard {args : List Value} {M : Mem} {R : Value → Mem → Prop} (hn : args.length ≤ 23) (h : vfn Try.prog c_routes_Table_Heard r_routes_Table_Heard args M R) : CallsM Try.prog F.routes_Table_Heard args M R :=
  fn_ok (kf := k_routes_Table_Heard) Try.func22 (by kernel_rfl) (by kernel_rfl) hn (by kernel_rfl) h
/-- portage/portageref18.Froms -/
def k_ref18_Froms (i : Nat) : List Nat := match i with | 0 => [0, 2] | 1 => [5] | 3 => [6, 7, 8, 9] | 5 => [13, 14, 15, 16, 17, 18, 19, 20, 21] | 4 => [11, 12] | 6 => [3, 22] | _ => []
def c_ref18_Froms : RCode :=
 .seq (.ops [o 1 (.box 50 (t 0)),
 mv 2 (.const sn)] [0, 2])
 (.seq (.ops [o 5 (.mkSl false 3 0 [] []),
 mv 3 (t 5)] [5])
 (.seq (.seq (.ops [mv 4 (k 0)] [])
 (.block 0 (.loop (.seq (.seq (.ops [mv 6 (t 4),
  fa 7 4 (t 1),
  l1 8 (t 7),
  o 9 (.len (t 8)),
  o 10 (.ibin .lss (t 6) (t 9))] [6, 7, 8, 9])
  (.cond (t 10)
   (.skip)
   (.exit 0)))
  (.seq (.block 1 (.ops [mv 13 (t 3),
  fa 14 4 (t 1),
  l1 15 (t 14),
  mv 16 (t 4),
  o 17 (.iaddr 3 (t 15) (t 16)),
  fa 18 0 (t 17),
  l1 19 (t 18),
  o 20 (.mkSl true 3 1 [(i 0)] [(0, 1, (t 19))]),
  o 21 (.app 3 1 8 [(i 0)] (t 13) (t 20)),
  mv 3 (t 21)] [13, 14, 15, 16, 17, 18, 19, 20, 21]))
  (.ops [mv 11 (t 4),
  ad 12 (t 11) (k 1),
  mv 4 (t 12)] [11, 12]))))))
 (.seq (.ops [mv 22 (t 3),
 mv 2 (t 22)] [3, 22])
 (.ret))))
def r_ref18_Froms : List RRes := [.tmp 2]
theorem fo_ref18_Froms {args : List Value} {M : Mem} {R : Value → Mem → Prop} (hn : args.length ≤ 23) (h : vfn Try.prog c_ref18_Froms r_ref18_Froms args M R) : CallsM Try.prog F.ref18_Froms args M R :=
  fn_ok (kf := k_ref18_Froms) Try.func23 (by kernel_rfl) (by kernel_rfl) hn (by kernel_rfl) h
/-- portage/portageref18.Next -/
def k_ref18_Next (i : Nat) : List Nat := match i with | 0 => [0, 4, 5] | 1 => [8, 9, 10, 11, 12, 13, 14, 15] | 3 => [17, 18, 19] | 4 => [1, 2, 21, 22, 23] | 6 => [24, 25, 26, 27] | 8 => [31, 32, 33, 34, 35] | 9 => [36, 37, 38, 39, 40, 41, 42, 43, 44, 45, 46, 47, 48, 49] | 10 => [7, 51] | 7 => [29, 30] | _ => []
def c_ref18_Next : RCode :=
 .seq (.ops [o 2 (.box 50 (t 0)),
 mv 4 (k 0),
 mv 5 (kb false)] [0, 4, 5])
 (.seq (.seq (.ops [mv 8 (t 1),
 ca 9 F.ref18_Node [(t 8)],
 o 10 (.not (t 9)),
 os 11 (.mov (t 10)),
 gf 11 12 (.mov (t 1)),
 gf 11 13 (.faddr 0 (t 2)),
 gf 11 14 (.load false 1 (t 13)),
 gf 11 15 (.ibin .eql (t 12) (t 14)),
 o 16 (.pick (t 11) (kb true) (t 15))] [8, 9, 10, 11, 12, 13, 14, 15])
 (.cond (t 16)
  (.seq (.ops [mv 4 (k 0),
  mv 5 (kb false)] [])
  (.ret))
  (.skip)))
 (.seq (.seq (.ops [la 17 5 (t 2),
 mv 18 (t 1),
 ca 19 F.ref18_via [(t 17), (t 18)],
 o 20 (.ibin .geq (t 19) (k 0))] [17, 18, 19])
 (.cond (t 20)
  (.seq (.ops [la 21 5 (t 2),
  mv 22 (t 1),
  ca 23 F.ref18_via [(t 21), (t 22)],
  mv 4 (t 23),
  mv 5 (kb true)] [1, 2, 21, 22, 23])
  (.ret))
  (.skip)))
 (.seq (.seq (.ops [mv 6 (k 0)] [])
 (.block 0 (.loop (.seq (.seq (.ops [mv 24 (t 6),
  fa 25 2 (t 2),
  l1 26 (t 25),
  o 27 (.len (t 26)),
  o 28 (.ibin .lss (t 24) (t 27))] [24, 25, 26, 27])
  (.cond (t 28)
   (.skip)
   (.exit 0)))
  (.seq (.block 1 (.seq (.ops [fa 31 2 (t 2),
  l1 32 (t 31),
  mv 33 (t 6),
  o 34 (.iaddr 1 (t 32) (t 33)),
  l1 35 (t 34),
  mv 7 (t 35)] [31, 32, 33, 34, 35])
  (.seq (.draw (.take (la 36 5 (t 2)) (.take (mv 37 (t 1)) (.take (mv 38 (t 7)) (.alt (ca 39 F.ref18_By [(t 36), (t 37), (t 38)]) true
   (.take (o 40 (.ibin .lss (t 39) (k 16))) (.take (os 41 (.mov (t 40))) (.take (gt 41 42 (.load true 5 (t 2))) (.take (gt 41 43 (.mov (t 1))) (.take (gt 41 44 (.mov (t 7))) (.take (gt 41 46 (.load true 5 (t 2))) (.take (gt 41 47 (.mov (t 1))) (.alt (gt 41 45 (.call (fn F.ref18_By) [(t 42), (t 43), (t 44)])) true
    (.alt (gt 41 48 (.call (fn F.ref18_Cost) [(t 46), (t 47)])) false
     (.take (gt 41 49 (.ibin .eql (t 45) (t 48))) (.take (o 50 (.pick (t 41) (t 49) (kb false))) (.done)))
     (.none))
    (.none)))))))))
   (.none))))) [36, 37, 38, 39, 40, 41, 42, 43, 44, 45, 46, 47, 48, 49])
  (.cond (t 50)
   (.seq (.ops [mv 51 (t 7),
   mv 4 (t 51),
   mv 5 (kb true)] [7, 51])
   (.ret))
   (.skip)))))
  (.ops [mv 29 (t 6),
  ad 30 (t 29) (k 1),
  mv 6 (t 30)] [29, 30]))))))
 (.seq (.ops [mv 4 (k 0),
 mv 5 (kb false)] [])
 (.ret)))))
def r_ref18_Next : List RRes := [.tmp 4, .tmp 5]
theorem fo_ref18_Next {args : List Value} {M : Mem} {R : Value → Mem → Prop} (hn : args.length ≤ 52) (h : vfn Try.prog c_ref18_Next r_ref18_Next args M R) : CallsM Try.prog F.ref18_Next args M R :=
  fn_ok (kf := k_ref18_Next) Try.func24 (by kernel_rfl) (by kernel_rfl) hn (by kernel_rfl) h
/-- portage/portageref18.Cost -/
def k_ref18_Cost (i : Nat) : List Nat := match i with | 0 => [0, 4] | 1 => [7, 8] | 3 => [10, 11, 12] | 5 => [14, 15, 16] | 6 => [1, 2, 18, 19, 20, 21, 22, 23] | 9 => [24, 25, 26, 27] | 11 => [31, 32, 33, 34, 35, 36, 37, 38, 39, 40] | 10 => [29, 30] | 12 => [5, 41] | _ => []
def c_ref18_Cost : RCode :=
 .seq (.ops [o 2 (.box 50 (t 0)),
 mv 4 (k 0)] [0, 4])
 (.seq (.seq (.ops [mv 7 (t 1),
 ca 8 F.ref18_Node [(t 7)],
 o 9 (.not (t 8))] [7, 8])
 (.cond (t 9)
  (.seq (.ops [mv 4 (k 16)] [])
  (.ret))
  (.skip)))
 (.seq (.seq (.ops [mv 10 (t 1),
 fa 11 0 (t 2),
 l1 12 (t 11),
 o 13 (.ibin .eql (t 10) (t 12))] [10, 11, 12])
 (.cond (t 13)
  (.seq (.ops [mv 4 (k 0)] [])
  (.ret))
  (.skip)))
 (.seq (.seq (.ops [la 14 5 (t 2),
 mv 15 (t 1),
 ca 16 F.ref18_via [(t 14), (t 15)],
 o 17 (.ibin .geq (t 16) (k 0))] [14, 15, 16])
 (.cond (t 17)
  (.seq (.draw (.take (la 18 5 (t 2)) (.take (mv 19 (t 1)) (.take (la 20 5 (t 2)) (.take (mv 21 (t 1)) (.alt (ca 22 F.ref18_via [(t 20), (t 21)]) true
   (.alt (ca 23 F.ref18_By [(t 18), (t 19), (t 22)]) false
    (.take (mv 4 (t 23)) (.done))
    (.none))
   (.none)))))) [1, 2, 18, 19, 20, 21, 22, 23])
  (.ret))
  (.skip)))
 (.seq (.ops [mv 5 (k 16)] [])
 (.seq (.seq (.ops [mv 6 (k 0)] [])
 (.block 0 (.loop (.seq (.seq (.ops [mv 24 (t 6),
  fa 25 2 (t 2),
  l1 26 (t 25),
  o 27 (.len (t 26)),
  o 28 (.ibin .lss (t 24) (t 27))] [24, 25, 26, 27])
  (.cond (t 28)
   (.skip)
   (.exit 0)))
  (.seq (.block 1 (.draw (.take (mv 31 (t 5)) (.take (la 32 5 (t 2)) (.take (mv 33 (t 1)) (.take (fa 34 2 (t 2)) (.take (l1 35 (t 34)) (.take (mv 36 (t 6)) (.take (o 37 (.iaddr 1 (t 35) (t 36))) (.take (l1 38 (t 37)) (.alt (ca 39 F.ref18_By [(t 32), (t 33), (t 38)]) false
   (.take (o 40 (.imm false (t 31) (t 39))) (.take (mv 5 (t 40)) (.done)))
   (.none)))))))))) [31, 32, 33, 34, 35, 36, 37, 38, 39, 40]))
  (.ops [mv 29 (t 6),
  ad 30 (t 29) (k 1),
  mv 6 (t 30)] [29, 30]))))))
 (.seq (.ops [mv 41 (t 5),
 mv 4 (t 41)] [5, 41])
 (.ret)))))))
def r_ref18_Cost : List RRes := [.tmp 4]
theorem fo_ref18_Cost {args : List Value} {M : Mem} {R : Value → Mem → Prop} (hn : args.length ≤ 42) (h : vfn Try.prog c_ref18_Cost r_ref18_Cost args M R) : CallsM Try.prog F.ref18_Cost args M R :=
  fn_ok (kf := k_ref18_Cost) Try.func25 (by kernel_rfl) (by kernel_rfl) hn (by kernel_rfl) h
/-- portage/portagelaw18.done -/
def k_law18_done (i : Nat) : List Nat := match i with | 0 => [0, 4, 6] | 1 => [14, 15, 16, 17, 18, 19, 20, 21, 22, 23] | 2 => [2, 24, 25, 26, 27, 28, 29, 30, 31, 32, 33] | 3 => [8, 10, 34, 35, 36, 37, 38, 39, 40, 41, 42] | 4 => [7, 9, 44, 45] | 6 => [46, 47, 48, 49, 50, 51, 52] | 8 => [13, 56, 57, 58, 59, 60, 61, 62, 63, 64, 65] | 9 => [12, 66] | 7 => [54, 55] | 10 => [7, 9, 67, 68] | _ => []
def c_law18_done : RCode :=
 .seq (.ops [o 2 (.box 44 (t 0)),
 mv 4 (.const (.pointer none)),
 o 5 (.alloc 50 [(i 0), (i 0), sn, sn, sn]),
 mv 6 (kb false)] [0, 4, 6])
 (.seq (.ops [fa 15 0 (t 2),
 l1 16 (t 15),
 fa 17 1 (t 2),
 l1 18 (t 17),
 fa 19 2 (t 2),
 l1 20 (t 19),
 ca 21 F.routes_New [(t 16), (t 18), (t 20)],
 mv 14 (t 21),
 ex 22 (t 14) 0,
 ex 23 (t 14) 1,
 mv 7 (t 22),
 mv 8 (t 23)] [14, 15, 16, 17, 18, 19, 20, 21, 22, 23])
 (.seq (.ops [fa 25 0 (t 2),
 l1 26 (t 25),
 fa 27 1 (t 2),
 l1 28 (t 27),
 fa 29 2 (t 2),
 l1 30 (t 29),
 ca 31 F.ref18_New [(t 26), (t 28), (t 30)],
 mv 24 (t 31),
 ex 32 (t 24) 0,
 ex 33 (t 24) 1,
 o 9 (.alloc 50 [(i 0), (i 0), sn, sn, sn]),
 st 5 (t 9) (t 32),
 mv 10 (t 33)] [2, 24, 25, 26, 27, 28, 29, 30, 31, 32, 33])
 (.seq (.seq (.ops [mv 34 (t 8),
 o 35 (.ibin .neq (t 34) (k 0)),
 os 36 (.mov (t 35)),
 gf 36 37 (.mov (t 10)),
 gf 36 38 (.ibin .neq (t 37) (k 0)),
 o 39 (.pick (t 36) (kb true) (t 38)),
 os 40 (.mov (t 39)),
 gf 40 41 (.mov (t 7)),
 gf 40 42 (.pnil .eql (t 41) (.const (.pointer none))),
 o 43 (.pick (t 40) (kb true) (t 42))] [8, 10, 34, 35, 36, 37, 38, 39, 40, 41, 42])
 (.cond (t 43)
  (.seq (.draw (.take (mv 44 (t 7)) (.take (la 45 5 (t 9)) (.take (mv 4 (t 44)) (.alt (st 5 (t 5) (t 45)) false
   (.take (mv 6 (kb false)) (.done))
   (.none))))) [7, 9, 44, 45])
  (.ret))
  (.skip)))
 (.seq (.seq (.ops [mv 11 (k 0)] [])
 (.block 0 (.loop (.seq (.seq (.ops [mv 46 (t 11),
  mv 47 (t 1),
  o 48 (.len (t 47)),
  o 49 (.ibin .lss (t 46) (t 48)),
  os 50 (.mov (t 49)),
  gt 50 51 (.mov (t 11)),
  gt 50 52 (.ibin .lss (t 51) (k 40)),
  o 53 (.pick (t 50) (t 52) (kb false))] [46, 47, 48, 49, 50, 51, 52])
  (.cond (t 53)
   (.skip)
   (.exit 0)))
  (.seq (.block 1 (.seq (.draw (.take (mv 57 (t 7)) (.take (la 58 5 (t 9)) (.take (mv 59 (t 1)) (.take (mv 60 (t 11)) (.take (o 61 (.iaddr 4 (t 59) (t 60))) (.take (la 62 4 (t 61)) (.alt (ca 63 F.law18_play [(t 57), (t 58), (t 62)]) false
   (.take (mv 56 (t 63)) (.take (ex 64 (t 56) 0) (.take (ex 65 (t 56) 1) (.alt (o 12 (.alloc 50 [(i 0), (i 0), sn, sn, sn])) false
    (.alt (st 5 (t 12) (t 64)) false
     (.take (mv 13 (t 65)) (.done))
     (.none))
    (.none)))))
   (.alt (o 12 (.alloc 50 [(i 0), (i 0), sn, sn, sn])) false
    (.alt (ca 63 F.law18_play [(t 57), (t 58), (t 62)]) false
     (.take (mv 56 (t 63)) (.take (ex 64 (t 56) 0) (.take (ex 65 (t 56) 1) (.alt (st 5 (t 12) (t 64)) false
      (.take (mv 13 (t 65)) (.done))
      (.none)))))
     (.none))
    (.none))))))))) [13, 56, 57, 58, 59, 60, 61, 62, 63, 64, 65])
  (.ops [la 66 5 (t 12),
  st 5 (t 9) (t 66)] [12, 66])))
  (.ops [mv 54 (t 11),
  ad 55 (t 54) (k 1),
  mv 11 (t 55)] [54, 55]))))))
 (.seq (.draw (.take (mv 67 (t 7)) (.take (la 68 5 (t 9)) (.take (mv 4 (t 67)) (.alt (st 5 (t 5) (t 68)) false
  (.take (mv 6 (kb true)) (.done))
  (.none))))) [7, 9, 67, 68])
 (.ret))))))
def r_law18_done : List RRes := [.tmp 4, .cell true 5 5, .tmp 6]
theorem fo_law18_done {args : List Value} {M : Mem} {R : Value → Mem → Prop} (hn : args.length ≤ 69) (h : vfn Try.prog c_law18_done r_law18_done args M R) : CallsM Try.prog F.law18_done args M R :=
  fn_ok (kf := k_law18_done) Try.func26 (by kernel_rfl) (by kernel_rfl) hn (by kernel_rfl) h
/-- (*portage/routes.Table).Vector -/
def k_routes_Table_Vector (i : Nat) : List Nat := match i with | 0 => [4] | 1 => [9, 10, 11, 12, 13, 14, 15] | 3 => [17] | 4 => [18] | 6 => [22] | 7 => [23, 24, 25, 26, 27, 28] | 8 => [29, 30, 31, 32, 33, 34] | 9 => [7, 8, 35, 36, 37, 38, 39] | 10 => [6, 41, 42, 43] | 11 => [44] | 12 => [5, 45] | _ => []
def c_routes_Table_Vector : RCode :=
 .seq (.ops [mv 4 (.const sn)] [4])
 (.seq (.seq (.ops [mv 9 (t 0),
 o 10 (.pnil .eql (t 9) (.const (.pointer none))),
 os 11 (.mov (t 10)),
 gf 11 12 (.mov (t 0)),
 gf 11 13 (.mov (t 1)),
 gf 11 14 (.call (fn F.routes_Table_near) [(t 12), (t 13)]),
 gf 11 15 (.not (t 14)),
 o 16 (.pick (t 11) (kb true) (t 15))] [9, 10, 11, 12, 13, 14, 15])
 (.cond (t 16)
  (.seq (.ops [mv 4 (.const sn)] [])
  (.ret))
  (.skip)))
 (.seq (.ops [o 17 (.mkSlN 3 8 [(i 0)] (k 64) (k 64)),
 mv 5 (t 17)] [17])
 (.seq (.seq (.ops [mv 18 (t 5),
 o 19 (.len (t 18)),
 mv 20 (k 0)] [18])
 (.block 0 (.loop (.seq (.ops [o 21 (.ibin .lss (t 20) (t 19))] [])
  (.seq (.cond (t 21)
   (.skip)
   (.exit 0))
  (.seq (.block 1 (.seq (.ops [mv 22 (t 20),
  mv 6 (t 22)] [22])
  (.seq (.ops [mv 23 (t 5),
  mv 24 (t 6),
  mv 25 (t 0),
  mv 26 (t 6),
  ca 27 F.routes_Table_Cost [(t 25), (t 26)],
  o 28 (.iaddr 1 (t 23) (t 24)),
  st 1 (t 28) (t 27)] [23, 24, 25, 26, 27, 28])
  (.seq (.ops [mv 30 (t 0),
  mv 31 (t 6),
  ca 32 F.routes_Table_Next [(t 30), (t 31)],
  mv 29 (t 32),
  ex 33 (t 29) 0,
  ex 34 (t 29) 1,
  mv 7 (t 33),
  mv 8 (t 34)] [29, 30, 31, 32, 33, 34])
  (.seq (.ops [mv 35 (t 8),
  os 36 (.mov (t 35)),
  gt 36 37 (.mov (t 7)),
  gt 36 38 (.mov (t 1)),
  gt 36 39 (.ibin .eql (t 37) (t 38)),
  o 40 (.pick (t 36) (t 39) (kb false))] [7, 8, 35, 36, 37, 38, 39])
  (.cond (t 40)
   (.ops [mv 41 (t 5),
   mv 42 (t 6),
   o 43 (.iaddr 1 (t 41) (t 42)),
   st 1 (t 43) (k 16)] [6, 41, 42, 43])
   (.skip)))))))
  (.ops [ad 44 (t 20) (k 1),
  mv 20 (t 44)] [44])))))))
 (.seq (.ops [mv 45 (t 5),
 mv 4 (t 45)] [5, 45])
 (.ret)))))
def r_routes_Table_Vector : List RRes := [.tmp 4]
theorem fo_routes_Table_Vector {args : List Value} {M : Mem} {R : Value → Mem → Prop} (hn : args.length ≤ 46) (h : vfn Try.prog c_routes_Table_Vector r_routes_Table_Vector args M R) : CallsM Try.prog F.routes_Table_Vector args M R :=
  fn_ok (kf := k_routes_Table_Vector) Try.func27 (by kernel_rfl) (by kernel_rfl) hn (by kernel_rfl) h
/-- portage/portageref18.Vector -/
def k_ref18_Vector (i : Nat) : List Nat := match i with | 0 => [0, 4] | 1 => [9, 10, 11, 12] | 3 => [14] | 5 => [15] | 7 => [19, 20, 21, 22, 23, 24] | 8 => [7, 8, 25, 26, 27, 28, 29] | 9 => [31, 32, 33] | 10 => [34, 35, 36, 37, 38, 39] | 6 => [17, 18] | 11 => [5, 40] | _ => []
def c_ref18_Vector : RCode :=
 .seq (.ops [o 2 (.box 50 (t 0)),
 mv 4 (.const sn)] [0, 4])
 (.seq (.seq (.ops [fa 9 2 (t 2),
 l1 10 (t 9),
 mv 11 (t 1),
 ca 12 F.ref18_Has [(t 10), (t 11)],
 o 13 (.not (t 12))] [9, 10, 11, 12])
 (.cond (t 13)
  (.seq (.ops [mv 4 (.const sn)] [])
  (.ret))
  (.skip)))
 (.seq (.ops [o 14 (.mkSl false 3 0 [] []),
 mv 5 (t 14)] [14])
 (.seq (.seq (.ops [mv 6 (k 0)] [])
 (.block 0 (.loop (.seq (.seq (.ops [mv 15 (t 6),
  o 16 (.ibin .lss (t 15) (k 64))] [15])
  (.cond (t 16)
   (.skip)
   (.exit 0)))
  (.seq (.block 1 (.seq (.ops [la 20 5 (t 2),
  mv 21 (t 6),
  ca 22 F.ref18_Next [(t 20), (t 21)],
  mv 19 (t 22),
  ex 23 (t 19) 0,
  ex 24 (t 19) 1,
  mv 7 (t 23),
  mv 8 (t 24)] [19, 20, 21, 22, 23, 24])
  (.seq (.ops [mv 25 (t 8),
  os 26 (.mov (t 25)),
  gt 26 27 (.mov (t 7)),
  gt 26 28 (.mov (t 1)),
  gt 26 29 (.ibin .eql (t 27) (t 28)),
  o 30 (.pick (t 26) (t 29) (kb false))] [7, 8, 25, 26, 27, 28, 29])
  (.cond (t 30)
   (.ops [mv 31 (t 5),
   o 32 (.mkSl true 3 1 [(i 0)] [(0, 1, (k 16))]),
   o 33 (.app 3 1 8 [(i 0)] (t 31) (t 32)),
   mv 5 (t 33)] [31, 32, 33])
   (.ops [mv 34 (t 5),
   la 35 5 (t 2),
   mv 36 (t 6),
   ca 37 F.ref18_Cost [(t 35), (t 36)],
   o 38 (.mkSl true 3 1 [(i 0)] [(0, 1, (t 37))]),
   o 39 (.app 3 1 8 [(i 0)] (t 34) (t 38)),
   mv 5 (t 39)] [34, 35, 36, 37, 38, 39])))))
  (.ops [mv 17 (t 6),
  ad 18 (t 17) (k 1),
  mv 6 (t 18)] [17, 18]))))))
 (.seq (.ops [mv 40 (t 5),
 mv 4 (t 40)] [5, 40])
 (.ret)))))
def r_ref18_Vector : List RRes := [.tmp 4]
theorem fo_ref18_Vector {args : List Value} {M : Mem} {R : Value → Mem → Prop} (hn : args.length ≤ 41) (h : vfn Try.prog c_ref18_Vector r_ref18_Vector args M R) : CallsM Try.prog F.ref18_Vector args M R :=
  fn_ok (kf := k_ref18_Vector) Try.func28 (by kernel_rfl) (by kernel_rfl) hn (by kernel_rfl) h
/-- portage/portageref18.Has -/
def k_ref18_Has (i : Nat) : List Nat := match i with | 0 => [4] | 2 => [6, 7, 8] | 4 => [12, 13, 14, 15, 16] | 3 => [10, 11] | _ => []
def c_ref18_Has : RCode :=
 .seq (.ops [mv 4 (kb false)] [4])
 (.seq (.seq (.ops [mv 5 (k 0)] [])
 (.block 0 (.loop (.seq (.seq (.ops [mv 6 (t 5),
  mv 7 (t 0),
  o 8 (.len (t 7)),
  o 9 (.ibin .lss (t 6) (t 8))] [6, 7, 8])
  (.cond (t 9)
   (.skip)
   (.exit 0)))
  (.seq (.block 1 (.seq (.ops [mv 12 (t 0),
  mv 13 (t 5),
  o 14 (.iaddr 1 (t 12) (t 13)),
  l1 15 (t 14),
  mv 16 (t 1),
  o 17 (.ibin .eql (t 15) (t 16))] [12, 13, 14, 15, 16])
  (.cond (t 17)
   (.seq (.ops [mv 4 (kb true)] [])
   (.ret))
   (.skip))))
  (.ops [mv 10 (t 5),
  ad 11 (t 10) (k 1),
  mv 5 (t 11)] [10, 11]))))))
 (.seq (.ops [mv 4 (kb false)] [])
 (.ret)))
def r_ref18_Has : List RRes := [.tmp 4]
theorem fo_ref18_Has {args : List Value} {M : Mem} {R : Value → Mem → Prop} (hn : args.length ≤ 18) (h : vfn Try.prog c_ref18_Has r_ref18_Has args M R) : CallsM Try.prog F.ref18_Has args M R :=
  fn_ok (kf := k_ref18_Has) Try.func29 (by kernel_rfl) (by kernel_rfl) hn (by kernel_rfl) h
/-- (*portage/routes.Table).Set -/
def k_routes_Table_Set (i : Nat) : List Nat := match i with | 0 => [6] | 1 => [8, 9] | 3 => [11, 12, 13] | 5 => [15, 16, 17, 18, 19, 20] | 7 => [22, 23] | 8 => [0, 1, 24, 25, 26, 27, 28] | 10 => [30, 31, 32, 33] | 12 => [0, 1, 2, 34, 35, 36, 37, 38, 39] | _ => []
def c_routes_Table_Set : RCode :=
 .seq (.ops [mv 6 (k 0)] [6])
 (.seq (.block 0 (.seq (.ops [mv 8 (t 0),
 o 9 (.pnil .eql (t 8) (.const (.pointer none))),
 mv 7 (t 9)] [8, 9])
 (.cond (t 7)
  (.seq (.ops [mv 6 (k 7)] [])
  (.ret))
  (.seq (.ops [mv 11 (t 1),
  ca 12 F.routes_node [(t 11)],
  o 13 (.not (t 12)),
  mv 10 (t 13)] [11, 12, 13])
  (.cond (t 10)
   (.seq (.ops [mv 6 (k 1)] [])
   (.ret))
   (.seq (.ops [mv 15 (t 1),
   mv 16 (t 0),
   o 17 (.nilck (t 16)),
   fa 18 0 (t 17),
   l1 19 (t 18),
   o 20 (.ibin .eql (t 15) (t 19)),
   mv 14 (t 20)] [15, 16, 17, 18, 19, 20])
   (.cond (t 14)
    (.seq (.ops [mv 6 (k 2)] [])
    (.ret))
    (.seq (.ops [mv 22 (t 2),
    o 23 (.ibin .eql (t 22) (k (-1))),
    mv 21 (t 23)] [22, 23])
    (.cond (t 21)
     (.seq (.ops [mv 24 (t 0),
     o 25 (.nilck (t 24)),
     fa 26 3 (t 25),
     l1 27 (t 26),
     mv 28 (t 1),
     e (.mdel .int (t 27) (t 28))] [0, 1, 24, 25, 26, 27, 28])
     (.seq (.ops [mv 6 (k 0)] [])
     (.ret)))
     (.seq (.ops [mv 30 (t 0),
     mv 31 (t 2),
     ca 32 F.routes_Table_near [(t 30), (t 31)],
     o 33 (.not (t 32)),
     mv 29 (t 33)] [30, 31, 32, 33])
     (.cond (t 29)
      (.seq (.ops [mv 6 (k 4)] [])
      (.ret))
      (.skip))))))))))))
 (.seq (.ops [mv 34 (t 0),
 o 35 (.nilck (t 34)),
 fa 36 3 (t 35),
 l1 37 (t 36),
 mv 38 (t 1),
 mv 39 (t 2),
 e (.mset .int (t 37) (t 38) (t 39))] [0, 1, 2, 34, 35, 36, 37, 38, 39])
 (.seq (.ops [mv 6 (k 0)] [])
 (.ret))))
def r_routes_Table_Set : List RRes := [.tmp 6]
theorem fo_routes_Table_Set {args : List Value} {M : Mem} {R : Value → Mem → Prop} (hn : args.length ≤ 40) (h : vfn Try.prog c_routes_Table_Set r_routes_Table_Set args M R) : CallsM Try.prog F.routes_Table_Set args M R :=
  fn_ok (kf := k_routes_Table_Set) Try.func30 (by kernel_rfl) (by kernel_rfl) hn (by kernel_rfl) h
/-- (*portage/routes.Table).near -/
def k_routes_Table_near (i : Nat) : List Nat := match i with | 0 => [4] | 1 => [0, 1, 5, 6, 7, 8, 9, 10] | _ => []
def c_routes_Table_near : RCode :=
 .seq (.ops [mv 4 (kb false)] [4])
 (.seq (.ops [mv 5 (t 0),
 o 6 (.nilck (t 5)),
 fa 7 2 (t 6),
 l1 8 (t 7),
 mv 9 (t 1),
 ca 10 F.slices_Contains_int_int [(t 8), (t 9)],
 mv 4 (t 10)] [0, 1, 5, 6, 7, 8, 9, 10])
 (.ret))
def r_routes_Table_near : List RRes := [.tmp 4]
theorem fo_routes_Table_near {args : List Value} {M : Mem} {R : Value → Mem → Prop} (hn : args.length ≤ 11) (h : vfn Try.prog c_routes_Table_near r_routes_Table_near args M R) : CallsM Try.prog F.routes_Table_near args M R :=
  fn_ok (kf := k_routes_Table_near) Try.func31 (by kernel_rfl) (by kernel_rfl) hn (by kernel_rfl) h
/-- portage/routes.node -/
def k_routes_node (i : Nat) : List Nat := match i with | 0 => [2] | 1 => [0, 3, 4, 5, 6, 7, 8] | _ => []
def c_routes_node : RCode :=
 .seq (.ops [mv 2 (kb false)] [2])
 (.seq (.ops [mv 3 (t 0),
 o 4 (.ibin .geq (t 3) (k 0)),
 os 5 (.mov (t 4)),
 gt 5 6 (.mov (t 0)),
 gt 5 7 (.ibin .lss (t 6) (k 64)),
 o 8 (.pick (t 5) (t 7) (kb false)),
 mv 2 (t 8)] [0, 3, 4, 5, 6, 7, 8])
 (.ret))
def r_routes_node : List RRes := [.tmp 2]
theorem fo_routes_node {args : List Value} {M : Mem} {R : Value → Mem → Prop} (hn : args.length ≤ 9) (h : vfn Try.prog c_routes_node r_routes_node args M R) : CallsM Try.prog F.routes_node args M R :=
  fn_ok (kf := k_routes_node) Try.func32 (by kernel_rfl) (by kernel_rfl) hn (by kernel_rfl) h
/-- (*portage/routes.Table).cost -/
def k_routes_Table_cost (i : Nat) : List Nat := match i with | 0 => [6] | 1 => [0, 2, 9, 10, 11, 12, 13, 14, 15, 16, 17] | 2 => [8, 18] | 4 => [1, 7, 20, 21, 22, 23, 24, 25] | _ => []
def c_routes_Table_cost : RCode :=
 .seq (.ops [mv 6 (k 0)] [6])
 (.seq (.ops [mv 10 (t 0),
 o 11 (.nilck (t 10)),
 fa 12 4 (t 11),
 l1 13 (t 12),
 mv 14 (t 2),
 o 15 (.mget .int true (.agg #[(i 0), (i 0), (i 0), (i 0), (i 0), (i 0), (i 0), (i 0), (i 0), (i 0), (i 0), (i 0), (i 0), (i 0), (i 0), (i 0), (i 0), (i 0), (i 0), (i 0), (i 0), (i 0), (i 0), (i 0), (i 0), (i 0), (i 0), (i 0), (i 0), (i 0), (i 0), (i 0), (i 0), (i 0), (i 0), (i 0), (i 0), (i 0), (i 0), (i 0), (i 0), (i 0), (i 0), (i 0), (i 0), (i 0), (i 0), (i 0), (i 0), (i 0), (i 0), (i 0), (i 0), (i 0), (i 0), (i 0), (i 0), (i 0), (i 0), (i 0), (i 0), (i 0), (i 0), (i 0), (i 0)]) (t 13) (t 14)),
 mv 9 (t 15),
 ex 16 (t 9) 0,
 ex 17 (t 9) 1,
 o 7 (.alloc 78 [(i 0), (i 0), (i 0), (i 0), (i 0), (i 0), (i 0), (i 0), (i 0), (i 0), (i 0), (i 0), (i 0), (i 0), (i 0), (i 0), (i 0), (i 0), (i 0), (i 0), (i 0), (i 0), (i 0), (i 0), (i 0), (i 0), (i 0), (i 0), (i 0), (i 0), (i 0), (i 0), (i 0), (i 0), (i 0), (i 0), (i 0), (i 0), (i 0), (i 0), (i 0), (i 0), (i 0), (i 0), (i 0), (i 0), (i 0), (i 0), (i 0), (i 0), (i 0), (i 0), (i 0), (i 0), (i 0), (i 0), (i 0), (i 0), (i 0), (i 0), (i 0), (i 0), (i 0), (i 0), (i 0)]),
 st 65 (t 7) (t 16),
 mv 8 (t 17)] [0, 2, 9, 10, 11, 12, 13, 14, 15, 16, 17])
 (.seq (.seq (.ops [mv 18 (t 8),
 o 19 (.not (t 18))] [8, 18])
 (.cond (t 19)
  (.seq (.ops [mv 6 (k 16)] [])
  (.ret))
  (.skip)))
 (.seq (.ops [mv 20 (t 1),
 fa 21 0 (t 7),
 o 22 (.iaddrA 64 1 (t 21) (t 20)),
 l1 23 (t 22),
 ad 24 (t 23) (k 1),
 o 25 (.imm false (k 16) (t 24)),
 mv 6 (t 25)] [1, 7, 20, 21, 22, 23, 24, 25])
 (.ret))))
def r_routes_Table_cost : List RRes := [.tmp 6]
theorem fo_routes_Table_cost {args : List Value} {M : Mem} {R : Value → Mem → Prop} (hn : args.length ≤ 26) (h : vfn Try.prog c_routes_Table_cost r_routes_Table_cost args M R) : CallsM Try.prog F.routes_Table_cost args M R :=
  fn_ok (kf := k_routes_Table_cost) Try.func33 (by kernel_rfl) (by kernel_rfl) hn (by kernel_rfl) h
/-- portage/portagelaw18.flat -/
def k_law18_flat (i : Nat) : List Nat := match i with | 0 => [4] | 1 => [7] | 3 => [8, 9, 10] | 5 => [14, 15, 16] | 4 => [12, 13] | 6 => [0, 1, 17, 18, 19, 20] | 7 => [5, 21] | _ => []
def c_law18_flat : RCode :=
 .seq (.ops [mv 4 (.const sn)] [4])
 (.seq (.ops [o 7 (.mkSlN 3 8 [(i 0)] (k 64) (k 64)),
 mv 5 (t 7)] [7])
 (.seq (.seq (.ops [mv 6 (k 0)] [])
 (.block 0 (.loop (.seq (.seq (.ops [mv 8 (t 6),
  mv 9 (t 5),
  o 10 (.len (t 9)),
  o 11 (.ibin .lss (t 8) (t 10))] [8, 9, 10])
  (.cond (t 11)
   (.skip)
   (.exit 0)))
  (.seq (.block 1 (.ops [mv 14 (t 5),
  mv 15 (t 6),
  o 16 (.iaddr 1 (t 14) (t 15)),
  st 1 (t 16) (k 16)] [14, 15, 16]))
  (.ops [mv 12 (t 6),
  ad 13 (t 12) (k 1),
  mv 6 (t 13)] [12, 13]))))))
 (.seq (.ops [mv 17 (t 5),
 mv 18 (t 0),
 mv 19 (t 1),
 o 20 (.iaddr 1 (t 17) (t 18)),
 st 1 (t 20) (t 19)] [0, 1, 17, 18, 19, 20])
 (.seq (.ops [mv 21 (t 5),
 mv 4 (t 21)] [5, 21])
 (.ret)))))
def r_law18_flat : List RRes := [.tmp 4]
theorem fo_law18_flat {args : List Value} {M : Mem} {R : Value → Mem → Prop} (hn : args.length ≤ 22) (h : vfn Try.prog c_law18_flat r_law18_flat args M R) : CallsM Try.prog F.law18_flat args M R :=
  fn_ok (kf := k_law18_flat) Try.func34 (by kernel_rfl) (by kernel_rfl) hn (by kernel_rfl) h
/-- portage/portageref18.Node -/
def k_ref18_Node (i : Nat) : List Nat := match i with | 0 => [2] | 1 => [0, 3, 4, 5, 6, 7, 8] | _ => []
def c_ref18_Node : RCode :=
 .seq (.ops [mv 2 (kb false)] [2])
 (.seq (.ops [mv 3 (t 0),
 o 4 (.ibin .geq (t 3) (k 0)),
 os 5 (.mov (t 4)),
 gt 5 6 (.mov (t 0)),
 gt 5 7 (.ibin .leq (t 6) (k 63)),
 o 8 (.pick (t 5) (t 7) (kb false)),
 mv 2 (t 8)] [0, 3, 4, 5, 6, 7, 8])
 (.ret))
def r_ref18_Node : List RRes := [.tmp 2]
theorem fo_ref18_Node {args : List Value} {M : Mem} {R : Value → Mem → Prop} (hn : args.length ≤ 9) (h : vfn Try.prog c_ref18_Node r_ref18_Node args M R) : CallsM Try.prog F.ref18_Node args M R :=
  fn_ok (kf := k_ref18_Node) Try.func35 (by kernel_rfl) (by kernel_rfl) hn (by kernel_rfl) h
/-- portage/portageref18.Set -/
def k_ref18_Set (i : Nat) : List Nat := match i with | 0 => [0, 7] | 1 => [10, 11] | 2 => [3, 13] | 3 => [14, 15, 16] | 4 => [3, 18] | 5 => [19, 20, 21, 22, 23, 24, 25, 26] | 6 => [3, 28] | 7 => [29] | 9 => [30, 31, 32, 33] | 11 => [37, 38, 39, 40, 41, 42, 43] | 12 => [45, 46, 47, 48, 49, 50, 51, 52] | 10 => [35, 36] | 13 => [53] | 14 => [1, 2, 55, 56, 57, 58, 59, 60] | 15 => [3, 8, 61, 62, 63, 64, 65, 66, 67, 68, 69, 70] | _ => []
def c_ref18_Set : RCode :=
 .seq (.ops [o 3 (.box 50 (t 0)),
 o 6 (.alloc 50 [(i 0), (i 0), sn, sn, sn]),
 mv 7 (k 0)] [0, 7])
 (.seq (.seq (.ops [mv 10 (t 1),
 ca 11 F.ref18_Node [(t 10)],
 o 12 (.not (t 11))] [10, 11])
 (.cond (t 12)
  (.seq (.ops [la 13 5 (t 3),
  st 5 (t 6) (t 13),
  mv 7 (k 1)] [3, 13])
  (.ret))
  (.skip)))
 (.seq (.seq (.ops [mv 14 (t 1),
 fa 15 0 (t 3),
 l1 16 (t 15),
 o 17 (.ibin .eql (t 14) (t 16))] [14, 15, 16])
 (.cond (t 17)
  (.seq (.ops [la 18 5 (t 3),
  st 5 (t 6) (t 18),
  mv 7 (k 2)] [3, 18])
  (.ret))
  (.skip)))
 (.seq (.seq (.ops [mv 19 (t 2),
 o 20 (.ibin .neq (t 19) (k (-1))),
 os 21 (.mov (t 20)),
 gt 21 22 (.faddr 2 (t 3)),
 gt 21 23 (.load false 1 (t 22)),
 gt 21 24 (.mov (t 2)),
 gt 21 25 (.call (fn F.ref18_Has) [(t 23), (t 24)]),
 gt 21 26 (.not (t 25)),
 o 27 (.pick (t 21) (t 26) (kb false))] [19, 20, 21, 22, 23, 24, 25, 26])
 (.cond (t 27)
  (.seq (.ops [la 28 5 (t 3),
  st 5 (t 6) (t 28),
  mv 7 (k 4)] [3, 28])
  (.ret))
  (.skip)))
 (.seq (.ops [o 29 (.mkSl false 91 0 [] []),
 mv 8 (t 29)] [29])
 (.seq (.seq (.ops [mv 9 (k 0)] [])
 (.block 0 (.loop (.seq (.seq (.ops [mv 30 (t 9),
  fa 31 3 (t 3),
  l1 32 (t 31),
  o 33 (.len (t 32)),
  o 34 (.ibin .lss (t 30) (t 33))] [30, 31, 32, 33])
  (.cond (t 34)
   (.skip)
   (.exit 0)))
  (.seq (.block 1 (.seq (.ops [fa 37 3 (t 3),
  l1 38 (t 37),
  mv 39 (t 9),
  o 40 (.iaddr 2 (t 38) (t 39)),
  fa 41 0 (t 40),
  l1 42 (t 41),
  mv 43 (t 1),
  o 44 (.ibin .neq (t 42) (t 43))] [37, 38, 39, 40, 41, 42, 43])
  (.cond (t 44)
   (.ops [mv 45 (t 8),
   fa 46 3 (t 3),
   l1 47 (t 46),
   mv 48 (t 9),
   o 49 (.iaddr 2 (t 47) (t 48)),
   la 50 2 (t 49),
   o 51 (.mkSl true 91 1 [(i 0), (i 0)] [(0, 2, (t 50))]),
   o 52 (.app 91 2 16 [(i 0), (i 0)] (t 45) (t 51)),
   mv 8 (t 52)] [45, 46, 47, 48, 49, 50, 51, 52])
   (.skip))))
  (.ops [mv 35 (t 9),
  ad 36 (t 35) (k 1),
  mv 9 (t 36)] [35, 36]))))))
 (.seq (.seq (.ops [mv 53 (t 2),
 o 54 (.ibin .neq (t 53) (k (-1)))] [53])
 (.cond (t 54)
  (.ops [mv 55 (t 8),
  mv 56 (t 1),
  mv 57 (t 2),
  o 58 (.build [(i 0), (i 0)] [(0, 1, (t 56)), (1, 1, (t 57))]),
  o 59 (.mkSl true 91 1 [(i 0), (i 0)] [(0, 2, (t 58))]),
  o 60 (.app 91 2 16 [(i 0), (i 0)] (t 55) (t 59)),
  mv 8 (t 60)] [1, 2, 55, 56, 57, 58, 59, 60])
  (.skip)))
 (.seq (.ops [fa 61 0 (t 3),
 l1 62 (t 61),
 fa 63 1 (t 3),
 l1 64 (t 63),
 fa 65 2 (t 3),
 l1 66 (t 65),
 mv 67 (t 8),
 fa 68 4 (t 3),
 l1 69 (t 68),
 o 70 (.build [(i 0), (i 0), sn, sn, sn] [(0, 1, (t 62)), (1, 1, (t 64)), (2, 1, (t 66)), (3, 1, (t 67)), (4, 1, (t 69))]),
 st 5 (t 6) (t 70),
 mv 7 (k 0)] [3, 8, 61, 62, 63, 64, 65, 66, 67, 68, 69, 70])
 (.ret))))))))
def r_ref18_Set : List RRes := [.cell true 5 6, .tmp 7]
theorem fo_ref18_Set {args : List Value} {M : Mem} {R : Value → Mem → Prop} (hn : args.length ≤ 71) (h : vfn Try.prog c_ref18_Set r_ref18_Set args M R) : CallsM Try.prog F.ref18_Set args M R :=
  fn_ok (kf := k_ref18_Set) Try.func36 (by kernel_rfl) (by kernel_rfl) hn (by kernel_rfl) h
/-- portage/portageref18.Hear -/
def k_ref18_Hear (i : Nat) : List Nat := match i with | 0 => [0, 7] | 1 => [12, 13, 14, 15] | 2 => [3, 17] | 3 => [18, 19] | 4 => [3, 21] | 5 => [2, 22, 23, 24, 25, 26, 27, 28] | 6 => [29] | 9 => [30, 31, 32, 33] | 11 => [37, 38, 39, 40, 41, 42, 43] | 12 => [45, 46, 47, 48, 49, 50, 51, 52, 53, 54, 55] | 13 => [57, 58, 59, 60] | 15 => [61, 62, 63, 64, 65, 66, 67, 68] | 10 => [35, 36] | 16 => [10, 69] | 17 => [8, 71, 72, 73, 74] | 18 => [3, 9, 75, 76, 77, 78, 79, 80, 81, 82, 83, 84] | _ => []
def c_ref18_Hear : RCode :=
 .seq (.ops [o 3 (.box 50 (t 0)),
 o 6 (.alloc 50 [(i 0), (i 0), sn, sn, sn]),
 mv 7 (k 0)] [0, 7])
 (.seq (.seq (.ops [fa 12 2 (t 3),
 l1 13 (t 12),
 mv 14 (t 1),
 ca 15 F.ref18_Has [(t 13), (t 14)],
 o 16 (.not (t 15))] [12, 13, 14, 15])
 (.cond (t 16)
  (.seq (.ops [la 17 5 (t 3),
  st 5 (t 6) (t 17),
  mv 7 (k 4)] [3, 17])
  (.ret))
  (.skip)))
 (.seq (.seq (.ops [mv 18 (t 2),
 ca 19 F.ref18_Right [(t 18)],
 o 20 (.not (t 19))] [18, 19])
 (.cond (t 20)
  (.seq (.ops [la 21 5 (t 3),
  st 5 (t 6) (t 21),
  mv 7 (k 2)] [3, 21])
  (.ret))
  (.skip)))
 (.seq (.draw (.take (mv 22 (t 1)) (.take (mv 24 (t 2)) (.take (fa 26 1 (t 3)) (.take (l1 27 (t 26)) (.alt (o 23 (.mkSl false 3 0 [] [])) false
  (.alt (o 25 (.app 3 1 8 [(i 0)] (t 23) (t 24))) true
   (.take (o 28 (.build [(i 0), sn, (i 0)] [(0, 1, (t 22)), (1, 1, (t 25)), (2, 1, (t 27))])) (.alt (o 8 (.alloc 87 [(i 0), sn, (i 0)])) false
    (.alt (st 3 (t 8) (t 28)) false
     (.done)
     (.none))
    (.none)))
   (.alt (o 8 (.alloc 87 [(i 0), sn, (i 0)])) false
    (.alt (o 25 (.app 3 1 8 [(i 0)] (t 23) (t 24))) true
     (.take (o 28 (.build [(i 0), sn, (i 0)] [(0, 1, (t 22)), (1, 1, (t 25)), (2, 1, (t 27))])) (.alt (st 3 (t 8) (t 28)) false
      (.done)
      (.none)))
     (.none))
    (.none)))
  (.alt (o 8 (.alloc 87 [(i 0), sn, (i 0)])) false
   (.alt (o 23 (.mkSl false 3 0 [] [])) false
    (.alt (o 25 (.app 3 1 8 [(i 0)] (t 23) (t 24))) true
     (.take (o 28 (.build [(i 0), sn, (i 0)] [(0, 1, (t 22)), (1, 1, (t 25)), (2, 1, (t 27))])) (.alt (st 3 (t 8) (t 28)) false
      (.done)
      (.none)))
     (.none))
    (.none))
   (.none))))))) [2, 22, 23, 24, 25, 26, 27, 28])
 (.seq (.ops [o 29 (.mkSl false 87 0 [] []),
 mv 9 (t 29)] [29])
 (.seq (.ops [mv 10 (kb false)] [])
 (.seq (.seq (.ops [mv 11 (k 0)] [])
 (.block 0 (.loop (.seq (.seq (.ops [mv 30 (t 11),
  fa 31 4 (t 3),
  l1 32 (t 31),
  o 33 (.len (t 32)),
  o 34 (.ibin .lss (t 30) (t 33))] [30, 31, 32, 33])
  (.cond (t 34)
   (.skip)
   (.exit 0)))
  (.seq (.block 1 (.seq (.seq (.ops [fa 37 4 (t 3),
  l1 38 (t 37),
  mv 39 (t 11),
  o 40 (.iaddr 3 (t 38) (t 39)),
  fa 41 0 (t 40),
  l1 42 (t 41),
  mv 43 (t 1),
  o 44 (.ibin .eql (t 42) (t 43))] [37, 38, 39, 40, 41, 42, 43])
  (.cond (t 44)
   (.exit 1)
   (.skip)))
  (.seq (.seq (.ops [mv 45 (t 10),
  o 46 (.not (t 45)),
  os 47 (.mov (t 46)),
  gt 47 48 (.mov (t 1)),
  gt 47 49 (.faddr 4 (t 3)),
  gt 47 50 (.load false 1 (t 49)),
  gt 47 51 (.mov (t 11)),
  gt 47 52 (.iaddr 3 (t 50) (t 51)),
  gt 47 53 (.faddr 0 (t 52)),
  gt 47 54 (.load false 1 (t 53)),
  gt 47 55 (.ibin .lss (t 48) (t 54)),
  o 56 (.pick (t 47) (t 55) (kb false))] [45, 46, 47, 48, 49, 50, 51, 52, 53, 54, 55])
  (.cond (t 56)
   (.seq (.ops [mv 57 (t 9),
   la 58 3 (t 8),
   o 59 (.mkSl true 87 1 [(i 0), sn, (i 0)] [(0, 3, (t 58))]),
   o 60 (.app 87 3 40 [(i 0), sn, (i 0)] (t 57) (t 59)),
   mv 9 (t 60)] [57, 58, 59, 60])
   (.ops [mv 10 (kb true)] []))
   (.skip)))
  (.ops [mv 61 (t 9),
  fa 62 4 (t 3),
  l1 63 (t 62),
  mv 64 (t 11),
  o 65 (.iaddr 3 (t 63) (t 64)),
  la 66 3 (t 65),
  o 67 (.mkSl true 87 1 [(i 0), sn, (i 0)] [(0, 3, (t 66))]),
  o 68 (.app 87 3 40 [(i 0), sn, (i 0)] (t 61) (t 67)),
  mv 9 (t 68)] [61, 62, 63, 64, 65, 66, 67, 68]))))
  (.ops [mv 35 (t 11),
  ad 36 (t 35) (k 1),
  mv 11 (t 36)] [35, 36]))))))
 (.seq (.seq (.ops [mv 69 (t 10),
 o 70 (.not (t 69))] [10, 69])
 (.cond (t 70)
  (.ops [mv 71 (t 9),
  la 72 3 (t 8),
  o 73 (.mkSl true 87 1 [(i 0), sn, (i 0)] [(0, 3, (t 72))]),
  o 74 (.app 87 3 40 [(i 0), sn, (i 0)] (t 71) (t 73)),
  mv 9 (t 74)] [8, 71, 72, 73, 74])
  (.skip)))
 (.seq (.ops [fa 75 0 (t 3),
 l1 76 (t 75),
 fa 77 1 (t 3),
 l1 78 (t 77),
 fa 79 2 (t 3),
 l1 80 (t 79),
 fa 81 3 (t 3),
 l1 82 (t 81),
 mv 83 (t 9),
 o 84 (.build [(i 0), (i 0), sn, sn, sn] [(0, 1, (t 76)), (1, 1, (t 78)), (2, 1, (t 80)), (3, 1, (t 82)), (4, 1, (t 83))]),
 st 5 (t 6) (t 84),
 mv 7 (k 0)] [3, 9, 75, 76, 77, 78, 79, 80, 81, 82, 83, 84])
 (.ret)))))))))
def r_ref18_Hear : List RRes := [.cell true 5 6, .tmp 7]
theorem fo_ref18_Hear {args : List Value} {M : Mem} {R : Value → Mem → Prop} (hn : args.length ≤ 85) (h : vfn Try.prog c_ref18_Hear r_ref18_Hear args M R) : CallsM Try.prog F.ref18_Hear args M R :=
  fn_ok (kf := k_ref18_Hear) Try.func37 (by kernel_rfl) (by kernel_rfl) hn (by kernel_rfl) h
/-- portage/portageref18.Tick -/
def k_ref18_Tick (i : Nat) : List Nat := match i with | 0 => [0] | 1 => [6] | 3 => [7, 8, 9, 10] | 5 => [14, 15, 16, 17, 18] | 6 => [19, 20] | 7 => [5, 22, 23, 24, 25, 26, 27, 28, 29, 30, 31, 32] | 4 => [12, 13] | 8 => [1, 3, 33, 34, 35, 36, 37, 38, 39, 40, 41, 42] | _ => []
def c_ref18_Tick : RCode :=
 .seq (.ops [o 1 (.box 50 (t 0)),
 o 2 (.alloc 50 [(i 0), (i 0), sn, sn, sn])] [0])
 (.seq (.ops [o 6 (.mkSl false 87 0 [] []),
 mv 3 (t 6)] [6])
 (.seq (.seq (.ops [mv 4 (k 0)] [])
 (.block 0 (.loop (.seq (.seq (.ops [mv 7 (t 4),
  fa 8 4 (t 1),
  l1 9 (t 8),
  o 10 (.len (t 9)),
  o 11 (.ibin .lss (t 7) (t 10))] [7, 8, 9, 10])
  (.cond (t 11)
   (.skip)
   (.exit 0)))
  (.seq (.block 1 (.seq (.ops [fa 14 4 (t 1),
  l1 15 (t 14),
  mv 16 (t 4),
  o 17 (.iaddr 3 (t 15) (t 16)),
  la 18 3 (t 17),
  o 5 (.alloc 87 [(i 0), sn, (i 0)]),
  st 3 (t 5) (t 18)] [14, 15, 16, 17, 18])
  (.seq (.ops [fa 19 2 (t 5),
  l1 20 (t 19),
  o 21 (.ibin .gtr (t 20) (k 1))] [19, 20])
  (.cond (t 21)
   (.ops [mv 22 (t 3),
   fa 23 0 (t 5),
   l1 24 (t 23),
   fa 25 1 (t 5),
   l1 26 (t 25),
   fa 27 2 (t 5),
   l1 28 (t 27),
   o 29 (.ibin .sub (t 28) (k 1)),
   o 30 (.build [(i 0), sn, (i 0)] [(0, 1, (t 24)), (1, 1, (t 26)), (2, 1, (t 29))]),
   o 31 (.mkSl true 87 1 [(i 0), sn, (i 0)] [(0, 3, (t 30))]),
   o 32 (.app 87 3 40 [(i 0), sn, (i 0)] (t 22) (t 31)),
   mv 3 (t 32)] [5, 22, 23, 24, 25, 26, 27, 28, 29, 30, 31, 32])
   (.skip)))))
  (.ops [mv 12 (t 4),
  ad 13 (t 12) (k 1),
  mv 4 (t 13)] [12, 13]))))))
 (.seq (.ops [fa 33 0 (t 1),
 l1 34 (t 33),
 fa 35 1 (t 1),
 l1 36 (t 35),
 fa 37 2 (t 1),
 l1 38 (t 37),
 fa 39 3 (t 1),
 l1 40 (t 39),
 mv 41 (t 3),
 o 42 (.build [(i 0), (i 0), sn, sn, sn] [(0, 1, (t 34)), (1, 1, (t 36)), (2, 1, (t 38)), (3, 1, (t 40)), (4, 1, (t 41))]),
 st 5 (t 2) (t 42)] [1, 3, 33, 34, 35, 36, 37, 38, 39, 40, 41, 42])
 (.ret))))
def r_ref18_Tick : List RRes := [.cell true 5 2]
theorem fo_ref18_Tick {args : List Value} {M : Mem} {R : Value → Mem → Prop} (hn : args.length ≤ 43) (h : vfn Try.prog c_ref18_Tick r_ref18_Tick args M R) : CallsM Try.prog F.ref18_Tick args M R :=
  fn_ok (kf := k_ref18_Tick) Try.func38 (by kernel_rfl) (by kernel_rfl) hn (by kernel_rfl) h
/-- slices.Sort[[]int,int] -/
def k_slices_Sort_int_int (i : Nat) : List Nat := match i with | 0 => [3, 4] | 1 => [0, 2, 5, 6, 7, 8, 9, 10] | _ => []
def c_slices_Sort_int_int : RCode :=
 .seq (.ops [mv 3 (t 0),
 o 4 (.len (t 3)),
 mv 2 (t 4)] [3, 4])
 (.ops [mv 5 (t 0),
 mv 6 (t 2),
 mv 7 (t 2),
 o 8 (.conv .u64 (t 7)),
 ca 9 F.math_bits_Len [(t 8)],
 ca 10 F.slices_pdqsortOrdered_int [(t 5), (k 0), (t 6), (t 9)]] [0, 2, 5, 6, 7, 8, 9, 10])
def r_slices_Sort_int_int : List RRes := []
theorem fo_slices_Sort_int_int {args : List Value} {M : Mem} {R : Value → Mem → Prop} (hn : args.length ≤ 11) (h : vfn Try.prog c_slices_Sort_int_int r_slices_Sort_int_int args M R) : CallsM Try.prog F.slices_Sort_int_int args M R :=
  fn_ok (kf := k_slices_Sort_int_int) Try.func39 (by kernel_rfl) (by kernel_rfl) hn (by kernel_rfl) h
/-- portage/portageref18.via -/
def k_ref18_via (i : Nat) : List Nat := match i with | 0 => [0, 4] | 2 => [6, 7, 8, 9] | 4 => [13, 14, 15, 16, 17, 18, 19] | 5 => [2, 5, 21, 22, 23, 24, 25, 26] | 3 => [11, 12] | _ => []
def c_ref18_via : RCode :=
 .seq (.ops [o 2 (.box 50 (t 0)),
 mv 4 (k 0)] [0, 4])
 (.seq (.seq (.ops [mv 5 (k 0)] [])
 (.block 0 (.loop (.seq (.seq (.ops [mv 6 (t 5),
  fa 7 3 (t 2),
  l1 8 (t 7),
  o 9 (.len (t 8)),
  o 10 (.ibin .lss (t 6) (t 9))] [6, 7, 8, 9])
  (.cond (t 10)
   (.skip)
   (.exit 0)))
  (.seq (.block 1 (.seq (.ops [fa 13 3 (t 2),
  l1 14 (t 13),
  mv 15 (t 5),
  o 16 (.iaddr 2 (t 14) (t 15)),
  fa 17 0 (t 16),
  l1 18 (t 17),
  mv 19 (t 1),
  o 20 (.ibin .eql (t 18) (t 19))] [13, 14, 15, 16, 17, 18, 19])
  (.cond (t 20)
   (.seq (.ops [fa 21 3 (t 2),
   l1 22 (t 21),
   mv 23 (t 5),
   o 24 (.iaddr 2 (t 22) (t 23)),
   fa 25 1 (t 24),
   l1 26 (t 25),
   mv 4 (t 26)] [2, 5, 21, 22, 23, 24, 25, 26])
   (.ret))
   (.skip))))
  (.ops [mv 11 (t 5),
  ad 12 (t 11) (k 1),
  mv 5 (t 12)] [11, 12]))))))
 (.seq (.ops [mv 4 (k (-1))] [])
 (.ret)))
def r_ref18_via : List RRes := [.tmp 4]
theorem fo_ref18_via {args : List Value} {M : Mem} {R : Value → Mem → Prop} (hn : args.length ≤ 27) (h : vfn Try.prog c_ref18_via r_ref18_via args M R) : CallsM Try.prog F.ref18_via args M R :=
  fn_ok (kf := k_ref18_via) Try.func40 (by kernel_rfl) (by kernel_rfl) hn (by kernel_rfl) h
/-- portage/portageref18.By -/
def k_ref18_By (i : Nat) : List Nat := match i with | 0 => [0, 6] | 2 => [8, 9, 10, 11] | 4 => [15, 16, 17, 18, 19, 20, 21] | 5 => [1, 3, 7, 23, 24, 25, 26, 27, 28, 29, 30, 31, 32, 33] | 3 => [13, 14] | _ => []
def c_ref18_By : RCode :=
 .seq (.ops [o 3 (.box 50 (t 0)),
 mv 6 (k 0)] [0, 6])
 (.seq (.seq (.ops [mv 7 (k 0)] [])
 (.block 0 (.loop (.seq (.seq (.ops [mv 8 (t 7),
  fa 9 4 (t 3),
  l1 10 (t 9),
  o 11 (.len (t 10)),
  o 12 (.ibin .lss (t 8) (t 11))] [8, 9, 10, 11])
  (.cond (t 12)
   (.skip)
   (.exit 0)))
  (.seq (.block 1 (.seq (.ops [fa 15 4 (t 3),
  l1 16 (t 15),
  mv 17 (t 7),
  o 18 (.iaddr 3 (t 16) (t 17)),
  fa 19 0 (t 18),
  l1 20 (t 19),
  mv 21 (t 2),
  o 22 (.ibin .eql (t 20) (t 21))] [15, 16, 17, 18, 19, 20, 21])
  (.cond (t 22)
   (.seq (.ops [fa 23 4 (t 3),
   l1 24 (t 23),
   mv 25 (t 7),
   o 26 (.iaddr 3 (t 24) (t 25)),
   fa 27 1 (t 26),
   l1 28 (t 27),
   mv 29 (t 1),
   o 30 (.iaddr 1 (t 28) (t 29)),
   l1 31 (t 30),
   ad 32 (t 31) (k 1),
   o 33 (.imm false (k 16) (t 32)),
   mv 6 (t 33)] [1, 3, 7, 23, 24, 25, 26, 27, 28, 29, 30, 31, 32, 33])
   (.ret))
   (.skip))))
  (.ops [mv 13 (t 7),
  ad 14 (t 13) (k 1),
  mv 7 (t 14)] [13, 14]))))))
 (.seq (.ops [mv 6 (k 16)] [])
 (.ret)))
def r_ref18_By : List RRes := [.tmp 6]
theorem fo_ref18_By {args : List Value} {M : Mem} {R : Value → Mem → Prop} (hn : args.length ≤ 34) (h : vfn Try.prog c_ref18_By r_ref18_By args M R) : CallsM Try.prog F.ref18_By args M R :=
  fn_ok (kf := k_ref18_By) Try.func41 (by kernel_rfl) (by kernel_rfl) hn (by kernel_rfl) h
/-- slices.Contains[[]int,int] -/
def k_slices_Contains_int_int (i : Nat) : List Nat := match i with | 0 => [4] | 1 => [0, 1, 5, 6, 7, 8] | _ => []
def c_slices_Contains_int_int : RCode :=
 .seq (.ops [mv 4 (kb false)] [4])
 (.seq (.ops [mv 5 (t 0),
 mv 6 (t 1),
 ca 7 F.slices_Index_int_int [(t 5), (t 6)],
 o 8 (.ibin .geq (t 7) (k 0)),
 mv 4 (t 8)] [0, 1, 5, 6, 7, 8])
 (.ret))
def r_slices_Contains_int_int : List RRes := [.tmp 4]
theorem fo_slices_Contains_int_int {args : List Value} {M : Mem} {R : Value → Mem → Prop} (hn : args.length ≤ 9) (h : vfn Try.prog c_slices_Contains_int_int r_slices_Contains_int_int args M R) : CallsM Try.prog F.slices_Contains_int_int args M R :=
  fn_ok (kf := k_slices_Contains_int_int) Try.func42 (by kernel_rfl) (by kernel_rfl) hn (by kernel_rfl) h
/-- portage/portageref18.Right -/
def k_ref18_Right (i : Nat) : List Nat := match i with | 0 => [2] | 2 => [4, 5, 6] | 4 => [10, 11, 12, 13, 14, 15, 16, 17, 18, 19, 20] | 3 => [8, 9] | 6 => [0, 22, 23, 24] | _ => []
def c_ref18_Right : RCode :=
 .seq (.ops [mv 2 (kb false)] [2])
 (.seq (.seq (.ops [mv 3 (k 0)] [])
 (.block 0 (.loop (.seq (.seq (.ops [mv 4 (t 3),
  mv 5 (t 0),
  o 6 (.len (t 5)),
  o 7 (.ibin .lss (t 4) (t 6))] [4, 5, 6])
  (.cond (t 7)
   (.skip)
   (.exit 0)))
  (.seq (.block 1 (.seq (.ops [mv 10 (t 0),
  mv 11 (t 3),
  o 12 (.iaddr 1 (t 10) (t 11)),
  l1 13 (t 12),
  o 14 (.ibin .lss (t 13) (k 0)),
  os 15 (.mov (t 14)),
  gf 15 16 (.mov (t 0)),
  gf 15 17 (.mov (t 3)),
  gf 15 18 (.iaddr 1 (t 16) (t 17)),
  gf 15 19 (.load false 1 (t 18)),
  gf 15 20 (.ibin .gtr (t 19) (k 16)),
  o 21 (.pick (t 15) (kb true) (t 20))] [10, 11, 12, 13, 14, 15, 16, 17, 18, 19, 20])
  (.cond (t 21)
   (.seq (.ops [mv 2 (kb false)] [])
   (.ret))
   (.skip))))
  (.ops [mv 8 (t 3),
  ad 9 (t 8) (k 1),
  mv 3 (t 9)] [8, 9]))))))
 (.seq (.ops [mv 22 (t 0),
 o 23 (.len (t 22)),
 o 24 (.ibin .eql (t 23) (k 64)),
 mv 2 (t 24)] [0, 22, 23, 24])
 (.ret)))
def r_ref18_Right : List RRes := [.tmp 2]
theorem fo_ref18_Right {args : List Value} {M : Mem} {R : Value → Mem → Prop} (hn : args.length ≤ 25) (h : vfn Try.prog c_ref18_Right r_ref18_Right args M R) : CallsM Try.prog F.ref18_Right args M R :=
  fn_ok (kf := k_ref18_Right) Try.func43 (by kernel_rfl) (by kernel_rfl) hn (by kernel_rfl) h
/-- slices.pdqsortOrdered[int] -/
def k_slices_pdqsortOrdered_int (i : Nat) : List Nat := match i with | 2 => [19, 20, 21] | 3 => [22] | 4 => [0, 1, 2, 24, 25, 26, 27] | 5 => [28] | 6 => [0, 1, 2, 30, 31, 32, 33] | 7 => [34] | 8 => [36, 37, 38, 39] | 9 => [40, 41] | 10 => [42, 43, 44, 45, 46, 47, 48] | 11 => [49] | 12 => [51, 52, 53, 54] | 13 => [55, 56, 57, 58, 59, 60] | 15 => [12, 61, 62, 63, 64, 65, 66, 67] | 16 => [69, 70, 71] | 17 => [73, 74, 75, 76, 77, 78, 79, 80, 81, 82, 83, 84, 85, 86] | 18 => [1, 11, 88, 89, 90, 91, 92] | 19 => [13, 93] | 20 => [11, 94, 95, 96, 97, 98, 99, 100, 101] | 21 => [15, 102] | 22 => [103, 104, 105, 106, 107, 108] | 23 => [10, 109, 110] | 24 => [111, 112] | 25 => [16, 18, 114, 115, 116] | 26 => [1, 117, 118, 119, 120, 121] | 27 => [14, 122, 123] | 28 => [17, 18, 124, 125, 126] | 29 => [2, 127, 128, 129, 130, 131, 132] | 30 => [14, 133] | _ => []
def c_slices_pdqsortOrdered_int : RCode :=
 .seq (.ops [mv 8 (kb true)] [])
 (.seq (.ops [mv 9 (kb true)] [])
 (.block 0 (.loop (.block 1 (.seq (.ops [mv 19 (t 2),
  mv 20 (t 1),
  o 21 (.ibin .sub (t 19) (t 20)),
  mv 10 (t 21)] [19, 20, 21])
  (.seq (.seq (.ops [mv 22 (t 10),
  o 23 (.ibin .leq (t 22) (k 12))] [22])
  (.cond (t 23)
   (.seq (.ops [mv 24 (t 0),
   mv 25 (t 1),
   mv 26 (t 2),
   ca 27 F.slices_insertionSortOrdered_int [(t 24), (t 25), (t 26)]] [0, 1, 2, 24, 25, 26, 27])
   (.ret))
   (.skip)))
  (.seq (.seq (.ops [mv 28 (t 3),
  o 29 (.ibin .eql (t 28) (k 0))] [28])
  (.cond (t 29)
   (.seq (.ops [mv 30 (t 0),
   mv 31 (t 1),
   mv 32 (t 2),
   ca 33 F.slices_heapSortOrdered_int [(t 30), (t 31), (t 32)]] [0, 1, 2, 30, 31, 32, 33])
   (.ret))
   (.skip)))
  (.seq (.seq (.ops [mv 34 (t 8),
  o 35 (.not (t 34))] [34])
  (.cond (t 35)
   (.seq (.ops [mv 36 (t 0),
   mv 37 (t 1),
   mv 38 (t 2),
   ca 39 F.slices_breakPatternsOrdered_int [(t 36), (t 37), (t 38)]] [36, 37, 38, 39])
   (.ops [mv 40 (t 3),
   o 41 (.ibin .sub (t 40) (k 1)),
   mv 3 (t 41)] [40, 41]))
   (.skip)))
  (.seq (.ops [mv 43 (t 0),
  mv 44 (t 1),
  mv 45 (t 2),
  ca 46 F.slices_choosePivotOrdered_int [(t 43), (t 44), (t 45)],
  mv 42 (t 46),
  ex 47 (t 42) 0,
  ex 48 (t 42) 1,
  mv 11 (t 47),
  mv 12 (t 48)] [42, 43, 44, 45, 46, 47, 48])
  (.seq (.seq (.ops [mv 49 (t 12),
  o 50 (.ibin .eql (t 49) (k 2))] [49])
  (.cond (t 50)
   (.seq (.ops [mv 51 (t 0),
   mv 52 (t 1),
   mv 53 (t 2),
   ca 54 F.slices_reverseRangeOrdered_int [(t 51), (t 52), (t 53)]] [51, 52, 53, 54])
   (.seq (.ops [mv 55 (t 2),
   o 56 (.ibin .sub (t 55) (k 1)),
   mv 57 (t 11),
   mv 58 (t 1),
   o 59 (.ibin .sub (t 57) (t 58)),
   o 60 (.ibin .sub (t 56) (t 59)),
   mv 11 (t 60)] [55, 56, 57, 58, 59, 60])
   (.ops [mv 12 (k 1)] [])))
   (.skip)))
  (.seq (.seq (.ops [mv 61 (t 8),
  os 62 (.mov (t 61)),
  gt 62 63 (.mov (t 9)),
  o 64 (.pick (t 62) (t 63) (kb false)),
  os 65 (.mov (t 64)),
  gt 65 66 (.mov (t 12)),
  gt 65 67 (.ibin .eql (t 66) (k 1)),
  o 68 (.pick (t 65) (t 67) (kb false))] [12, 61, 62, 63, 64, 65, 66, 67])
  (.cond (t 68)
   (.seq (.ops [mv 69 (t 0),
   mv 70 (t 1),
   mv 71 (t 2),
   ca 72 F.slices_partialInsertionSortOrdered_int [(t 69), (t 70), (t 71)]] [69, 70, 71])
   (.cond (t 72)
    (.ret)
    (.skip)))
   (.skip)))
  (.seq (.seq (.draw (.take (mv 73 (t 1)) (.take (o 74 (.ibin .gtr (t 73) (k 0))) (.take (os 75 (.mov (t 74))) (.take (gt 75 76 (.mov (t 0))) (.take (gt 75 77 (.mov (t 1))) (.take (gt 75 78 (.ibin .sub (t 77) (k 1))) (.take (gt 75 79 (.iaddr 1 (t 76) (t 78))) (.take (gt 75 80 (.load false 1 (t 79))) (.take (gt 75 81 (.mov (t 0))) (.take (gt 75 82 (.mov (t 11))) (.take (gt 75 83 (.iaddr 1 (t 81) (t 82))) (.take (gt 75 84 (.load false 1 (t 83))) (.alt (gt 75 85 (.call (fn F.cmp_Less_int) [(t 80), (t 84)])) false
   (.take (gt 75 86 (.not (t 85))) (.take (o 87 (.pick (t 75) (t 86) (kb false))) (.done)))
   (.none)))))))))))))) [73, 74, 75, 76, 77, 78, 79, 80, 81, 82, 83, 84, 85, 86])
  (.cond (t 87)
   (.seq (.ops [mv 88 (t 0),
   mv 89 (t 1),
   mv 90 (t 2),
   mv 91 (t 11),
   ca 92 F.slices_partitionEqualOrdered_int [(t 88), (t 89), (t 90), (t 91)],
   mv 13 (t 92)] [1, 11, 88, 89, 90, 91, 92])
   (.seq (.ops [mv 93 (t 13),
   mv 1 (t 93)] [13, 93])
   (.exit 1)))
   (.skip)))
  (.seq (.ops [mv 95 (t 0),
  mv 96 (t 1),
  mv 97 (t 2),
  mv 98 (t 11),
  ca 99 F.slices_partitionOrdered_int [(t 95), (t 96), (t 97), (t 98)],
  mv 94 (t 99),
  ex 100 (t 94) 0,
  ex 101 (t 94) 1,
  mv 14 (t 100),
  mv 15 (t 101)] [11, 94, 95, 96, 97, 98, 99, 100, 101])
  (.seq (.ops [mv 102 (t 15),
  mv 9 (t 102)] [15, 102])
  (.seq (.ops [mv 103 (t 14),
  mv 104 (t 1),
  o 105 (.ibin .sub (t 103) (t 104)),
  mv 106 (t 2),
  mv 107 (t 14),
  o 108 (.ibin .sub (t 106) (t 107)),
  mv 16 (t 105),
  mv 17 (t 108)] [103, 104, 105, 106, 107, 108])
  (.seq (.ops [mv 109 (t 10),
  o 110 (.ibin .quo (t 109) (k 8)),
  mv 18 (t 110)] [10, 109, 110])
  (.seq (.ops [mv 111 (t 16),
  mv 112 (t 17),
  o 113 (.ibin .lss (t 111) (t 112))] [111, 112])
  (.cond (t 113)
   (.seq (.ops [mv 114 (t 16),
   mv 115 (t 18),
   o 116 (.ibin .geq (t 114) (t 115)),
   mv 8 (t 116)] [16, 18, 114, 115, 116])
   (.seq (.ops [mv 117 (t 0),
   mv 118 (t 1),
   mv 119 (t 14),
   mv 120 (t 3),
   ca 121 F.slices_pdqsortOrdered_int [(t 117), (t 118), (t 119), (t 120)]] [1, 117, 118, 119, 120, 121])
   (.ops [mv 122 (t 14),
   ad 123 (t 122) (k 1),
   mv 1 (t 123)] [14, 122, 123])))
   (.seq (.ops [mv 124 (t 17),
   mv 125 (t 18),
   o 126 (.ibin .geq (t 124) (t 125)),
   mv 8 (t 126)] [17, 18, 124, 125, 126])
   (.seq (.ops [mv 127 (t 0),
   mv 128 (t 14),
   ad 129 (t 128) (k 1),
   mv 130 (t 2),
   mv 131 (t 3),
   ca 132 F.slices_pdqsortOrdered_int [(t 127), (t 129), (t 130), (t 131)]] [2, 127, 128, 129, 130, 131, 132])
   (.ops [mv 133 (t 14),
   mv 2 (t 133)] [14, 133])))))))))))))))))))))
def r_slices_pdqsortOrdered_int : List RRes := []
theorem fo_slices_pdqsortOrdered_int {args : List Value} {M : Mem} {R : Value → Mem → Prop} (hn : args.length ≤ 134) (h : vfn Try.prog c_slices_pdqsortOrdered_int r_slices_pdqsortOrdered_int args M R) : CallsM Try.prog F.slices_pdqsortOrdered_int args M R :=
  fn_ok (kf := k_slices_pdqsortOrdered_int) Try.func44 (by kernel_rfl) (by kernel_rfl) hn (by kernel_rfl) h
/-- math/bits.Len -/
def k_math_bits_Len (i : Nat) : List Nat := match i with | 0 => [2] | 1 => [0, 3, 4, 5] | 2 => [0, 6, 7] | _ => []
def c_math_bits_Len : RCode :=
 .seq (.ops [mv 2 (k 0)] [2])
 (.seq (.cond (kb false)
  (.seq (.ops [mv 3 (t 0),
  o 4 (.conv .u32 (t 3)),
  ca 5 F.math_bits_Len32 [(t 4)],
  mv 2 (t 5)] [0, 3, 4, 5])
  (.ret))
  (.skip))
 (.seq (.ops [mv 6 (t 0),
 ca 7 F.math_bits_Len64 [(t 6)],
 mv 2 (t 7)] [0, 6, 7])
 (.ret)))
def r_math_bits_Len : List RRes := [.tmp 2]
theorem fo_math_bits_Len {args : List Value} {M : Mem} {R : Value → Mem → Prop} (hn : args.length ≤ 8) (h : vfn Try.prog c_math_bits_Len r_math_bits_Len args M R) : CallsM Try.prog F.math_bits_Len args M R :=
  fn_ok (kf := k_math_bits_Len) Try.func45 (by kernel_rfl) (by kernel_rfl) hn (by kernel_rfl) h
/-- slices.Index[[]int,int] -/
def k_slices_Index_int_int (i : Nat) : List Nat := match i with | 0 => [4] | 1 => [6] | 3 => [10] | 4 => [11, 12, 13, 14, 15] | 5 => [5, 17] | 6 => [18] | _ => []
def c_slices_Index_int_int : RCode :=
 .seq (.ops [mv 4 (k 0)] [4])
 (.seq (.seq (.ops [mv 6 (t 0),
 o 7 (.len (t 6)),
 mv 8 (k 0)] [6])
 (.block 0 (.loop (.seq (.ops [o 9 (.ibin .lss (t 8) (t 7))] [])
  (.seq (.cond (t 9)
   (.skip)
   (.exit 0))
  (.seq (.block 1 (.seq (.ops [mv 10 (t 8),
  mv 5 (t 10)] [10])
  (.seq (.ops [mv 11 (t 1),
  mv 12 (t 0),
  mv 13 (t 5),
  o 14 (.iaddr 1 (t 12) (t 13)),
  l1 15 (t 14),
  o 16 (.ibin .eql (t 11) (t 15))] [11, 12, 13, 14, 15])
  (.cond (t 16)
   (.seq (.ops [mv 17 (t 5),
   mv 4 (t 17)] [5, 17])
   (.ret))
   (.skip)))))
  (.ops [ad 18 (t 8) (k 1),
  mv 8 (t 18)] [18])))))))
 (.seq (.ops [mv 4 (k (-1))] [])
 (.ret)))
def r_slices_Index_int_int : List RRes := [.tmp 4]
theorem fo_slices_Index_int_int {args : List Value} {M : Mem} {R : Value → Mem → Prop} (hn : args.length ≤ 19) (h : vfn Try.prog c_slices_Index_int_int r_slices_Index_int_int args M R) : CallsM Try.prog F.slices_Index_int_int args M R :=
  fn_ok (kf := k_slices_Index_int_int) Try.func46 (by kernel_rfl) (by kernel_rfl) hn (by kernel_rfl) h
/-- slices.insertionSortOrdered[int] -/
def k_slices_insertionSortOrdered_int (i : Nat) : List Nat := match i with | 0 => [8, 9] | 1 => [10, 11] | 3 => [15] | 4 => [16, 17, 18, 19, 20, 21, 22, 23, 24, 25, 26, 27, 28, 29] | 6 => [33, 34, 35, 36, 37, 38, 39, 40, 41, 42, 43, 44, 45, 46, 47, 48] | 5 => [31, 32] | 2 => [13, 14] | _ => []
def c_slices_insertionSortOrdered_int : RCode :=
 .seq (.ops [mv 8 (t 1),
 ad 9 (t 8) (k 1),
 mv 6 (t 9)] [8, 9])
 (.block 0 (.loop (.seq (.seq (.ops [mv 10 (t 6),
  mv 11 (t 2),
  o 12 (.ibin .lss (t 10) (t 11))] [10, 11])
  (.cond (t 12)
   (.skip)
   (.exit 0)))
  (.seq (.block 1 (.seq (.ops [mv 15 (t 6),
  mv 7 (t 15)] [15])
  (.block 2 (.loop (.seq (.seq (.draw (.take (mv 16 (t 7)) (.take (mv 17 (t 1)) (.take (o 18 (.ibin .gtr (t 16) (t 17))) (.take (os 19 (.mov (t 18))) (.take (gt 19 20 (.mov (t 0))) (.take (gt 19 21 (.mov (t 7))) (.take (gt 19 22 (.iaddr 1 (t 20) (t 21))) (.take (gt 19 23 (.load false 1 (t 22))) (.take (gt 19 24 (.mov (t 0))) (.take (gt 19 25 (.mov (t 7))) (.take (gt 19 26 (.ibin .sub (t 25) (k 1))) (.take (gt 19 27 (.iaddr 1 (t 24) (t 26))) (.take (gt 19 28 (.load false 1 (t 27))) (.alt (gt 19 29 (.call (fn F.cmp_Less_int) [(t 23), (t 28)])) false
    (.take (o 30 (.pick (t 19) (t 29) (kb false))) (.done))
    (.none))))))))))))))) [16, 17, 18, 19, 20, 21, 22, 23, 24, 25, 26, 27, 28, 29])
   (.cond (t 30)
    (.skip)
    (.exit 2)))
   (.seq (.block 3 (.draw (.take (mv 33 (t 0)) (.take (mv 34 (t 7)) (.take (mv 35 (t 0)) (.take (mv 36 (t 7)) (.take (o 37 (.ibin .sub (t 36) (k 1))) (.take (mv 38 (t 0)) (.take (mv 39 (t 7)) (.take (o 40 (.ibin .sub (t 39) (k 1))) (.take (o 41 (.iaddr 1 (t 38) (t 40))) (.take (l1 42 (t 41)) (.take (mv 43 (t 0)) (.take (mv 44 (t 7)) (.take (o 45 (.iaddr 1 (t 43) (t 44))) (.take (l1 46 (t 45)) (.take (o 47 (.iaddr 1 (t 33) (t 34))) (.alt (st 1 (t 47) (t 42)) false
    (.take (o 48 (.iaddr 1 (t 35) (t 37))) (.alt (st 1 (t 48) (t 46)) false
     (.done)
     (.none)))
    (.none))))))))))))))))) [33, 34, 35, 36, 37, 38, 39, 40, 41, 42, 43, 44, 45, 46, 47, 48]))
   (.ops [mv 31 (t 7),
   o 32 (.ibin .sub (t 31) (k 1)),
   mv 7 (t 32)] [31, 32])))))))
  (.ops [mv 13 (t 6),
  ad 14 (t 13) (k 1),
  mv 6 (t 14)] [13, 14])))))
def r_slices_insertionSortOrdered_int : List RRes := []
theorem fo_slices_insertionSortOrdered_int {args : List Value} {M : Mem} {R : Value → Mem → Prop} (hn : args.length ≤ 49) (h : vfn Try.prog c_slices_insertionSortOrdered_int r_slices_insertionSortOrdered_int args M R) : CallsM Try.prog F.slices_insertionSortOrdered_int args M R :=
  fn_ok (kf := k_slices_insertionSortOrdered_int) Try.func47 (by kernel_rfl) (by kernel_rfl) hn (by kernel_rfl) h
/-- slices.heapSortOrdered[int] -/
def k_slices_heapSortOrdered_int (i : Nat) : List Nat := match i with | 0 => [11] | 2 => [1, 2, 12, 13, 14] | 3 => [15, 16, 17] | 4 => [18] | 6 => [22, 23, 24, 25, 26] | 5 => [20, 21] | 7 => [8, 27, 28] | 8 => [29] | 10 => [33, 34, 35, 36, 37, 38, 39, 40, 41, 42, 43, 44, 45, 46, 47, 48, 49, 50] | 11 => [51, 52, 53, 54, 55] | 9 => [31, 32] | _ => []
def c_slices_heapSortOrdered_int : RCode :=
 .seq (.ops [mv 11 (t 1),
 mv 6 (t 11)] [11])
 (.seq (.ops [mv 7 (k 0)] [])
 (.seq (.ops [mv 12 (t 2),
 mv 13 (t 1),
 o 14 (.ibin .sub (t 12) (t 13)),
 mv 8 (t 14)] [1, 2, 12, 13, 14])
 (.seq (.seq (.ops [mv 15 (t 8),
 o 16 (.ibin .sub (t 15) (k 1)),
 o 17 (.ibin .quo (t 16) (k 2)),
 mv 9 (t 17)] [15, 16, 17])
 (.block 0 (.loop (.seq (.seq (.ops [mv 18 (t 9),
  o 19 (.ibin .geq (t 18) (k 0))] [18])
  (.cond (t 19)
   (.skip)
   (.exit 0)))
  (.seq (.block 1 (.ops [mv 22 (t 0),
  mv 23 (t 9),
  mv 24 (t 8),
  mv 25 (t 6),
  ca 26 F.slices_siftDownOrdered_int [(t 22), (t 23), (t 24), (t 25)]] [22, 23, 24, 25, 26]))
  (.ops [mv 20 (t 9),
  o 21 (.ibin .sub (t 20) (k 1)),
  mv 9 (t 21)] [20, 21]))))))
 (.seq (.ops [mv 27 (t 8),
 o 28 (.ibin .sub (t 27) (k 1)),
 mv 10 (t 28)] [8, 27, 28])
 (.block 2 (.loop (.seq (.seq (.ops [mv 29 (t 10),
  o 30 (.ibin .geq (t 29) (k 0))] [29])
  (.cond (t 30)
   (.skip)
   (.exit 2)))
  (.seq (.block 3 (.seq (.draw (.take (mv 33 (t 0)) (.take (mv 34 (t 6)) (.take (mv 35 (t 0)) (.take (mv 36 (t 6)) (.take (mv 37 (t 10)) (.take (ad 38 (t 36) (t 37)) (.take (mv 39 (t 0)) (.take (mv 40 (t 6)) (.take (mv 41 (t 10)) (.take (ad 42 (t 40) (t 41)) (.take (o 43 (.iaddr 1 (t 39) (t 42))) (.take (l1 44 (t 43)) (.take (mv 45 (t 0)) (.take (mv 46 (t 6)) (.take (o 47 (.iaddr 1 (t 45) (t 46))) (.take (l1 48 (t 47)) (.take (o 49 (.iaddr 1 (t 33) (t 34))) (.alt (st 1 (t 49) (t 44)) false
   (.take (o 50 (.iaddr 1 (t 35) (t 38))) (.alt (st 1 (t 50) (t 48)) false
    (.done)
    (.none)))
   (.none))))))))))))))))))) [33, 34, 35, 36, 37, 38, 39, 40, 41, 42, 43, 44, 45, 46, 47, 48, 49, 50])
  (.ops [mv 51 (t 0),
  mv 52 (t 7),
  mv 53 (t 10),
  mv 54 (t 6),
  ca 55 F.slices_siftDownOrdered_int [(t 51), (t 52), (t 53), (t 54)]] [51, 52, 53, 54, 55])))
  (.ops [mv 31 (t 10),
  o 32 (.ibin .sub (t 31) (k 1)),
  mv 10 (t 32)] [31, 32])))))))))
def r_slices_heapSortOrdered_int : List RRes := []
theorem fo_slices_heapSortOrdered_int {args : List Value} {M : Mem} {R : Value → Mem → Prop} (hn : args.length ≤ 56) (h : vfn Try.prog c_slices_heapSortOrdered_int r_slices_heapSortOrdered_int args M R) : CallsM Try.prog F.slices_heapSortOrdered_int args M R :=
  fn_ok (kf := k_slices_heapSortOrdered_int) Try.func48 (by kernel_rfl) (by kernel_rfl) hn (by kernel_rfl) h
/-- slices.breakPatternsOrdered[int] -/
def k_slices_breakPatternsOrdered_int (i : Nat) : List Nat := match i with | 0 => [2, 11, 12, 13] | 1 => [14] | 2 => [16, 17] | 3 => [18, 19] | 4 => [20, 21, 22, 23, 24, 25] | 5 => [26, 27, 28, 29, 30, 31, 32] | 7 => [36, 37, 38, 39, 40] | 8 => [41, 42] | 9 => [44, 45, 46] | 10 => [10, 47, 48, 49, 50, 51, 52, 53, 54, 55, 56, 57, 58, 59, 60, 61, 62, 63, 64] | 6 => [34, 35] | _ => []
def c_slices_breakPatternsOrdered_int : RCode :=
 .seq (.ops [mv 11 (t 2),
 mv 12 (t 1),
 o 13 (.ibin .sub (t 11) (t 12)),
 mv 6 (t 13)] [2, 11, 12, 13])
 (.seq (.ops [mv 14 (t 6),
 o 15 (.ibin .geq (t 14) (k 8))] [14])
 (.cond (t 15)
  (.seq (.ops [mv 16 (t 6),
  o 17 (.conv .u64 (t 16)),
  o 7 (.alloc 107 [(.int .u64 0)]),
  st 1 (t 7) (t 17)] [16, 17])
  (.seq (.ops [mv 18 (t 6),
  ca 19 F.slices_nextPowerOfTwo [(t 18)],
  mv 8 (t 19)] [18, 19])
  (.seq (.ops [mv 20 (t 1),
  mv 21 (t 6),
  o 22 (.ibin .quo (t 21) (k 4)),
  o 23 (.ibin .mul (t 22) (k 2)),
  ad 24 (t 20) (t 23),
  o 25 (.ibin .sub (t 24) (k 1)),
  mv 9 (t 25)] [20, 21, 22, 23, 24, 25])
  (.block 0 (.loop (.seq (.seq (.ops [mv 26 (t 9),
   mv 27 (t 1),
   mv 28 (t 6),
   o 29 (.ibin .quo (t 28) (k 4)),
   o 30 (.ibin .mul (t 29) (k 2)),
   ad 31 (t 27) (t 30),
   ad 32 (t 31) (k 1),
   o 33 (.ibin .leq (t 26) (t 32))] [26, 27, 28, 29, 30, 31, 32])
   (.cond (t 33)
    (.skip)
    (.exit 0)))
   (.seq (.block 1 (.seq (.ops [ca 36 F.slices_xorshift_Next [(t 7)],
   mv 37 (t 8),
   o 38 (.ibin .sub (t 37) (.const (.int .u64 1))),
   o 39 (.ibin .and (t 36) (t 38)),
   o 40 (.conv .i64 (t 39)),
   mv 10 (t 40)] [36, 37, 38, 39, 40])
   (.seq (.seq (.ops [mv 41 (t 10),
   mv 42 (t 6),
   o 43 (.ibin .geq (t 41) (t 42))] [41, 42])
   (.cond (t 43)
    (.ops [mv 44 (t 10),
    mv 45 (t 6),
    o 46 (.ibin .sub (t 44) (t 45)),
    mv 10 (t 46)] [44, 45, 46])
    (.skip)))
   (.draw (.take (mv 47 (t 0)) (.take (mv 48 (t 9)) (.take (mv 49 (t 0)) (.take (mv 50 (t 1)) (.take (mv 51 (t 10)) (.take (ad 52 (t 50) (t 51)) (.take (mv 53 (t 0)) (.take (mv 54 (t 1)) (.take (mv 55 (t 10)) (.take (ad 56 (t 54) (t 55)) (.take (o 57 (.iaddr 1 (t 53) (t 56))) (.take (l1 58 (t 57)) (.take (mv 59 (t 0)) (.take (mv 60 (t 9)) (.take (o 61 (.iaddr 1 (t 59) (t 60))) (.take (l1 62 (t 61)) (.take (o 63 (.iaddr 1 (t 47) (t 48))) (.alt (st 1 (t 63) (t 58)) false
    (.take (o 64 (.iaddr 1 (t 49) (t 52))) (.alt (st 1 (t 64) (t 62)) false
     (.done)
     (.none)))
    (.none))))))))))))))))))) [10, 47, 48, 49, 50, 51, 52, 53, 54, 55, 56, 57, 58, 59, 60, 61, 62, 63, 64]))))
   (.ops [mv 34 (t 9),
   ad 35 (t 34) (k 1),
   mv 9 (t 35)] [34, 35]))))))))
  (.skip)))
def r_slices_breakPatternsOrdered_int : List RRes := []
theorem fo_slices_breakPatternsOrdered_int {args : List Value} {M : Mem} {R : Value → Mem → Prop} (hn : args.length ≤ 65) (h : vfn Try.prog c_slices_breakPatternsOrdered_int r_slices_breakPatternsOrdered_int args M R) : CallsM Try.prog F.slices_breakPatternsOrdered_int args M R :=
  fn_ok (kf := k_slices_breakPatternsOrdered_int) Try.func49 (by kernel_rfl) (by kernel_rfl) hn (by kernel_rfl) h
/-- slices.choosePivotOrdered[int] -/
def k_slices_choosePivotOrdered_int (i : Nat) : List Nat := match i with | 0 => [6, 7] | 1 => [2, 13, 14, 15] | 3 => [16, 17, 18, 19, 20] | 4 => [21, 22, 23, 24, 25] | 5 => [1, 26, 27, 28, 29, 30] | 6 => [31] | 7 => [8, 33] | 8 => [35, 36, 37] | 9 => [38, 39, 40] | 10 => [41, 42, 43] | 11 => [0, 10, 12, 44, 45, 46, 47, 48] | 12 => [9] | 14 => [52] | 15 => [11, 53] | 16 => [49, 55] | 17 => [11, 56] | 13 => [11, 50] | _ => []
def c_slices_choosePivotOrdered_int : RCode :=
 .seq (.ops [mv 6 (k 0),
 mv 7 (k 0)] [6, 7])
 (.seq (.ops [mv 13 (t 2),
 mv 14 (t 1),
 o 15 (.ibin .sub (t 13) (t 14)),
 mv 8 (t 15)] [2, 13, 14, 15])
 (.seq (.ops [o 9 (.alloc 3 [(i 0)])] [])
 (.seq (.ops [mv 16 (t 1),
 mv 17 (t 8),
 o 18 (.ibin .quo (t 17) (k 4)),
 o 19 (.ibin .mul (t 18) (k 1)),
 ad 20 (t 16) (t 19),
 mv 10 (t 20)] [16, 17, 18, 19, 20])
 (.seq (.ops [mv 21 (t 1),
 mv 22 (t 8),
 o 23 (.ibin .quo (t 22) (k 4)),
 o 24 (.ibin .mul (t 23) (k 2)),
 ad 25 (t 21) (t 24),
 mv 11 (t 25)] [21, 22, 23, 24, 25])
 (.seq (.ops [mv 26 (t 1),
 mv 27 (t 8),
 o 28 (.ibin .quo (t 27) (k 4)),
 o 29 (.ibin .mul (t 28) (k 3)),
 ad 30 (t 26) (t 29),
 mv 12 (t 30)] [1, 26, 27, 28, 29, 30])
 (.seq (.seq (.ops [mv 31 (t 8),
 o 32 (.ibin .geq (t 31) (k 8))] [31])
 (.cond (t 32)
  (.seq (.seq (.ops [mv 33 (t 8),
  o 34 (.ibin .geq (t 33) (k 50))] [8, 33])
  (.cond (t 34)
   (.seq (.ops [mv 35 (t 0),
   mv 36 (t 10),
   ca 37 F.slices_medianAdjacentOrdered_int [(t 35), (t 36), (t 9)],
   mv 10 (t 37)] [35, 36, 37])
   (.seq (.ops [mv 38 (t 0),
   mv 39 (t 11),
   ca 40 F.slices_medianAdjacentOrdered_int [(t 38), (t 39), (t 9)],
   mv 11 (t 40)] [38, 39, 40])
   (.ops [mv 41 (t 0),
   mv 42 (t 12),
   ca 43 F.slices_medianAdjacentOrdered_int [(t 41), (t 42), (t 9)],
   mv 12 (t 43)] [41, 42, 43])))
   (.skip)))
  (.ops [mv 44 (t 0),
  mv 45 (t 10),
  mv 46 (t 11),
  mv 47 (t 12),
  ca 48 F.slices_medianOrdered_int [(t 44), (t 45), (t 46), (t 47), (t 9)],
  mv 11 (t 48)] [0, 10, 12, 44, 45, 46, 47, 48]))
  (.skip)))
 (.seq (.ops [l1 49 (t 9)] [9])
 (.block 0 (.seq (.ops [o 52 (.ibin .eql (t 49) (k 0)),
 mv 51 (t 52)] [52])
 (.cond (t 51)
  (.seq (.ops [mv 53 (t 11),
  mv 6 (t 53),
  mv 7 (k 1)] [11, 53])
  (.ret))
  (.seq (.ops [o 55 (.ibin .eql (t 49) (k 12)),
  mv 54 (t 55)] [49, 55])
  (.cond (t 54)
   (.seq (.ops [mv 56 (t 11),
   mv 6 (t 56),
   mv 7 (k 2)] [11, 56])
   (.ret))
   (.seq (.ops [mv 50 (t 11),
   mv 6 (t 50),
   mv 7 (k 0)] [11, 50])
   (.ret))))))))))))))
def r_slices_choosePivotOrdered_int : List RRes := [.tmp 6, .tmp 7]
theorem fo_slices_choosePivotOrdered_int {args : List Value} {M : Mem} {R : Value → Mem → Prop} (hn : args.length ≤ 57) (h : vfn Try.prog c_slices_choosePivotOrdered_int r_slices_choosePivotOrdered_int args M R) : CallsM Try.prog F.slices_choosePivotOrdered_int args M R :=
  fn_ok (kf := k_slices_choosePivotOrdered_int) Try.func50 (by kernel_rfl) (by kernel_rfl) hn (by kernel_rfl) h
/-- slices.reverseRangeOrdered[int] -/
def k_slices_reverseRangeOrdered_int (i : Nat) : List Nat := match i with | 0 => [1, 8] | 1 => [2, 9, 10] | 2 => [11, 12] | 3 => [14, 15, 16, 17, 18, 19, 20, 21, 22, 23, 24, 25, 26, 27] | 4 => [28, 29] | 5 => [30, 31] | _ => []
def c_slices_reverseRangeOrdered_int : RCode :=
 .seq (.ops [mv 8 (t 1),
 mv 6 (t 8)] [1, 8])
 (.seq (.ops [mv 9 (t 2),
 o 10 (.ibin .sub (t 9) (k 1)),
 mv 7 (t 10)] [2, 9, 10])
 (.block 0 (.loop (.seq (.seq (.ops [mv 11 (t 6),
  mv 12 (t 7),
  o 13 (.ibin .lss (t 11) (t 12))] [11, 12])
  (.cond (t 13)
   (.skip)
   (.exit 0)))
  (.block 1 (.seq (.draw (.take (mv 14 (t 0)) (.take (mv 15 (t 6)) (.take (mv 16 (t 0)) (.take (mv 17 (t 7)) (.take (mv 18 (t 0)) (.take (mv 19 (t 7)) (.take (o 20 (.iaddr 1 (t 18) (t 19))) (.take (l1 21 (t 20)) (.take (mv 22 (t 0)) (.take (mv 23 (t 6)) (.take (o 24 (.iaddr 1 (t 22) (t 23))) (.take (l1 25 (t 24)) (.take (o 26 (.iaddr 1 (t 14) (t 15))) (.alt (st 1 (t 26) (t 21)) false
   (.take (o 27 (.iaddr 1 (t 16) (t 17))) (.alt (st 1 (t 27) (t 25)) false
    (.done)
    (.none)))
   (.none))))))))))))))) [14, 15, 16, 17, 18, 19, 20, 21, 22, 23, 24, 25, 26, 27])
  (.seq (.ops [mv 28 (t 6),
  ad 29 (t 28) (k 1),
  mv 6 (t 29)] [28, 29])
  (.ops [mv 30 (t 7),
  o 31 (.ibin .sub (t 30) (k 1)),
  mv 7 (t 31)] [30, 31]))))))))
def r_slices_reverseRangeOrdered_int : List RRes := []
theorem fo_slices_reverseRangeOrdered_int {args : List Value} {M : Mem} {R : Value → Mem → Prop} (hn : args.length ≤ 32) (h : vfn Try.prog c_slices_reverseRangeOrdered_int r_slices_reverseRangeOrdered_int args M R) : CallsM Try.prog F.slices_reverseRangeOrdered_int args M R :=
  fn_ok (kf := k_slices_reverseRangeOrdered_int) Try.func51 (by kernel_rfl) (by kernel_rfl) hn (by kernel_rfl) h
/-- slices.partialInsertionSortOrdered[int] -/
def k_slices_partialInsertionSortOrdered_int (i : Nat) : List Nat := match i with | 0 => [6] | 1 => [11, 12] | 3 => [13] | 5 => [17, 18, 19, 20, 21, 22, 23, 24, 25, 26, 27, 28, 29, 30, 31] | 6 => [33, 34] | 7 => [35, 36] | 9 => [38, 39, 40] | 11 => [42, 43, 44, 45, 46, 47, 48, 49, 50, 51, 52, 53, 54, 55, 56, 57] | 12 => [58, 59, 60] | 13 => [62, 63] | 14 => [64] | 16 => [68, 69, 70, 71, 72, 73, 74, 75, 76, 77] | 17 => [79, 80, 81, 82, 83, 84, 85, 86, 87, 88, 89, 90, 91, 92, 93, 94] | 15 => [66, 67] | 18 => [95, 96, 97] | 19 => [99, 100] | 20 => [101, 102] | 22 => [106, 107, 108, 109, 110, 111, 112, 113, 114, 115] | 23 => [117, 118, 119, 120, 121, 122, 123, 124, 125, 126, 127, 128, 129, 130, 131, 132] | 21 => [104, 105] | 4 => [15, 16] | _ => []
def c_slices_partialInsertionSortOrdered_int : RCode :=
 .seq (.ops [mv 6 (kb false)] [6])
 (.seq (.ops [mv 11 (t 1),
 ad 12 (t 11) (k 1),
 mv 7 (t 12)] [11, 12])
 (.seq (.seq (.ops [mv 8 (k 0)] [])
 (.block 0 (.loop (.seq (.seq (.ops [mv 13 (t 8),
  o 14 (.ibin .lss (t 13) (k 5))] [13])
  (.cond (t 14)
   (.skip)
   (.exit 0)))
  (.seq (.block 1 (.seq (.block 2 (.loop (.seq (.seq (.draw (.take (mv 17 (t 7)) (.take (mv 18 (t 2)) (.take (o 19 (.ibin .lss (t 17) (t 18))) (.take (os 20 (.mov (t 19))) (.take (gt 20 21 (.mov (t 0))) (.take (gt 20 22 (.mov (t 7))) (.take (gt 20 23 (.iaddr 1 (t 21) (t 22))) (.take (gt 20 24 (.load false 1 (t 23))) (.take (gt 20 25 (.mov (t 0))) (.take (gt 20 26 (.mov (t 7))) (.take (gt 20 27 (.ibin .sub (t 26) (k 1))) (.take (gt 20 28 (.iaddr 1 (t 25) (t 27))) (.take (gt 20 29 (.load false 1 (t 28))) (.alt (gt 20 30 (.call (fn F.cmp_Less_int) [(t 24), (t 29)])) false
    (.take (gt 20 31 (.not (t 30))) (.take (o 32 (.pick (t 20) (t 31) (kb false))) (.done)))
    (.none))))))))))))))) [17, 18, 19, 20, 21, 22, 23, 24, 25, 26, 27, 28, 29, 30, 31])
   (.cond (t 32)
    (.skip)
    (.exit 2)))
   (.block 3 (.ops [mv 33 (t 7),
   ad 34 (t 33) (k 1),
   mv 7 (t 34)] [33, 34])))))
  (.seq (.seq (.ops [mv 35 (t 7),
  mv 36 (t 2),
  o 37 (.ibin .eql (t 35) (t 36))] [35, 36])
  (.cond (t 37)
   (.seq (.ops [mv 6 (kb true)] [])
   (.ret))
   (.skip)))
  (.seq (.seq (.ops [mv 38 (t 2),
  mv 39 (t 1),
  o 40 (.ibin .sub (t 38) (t 39)),
  o 41 (.ibin .lss (t 40) (k 50))] [38, 39, 40])
  (.cond (t 41)
   (.seq (.ops [mv 6 (kb false)] [])
   (.ret))
   (.skip)))
  (.seq (.draw (.take (mv 42 (t 0)) (.take (mv 43 (t 7)) (.take (mv 44 (t 0)) (.take (mv 45 (t 7)) (.take (o 46 (.ibin .sub (t 45) (k 1))) (.take (mv 47 (t 0)) (.take (mv 48 (t 7)) (.take (o 49 (.ibin .sub (t 48) (k 1))) (.take (o 50 (.iaddr 1 (t 47) (t 49))) (.take (l1 51 (t 50)) (.take (mv 52 (t 0)) (.take (mv 53 (t 7)) (.take (o 54 (.iaddr 1 (t 52) (t 53))) (.take (l1 55 (t 54)) (.take (o 56 (.iaddr 1 (t 42) (t 43))) (.alt (st 1 (t 56) (t 51)) false
   (.take (o 57 (.iaddr 1 (t 44) (t 46))) (.alt (st 1 (t 57) (t 55)) false
    (.done)
    (.none)))
   (.none))))))))))))))))) [42, 43, 44, 45, 46, 47, 48, 49, 50, 51, 52, 53, 54, 55, 56, 57])
  (.seq (.seq (.ops [mv 58 (t 7),
  mv 59 (t 1),
  o 60 (.ibin .sub (t 58) (t 59)),
  o 61 (.ibin .geq (t 60) (k 2))] [58, 59, 60])
  (.cond (t 61)
   (.seq (.ops [mv 62 (t 7),
   o 63 (.ibin .sub (t 62) (k 1)),
   mv 9 (t 63)] [62, 63])
   (.block 4 (.loop (.seq (.seq (.ops [mv 64 (t 9),
    o 65 (.ibin .geq (t 64) (k 1))] [64])
    (.cond (t 65)
     (.skip)
     (.exit 4)))
    (.seq (.block 5 (.seq (.seq (.draw (.take (mv 68 (t 0)) (.take (mv 69 (t 9)) (.take (o 70 (.iaddr 1 (t 68) (t 69))) (.take (l1 71 (t 70)) (.take (mv 72 (t 0)) (.take (mv 73 (t 9)) (.take (o 74 (.ibin .sub (t 73) (k 1))) (.take (o 75 (.iaddr 1 (t 72) (t 74))) (.take (l1 76 (t 75)) (.alt (ca 77 F.cmp_Less_int [(t 71), (t 76)]) false
     (.take (o 78 (.not (t 77))) (.done))
     (.none))))))))))) [68, 69, 70, 71, 72, 73, 74, 75, 76, 77])
    (.cond (t 78)
     (.exit 4)
     (.skip)))
    (.draw (.take (mv 79 (t 0)) (.take (mv 80 (t 9)) (.take (mv 81 (t 0)) (.take (mv 82 (t 9)) (.take (o 83 (.ibin .sub (t 82) (k 1))) (.take (mv 84 (t 0)) (.take (mv 85 (t 9)) (.take (o 86 (.ibin .sub (t 85) (k 1))) (.take (o 87 (.iaddr 1 (t 84) (t 86))) (.take (l1 88 (t 87)) (.take (mv 89 (t 0)) (.take (mv 90 (t 9)) (.take (o 91 (.iaddr 1 (t 89) (t 90))) (.take (l1 92 (t 91)) (.take (o 93 (.iaddr 1 (t 79) (t 80))) (.alt (st 1 (t 93) (t 88)) false
     (.take (o 94 (.iaddr 1 (t 81) (t 83))) (.alt (st 1 (t 94) (t 92)) false
      (.done)
      (.none)))
     (.none))))))))))))))))) [79, 80, 81, 82, 83, 84, 85, 86, 87, 88, 89, 90, 91, 92, 93, 94])))
    (.ops [mv 66 (t 9),
    o 67 (.ibin .sub (t 66) (k 1)),
    mv 9 (t 67)] [66, 67]))))))
   (.skip)))
  (.seq (.ops [mv 95 (t 2),
  mv 96 (t 7),
  o 97 (.ibin .sub (t 95) (t 96)),
  o 98 (.ibin .geq (t 97) (k 2))] [95, 96, 97])
  (.cond (t 98)
   (.seq (.ops [mv 99 (t 7),
   ad 100 (t 99) (k 1),
   mv 10 (t 100)] [99, 100])
   (.block 6 (.loop (.seq (.seq (.ops [mv 101 (t 10),
    mv 102 (t 2),
    o 103 (.ibin .lss (t 101) (t 102))] [101, 102])
    (.cond (t 103)
     (.skip)
     (.exit 6)))
    (.seq (.block 7 (.seq (.seq (.draw (.take (mv 106 (t 0)) (.take (mv 107 (t 10)) (.take (o 108 (.iaddr 1 (t 106) (t 107))) (.take (l1 109 (t 108)) (.take (mv 110 (t 0)) (.take (mv 111 (t 10)) (.take (o 112 (.ibin .sub (t 111) (k 1))) (.take (o 113 (.iaddr 1 (t 110) (t 112))) (.take (l1 114 (t 113)) (.alt (ca 115 F.cmp_Less_int [(t 109), (t 114)]) false
     (.take (o 116 (.not (t 115))) (.done))
     (.none))))))))))) [106, 107, 108, 109, 110, 111, 112, 113, 114, 115])
    (.cond (t 116)
     (.exit 6)
     (.skip)))
    (.draw (.take (mv 117 (t 0)) (.take (mv 118 (t 10)) (.take (mv 119 (t 0)) (.take (mv 120 (t 10)) (.take (o 121 (.ibin .sub (t 120) (k 1))) (.take (mv 122 (t 0)) (.take (mv 123 (t 10)) (.take (o 124 (.ibin .sub (t 123) (k 1))) (.take (o 125 (.iaddr 1 (t 122) (t 124))) (.take (l1 126 (t 125)) (.take (mv 127 (t 0)) (.take (mv 128 (t 10)) (.take (o 129 (.iaddr 1 (t 127) (t 128))) (.take (l1 130 (t 129)) (.take (o 131 (.iaddr 1 (t 117) (t 118))) (.alt (st 1 (t 131) (t 126)) false
     (.take (o 132 (.iaddr 1 (t 119) (t 121))) (.alt (st 1 (t 132) (t 130)) false
      (.done)
      (.none)))
     (.none))))))))))))))))) [117, 118, 119, 120, 121, 122, 123, 124, 125, 126, 127, 128, 129, 130, 131, 132])))
    (.ops [mv 104 (t 10),
    ad 105 (t 104) (k 1),
    mv 10 (t 105)] [104, 105]))))))
   (.skip)))))))))
  (.ops [mv 15 (t 8),
  ad 16 (t 15) (k 1),
  mv 8 (t 16)] [15, 16]))))))
 (.seq (.ops [mv 6 (kb false)] [])
 (.ret))))
def r_slices_partialInsertionSortOrdered_int : List RRes := [.tmp 6]
theorem fo_slices_partialInsertionSortOrdered_int {args : List Value} {M : Mem} {R : Value → Mem → Prop} (hn : args.length ≤ 133) (h : vfn Try.prog c_slices_partialInsertionSortOrdered_int r_slices_partialInsertionSortOrdered_int args M R) : CallsM Try.prog F.slices_partialInsertionSortOrdered_int args M R :=
  fn_ok (kf := k_slices_partialInsertionSortOrdered_int) Try.func52 (by kernel_rfl) (by kernel_rfl) hn (by kernel_rfl) h
/-- cmp.Less[int] -/
def k_cmp_Less_int (i : Nat) : List Nat := match i with | 0 => [4] | 1 => [0, 1, 5, 6, 7, 8, 9, 10, 11, 12, 13, 14, 15, 16] | _ => []
def c_cmp_Less_int : RCode :=
 .seq (.ops [mv 4 (kb false)] [4])
 (.seq (.ops [mv 5 (t 0),
 ca 6 F.cmp_isNaN_int [(t 5)],
 os 7 (.mov (t 6)),
 gt 7 8 (.mov (t 1)),
 gt 7 9 (.call (fn F.cmp_isNaN_int) [(t 8)]),
 gt 7 10 (.not (t 9)),
 o 11 (.pick (t 7) (t 10) (kb false)),
 os 12 (.mov (t 11)),
 gf 12 13 (.mov (t 0)),
 gf 12 14 (.mov (t 1)),
 gf 12 15 (.ibin .lss (t 13) (t 14)),
 o 16 (.pick (t 12) (kb true) (t 15)),
 mv 4 (t 16)] [0, 1, 5, 6, 7, 8, 9, 10, 11, 12, 13, 14, 15, 16])
 (.ret))
def r_cmp_Less_int : List RRes := [.tmp 4]
theorem fo_cmp_Less_int {args : List Value} {M : Mem} {R : Value → Mem → Prop} (hn : args.length ≤ 17) (h : vfn Try.prog c_cmp_Less_int r_cmp_Less_int args M R) : CallsM Try.prog F.cmp_Less_int args M R :=
  fn_ok (kf := k_cmp_Less_int) Try.func53 (by kernel_rfl) (by kernel_rfl) hn (by kernel_rfl) h
/-- slices.partitionEqualOrdered[int] -/
def k_slices_partitionEqualOrdered_int (i : Nat) : List Nat := match i with | 0 => [8] | 1 => [3, 11, 12, 13, 14, 15, 16, 17, 18, 19, 20, 21, 22, 23, 24] | 2 => [2, 25, 26, 27, 28] | 3 => [29, 30, 31, 32, 33, 34, 35, 36, 37, 38, 39, 40, 41, 42] | 4 => [44, 45] | 5 => [46, 47, 48, 49, 50, 51, 52, 53, 54, 55, 56, 57, 58] | 6 => [60, 61] | 7 => [62, 63] | 8 => [65, 66, 67, 68, 69, 70, 71, 72, 73, 74, 75, 76, 77, 78] | 9 => [79, 80] | 10 => [81, 82] | 11 => [9, 83] | _ => []
def c_slices_partitionEqualOrdered_int : RCode :=
 .seq (.ops [mv 8 (k 0)] [8])
 (.seq (.draw (.take (mv 11 (t 0)) (.take (mv 12 (t 1)) (.take (mv 13 (t 0)) (.take (mv 14 (t 3)) (.take (mv 15 (t 0)) (.take (mv 16 (t 3)) (.take (o 17 (.iaddr 1 (t 15) (t 16))) (.take (l1 18 (t 17)) (.take (mv 19 (t 0)) (.take (mv 20 (t 1)) (.take (o 21 (.iaddr 1 (t 19) (t 20))) (.take (l1 22 (t 21)) (.take (o 23 (.iaddr 1 (t 11) (t 12))) (.alt (st 1 (t 23) (t 18)) false
  (.take (o 24 (.iaddr 1 (t 13) (t 14))) (.alt (st 1 (t 24) (t 22)) false
   (.done)
   (.none)))
  (.none))))))))))))))) [3, 11, 12, 13, 14, 15, 16, 17, 18, 19, 20, 21, 22, 23, 24])
 (.seq (.ops [mv 25 (t 1),
 ad 26 (t 25) (k 1),
 mv 27 (t 2),
 o 28 (.ibin .sub (t 27) (k 1)),
 mv 9 (t 26),
 mv 10 (t 28)] [2, 25, 26, 27, 28])
 (.seq (.block 0 (.loop (.block 1 (.seq (.block 2 (.loop (.seq (.seq (.draw (.take (mv 29 (t 9)) (.take (mv 30 (t 10)) (.take (o 31 (.ibin .leq (t 29) (t 30))) (.take (os 32 (.mov (t 31))) (.take (gt 32 33 (.mov (t 0))) (.take (gt 32 34 (.mov (t 1))) (.take (gt 32 35 (.iaddr 1 (t 33) (t 34))) (.take (gt 32 36 (.load false 1 (t 35))) (.take (gt 32 37 (.mov (t 0))) (.take (gt 32 38 (.mov (t 9))) (.take (gt 32 39 (.iaddr 1 (t 37) (t 38))) (.take (gt 32 40 (.load false 1 (t 39))) (.alt (gt 32 41 (.call (fn F.cmp_Less_int) [(t 36), (t 40)])) false
    (.take (gt 32 42 (.not (t 41))) (.take (o 43 (.pick (t 32) (t 42) (kb false))) (.done)))
    (.none)))))))))))))) [29, 30, 31, 32, 33, 34, 35, 36, 37, 38, 39, 40, 41, 42])
   (.cond (t 43)
    (.skip)
    (.exit 2)))
   (.block 3 (.ops [mv 44 (t 9),
   ad 45 (t 44) (k 1),
   mv 9 (t 45)] [44, 45])))))
  (.seq (.block 4 (.loop (.seq (.seq (.draw (.take (mv 46 (t 9)) (.take (mv 47 (t 10)) (.take (o 48 (.ibin .leq (t 46) (t 47))) (.take (os 49 (.mov (t 48))) (.take (gt 49 50 (.mov (t 0))) (.take (gt 49 51 (.mov (t 1))) (.take (gt 49 52 (.iaddr 1 (t 50) (t 51))) (.take (gt 49 53 (.load false 1 (t 52))) (.take (gt 49 54 (.mov (t 0))) (.take (gt 49 55 (.mov (t 10))) (.take (gt 49 56 (.iaddr 1 (t 54) (t 55))) (.take (gt 49 57 (.load false 1 (t 56))) (.alt (gt 49 58 (.call (fn F.cmp_Less_int) [(t 53), (t 57)])) false
    (.take (o 59 (.pick (t 49) (t 58) (kb false))) (.done))
    (.none)))))))))))))) [46, 47, 48, 49, 50, 51, 52, 53, 54, 55, 56, 57, 58])
   (.cond (t 59)
    (.skip)
    (.exit 4)))
   (.block 5 (.ops [mv 60 (t 10),
   o 61 (.ibin .sub (t 60) (k 1)),
   mv 10 (t 61)] [60, 61])))))
  (.seq (.seq (.ops [mv 62 (t 9),
  mv 63 (t 10),
  o 64 (.ibin .gtr (t 62) (t 63))] [62, 63])
  (.cond (t 64)
   (.exit 0)
   (.skip)))
  (.seq (.draw (.take (mv 65 (t 0)) (.take (mv 66 (t 9)) (.take (mv 67 (t 0)) (.take (mv 68 (t 10)) (.take (mv 69 (t 0)) (.take (mv 70 (t 10)) (.take (o 71 (.iaddr 1 (t 69) (t 70))) (.take (l1 72 (t 71)) (.take (mv 73 (t 0)) (.take (mv 74 (t 9)) (.take (o 75 (.iaddr 1 (t 73) (t 74))) (.take (l1 76 (t 75)) (.take (o 77 (.iaddr 1 (t 65) (t 66))) (.alt (st 1 (t 77) (t 72)) false
   (.take (o 78 (.iaddr 1 (t 67) (t 68))) (.alt (st 1 (t 78) (t 76)) false
    (.done)
    (.none)))
   (.none))))))))))))))) [65, 66, 67, 68, 69, 70, 71, 72, 73, 74, 75, 76, 77, 78])
  (.seq (.ops [mv 79 (t 9),
  ad 80 (t 79) (k 1),
  mv 9 (t 80)] [79, 80])
  (.ops [mv 81 (t 10),
  o 82 (.ibin .sub (t 81) (k 1)),
  mv 10 (t 82)] [81, 82])))))))))
 (.seq (.ops [mv 83 (t 9),
 mv 8 (t 83)] [9, 83])
 (.ret)))))
def r_slices_partitionEqualOrdered_int : List RRes := [.tmp 8]
theorem fo_slices_partitionEqualOrdered_int {args : List Value} {M : Mem} {R : Value → Mem → Prop} (hn : args.length ≤ 84) (h : vfn Try.prog c_slices_partitionEqualOrdered_int r_slices_partitionEqualOrdered_int args M R) : CallsM Try.prog F.slices_partitionEqualOrdered_int args M R :=
  fn_ok (kf := k_slices_partitionEqualOrdered_int) Try.func54 (by kernel_rfl) (by kernel_rfl) hn (by kernel_rfl) h
/-- slices.partitionOrdered[int] -/
def k_slices_partitionOrdered_int (i : Nat) : List Nat := match i with | 0 => [8, 9] | 1 => [3, 12, 13, 14, 15, 16, 17, 18, 19, 20, 21, 22, 23, 24, 25] | 2 => [2, 26, 27, 28, 29] | 3 => [30, 31, 32, 33, 34, 35, 36, 37, 38, 39, 40, 41, 42] | 4 => [44, 45] | 5 => [46, 47, 48, 49, 50, 51, 52, 53, 54, 55, 56, 57, 58, 59] | 6 => [61, 62] | 7 => [63, 64] | 8 => [0, 1, 66, 67, 68, 69, 70, 71, 72, 73, 74, 75, 76, 77, 78, 79] | 9 => [11, 80] | 10 => [81, 82, 83, 84, 85, 86, 87, 88, 89, 90, 91, 92, 93, 94] | 11 => [95, 96] | 12 => [97, 98] | 13 => [99, 100, 101, 102, 103, 104, 105, 106, 107, 108, 109, 110, 111] | 14 => [113, 114] | 15 => [115, 116, 117, 118, 119, 120, 121, 122, 123, 124, 125, 126, 127, 128] | 16 => [130, 131] | 17 => [132, 133] | 18 => [135, 136, 137, 138, 139, 140, 141, 142, 143, 144, 145, 146, 147, 148] | 19 => [149, 150] | 20 => [151, 152] | 21 => [0, 1, 153, 154, 155, 156, 157, 158, 159, 160, 161, 162, 163, 164, 165, 166] | 22 => [11, 167] | _ => []
def c_slices_partitionOrdered_int : RCode :=
 .seq (.ops [mv 8 (k 0),
 mv 9 (kb false)] [8, 9])
 (.seq (.draw (.take (mv 12 (t 0)) (.take (mv 13 (t 1)) (.take (mv 14 (t 0)) (.take (mv 15 (t 3)) (.take (mv 16 (t 0)) (.take (mv 17 (t 3)) (.take (o 18 (.iaddr 1 (t 16) (t 17))) (.take (l1 19 (t 18)) (.take (mv 20 (t 0)) (.take (mv 21 (t 1)) (.take (o 22 (.iaddr 1 (t 20) (t 21))) (.take (l1 23 (t 22)) (.take (o 24 (.iaddr 1 (t 12) (t 13))) (.alt (st 1 (t 24) (t 19)) false
  (.take (o 25 (.iaddr 1 (t 14) (t 15))) (.alt (st 1 (t 25) (t 23)) false
   (.done)
   (.none)))
  (.none))))))))))))))) [3, 12, 13, 14, 15, 16, 17, 18, 19, 20, 21, 22, 23, 24, 25])
 (.seq (.ops [mv 26 (t 1),
 ad 27 (t 26) (k 1),
 mv 28 (t 2),
 o 29 (.ibin .sub (t 28) (k 1)),
 mv 10 (t 27),
 mv 11 (t 29)] [2, 26, 27, 28, 29])
 (.seq (.block 0 (.loop (.seq (.seq (.draw (.take (mv 30 (t 10)) (.take (mv 31 (t 11)) (.take (o 32 (.ibin .leq (t 30) (t 31))) (.take (os 33 (.mov (t 32))) (.take (gt 33 34 (.mov (t 0))) (.take (gt 33 35 (.mov (t 10))) (.take (gt 33 36 (.iaddr 1 (t 34) (t 35))) (.take (gt 33 37 (.load false 1 (t 36))) (.take (gt 33 38 (.mov (t 0))) (.take (gt 33 39 (.mov (t 1))) (.take (gt 33 40 (.iaddr 1 (t 38) (t 39))) (.take (gt 33 41 (.load false 1 (t 40))) (.alt (gt 33 42 (.call (fn F.cmp_Less_int) [(t 37), (t 41)])) false
   (.take (o 43 (.pick (t 33) (t 42) (kb false))) (.done))
   (.none)))))))))))))) [30, 31, 32, 33, 34, 35, 36, 37, 38, 39, 40, 41, 42])
  (.cond (t 43)
   (.skip)
   (.exit 0)))
  (.block 1 (.ops [mv 44 (t 10),
  ad 45 (t 44) (k 1),
  mv 10 (t 45)] [44, 45])))))
 (.seq (.block 2 (.loop (.seq (.seq (.draw (.take (mv 46 (t 10)) (.take (mv 47 (t 11)) (.take (o 48 (.ibin .leq (t 46) (t 47))) (.take (os 49 (.mov (t 48))) (.take (gt 49 50 (.mov (t 0))) (.take (gt 49 51 (.mov (t 11))) (.take (gt 49 52 (.iaddr 1 (t 50) (t 51))) (.take (gt 49 53 (.load false 1 (t 52))) (.take (gt 49 54 (.mov (t 0))) (.take (gt 49 55 (.mov (t 1))) (.take (gt 49 56 (.iaddr 1 (t 54) (t 55))) (.take (gt 49 57 (.load false 1 (t 56))) (.alt (gt 49 58 (.call (fn F.cmp_Less_int) [(t 53), (t 57)])) false
   (.take (gt 49 59 (.not (t 58))) (.take (o 60 (.pick (t 49) (t 59) (kb false))) (.done)))
   (.none)))))))))))))) [46, 47, 48, 49, 50, 51, 52, 53, 54, 55, 56, 57, 58, 59])
  (.cond (t 60)
   (.skip)
   (.exit 2)))
  (.block 3 (.ops [mv 61 (t 11),
  o 62 (.ibin .sub (t 61) (k 1)),
  mv 11 (t 62)] [61, 62])))))
 (.seq (.seq (.ops [mv 63 (t 10),
 mv 64 (t 11),
 o 65 (.ibin .gtr (t 63) (t 64))] [63, 64])
 (.cond (t 65)
  (.seq (.draw (.take (mv 66 (t 0)) (.take (mv 67 (t 11)) (.take (mv 68 (t 0)) (.take (mv 69 (t 1)) (.take (mv 70 (t 0)) (.take (mv 71 (t 1)) (.take (o 72 (.iaddr 1 (t 70) (t 71))) (.take (l1 73 (t 72)) (.take (mv 74 (t 0)) (.take (mv 75 (t 11)) (.take (o 76 (.iaddr 1 (t 74) (t 75))) (.take (l1 77 (t 76)) (.take (o 78 (.iaddr 1 (t 66) (t 67))) (.alt (st 1 (t 78) (t 73)) false
   (.take (o 79 (.iaddr 1 (t 68) (t 69))) (.alt (st 1 (t 79) (t 77)) false
    (.done)
    (.none)))
   (.none))))))))))))))) [0, 1, 66, 67, 68, 69, 70, 71, 72, 73, 74, 75, 76, 77, 78, 79])
  (.seq (.ops [mv 80 (t 11),
  mv 8 (t 80),
  mv 9 (kb true)] [11, 80])
  (.ret)))
  (.skip)))
 (.seq (.draw (.take (mv 81 (t 0)) (.take (mv 82 (t 10)) (.take (mv 83 (t 0)) (.take (mv 84 (t 11)) (.take (mv 85 (t 0)) (.take (mv 86 (t 11)) (.take (o 87 (.iaddr 1 (t 85) (t 86))) (.take (l1 88 (t 87)) (.take (mv 89 (t 0)) (.take (mv 90 (t 10)) (.take (o 91 (.iaddr 1 (t 89) (t 90))) (.take (l1 92 (t 91)) (.take (o 93 (.iaddr 1 (t 81) (t 82))) (.alt (st 1 (t 93) (t 88)) false
  (.take (o 94 (.iaddr 1 (t 83) (t 84))) (.alt (st 1 (t 94) (t 92)) false
   (.done)
   (.none)))
  (.none))))))))))))))) [81, 82, 83, 84, 85, 86, 87, 88, 89, 90, 91, 92, 93, 94])
 (.seq (.ops [mv 95 (t 10),
 ad 96 (t 95) (k 1),
 mv 10 (t 96)] [95, 96])
 (.seq (.ops [mv 97 (t 11),
 o 98 (.ibin .sub (t 97) (k 1)),
 mv 11 (t 98)] [97, 98])
 (.seq (.block 4 (.loop (.block 5 (.seq (.block 6 (.loop (.seq (.seq (.draw (.take (mv 99 (t 10)) (.take (mv 100 (t 11)) (.take (o 101 (.ibin .leq (t 99) (t 100))) (.take (os 102 (.mov (t 101))) (.take (gt 102 103 (.mov (t 0))) (.take (gt 102 104 (.mov (t 10))) (.take (gt 102 105 (.iaddr 1 (t 103) (t 104))) (.take (gt 102 106 (.load false 1 (t 105))) (.take (gt 102 107 (.mov (t 0))) (.take (gt 102 108 (.mov (t 1))) (.take (gt 102 109 (.iaddr 1 (t 107) (t 108))) (.take (gt 102 110 (.load false 1 (t 109))) (.alt (gt 102 111 (.call (fn F.cmp_Less_int) [(t 106), (t 110)])) false
    (.take (o 112 (.pick (t 102) (t 111) (kb false))) (.done))
    (.none)))))))))))))) [99, 100, 101, 102, 103, 104, 105, 106, 107, 108, 109, 110, 111])
   (.cond (t 112)
    (.skip)
    (.exit 6)))
   (.block 7 (.ops [mv 113 (t 10),
   ad 114 (t 113) (k 1),
   mv 10 (t 114)] [113, 114])))))
  (.seq (.block 8 (.loop (.seq (.seq (.draw (.take (mv 115 (t 10)) (.take (mv 116 (t 11)) (.take (o 117 (.ibin .leq (t 115) (t 116))) (.take (os 118 (.mov (t 117))) (.take (gt 118 119 (.mov (t 0))) (.take (gt 118 120 (.mov (t 11))) (.take (gt 118 121 (.iaddr 1 (t 119) (t 120))) (.take (gt 118 122 (.load false 1 (t 121))) (.take (gt 118 123 (.mov (t 0))) (.take (gt 118 124 (.mov (t 1))) (.take (gt 118 125 (.iaddr 1 (t 123) (t 124))) (.take (gt 118 126 (.load false 1 (t 125))) (.alt (gt 118 127 (.call (fn F.cmp_Less_int) [(t 122), (t 126)])) false
    (.take (gt 118 128 (.not (t 127))) (.take (o 129 (.pick (t 118) (t 128) (kb false))) (.done)))
    (.none)))))))))))))) [115, 116, 117, 118, 119, 120, 121, 122, 123, 124, 125, 126, 127, 128])
   (.cond (t 129)
    (.skip)
    (.exit 8)))
   (.block 9 (.ops [mv 130 (t 11),
   o 131 (.ibin .sub (t 130) (k 1)),
   mv 11 (t 131)] [130, 131])))))
  (.seq (.seq (.ops [mv 132 (t 10),
  mv 133 (t 11),
  o 134 (.ibin .gtr (t 132) (t 133))] [132, 133])
  (.cond (t 134)
   (.exit 4)
   (.skip)))
  (.seq (.draw (.take (mv 135 (t 0)) (.take (mv 136 (t 10)) (.take (mv 137 (t 0)) (.take (mv 138 (t 11)) (.take (mv 139 (t 0)) (.take (mv 140 (t 11)) (.take (o 141 (.iaddr 1 (t 139) (t 140))) (.take (l1 142 (t 141)) (.take (mv 143 (t 0)) (.take (mv 144 (t 10)) (.take (o 145 (.iaddr 1 (t 143) (t 144))) (.take (l1 146 (t 145)) (.take (o 147 (.iaddr 1 (t 135) (t 136))) (.alt (st 1 (t 147) (t 142)) false
   (.take (o 148 (.iaddr 1 (t 137) (t 138))) (.alt (st 1 (t 148) (t 146)) false
    (.done)
    (.none)))
   (.none))))))))))))))) [135, 136, 137, 138, 139, 140, 141, 142, 143, 144, 145, 146, 147, 148])
  (.seq (.ops [mv 149 (t 10),
  ad 150 (t 149) (k 1),
  mv 10 (t 150)] [149, 150])
  (.ops [mv 151 (t 11),
  o 152 (.ibin .sub (t 151) (k 1)),
  mv 11 (t 152)] [151, 152])))))))))
 (.seq (.draw (.take (mv 153 (t 0)) (.take (mv 154 (t 11)) (.take (mv 155 (t 0)) (.take (mv 156 (t 1)) (.take (mv 157 (t 0)) (.take (mv 158 (t 1)) (.take (o 159 (.iaddr 1 (t 157) (t 158))) (.take (l1 160 (t 159)) (.take (mv 161 (t 0)) (.take (mv 162 (t 11)) (.take (o 163 (.iaddr 1 (t 161) (t 162))) (.take (l1 164 (t 163)) (.take (o 165 (.iaddr 1 (t 153) (t 154))) (.alt (st 1 (t 165) (t 160)) false
  (.take (o 166 (.iaddr 1 (t 155) (t 156))) (.alt (st 1 (t 166) (t 164)) false
   (.done)
   (.none)))
  (.none))))))))))))))) [0, 1, 153, 154, 155, 156, 157, 158, 159, 160, 161, 162, 163, 164, 165, 166])
 (.seq (.ops [mv 167 (t 11),
 mv 8 (t 167),
 mv 9 (kb false)] [11, 167])
 (.ret))))))))))))
def r_slices_partitionOrdered_int : List RRes := [.tmp 8, .tmp 9]
theorem fo_slices_partitionOrdered_int {args : List Value} {M : Mem} {R : Value → Mem → Prop} (hn : args.length ≤ 168) (h : vfn Try.prog c_slices_partitionOrdered_int r_slices_partitionOrdered_int args M R) : CallsM Try.prog F.slices_partitionOrdered_int args M R :=
  fn_ok (kf := k_slices_partitionOrdered_int) Try.func55 (by kernel_rfl) (by kernel_rfl) hn (by kernel_rfl) h
/-- slices.siftDownOrdered[int] -/
def k_slices_siftDownOrdered_int (i : Nat) : List Nat := match i with | 0 => [1, 10] | 1 => [11, 12, 13] | 2 => [14, 15] | 3 => [17, 18, 19, 20, 21, 22, 23, 24, 25, 26, 27, 28, 29, 30, 31, 32, 33, 34, 35] | 4 => [37, 38] | 5 => [39, 40, 41, 42, 43, 44, 45, 46, 47, 48, 49, 50, 51] | 6 => [8, 53, 54, 55, 56, 57, 58, 59, 60, 61, 62, 63, 64, 65, 66, 67, 68, 69, 70, 71, 72, 73, 74] | 7 => [9, 75] | _ => []
def c_slices_siftDownOrdered_int : RCode :=
 .seq (.ops [mv 10 (t 1),
 mv 8 (t 10)] [1, 10])
 (.block 0 (.loop (.block 1 (.seq (.ops [mv 11 (t 8),
  o 12 (.ibin .mul (k 2) (t 11)),
  ad 13 (t 12) (k 1),
  mv 9 (t 13)] [11, 12, 13])
  (.seq (.seq (.ops [mv 14 (t 9),
  mv 15 (t 2),
  o 16 (.ibin .geq (t 14) (t 15))] [14, 15])
  (.cond (t 16)
   (.exit 0)
   (.skip)))
  (.seq (.seq (.draw (.take (mv 17 (t 9)) (.take (ad 18 (t 17) (k 1)) (.take (mv 19 (t 2)) (.take (o 20 (.ibin .lss (t 18) (t 19))) (.take (os 21 (.mov (t 20))) (.take (gt 21 22 (.mov (t 0))) (.take (gt 21 23 (.mov (t 3))) (.take (gt 21 24 (.mov (t 9))) (.take (gt 21 25 (.ibin .add (t 23) (t 24))) (.take (gt 21 26 (.iaddr 1 (t 22) (t 25))) (.take (gt 21 27 (.load false 1 (t 26))) (.take (gt 21 28 (.mov (t 0))) (.take (gt 21 29 (.mov (t 3))) (.take (gt 21 30 (.mov (t 9))) (.take (gt 21 31 (.ibin .add (t 29) (t 30))) (.take (gt 21 32 (.ibin .add (t 31) (k 1))) (.take (gt 21 33 (.iaddr 1 (t 28) (t 32))) (.take (gt 21 34 (.load false 1 (t 33))) (.alt (gt 21 35 (.call (fn F.cmp_Less_int) [(t 27), (t 34)])) false
   (.take (o 36 (.pick (t 21) (t 35) (kb false))) (.done))
   (.none)))))))))))))))))))) [17, 18, 19, 20, 21, 22, 23, 24, 25, 26, 27, 28, 29, 30, 31, 32, 33, 34, 35])
  (.cond (t 36)
   (.ops [mv 37 (t 9),
   ad 38 (t 37) (k 1),
   mv 9 (t 38)] [37, 38])
   (.skip)))
  (.seq (.seq (.draw (.take (mv 39 (t 0)) (.take (mv 40 (t 3)) (.take (mv 41 (t 8)) (.take (ad 42 (t 40) (t 41)) (.take (o 43 (.iaddr 1 (t 39) (t 42))) (.take (l1 44 (t 43)) (.take (mv 45 (t 0)) (.take (mv 46 (t 3)) (.take (mv 47 (t 9)) (.take (ad 48 (t 46) (t 47)) (.take (o 49 (.iaddr 1 (t 45) (t 48))) (.take (l1 50 (t 49)) (.alt (ca 51 F.cmp_Less_int [(t 44), (t 50)]) false
   (.take (o 52 (.not (t 51))) (.done))
   (.none)))))))))))))) [39, 40, 41, 42, 43, 44, 45, 46, 47, 48, 49, 50, 51])
  (.cond (t 52)
   (.ret)
   (.skip)))
  (.seq (.draw (.take (mv 53 (t 0)) (.take (mv 54 (t 3)) (.take (mv 55 (t 8)) (.take (ad 56 (t 54) (t 55)) (.take (mv 57 (t 0)) (.take (mv 58 (t 3)) (.take (mv 59 (t 9)) (.take (ad 60 (t 58) (t 59)) (.take (mv 61 (t 0)) (.take (mv 62 (t 3)) (.take (mv 63 (t 9)) (.take (ad 64 (t 62) (t 63)) (.take (o 65 (.iaddr 1 (t 61) (t 64))) (.take (l1 66 (t 65)) (.take (mv 67 (t 0)) (.take (mv 68 (t 3)) (.take (mv 69 (t 8)) (.take (ad 70 (t 68) (t 69)) (.take (o 71 (.iaddr 1 (t 67) (t 70))) (.take (l1 72 (t 71)) (.take (o 73 (.iaddr 1 (t 53) (t 56))) (.alt (st 1 (t 73) (t 66)) false
   (.take (o 74 (.iaddr 1 (t 57) (t 60))) (.alt (st 1 (t 74) (t 72)) false
    (.done)
    (.none)))
   (.none))))))))))))))))))))))) [8, 53, 54, 55, 56, 57, 58, 59, 60, 61, 62, 63, 64, 65, 66, 67, 68, 69, 70, 71, 72, 73, 74])
  (.ops [mv 75 (t 9),
  mv 8 (t 75)] [9, 75])))))))))
def r_slices_siftDownOrdered_int : List RRes := []
theorem fo_slices_siftDownOrdered_int {args : List Value} {M : Mem} {R : Value → Mem → Prop} (hn : args.length ≤ 76) (h : vfn Try.prog c_slices_siftDownOrdered_int r_slices_siftDownOrdered_int args M R) : CallsM Try.prog F.slices_siftDownOrdered_int args M R :=
  fn_ok (kf := k_slices_siftDownOrdered_int) Try.func58 (by kernel_rfl) (by kernel_rfl) hn (by kernel_rfl) h
/-- slices.nextPowerOfTwo -/
def k_slices_nextPowerOfTwo (i : Nat) : List Nat := match i with | 0 => [2] | 1 => [0, 3, 4, 5, 6] | _ => []
def c_slices_nextPowerOfTwo : RCode :=
 .seq (.ops [mv 2 (.const (.int .u64 0))] [2])
 (.seq (.ops [mv 3 (t 0),
 o 4 (.conv .u64 (t 3)),
 ca 5 F.math_bits_Len [(t 4)],
 o 6 (.ibin .shl (.const (.int .u64 1)) (t 5)),
 mv 2 (t 6)] [0, 3, 4, 5, 6])
 (.ret))
def r_slices_nextPowerOfTwo : List RRes := [.tmp 2]
theorem fo_slices_nextPowerOfTwo {args : List Value} {M : Mem} {R : Value → Mem → Prop} (hn : args.length ≤ 7) (h : vfn Try.prog c_slices_nextPowerOfTwo r_slices_nextPowerOfTwo args M R) : CallsM Try.prog F.slices_nextPowerOfTwo args M R :=
  fn_ok (kf := k_slices_nextPowerOfTwo) Try.func59 (by kernel_rfl) (by kernel_rfl) hn (by kernel_rfl) h
/-- (*slices.xorshift).Next -/
def k_slices_xorshift_Next (i : Nat) : List Nat := match i with | 0 => [2] | 1 => [3, 4, 5, 6, 7, 8, 9, 10, 11] | 2 => [12, 13, 14, 15, 16, 17, 18, 19, 20] | 3 => [21, 22, 23, 24, 25, 26, 27, 28, 29] | 4 => [0, 30, 31, 32] | _ => []
def c_slices_xorshift_Next : RCode :=
 .seq (.ops [mv 2 (.const (.int .u64 0))] [2])
 (.seq (.draw (.take (mv 3 (t 0)) (.take (o 4 (.nilck (t 3))) (.take (l1 5 (t 4)) (.take (mv 6 (t 0)) (.take (o 7 (.nilck (t 6))) (.take (l1 8 (t 7)) (.take (o 9 (.ibin .shl (t 8) (.const (.int .u64 13)))) (.take (o 10 (.ibin .xor (t 5) (t 9))) (.take (o 11 (.nilck (t 3))) (.alt (st 1 (t 11) (t 10)) false
  (.done)
  (.none))))))))))) [3, 4, 5, 6, 7, 8, 9, 10, 11])
 (.seq (.draw (.take (mv 12 (t 0)) (.take (o 13 (.nilck (t 12))) (.take (l1 14 (t 13)) (.take (mv 15 (t 0)) (.take (o 16 (.nilck (t 15))) (.take (l1 17 (t 16)) (.take (o 18 (.ibin .shr (t 17) (.const (.int .u64 7)))) (.take (o 19 (.ibin .xor (t 14) (t 18))) (.take (o 20 (.nilck (t 12))) (.alt (st 1 (t 20) (t 19)) false
  (.done)
  (.none))))))))))) [12, 13, 14, 15, 16, 17, 18, 19, 20])
 (.seq (.draw (.take (mv 21 (t 0)) (.take (o 22 (.nilck (t 21))) (.take (l1 23 (t 22)) (.take (mv 24 (t 0)) (.take (o 25 (.nilck (t 24))) (.take (l1 26 (t 25)) (.take (o 27 (.ibin .shl (t 26) (.const (.int .u64 17)))) (.take (o 28 (.ibin .xor (t 23) (t 27))) (.take (o 29 (.nilck (t 21))) (.alt (st 1 (t 29) (t 28)) false
  (.done)
  (.none))))))))))) [21, 22, 23, 24, 25, 26, 27, 28, 29])
 (.seq (.ops [mv 30 (t 0),
 o 31 (.nilck (t 30)),
 l1 32 (t 31),
 mv 2 (t 32)] [0, 30, 31, 32])
 (.ret)))))
def r_slices_xorshift_Next : List RRes := [.tmp 2]
theorem fo_slices_xorshift_Next {args : List Value} {M : Mem} {R : Value → Mem → Prop} (hn : args.length ≤ 33) (h : vfn Try.prog c_slices_xorshift_Next r_slices_xorshift_Next args M R) : CallsM Try.prog F.slices_xorshift_Next args M R :=
  fn_ok (kf := k_slices_xorshift_Next) Try.func60 (by kernel_rfl) (by kernel_rfl) hn (by kernel_rfl) h
/-- slices.medianAdjacentOrdered[int] -/
def k_slices_medianAdjacentOrdered_int (i : Nat) : List Nat := match i with | 0 => [6] | 1 => [0, 1, 2, 7, 8, 9, 10, 11, 12, 13, 14] | _ => []
def c_slices_medianAdjacentOrdered_int : RCode :=
 .seq (.ops [mv 6 (k 0)] [6])
 (.seq (.ops [mv 7 (t 0),
 mv 8 (t 1),
 o 9 (.ibin .sub (t 8) (k 1)),
 mv 10 (t 1),
 mv 11 (t 1),
 ad 12 (t 11) (k 1),
 mv 13 (t 2),
 ca 14 F.slices_medianOrdered_int [(t 7), (t 9), (t 10), (t 12), (t 13)],
 mv 6 (t 14)] [0, 1, 2, 7, 8, 9, 10, 11, 12, 13, 14])
 (.ret))
def r_slices_medianAdjacentOrdered_int : List RRes := [.tmp 6]
theorem fo_slices_medianAdjacentOrdered_int {args : List Value} {M : Mem} {R : Value → Mem → Prop} (hn : args.length ≤ 15) (h : vfn Try.prog c_slices_medianAdjacentOrdered_int r_slices_medianAdjacentOrdered_int args M R) : CallsM Try.prog F.slices_medianAdjacentOrdered_int args M R :=
  fn_ok (kf := k_slices_medianAdjacentOrdered_int) Try.func61 (by kernel_rfl) (by kernel_rfl) hn (by kernel_rfl) h
/-- slices.medianOrdered[int] -/
def k_slices_medianOrdered_int (i : Nat) : List Nat := match i with | 0 => [10] | 1 => [11, 12, 13, 14, 15, 16, 17, 18] | 2 => [3, 19, 20, 21, 22, 23, 24, 25, 26] | 3 => [0, 1, 4, 27, 28, 29, 30, 31, 32, 33, 34] | 4 => [2, 35] | _ => []
def c_slices_medianOrdered_int : RCode :=
 .seq (.ops [mv 10 (k 0)] [10])
 (.seq (.ops [mv 12 (t 0),
 mv 13 (t 1),
 mv 14 (t 2),
 mv 15 (t 4),
 ca 16 F.slices_order2Ordered_int [(t 12), (t 13), (t 14), (t 15)],
 mv 11 (t 16),
 ex 17 (t 11) 0,
 ex 18 (t 11) 1,
 mv 1 (t 17),
 mv 2 (t 18)] [11, 12, 13, 14, 15, 16, 17, 18])
 (.seq (.ops [mv 20 (t 0),
 mv 21 (t 2),
 mv 22 (t 3),
 mv 23 (t 4),
 ca 24 F.slices_order2Ordered_int [(t 20), (t 21), (t 22), (t 23)],
 mv 19 (t 24),
 ex 25 (t 19) 0,
 ex 26 (t 19) 1,
 mv 2 (t 25),
 mv 3 (t 26)] [3, 19, 20, 21, 22, 23, 24, 25, 26])
 (.seq (.ops [mv 28 (t 0),
 mv 29 (t 1),
 mv 30 (t 2),
 mv 31 (t 4),
 ca 32 F.slices_order2Ordered_int [(t 28), (t 29), (t 30), (t 31)],
 mv 27 (t 32),
 ex 33 (t 27) 0,
 ex 34 (t 27) 1,
 mv 1 (t 33),
 mv 2 (t 34)] [0, 1, 4, 27, 28, 29, 30, 31, 32, 33, 34])
 (.seq (.ops [mv 35 (t 2),
 mv 10 (t 35)] [2, 35])
 (.ret)))))
def r_slices_medianOrdered_int : List RRes := [.tmp 10]
theorem fo_slices_medianOrdered_int {args : List Value} {M : Mem} {R : Value → Mem → Prop} (hn : args.length ≤ 36) (h : vfn Try.prog c_slices_medianOrdered_int r_slices_medianOrdered_int args M R) : CallsM Try.prog F.slices_medianOrdered_int args M R :=
  fn_ok (kf := k_slices_medianOrdered_int) Try.func62 (by kernel_rfl) (by kernel_rfl) hn (by kernel_rfl) h
/-- cmp.isNaN[int] -/
def k_cmp_isNaN_int (i : Nat) : List Nat := match i with | 0 => [2] | 1 => [0, 3, 4, 5] | _ => []
def c_cmp_isNaN_int : RCode :=
 .seq (.ops [mv 2 (kb false)] [2])
 (.seq (.ops [mv 3 (t 0),
 mv 4 (t 0),
 o 5 (.ibin .neq (t 3) (t 4)),
 mv 2 (t 5)] [0, 3, 4, 5])
 (.ret))
def r_cmp_isNaN_int : List RRes := [.tmp 2]
theorem fo_cmp_isNaN_int {args : List Value} {M : Mem} {R : Value → Mem → Prop} (hn : args.length ≤ 6) (h : vfn Try.prog c_cmp_isNaN_int r_cmp_isNaN_int args M R) : CallsM Try.prog F.cmp_isNaN_int args M R :=
  fn_ok (kf := k_cmp_isNaN_int) Try.func63 (by kernel_rfl) (by kernel_rfl) hn (by kernel_rfl) h
/-- slices.order2Ordered[int] -/
def k_slices_order2Ordered_int (i : Nat) : List Nat := match i with | 0 => [8, 9] | 1 => [0, 10, 11, 12, 13, 14, 15, 16, 17] | 2 => [3, 19, 20, 21, 22, 23] | 3 => [1, 2, 24, 25] | 4 => [1, 2, 26, 27] | _ => []
def c_slices_order2Ordered_int : RCode :=
 .seq (.ops [mv 8 (k 0),
 mv 9 (k 0)] [8, 9])
 (.seq (.seq (.draw (.take (mv 10 (t 0)) (.take (mv 11 (t 2)) (.take (o 12 (.iaddr 1 (t 10) (t 11))) (.take (l1 13 (t 12)) (.take (mv 14 (t 0)) (.take (mv 15 (t 1)) (.take (o 16 (.iaddr 1 (t 14) (t 15))) (.take (l1 17 (t 16)) (.alt (ca 18 F.cmp_Less_int [(t 13), (t 17)]) false
  (.done)
  (.none)))))))))) [0, 10, 11, 12, 13, 14, 15, 16, 17])
 (.cond (t 18)
  (.seq (.ops [mv 19 (t 3),
  o 20 (.nilck (t 19)),
  l1 21 (t 20),
  ad 22 (t 21) (k 1),
  o 23 (.nilck (t 19)),
  st 1 (t 23) (t 22)] [3, 19, 20, 21, 22, 23])
  (.seq (.ops [mv 24 (t 2),
  mv 25 (t 1),
  mv 8 (t 24),
  mv 9 (t 25)] [1, 2, 24, 25])
  (.ret)))
  (.skip)))
 (.seq (.ops [mv 26 (t 1),
 mv 27 (t 2),
 mv 8 (t 26),
 mv 9 (t 27)] [1, 2, 26, 27])
 (.ret)))
def r_slices_order2Ordered_int : List RRes := [.tmp 8, .tmp 9]
theorem fo_slices_order2Ordered_int {args : List Value} {M : Mem} {R : Value → Mem → Prop} (hn : args.length ≤ 28) (h : vfn Try.prog c_slices_order2Ordered_int r_slices_order2Ordered_int args M R) : CallsM Try.prog F.slices_order2Ordered_int args M R :=
  fn_ok (kf := k_slices_order2Ordered_int) Try.func64 (by kernel_rfl) (by kernel_rfl) hn (by kernel_rfl) h

end Go.Proofs.Ytankgacaeejlhaa
