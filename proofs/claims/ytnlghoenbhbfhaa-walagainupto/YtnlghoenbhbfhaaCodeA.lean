/- The resolved texts of the functions; made by program. -/
import Derived.Test.YtnlghoenbhbfhaaNames
namespace Go.Proofs.Ytnlghoenbhbfhaa
open Go.Vm Go.Vm.S
/-- portage/portagelaw12.WalNames -/
def k_law12_WalNames (i : Nat) : List Nat := match i with | 0 => [2] | 1 => [0, 3, 4, 5, 6, 7, 8, 9, 10] | _ => []
def c_law12_WalNames : RCode :=
 .seq (.ops [mv 2 (kb false)] [2])
 (.seq (.ops [mv 3 (t 0),
 ca 4 F.wal_Name [(t 3)],
 mv 5 (t 0),
 ca 6 F.ref12_Name [(t 5)],
 o 7 (.strE .eql (t 4) (t 6)),
 os 8 (.mov (t 7)),
 gt 8 9 (.call (fn F.law12_awake) []),
 o 10 (.pick (t 8) (t 9) (kb false)),
 mv 2 (t 10)] [0, 3, 4, 5, 6, 7, 8, 9, 10])
 (.ret))
def r_law12_WalNames : List RRes := [.tmp 2]
theorem fo_law12_WalNames {args : List Value} {M : Mem} {R : Value → Mem → Prop} (hn : args.length ≤ 11) (h : vfn Try.prog c_law12_WalNames r_law12_WalNames args M R) : CallsM Try.prog F.law12_WalNames args M R :=
  fn_ok (kf := k_law12_WalNames) Try.func3 (by kernel_rfl) (by kernel_rfl) hn (by kernel_rfl) h
/-- portage/portagelaw12.WalLasts -/
def k_law12_WalLasts (i : Nat) : List Nat := match i with | 0 => [6] | 1 => [18, 19, 20, 21, 22] | 2 => [23] | 3 => [0, 25, 26, 27, 28, 29, 30] | 4 => [31] | 7 => [32, 33, 34, 35, 36, 37, 38] | 9 => [42, 43, 44, 45] | 10 => [48] | 11 => [49, 50, 51, 52, 53, 54, 55] | 12 => [12, 56] | 13 => [58, 59, 60, 61, 62, 63, 64, 65] | 14 => [67] | 15 => [68, 69] | 16 => [71, 72] | 17 => [74] | 18 => [13, 75, 76, 77, 78, 79] | 19 => [14, 80] | 20 => [82, 83] | 21 => [46, 85] | 22 => [86, 87, 88, 89, 90, 91, 92] | 8 => [40, 41] | 23 => [2, 93, 94, 95] | 25 => [0, 7, 15, 97, 98, 99, 100, 101, 102, 103] | 26 => [9, 10, 16, 17, 104, 105, 106, 107, 108, 109, 110, 111, 112, 113, 114, 115, 116, 117, 118, 119, 120, 121, 122, 123, 124, 125, 126, 127, 128, 129] | _ => []
def c_law12_WalLasts : RCode :=
 .seq (.ops [mv 6 (kb false)] [6])
 (.seq (.ops [mv 19 (t 0),
 ca 20 F.law12_begin [(t 19)],
 mv 18 (t 20),
 ex 21 (t 18) 0,
 ex 22 (t 18) 1,
 mv 7 (t 21),
 mv 8 (t 22)] [18, 19, 20, 21, 22])
 (.seq (.seq (.ops [mv 23 (t 8),
 o 24 (.pnil .eql (t 23) (.const (.pointer none)))] [23])
 (.cond (t 24)
  (.seq (.ops [mv 25 (t 0),
  ca 26 F.law12_may [(t 25)],
  o 27 (.not (t 26)),
  os 28 (.mov (t 27)),
  gt 28 29 (.call (fn F.law12_awake) []),
  o 30 (.pick (t 28) (t 29) (kb false)),
  mv 6 (t 30)] [0, 25, 26, 27, 28, 29, 30])
  (.ret))
  (.skip)))
 (.seq (.ops [o 31 (.mkSl false 32 0 [] []),
 mv 9 (t 31)] [31])
 (.seq (.ops [mv 10 (k 0)] [])
 (.seq (.seq (.ops [mv 11 (k 0)] [])
 (.block 0 (.loop (.seq (.seq (.ops [mv 32 (t 11),
  mv 33 (t 1),
  o 34 (.len (t 33)),
  o 35 (.ibin .lss (t 32) (t 34)),
  os 36 (.mov (t 35)),
  gt 36 37 (.mov (t 11)),
  gt 36 38 (.ibin .lss (t 37) (k 60)),
  o 39 (.pick (t 36) (t 38) (kb false))] [32, 33, 34, 35, 36, 37, 38])
  (.cond (t 39)
   (.skip)
   (.exit 0)))
  (.seq (.block 1 (.seq (.ops [mv 42 (t 1),
  mv 43 (t 11),
  o 44 (.iaddr 4 (t 42) (t 43)),
  fa 45 0 (t 44),
  l1 46 (t 45)] [42, 43, 44, 45])
  (.block 2 (.seq (.ops [o 48 (.ibin .eql (t 46) (k 0)),
  mv 47 (t 48)] [48])
  (.cond (t 47)
   (.seq (.ops [mv 49 (t 8),
   mv 50 (t 1),
   mv 51 (t 11),
   o 52 (.iaddr 4 (t 50) (t 51)),
   fa 53 2 (t 52),
   l1 54 (t 53),
   ca 55 F.wal_Log_Append [(t 49), (t 54)],
   mv 12 (t 55)] [49, 50, 51, 52, 53, 54, 55])
   (.seq (.ops [mv 56 (t 12),
   o 57 (.ibin .eql (t 56) (k 0))] [12, 56])
   (.cond (t 57)
    (.ops [mv 58 (t 9),
    mv 59 (t 1),
    mv 60 (t 11),
    o 61 (.iaddr 4 (t 59) (t 60)),
    fa 62 2 (t 61),
    l1 63 (t 62),
    o 64 (.mkSl true 32 1 [sn] [(0, 1, (t 63))]),
    o 65 (.app 32 1 24 [sn] (t 58) (t 64)),
    mv 9 (t 65)] [58, 59, 60, 61, 62, 63, 64, 65])
    (.skip))))
   (.seq (.ops [o 67 (.ibin .eql (t 46) (k 1)),
   mv 66 (t 67)] [67])
   (.cond (t 66)
    (.seq (.ops [mv 68 (t 8),
    ca 69 F.wal_Log_Sync [(t 68)],
    o 70 (.ibin .eql (t 69) (k 0))] [68, 69])
    (.cond (t 70)
     (.ops [mv 71 (t 9),
     o 72 (.len (t 71)),
     mv 10 (t 72)] [71, 72])
     (.skip)))
    (.seq (.ops [o 74 (.ibin .eql (t 46) (k 2)),
    mv 73 (t 74)] [74])
    (.cond (t 73)
     (.seq (.ops [mv 76 (t 8),
     ca 77 F.wal_Log_Begin [(t 76)],
     mv 75 (t 77),
     ex 78 (t 75) 0,
     ex 79 (t 75) 1,
     mv 13 (t 78),
     mv 14 (t 79)] [13, 75, 76, 77, 78, 79])
     (.seq (.ops [mv 80 (t 14),
     o 81 (.ibin .eql (t 80) (k 0))] [14, 80])
     (.cond (t 81)
      (.ops [mv 82 (t 9),
      o 83 (.len (t 82)),
      mv 10 (t 83)] [82, 83])
      (.skip))))
     (.seq (.ops [o 85 (.ibin .eql (t 46) (k 4)),
     mv 84 (t 85)] [46, 85])
     (.cond (t 84)
      (.ops [mv 86 (t 7),
      mv 87 (t 1),
      mv 88 (t 11),
      o 89 (.iaddr 4 (t 87) (t 88)),
      fa 90 1 (t 89),
      l1 91 (t 90),
      ca 92 F.disk_Disk_Arm [(t 86), (t 91)]] [86, 87, 88, 89, 90, 91, 92])
      (.skip))))))))))))
  (.ops [mv 40 (t 11),
  ad 41 (t 40) (k 1),
  mv 11 (t 41)] [40, 41]))))))
 (.seq (.seq (.ops [mv 93 (t 7),
 mv 94 (t 2),
 ca 95 F.disk_Disk_Crash [(t 93), (t 94)],
 o 96 (.ibin .neq (t 95) (k 0))] [2, 93, 94, 95])
 (.cond (t 96)
  (.seq (.ops [mv 6 (kb false)] [])
  (.ret))
  (.skip)))
 (.seq (.ops [mv 98 (t 7),
 mv 99 (t 0),
 ca 100 F.wal_Open [(t 98), (k 1), (t 99)],
 mv 97 (t 100),
 ex 101 (t 97) 0,
 ex 102 (t 97) 1,
 ex 103 (t 97) 2,
 mv 15 (t 101),
 mv 16 (t 102),
 mv 17 (t 103)] [0, 7, 15, 97, 98, 99, 100, 101, 102, 103])
 (.seq (.ops [mv 104 (t 17),
 o 105 (.ibin .eql (t 104) (k 0)),
 os 106 (.mov (t 105)),
 gt 106 107 (.mov (t 16)),
 gt 106 108 (.len (t 107)),
 gt 106 109 (.mov (t 10)),
 gt 106 110 (.ibin .geq (t 108) (t 109)),
 o 111 (.pick (t 106) (t 110) (kb false)),
 os 112 (.mov (t 111)),
 gt 112 113 (.mov (t 16)),
 gt 112 114 (.len (t 113)),
 gt 112 115 (.mov (t 9)),
 gt 112 116 (.len (t 115)),
 gt 112 117 (.ibin .leq (t 114) (t 116)),
 o 118 (.pick (t 112) (t 117) (kb false)),
 os 119 (.mov (t 118)),
 gt 119 120 (.mov (t 16)),
 gt 119 121 (.mov (t 9)),
 gt 119 122 (.mov (t 16)),
 gt 119 123 (.len (t 122)),
 gt 119 124 (.slx 1 (t 121) none (some (t 123))),
 gt 119 125 (.call (fn F.ref03_Same) [(t 120), (t 124)]),
 o 126 (.pick (t 119) (t 125) (kb false)),
 os 127 (.mov (t 126)),
 gt 127 128 (.call (fn F.law12_awake) []),
 o 129 (.pick (t 127) (t 128) (kb false)),
 mv 6 (t 129)] [9, 10, 16, 17, 104, 105, 106, 107, 108, 109, 110, 111, 112, 113, 114, 115, 116, 117, 118, 119, 120, 121, 122, 123, 124, 125, 126, 127, 128, 129])
 (.ret)))))))))
def r_law12_WalLasts : List RRes := [.tmp 6]
theorem fo_law12_WalLasts {args : List Value} {M : Mem} {R : Value → Mem → Prop} (hn : args.length ≤ 130) (h : vfn Try.prog c_law12_WalLasts r_law12_WalLasts args M R) : CallsM Try.prog F.law12_WalLasts args M R :=
  fn_ok (kf := k_law12_WalLasts) Try.func4 (by kernel_rfl) (by kernel_rfl) hn (by kernel_rfl) h
/-- portage/portagelaw12.WalAgain -/
def k_law12_WalAgain (i : Nat) : List Nat := match i with | 0 => [6] | 1 => [24, 25, 26, 27, 28] | 2 => [29] | 3 => [0, 31, 32, 33, 34, 35, 36] | 5 => [37, 38, 39, 40, 41, 42, 43] | 7 => [47, 48, 49, 50] | 8 => [53] | 9 => [54, 55, 56, 57, 58, 59, 60] | 10 => [62] | 11 => [63, 64] | 12 => [66] | 13 => [67, 68] | 14 => [70] | 15 => [71, 72, 73, 74, 75, 76, 77, 78, 79, 80, 81, 82, 83] | 16 => [51, 85] | 17 => [86, 87, 88, 89, 90, 91, 92, 93] | 6 => [45, 46] | 18 => [2, 94, 95, 96] | 19 => [97, 98, 99, 100, 101, 102, 103] | 20 => [12, 104, 105, 106, 107, 108] | 22 => [110, 111] | 23 => [0, 112, 113, 114, 115, 116, 117, 118] | 24 => [10, 11, 14, 15, 16, 119, 120, 121, 122, 123, 124, 125, 126, 127, 128, 129, 130, 131, 132, 133, 134, 135, 136, 137, 138, 139, 140, 141, 142, 143, 144, 145, 146, 147] | 26 => [149, 150] | 27 => [151, 152] | 28 => [153, 154, 155, 156] | 31 => [158, 159, 160] | 33 => [21, 164, 165, 166, 167, 168, 169, 170, 171, 172] | 34 => [23, 173, 174, 175, 176, 177, 178, 179, 180, 181] | 35 => [20, 22, 182, 183, 184, 185, 186, 187, 188, 189, 190, 191, 192, 193, 194, 195, 196] | 32 => [162, 163] | 37 => [198] | _ => []
def c_law12_WalAgain : RCode :=
 .seq (.ops [mv 6 (kb false)] [6])
 (.seq (.ops [mv 25 (t 0),
 ca 26 F.law12_begin [(t 25)],
 mv 24 (t 26),
 ex 27 (t 24) 0,
 ex 28 (t 24) 1,
 mv 7 (t 27),
 mv 8 (t 28)] [24, 25, 26, 27, 28])
 (.seq (.seq (.ops [mv 29 (t 8),
 o 30 (.pnil .eql (t 29) (.const (.pointer none)))] [29])
 (.cond (t 30)
  (.seq (.ops [mv 31 (t 0),
  ca 32 F.law12_may [(t 31)],
  o 33 (.not (t 32)),
  os 34 (.mov (t 33)),
  gt 34 35 (.call (fn F.law12_awake) []),
  o 36 (.pick (t 34) (t 35) (kb false)),
  mv 6 (t 36)] [0, 31, 32, 33, 34, 35, 36])
  (.ret))
  (.skip)))
 (.seq (.seq (.ops [mv 9 (k 0)] [])
 (.block 0 (.loop (.seq (.seq (.ops [mv 37 (t 9),
  mv 38 (t 1),
  o 39 (.len (t 38)),
  o 40 (.ibin .lss (t 37) (t 39)),
  os 41 (.mov (t 40)),
  gt 41 42 (.mov (t 9)),
  gt 41 43 (.ibin .lss (t 42) (k 60)),
  o 44 (.pick (t 41) (t 43) (kb false))] [37, 38, 39, 40, 41, 42, 43])
  (.cond (t 44)
   (.skip)
   (.exit 0)))
  (.seq (.block 1 (.seq (.ops [mv 47 (t 1),
  mv 48 (t 9),
  o 49 (.iaddr 4 (t 47) (t 48)),
  fa 50 0 (t 49),
  l1 51 (t 50)] [47, 48, 49, 50])
  (.block 2 (.seq (.ops [o 53 (.ibin .eql (t 51) (k 0)),
  mv 52 (t 53)] [53])
  (.cond (t 52)
   (.ops [mv 54 (t 8),
   mv 55 (t 1),
   mv 56 (t 9),
   o 57 (.iaddr 4 (t 55) (t 56)),
   fa 58 2 (t 57),
   l1 59 (t 58),
   ca 60 F.wal_Log_Append [(t 54), (t 59)]] [54, 55, 56, 57, 58, 59, 60])
   (.seq (.ops [o 62 (.ibin .eql (t 51) (k 1)),
   mv 61 (t 62)] [62])
   (.cond (t 61)
    (.ops [mv 63 (t 8),
    ca 64 F.wal_Log_Sync [(t 63)]] [63, 64])
    (.seq (.ops [o 66 (.ibin .eql (t 51) (k 2)),
    mv 65 (t 66)] [66])
    (.cond (t 65)
     (.ops [mv 67 (t 8),
     ca 68 F.wal_Log_Begin [(t 67)]] [67, 68])
     (.seq (.ops [o 70 (.ibin .eql (t 51) (k 7)),
     mv 69 (t 70)] [70])
     (.cond (t 69)
      (.draw (.take (mv 71 (t 7)) (.take (mv 72 (t 1)) (.take (mv 73 (t 9)) (.take (o 74 (.iaddr 4 (t 72) (t 73))) (.take (fa 75 1 (t 74)) (.take (l1 76 (t 75)) (.take (mv 78 (t 1)) (.take (mv 79 (t 9)) (.take (o 80 (.iaddr 4 (t 78) (t 79))) (.take (fa 81 2 (t 80)) (.take (l1 82 (t 81)) (.alt (ca 77 F.wal_Name [(t 76)]) true
       (.alt (ca 83 F.disk_Disk_Append [(t 71), (t 77), (t 82)]) false
        (.done)
        (.none))
       (.none))))))))))))) [71, 72, 73, 74, 75, 76, 77, 78, 79, 80, 81, 82, 83])
      (.seq (.ops [o 85 (.ibin .eql (t 51) (k 8)),
      mv 84 (t 85)] [51, 85])
      (.cond (t 84)
       (.ops [mv 86 (t 7),
       mv 87 (t 1),
       mv 88 (t 9),
       o 89 (.iaddr 4 (t 87) (t 88)),
       fa 90 1 (t 89),
       l1 91 (t 90),
       ca 92 F.wal_Name [(t 91)],
       ca 93 F.disk_Disk_Remove [(t 86), (t 92)]] [86, 87, 88, 89, 90, 91, 92, 93])
       (.skip))))))))))))))
  (.ops [mv 45 (t 9),
  ad 46 (t 45) (k 1),
  mv 9 (t 46)] [45, 46]))))))
 (.seq (.ops [mv 94 (t 7),
 mv 95 (t 2),
 ca 96 F.disk_Disk_Crash [(t 94), (t 95)]] [2, 94, 95, 96])
 (.seq (.ops [mv 98 (t 7),
 mv 99 (t 0),
 ca 100 F.wal_Open [(t 98), (k 1), (t 99)],
 mv 97 (t 100),
 ex 101 (t 97) 0,
 ex 102 (t 97) 1,
 ex 103 (t 97) 2,
 mv 10 (t 101),
 mv 11 (t 102),
 mv 12 (t 103)] [97, 98, 99, 100, 101, 102, 103])
 (.seq (.seq (.ops [mv 104 (t 12),
 o 105 (.ibin .neq (t 104) (k 0)),
 os 106 (.mov (t 105)),
 gf 106 107 (.mov (t 10)),
 gf 106 108 (.pnil .eql (t 107) (.const (.pointer none))),
 o 109 (.pick (t 106) (kb true) (t 108))] [12, 104, 105, 106, 107, 108])
 (.cond (t 109)
  (.seq (.ops [mv 6 (kb false)] [])
  (.ret))
  (.skip)))
 (.seq (.ops [mv 110 (t 7),
 ca 111 F.disk_Disk_Fork [(t 110)],
 mv 13 (t 111)] [110, 111])
 (.seq (.ops [mv 113 (t 7),
 mv 114 (t 0),
 ca 115 F.wal_Open [(t 113), (k 1), (t 114)],
 mv 112 (t 115),
 ex 116 (t 112) 0,
 ex 117 (t 112) 1,
 ex 118 (t 112) 2,
 mv 14 (t 116),
 mv 15 (t 117),
 mv 16 (t 118)] [0, 112, 113, 114, 115, 116, 117, 118])
 (.seq (.seq (.ops [mv 119 (t 16),
 o 120 (.ibin .neq (t 119) (k 0)),
 os 121 (.mov (t 120)),
 gf 121 122 (.mov (t 14)),
 gf 121 123 (.pnil .eql (t 122) (.const (.pointer none))),
 o 124 (.pick (t 121) (kb true) (t 123)),
 os 125 (.mov (t 124)),
 gf 125 126 (.mov (t 13)),
 gf 125 127 (.pnil .eql (t 126) (.const (.pointer none))),
 o 128 (.pick (t 125) (kb true) (t 127)),
 os 129 (.mov (t 128)),
 gf 129 130 (.mov (t 11)),
 gf 129 131 (.mov (t 15)),
 gf 129 132 (.call (fn F.ref03_Same) [(t 130), (t 131)]),
 gf 129 133 (.not (t 132)),
 o 134 (.pick (t 129) (kb true) (t 133)),
 os 135 (.mov (t 134)),
 gf 135 136 (.mov (t 10)),
 gf 135 137 (.call (fn F.wal_Log_Last) [(t 136)]),
 gf 135 138 (.mov (t 14)),
 gf 135 139 (.call (fn F.wal_Log_Last) [(t 138)]),
 gf 135 140 (.ibin .neq (t 137) (t 139)),
 o 141 (.pick (t 135) (kb true) (t 140)),
 os 142 (.mov (t 141)),
 gf 142 143 (.mov (t 10)),
 gf 142 144 (.call (fn F.wal_Log_Size) [(t 143)]),
 gf 142 145 (.mov (t 14)),
 gf 142 146 (.call (fn F.wal_Log_Size) [(t 145)]),
 gf 142 147 (.ibin .neq (t 144) (t 146)),
 o 148 (.pick (t 142) (kb true) (t 147))] [10, 11, 14, 15, 16, 119, 120, 121, 122, 123, 124, 125, 126, 127, 128, 129, 130, 131, 132, 133, 134, 135, 136, 137, 138, 139, 140, 141, 142, 143, 144, 145, 146, 147])
 (.cond (t 148)
  (.seq (.ops [mv 6 (kb false)] [])
  (.ret))
  (.skip)))
 (.seq (.ops [mv 149 (t 13),
 ca 150 F.disk_Disk_Names [(t 149)],
 mv 17 (t 150)] [149, 150])
 (.seq (.ops [mv 151 (t 7),
 ca 152 F.disk_Disk_Names [(t 151)],
 mv 18 (t 152)] [151, 152])
 (.seq (.seq (.ops [mv 153 (t 17),
 o 154 (.len (t 153)),
 mv 155 (t 18),
 o 156 (.len (t 155)),
 o 157 (.ibin .neq (t 154) (t 156))] [153, 154, 155, 156])
 (.cond (t 157)
  (.seq (.ops [mv 6 (kb false)] [])
  (.ret))
  (.skip)))
 (.seq (.seq (.ops [mv 19 (k 0)] [])
 (.block 3 (.loop (.seq (.seq (.ops [mv 158 (t 19),
  mv 159 (t 17),
  o 160 (.len (t 159)),
  o 161 (.ibin .lss (t 158) (t 160))] [158, 159, 160])
  (.cond (t 161)
   (.skip)
   (.exit 3)))
  (.seq (.block 4 (.seq (.ops [mv 165 (t 13),
  mv 166 (t 17),
  mv 167 (t 19),
  o 168 (.iaddr 1 (t 166) (t 167)),
  l1 169 (t 168),
  ca 170 F.disk_Disk_Read [(t 165), (t 169)],
  mv 164 (t 170),
  ex 171 (t 164) 0,
  ex 172 (t 164) 1,
  mv 20 (t 171),
  mv 21 (t 172)] [21, 164, 165, 166, 167, 168, 169, 170, 171, 172])
  (.seq (.ops [mv 174 (t 7),
  mv 175 (t 18),
  mv 176 (t 19),
  o 177 (.iaddr 1 (t 175) (t 176)),
  l1 178 (t 177),
  ca 179 F.disk_Disk_Read [(t 174), (t 178)],
  mv 173 (t 179),
  ex 180 (t 173) 0,
  ex 181 (t 173) 1,
  mv 22 (t 180),
  mv 23 (t 181)] [23, 173, 174, 175, 176, 177, 178, 179, 180, 181])
  (.seq (.draw (.take (mv 182 (t 17)) (.take (mv 183 (t 19)) (.take (o 184 (.iaddr 1 (t 182) (t 183))) (.take (l1 185 (t 184)) (.take (mv 186 (t 18)) (.take (mv 187 (t 19)) (.take (o 188 (.iaddr 1 (t 186) (t 187))) (.take (l1 189 (t 188)) (.take (o 190 (.strE .neq (t 185) (t 189))) (.take (os 191 (.mov (t 190))) (.take (gf 191 192 (.mov (t 20))) (.take (gf 191 193 (.strOf (t 192))) (.take (gf 191 194 (.mov (t 22))) (.take (gf 191 195 (.strOf (t 194))) (.take (gf 191 196 (.strE .neq (t 193) (t 195))) (.take (o 197 (.pick (t 191) (kb true) (t 196))) (.done))))))))))))))))) [20, 22, 182, 183, 184, 185, 186, 187, 188, 189, 190, 191, 192, 193, 194, 195, 196])
  (.cond (t 197)
   (.seq (.ops [mv 6 (kb false)] [])
   (.ret))
   (.skip))))))
  (.ops [mv 162 (t 19),
  ad 163 (t 162) (k 1),
  mv 19 (t 163)] [162, 163]))))))
 (.seq (.ops [ca 198 F.law12_awake [],
 mv 6 (t 198)] [198])
 (.ret)))))))))))))))
def r_law12_WalAgain : List RRes := [.tmp 6]
theorem fo_law12_WalAgain {args : List Value} {M : Mem} {R : Value → Mem → Prop} (hn : args.length ≤ 199) (h : vfn Try.prog c_law12_WalAgain r_law12_WalAgain args M R) : CallsM Try.prog F.law12_WalAgain args M R :=
  fn_ok (kf := k_law12_WalAgain) Try.func5 (by kernel_rfl) (by kernel_rfl) hn (by kernel_rfl) h
/-- portage/portagelaw12.WalNil -/
def k_law12_WalNil (i : Nat) : List Nat := match i with | 0 => [0, 2] | 2 => [9, 10, 11, 12, 13] | 3 => [14, 15, 16, 17, 18, 19, 20] | 4 => [1, 3, 4, 5, 6, 7, 8, 21, 22, 23, 24, 25, 26, 27, 28, 29, 30, 31, 32, 33, 34, 35, 36, 37, 38, 39, 40, 41, 42, 43, 44, 45, 46, 47, 48, 49, 50, 51, 52, 53, 54, 55, 56, 57, 58, 59, 60, 61, 62, 63, 64, 65, 66, 67, 68, 69, 70, 71, 72, 73, 74, 75, 76] | _ => []
def c_law12_WalNil : RCode :=
 .seq (.ops [o 1 (.box 34 (t 0)),
 mv 2 (kb false)] [0, 2])
 (.seq (.ops [mv 3 (.const (.pointer none))] [])
 (.seq (.ops [mv 10 (t 3),
 ca 11 F.wal_Log_Begin [(t 10)],
 mv 9 (t 11),
 ex 12 (t 9) 0,
 ex 13 (t 9) 1,
 mv 4 (t 12),
 mv 5 (t 13)] [9, 10, 11, 12, 13])
 (.seq (.ops [fa 15 1 (t 1),
 l1 16 (t 15),
 ca 17 F.wal_Open [(.const (.pointer none)), (t 16), (k 20)],
 mv 14 (t 17),
 ex 18 (t 14) 0,
 ex 19 (t 14) 1,
 ex 20 (t 14) 2,
 mv 6 (t 18),
 mv 7 (t 19),
 mv 8 (t 20)] [14, 15, 16, 17, 18, 19, 20])
 (.seq (.ops [mv 21 (t 3),
 fa 22 2 (t 1),
 l1 23 (t 22),
 ca 24 F.wal_Log_Append [(t 21), (t 23)],
 o 25 (.ibin .eql (t 24) (k 7)),
 os 26 (.mov (t 25)),
 gt 26 27 (.mov (t 3)),
 gt 26 28 (.call (fn F.wal_Log_Sync) [(t 27)]),
 gt 26 29 (.ibin .eql (t 28) (k 7)),
 o 30 (.pick (t 26) (t 29) (kb false)),
 os 31 (.mov (t 30)),
 gt 31 32 (.mov (t 4)),
 gt 31 33 (.ibin .eql (t 32) (k 0)),
 o 34 (.pick (t 31) (t 33) (kb false)),
 os 35 (.mov (t 34)),
 gt 35 36 (.mov (t 5)),
 gt 35 37 (.ibin .eql (t 36) (k 7)),
 o 38 (.pick (t 35) (t 37) (kb false)),
 os 39 (.mov (t 38)),
 gt 39 40 (.mov (t 3)),
 gt 39 41 (.faddr 1 (t 1)),
 gt 39 42 (.load false 1 (t 41)),
 gt 39 43 (.call (fn F.wal_Log_Drop) [(t 40), (t 42)]),
 gt 39 44 (.ibin .eql (t 43) (k 7)),
 o 45 (.pick (t 39) (t 44) (kb false)),
 os 46 (.mov (t 45)),
 gt 46 47 (.mov (t 3)),
 gt 46 48 (.call (fn F.wal_Log_First) [(t 47)]),
 gt 46 49 (.ibin .eql (t 48) (k 0)),
 o 50 (.pick (t 46) (t 49) (kb false)),
 os 51 (.mov (t 50)),
 gt 51 52 (.mov (t 3)),
 gt 51 53 (.call (fn F.wal_Log_Last) [(t 52)]),
 gt 51 54 (.ibin .eql (t 53) (k 0)),
 o 55 (.pick (t 51) (t 54) (kb false)),
 os 56 (.mov (t 55)),
 gt 56 57 (.mov (t 3)),
 gt 56 58 (.call (fn F.wal_Log_Size) [(t 57)]),
 gt 56 59 (.ibin .eql (t 58) (k 0)),
 o 60 (.pick (t 56) (t 59) (kb false)),
 os 61 (.mov (t 60)),
 gt 61 62 (.mov (t 6)),
 gt 61 63 (.pnil .eql (t 62) (.const (.pointer none))),
 o 64 (.pick (t 61) (t 63) (kb false)),
 os 65 (.mov (t 64)),
 gt 65 66 (.mov (t 7)),
 gt 65 67 (.len (t 66)),
 gt 65 68 (.ibin .eql (t 67) (k 0)),
 o 69 (.pick (t 65) (t 68) (kb false)),
 os 70 (.mov (t 69)),
 gt 70 71 (.mov (t 8)),
 gt 70 72 (.ibin .eql (t 71) (k 7)),
 o 73 (.pick (t 70) (t 72) (kb false)),
 os 74 (.mov (t 73)),
 gt 74 75 (.call (fn F.law12_awake) []),
 o 76 (.pick (t 74) (t 75) (kb false)),
 mv 2 (t 76)] [1, 3, 4, 5, 6, 7, 8, 21, 22, 23, 24, 25, 26, 27, 28, 29, 30, 31, 32, 33, 34, 35, 36, 37, 38, 39, 40, 41, 42, 43, 44, 45, 46, 47, 48, 49, 50, 51, 52, 53, 54, 55, 56, 57, 58, 59, 60, 61, 62, 63, 64, 65, 66, 67, 68, 69, 70, 71, 72, 73, 74, 75, 76])
 (.ret)))))
def r_law12_WalNil : List RRes := [.tmp 2]
theorem fo_law12_WalNil {args : List Value} {M : Mem} {R : Value → Mem → Prop} (hn : args.length ≤ 77) (h : vfn Try.prog c_law12_WalNil r_law12_WalNil args M R) : CallsM Try.prog F.law12_WalNil args M R :=
  fn_ok (kf := k_law12_WalNil) Try.func6 (by kernel_rfl) (by kernel_rfl) hn (by kernel_rfl) h
/-- portage/wal.Name -/
def k_wal_Name (i : Nat) : List Nat := match i with | 0 => [2] | 1 => [5, 6, 7, 8, 9] | 6 => [13] | 7 => [4, 14, 15, 16, 17, 18, 19, 20] | 8 => [21, 22] | 9 => [23] | 10 => [3, 24, 25, 26] | _ => []
def c_wal_Name : RCode :=
 .seq (.ops [mv 2 (.const (.string ByteArray.empty))] [2])
 (.seq (.seq (.ops [mv 5 (t 0),
 o 6 (.ibin .lss (t 5) (k 1)),
 os 7 (.mov (t 6)),
 gf 7 8 (.mov (t 0)),
 gf 7 9 (.ibin .gtr (t 8) (k 99999)),
 o 10 (.pick (t 7) (kb true) (t 9))] [5, 6, 7, 8, 9])
 (.cond (t 10)
  (.seq (.ops [mv 2 (.const (.string ByteArray.empty))] [])
  (.ret))
  (.skip)))
 (.seq (.ops [o 3 (.alloc 55 [(u 0), (u 0), (u 0), (u 0), (u 0)])] [])
 (.seq (.seq (.ops [mv 11 (k 0)] [])
 (.block 0 (.loop (.seq (.ops [o 12 (.ibin .lss (t 11) (k 5))] [])
  (.seq (.cond (t 12)
   (.skip)
   (.exit 0))
  (.seq (.block 1 (.seq (.ops [mv 13 (t 11),
  mv 4 (t 13)] [13])
  (.seq (.ops [mv 14 (t 4),
  o 15 (.ibin .sub (k 4) (t 14)),
  mv 16 (t 0),
  o 17 (.ibin .rem (t 16) (k 10)),
  ad 18 (k 48) (t 17),
  o 19 (.conv .u8 (t 18)),
  o 20 (.iaddrA 5 1 (t 3) (t 15)),
  st 1 (t 20) (t 19)] [4, 14, 15, 16, 17, 18, 19, 20])
  (.ops [mv 21 (t 0),
  o 22 (.ibin .quo (t 21) (k 10)),
  mv 0 (t 22)] [21, 22]))))
  (.ops [ad 23 (t 11) (k 1),
  mv 11 (t 23)] [23])))))))
 (.seq (.ops [o 24 (.slA 5 (t 3)),
 o 25 (.strOf (t 24)),
 o 26 (.strE .add (.const (.string ⟨#[119]⟩)) (t 25)),
 mv 2 (t 26)] [3, 24, 25, 26])
 (.ret)))))
def r_wal_Name : List RRes := [.tmp 2]
theorem fo_wal_Name {args : List Value} {M : Mem} {R : Value → Mem → Prop} (hn : args.length ≤ 27) (h : vfn Try.prog c_wal_Name r_wal_Name args M R) : CallsM Try.prog F.wal_Name args M R :=
  fn_ok (kf := k_wal_Name) Try.func7 (by kernel_rfl) (by kernel_rfl) hn (by kernel_rfl) h
/-- portage/portageref12.Name -/
def k_ref12_Name (i : Nat) : List Nat := match i with | 0 => [2] | 1 => [7, 8, 9, 10, 11] | 6 => [13] | 8 => [17, 18, 19, 20] | 9 => [6, 21, 22, 23, 24, 25, 26, 27] | 7 => [15, 16] | 10 => [4, 28] | _ => []
def c_ref12_Name : RCode :=
 .seq (.ops [mv 2 (.const (.string ByteArray.empty))] [2])
 (.seq (.seq (.ops [mv 7 (t 0),
 o 8 (.ibin .lss (t 7) (k 1)),
 os 9 (.mov (t 8)),
 gf 9 10 (.mov (t 0)),
 gf 9 11 (.ibin .gtr (t 10) (k 99999)),
 o 12 (.pick (t 9) (kb true) (t 11))] [7, 8, 9, 10, 11])
 (.cond (t 12)
  (.seq (.ops [mv 2 (.const (.string ByteArray.empty))] [])
  (.ret))
  (.skip)))
 (.seq (.ops [mv 3 (.const (.string ⟨#[48, 49, 50, 51, 52, 53, 54, 55, 56, 57]⟩))] [])
 (.seq (.ops [mv 4 (.const (.string ⟨#[119]⟩))] [])
 (.seq (.seq (.ops [mv 5 (k 10000)] [])
 (.block 0 (.loop (.seq (.seq (.ops [mv 13 (t 5),
  o 14 (.ibin .gtr (t 13) (k 0))] [13])
  (.cond (t 14)
   (.skip)
   (.exit 0)))
  (.seq (.block 1 (.seq (.ops [mv 17 (t 0),
  mv 18 (t 5),
  o 19 (.ibin .quo (t 17) (t 18)),
  o 20 (.ibin .rem (t 19) (k 10)),
  mv 6 (t 20)] [17, 18, 19, 20])
  (.ops [mv 21 (t 4),
  mv 22 (t 3),
  mv 23 (t 6),
  mv 24 (t 6),
  ad 25 (t 24) (k 1),
  o 26 (.ssl (t 22) (some (t 23)) (some (t 25))),
  o 27 (.strE .add (t 21) (t 26)),
  mv 4 (t 27)] [6, 21, 22, 23, 24, 25, 26, 27])))
  (.ops [mv 15 (t 5),
  o 16 (.ibin .quo (t 15) (k 10)),
  mv 5 (t 16)] [15, 16]))))))
 (.seq (.ops [mv 28 (t 4),
 mv 2 (t 28)] [4, 28])
 (.ret))))))
def r_ref12_Name : List RRes := [.tmp 2]
theorem fo_ref12_Name {args : List Value} {M : Mem} {R : Value → Mem → Prop} (hn : args.length ≤ 29) (h : vfn Try.prog c_ref12_Name r_ref12_Name args M R) : CallsM Try.prog F.ref12_Name args M R :=
  fn_ok (kf := k_ref12_Name) Try.func8 (by kernel_rfl) (by kernel_rfl) hn (by kernel_rfl) h
/-- portage/portagelaw12.awake -/
def k_law12_awake (i : Nat) : List Nat := match i with | 0 => [0] | 1 => [9, 10, 11, 12] | 2 => [2, 13, 14, 15, 16, 17] | 4 => [4, 19, 20, 21, 22, 23, 24] | 5 => [3, 5, 25, 26, 27, 28, 29, 30, 31, 32, 33, 34, 35, 36, 37, 38, 39, 40, 41, 42, 43, 44, 45, 46, 47, 48, 49, 50, 51, 52, 53] | 7 => [1, 6, 55, 56, 57, 58, 59, 60] | 8 => [7, 8, 61, 62, 63, 64, 65, 66, 67, 68, 69, 70, 71, 72, 73, 74, 75, 76, 77, 78] | _ => []
def c_law12_awake : RCode :=
 .seq (.ops [mv 0 (kb false)] [0])
 (.seq (.ops [ca 10 F.disk_New [(k 100)],
 mv 9 (t 10),
 ex 11 (t 9) 0,
 ex 12 (t 9) 1,
 mv 1 (t 11),
 mv 2 (t 12)] [9, 10, 11, 12])
 (.seq (.seq (.ops [mv 13 (t 2),
 o 14 (.ibin .neq (t 13) (k 0)),
 os 15 (.mov (t 14)),
 gf 15 16 (.mov (t 1)),
 gf 15 17 (.pnil .eql (t 16) (.const (.pointer none))),
 o 18 (.pick (t 15) (kb true) (t 17))] [2, 13, 14, 15, 16, 17])
 (.cond (t 18)
  (.seq (.ops [mv 0 (kb false)] [])
  (.ret))
  (.skip)))
 (.seq (.ops [mv 20 (t 1),
 ca 21 F.wal_Open [(t 20), (k 1), (k 20)],
 mv 19 (t 21),
 ex 22 (t 19) 0,
 ex 23 (t 19) 1,
 ex 24 (t 19) 2,
 mv 3 (t 22),
 mv 4 (t 23),
 mv 5 (t 24)] [4, 19, 20, 21, 22, 23, 24])
 (.seq (.seq (.ops [mv 25 (t 5),
 o 26 (.ibin .neq (t 25) (k 0)),
 os 27 (.mov (t 26)),
 gf 27 28 (.mov (t 3)),
 gf 27 29 (.pnil .eql (t 28) (.const (.pointer none))),
 o 30 (.pick (t 27) (kb true) (t 29)),
 os 31 (.mov (t 30)),
 gf 31 32 (.mov (t 3)),
 gf 31 33 (.mkSl false 5 1 [(u 0)] [(0, 1, (.const (u 97)))]),
 gf 31 34 (.strish (t 33)),
 gf 31 35 (.call (fn F.wal_Log_Append) [(t 32), (t 34)]),
 gf 31 36 (.ibin .neq (t 35) (k 0)),
 o 37 (.pick (t 31) (kb true) (t 36)),
 os 38 (.mov (t 37)),
 gf 38 39 (.mov (t 3)),
 gf 38 40 (.call (fn F.wal_Log_Sync) [(t 39)]),
 gf 38 41 (.ibin .neq (t 40) (k 0)),
 o 42 (.pick (t 38) (kb true) (t 41)),
 os 43 (.mov (t 42)),
 gf 43 44 (.mov (t 3)),
 gf 43 45 (.mkSl false 5 1 [(u 0)] [(0, 1, (.const (u 98)))]),
 gf 43 46 (.strish (t 45)),
 gf 43 47 (.call (fn F.wal_Log_Append) [(t 44), (t 46)]),
 gf 43 48 (.ibin .neq (t 47) (k 0)),
 o 49 (.pick (t 43) (kb true) (t 48)),
 os 50 (.mov (t 49)),
 gf 50 51 (.mov (t 1)),
 gf 50 52 (.call (fn F.disk_Disk_Crash) [(t 51), (.const sn)]),
 gf 50 53 (.ibin .neq (t 52) (k 0)),
 o 54 (.pick (t 50) (kb true) (t 53))] [3, 5, 25, 26, 27, 28, 29, 30, 31, 32, 33, 34, 35, 36, 37, 38, 39, 40, 41, 42, 43, 44, 45, 46, 47, 48, 49, 50, 51, 52, 53])
 (.cond (t 54)
  (.seq (.ops [mv 0 (kb false)] [])
  (.ret))
  (.skip)))
 (.seq (.ops [mv 56 (t 1),
 ca 57 F.wal_Open [(t 56), (k 1), (k 20)],
 mv 55 (t 57),
 ex 58 (t 55) 0,
 ex 59 (t 55) 1,
 ex 60 (t 55) 2,
 mv 6 (t 58),
 mv 7 (t 59),
 mv 8 (t 60)] [1, 6, 55, 56, 57, 58, 59, 60])
 (.seq (.ops [mv 61 (t 8),
 o 62 (.ibin .eql (t 61) (k 0)),
 os 63 (.mov (t 62)),
 gt 63 64 (.mov (t 7)),
 gt 63 65 (.len (t 64)),
 gt 63 66 (.ibin .eql (t 65) (k 1)),
 o 67 (.pick (t 63) (t 66) (kb false)),
 os 68 (.mov (t 67)),
 gt 68 69 (.mov (t 7)),
 gt 68 70 (.iaddr 1 (t 69) (k 0)),
 gt 68 71 (.load false 1 (t 70)),
 gt 68 72 (.strOf (t 71)),
 gt 68 73 (.strE .eql (t 72) (.const (.string ⟨#[97]⟩))),
 o 74 (.pick (t 68) (t 73) (kb false)),
 os 75 (.mov (t 74)),
 gt 75 76 (.call (fn F.wal_Name) [(k 12)]),
 gt 75 77 (.strE .eql (t 76) (.const (.string ⟨#[119, 48, 48, 48, 49, 50]⟩))),
 o 78 (.pick (t 75) (t 77) (kb false)),
 mv 0 (t 78)] [7, 8, 61, 62, 63, 64, 65, 66, 67, 68, 69, 70, 71, 72, 73, 74, 75, 76, 77, 78])
 (.ret)))))))
def r_law12_awake : List RRes := [.tmp 0]
theorem fo_law12_awake {args : List Value} {M : Mem} {R : Value → Mem → Prop} (hn : args.length ≤ 79) (h : vfn Try.prog c_law12_awake r_law12_awake args M R) : CallsM Try.prog F.law12_awake args M R :=
  fn_ok (kf := k_law12_awake) Try.func9 (by kernel_rfl) (by kernel_rfl) hn (by kernel_rfl) h
/-- portage/portagelaw12.begin -/
def k_law12_begin (i : Nat) : List Nat := match i with | 0 => [2, 3] | 1 => [9, 10, 11, 12] | 2 => [5, 13, 14, 15, 16, 17] | 4 => [0, 7, 19, 20, 21, 22, 23, 24, 25] | 5 => [8, 26, 27, 28, 29, 30] | 7 => [4, 6, 32, 33] | _ => []
def c_law12_begin : RCode :=
 .seq (.ops [mv 2 (.const (.pointer none)),
 mv 3 (.const (.pointer none))] [2, 3])
 (.seq (.ops [ca 10 F.disk_New [(k 1048576)],
 mv 9 (t 10),
 ex 11 (t 9) 0,
 ex 12 (t 9) 1,
 mv 4 (t 11),
 mv 5 (t 12)] [9, 10, 11, 12])
 (.seq (.seq (.ops [mv 13 (t 5),
 o 14 (.ibin .neq (t 13) (k 0)),
 os 15 (.mov (t 14)),
 gf 15 16 (.mov (t 4)),
 gf 15 17 (.pnil .eql (t 16) (.const (.pointer none))),
 o 18 (.pick (t 15) (kb true) (t 17))] [5, 13, 14, 15, 16, 17])
 (.cond (t 18)
  (.seq (.ops [mv 2 (.const (.pointer none)),
  mv 3 (.const (.pointer none))] [])
  (.ret))
  (.skip)))
 (.seq (.ops [mv 20 (t 4),
 mv 21 (t 0),
 ca 22 F.wal_Open [(t 20), (k 1), (t 21)],
 mv 19 (t 22),
 ex 23 (t 19) 0,
 ex 24 (t 19) 1,
 ex 25 (t 19) 2,
 mv 6 (t 23),
 mv 7 (t 24),
 mv 8 (t 25)] [0, 7, 19, 20, 21, 22, 23, 24, 25])
 (.seq (.seq (.ops [mv 26 (t 8),
 o 27 (.ibin .neq (t 26) (k 0)),
 os 28 (.mov (t 27)),
 gf 28 29 (.mov (t 6)),
 gf 28 30 (.pnil .eql (t 29) (.const (.pointer none))),
 o 31 (.pick (t 28) (kb true) (t 30))] [8, 26, 27, 28, 29, 30])
 (.cond (t 31)
  (.seq (.ops [mv 2 (.const (.pointer none)),
  mv 3 (.const (.pointer none))] [])
  (.ret))
  (.skip)))
 (.seq (.ops [mv 32 (t 4),
 mv 33 (t 6),
 mv 2 (t 32),
 mv 3 (t 33)] [4, 6, 32, 33])
 (.ret))))))
def r_law12_begin : List RRes := [.tmp 2, .tmp 3]
theorem fo_law12_begin {args : List Value} {M : Mem} {R : Value → Mem → Prop} (hn : args.length ≤ 34) (h : vfn Try.prog c_law12_begin r_law12_begin args M R) : CallsM Try.prog F.law12_begin args M R :=
  fn_ok (kf := k_law12_begin) Try.func10 (by kernel_rfl) (by kernel_rfl) hn (by kernel_rfl) h
/-- portage/portagelaw12.may -/
def k_law12_may (i : Nat) : List Nat := match i with | 0 => [2] | 1 => [0, 3, 4, 5, 6, 7, 8] | _ => []
def c_law12_may : RCode :=
 .seq (.ops [mv 2 (kb false)] [2])
 (.seq (.ops [mv 3 (t 0),
 o 4 (.ibin .geq (t 3) (k 16)),
 os 5 (.mov (t 4)),
 gt 5 6 (.mov (t 0)),
 gt 5 7 (.ibin .leq (t 6) (k 1048576)),
 o 8 (.pick (t 5) (t 7) (kb false)),
 mv 2 (t 8)] [0, 3, 4, 5, 6, 7, 8])
 (.ret))
def r_law12_may : List RRes := [.tmp 2]
theorem fo_law12_may {args : List Value} {M : Mem} {R : Value → Mem → Prop} (hn : args.length ≤ 9) (h : vfn Try.prog c_law12_may r_law12_may args M R) : CallsM Try.prog F.law12_may args M R :=
  fn_ok (kf := k_law12_may) Try.func11 (by kernel_rfl) (by kernel_rfl) hn (by kernel_rfl) h
/-- (*portage/wal.Log).Append -/
def k_wal_Log_Append (i : Nat) : List Nat := match i with | 0 => [4] | 1 => [11, 12] | 2 => [13] | 3 => [5, 15] | 4 => [1, 16, 17, 18, 19, 20] | 5 => [21] | 6 => [7, 23] | 7 => [24, 25, 26, 27] | 8 => [0, 29, 30] | 9 => [31, 32, 33, 34, 35, 36] | 10 => [8, 37, 38, 39, 40, 41, 42, 43, 44, 45, 46, 47, 48] | 11 => [9, 50, 51, 52, 53, 54] | 12 => [55] | 13 => [10, 57] | 14 => [0, 6, 58, 59, 60, 61, 62, 63, 64, 65, 66, 67, 68, 69, 70] | _ => []
def c_wal_Log_Append : RCode :=
 .seq (.ops [mv 4 (k 0)] [4])
 (.seq (.seq (.ops [mv 11 (t 0),
 ca 12 F.wal_Log_ready [(t 11)],
 mv 5 (t 12)] [11, 12])
 (.seq (.ops [mv 13 (t 5),
 o 14 (.ibin .neq (t 13) (k 0))] [13])
 (.cond (t 14)
  (.seq (.ops [mv 15 (t 5),
  mv 4 (t 15)] [5, 15])
  (.ret))
  (.skip))))
 (.seq (.ops [mv 17 (t 1),
 ca 18 F.record_Put [(t 17)],
 mv 16 (t 18),
 ex 19 (t 16) 0,
 ex 20 (t 16) 1,
 mv 6 (t 19),
 mv 7 (t 20)] [1, 16, 17, 18, 19, 20])
 (.seq (.seq (.ops [mv 21 (t 7),
 o 22 (.ibin .neq (t 21) (k 0))] [21])
 (.cond (t 22)
  (.seq (.ops [mv 23 (t 7),
  mv 4 (t 23)] [7, 23])
  (.ret))
  (.skip)))
 (.seq (.seq (.ops [mv 24 (t 0),
 o 25 (.nilck (t 24)),
 fa 26 0 (t 25),
 l1 27 (t 26),
 ca 28 F.disk_Disk_Down [(t 27)]] [24, 25, 26, 27])
 (.cond (t 28)
  (.seq (.ops [mv 29 (t 0),
  ca 30 F.wal_Log_told [(t 29), (k 9)],
  mv 4 (t 30)] [0, 29, 30])
  (.ret))
  (.skip)))
 (.seq (.seq (.ops [mv 31 (t 0),
 mv 32 (t 0),
 o 33 (.nilck (t 32)),
 fa 34 2 (t 33),
 l1 35 (t 34),
 ca 36 F.wal_Log_length [(t 31), (t 35)],
 mv 8 (t 36)] [31, 32, 33, 34, 35, 36])
 (.seq (.ops [mv 37 (t 8),
 o 38 (.ibin .gtr (t 37) (k 0)),
 os 39 (.mov (t 38)),
 gt 39 40 (.mov (t 6)),
 gt 39 41 (.len (t 40)),
 gt 39 42 (.mov (t 0)),
 gt 39 43 (.nilck (t 42)),
 gt 39 44 (.faddr 3 (t 43)),
 gt 39 45 (.load false 1 (t 44)),
 gt 39 46 (.mov (t 8)),
 gt 39 47 (.ibin .sub (t 45) (t 46)),
 gt 39 48 (.ibin .gtr (t 41) (t 47)),
 o 49 (.pick (t 39) (t 48) (kb false))] [8, 37, 38, 39, 40, 41, 42, 43, 44, 45, 46, 47, 48])
 (.cond (t 49)
  (.seq (.ops [mv 51 (t 0),
  ca 52 F.wal_Log_Begin [(t 51)],
  mv 50 (t 52),
  ex 53 (t 50) 0,
  ex 54 (t 50) 1,
  mv 9 (t 53),
  mv 10 (t 54)] [9, 50, 51, 52, 53, 54])
  (.seq (.ops [mv 55 (t 10),
  o 56 (.ibin .neq (t 55) (k 0))] [55])
  (.cond (t 56)
   (.seq (.ops [mv 57 (t 10),
   mv 4 (t 57)] [10, 57])
   (.ret))
   (.skip))))
  (.skip))))
 (.seq (.draw (.take (mv 58 (t 0)) (.take (mv 59 (t 0)) (.take (o 60 (.nilck (t 59))) (.take (fa 61 0 (t 60)) (.take (l1 62 (t 61)) (.take (mv 63 (t 0)) (.take (o 64 (.nilck (t 63))) (.take (fa 65 2 (t 64)) (.take (l1 66 (t 65)) (.take (mv 68 (t 6)) (.alt (ca 67 F.wal_Name [(t 66)]) true
  (.alt (ca 69 F.disk_Disk_Append [(t 62), (t 67), (t 68)]) false
   (.alt (ca 70 F.wal_Log_told [(t 58), (t 69)]) false
    (.take (mv 4 (t 70)) (.done))
    (.none))
   (.none))
  (.none)))))))))))) [0, 6, 58, 59, 60, 61, 62, 63, 64, 65, 66, 67, 68, 69, 70])
 (.ret)))))))
def r_wal_Log_Append : List RRes := [.tmp 4]
theorem fo_wal_Log_Append {args : List Value} {M : Mem} {R : Value → Mem → Prop} (hn : args.length ≤ 71) (h : vfn Try.prog c_wal_Log_Append r_wal_Log_Append args M R) : CallsM Try.prog F.wal_Log_Append args M R :=
  fn_ok (kf := k_wal_Log_Append) Try.func12 (by kernel_rfl) (by kernel_rfl) hn (by kernel_rfl) h
/-- (*portage/wal.Log).Sync -/
def k_wal_Log_Sync (i : Nat) : List Nat := match i with | 0 => [2] | 1 => [4, 5] | 2 => [6] | 3 => [3, 8] | 4 => [9, 10, 11, 12] | 5 => [0, 14, 15] | 6 => [16, 17, 18, 19, 20, 21, 22, 23, 24, 25, 26, 27, 28, 29, 30, 31] | 8 => [0, 33, 34, 35, 36, 37, 38, 39, 40, 41, 42, 43, 44] | _ => []
def c_wal_Log_Sync : RCode :=
 .seq (.ops [mv 2 (k 0)] [2])
 (.seq (.seq (.ops [mv 4 (t 0),
 ca 5 F.wal_Log_ready [(t 4)],
 mv 3 (t 5)] [4, 5])
 (.seq (.ops [mv 6 (t 3),
 o 7 (.ibin .neq (t 6) (k 0))] [6])
 (.cond (t 7)
  (.seq (.ops [mv 8 (t 3),
  mv 2 (t 8)] [3, 8])
  (.ret))
  (.skip))))
 (.seq (.seq (.ops [mv 9 (t 0),
 o 10 (.nilck (t 9)),
 fa 11 0 (t 10),
 l1 12 (t 11),
 ca 13 F.disk_Disk_Down [(t 12)]] [9, 10, 11, 12])
 (.cond (t 13)
  (.seq (.ops [mv 14 (t 0),
  ca 15 F.wal_Log_told [(t 14), (k 9)],
  mv 2 (t 15)] [0, 14, 15])
  (.ret))
  (.skip)))
 (.seq (.seq (.draw (.take (mv 16 (t 0)) (.take (mv 17 (t 0)) (.take (o 18 (.nilck (t 17))) (.take (fa 19 2 (t 18)) (.take (l1 20 (t 19)) (.take (mv 22 (t 0)) (.take (o 23 (.nilck (t 22))) (.take (fa 24 0 (t 23)) (.take (l1 25 (t 24)) (.take (mv 26 (t 0)) (.take (o 27 (.nilck (t 26))) (.take (fa 28 2 (t 27)) (.take (l1 29 (t 28)) (.alt (ca 21 F.wal_Log_length [(t 16), (t 20)]) true
  (.alt (ca 30 F.wal_Name [(t 29)]) true
   (.alt (ca 31 F.disk_Disk_Safe [(t 25), (t 30)]) false
    (.take (o 32 (.ibin .eql (t 21) (t 31))) (.done))
    (.none))
   (.none))
  (.none))))))))))))))) [16, 17, 18, 19, 20, 21, 22, 23, 24, 25, 26, 27, 28, 29, 30, 31])
 (.cond (t 32)
  (.seq (.ops [mv 2 (k 0)] [])
  (.ret))
  (.skip)))
 (.seq (.draw (.take (mv 33 (t 0)) (.take (mv 34 (t 0)) (.take (o 35 (.nilck (t 34))) (.take (fa 36 0 (t 35)) (.take (l1 37 (t 36)) (.take (mv 38 (t 0)) (.take (o 39 (.nilck (t 38))) (.take (fa 40 2 (t 39)) (.take (l1 41 (t 40)) (.alt (ca 42 F.wal_Name [(t 41)]) true
  (.alt (ca 43 F.disk_Disk_Sync [(t 37), (t 42)]) false
   (.alt (ca 44 F.wal_Log_told [(t 33), (t 43)]) false
    (.take (mv 2 (t 44)) (.done))
    (.none))
   (.none))
  (.none))))))))))) [0, 33, 34, 35, 36, 37, 38, 39, 40, 41, 42, 43, 44])
 (.ret)))))
def r_wal_Log_Sync : List RRes := [.tmp 2]
theorem fo_wal_Log_Sync {args : List Value} {M : Mem} {R : Value → Mem → Prop} (hn : args.length ≤ 45) (h : vfn Try.prog c_wal_Log_Sync r_wal_Log_Sync args M R) : CallsM Try.prog F.wal_Log_Sync args M R :=
  fn_ok (kf := k_wal_Log_Sync) Try.func13 (by kernel_rfl) (by kernel_rfl) hn (by kernel_rfl) h
/-- (*portage/wal.Log).Begin -/
def k_wal_Log_Begin (i : Nat) : List Nat := match i with | 0 => [2, 3] | 1 => [5, 6] | 2 => [7] | 3 => [4, 9] | 4 => [10, 11, 12, 13, 14, 15] | 5 => [0, 17, 18, 19, 20] | 6 => [21, 22, 23, 24] | 8 => [26, 27, 28, 29, 30, 31, 32] | 9 => [0, 33, 34, 35, 36] | _ => []
def c_wal_Log_Begin : RCode :=
 .seq (.ops [mv 2 (k 0),
 mv 3 (k 0)] [2, 3])
 (.seq (.seq (.ops [mv 5 (t 0),
 ca 6 F.wal_Log_Sync [(t 5)],
 mv 4 (t 6)] [5, 6])
 (.seq (.ops [mv 7 (t 4),
 o 8 (.ibin .neq (t 7) (k 0))] [7])
 (.cond (t 8)
  (.seq (.ops [mv 9 (t 4),
  mv 2 (k 0),
  mv 3 (t 9)] [4, 9])
  (.ret))
  (.skip))))
 (.seq (.seq (.ops [mv 10 (t 0),
 mv 11 (t 0),
 o 12 (.nilck (t 11)),
 fa 13 2 (t 12),
 l1 14 (t 13),
 ca 15 F.wal_Log_length [(t 10), (t 14)],
 o 16 (.ibin .eql (t 15) (k 0))] [10, 11, 12, 13, 14, 15])
 (.cond (t 16)
  (.seq (.ops [mv 17 (t 0),
  o 18 (.nilck (t 17)),
  fa 19 2 (t 18),
  l1 20 (t 19),
  mv 2 (t 20),
  mv 3 (k 0)] [0, 17, 18, 19, 20])
  (.ret))
  (.skip)))
 (.seq (.seq (.ops [mv 21 (t 0),
 o 22 (.nilck (t 21)),
 fa 23 2 (t 22),
 l1 24 (t 23),
 o 25 (.ibin .eql (t 24) (k 99999))] [21, 22, 23, 24])
 (.cond (t 25)
  (.seq (.ops [mv 2 (k 0),
  mv 3 (k 1)] [])
  (.ret))
  (.skip)))
 (.seq (.ops [mv 26 (t 0),
 o 27 (.nilck (t 26)),
 fa 28 2 (t 27),
 l1 29 (t 28),
 ad 30 (t 29) (k 1),
 o 31 (.nilck (t 26)),
 fa 32 2 (t 31),
 st 1 (t 32) (t 30)] [26, 27, 28, 29, 30, 31, 32])
 (.seq (.ops [mv 33 (t 0),
 o 34 (.nilck (t 33)),
 fa 35 2 (t 34),
 l1 36 (t 35),
 mv 2 (t 36),
 mv 3 (k 0)] [0, 33, 34, 35, 36])
 (.ret))))))
def r_wal_Log_Begin : List RRes := [.tmp 2, .tmp 3]
theorem fo_wal_Log_Begin {args : List Value} {M : Mem} {R : Value → Mem → Prop} (hn : args.length ≤ 37) (h : vfn Try.prog c_wal_Log_Begin r_wal_Log_Begin args M R) : CallsM Try.prog F.wal_Log_Begin args M R :=
  fn_ok (kf := k_wal_Log_Begin) Try.func14 (by kernel_rfl) (by kernel_rfl) hn (by kernel_rfl) h
/-- (*portage/disk.Disk).Arm -/
def k_disk_Disk_Arm (i : Nat) : List Nat := match i with | 0 => [4] | 1 => [6, 7] | 2 => [8] | 3 => [5, 10] | 4 => [0, 1, 11, 12, 13, 14, 15, 16, 17, 18, 19, 20] | _ => []
def c_disk_Disk_Arm : RCode :=
 .seq (.ops [mv 4 (k 0)] [4])
 (.seq (.seq (.ops [mv 6 (t 0),
 ca 7 F.disk_Disk_ready [(t 6), (.const sn)],
 mv 5 (t 7)] [6, 7])
 (.seq (.ops [mv 8 (t 5),
 o 9 (.ibin .neq (t 8) (k 0))] [8])
 (.cond (t 9)
  (.seq (.ops [mv 10 (t 5),
  mv 4 (t 10)] [5, 10])
  (.ret))
  (.skip))))
 (.seq (.ops [mv 11 (t 0),
 mv 12 (t 0),
 mv 13 (t 1),
 o 14 (.imm true (t 13) (k (-1))),
 mv 15 (t 1),
 o 16 (.ibin .eql (t 15) (k 0)),
 o 17 (.nilck (t 11)),
 fa 18 2 (t 17),
 st 1 (t 18) (t 14),
 o 19 (.nilck (t 12)),
 fa 20 3 (t 19),
 st 1 (t 20) (t 16)] [0, 1, 11, 12, 13, 14, 15, 16, 17, 18, 19, 20])
 (.seq (.ops [mv 4 (k 0)] [])
 (.ret))))
def r_disk_Disk_Arm : List RRes := [.tmp 4]
theorem fo_disk_Disk_Arm {args : List Value} {M : Mem} {R : Value → Mem → Prop} (hn : args.length ≤ 21) (h : vfn Try.prog c_disk_Disk_Arm r_disk_Disk_Arm args M R) : CallsM Try.prog F.disk_Disk_Arm args M R :=
  fn_ok (kf := k_disk_Disk_Arm) Try.func15 (by kernel_rfl) (by kernel_rfl) hn (by kernel_rfl) h
/-- (*portage/disk.Disk).Crash -/
def k_disk_Disk_Crash (i : Nat) : List Nat := match i with | 0 => [4] | 1 => [9] | 3 => [11] | 5 => [16, 17, 18] | 6 => [6, 19, 20, 21, 22, 23, 24] | 8 => [25, 26, 27] | 9 => [5, 29, 30, 31, 32, 33, 34, 35, 36, 37, 38, 39, 40, 41, 42, 43, 44] | 10 => [8, 45, 46, 47, 48, 49, 50, 51, 52] | 11 => [7, 53, 54, 55, 56, 57, 58, 59, 60, 61, 62, 63, 64] | 12 => [65] | 13 => [0, 66, 67, 68, 69, 70, 71] | _ => []
def c_disk_Disk_Crash : RCode :=
 .seq (.ops [mv 4 (k 0)] [4])
 (.seq (.seq (.ops [mv 9 (t 0),
 o 10 (.pnil .eql (t 9) (.const (.pointer none)))] [9])
 (.cond (t 10)
  (.seq (.ops [mv 4 (k 7)] [])
  (.ret))
  (.skip)))
 (.seq (.seq (.ops [mv 11 (t 0),
 ca 12 F.disk_Disk_Names [(t 11)],
 o 13 (.len (t 12)),
 mv 14 (k 0)] [11])
 (.block 0 (.loop (.seq (.ops [o 15 (.ibin .lss (t 14) (t 13))] [])
  (.seq (.cond (t 15)
   (.skip)
   (.exit 0))
  (.seq (.block 1 (.seq (.ops [mv 16 (t 14),
  o 17 (.iaddr 1 (t 12) (t 14)),
  l1 18 (t 17),
  mv 5 (t 16),
  mv 6 (t 18)] [16, 17, 18])
  (.seq (.ops [mv 19 (t 0),
  o 20 (.nilck (t 19)),
  fa 21 1 (t 20),
  l1 22 (t 21),
  mv 23 (t 6),
  o 24 (.mget .str false (.pointer none) (t 22) (t 23)),
  mv 7 (t 24)] [6, 19, 20, 21, 22, 23, 24])
  (.seq (.ops [mv 8 (k 0)] [])
  (.seq (.seq (.ops [mv 25 (t 5),
  mv 26 (t 1),
  o 27 (.len (t 26)),
  o 28 (.ibin .lss (t 25) (t 27))] [25, 26, 27])
  (.cond (t 28)
   (.draw (.take (mv 29 (t 1)) (.take (mv 30 (t 5)) (.take (o 31 (.iaddr 1 (t 29) (t 30))) (.take (l1 32 (t 31)) (.take (mv 33 (t 7)) (.take (o 34 (.nilck (t 33))) (.take (fa 35 0 (t 34)) (.take (l1 36 (t 35)) (.take (o 37 (.len (t 36))) (.take (mv 38 (t 7)) (.take (o 39 (.nilck (t 38))) (.take (fa 40 1 (t 39)) (.take (l1 41 (t 40)) (.take (o 42 (.ibin .sub (t 37) (t 41))) (.take (o 43 (.imm false (t 32) (t 42))) (.take (o 44 (.imm true (k 0) (t 43))) (.take (mv 8 (t 44)) (.done)))))))))))))))))) [5, 29, 30, 31, 32, 33, 34, 35, 36, 37, 38, 39, 40, 41, 42, 43, 44])
   (.skip)))
  (.seq (.ops [mv 45 (t 7),
  o 46 (.nilck (t 45)),
  fa 47 1 (t 46),
  l1 48 (t 47),
  mv 49 (t 8),
  ad 50 (t 48) (t 49),
  o 51 (.nilck (t 45)),
  fa 52 1 (t 51),
  st 1 (t 52) (t 50)] [8, 45, 46, 47, 48, 49, 50, 51, 52])
  (.draw (.take (mv 53 (t 7)) (.take (mv 54 (t 7)) (.take (o 55 (.nilck (t 54))) (.take (fa 56 0 (t 55)) (.take (l1 57 (t 56)) (.take (mv 58 (t 7)) (.take (o 59 (.nilck (t 58))) (.take (fa 60 1 (t 59)) (.take (l1 61 (t 60)) (.take (o 62 (.slx 1 (t 57) none (some (t 61)))) (.take (o 63 (.nilck (t 53))) (.take (fa 64 0 (t 63)) (.alt (st 1 (t 64) (t 62)) false
   (.done)
   (.none)))))))))))))) [7, 53, 54, 55, 56, 57, 58, 59, 60, 61, 62, 63, 64])))))))
  (.ops [ad 65 (t 14) (k 1),
  mv 14 (t 65)] [65])))))))
 (.seq (.ops [mv 66 (t 0),
 mv 67 (t 0),
 o 68 (.nilck (t 66)),
 fa 69 3 (t 68),
 st 1 (t 69) (kb false),
 o 70 (.nilck (t 67)),
 fa 71 2 (t 70),
 st 1 (t 71) (k (-1))] [0, 66, 67, 68, 69, 70, 71])
 (.seq (.ops [mv 4 (k 0)] [])
 (.ret)))))
def r_disk_Disk_Crash : List RRes := [.tmp 4]
theorem fo_disk_Disk_Crash {args : List Value} {M : Mem} {R : Value → Mem → Prop} (hn : args.length ≤ 72) (h : vfn Try.prog c_disk_Disk_Crash r_disk_Disk_Crash args M R) : CallsM Try.prog F.disk_Disk_Crash args M R :=
  fn_ok (kf := k_disk_Disk_Crash) Try.func16 (by kernel_rfl) (by kernel_rfl) hn (by kernel_rfl) h
/-- portage/wal.Open -/
def k_wal_Open (i : Nat) : List Nat := match i with | 0 => [6, 7, 8] | 1 => [13, 14] | 3 => [16, 17, 18, 19, 20, 21, 22, 23, 24, 25, 26, 27, 28, 29] | 5 => [31, 32] | 7 => [0, 1, 2, 33, 34, 35, 36, 37, 38] | 8 => [39, 40, 41, 42, 43] | 9 => [44] | 10 => [11, 46] | 11 => [9, 10, 47, 48] | _ => []
def c_wal_Open : RCode :=
 .seq (.ops [mv 6 (.const (.pointer none)),
 mv 7 (.const sn),
 mv 8 (k 0)] [6, 7, 8])
 (.seq (.block 0 (.seq (.ops [mv 13 (t 0),
 o 14 (.pnil .eql (t 13) (.const (.pointer none))),
 mv 12 (t 14)] [13, 14])
 (.cond (t 12)
  (.seq (.ops [mv 6 (.const (.pointer none)),
  mv 7 (.const sn),
  mv 8 (k 7)] [])
  (.ret))
  (.seq (.ops [mv 16 (t 1),
  o 17 (.ibin .lss (t 16) (k 1)),
  os 18 (.mov (t 17)),
  gf 18 19 (.mov (t 1)),
  gf 18 20 (.ibin .gtr (t 19) (k 99999)),
  o 21 (.pick (t 18) (kb true) (t 20)),
  os 22 (.mov (t 21)),
  gf 22 23 (.mov (t 2)),
  gf 22 24 (.ibin .lss (t 23) (k 16)),
  o 25 (.pick (t 22) (kb true) (t 24)),
  os 26 (.mov (t 25)),
  gf 26 27 (.mov (t 2)),
  gf 26 28 (.ibin .gtr (t 27) (k 1048576)),
  o 29 (.pick (t 26) (kb true) (t 28)),
  mv 15 (t 29)] [16, 17, 18, 19, 20, 21, 22, 23, 24, 25, 26, 27, 28, 29])
  (.cond (t 15)
   (.seq (.ops [mv 6 (.const (.pointer none)),
   mv 7 (.const sn),
   mv 8 (k 1)] [])
   (.ret))
   (.seq (.ops [mv 31 (t 0),
   ca 32 F.disk_Disk_Down [(t 31)],
   mv 30 (t 32)] [31, 32])
   (.cond (t 30)
    (.seq (.ops [mv 6 (.const (.pointer none)),
    mv 7 (.const sn),
    mv 8 (k 9)] [])
    (.ret))
    (.skip))))))))
 (.seq (.ops [mv 33 (t 0),
 mv 34 (t 1),
 mv 35 (t 1),
 mv 36 (t 2),
 o 37 (.build [(.pointer none), (i 0), (i 0), (i 0), (.bool false)] [(0, 1, (t 33)), (1, 1, (t 34)), (2, 1, (t 35)), (3, 1, (t 36))]),
 o 38 (.box 60 (t 37)),
 mv 9 (t 38)] [0, 1, 2, 33, 34, 35, 36, 37, 38])
 (.seq (.ops [mv 40 (t 9),
 ca 41 F.wal_Log_open [(t 40)],
 mv 39 (t 41),
 ex 42 (t 39) 0,
 ex 43 (t 39) 1,
 mv 10 (t 42),
 mv 11 (t 43)] [39, 40, 41, 42, 43])
 (.seq (.seq (.ops [mv 44 (t 11),
 o 45 (.ibin .neq (t 44) (k 0))] [44])
 (.cond (t 45)
  (.seq (.ops [mv 46 (t 11),
  mv 6 (.const (.pointer none)),
  mv 7 (.const sn),
  mv 8 (t 46)] [11, 46])
  (.ret))
  (.skip)))
 (.seq (.ops [mv 47 (t 9),
 mv 48 (t 10),
 mv 6 (t 47),
 mv 7 (t 48),
 mv 8 (k 0)] [9, 10, 47, 48])
 (.ret))))))
def r_wal_Open : List RRes := [.tmp 6, .tmp 7, .tmp 8]
theorem fo_wal_Open {args : List Value} {M : Mem} {R : Value → Mem → Prop} (hn : args.length ≤ 49) (h : vfn Try.prog c_wal_Open r_wal_Open args M R) : CallsM Try.prog F.wal_Open args M R :=
  fn_ok (kf := k_wal_Open) Try.func17 (by kernel_rfl) (by kernel_rfl) hn (by kernel_rfl) h
/-- portage/portageref03.Same -/
def k_ref03_Same (i : Nat) : List Nat := match i with | 0 => [4] | 1 => [6, 7, 8, 9] | 4 => [11, 12, 13] | 6 => [17, 18, 19, 20, 21, 22, 23, 24, 25, 26] | 5 => [15, 16] | _ => []
def c_ref03_Same : RCode :=
 .seq (.ops [mv 4 (kb false)] [4])
 (.seq (.seq (.ops [mv 6 (t 0),
 o 7 (.len (t 6)),
 mv 8 (t 1),
 o 9 (.len (t 8)),
 o 10 (.ibin .neq (t 7) (t 9))] [6, 7, 8, 9])
 (.cond (t 10)
  (.seq (.ops [mv 4 (kb false)] [])
  (.ret))
  (.skip)))
 (.seq (.seq (.ops [mv 5 (k 0)] [])
 (.block 0 (.loop (.seq (.seq (.ops [mv 11 (t 5),
  mv 12 (t 0),
  o 13 (.len (t 12)),
  o 14 (.ibin .lss (t 11) (t 13))] [11, 12, 13])
  (.cond (t 14)
   (.skip)
   (.exit 0)))
  (.seq (.block 1 (.seq (.draw (.take (mv 17 (t 0)) (.take (mv 18 (t 5)) (.take (o 19 (.iaddr 1 (t 17) (t 18))) (.take (l1 20 (t 19)) (.take (o 21 (.strOf (t 20))) (.take (mv 22 (t 1)) (.take (mv 23 (t 5)) (.take (o 24 (.iaddr 1 (t 22) (t 23))) (.take (l1 25 (t 24)) (.take (o 26 (.strOf (t 25))) (.take (o 27 (.strE .neq (t 21) (t 26))) (.done)))))))))))) [17, 18, 19, 20, 21, 22, 23, 24, 25, 26])
  (.cond (t 27)
   (.seq (.ops [mv 4 (kb false)] [])
   (.ret))
   (.skip))))
  (.ops [mv 15 (t 5),
  ad 16 (t 15) (k 1),
  mv 5 (t 16)] [15, 16]))))))
 (.seq (.ops [mv 4 (kb true)] [])
 (.ret))))
def r_ref03_Same : List RRes := [.tmp 4]
theorem fo_ref03_Same {args : List Value} {M : Mem} {R : Value → Mem → Prop} (hn : args.length ≤ 28) (h : vfn Try.prog c_ref03_Same r_ref03_Same args M R) : CallsM Try.prog F.ref03_Same args M R :=
  fn_ok (kf := k_ref03_Same) Try.func18 (by kernel_rfl) (by kernel_rfl) hn (by kernel_rfl) h
/-- (*portage/disk.Disk).Append -/
def k_disk_Disk_Append (i : Nat) : List Nat := match i with | 0 => [6] | 1 => [9, 10, 11, 12] | 2 => [13] | 3 => [7, 15] | 4 => [16, 17, 18, 19, 20, 21] | 5 => [22, 23, 24, 25, 26, 27, 28, 29, 30, 31, 32, 33, 34, 35, 36, 37, 38, 39, 40, 41, 42] | 7 => [44] | 8 => [46, 47] | 9 => [1, 48, 49, 50, 51, 52, 53] | 10 => [2, 8, 54, 55, 56, 57, 58, 59, 60, 61, 62] | 11 => [0, 63, 64] | _ => []
def c_disk_Disk_Append : RCode :=
 .seq (.ops [mv 6 (k 0)] [6])
 (.seq (.seq (.ops [mv 9 (t 0),
 mv 10 (t 1),
 o 11 (.mkSl false 9 1 [(.string ByteArray.empty)] [(0, 1, (t 10))]),
 ca 12 F.disk_Disk_ready [(t 9), (t 11)],
 mv 7 (t 12)] [9, 10, 11, 12])
 (.seq (.ops [mv 13 (t 7),
 o 14 (.ibin .neq (t 13) (k 0))] [13])
 (.cond (t 14)
  (.seq (.ops [mv 15 (t 7),
  mv 6 (t 15)] [7, 15])
  (.ret))
  (.skip))))
 (.seq (.ops [mv 16 (t 0),
 o 17 (.nilck (t 16)),
 fa 18 1 (t 17),
 l1 19 (t 18),
 mv 20 (t 1),
 o 21 (.mget .str false (.pointer none) (t 19) (t 20)),
 mv 8 (t 21)] [16, 17, 18, 19, 20, 21])
 (.seq (.seq (.draw (.take (mv 22 (t 2)) (.take (o 23 (.len (t 22))) (.take (mv 24 (t 0)) (.take (o 25 (.nilck (t 24))) (.take (fa 26 0 (t 25)) (.take (l1 27 (t 26)) (.take (mv 28 (t 0)) (.alt (ca 29 F.disk_Disk_Used [(t 28)]) true
  (.take (o 30 (.ibin .sub (t 27) (t 29))) (.take (o 31 (.ibin .gtr (t 23) (t 30))) (.take (os 32 (.mov (t 31))) (.take (gf 32 33 (.mov (t 8))) (.take (gf 32 34 (.pnil .eql (t 33) (.const (.pointer none)))) (.take (⟨(some 35), .mov (t 34), some (32, false), true⟩) (.take (gt 35 36 (.mov (t 0))) (.take (gt 35 37 (.nilck (t 36))) (.take (gt 35 38 (.faddr 1 (t 37))) (.take (gt 35 39 (.load false 1 (t 38))) (.take (gt 35 40 (.mlen (t 39))) (.take (gt 35 41 (.ibin .geq (t 40) (k 64))) (.take (gf 32 42 (.pick (t 35) (t 41) (kb false))) (.take (o 43 (.pick (t 32) (kb true) (t 42))) (.done)))))))))))))))
  (.none))))))))) [22, 23, 24, 25, 26, 27, 28, 29, 30, 31, 32, 33, 34, 35, 36, 37, 38, 39, 40, 41, 42])
 (.cond (t 43)
  (.seq (.ops [mv 6 (k 6)] [])
  (.ret))
  (.skip)))
 (.seq (.seq (.ops [mv 44 (t 8),
 o 45 (.pnil .eql (t 44) (.const (.pointer none)))] [44])
 (.cond (t 45)
  (.seq (.ops [o 46 (.build [sn, (i 0)] []),
  o 47 (.box 70 (t 46)),
  mv 8 (t 47)] [46, 47])
  (.ops [mv 48 (t 0),
  o 49 (.nilck (t 48)),
  fa 50 1 (t 49),
  l1 51 (t 50),
  mv 52 (t 1),
  mv 53 (t 8),
  e (.mset .str (t 51) (t 52) (t 53))] [1, 48, 49, 50, 51, 52, 53]))
  (.skip)))
 (.seq (.ops [mv 54 (t 8),
 mv 55 (t 8),
 o 56 (.nilck (t 55)),
 fa 57 0 (t 56),
 l1 58 (t 57),
 mv 59 (t 2),
 o 60 (.app 5 1 1 [(u 0)] (t 58) (t 59)),
 o 61 (.nilck (t 54)),
 fa 62 0 (t 61),
 st 1 (t 62) (t 60)] [2, 8, 54, 55, 56, 57, 58, 59, 60, 61, 62])
 (.seq (.ops [mv 63 (t 0),
 ca 64 F.disk_Disk_changed [(t 63)],
 mv 6 (t 64)] [0, 63, 64])
 (.ret)))))))
def r_disk_Disk_Append : List RRes := [.tmp 6]
theorem fo_disk_Disk_Append {args : List Value} {M : Mem} {R : Value → Mem → Prop} (hn : args.length ≤ 65) (h : vfn Try.prog c_disk_Disk_Append r_disk_Disk_Append args M R) : CallsM Try.prog F.disk_Disk_Append args M R :=
  fn_ok (kf := k_disk_Disk_Append) Try.func19 (by kernel_rfl) (by kernel_rfl) hn (by kernel_rfl) h
/-- (*portage/disk.Disk).Remove -/
def k_disk_Disk_Remove (i : Nat) : List Nat := match i with | 0 => [4] | 1 => [5, 7, 8, 9, 10, 11, 12] | 2 => [13] | 3 => [6, 15] | 4 => [1, 16, 17, 18, 19, 20] | 5 => [0, 21, 22] | _ => []
def c_disk_Disk_Remove : RCode :=
 .seq (.ops [mv 4 (k 0)] [4])
 (.seq (.seq (.ops [mv 8 (t 0),
 mv 9 (t 1),
 ca 10 F.disk_Disk_there [(t 8), (t 9)],
 mv 7 (t 10),
 ex 11 (t 7) 0,
 ex 12 (t 7) 1,
 mv 5 (t 11),
 mv 6 (t 12)] [5, 7, 8, 9, 10, 11, 12])
 (.seq (.ops [mv 13 (t 6),
 o 14 (.ibin .neq (t 13) (k 0))] [13])
 (.cond (t 14)
  (.seq (.ops [mv 15 (t 6),
  mv 4 (t 15)] [6, 15])
  (.ret))
  (.skip))))
 (.seq (.ops [mv 16 (t 0),
 o 17 (.nilck (t 16)),
 fa 18 1 (t 17),
 l1 19 (t 18),
 mv 20 (t 1),
 e (.mdel .str (t 19) (t 20))] [1, 16, 17, 18, 19, 20])
 (.seq (.ops [mv 21 (t 0),
 ca 22 F.disk_Disk_changed [(t 21)],
 mv 4 (t 22)] [0, 21, 22])
 (.ret))))
def r_disk_Disk_Remove : List RRes := [.tmp 4]
theorem fo_disk_Disk_Remove {args : List Value} {M : Mem} {R : Value → Mem → Prop} (hn : args.length ≤ 23) (h : vfn Try.prog c_disk_Disk_Remove r_disk_Disk_Remove args M R) : CallsM Try.prog F.disk_Disk_Remove args M R :=
  fn_ok (kf := k_disk_Disk_Remove) Try.func20 (by kernel_rfl) (by kernel_rfl) hn (by kernel_rfl) h
/-- (*portage/disk.Disk).Fork -/
def k_disk_Disk_Fork (i : Nat) : List Nat := match i with | 0 => [2] | 1 => [6] | 3 => [8, 9, 10, 11, 12, 13, 14, 15, 16, 17, 18, 19, 20, 21, 22] | 4 => [0, 23, 24, 25, 26] | 5 => [28] | 6 => [30, 31, 32] | 7 => [4, 5, 33, 34, 35, 36, 37, 38, 39, 40, 41, 42, 43, 44, 45, 46, 47, 48, 49] | 8 => [3, 50] | _ => []
def c_disk_Disk_Fork : RCode :=
 .seq (.ops [mv 2 (.const (.pointer none))] [2])
 (.seq (.seq (.ops [mv 6 (t 0),
 o 7 (.pnil .eql (t 6) (.const (.pointer none)))] [6])
 (.cond (t 7)
  (.seq (.ops [mv 2 (.const (.pointer none))] [])
  (.ret))
  (.skip)))
 (.seq (.draw (.take (mv 8 (t 0)) (.take (o 9 (.nilck (t 8))) (.take (fa 10 0 (t 9)) (.take (l1 11 (t 10)) (.take (mv 13 (t 0)) (.take (o 14 (.nilck (t 13))) (.take (fa 15 2 (t 14)) (.take (l1 16 (t 15)) (.take (mv 17 (t 0)) (.take (o 18 (.nilck (t 17))) (.take (fa 19 3 (t 18)) (.take (l1 20 (t 19)) (.alt (o 12 (.mkMap)) true
  (.take (o 21 (.build [(i 0), (.map none), (i 0), (.bool false)] [(0, 1, (t 11)), (1, 1, (t 12)), (2, 1, (t 16)), (3, 1, (t 20))])) (.alt (o 22 (.box 67 (t 21))) false
   (.take (mv 3 (t 22)) (.done))
   (.none)))
  (.none)))))))))))))) [8, 9, 10, 11, 12, 13, 14, 15, 16, 17, 18, 19, 20, 21, 22])
 (.seq (.seq (.ops [mv 23 (t 0),
 o 24 (.nilck (t 23)),
 fa 25 1 (t 24),
 l1 26 (t 25),
 o 27 (.mrange (t 26))] [0, 23, 24, 25, 26])
 (.block 0 (.loop (.seq (.ops [o 28 (.mnext (t 27)),
  ex 29 (t 28) 0] [28])
  (.seq (.cond (t 29)
   (.skip)
   (.exit 0))
  (.block 1 (.seq (.ops [o 30 (.mentry (t 27)),
  ex 31 (t 30) 0,
  ex 32 (t 30) 1,
  mv 4 (t 31),
  mv 5 (t 32)] [30, 31, 32])
  (.draw (.take (mv 33 (t 3)) (.take (o 34 (.nilck (t 33))) (.take (fa 35 1 (t 34)) (.take (l1 36 (t 35)) (.take (mv 37 (t 4)) (.take (mv 39 (t 5)) (.take (o 40 (.nilck (t 39))) (.take (fa 41 0 (t 40)) (.take (l1 42 (t 41)) (.take (mv 44 (t 5)) (.take (o 45 (.nilck (t 44))) (.take (fa 46 1 (t 45)) (.take (l1 47 (t 46)) (.alt (o 38 (.mkSl false 5 0 [] [])) false
   (.alt (o 43 (.app 5 1 1 [(u 0)] (t 38) (t 42))) true
    (.take (o 48 (.build [sn, (i 0)] [(0, 1, (t 43)), (1, 1, (t 47))])) (.alt (o 49 (.box 70 (t 48))) false
     (.alt (e (.mset .str (t 36) (t 37) (t 49))) false
      (.done)
      (.none))
     (.none)))
    (.none))
   (.none))))))))))))))) [4, 5, 33, 34, 35, 36, 37, 38, 39, 40, 41, 42, 43, 44, 45, 46, 47, 48, 49]))))))))
 (.seq (.ops [mv 50 (t 3),
 mv 2 (t 50)] [3, 50])
 (.ret)))))
def r_disk_Disk_Fork : List RRes := [.tmp 2]
theorem fo_disk_Disk_Fork {args : List Value} {M : Mem} {R : Value → Mem → Prop} (hn : args.length ≤ 51) (h : vfn Try.prog c_disk_Disk_Fork r_disk_Disk_Fork args M R) : CallsM Try.prog F.disk_Disk_Fork args M R :=
  fn_ok (kf := k_disk_Disk_Fork) Try.func21 (by kernel_rfl) (by kernel_rfl) hn (by kernel_rfl) h
/-- (*portage/wal.Log).Last -/
def k_wal_Log_Last (i : Nat) : List Nat := match i with | 0 => [2] | 1 => [3] | 3 => [0, 5, 6, 7, 8] | _ => []
def c_wal_Log_Last : RCode :=
 .seq (.ops [mv 2 (k 0)] [2])
 (.seq (.seq (.ops [mv 3 (t 0),
 o 4 (.pnil .eql (t 3) (.const (.pointer none)))] [3])
 (.cond (t 4)
  (.seq (.ops [mv 2 (k 0)] [])
  (.ret))
  (.skip)))
 (.seq (.ops [mv 5 (t 0),
 o 6 (.nilck (t 5)),
 fa 7 2 (t 6),
 l1 8 (t 7),
 mv 2 (t 8)] [0, 5, 6, 7, 8])
 (.ret)))
def r_wal_Log_Last : List RRes := [.tmp 2]
theorem fo_wal_Log_Last {args : List Value} {M : Mem} {R : Value → Mem → Prop} (hn : args.length ≤ 9) (h : vfn Try.prog c_wal_Log_Last r_wal_Log_Last args M R) : CallsM Try.prog F.wal_Log_Last args M R :=
  fn_ok (kf := k_wal_Log_Last) Try.func22 (by kernel_rfl) (by kernel_rfl) hn (by kernel_rfl) h
/-- (*portage/wal.Log).Size -/
def k_wal_Log_Size (i : Nat) : List Nat := match i with | 0 => [0, 2] | 1 => [8] | 4 => [10, 11] | 6 => [16, 17] | 7 => [5, 7, 18, 19, 20, 21, 22, 23, 24, 25, 26, 27] | 8 => [6, 28, 29, 30, 31] | 9 => [32] | 10 => [3, 33] | _ => []
def c_wal_Log_Size : RCode :=
 .seq (.ops [o 1 (.box 28 (t 0)),
 mv 2 (k 0)] [0, 2])
 (.seq (.seq (.ops [l1 8 (t 1),
 o 9 (.pnil .eql (t 8) (.const (.pointer none)))] [8])
 (.cond (t 9)
  (.seq (.ops [mv 2 (k 0)] [])
  (.ret))
  (.skip)))
 (.seq (.ops [mv 3 (k 0)] [])
 (.seq (.seq (.ops [l1 10 (t 1),
 o 11 (.mkfn F.wal_Log_Size_1 [(t 1)]),
 ca 12 F.wal_Log_segments [(t 10), (t 11)],
 o 13 (.len (t 12)),
 mv 14 (k 0)] [10, 11])
 (.block 0 (.loop (.seq (.ops [o 15 (.ibin .lss (t 14) (t 13))] [])
  (.seq (.cond (t 15)
   (.skip)
   (.exit 0))
  (.seq (.block 1 (.seq (.ops [o 16 (.iaddr 1 (t 12) (t 14)),
  l1 17 (t 16),
  mv 5 (t 17)] [16, 17])
  (.seq (.draw (.take (l1 19 (t 1)) (.take (o 20 (.nilck (t 19))) (.take (fa 21 0 (t 20)) (.take (l1 22 (t 21)) (.take (mv 23 (t 5)) (.alt (ca 24 F.wal_Name [(t 23)]) true
   (.alt (ca 25 F.disk_Disk_Read [(t 22), (t 24)]) false
    (.take (mv 18 (t 25)) (.take (ex 26 (t 18) 0) (.take (ex 27 (t 18) 1) (.take (mv 6 (t 26)) (.take (mv 7 (t 27)) (.done))))))
    (.none))
   (.none))))))) [5, 7, 18, 19, 20, 21, 22, 23, 24, 25, 26, 27])
  (.ops [mv 28 (t 3),
  mv 29 (t 6),
  o 30 (.len (t 29)),
  ad 31 (t 28) (t 30),
  mv 3 (t 31)] [6, 28, 29, 30, 31]))))
  (.ops [ad 32 (t 14) (k 1),
  mv 14 (t 32)] [32])))))))
 (.seq (.ops [mv 33 (t 3),
 mv 2 (t 33)] [3, 33])
 (.ret)))))
def r_wal_Log_Size : List RRes := [.tmp 2]
theorem fo_wal_Log_Size {args : List Value} {M : Mem} {R : Value → Mem → Prop} (hn : args.length ≤ 34) (h : vfn Try.prog c_wal_Log_Size r_wal_Log_Size args M R) : CallsM Try.prog F.wal_Log_Size args M R :=
  fn_ok (kf := k_wal_Log_Size) Try.func23 (by kernel_rfl) (by kernel_rfl) hn (by kernel_rfl) h
/-- (*portage/disk.Disk).Names -/
def k_disk_Disk_Names (i : Nat) : List Nat := match i with | 0 => [2] | 1 => [5] | 4 => [0, 7, 8, 9, 10] | 5 => [12] | 6 => [14, 15] | 7 => [4, 16, 17, 18, 19] | 8 => [20, 21] | 9 => [3, 22] | _ => []
def c_disk_Disk_Names : RCode :=
 .seq (.ops [mv 2 (.const sn)] [2])
 (.seq (.seq (.ops [mv 5 (t 0),
 o 6 (.pnil .eql (t 5) (.const (.pointer none)))] [5])
 (.cond (t 6)
  (.seq (.ops [mv 2 (.const sn)] [])
  (.ret))
  (.skip)))
 (.seq (.ops [mv 3 (.const sn)] [])
 (.seq (.seq (.ops [mv 7 (t 0),
 o 8 (.nilck (t 7)),
 fa 9 1 (t 8),
 l1 10 (t 9),
 o 11 (.mrange (t 10))] [0, 7, 8, 9, 10])
 (.block 0 (.loop (.seq (.ops [o 12 (.mnext (t 11)),
  ex 13 (t 12) 0] [12])
  (.seq (.cond (t 13)
   (.skip)
   (.exit 0))
  (.block 1 (.seq (.ops [o 14 (.mentry (t 11)),
  ex 15 (t 14) 0,
  mv 4 (t 15)] [14, 15])
  (.ops [mv 16 (t 3),
  mv 17 (t 4),
  o 18 (.mkSl true 9 1 [(.string ByteArray.empty)] [(0, 1, (t 17))]),
  o 19 (.app 9 1 16 [(.string ByteArray.empty)] (t 16) (t 18)),
  mv 3 (t 19)] [4, 16, 17, 18, 19]))))))))
 (.seq (.ops [mv 20 (t 3),
 ca 21 F.slices_Sort_string_string [(t 20)]] [20, 21])
 (.seq (.ops [mv 22 (t 3),
 mv 2 (t 22)] [3, 22])
 (.ret))))))
def r_disk_Disk_Names : List RRes := [.tmp 2]
theorem fo_disk_Disk_Names {args : List Value} {M : Mem} {R : Value → Mem → Prop} (hn : args.length ≤ 23) (h : vfn Try.prog c_disk_Disk_Names r_disk_Disk_Names args M R) : CallsM Try.prog F.disk_Disk_Names args M R :=
  fn_ok (kf := k_disk_Disk_Names) Try.func24 (by kernel_rfl) (by kernel_rfl) hn (by kernel_rfl) h
/-- (*portage/disk.Disk).Read -/
def k_disk_Disk_Read (i : Nat) : List Nat := match i with | 0 => [4, 5] | 1 => [0, 1, 9, 10, 11, 12, 13, 14] | 2 => [15] | 3 => [7, 17] | 4 => [18, 19, 20, 21, 22, 23] | 5 => [6, 24, 25, 26, 27, 28, 29] | 6 => [8, 30] | _ => []
def c_disk_Disk_Read : RCode :=
 .seq (.ops [mv 4 (.const sn),
 mv 5 (k 0)] [4, 5])
 (.seq (.ops [mv 10 (t 0),
 mv 11 (t 1),
 ca 12 F.disk_Disk_there [(t 10), (t 11)],
 mv 9 (t 12),
 ex 13 (t 9) 0,
 ex 14 (t 9) 1,
 mv 6 (t 13),
 mv 7 (t 14)] [0, 1, 9, 10, 11, 12, 13, 14])
 (.seq (.seq (.ops [mv 15 (t 7),
 o 16 (.ibin .neq (t 15) (k 0))] [15])
 (.cond (t 16)
  (.seq (.ops [mv 17 (t 7),
  mv 4 (.const sn),
  mv 5 (t 17)] [7, 17])
  (.ret))
  (.skip)))
 (.seq (.ops [mv 18 (t 6),
 o 19 (.nilck (t 18)),
 fa 20 0 (t 19),
 l1 21 (t 20),
 o 22 (.len (t 21)),
 o 23 (.mkSlN 5 1 [(u 0)] (t 22) (t 22)),
 mv 8 (t 23)] [18, 19, 20, 21, 22, 23])
 (.seq (.ops [mv 24 (t 8),
 mv 25 (t 6),
 o 26 (.nilck (t 25)),
 fa 27 0 (t 26),
 l1 28 (t 27),
 o 29 (.cpy 1 (t 24) (t 28))] [6, 24, 25, 26, 27, 28, 29])
 (.seq (.ops [mv 30 (t 8),
 mv 4 (t 30),
 mv 5 (k 0)] [8, 30])
 (.ret))))))
def r_disk_Disk_Read : List RRes := [.tmp 4, .tmp 5]
theorem fo_disk_Disk_Read {args : List Value} {M : Mem} {R : Value → Mem → Prop} (hn : args.length ≤ 31) (h : vfn Try.prog c_disk_Disk_Read r_disk_Disk_Read args M R) : CallsM Try.prog F.disk_Disk_Read args M R :=
  fn_ok (kf := k_disk_Disk_Read) Try.func25 (by kernel_rfl) (by kernel_rfl) hn (by kernel_rfl) h
/-- (*portage/wal.Log).Drop -/
def k_wal_Log_Drop (i : Nat) : List Nat := match i with | 0 => [0, 1, 4] | 1 => [7, 8] | 2 => [9] | 3 => [5, 11] | 4 => [12, 13, 14, 15, 16, 17, 18, 19, 20, 21, 22, 23, 24] | 6 => [26, 27, 28, 29, 30, 31, 32] | 7 => [33] | 8 => [2, 3, 35, 36, 37, 38] | 9 => [6, 39] | _ => []
def c_wal_Log_Drop : RCode :=
 .seq (.ops [o 2 (.box 28 (t 0)),
 o 3 (.box 3 (t 1)),
 mv 4 (k 0)] [0, 1, 4])
 (.seq (.seq (.ops [l1 7 (t 2),
 ca 8 F.wal_Log_ready [(t 7)],
 mv 5 (t 8)] [7, 8])
 (.seq (.ops [mv 9 (t 5),
 o 10 (.ibin .neq (t 9) (k 0))] [9])
 (.cond (t 10)
  (.seq (.ops [mv 11 (t 5),
  mv 4 (t 11)] [5, 11])
  (.ret))
  (.skip))))
 (.seq (.seq (.draw (.take (l1 12 (t 3)) (.take (l1 13 (t 2)) (.take (o 14 (.nilck (t 13))) (.take (fa 15 1 (t 14)) (.take (l1 16 (t 15)) (.take (o 17 (.ibin .lss (t 12) (t 16))) (.take (os 18 (.mov (t 17))) (.take (gf 18 19 (.load false 1 (t 3))) (.take (gf 18 20 (.load false 1 (t 2))) (.take (gf 18 21 (.nilck (t 20))) (.take (gf 18 22 (.faddr 2 (t 21))) (.take (gf 18 23 (.load false 1 (t 22))) (.take (gf 18 24 (.ibin .gtr (t 19) (t 23))) (.take (o 25 (.pick (t 18) (kb true) (t 24))) (.done))))))))))))))) [12, 13, 14, 15, 16, 17, 18, 19, 20, 21, 22, 23, 24])
 (.cond (t 25)
  (.seq (.ops [mv 4 (k 1)] [])
  (.ret))
  (.skip)))
 (.seq (.draw (.take (l1 26 (t 2)) (.take (l1 27 (t 2)) (.take (l1 28 (t 2)) (.take (o 29 (.mkfn F.wal_Log_Drop_1 [(t 2), (t 3)])) (.alt (ca 30 F.wal_Log_segments [(t 28), (t 29)]) true
  (.alt (ca 31 F.wal_Log_remove [(t 27), (t 30)]) true
   (.alt (ca 32 F.wal_Log_told [(t 26), (t 31)]) false
    (.take (mv 6 (t 32)) (.done))
    (.none))
   (.none))
  (.none)))))) [26, 27, 28, 29, 30, 31, 32])
 (.seq (.seq (.ops [mv 33 (t 6),
 o 34 (.ibin .eql (t 33) (k 0))] [33])
 (.cond (t 34)
  (.ops [l1 35 (t 2),
  l1 36 (t 3),
  o 37 (.nilck (t 35)),
  fa 38 1 (t 37),
  st 1 (t 38) (t 36)] [2, 3, 35, 36, 37, 38])
  (.skip)))
 (.seq (.ops [mv 39 (t 6),
 mv 4 (t 39)] [6, 39])
 (.ret))))))
def r_wal_Log_Drop : List RRes := [.tmp 4]
theorem fo_wal_Log_Drop {args : List Value} {M : Mem} {R : Value → Mem → Prop} (hn : args.length ≤ 40) (h : vfn Try.prog c_wal_Log_Drop r_wal_Log_Drop args M R) : CallsM Try.prog F.wal_Log_Drop args M R :=
  fn_ok (kf := k_wal_Log_Drop) Try.func26 (by kernel_rfl) (by kernel_rfl) hn (by kernel_rfl) h
/-- (*portage/wal.Log).First -/
def k_wal_Log_First (i : Nat) : List Nat := match i with | 0 => [2] | 1 => [3] | 3 => [0, 5, 6, 7, 8] | _ => []
def c_wal_Log_First : RCode :=
 .seq (.ops [mv 2 (k 0)] [2])
 (.seq (.seq (.ops [mv 3 (t 0),
 o 4 (.pnil .eql (t 3) (.const (.pointer none)))] [3])
 (.cond (t 4)
  (.seq (.ops [mv 2 (k 0)] [])
  (.ret))
  (.skip)))
 (.seq (.ops [mv 5 (t 0),
 o 6 (.nilck (t 5)),
 fa 7 1 (t 6),
 l1 8 (t 7),
 mv 2 (t 8)] [0, 5, 6, 7, 8])
 (.ret)))
def r_wal_Log_First : List RRes := [.tmp 2]
theorem fo_wal_Log_First {args : List Value} {M : Mem} {R : Value → Mem → Prop} (hn : args.length ≤ 9) (h : vfn Try.prog c_wal_Log_First r_wal_Log_First args M R) : CallsM Try.prog F.wal_Log_First args M R :=
  fn_ok (kf := k_wal_Log_First) Try.func27 (by kernel_rfl) (by kernel_rfl) hn (by kernel_rfl) h
/-- portage/disk.New -/
def k_disk_New (i : Nat) : List Nat := match i with | 0 => [2, 3] | 1 => [4, 5, 6, 7, 8] | 3 => [0, 10, 11, 12, 13] | _ => []
def c_disk_New : RCode :=
 .seq (.ops [mv 2 (.const (.pointer none)),
 mv 3 (k 0)] [2, 3])
 (.seq (.seq (.ops [mv 4 (t 0),
 o 5 (.ibin .lss (t 4) (k 1)),
 os 6 (.mov (t 5)),
 gf 6 7 (.mov (t 0)),
 gf 6 8 (.ibin .gtr (t 7) (k 1048576)),
 o 9 (.pick (t 6) (kb true) (t 8))] [4, 5, 6, 7, 8])
 (.cond (t 9)
  (.seq (.ops [mv 2 (.const (.pointer none)),
  mv 3 (k 1)] [])
  (.ret))
  (.skip)))
 (.seq (.ops [mv 10 (t 0),
 o 11 (.mkMap),
 o 12 (.build [(i 0), (.map none), (i 0), (.bool false)] [(0, 1, (t 10)), (1, 1, (t 11)), (2, 1, (k (-1)))]),
 o 13 (.box 67 (t 12)),
 mv 2 (t 13),
 mv 3 (k 0)] [0, 10, 11, 12, 13])
 (.ret)))
def r_disk_New : List RRes := [.tmp 2, .tmp 3]
theorem fo_disk_New {args : List Value} {M : Mem} {R : Value → Mem → Prop} (hn : args.length ≤ 14) (h : vfn Try.prog c_disk_New r_disk_New args M R) : CallsM Try.prog F.disk_New args M R :=
  fn_ok (kf := k_disk_New) Try.func28 (by kernel_rfl) (by kernel_rfl) hn (by kernel_rfl) h
/-- (*portage/wal.Log).ready -/
def k_wal_Log_ready (i : Nat) : List Nat := match i with | 0 => [2] | 1 => [0, 3, 4, 5, 6, 7, 8, 9] | _ => []
def c_wal_Log_ready : RCode :=
 .seq (.ops [mv 2 (k 0)] [2])
 (.seq (.seq (.ops [mv 3 (t 0),
 o 4 (.pnil .eql (t 3) (.const (.pointer none))),
 os 5 (.mov (t 4)),
 gf 5 6 (.mov (t 0)),
 gf 5 7 (.nilck (t 6)),
 gf 5 8 (.faddr 4 (t 7)),
 gf 5 9 (.load false 1 (t 8)),
 o 10 (.pick (t 5) (kb true) (t 9))] [0, 3, 4, 5, 6, 7, 8, 9])
 (.cond (t 10)
  (.seq (.ops [mv 2 (k 7)] [])
  (.ret))
  (.skip)))
 (.seq (.ops [mv 2 (k 0)] [])
 (.ret)))
def r_wal_Log_ready : List RRes := [.tmp 2]
theorem fo_wal_Log_ready {args : List Value} {M : Mem} {R : Value → Mem → Prop} (hn : args.length ≤ 11) (h : vfn Try.prog c_wal_Log_ready r_wal_Log_ready args M R) : CallsM Try.prog F.wal_Log_ready args M R :=
  fn_ok (kf := k_wal_Log_ready) Try.func29 (by kernel_rfl) (by kernel_rfl) hn (by kernel_rfl) h
/-- portage/record.Put -/
def k_record_Put (i : Nat) : List Nat := match i with | 0 => [2, 3] | 1 => [8, 9] | 3 => [11, 12] | 5 => [5, 14, 15, 16, 17, 18, 19, 20] | 6 => [4, 7, 21, 22, 23, 24, 25, 26, 27, 28, 29, 30] | 7 => [0, 6, 31, 32, 33] | _ => []
def c_record_Put : RCode :=
 .seq (.ops [mv 2 (.const sn),
 mv 3 (k 0)] [2, 3])
 (.seq (.seq (.ops [mv 8 (t 0),
 o 9 (.len (t 8)),
 o 10 (.ibin .eql (t 9) (k 0))] [8, 9])
 (.cond (t 10)
  (.seq (.ops [mv 2 (.const sn),
  mv 3 (k 2)] [])
  (.ret))
  (.skip)))
 (.seq (.seq (.ops [mv 11 (t 0),
 o 12 (.len (t 11)),
 o 13 (.ibin .gtr (t 12) (k 65536))] [11, 12])
 (.cond (t 13)
  (.seq (.ops [mv 2 (.const sn),
  mv 3 (k 3)] [])
  (.ret))
  (.skip)))
 (.seq (.ops [mv 15 (t 0),
 o 16 (.len (t 15)),
 o 17 (.conv .u64 (t 16)),
 ca 18 F.bits_Put [(.const sn), (t 17), (k 4)],
 mv 14 (t 18),
 ex 19 (t 14) 0,
 ex 20 (t 14) 1,
 mv 4 (t 19),
 mv 5 (t 20)] [5, 14, 15, 16, 17, 18, 19, 20])
 (.seq (.ops [mv 22 (t 4),
 mv 23 (t 4),
 mv 24 (t 0),
 o 25 (.mkSl false 32 2 [sn, sn] [(0, 1, (t 23)), (1, 1, (t 24))]),
 ca 26 F.crc_Sum [(t 25)],
 o 27 (.conv .u64 (t 26)),
 ca 28 F.bits_Put [(t 22), (t 27), (k 4)],
 mv 21 (t 28),
 ex 29 (t 21) 0,
 ex 30 (t 21) 1,
 mv 6 (t 29),
 mv 7 (t 30)] [4, 7, 21, 22, 23, 24, 25, 26, 27, 28, 29, 30])
 (.seq (.ops [mv 31 (t 6),
 mv 32 (t 0),
 o 33 (.app 5 1 1 [(u 0)] (t 31) (t 32)),
 mv 2 (t 33),
 mv 3 (k 0)] [0, 6, 31, 32, 33])
 (.ret))))))
def r_record_Put : List RRes := [.tmp 2, .tmp 3]
theorem fo_record_Put {args : List Value} {M : Mem} {R : Value → Mem → Prop} (hn : args.length ≤ 34) (h : vfn Try.prog c_record_Put r_record_Put args M R) : CallsM Try.prog F.record_Put args M R :=
  fn_ok (kf := k_record_Put) Try.func30 (by kernel_rfl) (by kernel_rfl) hn (by kernel_rfl) h
/-- (*portage/disk.Disk).Down -/
def k_disk_Disk_Down (i : Nat) : List Nat := match i with | 0 => [2] | 1 => [0, 3, 4, 5, 6, 7, 8, 9, 10] | _ => []
def c_disk_Disk_Down : RCode :=
 .seq (.ops [mv 2 (kb false)] [2])
 (.seq (.ops [mv 3 (t 0),
 o 4 (.pnil .neq (t 3) (.const (.pointer none))),
 os 5 (.mov (t 4)),
 gt 5 6 (.mov (t 0)),
 gt 5 7 (.nilck (t 6)),
 gt 5 8 (.faddr 3 (t 7)),
 gt 5 9 (.load false 1 (t 8)),
 o 10 (.pick (t 5) (t 9) (kb false)),
 mv 2 (t 10)] [0, 3, 4, 5, 6, 7, 8, 9, 10])
 (.ret))
def r_disk_Disk_Down : List RRes := [.tmp 2]
theorem fo_disk_Disk_Down {args : List Value} {M : Mem} {R : Value → Mem → Prop} (hn : args.length ≤ 11) (h : vfn Try.prog c_disk_Disk_Down r_disk_Disk_Down args M R) : CallsM Try.prog F.disk_Disk_Down args M R :=
  fn_ok (kf := k_disk_Disk_Down) Try.func31 (by kernel_rfl) (by kernel_rfl) hn (by kernel_rfl) h
/-- (*portage/wal.Log).told -/
def k_wal_Log_told (i : Nat) : List Nat := match i with | 0 => [4] | 1 => [0, 5, 6, 7, 8, 9, 10, 11, 12, 13, 14, 15] | 2 => [1, 16] | _ => []
def c_wal_Log_told : RCode :=
 .seq (.ops [mv 4 (k 0)] [4])
 (.seq (.ops [mv 5 (t 0),
 mv 6 (t 0),
 o 7 (.nilck (t 6)),
 fa 8 4 (t 7),
 l1 9 (t 8),
 os 10 (.mov (t 9)),
 gf 10 11 (.mov (t 1)),
 gf 10 12 (.ibin .eql (t 11) (k 9)),
 o 13 (.pick (t 10) (kb true) (t 12)),
 o 14 (.nilck (t 5)),
 fa 15 4 (t 14),
 st 1 (t 15) (t 13)] [0, 5, 6, 7, 8, 9, 10, 11, 12, 13, 14, 15])
 (.seq (.ops [mv 16 (t 1),
 mv 4 (t 16)] [1, 16])
 (.ret)))
def r_wal_Log_told : List RRes := [.tmp 4]
theorem fo_wal_Log_told {args : List Value} {M : Mem} {R : Value → Mem → Prop} (hn : args.length ≤ 17) (h : vfn Try.prog c_wal_Log_told r_wal_Log_told args M R) : CallsM Try.prog F.wal_Log_told args M R :=
  fn_ok (kf := k_wal_Log_told) Try.func32 (by kernel_rfl) (by kernel_rfl) hn (by kernel_rfl) h
/-- (*portage/wal.Log).length -/
def k_wal_Log_length (i : Nat) : List Nat := match i with | 0 => [4] | 1 => [7, 8, 9, 10, 11, 12, 13, 14, 15, 16] | 2 => [6, 17] | 3 => [0, 1, 19, 20, 21, 22, 23, 24, 25] | 4 => [5, 26, 27] | _ => []
def c_wal_Log_length : RCode :=
 .seq (.ops [mv 4 (k 0)] [4])
 (.seq (.draw (.take (mv 8 (t 0)) (.take (o 9 (.nilck (t 8))) (.take (fa 10 0 (t 9)) (.take (l1 11 (t 10)) (.take (mv 12 (t 1)) (.alt (ca 13 F.wal_Name [(t 12)]) true
  (.alt (ca 14 F.disk_Disk_Read [(t 11), (t 13)]) false
   (.take (mv 7 (t 14)) (.take (ex 15 (t 7) 0) (.take (ex 16 (t 7) 1) (.take (mv 5 (t 15)) (.take (mv 6 (t 16)) (.done))))))
   (.none))
  (.none))))))) [7, 8, 9, 10, 11, 12, 13, 14, 15, 16])
 (.seq (.seq (.ops [mv 17 (t 6),
 o 18 (.ibin .eql (t 17) (k 9))] [6, 17])
 (.cond (t 18)
  (.seq (.draw (.take (mv 19 (t 0)) (.take (o 20 (.nilck (t 19))) (.take (fa 21 0 (t 20)) (.take (l1 22 (t 21)) (.take (mv 23 (t 1)) (.alt (ca 24 F.wal_Name [(t 23)]) true
   (.alt (ca 25 F.disk_Disk_Safe [(t 22), (t 24)]) false
    (.take (mv 4 (t 25)) (.done))
    (.none))
   (.none))))))) [0, 1, 19, 20, 21, 22, 23, 24, 25])
  (.ret))
  (.skip)))
 (.seq (.ops [mv 26 (t 5),
 o 27 (.len (t 26)),
 mv 4 (t 27)] [5, 26, 27])
 (.ret))))
def r_wal_Log_length : List RRes := [.tmp 4]
theorem fo_wal_Log_length {args : List Value} {M : Mem} {R : Value → Mem → Prop} (hn : args.length ≤ 28) (h : vfn Try.prog c_wal_Log_length r_wal_Log_length args M R) : CallsM Try.prog F.wal_Log_length args M R :=
  fn_ok (kf := k_wal_Log_length) Try.func33 (by kernel_rfl) (by kernel_rfl) hn (by kernel_rfl) h
/-- (*portage/disk.Disk).Safe -/
def k_disk_Disk_Safe (i : Nat) : List Nat := match i with | 0 => [4] | 1 => [5, 6, 7, 8, 9, 10, 11, 12, 13, 14] | 3 => [0, 1, 16, 17, 18, 19, 20, 21, 22, 23, 24] | _ => []
def c_disk_Disk_Safe : RCode :=
 .seq (.ops [mv 4 (k 0)] [4])
 (.seq (.seq (.ops [mv 5 (t 0),
 o 6 (.pnil .eql (t 5) (.const (.pointer none))),
 os 7 (.mov (t 6)),
 gf 7 8 (.mov (t 0)),
 gf 7 9 (.nilck (t 8)),
 gf 7 10 (.faddr 1 (t 9)),
 gf 7 11 (.load false 1 (t 10)),
 gf 7 12 (.mov (t 1)),
 gf 7 13 (.mget .str false (.pointer none) (t 11) (t 12)),
 gf 7 14 (.pnil .eql (t 13) (.const (.pointer none))),
 o 15 (.pick (t 7) (kb true) (t 14))] [5, 6, 7, 8, 9, 10, 11, 12, 13, 14])
 (.cond (t 15)
  (.seq (.ops [mv 4 (k 0)] [])
  (.ret))
  (.skip)))
 (.seq (.ops [mv 16 (t 0),
 o 17 (.nilck (t 16)),
 fa 18 1 (t 17),
 l1 19 (t 18),
 mv 20 (t 1),
 o 21 (.mget .str false (.pointer none) (t 19) (t 20)),
 o 22 (.nilck (t 21)),
 fa 23 1 (t 22),
 l1 24 (t 23),
 mv 4 (t 24)] [0, 1, 16, 17, 18, 19, 20, 21, 22, 23, 24])
 (.ret)))
def r_disk_Disk_Safe : List RRes := [.tmp 4]
theorem fo_disk_Disk_Safe {args : List Value} {M : Mem} {R : Value → Mem → Prop} (hn : args.length ≤ 25) (h : vfn Try.prog c_disk_Disk_Safe r_disk_Disk_Safe args M R) : CallsM Try.prog F.disk_Disk_Safe args M R :=
  fn_ok (kf := k_disk_Disk_Safe) Try.func34 (by kernel_rfl) (by kernel_rfl) hn (by kernel_rfl) h
/-- (*portage/disk.Disk).Sync -/
def k_disk_Disk_Sync (i : Nat) : List Nat := match i with | 0 => [4] | 1 => [1, 7, 8, 9, 10, 11, 12] | 2 => [13] | 3 => [6, 15] | 4 => [5, 16, 17, 18, 19, 20, 21, 22, 23] | 5 => [0, 24, 25] | _ => []
def c_disk_Disk_Sync : RCode :=
 .seq (.ops [mv 4 (k 0)] [4])
 (.seq (.ops [mv 8 (t 0),
 mv 9 (t 1),
 ca 10 F.disk_Disk_there [(t 8), (t 9)],
 mv 7 (t 10),
 ex 11 (t 7) 0,
 ex 12 (t 7) 1,
 mv 5 (t 11),
 mv 6 (t 12)] [1, 7, 8, 9, 10, 11, 12])
 (.seq (.seq (.ops [mv 13 (t 6),
 o 14 (.ibin .neq (t 13) (k 0))] [13])
 (.cond (t 14)
  (.seq (.ops [mv 15 (t 6),
  mv 4 (t 15)] [6, 15])
  (.ret))
  (.skip)))
 (.seq (.ops [mv 16 (t 5),
 mv 17 (t 5),
 o 18 (.nilck (t 17)),
 fa 19 0 (t 18),
 l1 20 (t 19),
 o 21 (.len (t 20)),
 o 22 (.nilck (t 16)),
 fa 23 1 (t 22),
 st 1 (t 23) (t 21)] [5, 16, 17, 18, 19, 20, 21, 22, 23])
 (.seq (.ops [mv 24 (t 0),
 ca 25 F.disk_Disk_changed [(t 24)],
 mv 4 (t 25)] [0, 24, 25])
 (.ret)))))
def r_disk_Disk_Sync : List RRes := [.tmp 4]
theorem fo_disk_Disk_Sync {args : List Value} {M : Mem} {R : Value → Mem → Prop} (hn : args.length ≤ 26) (h : vfn Try.prog c_disk_Disk_Sync r_disk_Disk_Sync args M R) : CallsM Try.prog F.disk_Disk_Sync args M R :=
  fn_ok (kf := k_disk_Disk_Sync) Try.func35 (by kernel_rfl) (by kernel_rfl) hn (by kernel_rfl) h
/-- (*portage/disk.Disk).ready -/
def k_disk_Disk_ready (i : Nat) : List Nat := match i with | 0 => [4] | 1 => [7] | 3 => [0, 9, 10, 11] | 5 => [1] | 7 => [17, 18] | 8 => [6, 19, 20] | 10 => [22] | _ => []
def c_disk_Disk_ready : RCode :=
 .seq (.ops [mv 4 (k 0)] [4])
 (.seq (.seq (.ops [mv 7 (t 0),
 o 8 (.pnil .eql (t 7) (.const (.pointer none)))] [7])
 (.cond (t 8)
  (.seq (.ops [mv 4 (k 7)] [])
  (.ret))
  (.skip)))
 (.seq (.seq (.ops [mv 9 (t 0),
 o 10 (.nilck (t 9)),
 fa 11 3 (t 10),
 l1 12 (t 11)] [0, 9, 10, 11])
 (.cond (t 12)
  (.seq (.ops [mv 4 (k 9)] [])
  (.ret))
  (.skip)))
 (.seq (.seq (.ops [mv 13 (t 1),
 o 14 (.len (t 13)),
 mv 15 (k 0)] [1])
 (.block 0 (.loop (.seq (.ops [o 16 (.ibin .lss (t 15) (t 14))] [])
  (.seq (.cond (t 16)
   (.skip)
   (.exit 0))
  (.seq (.block 1 (.seq (.ops [o 17 (.iaddr 1 (t 13) (t 15)),
  l1 18 (t 17),
  mv 6 (t 18)] [17, 18])
  (.seq (.ops [mv 19 (t 6),
  ca 20 F.disk_named [(t 19)],
  o 21 (.not (t 20))] [6, 19, 20])
  (.cond (t 21)
   (.seq (.ops [mv 4 (k 2)] [])
   (.ret))
   (.skip)))))
  (.ops [ad 22 (t 15) (k 1),
  mv 15 (t 22)] [22])))))))
 (.seq (.ops [mv 4 (k 0)] [])
 (.ret)))))
def r_disk_Disk_ready : List RRes := [.tmp 4]
theorem fo_disk_Disk_ready {args : List Value} {M : Mem} {R : Value → Mem → Prop} (hn : args.length ≤ 23) (h : vfn Try.prog c_disk_Disk_ready r_disk_Disk_ready args M R) : CallsM Try.prog F.disk_Disk_ready args M R :=
  fn_ok (kf := k_disk_Disk_ready) Try.func36 (by kernel_rfl) (by kernel_rfl) hn (by kernel_rfl) h
/-- (*portage/wal.Log).open -/
def k_wal_Log_open (i : Nat) : List Nat := match i with | 0 => [0, 2, 3] | 1 => [13, 14, 15, 16, 17] | 2 => [18] | 3 => [4, 20] | 5 => [21, 22, 23, 24] | 6 => [25, 26, 27, 28, 29, 30, 31, 32, 33, 34] | 7 => [36, 37, 38, 39, 40, 41] | 8 => [43, 44] | 9 => [8, 45] | 10 => [46, 47, 48, 49] | 11 => [50, 51] | 12 => [52, 53, 54, 55, 56] | 13 => [9, 57, 58, 59] | 14 => [7, 60, 61, 62] | 15 => [10, 64, 65, 66, 67, 68, 69, 70, 71, 72, 73, 74] | 16 => [75] | 17 => [11, 77] | 18 => [6, 78, 79, 80] | 19 => [81, 82] | 20 => [1, 5, 12, 83, 84, 85, 86] | _ => []
def c_wal_Log_open : RCode :=
 .seq (.ops [o 1 (.box 28 (t 0)),
 mv 2 (.const sn),
 mv 3 (k 0)] [0, 2, 3])
 (.scope (.seq (.seq (.draw (.take (l1 13 (t 1)) (.take (l1 14 (t 1)) (.take (o 15 (.mkfn F.wal_Log_open_1 [(t 1)])) (.alt (ca 16 F.wal_Log_segments [(t 14), (t 15)]) true
  (.alt (ca 17 F.wal_Log_remove [(t 13), (t 16)]) false
   (.take (mv 4 (t 17)) (.done))
   (.none))
  (.none))))) [13, 14, 15, 16, 17])
 (.seq (.ops [mv 18 (t 4),
 o 19 (.ibin .neq (t 18) (k 0))] [18])
 (.cond (t 19)
  (.seq (.ops [mv 20 (t 4),
  mv 2 (.const sn),
  mv 3 (t 20)] [4, 20])
  (.ret))
  (.skip))))
 (.seq (.ops [mv 5 (.const sn)] [])
 (.seq (.ops [l1 21 (t 1),
 o 22 (.nilck (t 21)),
 fa 23 1 (t 22),
 l1 24 (t 23),
 o 6 (.alloc 3 [(i 0)]),
 st 1 (t 6) (t 24)] [21, 22, 23, 24])
 (.seq (.skip)
 (.seq (.block 0 (.loop (.block 1 (.seq (.draw (.take (l1 26 (t 1)) (.take (o 27 (.nilck (t 26))) (.take (fa 28 0 (t 27)) (.take (l1 29 (t 28)) (.take (l1 30 (t 6)) (.alt (ca 31 F.wal_Name [(t 30)]) true
   (.alt (ca 32 F.disk_Disk_Read [(t 29), (t 31)]) false
    (.take (mv 25 (t 32)) (.take (ex 33 (t 25) 0) (.take (ex 34 (t 25) 1) (.take (mv 7 (t 33)) (.take (mv 8 (t 34)) (.done))))))
    (.none))
   (.none))))))) [25, 26, 27, 28, 29, 30, 31, 32, 33, 34])
  (.seq (.block 2 (.seq (.ops [l1 36 (t 6),
  o 37 (.ibin .gtr (t 36) (k 99999)),
  os 38 (.mov (t 37)),
  gf 38 39 (.mov (t 8)),
  gf 38 40 (.ibin .eql (t 39) (k 4)),
  o 41 (.pick (t 38) (kb true) (t 40)),
  mv 35 (t 41)] [36, 37, 38, 39, 40, 41])
  (.cond (t 35)
   (.exit 0)
   (.seq (.ops [mv 43 (t 8),
   o 44 (.ibin .neq (t 43) (k 0)),
   mv 42 (t 44)] [43, 44])
   (.cond (t 42)
    (.seq (.ops [mv 45 (t 8),
    mv 2 (.const sn),
    mv 3 (t 45)] [8, 45])
    (.ret))
    (.skip))))))
  (.seq (.ops [l1 46 (t 1),
  l1 47 (t 6),
  o 48 (.nilck (t 46)),
  fa 49 2 (t 48),
  st 1 (t 49) (t 47)] [46, 47, 48, 49])
  (.seq (.ops [l1 50 (t 6),
  ad 51 (t 50) (k 1),
  st 1 (t 6) (t 51)] [50, 51])
  (.seq (.ops [mv 53 (t 7),
  ca 54 F.record_Scan [(t 53)],
  mv 52 (t 54),
  ex 55 (t 52) 0,
  ex 56 (t 52) 1,
  mv 9 (t 55),
  mv 10 (t 56)] [52, 53, 54, 55, 56])
  (.seq (.ops [mv 57 (t 5),
  mv 58 (t 9),
  o 59 (.app 32 1 24 [sn] (t 57) (t 58)),
  mv 5 (t 59)] [9, 57, 58, 59])
  (.seq (.ops [mv 60 (t 10),
  mv 61 (t 7),
  o 62 (.len (t 61)),
  o 63 (.ibin .lss (t 60) (t 62))] [7, 60, 61, 62])
  (.cond (t 63)
   (.seq (.seq (.draw (.take (l1 64 (t 1)) (.take (o 65 (.nilck (t 64))) (.take (fa 66 0 (t 65)) (.take (l1 67 (t 66)) (.take (l1 68 (t 1)) (.take (o 69 (.nilck (t 68))) (.take (fa 70 2 (t 69)) (.take (l1 71 (t 70)) (.take (mv 73 (t 10)) (.alt (ca 72 F.wal_Name [(t 71)]) true
    (.alt (ca 74 F.disk_Disk_Cut [(t 67), (t 72), (t 73)]) false
     (.take (mv 11 (t 74)) (.done))
     (.none))
    (.none))))))))))) [10, 64, 65, 66, 67, 68, 69, 70, 71, 72, 73, 74])
   (.seq (.ops [mv 75 (t 11),
   o 76 (.ibin .neq (t 75) (k 0))] [75])
   (.cond (t 76)
    (.seq (.ops [mv 77 (t 11),
    mv 2 (.const sn),
    mv 3 (t 77)] [11, 77])
    (.ret))
    (.skip))))
   (.exit 0))
   (.skip))))))))))))
 (.seq (.ops [l1 78 (t 1),
 o 79 (.mkfn F.wal_Log_open_2 [(t 6)]),
 ca 80 F.wal_Log_segments [(t 78), (t 79)],
 mv 12 (t 80)] [6, 78, 79, 80])
 (.seq (.ops [mv 81 (t 12),
 ca 82 F.slices_Reverse_int_int [(t 81)]] [81, 82])
 (.seq (.ops [mv 83 (t 5),
 l1 84 (t 1),
 mv 85 (t 12),
 ca 86 F.wal_Log_remove [(t 84), (t 85)],
 mv 2 (t 83),
 mv 3 (t 86)] [1, 5, 12, 83, 84, 85, 86])
 (.ret))))))))))
def r_wal_Log_open : List RRes := [.tmp 2, .tmp 3]
theorem fo_wal_Log_open {args : List Value} {M : Mem} {R : Value → Mem → Prop} (hn : args.length ≤ 87) (h : vfn Try.prog c_wal_Log_open r_wal_Log_open args M R) : CallsM Try.prog F.wal_Log_open args M R :=
  fn_ok (kf := k_wal_Log_open) Try.func37 (by kernel_rfl) (by kernel_rfl) hn (by kernel_rfl) h
/-- (*portage/disk.Disk).Used -/
def k_disk_Disk_Used (i : Nat) : List Nat := match i with | 0 => [2] | 2 => [6] | 3 => [0, 8, 9, 10, 11] | 4 => [13] | 5 => [15, 16] | 6 => [5, 17, 18, 19, 20, 21, 22, 23] | 7 => [3, 24] | _ => []
def c_disk_Disk_Used : RCode :=
 .seq (.ops [mv 2 (k 0)] [2])
 (.seq (.ops [mv 3 (k 0)] [])
 (.seq (.seq (.ops [mv 6 (t 0),
 o 7 (.pnil .neq (t 6) (.const (.pointer none)))] [6])
 (.cond (t 7)
  (.seq (.ops [mv 8 (t 0),
  o 9 (.nilck (t 8)),
  fa 10 1 (t 9),
  l1 11 (t 10),
  o 12 (.mrange (t 11))] [0, 8, 9, 10, 11])
  (.block 0 (.loop (.seq (.ops [o 13 (.mnext (t 12)),
   ex 14 (t 13) 0] [13])
   (.seq (.cond (t 14)
    (.skip)
    (.exit 0))
   (.block 1 (.seq (.ops [o 15 (.mentry (t 12)),
   ex 16 (t 15) 1,
   mv 5 (t 16)] [15, 16])
   (.ops [mv 17 (t 3),
   mv 18 (t 5),
   o 19 (.nilck (t 18)),
   fa 20 0 (t 19),
   l1 21 (t 20),
   o 22 (.len (t 21)),
   ad 23 (t 17) (t 22),
   mv 3 (t 23)] [5, 17, 18, 19, 20, 21, 22, 23]))))))))
  (.skip)))
 (.seq (.ops [mv 24 (t 3),
 mv 2 (t 24)] [3, 24])
 (.ret))))
def r_disk_Disk_Used : List RRes := [.tmp 2]
theorem fo_disk_Disk_Used {args : List Value} {M : Mem} {R : Value → Mem → Prop} (hn : args.length ≤ 25) (h : vfn Try.prog c_disk_Disk_Used r_disk_Disk_Used args M R) : CallsM Try.prog F.disk_Disk_Used args M R :=
  fn_ok (kf := k_disk_Disk_Used) Try.func38 (by kernel_rfl) (by kernel_rfl) hn (by kernel_rfl) h
/-- (*portage/disk.Disk).changed -/
def k_disk_Disk_changed (i : Nat) : List Nat := match i with | 0 => [2] | 1 => [3, 4, 5, 6] | 2 => [8, 9, 10, 11, 12, 13, 14] | 3 => [0, 15, 16, 17, 18, 19, 20, 21, 22] | _ => []
def c_disk_Disk_changed : RCode :=
 .seq (.ops [mv 2 (k 0)] [2])
 (.seq (.seq (.ops [mv 3 (t 0),
 o 4 (.nilck (t 3)),
 fa 5 2 (t 4),
 l1 6 (t 5),
 o 7 (.ibin .gtr (t 6) (k 0))] [3, 4, 5, 6])
 (.cond (t 7)
  (.seq (.ops [mv 8 (t 0),
  o 9 (.nilck (t 8)),
  fa 10 2 (t 9),
  l1 11 (t 10),
  o 12 (.ibin .sub (t 11) (k 1)),
  o 13 (.nilck (t 8)),
  fa 14 2 (t 13),
  st 1 (t 14) (t 12)] [8, 9, 10, 11, 12, 13, 14])
  (.ops [mv 15 (t 0),
  mv 16 (t 0),
  o 17 (.nilck (t 16)),
  fa 18 2 (t 17),
  l1 19 (t 18),
  o 20 (.ibin .eql (t 19) (k 0)),
  o 21 (.nilck (t 15)),
  fa 22 3 (t 21),
  st 1 (t 22) (t 20)] [0, 15, 16, 17, 18, 19, 20, 21, 22]))
  (.skip)))
 (.seq (.ops [mv 2 (k 0)] [])
 (.ret)))
def r_disk_Disk_changed : List RRes := [.tmp 2]
theorem fo_disk_Disk_changed {args : List Value} {M : Mem} {R : Value → Mem → Prop} (hn : args.length ≤ 23) (h : vfn Try.prog c_disk_Disk_changed r_disk_Disk_changed args M R) : CallsM Try.prog F.disk_Disk_changed args M R :=
  fn_ok (kf := k_disk_Disk_changed) Try.func39 (by kernel_rfl) (by kernel_rfl) hn (by kernel_rfl) h
/-- (*portage/disk.Disk).there -/
def k_disk_Disk_there (i : Nat) : List Nat := match i with | 0 => [4, 5] | 1 => [8, 9, 10, 11] | 2 => [12] | 3 => [6, 14] | 4 => [0, 1, 15, 16, 17, 18, 19, 20] | 5 => [21] | 7 => [7, 23] | _ => []
def c_disk_Disk_there : RCode :=
 .seq (.ops [mv 4 (.const (.pointer none)),
 mv 5 (k 0)] [4, 5])
 (.seq (.seq (.ops [mv 8 (t 0),
 mv 9 (t 1),
 o 10 (.mkSl false 9 1 [(.string ByteArray.empty)] [(0, 1, (t 9))]),
 ca 11 F.disk_Disk_ready [(t 8), (t 10)],
 mv 6 (t 11)] [8, 9, 10, 11])
 (.seq (.ops [mv 12 (t 6),
 o 13 (.ibin .neq (t 12) (k 0))] [12])
 (.cond (t 13)
  (.seq (.ops [mv 14 (t 6),
  mv 4 (.const (.pointer none)),
  mv 5 (t 14)] [6, 14])
  (.ret))
  (.skip))))
 (.seq (.ops [mv 15 (t 0),
 o 16 (.nilck (t 15)),
 fa 17 1 (t 16),
 l1 18 (t 17),
 mv 19 (t 1),
 o 20 (.mget .str false (.pointer none) (t 18) (t 19)),
 mv 7 (t 20)] [0, 1, 15, 16, 17, 18, 19, 20])
 (.seq (.seq (.ops [mv 21 (t 7),
 o 22 (.pnil .eql (t 21) (.const (.pointer none)))] [21])
 (.cond (t 22)
  (.seq (.ops [mv 4 (.const (.pointer none)),
  mv 5 (k 4)] [])
  (.ret))
  (.skip)))
 (.seq (.ops [mv 23 (t 7),
 mv 4 (t 23),
 mv 5 (k 0)] [7, 23])
 (.ret)))))
def r_disk_Disk_there : List RRes := [.tmp 4, .tmp 5]
theorem fo_disk_Disk_there {args : List Value} {M : Mem} {R : Value → Mem → Prop} (hn : args.length ≤ 24) (h : vfn Try.prog c_disk_Disk_there r_disk_Disk_there args M R) : CallsM Try.prog F.disk_Disk_there args M R :=
  fn_ok (kf := k_disk_Disk_there) Try.func40 (by kernel_rfl) (by kernel_rfl) hn (by kernel_rfl) h
/-- (*portage/wal.Log).segments -/
def k_wal_Log_segments (i : Nat) : List Nat := match i with | 0 => [4] | 2 => [0, 9, 10, 11, 12] | 4 => [17, 18] | 5 => [7, 19, 20] | 6 => [21, 22, 23, 24, 25, 26] | 7 => [8, 28, 29, 30, 31] | 8 => [32] | 9 => [5, 33] | _ => []
def c_wal_Log_segments : RCode :=
 .seq (.ops [mv 4 (.const sn)] [4])
 (.seq (.ops [mv 5 (.const sn)] [])
 (.seq (.seq (.ops [mv 9 (t 0),
 o 10 (.nilck (t 9)),
 fa 11 0 (t 10),
 l1 12 (t 11),
 ca 13 F.disk_Disk_Names [(t 12)],
 o 14 (.len (t 13)),
 mv 15 (k 0)] [0, 9, 10, 11, 12])
 (.block 0 (.loop (.seq (.ops [o 16 (.ibin .lss (t 15) (t 14))] [])
  (.seq (.cond (t 16)
   (.skip)
   (.exit 0))
  (.seq (.block 1 (.seq (.ops [o 17 (.iaddr 1 (t 13) (t 15)),
  l1 18 (t 17),
  mv 7 (t 18)] [17, 18])
  (.seq (.ops [mv 19 (t 7),
  ca 20 F.wal_number [(t 19)],
  mv 8 (t 20)] [7, 19, 20])
  (.seq (.ops [mv 21 (t 8),
  o 22 (.ibin .gtr (t 21) (k 0)),
  os 23 (.mov (t 22)),
  gt 23 24 (.mov (t 1)),
  gt 23 25 (.mov (t 8)),
  gt 23 26 (.call (t 24) [(t 25)]),
  o 27 (.pick (t 23) (t 26) (kb false))] [21, 22, 23, 24, 25, 26])
  (.cond (t 27)
   (.ops [mv 28 (t 5),
   mv 29 (t 8),
   o 30 (.mkSl true 3 1 [(i 0)] [(0, 1, (t 29))]),
   o 31 (.app 3 1 8 [(i 0)] (t 28) (t 30)),
   mv 5 (t 31)] [8, 28, 29, 30, 31])
   (.skip))))))
  (.ops [ad 32 (t 15) (k 1),
  mv 15 (t 32)] [32])))))))
 (.seq (.ops [mv 33 (t 5),
 mv 4 (t 33)] [5, 33])
 (.ret))))
def r_wal_Log_segments : List RRes := [.tmp 4]
theorem fo_wal_Log_segments {args : List Value} {M : Mem} {R : Value → Mem → Prop} (hn : args.length ≤ 34) (h : vfn Try.prog c_wal_Log_segments r_wal_Log_segments args M R) : CallsM Try.prog F.wal_Log_segments args M R :=
  fn_ok (kf := k_wal_Log_segments) Try.func41 (by kernel_rfl) (by kernel_rfl) hn (by kernel_rfl) h
/-- (*portage/wal.Log).Size$1 -/
def k_wal_Log_Size_1 (i : Nat) : List Nat := match i with | 0 => [3] | 1 => [0, 1, 4, 5, 6, 7, 8, 9, 10, 11, 12, 13, 14, 15, 16, 17] | _ => []
def c_wal_Log_Size_1 : RCode :=
 .seq (.ops [mv 3 (kb false)] [3])
 (.seq (.ops [mv 4 (t 0),
 l1 5 (t 1),
 o 6 (.nilck (t 5)),
 fa 7 1 (t 6),
 l1 8 (t 7),
 o 9 (.ibin .geq (t 4) (t 8)),
 os 10 (.mov (t 9)),
 gt 10 11 (.mov (t 0)),
 gt 10 12 (.load false 1 (t 1)),
 gt 10 13 (.nilck (t 12)),
 gt 10 14 (.faddr 2 (t 13)),
 gt 10 15 (.load false 1 (t 14)),
 gt 10 16 (.ibin .leq (t 11) (t 15)),
 o 17 (.pick (t 10) (t 16) (kb false)),
 mv 3 (t 17)] [0, 1, 4, 5, 6, 7, 8, 9, 10, 11, 12, 13, 14, 15, 16, 17])
 (.ret))
def r_wal_Log_Size_1 : List RRes := [.tmp 3]
theorem fo_wal_Log_Size_1 {args : List Value} {M : Mem} {R : Value → Mem → Prop} (hn : args.length ≤ 18) (h : vfn Try.prog c_wal_Log_Size_1 r_wal_Log_Size_1 args M R) : CallsM Try.prog F.wal_Log_Size_1 args M R :=
  fn_ok (kf := k_wal_Log_Size_1) Try.func42 (by kernel_rfl) (by kernel_rfl) hn (by kernel_rfl) h
/-- slices.Sort[[]string,string] -/
def k_slices_Sort_string_string (i : Nat) : List Nat := match i with | 0 => [3, 4] | 1 => [0, 2, 5, 6, 7, 8, 9, 10] | _ => []
def c_slices_Sort_string_string : RCode :=
 .seq (.ops [mv 3 (t 0),
 o 4 (.len (t 3)),
 mv 2 (t 4)] [3, 4])
 (.ops [mv 5 (t 0),
 mv 6 (t 2),
 mv 7 (t 2),
 o 8 (.conv .u64 (t 7)),
 ca 9 F.math_bits_Len [(t 8)],
 ca 10 F.slices_pdqsortOrdered_string [(t 5), (k 0), (t 6), (t 9)]] [0, 2, 5, 6, 7, 8, 9, 10])
def r_slices_Sort_string_string : List RRes := []
theorem fo_slices_Sort_string_string {args : List Value} {M : Mem} {R : Value → Mem → Prop} (hn : args.length ≤ 11) (h : vfn Try.prog c_slices_Sort_string_string r_slices_Sort_string_string args M R) : CallsM Try.prog F.slices_Sort_string_string args M R :=
  fn_ok (kf := k_slices_Sort_string_string) Try.func43 (by kernel_rfl) (by kernel_rfl) hn (by kernel_rfl) h
/-- (*portage/wal.Log).remove -/
def k_wal_Log_remove (i : Nat) : List Nat := match i with | 0 => [4] | 1 => [1] | 3 => [12, 13] | 4 => [6, 14, 15, 16, 17, 18, 19, 20] | 5 => [21] | 6 => [7, 23] | 7 => [24] | _ => []
def c_wal_Log_remove : RCode :=
 .seq (.ops [mv 4 (k 0)] [4])
 (.seq (.seq (.ops [mv 8 (t 1),
 o 9 (.len (t 8)),
 mv 10 (k 0)] [1])
 (.block 0 (.loop (.seq (.ops [o 11 (.ibin .lss (t 10) (t 9))] [])
  (.seq (.cond (t 11)
   (.skip)
   (.exit 0))
  (.seq (.block 1 (.seq (.ops [o 12 (.iaddr 1 (t 8) (t 10)),
  l1 13 (t 12),
  mv 6 (t 13)] [12, 13])
  (.seq (.draw (.take (mv 14 (t 0)) (.take (o 15 (.nilck (t 14))) (.take (fa 16 0 (t 15)) (.take (l1 17 (t 16)) (.take (mv 18 (t 6)) (.alt (ca 19 F.wal_Name [(t 18)]) true
   (.alt (ca 20 F.disk_Disk_Remove [(t 17), (t 19)]) false
    (.take (mv 7 (t 20)) (.done))
    (.none))
   (.none))))))) [6, 14, 15, 16, 17, 18, 19, 20])
  (.seq (.ops [mv 21 (t 7),
  o 22 (.ibin .neq (t 21) (k 0))] [21])
  (.cond (t 22)
   (.seq (.ops [mv 23 (t 7),
   mv 4 (t 23)] [7, 23])
   (.ret))
   (.skip))))))
  (.ops [ad 24 (t 10) (k 1),
  mv 10 (t 24)] [24])))))))
 (.seq (.ops [mv 4 (k 0)] [])
 (.ret)))
def r_wal_Log_remove : List RRes := [.tmp 4]
theorem fo_wal_Log_remove {args : List Value} {M : Mem} {R : Value → Mem → Prop} (hn : args.length ≤ 25) (h : vfn Try.prog c_wal_Log_remove r_wal_Log_remove args M R) : CallsM Try.prog F.wal_Log_remove args M R :=
  fn_ok (kf := k_wal_Log_remove) Try.func44 (by kernel_rfl) (by kernel_rfl) hn (by kernel_rfl) h
/-- (*portage/wal.Log).Drop$1 -/
def k_wal_Log_Drop_1 (i : Nat) : List Nat := match i with | 0 => [4] | 1 => [0, 1, 2, 5, 6, 7, 8, 9, 10, 11, 12, 13, 14, 15] | _ => []
def c_wal_Log_Drop_1 : RCode :=
 .seq (.ops [mv 4 (kb false)] [4])
 (.seq (.ops [mv 5 (t 0),
 l1 6 (t 1),
 o 7 (.nilck (t 6)),
 fa 8 1 (t 7),
 l1 9 (t 8),
 o 10 (.ibin .geq (t 5) (t 9)),
 os 11 (.mov (t 10)),
 gt 11 12 (.mov (t 0)),
 gt 11 13 (.load false 1 (t 2)),
 gt 11 14 (.ibin .lss (t 12) (t 13)),
 o 15 (.pick (t 11) (t 14) (kb false)),
 mv 4 (t 15)] [0, 1, 2, 5, 6, 7, 8, 9, 10, 11, 12, 13, 14, 15])
 (.ret))
def r_wal_Log_Drop_1 : List RRes := [.tmp 4]
theorem fo_wal_Log_Drop_1 {args : List Value} {M : Mem} {R : Value → Mem → Prop} (hn : args.length ≤ 16) (h : vfn Try.prog c_wal_Log_Drop_1 r_wal_Log_Drop_1 args M R) : CallsM Try.prog F.wal_Log_Drop_1 args M R :=
  fn_ok (kf := k_wal_Log_Drop_1) Try.func45 (by kernel_rfl) (by kernel_rfl) hn (by kernel_rfl) h
/-- portage/bits.Put -/
def k_bits_Put (i : Nat) : List Nat := match i with | 0 => [6, 7] | 1 => [10, 11, 12, 13, 14] | 3 => [16, 17, 18, 19, 20, 21, 22, 23] | 5 => [0, 25, 26, 27] | 6 => [2, 28, 29] | 7 => [30, 31] | 8 => [32, 33, 34, 35, 36, 37, 38] | 10 => [39, 41] | 11 => [8, 42] | _ => []
def c_bits_Put : RCode :=
 .seq (.ops [mv 6 (.const sn),
 mv 7 (k 0)] [6, 7])
 (.scope (.seq (.seq (.ops [mv 10 (t 2),
 o 11 (.ibin .lss (t 10) (k 1)),
 os 12 (.mov (t 11)),
 gf 12 13 (.mov (t 2)),
 gf 12 14 (.ibin .gtr (t 13) (k 8)),
 o 15 (.pick (t 12) (kb true) (t 14))] [10, 11, 12, 13, 14])
 (.cond (t 15)
  (.seq (.ops [mv 6 (.const sn),
  mv 7 (k 1)] [])
  (.ret))
  (.skip)))
 (.seq (.seq (.ops [mv 16 (t 2),
 o 17 (.ibin .lss (t 16) (k 8)),
 os 18 (.mov (t 17)),
 gt 18 19 (.mov (t 1)),
 gt 18 20 (.mov (t 2)),
 gt 18 21 (.ibin .mul (k 8) (t 20)),
 gt 18 22 (.ibin .shr (t 19) (t 21)),
 gt 18 23 (.ibin .neq (t 22) (.const (.int .u64 0))),
 o 24 (.pick (t 18) (t 23) (kb false))] [16, 17, 18, 19, 20, 21, 22, 23])
 (.cond (t 24)
  (.seq (.ops [mv 6 (.const sn),
  mv 7 (k 3)] [])
  (.ret))
  (.skip)))
 (.seq (.ops [o 25 (.mkSl false 5 0 [] []),
 mv 26 (t 0),
 o 27 (.app 5 1 1 [(u 0)] (t 25) (t 26)),
 mv 8 (t 27)] [0, 25, 26, 27])
 (.seq (.ops [mv 28 (t 2),
 o 29 (.ibin .mul (k 8) (t 28)),
 mv 9 (t 29)] [2, 28, 29])
 (.seq (.skip)
 (.seq (.block 0 (.loop (.block 1 (.seq (.ops [mv 30 (t 9),
  o 31 (.ibin .sub (t 30) (k 8)),
  mv 9 (t 31)] [30, 31])
  (.seq (.ops [mv 32 (t 8),
  mv 33 (t 1),
  mv 34 (t 9),
  o 35 (.ibin .shr (t 33) (t 34)),
  o 36 (.conv .u8 (t 35)),
  o 37 (.mkSl true 5 1 [(u 0)] [(0, 1, (t 36))]),
  o 38 (.app 5 1 1 [(u 0)] (t 32) (t 37)),
  mv 8 (t 38)] [32, 33, 34, 35, 36, 37, 38])
  (.seq (.ops [mv 39 (t 9)] [])
  (.block 2 (.seq (.ops [o 41 (.ibin .eql (t 39) (k 0)),
  mv 40 (t 41)] [39, 41])
  (.cond (t 40)
   (.exit 0)
   (.skip))))))))))
 (.seq (.ops [mv 42 (t 8),
 mv 6 (t 42),
 mv 7 (k 0)] [8, 42])
 (.ret)))))))))
def r_bits_Put : List RRes := [.tmp 6, .tmp 7]
theorem fo_bits_Put {args : List Value} {M : Mem} {R : Value → Mem → Prop} (hn : args.length ≤ 43) (h : vfn Try.prog c_bits_Put r_bits_Put args M R) : CallsM Try.prog F.bits_Put args M R :=
  fn_ok (kf := k_bits_Put) Try.func46 (by kernel_rfl) (by kernel_rfl) hn (by kernel_rfl) h
/-- portage/crc.Sum -/
def k_crc_Sum (i : Nat) : List Nat := match i with | 0 => [2] | 2 => [0] | 4 => [12, 13] | 5 => [5] | 7 => [18, 19] | 8 => [7, 20, 21, 22, 23] | 11 => [26, 27] | 12 => [28] | 13 => [29] | 14 => [30] | 15 => [3, 31, 32] | _ => []
def c_crc_Sum : RCode :=
 .seq (.ops [mv 2 (.const (.int .u32 0))] [2])
 (.seq (.ops [mv 3 (.const (.int .u32 4294967295))] [])
 (.seq (.seq (.ops [mv 8 (t 0),
 o 9 (.len (t 8)),
 mv 10 (k 0)] [0])
 (.block 0 (.loop (.seq (.ops [o 11 (.ibin .lss (t 10) (t 9))] [])
  (.seq (.cond (t 11)
   (.skip)
   (.exit 0))
  (.seq (.block 1 (.seq (.ops [o 12 (.iaddr 1 (t 8) (t 10)),
  l1 13 (t 12),
  mv 5 (t 13)] [12, 13])
  (.seq (.ops [mv 14 (t 5),
  o 15 (.len (t 14)),
  mv 16 (k 0)] [5])
  (.block 2 (.loop (.seq (.ops [o 17 (.ibin .lss (t 16) (t 15))] [])
   (.seq (.cond (t 17)
    (.skip)
    (.exit 2))
   (.seq (.block 3 (.seq (.ops [o 18 (.iaddr 1 (t 14) (t 16)),
   l1 19 (t 18),
   mv 7 (t 19)] [18, 19])
   (.seq (.ops [mv 20 (t 3),
   mv 21 (t 7),
   o 22 (.conv .u32 (t 21)),
   o 23 (.ibin .xor (t 20) (t 22)),
   mv 3 (t 23)] [7, 20, 21, 22, 23])
   (.seq (.ops [mv 24 (k 0)] [])
   (.block 4 (.loop (.seq (.ops [o 25 (.ibin .lss (t 24) (k 8))] [])
    (.seq (.cond (t 25)
     (.skip)
     (.exit 4))
    (.seq (.block 5 (.ops [mv 26 (t 3),
    ca 27 F.crc_down [(t 26), (.const (.int .u32 3988292384))],
    mv 3 (t 27)] [26, 27]))
    (.ops [ad 28 (t 24) (k 1),
    mv 24 (t 28)] [28]))))))))))
   (.ops [ad 29 (t 16) (k 1),
   mv 16 (t 29)] [29])))))))))
  (.ops [ad 30 (t 10) (k 1),
  mv 10 (t 30)] [30])))))))
 (.seq (.ops [mv 31 (t 3),
 o 32 (.ucom (t 31)),
 mv 2 (t 32)] [3, 31, 32])
 (.ret))))
def r_crc_Sum : List RRes := [.tmp 2]
theorem fo_crc_Sum {args : List Value} {M : Mem} {R : Value → Mem → Prop} (hn : args.length ≤ 33) (h : vfn Try.prog c_crc_Sum r_crc_Sum args M R) : CallsM Try.prog F.crc_Sum args M R :=
  fn_ok (kf := k_crc_Sum) Try.func47 (by kernel_rfl) (by kernel_rfl) hn (by kernel_rfl) h
/-- portage/disk.named -/
def k_disk_named (i : Nat) : List Nat := match i with | 0 => [2] | 1 => [5] | 3 => [9] | 4 => [3, 10, 11, 12] | 5 => [4, 13, 14, 15, 16, 17, 18, 19, 20, 21, 22, 23, 24, 25, 26, 27, 28, 29] | 7 => [31] | 8 => [0, 32, 33, 34, 35, 36, 37, 38, 39] | _ => []
def c_disk_named : RCode :=
 .seq (.ops [mv 2 (kb false)] [2])
 (.seq (.seq (.ops [mv 5 (t 0),
 o 6 (.lenS (t 5)),
 mv 7 (k 0)] [5])
 (.block 0 (.loop (.seq (.ops [o 8 (.ibin .lss (t 7) (t 6))] [])
  (.seq (.cond (t 8)
   (.skip)
   (.exit 0))
  (.seq (.block 1 (.seq (.ops [mv 9 (t 7),
  mv 3 (t 9)] [9])
  (.seq (.ops [mv 10 (t 0),
  mv 11 (t 3),
  o 12 (.sidx (t 10) (t 11)),
  mv 4 (t 12)] [3, 10, 11, 12])
  (.seq (.ops [mv 13 (t 4),
  o 14 (.ibin .neq (t 13) (.const (u 46))),
  os 15 (.mov (t 14)),
  gt 15 16 (.mov (t 4)),
  gt 15 17 (.ibin .lss (t 16) (.const (u 48))),
  ⟨(some 18), .mov (t 17), some (15, true), true⟩,
  gf 18 19 (.mov (t 4)),
  gf 18 20 (.ibin .gtr (t 19) (.const (u 57))),
  gt 15 21 (.pick (t 18) (kb true) (t 20)),
  o 22 (.pick (t 15) (t 21) (kb false)),
  os 23 (.mov (t 22)),
  gt 23 24 (.mov (t 4)),
  gt 23 25 (.ibin .lss (t 24) (.const (u 97))),
  ⟨(some 26), .mov (t 25), some (23, true), true⟩,
  gf 26 27 (.mov (t 4)),
  gf 26 28 (.ibin .gtr (t 27) (.const (u 122))),
  gt 23 29 (.pick (t 26) (kb true) (t 28)),
  o 30 (.pick (t 23) (t 29) (kb false))] [4, 13, 14, 15, 16, 17, 18, 19, 20, 21, 22, 23, 24, 25, 26, 27, 28, 29])
  (.cond (t 30)
   (.seq (.ops [mv 2 (kb false)] [])
   (.ret))
   (.skip))))))
  (.ops [ad 31 (t 7) (k 1),
  mv 7 (t 31)] [31])))))))
 (.seq (.ops [mv 32 (t 0),
 o 33 (.lenS (t 32)),
 o 34 (.ibin .gtr (t 33) (k 0)),
 os 35 (.mov (t 34)),
 gt 35 36 (.mov (t 0)),
 gt 35 37 (.lenS (t 36)),
 gt 35 38 (.ibin .leq (t 37) (k 12)),
 o 39 (.pick (t 35) (t 38) (kb false)),
 mv 2 (t 39)] [0, 32, 33, 34, 35, 36, 37, 38, 39])
 (.ret)))
def r_disk_named : List RRes := [.tmp 2]
theorem fo_disk_named {args : List Value} {M : Mem} {R : Value → Mem → Prop} (hn : args.length ≤ 40) (h : vfn Try.prog c_disk_named r_disk_named args M R) : CallsM Try.prog F.disk_named args M R :=
  fn_ok (kf := k_disk_named) Try.func48 (by kernel_rfl) (by kernel_rfl) hn (by kernel_rfl) h
/-- (*portage/wal.Log).open$1 -/
def k_wal_Log_open_1 (i : Nat) : List Nat := match i with | 0 => [3] | 1 => [0, 1, 4, 5, 6, 7, 8, 9] | _ => []
def c_wal_Log_open_1 : RCode :=
 .seq (.ops [mv 3 (kb false)] [3])
 (.seq (.ops [mv 4 (t 0),
 l1 5 (t 1),
 o 6 (.nilck (t 5)),
 fa 7 1 (t 6),
 l1 8 (t 7),
 o 9 (.ibin .lss (t 4) (t 8)),
 mv 3 (t 9)] [0, 1, 4, 5, 6, 7, 8, 9])
 (.ret))
def r_wal_Log_open_1 : List RRes := [.tmp 3]
theorem fo_wal_Log_open_1 {args : List Value} {M : Mem} {R : Value → Mem → Prop} (hn : args.length ≤ 10) (h : vfn Try.prog c_wal_Log_open_1 r_wal_Log_open_1 args M R) : CallsM Try.prog F.wal_Log_open_1 args M R :=
  fn_ok (kf := k_wal_Log_open_1) Try.func49 (by kernel_rfl) (by kernel_rfl) hn (by kernel_rfl) h
/-- portage/record.Scan -/
def k_record_Scan (i : Nat) : List Nat := match i with | 0 => [2, 3] | 3 => [0, 8] | 4 => [10] | 5 => [11] | 6 => [12, 13, 14, 15] | 7 => [6, 7, 16, 17, 18, 19, 20] | 8 => [4, 5, 21, 22] | _ => []
def c_record_Scan : RCode :=
 .seq (.ops [mv 2 (.const sn),
 mv 3 (k 0)] [2, 3])
 (.seq (.ops [o 4 (.alloc 31 [sn])] [])
 (.seq (.ops [o 5 (.alloc 3 [(i 0)]),
 st 1 (t 5) (k 0)] [])
 (.seq (.seq (.ops [mv 8 (t 0),
 ca 9 F.record_rows [(t 8)]] [0, 8])
 (.block 0 (.rfun ((t 9)) [10, 11] (.seq (.ops [mv 6 (t 10)] [10])
  (.ops [mv 7 (t 11)] [11]))
  (.block 1 (.seq (.ops [l1 12 (t 4),
  mv 13 (t 7),
  o 14 (.mkSl true 32 1 [sn] [(0, 1, (t 13))]),
  o 15 (.app 32 1 24 [sn] (t 12) (t 14)),
  st 1 (t 4) (t 15)] [12, 13, 14, 15])
  (.ops [mv 16 (t 6),
  ad 17 (t 16) (k 8),
  mv 18 (t 7),
  o 19 (.len (t 18)),
  ad 20 (t 17) (t 19),
  st 1 (t 5) (t 20)] [6, 7, 16, 17, 18, 19, 20]))))))
 (.seq (.draw (.take (l1 21 (t 4)) (.take (l1 22 (t 5)) (.take (mv 2 (t 21)) (.take (mv 3 (t 22)) (.done))))) [4, 5, 21, 22])
 (.ret)))))
def r_record_Scan : List RRes := [.tmp 2, .tmp 3]
theorem fo_record_Scan {args : List Value} {M : Mem} {R : Value → Mem → Prop} (hn : args.length ≤ 23) (h : vfn Try.prog c_record_Scan r_record_Scan args M R) : CallsM Try.prog F.record_Scan args M R :=
  fn_ok (kf := k_record_Scan) Try.func50 (by kernel_rfl) (by kernel_rfl) hn (by kernel_rfl) h
/-- (*portage/disk.Disk).Cut -/
def k_disk_Disk_Cut (i : Nat) : List Nat := match i with | 0 => [6] | 1 => [1, 9, 10, 11, 12, 13, 14] | 2 => [15] | 3 => [8, 17] | 4 => [18, 19, 20, 21, 22, 23, 24, 25, 26, 27] | 6 => [2, 7, 29, 30, 31, 32, 33, 34, 35, 36, 37, 38, 39, 40, 41] | 7 => [0, 42, 43] | _ => []
def c_disk_Disk_Cut : RCode :=
 .seq (.ops [mv 6 (k 0)] [6])
 (.seq (.ops [mv 10 (t 0),
 mv 11 (t 1),
 ca 12 F.disk_Disk_there [(t 10), (t 11)],
 mv 9 (t 12),
 ex 13 (t 9) 0,
 ex 14 (t 9) 1,
 mv 7 (t 13),
 mv 8 (t 14)] [1, 9, 10, 11, 12, 13, 14])
 (.seq (.seq (.ops [mv 15 (t 8),
 o 16 (.ibin .neq (t 15) (k 0))] [15])
 (.cond (t 16)
  (.seq (.ops [mv 17 (t 8),
  mv 6 (t 17)] [8, 17])
  (.ret))
  (.skip)))
 (.seq (.seq (.ops [mv 18 (t 2),
 o 19 (.ibin .lss (t 18) (k 0)),
 os 20 (.mov (t 19)),
 gf 20 21 (.mov (t 2)),
 gf 20 22 (.mov (t 7)),
 gf 20 23 (.nilck (t 22)),
 gf 20 24 (.faddr 0 (t 23)),
 gf 20 25 (.load false 1 (t 24)),
 gf 20 26 (.len (t 25)),
 gf 20 27 (.ibin .gtr (t 21) (t 26)),
 o 28 (.pick (t 20) (kb true) (t 27))] [18, 19, 20, 21, 22, 23, 24, 25, 26, 27])
 (.cond (t 28)
  (.seq (.ops [mv 6 (k 1)] [])
  (.ret))
  (.skip)))
 (.seq (.ops [mv 29 (t 7),
 mv 30 (t 7),
 mv 31 (t 7),
 o 32 (.nilck (t 31)),
 fa 33 0 (t 32),
 l1 34 (t 33),
 mv 35 (t 2),
 o 36 (.slx 1 (t 34) none (some (t 35))),
 mv 37 (t 2),
 o 38 (.nilck (t 29)),
 fa 39 0 (t 38),
 st 1 (t 39) (t 36),
 o 40 (.nilck (t 30)),
 fa 41 1 (t 40),
 st 1 (t 41) (t 37)] [2, 7, 29, 30, 31, 32, 33, 34, 35, 36, 37, 38, 39, 40, 41])
 (.seq (.ops [mv 42 (t 0),
 ca 43 F.disk_Disk_changed [(t 42)],
 mv 6 (t 43)] [0, 42, 43])
 (.ret))))))
def r_disk_Disk_Cut : List RRes := [.tmp 6]
theorem fo_disk_Disk_Cut {args : List Value} {M : Mem} {R : Value → Mem → Prop} (hn : args.length ≤ 44) (h : vfn Try.prog c_disk_Disk_Cut r_disk_Disk_Cut args M R) : CallsM Try.prog F.disk_Disk_Cut args M R :=
  fn_ok (kf := k_disk_Disk_Cut) Try.func51 (by kernel_rfl) (by kernel_rfl) hn (by kernel_rfl) h
/-- (*portage/wal.Log).open$2 -/
def k_wal_Log_open_2 (i : Nat) : List Nat := match i with | 0 => [3] | 1 => [0, 1, 4, 5, 6] | _ => []
def c_wal_Log_open_2 : RCode :=
 .seq (.ops [mv 3 (kb false)] [3])
 (.seq (.ops [mv 4 (t 0),
 l1 5 (t 1),
 o 6 (.ibin .geq (t 4) (t 5)),
 mv 3 (t 6)] [0, 1, 4, 5, 6])
 (.ret))
def r_wal_Log_open_2 : List RRes := [.tmp 3]
theorem fo_wal_Log_open_2 {args : List Value} {M : Mem} {R : Value → Mem → Prop} (hn : args.length ≤ 7) (h : vfn Try.prog c_wal_Log_open_2 r_wal_Log_open_2 args M R) : CallsM Try.prog F.wal_Log_open_2 args M R :=
  fn_ok (kf := k_wal_Log_open_2) Try.func52 (by kernel_rfl) (by kernel_rfl) hn (by kernel_rfl) h
/-- slices.Reverse[[]int,int] -/
def k_slices_Reverse_int_int (i : Nat) : List Nat := match i with | 0 => [4, 5, 6] | 1 => [7, 8] | 3 => [14, 15, 16, 17, 18, 19, 20, 21, 22, 23, 24, 25, 26, 27] | 2 => [10, 11, 12, 13] | _ => []
def c_slices_Reverse_int_int : RCode :=
 .seq (.ops [mv 4 (t 0),
 o 5 (.len (t 4)),
 o 6 (.ibin .sub (t 5) (k 1)),
 mv 2 (k 0),
 mv 3 (t 6)] [4, 5, 6])
 (.block 0 (.loop (.seq (.seq (.ops [mv 7 (t 2),
  mv 8 (t 3),
  o 9 (.ibin .lss (t 7) (t 8))] [7, 8])
  (.cond (t 9)
   (.skip)
   (.exit 0)))
  (.seq (.block 1 (.draw (.take (mv 14 (t 0)) (.take (mv 15 (t 2)) (.take (mv 16 (t 0)) (.take (mv 17 (t 3)) (.take (mv 18 (t 0)) (.take (mv 19 (t 3)) (.take (o 20 (.iaddr 1 (t 18) (t 19))) (.take (l1 21 (t 20)) (.take (mv 22 (t 0)) (.take (mv 23 (t 2)) (.take (o 24 (.iaddr 1 (t 22) (t 23))) (.take (l1 25 (t 24)) (.take (o 26 (.iaddr 1 (t 14) (t 15))) (.alt (st 1 (t 26) (t 21)) false
   (.take (o 27 (.iaddr 1 (t 16) (t 17))) (.alt (st 1 (t 27) (t 25)) false
    (.done)
    (.none)))
   (.none))))))))))))))) [14, 15, 16, 17, 18, 19, 20, 21, 22, 23, 24, 25, 26, 27]))
  (.ops [mv 10 (t 2),
  ad 11 (t 10) (k 1),
  mv 12 (t 3),
  o 13 (.ibin .sub (t 12) (k 1)),
  mv 2 (t 11),
  mv 3 (t 13)] [10, 11, 12, 13])))))
def r_slices_Reverse_int_int : List RRes := []
theorem fo_slices_Reverse_int_int {args : List Value} {M : Mem} {R : Value → Mem → Prop} (hn : args.length ≤ 28) (h : vfn Try.prog c_slices_Reverse_int_int r_slices_Reverse_int_int args M R) : CallsM Try.prog F.slices_Reverse_int_int args M R :=
  fn_ok (kf := k_slices_Reverse_int_int) Try.func53 (by kernel_rfl) (by kernel_rfl) hn (by kernel_rfl) h
/-- portage/wal.number -/
def k_wal_number (i : Nat) : List Nat := match i with | 0 => [2] | 1 => [6, 7, 8, 9, 10, 11, 12] | 4 => [14, 15] | 6 => [17, 19] | 7 => [5, 20, 21, 22, 23, 24, 25] | 8 => [0, 26, 27, 28] | 10 => [3, 30] | _ => []
def c_wal_number : RCode :=
 .seq (.ops [mv 2 (k 0)] [2])
 (.seq (.seq (.ops [mv 6 (t 0),
 o 7 (.lenS (t 6)),
 o 8 (.ibin .neq (t 7) (k 6)),
 os 9 (.mov (t 8)),
 gf 9 10 (.mov (t 0)),
 gf 9 11 (.sidx (t 10) (k 0)),
 gf 9 12 (.ibin .neq (t 11) (.const (u 119))),
 o 13 (.pick (t 9) (kb true) (t 12))] [6, 7, 8, 9, 10, 11, 12])
 (.cond (t 13)
  (.seq (.ops [mv 2 (k 0)] [])
  (.ret))
  (.skip)))
 (.seq (.ops [mv 3 (k 0)] [])
 (.seq (.seq (.ops [mv 14 (t 0),
 o 15 (.ssl (t 14) (some (k 1)) none),
 o 16 (.srange (t 15))] [14, 15])
 (.block 0 (.loop (.seq (.ops [o 17 (.snext (t 16)),
  ex 18 (t 17) 0] [])
  (.seq (.cond (t 18)
   (.skip)
   (.exit 0))
  (.block 1 (.seq (.ops [ex 19 (t 17) 2,
  mv 5 (t 19)] [17, 19])
  (.ops [mv 20 (t 3),
  o 21 (.ibin .mul (k 10) (t 20)),
  mv 22 (t 5),
  o 23 (.ibin .sub (t 22) (.const (.int .i32 48))),
  o 24 (.conv .i64 (t 23)),
  ad 25 (t 21) (t 24),
  mv 3 (t 25)] [5, 20, 21, 22, 23, 24, 25]))))))))
 (.seq (.seq (.ops [mv 26 (t 3),
 ca 27 F.wal_Name [(t 26)],
 mv 28 (t 0),
 o 29 (.strE .neq (t 27) (t 28))] [0, 26, 27, 28])
 (.cond (t 29)
  (.seq (.ops [mv 2 (k 0)] [])
  (.ret))
  (.skip)))
 (.seq (.ops [mv 30 (t 3),
 mv 2 (t 30)] [3, 30])
 (.ret))))))
def r_wal_number : List RRes := [.tmp 2]
theorem fo_wal_number {args : List Value} {M : Mem} {R : Value → Mem → Prop} (hn : args.length ≤ 31) (h : vfn Try.prog c_wal_number r_wal_number args M R) : CallsM Try.prog F.wal_number args M R :=
  fn_ok (kf := k_wal_number) Try.func54 (by kernel_rfl) (by kernel_rfl) hn (by kernel_rfl) h
/-- slices.pdqsortOrdered[string] -/
def k_slices_pdqsortOrdered_string (i : Nat) : List Nat := match i with | 2 => [19, 20, 21] | 3 => [22] | 4 => [0, 1, 2, 24, 25, 26, 27] | 5 => [28] | 6 => [0, 1, 2, 30, 31, 32, 33] | 7 => [34] | 8 => [36, 37, 38, 39] | 9 => [40, 41] | 10 => [42, 43, 44, 45, 46, 47, 48] | 11 => [49] | 12 => [51, 52, 53, 54] | 13 => [55, 56, 57, 58, 59, 60] | 15 => [12, 61, 62, 63, 64, 65, 66, 67] | 16 => [69, 70, 71] | 17 => [73, 74, 75, 76, 77, 78, 79, 80, 81, 82, 83, 84, 85, 86] | 18 => [1, 11, 88, 89, 90, 91, 92] | 19 => [13, 93] | 20 => [11, 94, 95, 96, 97, 98, 99, 100, 101] | 21 => [15, 102] | 22 => [103, 104, 105, 106, 107, 108] | 23 => [10, 109, 110] | 24 => [111, 112] | 25 => [16, 18, 114, 115, 116] | 26 => [1, 117, 118, 119, 120, 121] | 27 => [14, 122, 123] | 28 => [17, 18, 124, 125, 126] | 29 => [2, 127, 128, 129, 130, 131, 132] | 30 => [14, 133] | _ => []
def c_slices_pdqsortOrdered_string : RCode :=
 .seq (.ops [mv 8 (kb true)] [])
 (.seq (.ops [mv 9 (kb true)] [])
 (.block 0 (.loop (.block 1 (.seq (.ops [mv 19 (t 2),
  mv 20 (t 1),
  o 21 (.ibin .sub (t 19) (t 20)),
  mv 10 (t 21)] [19, 20, 21])
  (.seq (.seq (.ops [mv 22 (t 10),
  o 23 (.ibin .leq (t 22) (k 12))] [22])
  (.cond (t 23)
   (.seq (.ops [mv 24 (t 0),
   mv 25 (t 1),
   mv 26 (t 2),
   ca 27 F.slices_insertionSortOrdered_string [(t 24), (t 25), (t 26)]] [0, 1, 2, 24, 25, 26, 27])
   (.ret))
   (.skip)))
  (.seq (.seq (.ops [mv 28 (t 3),
  o 29 (.ibin .eql (t 28) (k 0))] [28])
  (.cond (t 29)
   (.seq (.ops [mv 30 (t 0),
   mv 31 (t 1),
   mv 32 (t 2),
   ca 33 F.slices_heapSortOrdered_string [(t 30), (t 31), (t 32)]] [0, 1, 2, 30, 31, 32, 33])
   (.ret))
   (.skip)))
  (.seq (.seq (.ops [mv 34 (t 8),
  o 35 (.not (t 34))] [34])
  (.cond (t 35)
   (.seq (.ops [mv 36 (t 0),
   mv 37 (t 1),
   mv 38 (t 2),
   ca 39 F.slices_breakPatternsOrdered_string [(t 36), (t 37), (t 38)]] [36, 37, 38, 39])
   (.ops [mv 40 (t 3),
   o 41 (.ibin .sub (t 40) (k 1)),
   mv 3 (t 41)] [40, 41]))
   (.skip)))
  (.seq (.ops [mv 43 (t 0),
  mv 44 (t 1),
  mv 45 (t 2),
  ca 46 F.slices_choosePivotOrdered_string [(t 43), (t 44), (t 45)],
  mv 42 (t 46),
  ex 47 (t 42) 0,
  ex 48 (t 42) 1,
  mv 11 (t 47),
  mv 12 (t 48)] [42, 43, 44, 45, 46, 47, 48])
  (.seq (.seq (.ops [mv 49 (t 12),
  o 50 (.ibin .eql (t 49) (k 2))] [49])
  (.cond (t 50)
   (.seq (.ops [mv 51 (t 0),
   mv 52 (t 1),
   mv 53 (t 2),
   ca 54 F.slices_reverseRangeOrdered_string [(t 51), (t 52), (t 53)]] [51, 52, 53, 54])
   (.seq (.ops [mv 55 (t 2),
   o 56 (.ibin .sub (t 55) (k 1)),
   mv 57 (t 11),
   mv 58 (t 1),
   o 59 (.ibin .sub (t 57) (t 58)),
   o 60 (.ibin .sub (t 56) (t 59)),
   mv 11 (t 60)] [55, 56, 57, 58, 59, 60])
   (.ops [mv 12 (k 1)] [])))
   (.skip)))
  (.seq (.seq (.ops [mv 61 (t 8),
  os 62 (.mov (t 61)),
  gt 62 63 (.mov (t 9)),
  o 64 (.pick (t 62) (t 63) (kb false)),
  os 65 (.mov (t 64)),
  gt 65 66 (.mov (t 12)),
  gt 65 67 (.ibin .eql (t 66) (k 1)),
  o 68 (.pick (t 65) (t 67) (kb false))] [12, 61, 62, 63, 64, 65, 66, 67])
  (.cond (t 68)
   (.seq (.ops [mv 69 (t 0),
   mv 70 (t 1),
   mv 71 (t 2),
   ca 72 F.slices_partialInsertionSortOrdered_string [(t 69), (t 70), (t 71)]] [69, 70, 71])
   (.cond (t 72)
    (.ret)
    (.skip)))
   (.skip)))
  (.seq (.seq (.draw (.take (mv 73 (t 1)) (.take (o 74 (.ibin .gtr (t 73) (k 0))) (.take (os 75 (.mov (t 74))) (.take (gt 75 76 (.mov (t 0))) (.take (gt 75 77 (.mov (t 1))) (.take (gt 75 78 (.ibin .sub (t 77) (k 1))) (.take (gt 75 79 (.iaddr 1 (t 76) (t 78))) (.take (gt 75 80 (.load false 1 (t 79))) (.take (gt 75 81 (.mov (t 0))) (.take (gt 75 82 (.mov (t 11))) (.take (gt 75 83 (.iaddr 1 (t 81) (t 82))) (.take (gt 75 84 (.load false 1 (t 83))) (.alt (gt 75 85 (.call (fn F.cmp_Less_string) [(t 80), (t 84)])) false
   (.take (gt 75 86 (.not (t 85))) (.take (o 87 (.pick (t 75) (t 86) (kb false))) (.done)))
   (.none)))))))))))))) [73, 74, 75, 76, 77, 78, 79, 80, 81, 82, 83, 84, 85, 86])
  (.cond (t 87)
   (.seq (.ops [mv 88 (t 0),
   mv 89 (t 1),
   mv 90 (t 2),
   mv 91 (t 11),
   ca 92 F.slices_partitionEqualOrdered_string [(t 88), (t 89), (t 90), (t 91)],
   mv 13 (t 92)] [1, 11, 88, 89, 90, 91, 92])
   (.seq (.ops [mv 93 (t 13),
   mv 1 (t 93)] [13, 93])
   (.exit 1)))
   (.skip)))
  (.seq (.ops [mv 95 (t 0),
  mv 96 (t 1),
  mv 97 (t 2),
  mv 98 (t 11),
  ca 99 F.slices_partitionOrdered_string [(t 95), (t 96), (t 97), (t 98)],
  mv 94 (t 99),
  ex 100 (t 94) 0,
  ex 101 (t 94) 1,
  mv 14 (t 100),
  mv 15 (t 101)] [11, 94, 95, 96, 97, 98, 99, 100, 101])
  (.seq (.ops [mv 102 (t 15),
  mv 9 (t 102)] [15, 102])
  (.seq (.ops [mv 103 (t 14),
  mv 104 (t 1),
  o 105 (.ibin .sub (t 103) (t 104)),
  mv 106 (t 2),
  mv 107 (t 14),
  o 108 (.ibin .sub (t 106) (t 107)),
  mv 16 (t 105),
  mv 17 (t 108)] [103, 104, 105, 106, 107, 108])
  (.seq (.ops [mv 109 (t 10),
  o 110 (.ibin .quo (t 109) (k 8)),
  mv 18 (t 110)] [10, 109, 110])
  (.seq (.ops [mv 111 (t 16),
  mv 112 (t 17),
  o 113 (.ibin .lss (t 111) (t 112))] [111, 112])
  (.cond (t 113)
   (.seq (.ops [mv 114 (t 16),
   mv 115 (t 18),
   o 116 (.ibin .geq (t 114) (t 115)),
   mv 8 (t 116)] [16, 18, 114, 115, 116])
   (.seq (.ops [mv 117 (t 0),
   mv 118 (t 1),
   mv 119 (t 14),
   mv 120 (t 3),
   ca 121 F.slices_pdqsortOrdered_string [(t 117), (t 118), (t 119), (t 120)]] [1, 117, 118, 119, 120, 121])
   (.ops [mv 122 (t 14),
   ad 123 (t 122) (k 1),
   mv 1 (t 123)] [14, 122, 123])))
   (.seq (.ops [mv 124 (t 17),
   mv 125 (t 18),
   o 126 (.ibin .geq (t 124) (t 125)),
   mv 8 (t 126)] [17, 18, 124, 125, 126])
   (.seq (.ops [mv 127 (t 0),
   mv 128 (t 14),
   ad 129 (t 128) (k 1),
   mv 130 (t 2),
   mv 131 (t 3),
   ca 132 F.slices_pdqsortOrdered_string [(t 127), (t 129), (t 130), (t 131)]] [2, 127, 128, 129, 130, 131, 132])
   (.ops [mv 133 (t 14),
   mv 2 (t 133)] [14, 133])))))))))))))))))))))
def r_slices_pdqsortOrdered_string : List RRes := []
theorem fo_slices_pdqsortOrdered_string {args : List Value} {M : Mem} {R : Value → Mem → Prop} (hn : args.length ≤ 134) (h : vfn Try.prog c_slices_pdqsortOrdered_string r_slices_pdqsortOrdered_string args M R) : CallsM Try.prog F.slices_pdqsortOrdered_string args M R :=
  fn_ok (kf := k_slices_pdqsortOrdered_string) Try.func55 (by kernel_rfl) (by kernel_rfl) hn (by kernel_rfl) h
/-- math/bits.Len -/
def k_math_bits_Len (i : Nat) : List Nat := match i with | 0 => [2] | 1 => [0, 3, 4, 5] | 2 => [0, 6, 7] | _ => []
def c_math_bits_Len : RCode :=
 .seq (.ops [mv 2 (k 0)] [2])
 (.seq (.cond (kb false)
  (.seq (.ops [mv 3 (t 0),
  o 4 (.conv .u32 (t 3)),
  ca 5 F.math_bits_Len32 [(t 4)],
  mv 2 (t 5)] [0, 3, 4, 5])
  (.ret))
  (.skip))
 (.seq (.ops [mv 6 (t 0),
 ca 7 F.math_bits_Len64 [(t 6)],
 mv 2 (t 7)] [0, 6, 7])
 (.ret)))
def r_math_bits_Len : List RRes := [.tmp 2]
theorem fo_math_bits_Len {args : List Value} {M : Mem} {R : Value → Mem → Prop} (hn : args.length ≤ 8) (h : vfn Try.prog c_math_bits_Len r_math_bits_Len args M R) : CallsM Try.prog F.math_bits_Len args M R :=
  fn_ok (kf := k_math_bits_Len) Try.func56 (by kernel_rfl) (by kernel_rfl) hn (by kernel_rfl) h
/-- portage/crc.down -/
def k_crc_down (i : Nat) : List Nat := match i with | 0 => [4] | 1 => [5, 6] | 2 => [0, 1, 8, 9, 10, 11] | 3 => [0, 12, 13] | _ => []
def c_crc_down : RCode :=
 .seq (.ops [mv 4 (.const (.int .u32 0))] [4])
 (.seq (.seq (.ops [mv 5 (t 0),
 o 6 (.ibin .and (t 5) (.const (.int .u32 1))),
 o 7 (.ibin .eql (t 6) (.const (.int .u32 1)))] [5, 6])
 (.cond (t 7)
  (.seq (.ops [mv 8 (t 0),
  o 9 (.ibin .shr (t 8) (.const (.int .u64 1))),
  mv 10 (t 1),
  o 11 (.ibin .xor (t 9) (t 10)),
  mv 4 (t 11)] [0, 1, 8, 9, 10, 11])
  (.ret))
  (.skip)))
 (.seq (.ops [mv 12 (t 0),
 o 13 (.ibin .shr (t 12) (.const (.int .u64 1))),
 mv 4 (t 13)] [0, 12, 13])
 (.ret)))
def r_crc_down : List RRes := [.tmp 4]
theorem fo_crc_down {args : List Value} {M : Mem} {R : Value → Mem → Prop} (hn : args.length ≤ 14) (h : vfn Try.prog c_crc_down r_crc_down args M R) : CallsM Try.prog F.crc_down args M R :=
  fn_ok (kf := k_crc_down) Try.func57 (by kernel_rfl) (by kernel_rfl) hn (by kernel_rfl) h
/-- portage/record.rows -/
def k_record_rows (i : Nat) : List Nat := match i with | 0 => [0, 2] | 1 => [1, 3] | _ => []
def c_record_rows : RCode :=
 .seq (.ops [o 1 (.box 32 (t 0)),
 mv 2 (.const .nilFunc)] [0, 2])
 (.seq (.ops [o 3 (.mkfn F.record_rows_1 [(t 1)]),
 mv 2 (t 3)] [1, 3])
 (.ret))
def r_record_rows : List RRes := [.tmp 2]
theorem fo_record_rows {args : List Value} {M : Mem} {R : Value → Mem → Prop} (hn : args.length ≤ 4) (h : vfn Try.prog c_record_rows r_record_rows args M R) : CallsM Try.prog F.record_rows args M R :=
  fn_ok (kf := k_record_rows) Try.func58 (by kernel_rfl) (by kernel_rfl) hn (by kernel_rfl) h
/-- slices.insertionSortOrdered[string] -/
def k_slices_insertionSortOrdered_string (i : Nat) : List Nat := match i with | 0 => [8, 9] | 1 => [10, 11] | 3 => [15] | 4 => [16, 17, 18, 19, 20, 21, 22, 23, 24, 25, 26, 27, 28, 29] | 6 => [33, 34, 35, 36, 37, 38, 39, 40, 41, 42, 43, 44, 45, 46, 47, 48] | 5 => [31, 32] | 2 => [13, 14] | _ => []
def c_slices_insertionSortOrdered_string : RCode :=
 .seq (.ops [mv 8 (t 1),
 ad 9 (t 8) (k 1),
 mv 6 (t 9)] [8, 9])
 (.block 0 (.loop (.seq (.seq (.ops [mv 10 (t 6),
  mv 11 (t 2),
  o 12 (.ibin .lss (t 10) (t 11))] [10, 11])
  (.cond (t 12)
   (.skip)
   (.exit 0)))
  (.seq (.block 1 (.seq (.ops [mv 15 (t 6),
  mv 7 (t 15)] [15])
  (.block 2 (.loop (.seq (.seq (.draw (.take (mv 16 (t 7)) (.take (mv 17 (t 1)) (.take (o 18 (.ibin .gtr (t 16) (t 17))) (.take (os 19 (.mov (t 18))) (.take (gt 19 20 (.mov (t 0))) (.take (gt 19 21 (.mov (t 7))) (.take (gt 19 22 (.iaddr 1 (t 20) (t 21))) (.take (gt 19 23 (.load false 1 (t 22))) (.take (gt 19 24 (.mov (t 0))) (.take (gt 19 25 (.mov (t 7))) (.take (gt 19 26 (.ibin .sub (t 25) (k 1))) (.take (gt 19 27 (.iaddr 1 (t 24) (t 26))) (.take (gt 19 28 (.load false 1 (t 27))) (.alt (gt 19 29 (.call (fn F.cmp_Less_string) [(t 23), (t 28)])) false
    (.take (o 30 (.pick (t 19) (t 29) (kb false))) (.done))
    (.none))))))))))))))) [16, 17, 18, 19, 20, 21, 22, 23, 24, 25, 26, 27, 28, 29])
   (.cond (t 30)
    (.skip)
    (.exit 2)))
   (.seq (.block 3 (.draw (.take (mv 33 (t 0)) (.take (mv 34 (t 7)) (.take (mv 35 (t 0)) (.take (mv 36 (t 7)) (.take (o 37 (.ibin .sub (t 36) (k 1))) (.take (mv 38 (t 0)) (.take (mv 39 (t 7)) (.take (o 40 (.ibin .sub (t 39) (k 1))) (.take (o 41 (.iaddr 1 (t 38) (t 40))) (.take (l1 42 (t 41)) (.take (mv 43 (t 0)) (.take (mv 44 (t 7)) (.take (o 45 (.iaddr 1 (t 43) (t 44))) (.take (l1 46 (t 45)) (.take (o 47 (.iaddr 1 (t 33) (t 34))) (.alt (st 1 (t 47) (t 42)) false
    (.take (o 48 (.iaddr 1 (t 35) (t 37))) (.alt (st 1 (t 48) (t 46)) false
     (.done)
     (.none)))
    (.none))))))))))))))))) [33, 34, 35, 36, 37, 38, 39, 40, 41, 42, 43, 44, 45, 46, 47, 48]))
   (.ops [mv 31 (t 7),
   o 32 (.ibin .sub (t 31) (k 1)),
   mv 7 (t 32)] [31, 32])))))))
  (.ops [mv 13 (t 6),
  ad 14 (t 13) (k 1),
  mv 6 (t 14)] [13, 14])))))
def r_slices_insertionSortOrdered_string : List RRes := []
theorem fo_slices_insertionSortOrdered_string {args : List Value} {M : Mem} {R : Value → Mem → Prop} (hn : args.length ≤ 49) (h : vfn Try.prog c_slices_insertionSortOrdered_string r_slices_insertionSortOrdered_string args M R) : CallsM Try.prog F.slices_insertionSortOrdered_string args M R :=
  fn_ok (kf := k_slices_insertionSortOrdered_string) Try.func59 (by kernel_rfl) (by kernel_rfl) hn (by kernel_rfl) h
/-- slices.heapSortOrdered[string] -/
def k_slices_heapSortOrdered_string (i : Nat) : List Nat := match i with | 0 => [11] | 2 => [1, 2, 12, 13, 14] | 3 => [15, 16, 17] | 4 => [18] | 6 => [22, 23, 24, 25, 26] | 5 => [20, 21] | 7 => [8, 27, 28] | 8 => [29] | 10 => [33, 34, 35, 36, 37, 38, 39, 40, 41, 42, 43, 44, 45, 46, 47, 48, 49, 50] | 11 => [51, 52, 53, 54, 55] | 9 => [31, 32] | _ => []
def c_slices_heapSortOrdered_string : RCode :=
 .seq (.ops [mv 11 (t 1),
 mv 6 (t 11)] [11])
 (.seq (.ops [mv 7 (k 0)] [])
 (.seq (.ops [mv 12 (t 2),
 mv 13 (t 1),
 o 14 (.ibin .sub (t 12) (t 13)),
 mv 8 (t 14)] [1, 2, 12, 13, 14])
 (.seq (.seq (.ops [mv 15 (t 8),
 o 16 (.ibin .sub (t 15) (k 1)),
 o 17 (.ibin .quo (t 16) (k 2)),
 mv 9 (t 17)] [15, 16, 17])
 (.block 0 (.loop (.seq (.seq (.ops [mv 18 (t 9),
  o 19 (.ibin .geq (t 18) (k 0))] [18])
  (.cond (t 19)
   (.skip)
   (.exit 0)))
  (.seq (.block 1 (.ops [mv 22 (t 0),
  mv 23 (t 9),
  mv 24 (t 8),
  mv 25 (t 6),
  ca 26 F.slices_siftDownOrdered_string [(t 22), (t 23), (t 24), (t 25)]] [22, 23, 24, 25, 26]))
  (.ops [mv 20 (t 9),
  o 21 (.ibin .sub (t 20) (k 1)),
  mv 9 (t 21)] [20, 21]))))))
 (.seq (.ops [mv 27 (t 8),
 o 28 (.ibin .sub (t 27) (k 1)),
 mv 10 (t 28)] [8, 27, 28])
 (.block 2 (.loop (.seq (.seq (.ops [mv 29 (t 10),
  o 30 (.ibin .geq (t 29) (k 0))] [29])
  (.cond (t 30)
   (.skip)
   (.exit 2)))
  (.seq (.block 3 (.seq (.draw (.take (mv 33 (t 0)) (.take (mv 34 (t 6)) (.take (mv 35 (t 0)) (.take (mv 36 (t 6)) (.take (mv 37 (t 10)) (.take (ad 38 (t 36) (t 37)) (.take (mv 39 (t 0)) (.take (mv 40 (t 6)) (.take (mv 41 (t 10)) (.take (ad 42 (t 40) (t 41)) (.take (o 43 (.iaddr 1 (t 39) (t 42))) (.take (l1 44 (t 43)) (.take (mv 45 (t 0)) (.take (mv 46 (t 6)) (.take (o 47 (.iaddr 1 (t 45) (t 46))) (.take (l1 48 (t 47)) (.take (o 49 (.iaddr 1 (t 33) (t 34))) (.alt (st 1 (t 49) (t 44)) false
   (.take (o 50 (.iaddr 1 (t 35) (t 38))) (.alt (st 1 (t 50) (t 48)) false
    (.done)
    (.none)))
   (.none))))))))))))))))))) [33, 34, 35, 36, 37, 38, 39, 40, 41, 42, 43, 44, 45, 46, 47, 48, 49, 50])
  (.ops [mv 51 (t 0),
  mv 52 (t 7),
  mv 53 (t 10),
  mv 54 (t 6),
  ca 55 F.slices_siftDownOrdered_string [(t 51), (t 52), (t 53), (t 54)]] [51, 52, 53, 54, 55])))
  (.ops [mv 31 (t 10),
  o 32 (.ibin .sub (t 31) (k 1)),
  mv 10 (t 32)] [31, 32])))))))))
def r_slices_heapSortOrdered_string : List RRes := []
theorem fo_slices_heapSortOrdered_string {args : List Value} {M : Mem} {R : Value → Mem → Prop} (hn : args.length ≤ 56) (h : vfn Try.prog c_slices_heapSortOrdered_string r_slices_heapSortOrdered_string args M R) : CallsM Try.prog F.slices_heapSortOrdered_string args M R :=
  fn_ok (kf := k_slices_heapSortOrdered_string) Try.func60 (by kernel_rfl) (by kernel_rfl) hn (by kernel_rfl) h
/-- slices.breakPatternsOrdered[string] -/
def k_slices_breakPatternsOrdered_string (i : Nat) : List Nat := match i with | 0 => [2, 11, 12, 13] | 1 => [14] | 2 => [16, 17] | 3 => [18, 19] | 4 => [20, 21, 22, 23, 24, 25] | 5 => [26, 27, 28, 29, 30, 31, 32] | 7 => [36, 37, 38, 39, 40] | 8 => [41, 42] | 9 => [44, 45, 46] | 10 => [10, 47, 48, 49, 50, 51, 52, 53, 54, 55, 56, 57, 58, 59, 60, 61, 62, 63, 64] | 6 => [34, 35] | _ => []
def c_slices_breakPatternsOrdered_string : RCode :=
 .seq (.ops [mv 11 (t 2),
 mv 12 (t 1),
 o 13 (.ibin .sub (t 11) (t 12)),
 mv 6 (t 13)] [2, 11, 12, 13])
 (.seq (.ops [mv 14 (t 6),
 o 15 (.ibin .geq (t 14) (k 8))] [14])
 (.cond (t 15)
  (.seq (.ops [mv 16 (t 6),
  o 17 (.conv .u64 (t 16)),
  o 7 (.alloc 107 [(.int .u64 0)]),
  st 1 (t 7) (t 17)] [16, 17])
  (.seq (.ops [mv 18 (t 6),
  ca 19 F.slices_nextPowerOfTwo [(t 18)],
  mv 8 (t 19)] [18, 19])
  (.seq (.ops [mv 20 (t 1),
  mv 21 (t 6),
  o 22 (.ibin .quo (t 21) (k 4)),
  o 23 (.ibin .mul (t 22) (k 2)),
  ad 24 (t 20) (t 23),
  o 25 (.ibin .sub (t 24) (k 1)),
  mv 9 (t 25)] [20, 21, 22, 23, 24, 25])
  (.block 0 (.loop (.seq (.seq (.ops [mv 26 (t 9),
   mv 27 (t 1),
   mv 28 (t 6),
   o 29 (.ibin .quo (t 28) (k 4)),
   o 30 (.ibin .mul (t 29) (k 2)),
   ad 31 (t 27) (t 30),
   ad 32 (t 31) (k 1),
   o 33 (.ibin .leq (t 26) (t 32))] [26, 27, 28, 29, 30, 31, 32])
   (.cond (t 33)
    (.skip)
    (.exit 0)))
   (.seq (.block 1 (.seq (.ops [ca 36 F.slices_xorshift_Next [(t 7)],
   mv 37 (t 8),
   o 38 (.ibin .sub (t 37) (.const (.int .u64 1))),
   o 39 (.ibin .and (t 36) (t 38)),
   o 40 (.conv .i64 (t 39)),
   mv 10 (t 40)] [36, 37, 38, 39, 40])
   (.seq (.seq (.ops [mv 41 (t 10),
   mv 42 (t 6),
   o 43 (.ibin .geq (t 41) (t 42))] [41, 42])
   (.cond (t 43)
    (.ops [mv 44 (t 10),
    mv 45 (t 6),
    o 46 (.ibin .sub (t 44) (t 45)),
    mv 10 (t 46)] [44, 45, 46])
    (.skip)))
   (.draw (.take (mv 47 (t 0)) (.take (mv 48 (t 9)) (.take (mv 49 (t 0)) (.take (mv 50 (t 1)) (.take (mv 51 (t 10)) (.take (ad 52 (t 50) (t 51)) (.take (mv 53 (t 0)) (.take (mv 54 (t 1)) (.take (mv 55 (t 10)) (.take (ad 56 (t 54) (t 55)) (.take (o 57 (.iaddr 1 (t 53) (t 56))) (.take (l1 58 (t 57)) (.take (mv 59 (t 0)) (.take (mv 60 (t 9)) (.take (o 61 (.iaddr 1 (t 59) (t 60))) (.take (l1 62 (t 61)) (.take (o 63 (.iaddr 1 (t 47) (t 48))) (.alt (st 1 (t 63) (t 58)) false
    (.take (o 64 (.iaddr 1 (t 49) (t 52))) (.alt (st 1 (t 64) (t 62)) false
     (.done)
     (.none)))
    (.none))))))))))))))))))) [10, 47, 48, 49, 50, 51, 52, 53, 54, 55, 56, 57, 58, 59, 60, 61, 62, 63, 64]))))
   (.ops [mv 34 (t 9),
   ad 35 (t 34) (k 1),
   mv 9 (t 35)] [34, 35]))))))))
  (.skip)))
def r_slices_breakPatternsOrdered_string : List RRes := []
theorem fo_slices_breakPatternsOrdered_string {args : List Value} {M : Mem} {R : Value → Mem → Prop} (hn : args.length ≤ 65) (h : vfn Try.prog c_slices_breakPatternsOrdered_string r_slices_breakPatternsOrdered_string args M R) : CallsM Try.prog F.slices_breakPatternsOrdered_string args M R :=
  fn_ok (kf := k_slices_breakPatternsOrdered_string) Try.func61 (by kernel_rfl) (by kernel_rfl) hn (by kernel_rfl) h
/-- slices.choosePivotOrdered[string] -/
def k_slices_choosePivotOrdered_string (i : Nat) : List Nat := match i with | 0 => [6, 7] | 1 => [2, 13, 14, 15] | 3 => [16, 17, 18, 19, 20] | 4 => [21, 22, 23, 24, 25] | 5 => [1, 26, 27, 28, 29, 30] | 6 => [31] | 7 => [8, 33] | 8 => [35, 36, 37] | 9 => [38, 39, 40] | 10 => [41, 42, 43] | 11 => [0, 10, 12, 44, 45, 46, 47, 48] | 12 => [9] | 14 => [52] | 15 => [11, 53] | 16 => [49, 55] | 17 => [11, 56] | 13 => [11, 50] | _ => []
def c_slices_choosePivotOrdered_string : RCode :=
 .seq (.ops [mv 6 (k 0),
 mv 7 (k 0)] [6, 7])
 (.seq (.ops [mv 13 (t 2),
 mv 14 (t 1),
 o 15 (.ibin .sub (t 13) (t 14)),
 mv 8 (t 15)] [2, 13, 14, 15])
 (.seq (.ops [o 9 (.alloc 3 [(i 0)])] [])
 (.seq (.ops [mv 16 (t 1),
 mv 17 (t 8),
 o 18 (.ibin .quo (t 17) (k 4)),
 o 19 (.ibin .mul (t 18) (k 1)),
 ad 20 (t 16) (t 19),
 mv 10 (t 20)] [16, 17, 18, 19, 20])
 (.seq (.ops [mv 21 (t 1),
 mv 22 (t 8),
 o 23 (.ibin .quo (t 22) (k 4)),
 o 24 (.ibin .mul (t 23) (k 2)),
 ad 25 (t 21) (t 24),
 mv 11 (t 25)] [21, 22, 23, 24, 25])
 (.seq (.ops [mv 26 (t 1),
 mv 27 (t 8),
 o 28 (.ibin .quo (t 27) (k 4)),
 o 29 (.ibin .mul (t 28) (k 3)),
 ad 30 (t 26) (t 29),
 mv 12 (t 30)] [1, 26, 27, 28, 29, 30])
 (.seq (.seq (.ops [mv 31 (t 8),
 o 32 (.ibin .geq (t 31) (k 8))] [31])
 (.cond (t 32)
  (.seq (.seq (.ops [mv 33 (t 8),
  o 34 (.ibin .geq (t 33) (k 50))] [8, 33])
  (.cond (t 34)
   (.seq (.ops [mv 35 (t 0),
   mv 36 (t 10),
   ca 37 F.slices_medianAdjacentOrdered_string [(t 35), (t 36), (t 9)],
   mv 10 (t 37)] [35, 36, 37])
   (.seq (.ops [mv 38 (t 0),
   mv 39 (t 11),
   ca 40 F.slices_medianAdjacentOrdered_string [(t 38), (t 39), (t 9)],
   mv 11 (t 40)] [38, 39, 40])
   (.ops [mv 41 (t 0),
   mv 42 (t 12),
   ca 43 F.slices_medianAdjacentOrdered_string [(t 41), (t 42), (t 9)],
   mv 12 (t 43)] [41, 42, 43])))
   (.skip)))
  (.ops [mv 44 (t 0),
  mv 45 (t 10),
  mv 46 (t 11),
  mv 47 (t 12),
  ca 48 F.slices_medianOrdered_string [(t 44), (t 45), (t 46), (t 47), (t 9)],
  mv 11 (t 48)] [0, 10, 12, 44, 45, 46, 47, 48]))
  (.skip)))
 (.seq (.ops [l1 49 (t 9)] [9])
 (.block 0 (.seq (.ops [o 52 (.ibin .eql (t 49) (k 0)),
 mv 51 (t 52)] [52])
 (.cond (t 51)
  (.seq (.ops [mv 53 (t 11),
  mv 6 (t 53),
  mv 7 (k 1)] [11, 53])
  (.ret))
  (.seq (.ops [o 55 (.ibin .eql (t 49) (k 12)),
  mv 54 (t 55)] [49, 55])
  (.cond (t 54)
   (.seq (.ops [mv 56 (t 11),
   mv 6 (t 56),
   mv 7 (k 2)] [11, 56])
   (.ret))
   (.seq (.ops [mv 50 (t 11),
   mv 6 (t 50),
   mv 7 (k 0)] [11, 50])
   (.ret))))))))))))))
def r_slices_choosePivotOrdered_string : List RRes := [.tmp 6, .tmp 7]
theorem fo_slices_choosePivotOrdered_string {args : List Value} {M : Mem} {R : Value → Mem → Prop} (hn : args.length ≤ 57) (h : vfn Try.prog c_slices_choosePivotOrdered_string r_slices_choosePivotOrdered_string args M R) : CallsM Try.prog F.slices_choosePivotOrdered_string args M R :=
  fn_ok (kf := k_slices_choosePivotOrdered_string) Try.func62 (by kernel_rfl) (by kernel_rfl) hn (by kernel_rfl) h
/-- slices.reverseRangeOrdered[string] -/
def k_slices_reverseRangeOrdered_string (i : Nat) : List Nat := match i with | 0 => [1, 8] | 1 => [2, 9, 10] | 2 => [11, 12] | 3 => [14, 15, 16, 17, 18, 19, 20, 21, 22, 23, 24, 25, 26, 27] | 4 => [28, 29] | 5 => [30, 31] | _ => []
def c_slices_reverseRangeOrdered_string : RCode :=
 .seq (.ops [mv 8 (t 1),
 mv 6 (t 8)] [1, 8])
 (.seq (.ops [mv 9 (t 2),
 o 10 (.ibin .sub (t 9) (k 1)),
 mv 7 (t 10)] [2, 9, 10])
 (.block 0 (.loop (.seq (.seq (.ops [mv 11 (t 6),
  mv 12 (t 7),
  o 13 (.ibin .lss (t 11) (t 12))] [11, 12])
  (.cond (t 13)
   (.skip)
   (.exit 0)))
  (.block 1 (.seq (.draw (.take (mv 14 (t 0)) (.take (mv 15 (t 6)) (.take (mv 16 (t 0)) (.take (mv 17 (t 7)) (.take (mv 18 (t 0)) (.take (mv 19 (t 7)) (.take (o 20 (.iaddr 1 (t 18) (t 19))) (.take (l1 21 (t 20)) (.take (mv 22 (t 0)) (.take (mv 23 (t 6)) (.take (o 24 (.iaddr 1 (t 22) (t 23))) (.take (l1 25 (t 24)) (.take (o 26 (.iaddr 1 (t 14) (t 15))) (.alt (st 1 (t 26) (t 21)) false
   (.take (o 27 (.iaddr 1 (t 16) (t 17))) (.alt (st 1 (t 27) (t 25)) false
    (.done)
    (.none)))
   (.none))))))))))))))) [14, 15, 16, 17, 18, 19, 20, 21, 22, 23, 24, 25, 26, 27])
  (.seq (.ops [mv 28 (t 6),
  ad 29 (t 28) (k 1),
  mv 6 (t 29)] [28, 29])
  (.ops [mv 30 (t 7),
  o 31 (.ibin .sub (t 30) (k 1)),
  mv 7 (t 31)] [30, 31]))))))))
def r_slices_reverseRangeOrdered_string : List RRes := []
theorem fo_slices_reverseRangeOrdered_string {args : List Value} {M : Mem} {R : Value → Mem → Prop} (hn : args.length ≤ 32) (h : vfn Try.prog c_slices_reverseRangeOrdered_string r_slices_reverseRangeOrdered_string args M R) : CallsM Try.prog F.slices_reverseRangeOrdered_string args M R :=
  fn_ok (kf := k_slices_reverseRangeOrdered_string) Try.func63 (by kernel_rfl) (by kernel_rfl) hn (by kernel_rfl) h
/-- slices.partialInsertionSortOrdered[string] -/
def k_slices_partialInsertionSortOrdered_string (i : Nat) : List Nat := match i with | 0 => [6] | 1 => [11, 12] | 3 => [13] | 5 => [17, 18, 19, 20, 21, 22, 23, 24, 25, 26, 27, 28, 29, 30, 31] | 6 => [33, 34] | 7 => [35, 36] | 9 => [38, 39, 40] | 11 => [42, 43, 44, 45, 46, 47, 48, 49, 50, 51, 52, 53, 54, 55, 56, 57] | 12 => [58, 59, 60] | 13 => [62, 63] | 14 => [64] | 16 => [68, 69, 70, 71, 72, 73, 74, 75, 76, 77] | 17 => [79, 80, 81, 82, 83, 84, 85, 86, 87, 88, 89, 90, 91, 92, 93, 94] | 15 => [66, 67] | 18 => [95, 96, 97] | 19 => [99, 100] | 20 => [101, 102] | 22 => [106, 107, 108, 109, 110, 111, 112, 113, 114, 115] | 23 => [117, 118, 119, 120, 121, 122, 123, 124, 125, 126, 127, 128, 129, 130, 131, 132] | 21 => [104, 105] | 4 => [15, 16] | _ => []
def c_slices_partialInsertionSortOrdered_string : RCode :=
 .seq (.ops [mv 6 (kb false)] [6])
 (.seq (.ops [mv 11 (t 1),
 ad 12 (t 11) (k 1),
 mv 7 (t 12)] [11, 12])
 (.seq (.seq (.ops [mv 8 (k 0)] [])
 (.block 0 (.loop (.seq (.seq (.ops [mv 13 (t 8),
  o 14 (.ibin .lss (t 13) (k 5))] [13])
  (.cond (t 14)
   (.skip)
   (.exit 0)))
  (.seq (.block 1 (.seq (.block 2 (.loop (.seq (.seq (.draw (.take (mv 17 (t 7)) (.take (mv 18 (t 2)) (.take (o 19 (.ibin .lss (t 17) (t 18))) (.take (os 20 (.mov (t 19))) (.take (gt 20 21 (.mov (t 0))) (.take (gt 20 22 (.mov (t 7))) (.take (gt 20 23 (.iaddr 1 (t 21) (t 22))) (.take (gt 20 24 (.load false 1 (t 23))) (.take (gt 20 25 (.mov (t 0))) (.take (gt 20 26 (.mov (t 7))) (.take (gt 20 27 (.ibin .sub (t 26) (k 1))) (.take (gt 20 28 (.iaddr 1 (t 25) (t 27))) (.take (gt 20 29 (.load false 1 (t 28))) (.alt (gt 20 30 (.call (fn F.cmp_Less_string) [(t 24), (t 29)])) false
    (.take (gt 20 31 (.not (t 30))) (.take (o 32 (.pick (t 20) (t 31) (kb false))) (.done)))
    (.none))))))))))))))) [17, 18, 19, 20, 21, 22, 23, 24, 25, 26, 27, 28, 29, 30, 31])
   (.cond (t 32)
    (.skip)
    (.exit 2)))
   (.block 3 (.ops [mv 33 (t 7),
   ad 34 (t 33) (k 1),
   mv 7 (t 34)] [33, 34])))))
  (.seq (.seq (.ops [mv 35 (t 7),
  mv 36 (t 2),
  o 37 (.ibin .eql (t 35) (t 36))] [35, 36])
  (.cond (t 37)
   (.seq (.ops [mv 6 (kb true)] [])
   (.ret))
   (.skip)))
  (.seq (.seq (.ops [mv 38 (t 2),
  mv 39 (t 1),
  o 40 (.ibin .sub (t 38) (t 39)),
  o 41 (.ibin .lss (t 40) (k 50))] [38, 39, 40])
  (.cond (t 41)
   (.seq (.ops [mv 6 (kb false)] [])
   (.ret))
   (.skip)))
  (.seq (.draw (.take (mv 42 (t 0)) (.take (mv 43 (t 7)) (.take (mv 44 (t 0)) (.take (mv 45 (t 7)) (.take (o 46 (.ibin .sub (t 45) (k 1))) (.take (mv 47 (t 0)) (.take (mv 48 (t 7)) (.take (o 49 (.ibin .sub (t 48) (k 1))) (.take (o 50 (.iaddr 1 (t 47) (t 49))) (.take (l1 51 (t 50)) (.take (mv 52 (t 0)) (.take (mv 53 (t 7)) (.take (o 54 (.iaddr 1 (t 52) (t 53))) (.take (l1 55 (t 54)) (.take (o 56 (.iaddr 1 (t 42) (t 43))) (.alt (st 1 (t 56) (t 51)) false
   (.take (o 57 (.iaddr 1 (t 44) (t 46))) (.alt (st 1 (t 57) (t 55)) false
    (.done)
    (.none)))
   (.none))))))))))))))))) [42, 43, 44, 45, 46, 47, 48, 49, 50, 51, 52, 53, 54, 55, 56, 57])
  (.seq (.seq (.ops [mv 58 (t 7),
  mv 59 (t 1),
  o 60 (.ibin .sub (t 58) (t 59)),
  o 61 (.ibin .geq (t 60) (k 2))] [58, 59, 60])
  (.cond (t 61)
   (.seq (.ops [mv 62 (t 7),
   o 63 (.ibin .sub (t 62) (k 1)),
   mv 9 (t 63)] [62, 63])
   (.block 4 (.loop (.seq (.seq (.ops [mv 64 (t 9),
    o 65 (.ibin .geq (t 64) (k 1))] [64])
    (.cond (t 65)
     (.skip)
     (.exit 4)))
    (.seq (.block 5 (.seq (.seq (.draw (.take (mv 68 (t 0)) (.take (mv 69 (t 9)) (.take (o 70 (.iaddr 1 (t 68) (t 69))) (.take (l1 71 (t 70)) (.take (mv 72 (t 0)) (.take (mv 73 (t 9)) (.take (o 74 (.ibin .sub (t 73) (k 1))) (.take (o 75 (.iaddr 1 (t 72) (t 74))) (.take (l1 76 (t 75)) (.alt (ca 77 F.cmp_Less_string [(t 71), (t 76)]) false
     (.take (o 78 (.not (t 77))) (.done))
     (.none))))))))))) [68, 69, 70, 71, 72, 73, 74, 75, 76, 77])
    (.cond (t 78)
     (.exit 4)
     (.skip)))
    (.draw (.take (mv 79 (t 0)) (.take (mv 80 (t 9)) (.take (mv 81 (t 0)) (.take (mv 82 (t 9)) (.take (o 83 (.ibin .sub (t 82) (k 1))) (.take (mv 84 (t 0)) (.take (mv 85 (t 9)) (.take (o 86 (.ibin .sub (t 85) (k 1))) (.take (o 87 (.iaddr 1 (t 84) (t 86))) (.take (l1 88 (t 87)) (.take (mv 89 (t 0)) (.take (mv 90 (t 9)) (.take (o 91 (.iaddr 1 (t 89) (t 90))) (.take (l1 92 (t 91)) (.take (o 93 (.iaddr 1 (t 79) (t 80))) (.alt (st 1 (t 93) (t 88)) false
     (.take (o 94 (.iaddr 1 (t 81) (t 83))) (.alt (st 1 (t 94) (t 92)) false
      (.done)
      (.none)))
     (.none))))))))))))))))) [79, 80, 81, 82, 83, 84, 85, 86, 87, 88, 89, 90, 91, 92, 93, 94])))
    (.ops [mv 66 (t 9),
    o 67 (.ibin .sub (t 66) (k 1)),
    mv 9 (t 67)] [66, 67]))))))
   (.skip)))
  (.seq (.ops [mv 95 (t 2),
  mv 96 (t 7),
  o 97 (.ibin .sub (t 95) (t 96)),
  o 98 (.ibin .geq (t 97) (k 2))] [95, 96, 97])
  (.cond (t 98)
   (.seq (.ops [mv 99 (t 7),
   ad 100 (t 99) (k 1),
   mv 10 (t 100)] [99, 100])
   (.block 6 (.loop (.seq (.seq (.ops [mv 101 (t 10),
    mv 102 (t 2),
    o 103 (.ibin .lss (t 101) (t 102))] [101, 102])
    (.cond (t 103)
     (.skip)
     (.exit 6)))
    (.seq (.block 7 (.seq (.seq (.draw (.take (mv 106 (t 0)) (.take (mv 107 (t 10)) (.take (o 108 (.iaddr 1 (t 106) (t 107))) (.take (l1 109 (t 108)) (.take (mv 110 (t 0)) (.take (mv 111 (t 10)) (.take (o 112 (.ibin .sub (t 111) (k 1))) (.take (o 113 (.iaddr 1 (t 110) (t 112))) (.take (l1 114 (t 113)) (.alt (ca 115 F.cmp_Less_string [(t 109), (t 114)]) false
     (.take (o 116 (.not (t 115))) (.done))
     (.none))))))))))) [106, 107, 108, 109, 110, 111, 112, 113, 114, 115])
    (.cond (t 116)
     (.exit 6)
     (.skip)))
    (.draw (.take (mv 117 (t 0)) (.take (mv 118 (t 10)) (.take (mv 119 (t 0)) (.take (mv 120 (t 10)) (.take (o 121 (.ibin .sub (t 120) (k 1))) (.take (mv 122 (t 0)) (.take (mv 123 (t 10)) (.take (o 124 (.ibin .sub (t 123) (k 1))) (.take (o 125 (.iaddr 1 (t 122) (t 124))) (.take (l1 126 (t 125)) (.take (mv 127 (t 0)) (.take (mv 128 (t 10)) (.take (o 129 (.iaddr 1 (t 127) (t 128))) (.take (l1 130 (t 129)) (.take (o 131 (.iaddr 1 (t 117) (t 118))) (.alt (st 1 (t 131) (t 126)) false
     (.take (o 132 (.iaddr 1 (t 119) (t 121))) (.alt (st 1 (t 132) (t 130)) false
      (.done)
      (.none)))
     (.none))))))))))))))))) [117, 118, 119, 120, 121, 122, 123, 124, 125, 126, 127, 128, 129, 130, 131, 132])))
    (.ops [mv 104 (t 10),
    ad 105 (t 104) (k 1),
    mv 10 (t 105)] [104, 105]))))))
   (.skip)))))))))
  (.ops [mv 15 (t 8),
  ad 16 (t 15) (k 1),
  mv 8 (t 16)] [15, 16]))))))
 (.seq (.ops [mv 6 (kb false)] [])
 (.ret))))
def r_slices_partialInsertionSortOrdered_string : List RRes := [.tmp 6]
theorem fo_slices_partialInsertionSortOrdered_string {args : List Value} {M : Mem} {R : Value → Mem → Prop} (hn : args.length ≤ 133) (h : vfn Try.prog c_slices_partialInsertionSortOrdered_string r_slices_partialInsertionSortOrdered_string args M R) : CallsM Try.prog F.slices_partialInsertionSortOrdered_string args M R :=
  fn_ok (kf := k_slices_partialInsertionSortOrdered_string) Try.func64 (by kernel_rfl) (by kernel_rfl) hn (by kernel_rfl) h
/-- cmp.Less[string] -/
def k_cmp_Less_string (i : Nat) : List Nat := match i with | 0 => [4] | 1 => [0, 1, 5, 6, 7, 8, 9, 10, 11, 12, 13, 14, 15, 16] | _ => []
def c_cmp_Less_string : RCode :=
 .seq (.ops [mv 4 (kb false)] [4])
 (.seq (.ops [mv 5 (t 0),
 ca 6 F.cmp_isNaN_string [(t 5)],
 os 7 (.mov (t 6)),
 gt 7 8 (.mov (t 1)),
 gt 7 9 (.call (fn F.cmp_isNaN_string) [(t 8)]),
 gt 7 10 (.not (t 9)),
 o 11 (.pick (t 7) (t 10) (kb false)),
 os 12 (.mov (t 11)),
 gf 12 13 (.mov (t 0)),
 gf 12 14 (.mov (t 1)),
 gf 12 15 (.strE .lss (t 13) (t 14)),
 o 16 (.pick (t 12) (kb true) (t 15)),
 mv 4 (t 16)] [0, 1, 5, 6, 7, 8, 9, 10, 11, 12, 13, 14, 15, 16])
 (.ret))
def r_cmp_Less_string : List RRes := [.tmp 4]
theorem fo_cmp_Less_string {args : List Value} {M : Mem} {R : Value → Mem → Prop} (hn : args.length ≤ 17) (h : vfn Try.prog c_cmp_Less_string r_cmp_Less_string args M R) : CallsM Try.prog F.cmp_Less_string args M R :=
  fn_ok (kf := k_cmp_Less_string) Try.func65 (by kernel_rfl) (by kernel_rfl) hn (by kernel_rfl) h
/-- slices.partitionEqualOrdered[string] -/
def k_slices_partitionEqualOrdered_string (i : Nat) : List Nat := match i with | 0 => [8] | 1 => [3, 11, 12, 13, 14, 15, 16, 17, 18, 19, 20, 21, 22, 23, 24] | 2 => [2, 25, 26, 27, 28] | 3 => [29, 30, 31, 32, 33, 34, 35, 36, 37, 38, 39, 40, 41, 42] | 4 => [44, 45] | 5 => [46, 47, 48, 49, 50, 51, 52, 53, 54, 55, 56, 57, 58] | 6 => [60, 61] | 7 => [62, 63] | 8 => [65, 66, 67, 68, 69, 70, 71, 72, 73, 74, 75, 76, 77, 78] | 9 => [79, 80] | 10 => [81, 82] | 11 => [9, 83] | _ => []
def c_slices_partitionEqualOrdered_string : RCode :=
 .seq (.ops [mv 8 (k 0)] [8])
 (.seq (.draw (.take (mv 11 (t 0)) (.take (mv 12 (t 1)) (.take (mv 13 (t 0)) (.take (mv 14 (t 3)) (.take (mv 15 (t 0)) (.take (mv 16 (t 3)) (.take (o 17 (.iaddr 1 (t 15) (t 16))) (.take (l1 18 (t 17)) (.take (mv 19 (t 0)) (.take (mv 20 (t 1)) (.take (o 21 (.iaddr 1 (t 19) (t 20))) (.take (l1 22 (t 21)) (.take (o 23 (.iaddr 1 (t 11) (t 12))) (.alt (st 1 (t 23) (t 18)) false
  (.take (o 24 (.iaddr 1 (t 13) (t 14))) (.alt (st 1 (t 24) (t 22)) false
   (.done)
   (.none)))
  (.none))))))))))))))) [3, 11, 12, 13, 14, 15, 16, 17, 18, 19, 20, 21, 22, 23, 24])
 (.seq (.ops [mv 25 (t 1),
 ad 26 (t 25) (k 1),
 mv 27 (t 2),
 o 28 (.ibin .sub (t 27) (k 1)),
 mv 9 (t 26),
 mv 10 (t 28)] [2, 25, 26, 27, 28])
 (.seq (.block 0 (.loop (.block 1 (.seq (.block 2 (.loop (.seq (.seq (.draw (.take (mv 29 (t 9)) (.take (mv 30 (t 10)) (.take (o 31 (.ibin .leq (t 29) (t 30))) (.take (os 32 (.mov (t 31))) (.take (gt 32 33 (.mov (t 0))) (.take (gt 32 34 (.mov (t 1))) (.take (gt 32 35 (.iaddr 1 (t 33) (t 34))) (.take (gt 32 36 (.load false 1 (t 35))) (.take (gt 32 37 (.mov (t 0))) (.take (gt 32 38 (.mov (t 9))) (.take (gt 32 39 (.iaddr 1 (t 37) (t 38))) (.take (gt 32 40 (.load false 1 (t 39))) (.alt (gt 32 41 (.call (fn F.cmp_Less_string) [(t 36), (t 40)])) false
    (.take (gt 32 42 (.not (t 41))) (.take (o 43 (.pick (t 32) (t 42) (kb false))) (.done)))
    (.none)))))))))))))) [29, 30, 31, 32, 33, 34, 35, 36, 37, 38, 39, 40, 41, 42])
   (.cond (t 43)
    (.skip)
    (.exit 2)))
   (.block 3 (.ops [mv 44 (t 9),
   ad 45 (t 44) (k 1),
   mv 9 (t 45)] [44, 45])))))
  (.seq (.block 4 (.loop (.seq (.seq (.draw (.take (mv 46 (t 9)) (.take (mv 47 (t 10)) (.take (o 48 (.ibin .leq (t 46) (t 47))) (.take (os 49 (.mov (t 48))) (.take (gt 49 50 (.mov (t 0))) (.take (gt 49 51 (.mov (t 1))) (.take (gt 49 52 (.iaddr 1 (t 50) (t 51))) (.take (gt 49 53 (.load false 1 (t 52))) (.take (gt 49 54 (.mov (t 0))) (.take (gt 49 55 (.mov (t 10))) (.take (gt 49 56 (.iaddr 1 (t 54) (t 55))) (.take (gt 49 57 (.load false 1 (t 56))) (.alt (gt 49 58 (.call (fn F.cmp_Less_string) [(t 53), (t 57)])) false
    (.take (o 59 (.pick (t 49) (t 58) (kb false))) (.done))
    (.none)))))))))))))) [46, 47, 48, 49, 50, 51, 52, 53, 54, 55, 56, 57, 58])
   (.cond (t 59)
    (.skip)
    (.exit 4)))
   (.block 5 (.ops [mv 60 (t 10),
   o 61 (.ibin .sub (t 60) (k 1)),
   mv 10 (t 61)] [60, 61])))))
  (.seq (.seq (.ops [mv 62 (t 9),
  mv 63 (t 10),
  o 64 (.ibin .gtr (t 62) (t 63))] [62, 63])
  (.cond (t 64)
   (.exit 0)
   (.skip)))
  (.seq (.draw (.take (mv 65 (t 0)) (.take (mv 66 (t 9)) (.take (mv 67 (t 0)) (.take (mv 68 (t 10)) (.take (mv 69 (t 0)) (.take (mv 70 (t 10)) (.take (o 71 (.iaddr 1 (t 69) (t 70))) (.take (l1 72 (t 71)) (.take (mv 73 (t 0)) (.take (mv 74 (t 9)) (.take (o 75 (.iaddr 1 (t 73) (t 74))) (.take (l1 76 (t 75)) (.take (o 77 (.iaddr 1 (t 65) (t 66))) (.alt (st 1 (t 77) (t 72)) false
   (.take (o 78 (.iaddr 1 (t 67) (t 68))) (.alt (st 1 (t 78) (t 76)) false
    (.done)
    (.none)))
   (.none))))))))))))))) [65, 66, 67, 68, 69, 70, 71, 72, 73, 74, 75, 76, 77, 78])
  (.seq (.ops [mv 79 (t 9),
  ad 80 (t 79) (k 1),
  mv 9 (t 80)] [79, 80])
  (.ops [mv 81 (t 10),
  o 82 (.ibin .sub (t 81) (k 1)),
  mv 10 (t 82)] [81, 82])))))))))
 (.seq (.ops [mv 83 (t 9),
 mv 8 (t 83)] [9, 83])
 (.ret)))))
def r_slices_partitionEqualOrdered_string : List RRes := [.tmp 8]
theorem fo_slices_partitionEqualOrdered_string {args : List Value} {M : Mem} {R : Value → Mem → Prop} (hn : args.length ≤ 84) (h : vfn Try.prog c_slices_partitionEqualOrdered_string r_slices_partitionEqualOrdered_string args M R) : CallsM Try.prog F.slices_partitionEqualOrdered_string args M R :=
  fn_ok (kf := k_slices_partitionEqualOrdered_string) Try.func66 (by kernel_rfl) (by kernel_rfl) hn (by kernel_rfl) h
/-- slices.partitionOrdered[string] -/
def k_slices_partitionOrdered_string (i : Nat) : List Nat := match i with | 0 => [8, 9] | 1 => [3, 12, 13, 14, 15, 16, 17, 18, 19, 20, 21, 22, 23, 24, 25] | 2 => [2, 26, 27, 28, 29] | 3 => [30, 31, 32, 33, 34, 35, 36, 37, 38, 39, 40, 41, 42] | 4 => [44, 45] | 5 => [46, 47, 48, 49, 50, 51, 52, 53, 54, 55, 56, 57, 58, 59] | 6 => [61, 62] | 7 => [63, 64] | 8 => [0, 1, 66, 67, 68, 69, 70, 71, 72, 73, 74, 75, 76, 77, 78, 79] | 9 => [11, 80] | 10 => [81, 82, 83, 84, 85, 86, 87, 88, 89, 90, 91, 92, 93, 94] | 11 => [95, 96] | 12 => [97, 98] | 13 => [99, 100, 101, 102, 103, 104, 105, 106, 107, 108, 109, 110, 111] | 14 => [113, 114] | 15 => [115, 116, 117, 118, 119, 120, 121, 122, 123, 124, 125, 126, 127, 128] | 16 => [130, 131] | 17 => [132, 133] | 18 => [135, 136, 137, 138, 139, 140, 141, 142, 143, 144, 145, 146, 147, 148] | 19 => [149, 150] | 20 => [151, 152] | 21 => [0, 1, 153, 154, 155, 156, 157, 158, 159, 160, 161, 162, 163, 164, 165, 166] | 22 => [11, 167] | _ => []
def c_slices_partitionOrdered_string : RCode :=
 .seq (.ops [mv 8 (k 0),
 mv 9 (kb false)] [8, 9])
 (.seq (.draw (.take (mv 12 (t 0)) (.take (mv 13 (t 1)) (.take (mv 14 (t 0)) (.take (mv 15 (t 3)) (.take (mv 16 (t 0)) (.take (mv 17 (t 3)) (.take (o 18 (.iaddr 1 (t 16) (t 17))) (.take (l1 19 (t 18)) (.take (mv 20 (t 0)) (.take (mv 21 (t 1)) (.take (o 22 (.iaddr 1 (t 20) (t 21))) (.take (l1 23 (t 22)) (.take (o 24 (.iaddr 1 (t 12) (t 13))) (.alt (st 1 (t 24) (t 19)) false
  (.take (o 25 (.iaddr 1 (t 14) (t 15))) (.alt (st 1 (t 25) (t 23)) false
   (.done)
   (.none)))
  (.none))))))))))))))) [3, 12, 13, 14, 15, 16, 17, 18, 19, 20, 21, 22, 23, 24, 25])
 (.seq (.ops [mv 26 (t 1),
 ad 27 (t 26) (k 1),
 mv 28 (t 2),
 o 29 (.ibin .sub (t 28) (k 1)),
 mv 10 (t 27),
 mv 11 (t 29)] [2, 26, 27, 28, 29])
 (.seq (.block 0 (.loop (.seq (.seq (.draw (.take (mv 30 (t 10)) (.take (mv 31 (t 11)) (.take (o 32 (.ibin .leq (t 30) (t 31))) (.take (os 33 (.mov (t 32))) (.take (gt 33 34 (.mov (t 0))) (.take (gt 33 35 (.mov (t 10))) (.take (gt 33 36 (.iaddr 1 (t 34) (t 35))) (.take (gt 33 37 (.load false 1 (t 36))) (.take (gt 33 38 (.mov (t 0))) (.take (gt 33 39 (.mov (t 1))) (.take (gt 33 40 (.iaddr 1 (t 38) (t 39))) (.take (gt 33 41 (.load false 1 (t 40))) (.alt (gt 33 42 (.call (fn F.cmp_Less_string) [(t 37), (t 41)])) false
   (.take (o 43 (.pick (t 33) (t 42) (kb false))) (.done))
   (.none)))))))))))))) [30, 31, 32, 33, 34, 35, 36, 37, 38, 39, 40, 41, 42])
  (.cond (t 43)
   (.skip)
   (.exit 0)))
  (.block 1 (.ops [mv 44 (t 10),
  ad 45 (t 44) (k 1),
  mv 10 (t 45)] [44, 45])))))
 (.seq (.block 2 (.loop (.seq (.seq (.draw (.take (mv 46 (t 10)) (.take (mv 47 (t 11)) (.take (o 48 (.ibin .leq (t 46) (t 47))) (.take (os 49 (.mov (t 48))) (.take (gt 49 50 (.mov (t 0))) (.take (gt 49 51 (.mov (t 11))) (.take (gt 49 52 (.iaddr 1 (t 50) (t 51))) (.take (gt 49 53 (.load false 1 (t 52))) (.take (gt 49 54 (.mov (t 0))) (.take (gt 49 55 (.mov (t 1))) (.take (gt 49 56 (.iaddr 1 (t 54) (t 55))) (.take (gt 49 57 (.load false 1 (t 56))) (.alt (gt 49 58 (.call (fn F.cmp_Less_string) [(t 53), (t 57)])) false
   (.take (gt 49 59 (.not (t 58))) (.take (o 60 (.pick (t 49) (t 59) (kb false))) (.done)))
   (.none)))))))))))))) [46, 47, 48, 49, 50, 51, 52, 53, 54, 55, 56, 57, 58, 59])
  (.cond (t 60)
   (.skip)
   (.exit 2)))
  (.block 3 (.ops [mv 61 (t 11),
  o 62 (.ibin .sub (t 61) (k 1)),
  mv 11 (t 62)] [61, 62])))))
 (.seq (.seq (.ops [mv 63 (t 10),
 mv 64 (t 11),
 o 65 (.ibin .gtr (t 63) (t 64))] [63, 64])
 (.cond (t 65)
  (.seq (.draw (.take (mv 66 (t 0)) (.take (mv 67 (t 11)) (.take (mv 68 (t 0)) (.take (mv 69 (t 1)) (.take (mv 70 (t 0)) (.take (mv 71 (t 1)) (.take (o 72 (.iaddr 1 (t 70) (t 71))) (.take (l1 73 (t 72)) (.take (mv 74 (t 0)) (.take (mv 75 (t 11)) (.take (o 76 (.iaddr 1 (t 74) (t 75))) (.take (l1 77 (t 76)) (.take (o 78 (.iaddr 1 (t 66) (t 67))) (.alt (st 1 (t 78) (t 73)) false
   (.take (o 79 (.iaddr 1 (t 68) (t 69))) (.alt (st 1 (t 79) (t 77)) false
    (.done)
    (.none)))
   (.none))))))))))))))) [0, 1, 66, 67, 68, 69, 70, 71, 72, 73, 74, 75, 76, 77, 78, 79])
  (.seq (.ops [mv 80 (t 11),
  mv 8 (t 80),
  mv 9 (kb true)] [11, 80])
  (.ret)))
  (.skip)))
 (.seq (.draw (.take (mv 81 (t 0)) (.take (mv 82 (t 10)) (.take (mv 83 (t 0)) (.take (mv 84 (t 11)) (.take (mv 85 (t 0)) (.take (mv 86 (t 11)) (.take (o 87 (.iaddr 1 (t 85) (t 86))) (.take (l1 88 (t 87)) (.take (mv 89 (t 0)) (.take (mv 90 (t 10)) (.take (o 91 (.iaddr 1 (t 89) (t 90))) (.take (l1 92 (t 91)) (.take (o 93 (.iaddr 1 (t 81) (t 82))) (.alt (st 1 (t 93) (t 88)) false
  (.take (o 94 (.iaddr 1 (t 83) (t 84))) (.alt (st 1 (t 94) (t 92)) false
   (.done)
   (.none)))
  (.none))))))))))))))) [81, 82, 83, 84, 85, 86, 87, 88, 89, 90, 91, 92, 93, 94])
 (.seq (.ops [mv 95 (t 10),
 ad 96 (t 95) (k 1),
 mv 10 (t 96)] [95, 96])
 (.seq (.ops [mv 97 (t 11),
 o 98 (.ibin .sub (t 97) (k 1)),
 mv 11 (t 98)] [97, 98])
 (.seq (.block 4 (.loop (.block 5 (.seq (.block 6 (.loop (.seq (.seq (.draw (.take (mv 99 (t 10)) (.take (mv 100 (t 11)) (.take (o 101 (.ibin .leq (t 99) (t 100))) (.take (os 102 (.mov (t 101))) (.take (gt 102 103 (.mov (t 0))) (.take (gt 102 104 (.mov (t 10))) (.take (gt 102 105 (.iaddr 1 (t 103) (t 104))) (.take (gt 102 106 (.load false 1 (t 105))) (.take (gt 102 107 (.mov (t 0))) (.take (gt 102 108 (.mov (t 1))) (.take (gt 102 109 (.iaddr 1 (t 107) (t 108))) (.take (gt 102 110 (.load false 1 (t 109))) (.alt (gt 102 111 (.call (fn F.cmp_Less_string) [(t 106), (t 110)])) false
    (.take (o 112 (.pick (t 102) (t 111) (kb false))) (.done))
    (.none)))))))))))))) [99, 100, 101, 102, 103, 104, 105, 106, 107, 108, 109, 110, 111])
   (.cond (t 112)
    (.skip)
    (.exit 6)))
   (.block 7 (.ops [mv 113 (t 10),
   ad 114 (t 113) (k 1),
   mv 10 (t 114)] [113, 114])))))
  (.seq (.block 8 (.loop (.seq (.seq (.draw (.take (mv 115 (t 10)) (.take (mv 116 (t 11)) (.take (o 117 (.ibin .leq (t 115) (t 116))) (.take (os 118 (.mov (t 117))) (.take (gt 118 119 (.mov (t 0))) (.take (gt 118 120 (.mov (t 11))) (.take (gt 118 121 (.iaddr 1 (t 119) (t 120))) (.take (gt 118 122 (.load false 1 (t 121))) (.take (gt 118 123 (.mov (t 0))) (.take (gt 118 124 (.mov (t 1))) (.take (gt 118 125 (.iaddr 1 (t 123) (t 124))) (.take (gt 118 126 (.load false 1 (t 125))) (.alt (gt 118 127 (.call (fn F.cmp_Less_string) [(t 122), (t 126)])) false
    (.take (gt 118 128 (.not (t 127))) (.take (o 129 (.pick (t 118) (t 128) (kb false))) (.done)))
    (.none)))))))))))))) [115, 116, 117, 118, 119, 120, 121, 122, 123, 124, 125, 126, 127, 128])
   (.cond (t 129)
    (.skip)
    (.exit 8)))
   (.block 9 (.ops [mv 130 (t 11),
   o 131 (.ibin .sub (t 130) (k 1)),
   mv 11 (t 131)] [130, 131])))))
  (.seq (.seq (.ops [mv 132 (t 10),
  mv 133 (t 11),
  o 134 (.ibin .gtr (t 132) (t 133))] [132, 133])
  (.cond (t 134)
   (.exit 4)
   (.skip)))
  (.seq (.draw (.take (mv 135 (t 0)) (.take (mv 136 (t 10)) (.take (mv 137 (t 0)) (.take (mv 138 (t 11)) (.take (mv 139 (t 0)) (.take (mv 140 (t 11)) (.take (o 141 (.iaddr 1 (t 139) (t 140))) (.take (l1 142 (t 141)) (.take (mv 143 (t 0)) (.take (mv 144 (t 10)) (.take (o 145 (.iaddr 1 (t 143) (t 144))) (.take (l1 146 (t 145)) (.take (o 147 (.iaddr 1 (t 135) (t 136))) (.alt (st 1 (t 147) (t 142)) false
   (.take (o 148 (.iaddr 1 (t 137) (t 138))) (.alt (st 1 (t 148) (t 146)) false
    (.done)
    (.none)))
   (.none))))))))))))))) [135, 136, 137, 138, 139, 140, 141, 142, 143, 144, 145, 146, 147, 148])
  (.seq (.ops [mv 149 (t 10),
  ad 150 (t 149) (k 1),
  mv 10 (t 150)] [149, 150])
  (.ops [mv 151 (t 11),
  o 152 (.ibin .sub (t 151) (k 1)),
  mv 11 (t 152)] [151, 152])))))))))
 (.seq (.draw (.take (mv 153 (t 0)) (.take (mv 154 (t 11)) (.take (mv 155 (t 0)) (.take (mv 156 (t 1)) (.take (mv 157 (t 0)) (.take (mv 158 (t 1)) (.take (o 159 (.iaddr 1 (t 157) (t 158))) (.take (l1 160 (t 159)) (.take (mv 161 (t 0)) (.take (mv 162 (t 11)) (.take (o 163 (.iaddr 1 (t 161) (t 162))) (.take (l1 164 (t 163)) (.take (o 165 (.iaddr 1 (t 153) (t 154))) (.alt (st 1 (t 165) (t 160)) false
  (.take (o 166 (.iaddr 1 (t 155) (t 156))) (.alt (st 1 (t 166) (t 164)) false
   (.done)
   (.none)))
  (.none))))))))))))))) [0, 1, 153, 154, 155, 156, 157, 158, 159, 160, 161, 162, 163, 164, 165, 166])
 (.seq (.ops [mv 167 (t 11),
 mv 8 (t 167),
 mv 9 (kb false)] [11, 167])
 (.ret))))))))))))
def r_slices_partitionOrdered_string : List RRes := [.tmp 8, .tmp 9]
theorem fo_slices_partitionOrdered_string {args : List Value} {M : Mem} {R : Value → Mem → Prop} (hn : args.length ≤ 168) (h : vfn Try.prog c_slices_partitionOrdered_string r_slices_partitionOrdered_string args M R) : CallsM Try.prog F.slices_partitionOrdered_string args M R :=
  fn_ok (kf := k_slices_partitionOrdered_string) Try.func67 (by kernel_rfl) (by kernel_rfl) hn (by kernel_rfl) h
/-- math/bits.Len32 -/
def k_math_bits_Len32 (i : Nat) : List Nat := match i with | 1 => [3] | 2 => [5, 6] | 4 => [7] | 5 => [9, 10] | 6 => [11, 12] | 7 => [0, 13, 14, 15, 16, 17, 18] | _ => []
def c_math_bits_Len32 : RCode :=
 .seq (.ops [mv 2 (k 0)] [])
 (.seq (.seq (.ops [mv 3 (t 0),
 o 4 (.ibin .geq (t 3) (.const (.int .u32 65536)))] [3])
 (.cond (t 4)
  (.seq (.ops [mv 5 (t 0),
  o 6 (.ibin .shr (t 5) (.const (.int .u64 16))),
  mv 0 (t 6)] [5, 6])
  (.ops [mv 2 (k 16)] []))
  (.skip)))
 (.seq (.seq (.ops [mv 7 (t 0),
 o 8 (.ibin .geq (t 7) (.const (.int .u32 256)))] [7])
 (.cond (t 8)
  (.seq (.ops [mv 9 (t 0),
  o 10 (.ibin .shr (t 9) (.const (.int .u64 8))),
  mv 0 (t 10)] [9, 10])
  (.ops [mv 11 (t 2),
  ad 12 (t 11) (k 8),
  mv 2 (t 12)] [11, 12]))
  (.skip)))
 (.seq (.ops [mv 13 (t 2),
 mv 14 (t 0),
 o 15 (.conv .u8 (t 14)),
 o 16 (.sidx (.const (.string ⟨#[0, 1, 2, 2, 3, 3, 3, 3, 4, 4, 4, 4, 4, 4, 4, 4, 5, 5, 5, 5, 5, 5, 5, 5, 5, 5, 5, 5, 5, 5, 5, 5, 6, 6, 6, 6, 6, 6, 6, 6, 6, 6, 6, 6, 6, 6, 6, 6, 6, 6, 6, 6, 6, 6, 6, 6, 6, 6, 6, 6, 6, 6, 6, 6, 7, 7, 7, 7, 7, 7, 7, 7, 7, 7, 7, 7, 7, 7, 7, 7, 7, 7, 7, 7, 7, 7, 7, 7, 7, 7, 7, 7, 7, 7, 7, 7, 7, 7, 7, 7, 7, 7, 7, 7, 7, 7, 7, 7, 7, 7, 7, 7, 7, 7, 7, 7, 7, 7, 7, 7, 7, 7, 7, 7, 7, 7, 7, 7, 8, 8, 8, 8, 8, 8, 8, 8, 8, 8, 8, 8, 8, 8, 8, 8, 8, 8, 8, 8, 8, 8, 8, 8, 8, 8, 8, 8, 8, 8, 8, 8, 8, 8, 8, 8, 8, 8, 8, 8, 8, 8, 8, 8, 8, 8, 8, 8, 8, 8, 8, 8, 8, 8, 8, 8, 8, 8, 8, 8, 8, 8, 8, 8, 8, 8, 8, 8, 8, 8, 8, 8, 8, 8, 8, 8, 8, 8, 8, 8, 8, 8, 8, 8, 8, 8, 8, 8, 8, 8, 8, 8, 8, 8, 8, 8, 8, 8, 8, 8, 8, 8, 8, 8, 8, 8, 8, 8, 8, 8, 8, 8, 8, 8, 8, 8, 8, 8, 8, 8, 8, 8, 8, 8, 8, 8, 8, 8]⟩)) (t 15)),
 o 17 (.conv .i64 (t 16)),
 ad 18 (t 13) (t 17),
 mv 2 (t 18)] [0, 13, 14, 15, 16, 17, 18])
 (.ret))))
def r_math_bits_Len32 : List RRes := [.tmp 2]
theorem fo_math_bits_Len32 {args : List Value} {M : Mem} {R : Value → Mem → Prop} (hn : args.length ≤ 19) (h : vfn Try.prog c_math_bits_Len32 r_math_bits_Len32 args M R) : CallsM Try.prog F.math_bits_Len32 args M R :=
  fn_ok (kf := k_math_bits_Len32) Try.func68 (by kernel_rfl) (by kernel_rfl) hn (by kernel_rfl) h
/-- math/bits.Len64 -/
def k_math_bits_Len64 (i : Nat) : List Nat := match i with | 1 => [3] | 2 => [5, 6] | 4 => [7] | 5 => [9, 10] | 6 => [11, 12] | 7 => [13] | 8 => [15, 16] | 9 => [17, 18] | 10 => [0, 19, 20, 21, 22, 23, 24] | _ => []
def c_math_bits_Len64 : RCode :=
 .seq (.ops [mv 2 (k 0)] [])
 (.seq (.seq (.ops [mv 3 (t 0),
 o 4 (.ibin .geq (t 3) (.const (.int .u64 4294967296)))] [3])
 (.cond (t 4)
  (.seq (.ops [mv 5 (t 0),
  o 6 (.ibin .shr (t 5) (.const (.int .u64 32))),
  mv 0 (t 6)] [5, 6])
  (.ops [mv 2 (k 32)] []))
  (.skip)))
 (.seq (.seq (.ops [mv 7 (t 0),
 o 8 (.ibin .geq (t 7) (.const (.int .u64 65536)))] [7])
 (.cond (t 8)
  (.seq (.ops [mv 9 (t 0),
  o 10 (.ibin .shr (t 9) (.const (.int .u64 16))),
  mv 0 (t 10)] [9, 10])
  (.ops [mv 11 (t 2),
  ad 12 (t 11) (k 16),
  mv 2 (t 12)] [11, 12]))
  (.skip)))
 (.seq (.seq (.ops [mv 13 (t 0),
 o 14 (.ibin .geq (t 13) (.const (.int .u64 256)))] [13])
 (.cond (t 14)
  (.seq (.ops [mv 15 (t 0),
  o 16 (.ibin .shr (t 15) (.const (.int .u64 8))),
  mv 0 (t 16)] [15, 16])
  (.ops [mv 17 (t 2),
  ad 18 (t 17) (k 8),
  mv 2 (t 18)] [17, 18]))
  (.skip)))
 (.seq (.ops [mv 19 (t 2),
 mv 20 (t 0),
 o 21 (.conv .u8 (t 20)),
 o 22 (.sidx (.const (.string ⟨#[0, 1, 2, 2, 3, 3, 3, 3, 4, 4, 4, 4, 4, 4, 4, 4, 5, 5, 5, 5, 5, 5, 5, 5, 5, 5, 5, 5, 5, 5, 5, 5, 6, 6, 6, 6, 6, 6, 6, 6, 6, 6, 6, 6, 6, 6, 6, 6, 6, 6, 6, 6, 6, 6, 6, 6, 6, 6, 6, 6, 6, 6, 6, 6, 7, 7, 7, 7, 7, 7, 7, 7, 7, 7, 7, 7, 7, 7, 7, 7, 7, 7, 7, 7, 7, 7, 7, 7, 7, 7, 7, 7, 7, 7, 7, 7, 7, 7, 7, 7, 7, 7, 7, 7, 7, 7, 7, 7, 7, 7, 7, 7, 7, 7, 7, 7, 7, 7, 7, 7, 7, 7, 7, 7, 7, 7, 7, 7, 8, 8, 8, 8, 8, 8, 8, 8, 8, 8, 8, 8, 8, 8, 8, 8, 8, 8, 8, 8, 8, 8, 8, 8, 8, 8, 8, 8, 8, 8, 8, 8, 8, 8, 8, 8, 8, 8, 8, 8, 8, 8, 8, 8, 8, 8, 8, 8, 8, 8, 8, 8, 8, 8, 8, 8, 8, 8, 8, 8, 8, 8, 8, 8, 8, 8, 8, 8, 8, 8, 8, 8, 8, 8, 8, 8, 8, 8, 8, 8, 8, 8, 8, 8, 8, 8, 8, 8, 8, 8, 8, 8, 8, 8, 8, 8, 8, 8, 8, 8, 8, 8, 8, 8, 8, 8, 8, 8, 8, 8, 8, 8, 8, 8, 8, 8, 8, 8, 8, 8, 8, 8, 8, 8, 8, 8, 8, 8]⟩)) (t 21)),
 o 23 (.conv .i64 (t 22)),
 ad 24 (t 19) (t 23),
 mv 2 (t 24)] [0, 19, 20, 21, 22, 23, 24])
 (.ret)))))
def r_math_bits_Len64 : List RRes := [.tmp 2]
theorem fo_math_bits_Len64 {args : List Value} {M : Mem} {R : Value → Mem → Prop} (hn : args.length ≤ 25) (h : vfn Try.prog c_math_bits_Len64 r_math_bits_Len64 args M R) : CallsM Try.prog F.math_bits_Len64 args M R :=
  fn_ok (kf := k_math_bits_Len64) Try.func69 (by kernel_rfl) (by kernel_rfl) hn (by kernel_rfl) h
/-- portage/record.rows$1 -/
def k_record_rows_1 (i : Nat) : List Nat := match i with | 1 => [6, 7, 8, 9, 10, 11, 12] | 2 => [4, 13, 14, 15, 16, 17, 18, 19, 20] | 3 => [5, 22, 23, 24] | _ => []
def c_record_rows_1 : RCode :=
 .seq (.ops [mv 3 (k 0)] [])
 (.block 0 (.loop (.block 1 (.seq (.ops [l1 7 (t 1),
  mv 8 (t 3),
  o 9 (.slx 1 (t 7) (some (t 8)) none),
  ca 10 F.record_First [(t 9)],
  mv 6 (t 10),
  ex 11 (t 6) 0,
  ex 12 (t 6) 1,
  mv 4 (t 11),
  mv 5 (t 12)] [6, 7, 8, 9, 10, 11, 12])
  (.seq (.seq (.ops [mv 13 (t 5),
  o 14 (.ibin .eql (t 13) (k 0)),
  os 15 (.mov (t 14)),
  gf 15 16 (.mov (t 0)),
  gf 15 17 (.mov (t 3)),
  gf 15 18 (.mov (t 4)),
  gf 15 19 (.call (t 16) [(t 17), (t 18)]),
  gf 15 20 (.not (t 19)),
  o 21 (.pick (t 15) (kb true) (t 20))] [4, 13, 14, 15, 16, 17, 18, 19, 20])
  (.cond (t 21)
   (.ret)
   (.skip)))
  (.ops [mv 22 (t 3),
  mv 23 (t 5),
  ad 24 (t 22) (t 23),
  mv 3 (t 24)] [5, 22, 23, 24]))))))
def r_record_rows_1 : List RRes := []
theorem fo_record_rows_1 {args : List Value} {M : Mem} {R : Value → Mem → Prop} (hn : args.length ≤ 25) (h : vfn Try.prog c_record_rows_1 r_record_rows_1 args M R) : CallsM Try.prog F.record_rows_1 args M R :=
  fn_ok (kf := k_record_rows_1) Try.func70 (by kernel_rfl) (by kernel_rfl) hn (by kernel_rfl) h
/-- portage/record.First -/
def k_record_First (i : Nat) : List Nat := match i with | 0 => [2, 3] | 1 => [9, 10, 11, 12, 13] | 2 => [14, 15, 16, 17, 18] | 3 => [5, 7, 19, 20, 21, 22, 23, 24, 25, 26, 27, 28, 29, 30, 31, 32, 33, 34, 35, 36, 37, 38, 39] | 5 => [41, 42, 43, 44, 45] | 6 => [0, 6, 46, 47, 48, 49, 50, 51, 52] | 8 => [4, 8, 54, 55, 56, 57, 58, 59] | _ => []
def c_record_First : RCode :=
 .seq (.ops [mv 2 (.const sn),
 mv 3 (k 0)] [2, 3])
 (.seq (.ops [mv 10 (t 0),
 ca 11 F.bits_Get [(t 10), (k 0), (k 4)],
 mv 9 (t 11),
 ex 12 (t 9) 0,
 ex 13 (t 9) 1,
 mv 4 (t 12),
 mv 5 (t 13)] [9, 10, 11, 12, 13])
 (.seq (.ops [mv 15 (t 0),
 ca 16 F.bits_Get [(t 15), (k 4), (k 4)],
 mv 14 (t 16),
 ex 17 (t 14) 0,
 ex 18 (t 14) 1,
 mv 6 (t 17),
 mv 7 (t 18)] [14, 15, 16, 17, 18])
 (.seq (.seq (.ops [mv 19 (t 5),
 o 20 (.ibin .neq (t 19) (k 0)),
 os 21 (.mov (t 20)),
 gf 21 22 (.mov (t 7)),
 gf 21 23 (.ibin .neq (t 22) (k 0)),
 o 24 (.pick (t 21) (kb true) (t 23)),
 os 25 (.mov (t 24)),
 gf 25 26 (.mov (t 4)),
 gf 25 27 (.ibin .eql (t 26) (.const (.int .u64 0))),
 o 28 (.pick (t 25) (kb true) (t 27)),
 os 29 (.mov (t 28)),
 gf 29 30 (.mov (t 4)),
 gf 29 31 (.ibin .gtr (t 30) (.const (.int .u64 65536))),
 o 32 (.pick (t 29) (kb true) (t 31)),
 os 33 (.mov (t 32)),
 gf 33 34 (.mov (t 0)),
 gf 33 35 (.len (t 34)),
 gf 33 36 (.ibin .sub (t 35) (k 8)),
 gf 33 37 (.conv .u64 (t 36)),
 gf 33 38 (.mov (t 4)),
 gf 33 39 (.ibin .lss (t 37) (t 38)),
 o 40 (.pick (t 33) (kb true) (t 39))] [5, 7, 19, 20, 21, 22, 23, 24, 25, 26, 27, 28, 29, 30, 31, 32, 33, 34, 35, 36, 37, 38, 39])
 (.cond (t 40)
  (.seq (.ops [mv 2 (.const sn),
  mv 3 (k 0)] [])
  (.ret))
  (.skip)))
 (.seq (.ops [mv 41 (t 0),
 mv 42 (t 4),
 o 43 (.conv .i64 (t 42)),
 ad 44 (k 8) (t 43),
 o 45 (.slx 1 (t 41) (some (k 8)) (some (t 44))),
 mv 8 (t 45)] [41, 42, 43, 44, 45])
 (.seq (.seq (.ops [mv 46 (t 0),
 o 47 (.slx 1 (t 46) none (some (k 4))),
 mv 48 (t 8),
 o 49 (.mkSl false 32 2 [sn, sn] [(0, 1, (t 47)), (1, 1, (t 48))]),
 ca 50 F.crc_Sum [(t 49)],
 o 51 (.conv .u64 (t 50)),
 mv 52 (t 6),
 o 53 (.ibin .neq (t 51) (t 52))] [0, 6, 46, 47, 48, 49, 50, 51, 52])
 (.cond (t 53)
  (.seq (.ops [mv 2 (.const sn),
  mv 3 (k 0)] [])
  (.ret))
  (.skip)))
 (.seq (.ops [o 54 (.mkSl false 5 0 [] []),
 mv 55 (t 8),
 o 56 (.app 5 1 1 [(u 0)] (t 54) (t 55)),
 mv 57 (t 4),
 o 58 (.conv .i64 (t 57)),
 ad 59 (k 8) (t 58),
 mv 2 (t 56),
 mv 3 (t 59)] [4, 8, 54, 55, 56, 57, 58, 59])
 (.ret)))))))
def r_record_First : List RRes := [.tmp 2, .tmp 3]
theorem fo_record_First {args : List Value} {M : Mem} {R : Value → Mem → Prop} (hn : args.length ≤ 60) (h : vfn Try.prog c_record_First r_record_First args M R) : CallsM Try.prog F.record_First args M R :=
  fn_ok (kf := k_record_First) Try.func71 (by kernel_rfl) (by kernel_rfl) hn (by kernel_rfl) h
/-- slices.siftDownOrdered[string] -/
def k_slices_siftDownOrdered_string (i : Nat) : List Nat := match i with | 0 => [1, 10] | 1 => [11, 12, 13] | 2 => [14, 15] | 3 => [17, 18, 19, 20, 21, 22, 23, 24, 25, 26, 27, 28, 29, 30, 31, 32, 33, 34, 35] | 4 => [37, 38] | 5 => [39, 40, 41, 42, 43, 44, 45, 46, 47, 48, 49, 50, 51] | 6 => [8, 53, 54, 55, 56, 57, 58, 59, 60, 61, 62, 63, 64, 65, 66, 67, 68, 69, 70, 71, 72, 73, 74] | 7 => [9, 75] | _ => []
def c_slices_siftDownOrdered_string : RCode :=
 .seq (.ops [mv 10 (t 1),
 mv 8 (t 10)] [1, 10])
 (.block 0 (.loop (.block 1 (.seq (.ops [mv 11 (t 8),
  o 12 (.ibin .mul (k 2) (t 11)),
  ad 13 (t 12) (k 1),
  mv 9 (t 13)] [11, 12, 13])
  (.seq (.seq (.ops [mv 14 (t 9),
  mv 15 (t 2),
  o 16 (.ibin .geq (t 14) (t 15))] [14, 15])
  (.cond (t 16)
   (.exit 0)
   (.skip)))
  (.seq (.seq (.draw (.take (mv 17 (t 9)) (.take (ad 18 (t 17) (k 1)) (.take (mv 19 (t 2)) (.take (o 20 (.ibin .lss (t 18) (t 19))) (.take (os 21 (.mov (t 20))) (.take (gt 21 22 (.mov (t 0))) (.take (gt 21 23 (.mov (t 3))) (.take (gt 21 24 (.mov (t 9))) (.take (gt 21 25 (.ibin .add (t 23) (t 24))) (.take (gt 21 26 (.iaddr 1 (t 22) (t 25))) (.take (gt 21 27 (.load false 1 (t 26))) (.take (gt 21 28 (.mov (t 0))) (.take (gt 21 29 (.mov (t 3))) (.take (gt 21 30 (.mov (t 9))) (.take (gt 21 31 (.ibin .add (t 29) (t 30))) (.take (gt 21 32 (.ibin .add (t 31) (k 1))) (.take (gt 21 33 (.iaddr 1 (t 28) (t 32))) (.take (gt 21 34 (.load false 1 (t 33))) (.alt (gt 21 35 (.call (fn F.cmp_Less_string) [(t 27), (t 34)])) false
   (.take (o 36 (.pick (t 21) (t 35) (kb false))) (.done))
   (.none)))))))))))))))))))) [17, 18, 19, 20, 21, 22, 23, 24, 25, 26, 27, 28, 29, 30, 31, 32, 33, 34, 35])
  (.cond (t 36)
   (.ops [mv 37 (t 9),
   ad 38 (t 37) (k 1),
   mv 9 (t 38)] [37, 38])
   (.skip)))
  (.seq (.seq (.draw (.take (mv 39 (t 0)) (.take (mv 40 (t 3)) (.take (mv 41 (t 8)) (.take (ad 42 (t 40) (t 41)) (.take (o 43 (.iaddr 1 (t 39) (t 42))) (.take (l1 44 (t 43)) (.take (mv 45 (t 0)) (.take (mv 46 (t 3)) (.take (mv 47 (t 9)) (.take (ad 48 (t 46) (t 47)) (.take (o 49 (.iaddr 1 (t 45) (t 48))) (.take (l1 50 (t 49)) (.alt (ca 51 F.cmp_Less_string [(t 44), (t 50)]) false
   (.take (o 52 (.not (t 51))) (.done))
   (.none)))))))))))))) [39, 40, 41, 42, 43, 44, 45, 46, 47, 48, 49, 50, 51])
  (.cond (t 52)
   (.ret)
   (.skip)))
  (.seq (.draw (.take (mv 53 (t 0)) (.take (mv 54 (t 3)) (.take (mv 55 (t 8)) (.take (ad 56 (t 54) (t 55)) (.take (mv 57 (t 0)) (.take (mv 58 (t 3)) (.take (mv 59 (t 9)) (.take (ad 60 (t 58) (t 59)) (.take (mv 61 (t 0)) (.take (mv 62 (t 3)) (.take (mv 63 (t 9)) (.take (ad 64 (t 62) (t 63)) (.take (o 65 (.iaddr 1 (t 61) (t 64))) (.take (l1 66 (t 65)) (.take (mv 67 (t 0)) (.take (mv 68 (t 3)) (.take (mv 69 (t 8)) (.take (ad 70 (t 68) (t 69)) (.take (o 71 (.iaddr 1 (t 67) (t 70))) (.take (l1 72 (t 71)) (.take (o 73 (.iaddr 1 (t 53) (t 56))) (.alt (st 1 (t 73) (t 66)) false
   (.take (o 74 (.iaddr 1 (t 57) (t 60))) (.alt (st 1 (t 74) (t 72)) false
    (.done)
    (.none)))
   (.none))))))))))))))))))))))) [8, 53, 54, 55, 56, 57, 58, 59, 60, 61, 62, 63, 64, 65, 66, 67, 68, 69, 70, 71, 72, 73, 74])
  (.ops [mv 75 (t 9),
  mv 8 (t 75)] [9, 75])))))))))
def r_slices_siftDownOrdered_string : List RRes := []
theorem fo_slices_siftDownOrdered_string {args : List Value} {M : Mem} {R : Value → Mem → Prop} (hn : args.length ≤ 76) (h : vfn Try.prog c_slices_siftDownOrdered_string r_slices_siftDownOrdered_string args M R) : CallsM Try.prog F.slices_siftDownOrdered_string args M R :=
  fn_ok (kf := k_slices_siftDownOrdered_string) Try.func72 (by kernel_rfl) (by kernel_rfl) hn (by kernel_rfl) h
/-- slices.nextPowerOfTwo -/
def k_slices_nextPowerOfTwo (i : Nat) : List Nat := match i with | 0 => [2] | 1 => [0, 3, 4, 5, 6] | _ => []
def c_slices_nextPowerOfTwo : RCode :=
 .seq (.ops [mv 2 (.const (.int .u64 0))] [2])
 (.seq (.ops [mv 3 (t 0),
 o 4 (.conv .u64 (t 3)),
 ca 5 F.math_bits_Len [(t 4)],
 o 6 (.ibin .shl (.const (.int .u64 1)) (t 5)),
 mv 2 (t 6)] [0, 3, 4, 5, 6])
 (.ret))
def r_slices_nextPowerOfTwo : List RRes := [.tmp 2]
theorem fo_slices_nextPowerOfTwo {args : List Value} {M : Mem} {R : Value → Mem → Prop} (hn : args.length ≤ 7) (h : vfn Try.prog c_slices_nextPowerOfTwo r_slices_nextPowerOfTwo args M R) : CallsM Try.prog F.slices_nextPowerOfTwo args M R :=
  fn_ok (kf := k_slices_nextPowerOfTwo) Try.func73 (by kernel_rfl) (by kernel_rfl) hn (by kernel_rfl) h
/-- (*slices.xorshift).Next -/
def k_slices_xorshift_Next (i : Nat) : List Nat := match i with | 0 => [2] | 1 => [3, 4, 5, 6, 7, 8, 9, 10, 11] | 2 => [12, 13, 14, 15, 16, 17, 18, 19, 20] | 3 => [21, 22, 23, 24, 25, 26, 27, 28, 29] | 4 => [0, 30, 31, 32] | _ => []
def c_slices_xorshift_Next : RCode :=
 .seq (.ops [mv 2 (.const (.int .u64 0))] [2])
 (.seq (.draw (.take (mv 3 (t 0)) (.take (o 4 (.nilck (t 3))) (.take (l1 5 (t 4)) (.take (mv 6 (t 0)) (.take (o 7 (.nilck (t 6))) (.take (l1 8 (t 7)) (.take (o 9 (.ibin .shl (t 8) (.const (.int .u64 13)))) (.take (o 10 (.ibin .xor (t 5) (t 9))) (.take (o 11 (.nilck (t 3))) (.alt (st 1 (t 11) (t 10)) false
  (.done)
  (.none))))))))))) [3, 4, 5, 6, 7, 8, 9, 10, 11])
 (.seq (.draw (.take (mv 12 (t 0)) (.take (o 13 (.nilck (t 12))) (.take (l1 14 (t 13)) (.take (mv 15 (t 0)) (.take (o 16 (.nilck (t 15))) (.take (l1 17 (t 16)) (.take (o 18 (.ibin .shr (t 17) (.const (.int .u64 7)))) (.take (o 19 (.ibin .xor (t 14) (t 18))) (.take (o 20 (.nilck (t 12))) (.alt (st 1 (t 20) (t 19)) false
  (.done)
  (.none))))))))))) [12, 13, 14, 15, 16, 17, 18, 19, 20])
 (.seq (.draw (.take (mv 21 (t 0)) (.take (o 22 (.nilck (t 21))) (.take (l1 23 (t 22)) (.take (mv 24 (t 0)) (.take (o 25 (.nilck (t 24))) (.take (l1 26 (t 25)) (.take (o 27 (.ibin .shl (t 26) (.const (.int .u64 17)))) (.take (o 28 (.ibin .xor (t 23) (t 27))) (.take (o 29 (.nilck (t 21))) (.alt (st 1 (t 29) (t 28)) false
  (.done)
  (.none))))))))))) [21, 22, 23, 24, 25, 26, 27, 28, 29])
 (.seq (.ops [mv 30 (t 0),
 o 31 (.nilck (t 30)),
 l1 32 (t 31),
 mv 2 (t 32)] [0, 30, 31, 32])
 (.ret)))))
def r_slices_xorshift_Next : List RRes := [.tmp 2]
theorem fo_slices_xorshift_Next {args : List Value} {M : Mem} {R : Value → Mem → Prop} (hn : args.length ≤ 33) (h : vfn Try.prog c_slices_xorshift_Next r_slices_xorshift_Next args M R) : CallsM Try.prog F.slices_xorshift_Next args M R :=
  fn_ok (kf := k_slices_xorshift_Next) Try.func74 (by kernel_rfl) (by kernel_rfl) hn (by kernel_rfl) h
/-- slices.medianAdjacentOrdered[string] -/
def k_slices_medianAdjacentOrdered_string (i : Nat) : List Nat := match i with | 0 => [6] | 1 => [0, 1, 2, 7, 8, 9, 10, 11, 12, 13, 14] | _ => []
def c_slices_medianAdjacentOrdered_string : RCode :=
 .seq (.ops [mv 6 (k 0)] [6])
 (.seq (.ops [mv 7 (t 0),
 mv 8 (t 1),
 o 9 (.ibin .sub (t 8) (k 1)),
 mv 10 (t 1),
 mv 11 (t 1),
 ad 12 (t 11) (k 1),
 mv 13 (t 2),
 ca 14 F.slices_medianOrdered_string [(t 7), (t 9), (t 10), (t 12), (t 13)],
 mv 6 (t 14)] [0, 1, 2, 7, 8, 9, 10, 11, 12, 13, 14])
 (.ret))
def r_slices_medianAdjacentOrdered_string : List RRes := [.tmp 6]
theorem fo_slices_medianAdjacentOrdered_string {args : List Value} {M : Mem} {R : Value → Mem → Prop} (hn : args.length ≤ 15) (h : vfn Try.prog c_slices_medianAdjacentOrdered_string r_slices_medianAdjacentOrdered_string args M R) : CallsM Try.prog F.slices_medianAdjacentOrdered_string args M R :=
  fn_ok (kf := k_slices_medianAdjacentOrdered_string) Try.func75 (by kernel_rfl) (by kernel_rfl) hn (by kernel_rfl) h
/-- slices.medianOrdered[string] -/
def k_slices_medianOrdered_string (i : Nat) : List Nat := match i with | 0 => [10] | 1 => [11, 12, 13, 14, 15, 16, 17, 18] | 2 => [3, 19, 20, 21, 22, 23, 24, 25, 26] | 3 => [0, 1, 4, 27, 28, 29, 30, 31, 32, 33, 34] | 4 => [2, 35] | _ => []
def c_slices_medianOrdered_string : RCode :=
 .seq (.ops [mv 10 (k 0)] [10])
 (.seq (.ops [mv 12 (t 0),
 mv 13 (t 1),
 mv 14 (t 2),
 mv 15 (t 4),
 ca 16 F.slices_order2Ordered_string [(t 12), (t 13), (t 14), (t 15)],
 mv 11 (t 16),
 ex 17 (t 11) 0,
 ex 18 (t 11) 1,
 mv 1 (t 17),
 mv 2 (t 18)] [11, 12, 13, 14, 15, 16, 17, 18])
 (.seq (.ops [mv 20 (t 0),
 mv 21 (t 2),
 mv 22 (t 3),
 mv 23 (t 4),
 ca 24 F.slices_order2Ordered_string [(t 20), (t 21), (t 22), (t 23)],
 mv 19 (t 24),
 ex 25 (t 19) 0,
 ex 26 (t 19) 1,
 mv 2 (t 25),
 mv 3 (t 26)] [3, 19, 20, 21, 22, 23, 24, 25, 26])
 (.seq (.ops [mv 28 (t 0),
 mv 29 (t 1),
 mv 30 (t 2),
 mv 31 (t 4),
 ca 32 F.slices_order2Ordered_string [(t 28), (t 29), (t 30), (t 31)],
 mv 27 (t 32),
 ex 33 (t 27) 0,
 ex 34 (t 27) 1,
 mv 1 (t 33),
 mv 2 (t 34)] [0, 1, 4, 27, 28, 29, 30, 31, 32, 33, 34])
 (.seq (.ops [mv 35 (t 2),
 mv 10 (t 35)] [2, 35])
 (.ret)))))
def r_slices_medianOrdered_string : List RRes := [.tmp 10]
theorem fo_slices_medianOrdered_string {args : List Value} {M : Mem} {R : Value → Mem → Prop} (hn : args.length ≤ 36) (h : vfn Try.prog c_slices_medianOrdered_string r_slices_medianOrdered_string args M R) : CallsM Try.prog F.slices_medianOrdered_string args M R :=
  fn_ok (kf := k_slices_medianOrdered_string) Try.func76 (by kernel_rfl) (by kernel_rfl) hn (by kernel_rfl) h
/-- cmp.isNaN[string] -/
def k_cmp_isNaN_string (i : Nat) : List Nat := match i with | 0 => [2] | 1 => [0, 3, 4, 5] | _ => []
def c_cmp_isNaN_string : RCode :=
 .seq (.ops [mv 2 (kb false)] [2])
 (.seq (.ops [mv 3 (t 0),
 mv 4 (t 0),
 o 5 (.strE .neq (t 3) (t 4)),
 mv 2 (t 5)] [0, 3, 4, 5])
 (.ret))
def r_cmp_isNaN_string : List RRes := [.tmp 2]
theorem fo_cmp_isNaN_string {args : List Value} {M : Mem} {R : Value → Mem → Prop} (hn : args.length ≤ 6) (h : vfn Try.prog c_cmp_isNaN_string r_cmp_isNaN_string args M R) : CallsM Try.prog F.cmp_isNaN_string args M R :=
  fn_ok (kf := k_cmp_isNaN_string) Try.func77 (by kernel_rfl) (by kernel_rfl) hn (by kernel_rfl) h
/-- portage/bits.Get -/
def k_bits_Get (i : Nat) : List Nat := match i with | 0 => [6, 7] | 1 => [11, 12, 13, 14, 15, 16, 17, 18, 19] | 3 => [21, 22, 23, 24, 25, 26, 27, 28, 29, 30, 31] | 6 => [0, 1, 2, 33, 34, 35, 36, 37] | 8 => [42, 43] | 9 => [10, 44, 45, 46, 47, 48] | 10 => [49] | 11 => [8, 50] | _ => []
def c_bits_Get : RCode :=
 .seq (.ops [mv 6 (.const (.int .u64 0)),
 mv 7 (k 0)] [6, 7])
 (.seq (.seq (.ops [mv 11 (t 2),
 o 12 (.ibin .lss (t 11) (k 1)),
 os 13 (.mov (t 12)),
 gf 13 14 (.mov (t 2)),
 gf 13 15 (.ibin .gtr (t 14) (k 8)),
 o 16 (.pick (t 13) (kb true) (t 15)),
 os 17 (.mov (t 16)),
 gf 17 18 (.mov (t 1)),
 gf 17 19 (.ibin .lss (t 18) (k 0)),
 o 20 (.pick (t 17) (kb true) (t 19))] [11, 12, 13, 14, 15, 16, 17, 18, 19])
 (.cond (t 20)
  (.seq (.ops [mv 6 (.const (.int .u64 0)),
  mv 7 (k 1)] [])
  (.ret))
  (.skip)))
 (.seq (.seq (.ops [mv 21 (t 1),
 mv 22 (t 0),
 o 23 (.len (t 22)),
 o 24 (.ibin .gtr (t 21) (t 23)),
 os 25 (.mov (t 24)),
 gf 25 26 (.mov (t 0)),
 gf 25 27 (.len (t 26)),
 gf 25 28 (.mov (t 1)),
 gf 25 29 (.ibin .sub (t 27) (t 28)),
 gf 25 30 (.mov (t 2)),
 gf 25 31 (.ibin .lss (t 29) (t 30)),
 o 32 (.pick (t 25) (kb true) (t 31))] [21, 22, 23, 24, 25, 26, 27, 28, 29, 30, 31])
 (.cond (t 32)
  (.seq (.ops [mv 6 (.const (.int .u64 0)),
  mv 7 (k 2)] [])
  (.ret))
  (.skip)))
 (.seq (.ops [mv 8 (.const (.int .u64 0))] [])
 (.seq (.seq (.ops [mv 33 (t 0),
 mv 34 (t 1),
 mv 35 (t 1),
 mv 36 (t 2),
 ad 37 (t 35) (t 36),
 o 38 (.slx 1 (t 33) (some (t 34)) (some (t 37))),
 o 39 (.len (t 38)),
 mv 40 (k 0)] [0, 1, 2, 33, 34, 35, 36, 37])
 (.block 0 (.loop (.seq (.ops [o 41 (.ibin .lss (t 40) (t 39))] [])
  (.seq (.cond (t 41)
   (.skip)
   (.exit 0))
  (.seq (.block 1 (.seq (.ops [o 42 (.iaddr 1 (t 38) (t 40)),
  l1 43 (t 42),
  mv 10 (t 43)] [42, 43])
  (.ops [mv 44 (t 8),
  o 45 (.ibin .shl (t 44) (.const (.int .u64 8))),
  mv 46 (t 10),
  o 47 (.conv .u64 (t 46)),
  o 48 (.ibin .or (t 45) (t 47)),
  mv 8 (t 48)] [10, 44, 45, 46, 47, 48])))
  (.ops [ad 49 (t 40) (k 1),
  mv 40 (t 49)] [49])))))))
 (.seq (.ops [mv 50 (t 8),
 mv 6 (t 50),
 mv 7 (k 0)] [8, 50])
 (.ret))))))
def r_bits_Get : List RRes := [.tmp 6, .tmp 7]
theorem fo_bits_Get {args : List Value} {M : Mem} {R : Value → Mem → Prop} (hn : args.length ≤ 51) (h : vfn Try.prog c_bits_Get r_bits_Get args M R) : CallsM Try.prog F.bits_Get args M R :=
  fn_ok (kf := k_bits_Get) Try.func78 (by kernel_rfl) (by kernel_rfl) hn (by kernel_rfl) h
/-- slices.order2Ordered[string] -/
def k_slices_order2Ordered_string (i : Nat) : List Nat := match i with | 0 => [8, 9] | 1 => [0, 10, 11, 12, 13, 14, 15, 16, 17] | 2 => [3, 19, 20, 21, 22, 23] | 3 => [1, 2, 24, 25] | 4 => [1, 2, 26, 27] | _ => []
def c_slices_order2Ordered_string : RCode :=
 .seq (.ops [mv 8 (k 0),
 mv 9 (k 0)] [8, 9])
 (.seq (.seq (.draw (.take (mv 10 (t 0)) (.take (mv 11 (t 2)) (.take (o 12 (.iaddr 1 (t 10) (t 11))) (.take (l1 13 (t 12)) (.take (mv 14 (t 0)) (.take (mv 15 (t 1)) (.take (o 16 (.iaddr 1 (t 14) (t 15))) (.take (l1 17 (t 16)) (.alt (ca 18 F.cmp_Less_string [(t 13), (t 17)]) false
  (.done)
  (.none)))))))))) [0, 10, 11, 12, 13, 14, 15, 16, 17])
 (.cond (t 18)
  (.seq (.ops [mv 19 (t 3),
  o 20 (.nilck (t 19)),
  l1 21 (t 20),
  ad 22 (t 21) (k 1),
  o 23 (.nilck (t 19)),
  st 1 (t 23) (t 22)] [3, 19, 20, 21, 22, 23])
  (.seq (.ops [mv 24 (t 2),
  mv 25 (t 1),
  mv 8 (t 24),
  mv 9 (t 25)] [1, 2, 24, 25])
  (.ret)))
  (.skip)))
 (.seq (.ops [mv 26 (t 1),
 mv 27 (t 2),
 mv 8 (t 26),
 mv 9 (t 27)] [1, 2, 26, 27])
 (.ret)))
def r_slices_order2Ordered_string : List RRes := [.tmp 8, .tmp 9]
theorem fo_slices_order2Ordered_string {args : List Value} {M : Mem} {R : Value → Mem → Prop} (hn : args.length ≤ 28) (h : vfn Try.prog c_slices_order2Ordered_string r_slices_order2Ordered_string args M R) : CallsM Try.prog F.slices_order2Ordered_string args M R :=
  fn_ok (kf := k_slices_order2Ordered_string) Try.func79 (by kernel_rfl) (by kernel_rfl) hn (by kernel_rfl) h

end Go.Proofs.Ytnlghoenbhbfhaa

