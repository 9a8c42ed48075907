/- The resolved texts of the functions; made by program. -/
import Derived.Test.YtdjgmhifocdelaaNames
namespace Go.Proofs.Ytdjgmhifocdelaa
open Go.Vm Go.Vm.S
/-- portage/portagelaw10.DiskArms -/
def k_law10_DiskArms (i : Nat) : List Nat := match i with | 0 => [6] | 1 => [12, 13, 14, 15, 16] | 2 => [8, 17, 18, 19, 20, 21] | 3 => [0, 23, 24, 25, 26, 27, 28] | 4 => [29, 30, 31, 32] | 5 => [33, 34, 35] | 9 => [37, 38, 39, 40, 41, 42, 43] | 11 => [11] | 12 => [47, 48, 49, 50] | 13 => [53] | 14 => [54, 55, 56, 57, 58, 59, 60, 61, 62, 63, 64, 65] | 15 => [67] | 16 => [68, 69, 70, 71, 72, 73, 74] | 17 => [76] | 18 => [77, 78, 79, 80, 81, 82, 83, 84, 85, 86, 87, 88] | 19 => [90] | 20 => [91, 92, 93, 94, 95, 96, 97, 98, 99, 100, 101, 102] | 21 => [51, 104] | 22 => [105, 106, 107, 108, 109, 110, 111] | 23 => [112, 113, 114, 115, 116, 117] | 25 => [11, 119] | 26 => [121, 122] | 27 => [123, 124, 125, 126, 127] | 10 => [45, 46] | 29 => [2, 7, 9, 129, 130, 131, 132, 133, 134, 135, 136, 137, 138, 139, 140, 141, 142, 143, 144] | _ => []
def c_law10_DiskArms : RCode :=
 .seq (.ops [mv 6 (kb false)] [6])
 (.seq (.ops [mv 13 (t 0),
 ca 14 F.disk_New [(t 13)],
 mv 12 (t 14),
 ex 15 (t 12) 0,
 ex 16 (t 12) 1,
 mv 7 (t 15),
 mv 8 (t 16)] [12, 13, 14, 15, 16])
 (.seq (.seq (.ops [mv 17 (t 8),
 o 18 (.ibin .neq (t 17) (k 0)),
 os 19 (.mov (t 18)),
 gf 19 20 (.mov (t 7)),
 gf 19 21 (.pnil .eql (t 20) (.const (.pointer none))),
 o 22 (.pick (t 19) (kb true) (t 21))] [8, 17, 18, 19, 20, 21])
 (.cond (t 22)
  (.seq (.ops [mv 23 (t 0),
  ca 24 F.law10_may [(t 23)],
  o 25 (.not (t 24)),
  os 26 (.mov (t 25)),
  gt 26 27 (.call (fn F.law10_awake) []),
  o 28 (.pick (t 26) (t 27) (kb false)),
  mv 6 (t 28)] [0, 23, 24, 25, 26, 27, 28])
  (.ret))
  (.skip)))
 (.seq (.ops [mv 29 (t 2),
 o 30 (.conv .u64 (t 29)),
 o 31 (.ibin .rem (t 30) (.const (.int .u64 40))),
 o 32 (.conv .i64 (t 31)),
 mv 2 (t 32)] [29, 30, 31, 32])
 (.seq (.seq (.ops [mv 33 (t 7),
 mv 34 (t 2),
 ca 35 F.disk_Disk_Arm [(t 33), (t 34)],
 o 36 (.ibin .neq (t 35) (k 0))] [33, 34, 35])
 (.cond (t 36)
  (.seq (.ops [mv 6 (kb false)] [])
  (.ret))
  (.skip)))
 (.seq (.ops [mv 9 (k 0)] [])
 (.seq (.seq (.ops [mv 10 (k 0)] [])
 (.block 0 (.loop (.seq (.seq (.ops [mv 37 (t 10),
  mv 38 (t 1),
  o 39 (.len (t 38)),
  o 40 (.ibin .lss (t 37) (t 39)),
  os 41 (.mov (t 40)),
  gt 41 42 (.mov (t 10)),
  gt 41 43 (.ibin .lss (t 42) (k 100)),
  o 44 (.pick (t 41) (t 43) (kb false))] [37, 38, 39, 40, 41, 42, 43])
  (.cond (t 44)
   (.skip)
   (.exit 0)))
  (.seq (.block 1 (.seq (.ops [mv 11 (k 4)] [11])
  (.seq (.seq (.ops [mv 47 (t 1),
  mv 48 (t 10),
  o 49 (.iaddr 6 (t 47) (t 48)),
  fa 50 0 (t 49),
  l1 51 (t 50)] [47, 48, 49, 50])
  (.block 2 (.seq (.ops [o 53 (.ibin .eql (t 51) (k 0)),
  mv 52 (t 53)] [53])
  (.cond (t 52)
   (.draw (.take (mv 54 (t 7)) (.take (mv 55 (t 1)) (.take (mv 56 (t 10)) (.take (o 57 (.iaddr 6 (t 55) (t 56))) (.take (fa 58 1 (t 57)) (.take (l1 59 (t 58)) (.take (mv 60 (t 1)) (.take (mv 61 (t 10)) (.take (o 62 (.iaddr 6 (t 60) (t 61))) (.take (fa 63 3 (t 62)) (.take (l1 64 (t 63)) (.alt (ca 65 F.disk_Disk_Append [(t 54), (t 59), (t 64)]) false
    (.take (mv 11 (t 65)) (.done))
    (.none))))))))))))) [54, 55, 56, 57, 58, 59, 60, 61, 62, 63, 64, 65])
   (.seq (.ops [o 67 (.ibin .eql (t 51) (k 1)),
   mv 66 (t 67)] [67])
   (.cond (t 66)
    (.ops [mv 68 (t 7),
    mv 69 (t 1),
    mv 70 (t 10),
    o 71 (.iaddr 6 (t 69) (t 70)),
    fa 72 1 (t 71),
    l1 73 (t 72),
    ca 74 F.disk_Disk_Sync [(t 68), (t 73)],
    mv 11 (t 74)] [68, 69, 70, 71, 72, 73, 74])
    (.seq (.ops [o 76 (.ibin .eql (t 51) (k 2)),
    mv 75 (t 76)] [76])
    (.cond (t 75)
     (.draw (.take (mv 77 (t 7)) (.take (mv 78 (t 1)) (.take (mv 79 (t 10)) (.take (o 80 (.iaddr 6 (t 78) (t 79))) (.take (fa 81 1 (t 80)) (.take (l1 82 (t 81)) (.take (mv 83 (t 1)) (.take (mv 84 (t 10)) (.take (o 85 (.iaddr 6 (t 83) (t 84))) (.take (fa 86 4 (t 85)) (.take (l1 87 (t 86)) (.alt (ca 88 F.disk_Disk_Cut [(t 77), (t 82), (t 87)]) false
      (.take (mv 11 (t 88)) (.done))
      (.none))))))))))))) [77, 78, 79, 80, 81, 82, 83, 84, 85, 86, 87, 88])
     (.seq (.ops [o 90 (.ibin .eql (t 51) (k 3)),
     mv 89 (t 90)] [90])
     (.cond (t 89)
      (.draw (.take (mv 91 (t 7)) (.take (mv 92 (t 1)) (.take (mv 93 (t 10)) (.take (o 94 (.iaddr 6 (t 92) (t 93))) (.take (fa 95 1 (t 94)) (.take (l1 96 (t 95)) (.take (mv 97 (t 1)) (.take (mv 98 (t 10)) (.take (o 99 (.iaddr 6 (t 97) (t 98))) (.take (fa 100 2 (t 99)) (.take (l1 101 (t 100)) (.alt (ca 102 F.disk_Disk_Rename [(t 91), (t 96), (t 101)]) false
       (.take (mv 11 (t 102)) (.done))
       (.none))))))))))))) [91, 92, 93, 94, 95, 96, 97, 98, 99, 100, 101, 102])
      (.seq (.ops [o 104 (.ibin .eql (t 51) (k 4)),
      mv 103 (t 104)] [51, 104])
      (.cond (t 103)
       (.ops [mv 105 (t 7),
       mv 106 (t 1),
       mv 107 (t 10),
       o 108 (.iaddr 6 (t 106) (t 107)),
       fa 109 1 (t 108),
       l1 110 (t 109),
       ca 111 F.disk_Disk_Remove [(t 105), (t 110)],
       mv 11 (t 111)] [105, 106, 107, 108, 109, 110, 111])
       (.exit 1)))))))))))))
  (.seq (.seq (.ops [mv 112 (t 9),
  mv 113 (t 2),
  o 114 (.ibin .eql (t 112) (t 113)),
  os 115 (.mov (t 114)),
  gt 115 116 (.mov (t 11)),
  gt 115 117 (.ibin .neq (t 116) (k 9)),
  o 118 (.pick (t 115) (t 117) (kb false))] [112, 113, 114, 115, 116, 117])
  (.cond (t 118)
   (.seq (.ops [mv 6 (kb false)] [])
   (.ret))
   (.skip)))
  (.seq (.seq (.ops [mv 119 (t 11),
  o 120 (.ibin .eql (t 119) (k 0))] [11, 119])
  (.cond (t 120)
   (.ops [mv 121 (t 9),
   ad 122 (t 121) (k 1),
   mv 9 (t 122)] [121, 122])
   (.skip)))
  (.seq (.ops [mv 123 (t 7),
  ca 124 F.disk_Disk_Down [(t 123)],
  mv 125 (t 9),
  mv 126 (t 2),
  o 127 (.ibin .eql (t 125) (t 126)),
  o 128 (.bbin .neq (t 124) (t 127))] [123, 124, 125, 126, 127])
  (.cond (t 128)
   (.seq (.ops [mv 6 (kb false)] [])
   (.ret))
   (.skip))))))))
  (.ops [mv 45 (t 10),
  ad 46 (t 45) (k 1),
  mv 10 (t 46)] [45, 46]))))))
 (.seq (.ops [mv 129 (t 9),
 mv 130 (t 2),
 o 131 (.ibin .leq (t 129) (t 130)),
 os 132 (.mov (t 131)),
 gt 132 133 (.mov (t 7)),
 gt 132 134 (.call (fn F.disk_Disk_Crash) [(t 133), (.const sn)]),
 gt 132 135 (.ibin .eql (t 134) (k 0)),
 o 136 (.pick (t 132) (t 135) (kb false)),
 os 137 (.mov (t 136)),
 gt 137 138 (.mov (t 7)),
 gt 137 139 (.call (fn F.disk_Disk_Down) [(t 138)]),
 gt 137 140 (.not (t 139)),
 o 141 (.pick (t 137) (t 140) (kb false)),
 os 142 (.mov (t 141)),
 gt 142 143 (.call (fn F.law10_awake) []),
 o 144 (.pick (t 142) (t 143) (kb false)),
 mv 6 (t 144)] [2, 7, 9, 129, 130, 131, 132, 133, 134, 135, 136, 137, 138, 139, 140, 141, 142, 143, 144])
 (.ret))))))))
def r_law10_DiskArms : List RRes := [.tmp 6]
theorem fo_law10_DiskArms {args : List Value} {M : Mem} {R : Value → Mem → Prop} (hn : args.length ≤ 145) (h : vfn Try.prog c_law10_DiskArms r_law10_DiskArms args M R) : CallsM Try.prog F.law10_DiskArms args M R :=
  fn_ok (kf := k_law10_DiskArms) Try.func3 (by kernel_rfl) (by kernel_rfl) hn (by kernel_rfl) h
/-- portage/portagelaw10.DiskSyncs -/
def k_law10_DiskSyncs (i : Nat) : List Nat := match i with | 0 => [6] | 1 => [1, 11, 12, 13] | 2 => [14] | 3 => [0, 16, 17, 18, 19, 20, 21] | 4 => [22, 23] | 6 => [24, 25, 26] | 8 => [30, 31, 32, 33, 34, 35] | 7 => [28, 29] | 10 => [37, 38] | 11 => [2, 39, 40, 41, 42, 43, 44, 45] | 13 => [7, 10, 47, 48, 49, 50, 51, 52] | _ => []
def c_law10_DiskSyncs : RCode :=
 .seq (.ops [mv 6 (kb false)] [6])
 (.seq (.ops [mv 11 (t 0),
 mv 12 (t 1),
 ca 13 F.law10_done [(t 11), (t 12)],
 mv 7 (t 13)] [1, 11, 12, 13])
 (.seq (.seq (.ops [mv 14 (t 7),
 o 15 (.pnil .eql (t 14) (.const (.pointer none)))] [14])
 (.cond (t 15)
  (.seq (.ops [mv 16 (t 0),
  ca 17 F.law10_may [(t 16)],
  o 18 (.not (t 17)),
  os 19 (.mov (t 18)),
  gt 19 20 (.call (fn F.law10_awake) []),
  o 21 (.pick (t 19) (t 20) (kb false)),
  mv 6 (t 21)] [0, 16, 17, 18, 19, 20, 21])
  (.ret))
  (.skip)))
 (.seq (.ops [mv 22 (t 7),
 ca 23 F.disk_Disk_Names [(t 22)],
 mv 8 (t 23)] [22, 23])
 (.seq (.seq (.ops [mv 9 (k 0)] [])
 (.block 0 (.loop (.seq (.seq (.ops [mv 24 (t 9),
  mv 25 (t 8),
  o 26 (.len (t 25)),
  o 27 (.ibin .lss (t 24) (t 26))] [24, 25, 26])
  (.cond (t 27)
   (.skip)
   (.exit 0)))
  (.seq (.block 1 (.seq (.ops [mv 30 (t 7),
  mv 31 (t 8),
  mv 32 (t 9),
  o 33 (.iaddr 1 (t 31) (t 32)),
  l1 34 (t 33),
  ca 35 F.disk_Disk_Sync [(t 30), (t 34)],
  o 36 (.ibin .neq (t 35) (k 0))] [30, 31, 32, 33, 34, 35])
  (.cond (t 36)
   (.seq (.ops [mv 6 (kb false)] [])
   (.ret))
   (.skip))))
  (.ops [mv 28 (t 9),
  ad 29 (t 28) (k 1),
  mv 9 (t 29)] [28, 29]))))))
 (.seq (.ops [mv 37 (t 7),
 ca 38 F.disk_Disk_Fork [(t 37)],
 mv 10 (t 38)] [37, 38])
 (.seq (.seq (.ops [mv 39 (t 10),
 o 40 (.pnil .eql (t 39) (.const (.pointer none))),
 os 41 (.mov (t 40)),
 gf 41 42 (.mov (t 10)),
 gf 41 43 (.mov (t 2)),
 gf 41 44 (.call (fn F.disk_Disk_Crash) [(t 42), (t 43)]),
 gf 41 45 (.ibin .neq (t 44) (k 0)),
 o 46 (.pick (t 41) (kb true) (t 45))] [2, 39, 40, 41, 42, 43, 44, 45])
 (.cond (t 46)
  (.seq (.ops [mv 6 (kb false)] [])
  (.ret))
  (.skip)))
 (.seq (.ops [mv 47 (t 10),
 mv 48 (t 7),
 ca 49 F.law10_same [(t 47), (t 48)],
 os 50 (.mov (t 49)),
 gt 50 51 (.call (fn F.law10_awake) []),
 o 52 (.pick (t 50) (t 51) (kb false)),
 mv 6 (t 52)] [7, 10, 47, 48, 49, 50, 51, 52])
 (.ret))))))))
def r_law10_DiskSyncs : List RRes := [.tmp 6]
theorem fo_law10_DiskSyncs {args : List Value} {M : Mem} {R : Value → Mem → Prop} (hn : args.length ≤ 53) (h : vfn Try.prog c_law10_DiskSyncs r_law10_DiskSyncs args M R) : CallsM Try.prog F.law10_DiskSyncs args M R :=
  fn_ok (kf := k_law10_DiskSyncs) Try.func4 (by kernel_rfl) (by kernel_rfl) hn (by kernel_rfl) h
/-- portage/portagelaw10.DiskRooms -/
def k_law10_DiskRooms (i : Nat) : List Nat := match i with | 0 => [2, 6] | 1 => [1, 12, 13, 14] | 2 => [15] | 3 => [0, 17, 18, 19, 20, 21, 22] | 4 => [23, 24, 25, 26, 27, 28, 29, 30, 31] | 6 => [33, 34] | 7 => [10, 35, 36, 37, 38, 39] | 9 => [40] | 10 => [43] | 11 => [5, 44, 45, 46, 47, 48, 49] | 12 => [51] | 13 => [5, 52, 53, 54, 55] | 14 => [57] | 15 => [5, 58, 59, 60, 61, 62, 63] | 16 => [65] | 17 => [5, 66, 67, 68, 69, 70, 71] | 18 => [41, 73] | 19 => [5, 74, 75, 76, 77] | 20 => [0, 7, 8, 9, 11, 78, 79, 80, 81, 82, 83, 84, 85, 86, 87, 88, 89, 90, 91, 92, 93, 94, 95, 96, 97, 98, 99, 100, 101, 102, 103] | _ => []
def c_law10_DiskRooms : RCode :=
 .seq (.ops [o 5 (.box 34 (t 2)),
 mv 6 (kb false)] [2, 6])
 (.seq (.ops [mv 12 (t 0),
 mv 13 (t 1),
 ca 14 F.law10_done [(t 12), (t 13)],
 mv 7 (t 14)] [1, 12, 13, 14])
 (.seq (.seq (.ops [mv 15 (t 7),
 o 16 (.pnil .eql (t 15) (.const (.pointer none)))] [15])
 (.cond (t 16)
  (.seq (.ops [mv 17 (t 0),
  ca 18 F.law10_may [(t 17)],
  o 19 (.not (t 18)),
  os 20 (.mov (t 19)),
  gt 20 21 (.call (fn F.law10_awake) []),
  o 22 (.pick (t 20) (t 21) (kb false)),
  mv 6 (t 22)] [0, 17, 18, 19, 20, 21, 22])
  (.ret))
  (.skip)))
 (.seq (.seq (.ops [mv 23 (t 7),
 ca 24 F.disk_Disk_Used [(t 23)],
 mv 25 (t 0),
 o 26 (.ibin .gtr (t 24) (t 25)),
 os 27 (.mov (t 26)),
 gf 27 28 (.mov (t 7)),
 gf 27 29 (.call (fn F.disk_Disk_Names) [(t 28)]),
 gf 27 30 (.len (t 29)),
 gf 27 31 (.ibin .gtr (t 30) (k 64)),
 o 32 (.pick (t 27) (kb true) (t 31))] [23, 24, 25, 26, 27, 28, 29, 30, 31])
 (.cond (t 32)
  (.seq (.ops [mv 6 (kb false)] [])
  (.ret))
  (.skip)))
 (.seq (.ops [mv 33 (t 7),
 ca 34 F.disk_Disk_Fork [(t 33)],
 mv 8 (t 34)] [33, 34])
 (.seq (.ops [mv 36 (t 0),
 ca 37 F.ref10_New [(t 36)],
 mv 35 (t 37),
 ex 38 (t 35) 0,
 ex 39 (t 35) 1,
 o 9 (.alloc 50 [(i 0), sn, (i 0), (.bool false)]),
 st 4 (t 9) (t 38),
 mv 10 (t 39)] [10, 35, 36, 37, 38, 39])
 (.seq (.ops [mv 11 (k 0)] [])
 (.seq (.seq (.ops [fa 40 0 (t 5),
 l1 41 (t 40)] [40])
 (.block 0 (.seq (.ops [o 43 (.ibin .eql (t 41) (k 0)),
 mv 42 (t 43)] [43])
 (.cond (t 42)
  (.ops [mv 44 (t 7),
  fa 45 1 (t 5),
  l1 46 (t 45),
  fa 47 3 (t 5),
  l1 48 (t 47),
  ca 49 F.disk_Disk_Append [(t 44), (t 46), (t 48)],
  mv 11 (t 49)] [5, 44, 45, 46, 47, 48, 49])
  (.seq (.ops [o 51 (.ibin .eql (t 41) (k 1)),
  mv 50 (t 51)] [51])
  (.cond (t 50)
   (.ops [mv 52 (t 7),
   fa 53 1 (t 5),
   l1 54 (t 53),
   ca 55 F.disk_Disk_Sync [(t 52), (t 54)],
   mv 11 (t 55)] [5, 52, 53, 54, 55])
   (.seq (.ops [o 57 (.ibin .eql (t 41) (k 2)),
   mv 56 (t 57)] [57])
   (.cond (t 56)
    (.ops [mv 58 (t 7),
    fa 59 1 (t 5),
    l1 60 (t 59),
    fa 61 4 (t 5),
    l1 62 (t 61),
    ca 63 F.disk_Disk_Cut [(t 58), (t 60), (t 62)],
    mv 11 (t 63)] [5, 58, 59, 60, 61, 62, 63])
    (.seq (.ops [o 65 (.ibin .eql (t 41) (k 3)),
    mv 64 (t 65)] [65])
    (.cond (t 64)
     (.ops [mv 66 (t 7),
     fa 67 1 (t 5),
     l1 68 (t 67),
     fa 69 2 (t 5),
     l1 70 (t 69),
     ca 71 F.disk_Disk_Rename [(t 66), (t 68), (t 70)],
     mv 11 (t 71)] [5, 66, 67, 68, 69, 70, 71])
     (.seq (.ops [o 73 (.ibin .eql (t 41) (k 4)),
     mv 72 (t 73)] [41, 73])
     (.cond (t 72)
      (.ops [mv 74 (t 7),
      fa 75 1 (t 5),
      l1 76 (t 75),
      ca 77 F.disk_Disk_Remove [(t 74), (t 76)],
      mv 11 (t 77)] [5, 74, 75, 76, 77])
      (.skip)))))))))))))
 (.seq (.ops [mv 78 (t 8),
 o 79 (.pnil .neq (t 78) (.const (.pointer none))),
 os 80 (.mov (t 79)),
 gt 80 81 (.faddr 0 (t 9)),
 gt 80 82 (.load false 1 (t 81)),
 gt 80 83 (.mov (t 0)),
 gt 80 84 (.ibin .eql (t 82) (t 83)),
 o 85 (.pick (t 80) (t 84) (kb false)),
 os 86 (.mov (t 85)),
 gt 86 87 (.mov (t 11)),
 gt 86 88 (.ibin .eql (t 87) (k 0)),
 ⟨(some 89), .mov (t 88), some (86, true), true⟩,
 gf 89 90 (.mov (t 8)),
 gf 89 91 (.mov (t 7)),
 gf 89 92 (.call (fn F.law10_same) [(t 90), (t 91)]),
 gt 86 93 (.pick (t 89) (kb true) (t 92)),
 o 94 (.pick (t 86) (t 93) (kb false)),
 os 95 (.mov (t 94)),
 gt 95 96 (.mov (t 7)),
 gt 95 97 (.call (fn F.disk_Disk_Used) [(t 96)]),
 gt 95 98 (.mov (t 0)),
 gt 95 99 (.ibin .leq (t 97) (t 98)),
 o 100 (.pick (t 95) (t 99) (kb false)),
 os 101 (.mov (t 100)),
 gt 101 102 (.call (fn F.law10_awake) []),
 o 103 (.pick (t 101) (t 102) (kb false)),
 mv 6 (t 103)] [0, 7, 8, 9, 11, 78, 79, 80, 81, 82, 83, 84, 85, 86, 87, 88, 89, 90, 91, 92, 93, 94, 95, 96, 97, 98, 99, 100, 101, 102, 103])
 (.ret)))))))))
def r_law10_DiskRooms : List RRes := [.tmp 6]
theorem fo_law10_DiskRooms {args : List Value} {M : Mem} {R : Value → Mem → Prop} (hn : args.length ≤ 104) (h : vfn Try.prog c_law10_DiskRooms r_law10_DiskRooms args M R) : CallsM Try.prog F.law10_DiskRooms args M R :=
  fn_ok (kf := k_law10_DiskRooms) Try.func5 (by kernel_rfl) (by kernel_rfl) hn (by kernel_rfl) h
/-- portage/portagelaw10.DiskCrashes -/
def k_law10_DiskCrashes (i : Nat) : List Nat := match i with | 0 => [6] | 1 => [1, 15, 16, 17] | 2 => [18] | 3 => [0, 20, 21, 22, 23, 24, 25] | 4 => [26, 27] | 5 => [28, 29, 30, 31, 32, 33, 34] | 7 => [36, 37] | 8 => [38, 39, 40, 41, 42] | 11 => [44, 45, 46] | 13 => [50, 51, 52, 53, 54, 55, 56, 57, 58] | 14 => [59, 60, 61, 62, 63, 64, 65, 66, 67] | 15 => [11, 12, 14, 68, 69, 70, 71, 72, 73, 74, 75, 76, 77, 78, 79, 80, 81, 82, 83, 84, 85, 86, 87, 88, 89, 90, 91, 92, 93, 94, 95, 96, 97, 98, 99, 100, 101, 102, 103, 104, 105, 106, 107, 108, 109, 110, 111] | 17 => [13, 113, 114, 115, 116, 117, 118, 119, 120, 121, 122, 123, 124, 125, 126] | 12 => [48, 49] | 19 => [8, 128, 129, 130, 131, 132, 133] | _ => []
def c_law10_DiskCrashes : RCode :=
 .seq (.ops [mv 6 (kb false)] [6])
 (.seq (.ops [mv 15 (t 0),
 mv 16 (t 1),
 ca 17 F.law10_done [(t 15), (t 16)],
 mv 7 (t 17)] [1, 15, 16, 17])
 (.seq (.seq (.ops [mv 18 (t 7),
 o 19 (.pnil .eql (t 18) (.const (.pointer none)))] [18])
 (.cond (t 19)
  (.seq (.ops [mv 20 (t 0),
  ca 21 F.law10_may [(t 20)],
  o 22 (.not (t 21)),
  os 23 (.mov (t 22)),
  gt 23 24 (.call (fn F.law10_awake) []),
  o 25 (.pick (t 23) (t 24) (kb false)),
  mv 6 (t 25)] [0, 20, 21, 22, 23, 24, 25])
  (.ret))
  (.skip)))
 (.seq (.ops [mv 26 (t 7),
 ca 27 F.disk_Disk_Fork [(t 26)],
 mv 8 (t 27)] [26, 27])
 (.seq (.seq (.ops [mv 28 (t 8),
 o 29 (.pnil .eql (t 28) (.const (.pointer none))),
 os 30 (.mov (t 29)),
 gf 30 31 (.mov (t 8)),
 gf 30 32 (.mov (t 2)),
 gf 30 33 (.call (fn F.disk_Disk_Crash) [(t 31), (t 32)]),
 gf 30 34 (.ibin .neq (t 33) (k 0)),
 o 35 (.pick (t 30) (kb true) (t 34))] [28, 29, 30, 31, 32, 33, 34])
 (.cond (t 35)
  (.seq (.ops [mv 6 (kb false)] [])
  (.ret))
  (.skip)))
 (.seq (.ops [mv 36 (t 7),
 ca 37 F.disk_Disk_Names [(t 36)],
 mv 9 (t 37)] [36, 37])
 (.seq (.seq (.ops [mv 38 (t 8),
 ca 39 F.disk_Disk_Names [(t 38)],
 o 40 (.len (t 39)),
 mv 41 (t 9),
 o 42 (.len (t 41)),
 o 43 (.ibin .neq (t 40) (t 42))] [38, 39, 40, 41, 42])
 (.cond (t 43)
  (.seq (.ops [mv 6 (kb false)] [])
  (.ret))
  (.skip)))
 (.seq (.seq (.ops [mv 10 (k 0)] [])
 (.block 0 (.loop (.seq (.seq (.ops [mv 44 (t 10),
  mv 45 (t 9),
  o 46 (.len (t 45)),
  o 47 (.ibin .lss (t 44) (t 46))] [44, 45, 46])
  (.cond (t 47)
   (.skip)
   (.exit 0)))
  (.seq (.block 1 (.seq (.ops [mv 51 (t 7),
  mv 52 (t 9),
  mv 53 (t 10),
  o 54 (.iaddr 1 (t 52) (t 53)),
  l1 55 (t 54),
  ca 56 F.disk_Disk_Read [(t 51), (t 55)],
  mv 50 (t 56),
  ex 57 (t 50) 0,
  ex 58 (t 50) 1,
  mv 11 (t 57),
  mv 12 (t 58)] [50, 51, 52, 53, 54, 55, 56, 57, 58])
  (.seq (.ops [mv 60 (t 8),
  mv 61 (t 9),
  mv 62 (t 10),
  o 63 (.iaddr 1 (t 61) (t 62)),
  l1 64 (t 63),
  ca 65 F.disk_Disk_Read [(t 60), (t 64)],
  mv 59 (t 65),
  ex 66 (t 59) 0,
  ex 67 (t 59) 1,
  mv 13 (t 66),
  mv 14 (t 67)] [59, 60, 61, 62, 63, 64, 65, 66, 67])
  (.seq (.seq (.draw (.take (mv 68 (t 12)) (.take (o 69 (.ibin .neq (t 68) (k 0))) (.take (os 70 (.mov (t 69))) (.take (gf 70 71 (.mov (t 14))) (.take (gf 70 72 (.ibin .neq (t 71) (k 0))) (.take (o 73 (.pick (t 70) (kb true) (t 72))) (.take (os 74 (.mov (t 73))) (.take (gf 74 75 (.mov (t 13))) (.take (gf 74 76 (.len (t 75))) (.take (gf 74 77 (.mov (t 11))) (.take (gf 74 78 (.len (t 77))) (.take (gf 74 79 (.ibin .gtr (t 76) (t 78))) (.take (o 80 (.pick (t 74) (kb true) (t 79))) (.take (os 81 (.mov (t 80))) (.take (gf 81 82 (.mov (t 13))) (.take (gf 81 83 (.strOf (t 82))) (.take (gf 81 84 (.mov (t 11))) (.take (gf 81 85 (.mov (t 13))) (.take (gf 81 86 (.len (t 85))) (.take (gf 81 87 (.slx 1 (t 84) none (some (t 86)))) (.take (gf 81 88 (.strOf (t 87))) (.take (gf 81 89 (.strE .neq (t 83) (t 88))) (.take (o 90 (.pick (t 81) (kb true) (t 89))) (.take (os 91 (.mov (t 90))) (.take (gf 91 92 (.mov (t 13))) (.take (gf 91 93 (.len (t 92))) (.take (gf 91 94 (.mov (t 7))) (.take (gf 91 95 (.mov (t 9))) (.take (gf 91 96 (.mov (t 10))) (.take (gf 91 97 (.iaddr 1 (t 95) (t 96))) (.take (gf 91 98 (.load false 1 (t 97))) (.alt (gf 91 99 (.call (fn F.disk_Disk_Safe) [(t 94), (t 98)])) true
   (.take (gf 91 100 (.ibin .lss (t 93) (t 99))) (.take (o 101 (.pick (t 91) (kb true) (t 100))) (.take (os 102 (.mov (t 101))) (.take (gf 102 103 (.mov (t 8))) (.take (gf 102 104 (.mov (t 9))) (.take (gf 102 105 (.mov (t 10))) (.take (gf 102 106 (.iaddr 1 (t 104) (t 105))) (.take (gf 102 107 (.load false 1 (t 106))) (.take (gf 102 109 (.mov (t 13))) (.take (gf 102 110 (.len (t 109))) (.alt (gf 102 108 (.call (fn F.disk_Disk_Safe) [(t 103), (t 107)])) true
    (.take (gf 102 111 (.ibin .neq (t 108) (t 110))) (.take (o 112 (.pick (t 102) (kb true) (t 111))) (.done)))
    (.none))))))))))))
   (.none))))))))))))))))))))))))))))))))) [11, 12, 14, 68, 69, 70, 71, 72, 73, 74, 75, 76, 77, 78, 79, 80, 81, 82, 83, 84, 85, 86, 87, 88, 89, 90, 91, 92, 93, 94, 95, 96, 97, 98, 99, 100, 101, 102, 103, 104, 105, 106, 107, 108, 109, 110, 111])
  (.cond (t 112)
   (.seq (.ops [mv 6 (kb false)] [])
   (.ret))
   (.skip)))
  (.seq (.ops [mv 113 (t 10),
  mv 114 (t 2),
  o 115 (.len (t 114)),
  o 116 (.ibin .geq (t 113) (t 115)),
  os 117 (.mov (t 116)),
  gt 117 118 (.mov (t 13)),
  gt 117 119 (.len (t 118)),
  gt 117 120 (.mov (t 7)),
  gt 117 121 (.mov (t 9)),
  gt 117 122 (.mov (t 10)),
  gt 117 123 (.iaddr 1 (t 121) (t 122)),
  gt 117 124 (.load false 1 (t 123)),
  gt 117 125 (.call (fn F.disk_Disk_Safe) [(t 120), (t 124)]),
  gt 117 126 (.ibin .neq (t 119) (t 125)),
  o 127 (.pick (t 117) (t 126) (kb false))] [13, 113, 114, 115, 116, 117, 118, 119, 120, 121, 122, 123, 124, 125, 126])
  (.cond (t 127)
   (.seq (.ops [mv 6 (kb false)] [])
   (.ret))
   (.skip)))))))
  (.ops [mv 48 (t 10),
  ad 49 (t 48) (k 1),
  mv 10 (t 49)] [48, 49]))))))
 (.seq (.ops [mv 128 (t 8),
 ca 129 F.disk_Disk_Down [(t 128)],
 o 130 (.not (t 129)),
 os 131 (.mov (t 130)),
 gt 131 132 (.call (fn F.law10_awake) []),
 o 133 (.pick (t 131) (t 132) (kb false)),
 mv 6 (t 133)] [8, 128, 129, 130, 131, 132, 133])
 (.ret)))))))))
def r_law10_DiskCrashes : List RRes := [.tmp 6]
theorem fo_law10_DiskCrashes {args : List Value} {M : Mem} {R : Value → Mem → Prop} (hn : args.length ≤ 134) (h : vfn Try.prog c_law10_DiskCrashes r_law10_DiskCrashes args M R) : CallsM Try.prog F.law10_DiskCrashes args M R :=
  fn_ok (kf := k_law10_DiskCrashes) Try.func6 (by kernel_rfl) (by kernel_rfl) hn (by kernel_rfl) h
/-- portage/portagelaw10.DiskPlays -/
def k_law10_DiskPlays (i : Nat) : List Nat := match i with | 0 => [4] | 1 => [13, 14, 15, 16, 17] | 2 => [0, 18, 19, 20, 21, 22] | 3 => [6, 23, 24, 25, 26, 27, 28, 29, 30, 31] | 5 => [8, 33] | 6 => [35] | 8 => [36, 37, 38, 39, 40, 41, 42] | 10 => [46, 47, 48, 49, 50] | 11 => [52, 53] | 12 => [54] | 14 => [56, 57] | 15 => [5, 58, 59, 60, 61] | 16 => [10, 62] | 17 => [63, 64, 65, 66, 67, 68, 69, 70, 71, 72] | 18 => [11, 73] | 19 => [12, 74, 75, 76, 77, 78, 79, 80] | 9 => [44, 45] | 21 => [82] | _ => []
def c_law10_DiskPlays : RCode :=
 .seq (.ops [mv 4 (kb false)] [4])
 (.seq (.ops [mv 14 (t 0),
 ca 15 F.disk_New [(t 14)],
 mv 13 (t 15),
 ex 16 (t 13) 0,
 ex 17 (t 13) 1,
 mv 5 (t 16),
 mv 6 (t 17)] [13, 14, 15, 16, 17])
 (.seq (.ops [mv 19 (t 0),
 ca 20 F.ref10_New [(t 19)],
 mv 18 (t 20),
 ex 21 (t 18) 0,
 ex 22 (t 18) 1,
 o 7 (.alloc 50 [(i 0), sn, (i 0), (.bool false)]),
 st 4 (t 7) (t 21),
 mv 8 (t 22)] [0, 18, 19, 20, 21, 22])
 (.seq (.seq (.ops [mv 23 (t 6),
 mv 24 (t 8),
 o 25 (.ibin .neq (t 23) (t 24)),
 os 26 (.mov (t 25)),
 gf 26 27 (.mov (t 5)),
 gf 26 28 (.pnil .eql (t 27) (.const (.pointer none))),
 gf 26 29 (.mov (t 8)),
 gf 26 30 (.ibin .neq (t 29) (k 0)),
 gf 26 31 (.bbin .neq (t 28) (t 30)),
 o 32 (.pick (t 26) (kb true) (t 31))] [6, 23, 24, 25, 26, 27, 28, 29, 30, 31])
 (.cond (t 32)
  (.seq (.ops [mv 4 (kb false)] [])
  (.ret))
  (.skip)))
 (.seq (.seq (.ops [mv 33 (t 8),
 o 34 (.ibin .neq (t 33) (k 0))] [8, 33])
 (.cond (t 34)
  (.seq (.ops [ca 35 F.law10_awake [],
  mv 4 (t 35)] [35])
  (.ret))
  (.skip)))
 (.seq (.seq (.ops [mv 9 (k 0)] [])
 (.block 0 (.loop (.seq (.seq (.ops [mv 36 (t 9),
  mv 37 (t 1),
  o 38 (.len (t 37)),
  o 39 (.ibin .lss (t 36) (t 38)),
  os 40 (.mov (t 39)),
  gt 40 41 (.mov (t 9)),
  gt 40 42 (.ibin .lss (t 41) (k 100)),
  o 43 (.pick (t 40) (t 42) (kb false))] [36, 37, 38, 39, 40, 41, 42])
  (.cond (t 43)
   (.skip)
   (.exit 0)))
  (.seq (.block 1 (.seq (.seq (.ops [mv 46 (t 1),
  mv 47 (t 9),
  o 48 (.iaddr 6 (t 46) (t 47)),
  fa 49 0 (t 48),
  l1 50 (t 49),
  o 51 (.ibin .eql (t 50) (k 9))] [46, 47, 48, 49, 50])
  (.cond (t 51)
   (.seq (.ops [mv 52 (t 5),
   ca 53 F.disk_Disk_Fork [(t 52)],
   mv 10 (t 53)] [52, 53])
   (.seq (.seq (.ops [mv 54 (t 10),
   o 55 (.pnil .eql (t 54) (.const (.pointer none)))] [54])
   (.cond (t 55)
    (.seq (.ops [mv 4 (kb false)] [])
    (.ret))
    (.skip)))
   (.seq (.ops [mv 56 (t 5),
   ca 57 F.disk_Disk_Crash [(t 56), (.const sn)]] [56, 57])
   (.seq (.ops [mv 58 (t 5),
   o 59 (.mkSl false 5 1 [(u 0)] [(0, 1, (.const (u 120)))]),
   o 60 (.strish (t 59)),
   ca 61 F.disk_Disk_Append [(t 58), (.const (.string ⟨#[111, 116, 104, 101, 114]⟩)), (t 60)]] [5, 58, 59, 60, 61])
   (.ops [mv 62 (t 10),
   mv 5 (t 62)] [10, 62])))))
   (.skip)))
  (.seq (.draw (.take (mv 64 (t 5)) (.take (la 65 4 (t 7)) (.take (mv 66 (t 1)) (.take (mv 67 (t 9)) (.take (o 68 (.iaddr 6 (t 66) (t 67))) (.take (la 69 6 (t 68)) (.alt (ca 70 F.law10_step [(t 64), (t 65), (t 69)]) false
   (.take (mv 63 (t 70)) (.take (ex 71 (t 63) 0) (.take (ex 72 (t 63) 1) (.alt (o 11 (.alloc 50 [(i 0), sn, (i 0), (.bool false)])) false
    (.alt (st 4 (t 11) (t 71)) false
     (.take (mv 12 (t 72)) (.done))
     (.none))
    (.none)))))
   (.alt (o 11 (.alloc 50 [(i 0), sn, (i 0), (.bool false)])) false
    (.alt (ca 70 F.law10_step [(t 64), (t 65), (t 69)]) false
     (.take (mv 63 (t 70)) (.take (ex 71 (t 63) 0) (.take (ex 72 (t 63) 1) (.alt (st 4 (t 11) (t 71)) false
      (.take (mv 12 (t 72)) (.done))
      (.none)))))
     (.none))
    (.none))))))))) [63, 64, 65, 66, 67, 68, 69, 70, 71, 72])
  (.seq (.ops [la 73 4 (t 11),
  st 4 (t 7) (t 73)] [11, 73])
  (.seq (.ops [mv 74 (t 12),
  o 75 (.not (t 74)),
  os 76 (.mov (t 75)),
  gf 76 77 (.mov (t 5)),
  gf 76 78 (.load true 4 (t 7)),
  gf 76 79 (.call (fn F.law10_as) [(t 77), (t 78)]),
  gf 76 80 (.not (t 79)),
  o 81 (.pick (t 76) (kb true) (t 80))] [12, 74, 75, 76, 77, 78, 79, 80])
  (.cond (t 81)
   (.seq (.ops [mv 4 (kb false)] [])
   (.ret))
   (.skip)))))))
  (.ops [mv 44 (t 9),
  ad 45 (t 44) (k 1),
  mv 9 (t 45)] [44, 45]))))))
 (.seq (.ops [ca 82 F.law10_awake [],
 mv 4 (t 82)] [82])
 (.ret)))))))
def r_law10_DiskPlays : List RRes := [.tmp 4]
theorem fo_law10_DiskPlays {args : List Value} {M : Mem} {R : Value → Mem → Prop} (hn : args.length ≤ 83) (h : vfn Try.prog c_law10_DiskPlays r_law10_DiskPlays args M R) : CallsM Try.prog F.law10_DiskPlays args M R :=
  fn_ok (kf := k_law10_DiskPlays) Try.func7 (by kernel_rfl) (by kernel_rfl) hn (by kernel_rfl) h
/-- portage/portagelaw10.DiskNil -/
def k_law10_DiskNil (i : Nat) : List Nat := match i with | 0 => [0, 2] | 2 => [4, 6, 7, 8, 9, 10, 11, 12] | 3 => [1, 3, 5, 13, 14, 15, 16, 17, 18, 19, 20, 21, 22, 23, 24, 25, 26, 27, 28, 29, 30, 31, 32, 33, 34, 35, 36, 37, 38, 39, 40, 41, 42, 43, 44, 45, 46, 47, 48, 49, 50, 51, 52, 53, 54, 55, 56, 57, 58, 59, 60, 61, 62, 63, 64, 65, 66, 67, 68, 69, 70, 71, 72, 73, 74, 75, 76, 77, 78, 79, 80, 81, 82, 83, 84, 85, 86, 87, 88, 89, 90, 91, 92, 93, 94, 95, 96, 97, 98, 99, 100, 101, 102, 103, 104, 105, 106, 107] | _ => []
def c_law10_DiskNil : RCode :=
 .seq (.ops [o 1 (.box 34 (t 0)),
 mv 2 (kb false)] [0, 2])
 (.seq (.ops [mv 3 (.const (.pointer none))] [])
 (.seq (.ops [mv 7 (t 3),
 fa 8 1 (t 1),
 l1 9 (t 8),
 ca 10 F.disk_Disk_Read [(t 7), (t 9)],
 mv 6 (t 10),
 ex 11 (t 6) 0,
 ex 12 (t 6) 1,
 mv 4 (t 11),
 mv 5 (t 12)] [4, 6, 7, 8, 9, 10, 11, 12])
 (.seq (.ops [mv 13 (t 3),
 fa 14 1 (t 1),
 l1 15 (t 14),
 fa 16 3 (t 1),
 l1 17 (t 16),
 ca 18 F.disk_Disk_Append [(t 13), (t 15), (t 17)],
 o 19 (.ibin .eql (t 18) (k 7)),
 os 20 (.mov (t 19)),
 gt 20 21 (.mov (t 3)),
 gt 20 22 (.faddr 1 (t 1)),
 gt 20 23 (.load false 1 (t 22)),
 gt 20 24 (.call (fn F.disk_Disk_Sync) [(t 21), (t 23)]),
 gt 20 25 (.ibin .eql (t 24) (k 7)),
 o 26 (.pick (t 20) (t 25) (kb false)),
 os 27 (.mov (t 26)),
 gt 27 28 (.mov (t 3)),
 gt 27 29 (.faddr 1 (t 1)),
 gt 27 30 (.load false 1 (t 29)),
 gt 27 31 (.faddr 4 (t 1)),
 gt 27 32 (.load false 1 (t 31)),
 gt 27 33 (.call (fn F.disk_Disk_Cut) [(t 28), (t 30), (t 32)]),
 gt 27 34 (.ibin .eql (t 33) (k 7)),
 o 35 (.pick (t 27) (t 34) (kb false)),
 os 36 (.mov (t 35)),
 gt 36 37 (.mov (t 3)),
 gt 36 38 (.faddr 1 (t 1)),
 gt 36 39 (.load false 1 (t 38)),
 gt 36 40 (.faddr 2 (t 1)),
 gt 36 41 (.load false 1 (t 40)),
 gt 36 42 (.call (fn F.disk_Disk_Rename) [(t 37), (t 39), (t 41)]),
 gt 36 43 (.ibin .eql (t 42) (k 7)),
 o 44 (.pick (t 36) (t 43) (kb false)),
 os 45 (.mov (t 44)),
 gt 45 46 (.mov (t 3)),
 gt 45 47 (.faddr 1 (t 1)),
 gt 45 48 (.load false 1 (t 47)),
 gt 45 49 (.call (fn F.disk_Disk_Remove) [(t 46), (t 48)]),
 gt 45 50 (.ibin .eql (t 49) (k 7)),
 o 51 (.pick (t 45) (t 50) (kb false)),
 os 52 (.mov (t 51)),
 gt 52 53 (.mov (t 5)),
 gt 52 54 (.ibin .eql (t 53) (k 7)),
 o 55 (.pick (t 52) (t 54) (kb false)),
 os 56 (.mov (t 55)),
 gt 56 57 (.mov (t 3)),
 gt 56 58 (.faddr 1 (t 1)),
 gt 56 59 (.load false 1 (t 58)),
 gt 56 60 (.call (fn F.disk_Disk_Safe) [(t 57), (t 59)]),
 gt 56 61 (.ibin .eql (t 60) (k 0)),
 o 62 (.pick (t 56) (t 61) (kb false)),
 os 63 (.mov (t 62)),
 gt 63 64 (.mov (t 3)),
 gt 63 65 (.call (fn F.disk_Disk_Names) [(t 64)]),
 gt 63 66 (.len (t 65)),
 gt 63 67 (.ibin .eql (t 66) (k 0)),
 o 68 (.pick (t 63) (t 67) (kb false)),
 os 69 (.mov (t 68)),
 gt 69 70 (.mov (t 3)),
 gt 69 71 (.call (fn F.disk_Disk_Used) [(t 70)]),
 gt 69 72 (.ibin .eql (t 71) (k 0)),
 o 73 (.pick (t 69) (t 72) (kb false)),
 os 74 (.mov (t 73)),
 gt 74 75 (.mov (t 3)),
 gt 74 76 (.faddr 4 (t 1)),
 gt 74 77 (.load false 1 (t 76)),
 gt 74 78 (.call (fn F.disk_Disk_Limit) [(t 75), (t 77)]),
 gt 74 79 (.ibin .eql (t 78) (k 7)),
 o 80 (.pick (t 74) (t 79) (kb false)),
 os 81 (.mov (t 80)),
 gt 81 82 (.mov (t 3)),
 gt 81 83 (.faddr 4 (t 1)),
 gt 81 84 (.load false 1 (t 83)),
 gt 81 85 (.call (fn F.disk_Disk_Arm) [(t 82), (t 84)]),
 gt 81 86 (.ibin .eql (t 85) (k 7)),
 o 87 (.pick (t 81) (t 86) (kb false)),
 os 88 (.mov (t 87)),
 gt 88 89 (.mov (t 3)),
 gt 88 90 (.call (fn F.disk_Disk_Down) [(t 89)]),
 gt 88 91 (.not (t 90)),
 o 92 (.pick (t 88) (t 91) (kb false)),
 os 93 (.mov (t 92)),
 gt 93 94 (.mov (t 3)),
 gt 93 95 (.faddr 5 (t 1)),
 gt 93 96 (.load false 1 (t 95)),
 gt 93 97 (.call (fn F.disk_Disk_Crash) [(t 94), (t 96)]),
 gt 93 98 (.ibin .eql (t 97) (k 7)),
 o 99 (.pick (t 93) (t 98) (kb false)),
 os 100 (.mov (t 99)),
 gt 100 101 (.mov (t 3)),
 gt 100 102 (.call (fn F.disk_Disk_Fork) [(t 101)]),
 gt 100 103 (.pnil .eql (t 102) (.const (.pointer none))),
 o 104 (.pick (t 100) (t 103) (kb false)),
 os 105 (.mov (t 104)),
 gt 105 106 (.call (fn F.law10_awake) []),
 o 107 (.pick (t 105) (t 106) (kb false)),
 mv 2 (t 107)] [1, 3, 5, 13, 14, 15, 16, 17, 18, 19, 20, 21, 22, 23, 24, 25, 26, 27, 28, 29, 30, 31, 32, 33, 34, 35, 36, 37, 38, 39, 40, 41, 42, 43, 44, 45, 46, 47, 48, 49, 50, 51, 52, 53, 54, 55, 56, 57, 58, 59, 60, 61, 62, 63, 64, 65, 66, 67, 68, 69, 70, 71, 72, 73, 74, 75, 76, 77, 78, 79, 80, 81, 82, 83, 84, 85, 86, 87, 88, 89, 90, 91, 92, 93, 94, 95, 96, 97, 98, 99, 100, 101, 102, 103, 104, 105, 106, 107])
 (.ret))))
def r_law10_DiskNil : List RRes := [.tmp 2]
theorem fo_law10_DiskNil {args : List Value} {M : Mem} {R : Value → Mem → Prop} (hn : args.length ≤ 108) (h : vfn Try.prog c_law10_DiskNil r_law10_DiskNil args M R) : CallsM Try.prog F.law10_DiskNil args M R :=
  fn_ok (kf := k_law10_DiskNil) Try.func8 (by kernel_rfl) (by kernel_rfl) hn (by kernel_rfl) h
/-- portage/disk.New -/
def k_disk_New (i : Nat) : List Nat := match i with | 0 => [2, 3] | 1 => [4, 5, 6, 7, 8] | 3 => [0, 10, 11, 12, 13] | _ => []
def c_disk_New : RCode :=
 .seq (.ops [mv 2 (.const (.pointer none)),
 mv 3 (k 0)] [2, 3])
 (.seq (.seq (.ops [mv 4 (t 0),
 o 5 (.ibin .lss (t 4) (k 1)),
 os 6 (.mov (t 5)),
 gf 6 7 (.mov (t 0)),
 gf 6 8 (.ibin .gtr (t 7) (k 1048576)),
 o 9 (.pick (t 6) (kb true) (t 8))] [4, 5, 6, 7, 8])
 (.cond (t 9)
  (.seq (.ops [mv 2 (.const (.pointer none)),
  mv 3 (k 1)] [])
  (.ret))
  (.skip)))
 (.seq (.ops [mv 10 (t 0),
 o 11 (.mkMap),
 o 12 (.build [(i 0), (.map none), (i 0), (.bool false)] [(0, 1, (t 10)), (1, 1, (t 11)), (2, 1, (k (-1)))]),
 o 13 (.box 64 (t 12)),
 mv 2 (t 13),
 mv 3 (k 0)] [0, 10, 11, 12, 13])
 (.ret)))
def r_disk_New : List RRes := [.tmp 2, .tmp 3]
theorem fo_disk_New {args : List Value} {M : Mem} {R : Value → Mem → Prop} (hn : args.length ≤ 14) (h : vfn Try.prog c_disk_New r_disk_New args M R) : CallsM Try.prog F.disk_New args M R :=
  fn_ok (kf := k_disk_New) Try.func9 (by kernel_rfl) (by kernel_rfl) hn (by kernel_rfl) h
/-- portage/portagelaw10.may -/
def k_law10_may (i : Nat) : List Nat := match i with | 0 => [2] | 1 => [0, 3, 4, 5, 6, 7, 8] | _ => []
def c_law10_may : RCode :=
 .seq (.ops [mv 2 (kb false)] [2])
 (.seq (.ops [mv 3 (t 0),
 o 4 (.ibin .geq (t 3) (k 1)),
 os 5 (.mov (t 4)),
 gt 5 6 (.mov (t 0)),
 gt 5 7 (.ibin .leq (t 6) (k 1048576)),
 o 8 (.pick (t 5) (t 7) (kb false)),
 mv 2 (t 8)] [0, 3, 4, 5, 6, 7, 8])
 (.ret))
def r_law10_may : List RRes := [.tmp 2]
theorem fo_law10_may {args : List Value} {M : Mem} {R : Value → Mem → Prop} (hn : args.length ≤ 9) (h : vfn Try.prog c_law10_may r_law10_may args M R) : CallsM Try.prog F.law10_may args M R :=
  fn_ok (kf := k_law10_may) Try.func10 (by kernel_rfl) (by kernel_rfl) hn (by kernel_rfl) h
/-- portage/portagelaw10.awake -/
def k_law10_awake (i : Nat) : List Nat := match i with | 0 => [0] | 1 => [5, 6, 7, 8] | 2 => [2, 9, 10, 11, 12, 13, 14, 15, 16, 17, 18, 19, 20, 21, 22, 23, 24, 25, 26, 27, 28, 29, 30, 31, 32, 33, 34, 35, 36, 37, 38] | 4 => [40, 41, 42, 43, 44] | 5 => [1, 3, 4, 45, 46, 47, 48, 49, 50, 51, 52, 53, 54, 55, 56] | _ => []
def c_law10_awake : RCode :=
 .seq (.ops [mv 0 (kb false)] [0])
 (.seq (.ops [ca 6 F.disk_New [(k 9)],
 mv 5 (t 6),
 ex 7 (t 5) 0,
 ex 8 (t 5) 1,
 mv 1 (t 7),
 mv 2 (t 8)] [5, 6, 7, 8])
 (.seq (.seq (.ops [mv 9 (t 2),
 o 10 (.ibin .neq (t 9) (k 0)),
 os 11 (.mov (t 10)),
 gf 11 12 (.mov (t 1)),
 gf 11 13 (.pnil .eql (t 12) (.const (.pointer none))),
 o 14 (.pick (t 11) (kb true) (t 13)),
 os 15 (.mov (t 14)),
 gf 15 16 (.mov (t 1)),
 gf 15 17 (.mkSl false 5 3 [(u 0), (u 0), (u 0)] [(0, 1, (.const (u 120))), (1, 1, (.const (u 121))), (2, 1, (.const (u 122)))]),
 gf 15 18 (.strish (t 17)),
 gf 15 19 (.call (fn F.disk_Disk_Append) [(t 16), (.const (.string ⟨#[97]⟩)), (t 18)]),
 gf 15 20 (.ibin .neq (t 19) (k 0)),
 o 21 (.pick (t 15) (kb true) (t 20)),
 os 22 (.mov (t 21)),
 gf 22 23 (.mov (t 1)),
 gf 22 24 (.call (fn F.disk_Disk_Sync) [(t 23), (.const (.string ⟨#[97]⟩))]),
 gf 22 25 (.ibin .neq (t 24) (k 0)),
 o 26 (.pick (t 22) (kb true) (t 25)),
 os 27 (.mov (t 26)),
 gf 27 28 (.mov (t 1)),
 gf 27 29 (.mkSl false 5 2 [(u 0), (u 0)] [(0, 1, (.const (u 117))), (1, 1, (.const (u 118)))]),
 gf 27 30 (.strish (t 29)),
 gf 27 31 (.call (fn F.disk_Disk_Append) [(t 28), (.const (.string ⟨#[97]⟩)), (t 30)]),
 gf 27 32 (.ibin .neq (t 31) (k 0)),
 o 33 (.pick (t 27) (kb true) (t 32)),
 os 34 (.mov (t 33)),
 gf 34 35 (.mov (t 1)),
 gf 34 36 (.mkSl false 3 1 [(i 0)] [(0, 1, (k 1))]),
 gf 34 37 (.call (fn F.disk_Disk_Crash) [(t 35), (t 36)]),
 gf 34 38 (.ibin .neq (t 37) (k 0)),
 o 39 (.pick (t 34) (kb true) (t 38))] [2, 9, 10, 11, 12, 13, 14, 15, 16, 17, 18, 19, 20, 21, 22, 23, 24, 25, 26, 27, 28, 29, 30, 31, 32, 33, 34, 35, 36, 37, 38])
 (.cond (t 39)
  (.seq (.ops [mv 0 (kb false)] [])
  (.ret))
  (.skip)))
 (.seq (.ops [mv 41 (t 1),
 ca 42 F.disk_Disk_Read [(t 41), (.const (.string ⟨#[97]⟩))],
 mv 40 (t 42),
 ex 43 (t 40) 0,
 ex 44 (t 40) 1,
 mv 3 (t 43),
 mv 4 (t 44)] [40, 41, 42, 43, 44])
 (.seq (.ops [mv 45 (t 4),
 o 46 (.ibin .eql (t 45) (k 0)),
 os 47 (.mov (t 46)),
 gt 47 48 (.mov (t 3)),
 gt 47 49 (.strOf (t 48)),
 gt 47 50 (.strE .eql (t 49) (.const (.string ⟨#[120, 121, 122, 117]⟩))),
 o 51 (.pick (t 47) (t 50) (kb false)),
 os 52 (.mov (t 51)),
 gt 52 53 (.mov (t 1)),
 gt 52 54 (.call (fn F.disk_Disk_Safe) [(t 53), (.const (.string ⟨#[97]⟩))]),
 gt 52 55 (.ibin .eql (t 54) (k 4)),
 o 56 (.pick (t 52) (t 55) (kb false)),
 mv 0 (t 56)] [1, 3, 4, 45, 46, 47, 48, 49, 50, 51, 52, 53, 54, 55, 56])
 (.ret)))))
def r_law10_awake : List RRes := [.tmp 0]
theorem fo_law10_awake {args : List Value} {M : Mem} {R : Value → Mem → Prop} (hn : args.length ≤ 57) (h : vfn Try.prog c_law10_awake r_law10_awake args M R) : CallsM Try.prog F.law10_awake args M R :=
  fn_ok (kf := k_law10_awake) Try.func11 (by kernel_rfl) (by kernel_rfl) hn (by kernel_rfl) h
/-- (*portage/disk.Disk).Arm -/
def k_disk_Disk_Arm (i : Nat) : List Nat := match i with | 0 => [4] | 1 => [6, 7] | 2 => [8] | 3 => [5, 10] | 4 => [0, 1, 11, 12, 13, 14, 15, 16, 17, 18, 19, 20] | _ => []
def c_disk_Disk_Arm : RCode :=
 .seq (.ops [mv 4 (k 0)] [4])
 (.seq (.seq (.ops [mv 6 (t 0),
 ca 7 F.disk_Disk_ready [(t 6), (.const sn)],
 mv 5 (t 7)] [6, 7])
 (.seq (.ops [mv 8 (t 5),
 o 9 (.ibin .neq (t 8) (k 0))] [8])
 (.cond (t 9)
  (.seq (.ops [mv 10 (t 5),
  mv 4 (t 10)] [5, 10])
  (.ret))
  (.skip))))
 (.seq (.ops [mv 11 (t 0),
 mv 12 (t 0),
 mv 13 (t 1),
 o 14 (.imm true (t 13) (k (-1))),
 mv 15 (t 1),
 o 16 (.ibin .eql (t 15) (k 0)),
 o 17 (.nilck (t 11)),
 fa 18 2 (t 17),
 st 1 (t 18) (t 14),
 o 19 (.nilck (t 12)),
 fa 20 3 (t 19),
 st 1 (t 20) (t 16)] [0, 1, 11, 12, 13, 14, 15, 16, 17, 18, 19, 20])
 (.seq (.ops [mv 4 (k 0)] [])
 (.ret))))
def r_disk_Disk_Arm : List RRes := [.tmp 4]
theorem fo_disk_Disk_Arm {args : List Value} {M : Mem} {R : Value → Mem → Prop} (hn : args.length ≤ 21) (h : vfn Try.prog c_disk_Disk_Arm r_disk_Disk_Arm args M R) : CallsM Try.prog F.disk_Disk_Arm args M R :=
  fn_ok (kf := k_disk_Disk_Arm) Try.func12 (by kernel_rfl) (by kernel_rfl) hn (by kernel_rfl) h
/-- (*portage/disk.Disk).Append -/
def k_disk_Disk_Append (i : Nat) : List Nat := match i with | 0 => [6] | 1 => [9, 10, 11, 12] | 2 => [13] | 3 => [7, 15] | 4 => [16, 17, 18, 19, 20, 21] | 5 => [22, 23, 24, 25, 26, 27, 28, 29, 30, 31, 32, 33, 34, 35, 36, 37, 38, 39, 40, 41, 42] | 7 => [44] | 8 => [46, 47] | 9 => [1, 48, 49, 50, 51, 52, 53] | 10 => [2, 8, 54, 55, 56, 57, 58, 59, 60, 61, 62] | 11 => [0, 63, 64] | _ => []
def c_disk_Disk_Append : RCode :=
 .seq (.ops [mv 6 (k 0)] [6])
 (.seq (.seq (.ops [mv 9 (t 0),
 mv 10 (t 1),
 o 11 (.mkSl false 9 1 [(.string ByteArray.empty)] [(0, 1, (t 10))]),
 ca 12 F.disk_Disk_ready [(t 9), (t 11)],
 mv 7 (t 12)] [9, 10, 11, 12])
 (.seq (.ops [mv 13 (t 7),
 o 14 (.ibin .neq (t 13) (k 0))] [13])
 (.cond (t 14)
  (.seq (.ops [mv 15 (t 7),
  mv 6 (t 15)] [7, 15])
  (.ret))
  (.skip))))
 (.seq (.ops [mv 16 (t 0),
 o 17 (.nilck (t 16)),
 fa 18 1 (t 17),
 l1 19 (t 18),
 mv 20 (t 1),
 o 21 (.mget .str false (.pointer none) (t 19) (t 20)),
 mv 8 (t 21)] [16, 17, 18, 19, 20, 21])
 (.seq (.seq (.draw (.take (mv 22 (t 2)) (.take (o 23 (.len (t 22))) (.take (mv 24 (t 0)) (.take (o 25 (.nilck (t 24))) (.take (fa 26 0 (t 25)) (.take (l1 27 (t 26)) (.take (mv 28 (t 0)) (.alt (ca 29 F.disk_Disk_Used [(t 28)]) true
  (.take (o 30 (.ibin .sub (t 27) (t 29))) (.take (o 31 (.ibin .gtr (t 23) (t 30))) (.take (os 32 (.mov (t 31))) (.take (gf 32 33 (.mov (t 8))) (.take (gf 32 34 (.pnil .eql (t 33) (.const (.pointer none)))) (.take (⟨(some 35), .mov (t 34), some (32, false), true⟩) (.take (gt 35 36 (.mov (t 0))) (.take (gt 35 37 (.nilck (t 36))) (.take (gt 35 38 (.faddr 1 (t 37))) (.take (gt 35 39 (.load false 1 (t 38))) (.take (gt 35 40 (.mlen (t 39))) (.take (gt 35 41 (.ibin .geq (t 40) (k 64))) (.take (gf 32 42 (.pick (t 35) (t 41) (kb false))) (.take (o 43 (.pick (t 32) (kb true) (t 42))) (.done)))))))))))))))
  (.none))))))))) [22, 23, 24, 25, 26, 27, 28, 29, 30, 31, 32, 33, 34, 35, 36, 37, 38, 39, 40, 41, 42])
 (.cond (t 43)
  (.seq (.ops [mv 6 (k 6)] [])
  (.ret))
  (.skip)))
 (.seq (.seq (.ops [mv 44 (t 8),
 o 45 (.pnil .eql (t 44) (.const (.pointer none)))] [44])
 (.cond (t 45)
  (.seq (.ops [o 46 (.build [sn, (i 0)] []),
  o 47 (.box 68 (t 46)),
  mv 8 (t 47)] [46, 47])
  (.ops [mv 48 (t 0),
  o 49 (.nilck (t 48)),
  fa 50 1 (t 49),
  l1 51 (t 50),
  mv 52 (t 1),
  mv 53 (t 8),
  e (.mset .str (t 51) (t 52) (t 53))] [1, 48, 49, 50, 51, 52, 53]))
  (.skip)))
 (.seq (.ops [mv 54 (t 8),
 mv 55 (t 8),
 o 56 (.nilck (t 55)),
 fa 57 0 (t 56),
 l1 58 (t 57),
 mv 59 (t 2),
 o 60 (.app 5 1 1 [(u 0)] (t 58) (t 59)),
 o 61 (.nilck (t 54)),
 fa 62 0 (t 61),
 st 1 (t 62) (t 60)] [2, 8, 54, 55, 56, 57, 58, 59, 60, 61, 62])
 (.seq (.ops [mv 63 (t 0),
 ca 64 F.disk_Disk_changed [(t 63)],
 mv 6 (t 64)] [0, 63, 64])
 (.ret)))))))
def r_disk_Disk_Append : List RRes := [.tmp 6]
theorem fo_disk_Disk_Append {args : List Value} {M : Mem} {R : Value → Mem → Prop} (hn : args.length ≤ 65) (h : vfn Try.prog c_disk_Disk_Append r_disk_Disk_Append args M R) : CallsM Try.prog F.disk_Disk_Append args M R :=
  fn_ok (kf := k_disk_Disk_Append) Try.func13 (by kernel_rfl) (by kernel_rfl) hn (by kernel_rfl) h
/-- (*portage/disk.Disk).Sync -/
def k_disk_Disk_Sync (i : Nat) : List Nat := match i with | 0 => [4] | 1 => [1, 7, 8, 9, 10, 11, 12] | 2 => [13] | 3 => [6, 15] | 4 => [5, 16, 17, 18, 19, 20, 21, 22, 23] | 5 => [0, 24, 25] | _ => []
def c_disk_Disk_Sync : RCode :=
 .seq (.ops [mv 4 (k 0)] [4])
 (.seq (.ops [mv 8 (t 0),
 mv 9 (t 1),
 ca 10 F.disk_Disk_there [(t 8), (t 9)],
 mv 7 (t 10),
 ex 11 (t 7) 0,
 ex 12 (t 7) 1,
 mv 5 (t 11),
 mv 6 (t 12)] [1, 7, 8, 9, 10, 11, 12])
 (.seq (.seq (.ops [mv 13 (t 6),
 o 14 (.ibin .neq (t 13) (k 0))] [13])
 (.cond (t 14)
  (.seq (.ops [mv 15 (t 6),
  mv 4 (t 15)] [6, 15])
  (.ret))
  (.skip)))
 (.seq (.ops [mv 16 (t 5),
 mv 17 (t 5),
 o 18 (.nilck (t 17)),
 fa 19 0 (t 18),
 l1 20 (t 19),
 o 21 (.len (t 20)),
 o 22 (.nilck (t 16)),
 fa 23 1 (t 22),
 st 1 (t 23) (t 21)] [5, 16, 17, 18, 19, 20, 21, 22, 23])
 (.seq (.ops [mv 24 (t 0),
 ca 25 F.disk_Disk_changed [(t 24)],
 mv 4 (t 25)] [0, 24, 25])
 (.ret)))))
def r_disk_Disk_Sync : List RRes := [.tmp 4]
theorem fo_disk_Disk_Sync {args : List Value} {M : Mem} {R : Value → Mem → Prop} (hn : args.length ≤ 26) (h : vfn Try.prog c_disk_Disk_Sync r_disk_Disk_Sync args M R) : CallsM Try.prog F.disk_Disk_Sync args M R :=
  fn_ok (kf := k_disk_Disk_Sync) Try.func14 (by kernel_rfl) (by kernel_rfl) hn (by kernel_rfl) h
/-- (*portage/disk.Disk).Cut -/
def k_disk_Disk_Cut (i : Nat) : List Nat := match i with | 0 => [6] | 1 => [1, 9, 10, 11, 12, 13, 14] | 2 => [15] | 3 => [8, 17] | 4 => [18, 19, 20, 21, 22, 23, 24, 25, 26, 27] | 6 => [2, 7, 29, 30, 31, 32, 33, 34, 35, 36, 37, 38, 39, 40, 41] | 7 => [0, 42, 43] | _ => []
def c_disk_Disk_Cut : RCode :=
 .seq (.ops [mv 6 (k 0)] [6])
 (.seq (.ops [mv 10 (t 0),
 mv 11 (t 1),
 ca 12 F.disk_Disk_there [(t 10), (t 11)],
 mv 9 (t 12),
 ex 13 (t 9) 0,
 ex 14 (t 9) 1,
 mv 7 (t 13),
 mv 8 (t 14)] [1, 9, 10, 11, 12, 13, 14])
 (.seq (.seq (.ops [mv 15 (t 8),
 o 16 (.ibin .neq (t 15) (k 0))] [15])
 (.cond (t 16)
  (.seq (.ops [mv 17 (t 8),
  mv 6 (t 17)] [8, 17])
  (.ret))
  (.skip)))
 (.seq (.seq (.ops [mv 18 (t 2),
 o 19 (.ibin .lss (t 18) (k 0)),
 os 20 (.mov (t 19)),
 gf 20 21 (.mov (t 2)),
 gf 20 22 (.mov (t 7)),
 gf 20 23 (.nilck (t 22)),
 gf 20 24 (.faddr 0 (t 23)),
 gf 20 25 (.load false 1 (t 24)),
 gf 20 26 (.len (t 25)),
 gf 20 27 (.ibin .gtr (t 21) (t 26)),
 o 28 (.pick (t 20) (kb true) (t 27))] [18, 19, 20, 21, 22, 23, 24, 25, 26, 27])
 (.cond (t 28)
  (.seq (.ops [mv 6 (k 1)] [])
  (.ret))
  (.skip)))
 (.seq (.ops [mv 29 (t 7),
 mv 30 (t 7),
 mv 31 (t 7),
 o 32 (.nilck (t 31)),
 fa 33 0 (t 32),
 l1 34 (t 33),
 mv 35 (t 2),
 o 36 (.slx 1 (t 34) none (some (t 35))),
 mv 37 (t 2),
 o 38 (.nilck (t 29)),
 fa 39 0 (t 38),
 st 1 (t 39) (t 36),
 o 40 (.nilck (t 30)),
 fa 41 1 (t 40),
 st 1 (t 41) (t 37)] [2, 7, 29, 30, 31, 32, 33, 34, 35, 36, 37, 38, 39, 40, 41])
 (.seq (.ops [mv 42 (t 0),
 ca 43 F.disk_Disk_changed [(t 42)],
 mv 6 (t 43)] [0, 42, 43])
 (.ret))))))
def r_disk_Disk_Cut : List RRes := [.tmp 6]
theorem fo_disk_Disk_Cut {args : List Value} {M : Mem} {R : Value → Mem → Prop} (hn : args.length ≤ 44) (h : vfn Try.prog c_disk_Disk_Cut r_disk_Disk_Cut args M R) : CallsM Try.prog F.disk_Disk_Cut args M R :=
  fn_ok (kf := k_disk_Disk_Cut) Try.func15 (by kernel_rfl) (by kernel_rfl) hn (by kernel_rfl) h
/-- (*portage/disk.Disk).Rename -/
def k_disk_Disk_Rename (i : Nat) : List Nat := match i with | 0 => [6] | 1 => [10, 11, 12, 13, 14] | 2 => [15] | 3 => [7, 17] | 4 => [18, 19, 20, 21, 22, 23] | 5 => [24] | 6 => [9, 26] | 7 => [27, 28, 29, 30, 31, 32, 33, 34, 35] | 9 => [1, 37, 38, 39, 40, 41] | 10 => [2, 8, 42, 43, 44, 45, 46, 47] | 11 => [0, 48, 49] | _ => []
def c_disk_Disk_Rename : RCode :=
 .seq (.ops [mv 6 (k 0)] [6])
 (.seq (.seq (.ops [mv 10 (t 0),
 mv 11 (t 1),
 mv 12 (t 2),
 o 13 (.mkSl false 9 2 [(.string ByteArray.empty), (.string ByteArray.empty)] [(0, 1, (t 11)), (1, 1, (t 12))]),
 ca 14 F.disk_Disk_ready [(t 10), (t 13)],
 mv 7 (t 14)] [10, 11, 12, 13, 14])
 (.seq (.ops [mv 15 (t 7),
 o 16 (.ibin .neq (t 15) (k 0))] [15])
 (.cond (t 16)
  (.seq (.ops [mv 17 (t 7),
  mv 6 (t 17)] [7, 17])
  (.ret))
  (.skip))))
 (.seq (.ops [mv 19 (t 0),
 mv 20 (t 1),
 ca 21 F.disk_Disk_there [(t 19), (t 20)],
 mv 18 (t 21),
 ex 22 (t 18) 0,
 ex 23 (t 18) 1,
 mv 8 (t 22),
 mv 9 (t 23)] [18, 19, 20, 21, 22, 23])
 (.seq (.seq (.ops [mv 24 (t 9),
 o 25 (.ibin .neq (t 24) (k 0))] [24])
 (.cond (t 25)
  (.seq (.ops [mv 26 (t 9),
  mv 6 (t 26)] [9, 26])
  (.ret))
  (.skip)))
 (.seq (.seq (.draw (.take (mv 27 (t 8)) (.take (o 28 (.nilck (t 27))) (.take (fa 29 1 (t 28)) (.take (l1 30 (t 29)) (.take (mv 31 (t 8)) (.take (o 32 (.nilck (t 31))) (.take (fa 33 0 (t 32)) (.take (l1 34 (t 33)) (.take (o 35 (.len (t 34))) (.take (o 36 (.ibin .lss (t 30) (t 35))) (.done))))))))))) [27, 28, 29, 30, 31, 32, 33, 34, 35])
 (.cond (t 36)
  (.seq (.ops [mv 6 (k 7)] [])
  (.ret))
  (.skip)))
 (.seq (.ops [mv 37 (t 0),
 o 38 (.nilck (t 37)),
 fa 39 1 (t 38),
 l1 40 (t 39),
 mv 41 (t 1),
 e (.mdel .str (t 40) (t 41))] [1, 37, 38, 39, 40, 41])
 (.seq (.ops [mv 42 (t 0),
 o 43 (.nilck (t 42)),
 fa 44 1 (t 43),
 l1 45 (t 44),
 mv 46 (t 2),
 mv 47 (t 8),
 e (.mset .str (t 45) (t 46) (t 47))] [2, 8, 42, 43, 44, 45, 46, 47])
 (.seq (.ops [mv 48 (t 0),
 ca 49 F.disk_Disk_changed [(t 48)],
 mv 6 (t 49)] [0, 48, 49])
 (.ret))))))))
def r_disk_Disk_Rename : List RRes := [.tmp 6]
theorem fo_disk_Disk_Rename {args : List Value} {M : Mem} {R : Value → Mem → Prop} (hn : args.length ≤ 50) (h : vfn Try.prog c_disk_Disk_Rename r_disk_Disk_Rename args M R) : CallsM Try.prog F.disk_Disk_Rename args M R :=
  fn_ok (kf := k_disk_Disk_Rename) Try.func16 (by kernel_rfl) (by kernel_rfl) hn (by kernel_rfl) h
/-- (*portage/disk.Disk).Remove -/
def k_disk_Disk_Remove (i : Nat) : List Nat := match i with | 0 => [4] | 1 => [5, 7, 8, 9, 10, 11, 12] | 2 => [13] | 3 => [6, 15] | 4 => [1, 16, 17, 18, 19, 20] | 5 => [0, 21, 22] | _ => []
def c_disk_Disk_Remove : RCode :=
 .seq (.ops [mv 4 (k 0)] [4])
 (.seq (.seq (.ops [mv 8 (t 0),
 mv 9 (t 1),
 ca 10 F.disk_Disk_there [(t 8), (t 9)],
 mv 7 (t 10),
 ex 11 (t 7) 0,
 ex 12 (t 7) 1,
 mv 5 (t 11),
 mv 6 (t 12)] [5, 7, 8, 9, 10, 11, 12])
 (.seq (.ops [mv 13 (t 6),
 o 14 (.ibin .neq (t 13) (k 0))] [13])
 (.cond (t 14)
  (.seq (.ops [mv 15 (t 6),
  mv 4 (t 15)] [6, 15])
  (.ret))
  (.skip))))
 (.seq (.ops [mv 16 (t 0),
 o 17 (.nilck (t 16)),
 fa 18 1 (t 17),
 l1 19 (t 18),
 mv 20 (t 1),
 e (.mdel .str (t 19) (t 20))] [1, 16, 17, 18, 19, 20])
 (.seq (.ops [mv 21 (t 0),
 ca 22 F.disk_Disk_changed [(t 21)],
 mv 4 (t 22)] [0, 21, 22])
 (.ret))))
def r_disk_Disk_Remove : List RRes := [.tmp 4]
theorem fo_disk_Disk_Remove {args : List Value} {M : Mem} {R : Value → Mem → Prop} (hn : args.length ≤ 23) (h : vfn Try.prog c_disk_Disk_Remove r_disk_Disk_Remove args M R) : CallsM Try.prog F.disk_Disk_Remove args M R :=
  fn_ok (kf := k_disk_Disk_Remove) Try.func17 (by kernel_rfl) (by kernel_rfl) hn (by kernel_rfl) h
/-- (*portage/disk.Disk).Down -/
def k_disk_Disk_Down (i : Nat) : List Nat := match i with | 0 => [2] | 1 => [0, 3, 4, 5, 6, 7, 8, 9, 10] | _ => []
def c_disk_Disk_Down : RCode :=
 .seq (.ops [mv 2 (kb false)] [2])
 (.seq (.ops [mv 3 (t 0),
 o 4 (.pnil .neq (t 3) (.const (.pointer none))),
 os 5 (.mov (t 4)),
 gt 5 6 (.mov (t 0)),
 gt 5 7 (.nilck (t 6)),
 gt 5 8 (.faddr 3 (t 7)),
 gt 5 9 (.load false 1 (t 8)),
 o 10 (.pick (t 5) (t 9) (kb false)),
 mv 2 (t 10)] [0, 3, 4, 5, 6, 7, 8, 9, 10])
 (.ret))
def r_disk_Disk_Down : List RRes := [.tmp 2]
theorem fo_disk_Disk_Down {args : List Value} {M : Mem} {R : Value → Mem → Prop} (hn : args.length ≤ 11) (h : vfn Try.prog c_disk_Disk_Down r_disk_Disk_Down args M R) : CallsM Try.prog F.disk_Disk_Down args M R :=
  fn_ok (kf := k_disk_Disk_Down) Try.func18 (by kernel_rfl) (by kernel_rfl) hn (by kernel_rfl) h
/-- (*portage/disk.Disk).Crash -/
def k_disk_Disk_Crash (i : Nat) : List Nat := match i with | 0 => [4] | 1 => [9] | 3 => [11] | 5 => [16, 17, 18] | 6 => [6, 19, 20, 21, 22, 23, 24] | 8 => [25, 26, 27] | 9 => [5, 29, 30, 31, 32, 33, 34, 35, 36, 37, 38, 39, 40, 41, 42, 43, 44] | 10 => [8, 45, 46, 47, 48, 49, 50, 51, 52] | 11 => [7, 53, 54, 55, 56, 57, 58, 59, 60, 61, 62, 63, 64] | 12 => [65] | 13 => [0, 66, 67, 68, 69, 70, 71] | _ => []
def c_disk_Disk_Crash : RCode :=
 .seq (.ops [mv 4 (k 0)] [4])
 (.seq (.seq (.ops [mv 9 (t 0),
 o 10 (.pnil .eql (t 9) (.const (.pointer none)))] [9])
 (.cond (t 10)
  (.seq (.ops [mv 4 (k 7)] [])
  (.ret))
  (.skip)))
 (.seq (.seq (.ops [mv 11 (t 0),
 ca 12 F.disk_Disk_Names [(t 11)],
 o 13 (.len (t 12)),
 mv 14 (k 0)] [11])
 (.block 0 (.loop (.seq (.ops [o 15 (.ibin .lss (t 14) (t 13))] [])
  (.seq (.cond (t 15)
   (.skip)
   (.exit 0))
  (.seq (.block 1 (.seq (.ops [mv 16 (t 14),
  o 17 (.iaddr 1 (t 12) (t 14)),
  l1 18 (t 17),
  mv 5 (t 16),
  mv 6 (t 18)] [16, 17, 18])
  (.seq (.ops [mv 19 (t 0),
  o 20 (.nilck (t 19)),
  fa 21 1 (t 20),
  l1 22 (t 21),
  mv 23 (t 6),
  o 24 (.mget .str false (.pointer none) (t 22) (t 23)),
  mv 7 (t 24)] [6, 19, 20, 21, 22, 23, 24])
  (.seq (.ops [mv 8 (k 0)] [])
  (.seq (.seq (.ops [mv 25 (t 5),
  mv 26 (t 1),
  o 27 (.len (t 26)),
  o 28 (.ibin .lss (t 25) (t 27))] [25, 26, 27])
  (.cond (t 28)
   (.draw (.take (mv 29 (t 1)) (.take (mv 30 (t 5)) (.take (o 31 (.iaddr 1 (t 29) (t 30))) (.take (l1 32 (t 31)) (.take (mv 33 (t 7)) (.take (o 34 (.nilck (t 33))) (.take (fa 35 0 (t 34)) (.take (l1 36 (t 35)) (.take (o 37 (.len (t 36))) (.take (mv 38 (t 7)) (.take (o 39 (.nilck (t 38))) (.take (fa 40 1 (t 39)) (.take (l1 41 (t 40)) (.take (o 42 (.ibin .sub (t 37) (t 41))) (.take (o 43 (.imm false (t 32) (t 42))) (.take (o 44 (.imm true (k 0) (t 43))) (.take (mv 8 (t 44)) (.done)))))))))))))))))) [5, 29, 30, 31, 32, 33, 34, 35, 36, 37, 38, 39, 40, 41, 42, 43, 44])
   (.skip)))
  (.seq (.ops [mv 45 (t 7),
  o 46 (.nilck (t 45)),
  fa 47 1 (t 46),
  l1 48 (t 47),
  mv 49 (t 8),
  ad 50 (t 48) (t 49),
  o 51 (.nilck (t 45)),
  fa 52 1 (t 51),
  st 1 (t 52) (t 50)] [8, 45, 46, 47, 48, 49, 50, 51, 52])
  (.draw (.take (mv 53 (t 7)) (.take (mv 54 (t 7)) (.take (o 55 (.nilck (t 54))) (.take (fa 56 0 (t 55)) (.take (l1 57 (t 56)) (.take (mv 58 (t 7)) (.take (o 59 (.nilck (t 58))) (.take (fa 60 1 (t 59)) (.take (l1 61 (t 60)) (.take (o 62 (.slx 1 (t 57) none (some (t 61)))) (.take (o 63 (.nilck (t 53))) (.take (fa 64 0 (t 63)) (.alt (st 1 (t 64) (t 62)) false
   (.done)
   (.none)))))))))))))) [7, 53, 54, 55, 56, 57, 58, 59, 60, 61, 62, 63, 64])))))))
  (.ops [ad 65 (t 14) (k 1),
  mv 14 (t 65)] [65])))))))
 (.seq (.ops [mv 66 (t 0),
 mv 67 (t 0),
 o 68 (.nilck (t 66)),
 fa 69 3 (t 68),
 st 1 (t 69) (kb false),
 o 70 (.nilck (t 67)),
 fa 71 2 (t 70),
 st 1 (t 71) (k (-1))] [0, 66, 67, 68, 69, 70, 71])
 (.seq (.ops [mv 4 (k 0)] [])
 (.ret)))))
def r_disk_Disk_Crash : List RRes := [.tmp 4]
theorem fo_disk_Disk_Crash {args : List Value} {M : Mem} {R : Value → Mem → Prop} (hn : args.length ≤ 72) (h : vfn Try.prog c_disk_Disk_Crash r_disk_Disk_Crash args M R) : CallsM Try.prog F.disk_Disk_Crash args M R :=
  fn_ok (kf := k_disk_Disk_Crash) Try.func19 (by kernel_rfl) (by kernel_rfl) hn (by kernel_rfl) h
/-- portage/portagelaw10.done -/
def k_law10_done (i : Nat) : List Nat := match i with | 0 => [4] | 1 => [0, 8, 9, 10, 11, 12] | 2 => [6, 13, 14, 15, 16, 17] | 5 => [19, 20, 21, 22, 23, 24, 25] | 7 => [29, 30, 31, 32] | 8 => [35] | 9 => [36, 37, 38, 39, 40, 41, 42, 43, 44, 45, 46, 47] | 10 => [49] | 11 => [50, 51, 52, 53, 54, 55, 56] | 12 => [58] | 13 => [59, 60, 61, 62, 63, 64, 65, 66, 67, 68, 69, 70] | 14 => [72] | 15 => [73, 74, 75, 76, 77, 78, 79, 80, 81, 82, 83, 84] | 16 => [33, 86] | 17 => [87, 88, 89, 90, 91, 92, 93] | 6 => [27, 28] | 18 => [5, 94] | _ => []
def c_law10_done : RCode :=
 .seq (.ops [mv 4 (.const (.pointer none))] [4])
 (.seq (.ops [mv 9 (t 0),
 ca 10 F.disk_New [(t 9)],
 mv 8 (t 10),
 ex 11 (t 8) 0,
 ex 12 (t 8) 1,
 mv 5 (t 11),
 mv 6 (t 12)] [0, 8, 9, 10, 11, 12])
 (.seq (.seq (.ops [mv 13 (t 6),
 o 14 (.ibin .neq (t 13) (k 0)),
 os 15 (.mov (t 14)),
 gf 15 16 (.mov (t 5)),
 gf 15 17 (.pnil .eql (t 16) (.const (.pointer none))),
 o 18 (.pick (t 15) (kb true) (t 17))] [6, 13, 14, 15, 16, 17])
 (.cond (t 18)
  (.seq (.ops [mv 4 (.const (.pointer none))] [])
  (.ret))
  (.skip)))
 (.seq (.seq (.ops [mv 7 (k 0)] [])
 (.block 0 (.loop (.seq (.seq (.ops [mv 19 (t 7),
  mv 20 (t 1),
  o 21 (.len (t 20)),
  o 22 (.ibin .lss (t 19) (t 21)),
  os 23 (.mov (t 22)),
  gt 23 24 (.mov (t 7)),
  gt 23 25 (.ibin .lss (t 24) (k 100)),
  o 26 (.pick (t 23) (t 25) (kb false))] [19, 20, 21, 22, 23, 24, 25])
  (.cond (t 26)
   (.skip)
   (.exit 0)))
  (.seq (.block 1 (.seq (.ops [mv 29 (t 1),
  mv 30 (t 7),
  o 31 (.iaddr 6 (t 29) (t 30)),
  fa 32 0 (t 31),
  l1 33 (t 32)] [29, 30, 31, 32])
  (.block 2 (.seq (.ops [o 35 (.ibin .eql (t 33) (k 0)),
  mv 34 (t 35)] [35])
  (.cond (t 34)
   (.draw (.take (mv 36 (t 5)) (.take (mv 37 (t 1)) (.take (mv 38 (t 7)) (.take (o 39 (.iaddr 6 (t 37) (t 38))) (.take (fa 40 1 (t 39)) (.take (l1 41 (t 40)) (.take (mv 42 (t 1)) (.take (mv 43 (t 7)) (.take (o 44 (.iaddr 6 (t 42) (t 43))) (.take (fa 45 3 (t 44)) (.take (l1 46 (t 45)) (.alt (ca 47 F.disk_Disk_Append [(t 36), (t 41), (t 46)]) false
    (.done)
    (.none))))))))))))) [36, 37, 38, 39, 40, 41, 42, 43, 44, 45, 46, 47])
   (.seq (.ops [o 49 (.ibin .eql (t 33) (k 1)),
   mv 48 (t 49)] [49])
   (.cond (t 48)
    (.ops [mv 50 (t 5),
    mv 51 (t 1),
    mv 52 (t 7),
    o 53 (.iaddr 6 (t 51) (t 52)),
    fa 54 1 (t 53),
    l1 55 (t 54),
    ca 56 F.disk_Disk_Sync [(t 50), (t 55)]] [50, 51, 52, 53, 54, 55, 56])
    (.seq (.ops [o 58 (.ibin .eql (t 33) (k 2)),
    mv 57 (t 58)] [58])
    (.cond (t 57)
     (.draw (.take (mv 59 (t 5)) (.take (mv 60 (t 1)) (.take (mv 61 (t 7)) (.take (o 62 (.iaddr 6 (t 60) (t 61))) (.take (fa 63 1 (t 62)) (.take (l1 64 (t 63)) (.take (mv 65 (t 1)) (.take (mv 66 (t 7)) (.take (o 67 (.iaddr 6 (t 65) (t 66))) (.take (fa 68 4 (t 67)) (.take (l1 69 (t 68)) (.alt (ca 70 F.disk_Disk_Cut [(t 59), (t 64), (t 69)]) false
      (.done)
      (.none))))))))))))) [59, 60, 61, 62, 63, 64, 65, 66, 67, 68, 69, 70])
     (.seq (.ops [o 72 (.ibin .eql (t 33) (k 3)),
     mv 71 (t 72)] [72])
     (.cond (t 71)
      (.draw (.take (mv 73 (t 5)) (.take (mv 74 (t 1)) (.take (mv 75 (t 7)) (.take (o 76 (.iaddr 6 (t 74) (t 75))) (.take (fa 77 1 (t 76)) (.take (l1 78 (t 77)) (.take (mv 79 (t 1)) (.take (mv 80 (t 7)) (.take (o 81 (.iaddr 6 (t 79) (t 80))) (.take (fa 82 2 (t 81)) (.take (l1 83 (t 82)) (.alt (ca 84 F.disk_Disk_Rename [(t 73), (t 78), (t 83)]) false
       (.done)
       (.none))))))))))))) [73, 74, 75, 76, 77, 78, 79, 80, 81, 82, 83, 84])
      (.seq (.ops [o 86 (.ibin .eql (t 33) (k 4)),
      mv 85 (t 86)] [33, 86])
      (.cond (t 85)
       (.ops [mv 87 (t 5),
       mv 88 (t 1),
       mv 89 (t 7),
       o 90 (.iaddr 6 (t 88) (t 89)),
       fa 91 1 (t 90),
       l1 92 (t 91),
       ca 93 F.disk_Disk_Remove [(t 87), (t 92)]] [87, 88, 89, 90, 91, 92, 93])
       (.skip))))))))))))))
  (.ops [mv 27 (t 7),
  ad 28 (t 27) (k 1),
  mv 7 (t 28)] [27, 28]))))))
 (.seq (.ops [mv 94 (t 5),
 mv 4 (t 94)] [5, 94])
 (.ret)))))
def r_law10_done : List RRes := [.tmp 4]
theorem fo_law10_done {args : List Value} {M : Mem} {R : Value → Mem → Prop} (hn : args.length ≤ 95) (h : vfn Try.prog c_law10_done r_law10_done args M R) : CallsM Try.prog F.law10_done args M R :=
  fn_ok (kf := k_law10_done) Try.func20 (by kernel_rfl) (by kernel_rfl) hn (by kernel_rfl) h
/-- (*portage/disk.Disk).Names -/
def k_disk_Disk_Names (i : Nat) : List Nat := match i with | 0 => [2] | 1 => [5] | 4 => [0, 7, 8, 9, 10] | 5 => [12] | 6 => [14, 15] | 7 => [4, 16, 17, 18, 19] | 8 => [20, 21] | 9 => [3, 22] | _ => []
def c_disk_Disk_Names : RCode :=
 .seq (.ops [mv 2 (.const sn)] [2])
 (.seq (.seq (.ops [mv 5 (t 0),
 o 6 (.pnil .eql (t 5) (.const (.pointer none)))] [5])
 (.cond (t 6)
  (.seq (.ops [mv 2 (.const sn)] [])
  (.ret))
  (.skip)))
 (.seq (.ops [mv 3 (.const sn)] [])
 (.seq (.seq (.ops [mv 7 (t 0),
 o 8 (.nilck (t 7)),
 fa 9 1 (t 8),
 l1 10 (t 9),
 o 11 (.mrange (t 10))] [0, 7, 8, 9, 10])
 (.block 0 (.loop (.seq (.ops [o 12 (.mnext (t 11)),
  ex 13 (t 12) 0] [12])
  (.seq (.cond (t 13)
   (.skip)
   (.exit 0))
  (.block 1 (.seq (.ops [o 14 (.mentry (t 11)),
  ex 15 (t 14) 0,
  mv 4 (t 15)] [14, 15])
  (.ops [mv 16 (t 3),
  mv 17 (t 4),
  o 18 (.mkSl true 9 1 [(.string ByteArray.empty)] [(0, 1, (t 17))]),
  o 19 (.app 9 1 16 [(.string ByteArray.empty)] (t 16) (t 18)),
  mv 3 (t 19)] [4, 16, 17, 18, 19]))))))))
 (.seq (.ops [mv 20 (t 3),
 ca 21 F.slices_Sort_string_string [(t 20)]] [20, 21])
 (.seq (.ops [mv 22 (t 3),
 mv 2 (t 22)] [3, 22])
 (.ret))))))
def r_disk_Disk_Names : List RRes := [.tmp 2]
theorem fo_disk_Disk_Names {args : List Value} {M : Mem} {R : Value → Mem → Prop} (hn : args.length ≤ 23) (h : vfn Try.prog c_disk_Disk_Names r_disk_Disk_Names args M R) : CallsM Try.prog F.disk_Disk_Names args M R :=
  fn_ok (kf := k_disk_Disk_Names) Try.func21 (by kernel_rfl) (by kernel_rfl) hn (by kernel_rfl) h
/-- (*portage/disk.Disk).Fork -/
def k_disk_Disk_Fork (i : Nat) : List Nat := match i with | 0 => [2] | 1 => [6] | 3 => [8, 9, 10, 11, 12, 13, 14, 15, 16, 17, 18, 19, 20, 21, 22] | 4 => [0, 23, 24, 25, 26] | 5 => [28] | 6 => [30, 31, 32] | 7 => [4, 5, 33, 34, 35, 36, 37, 38, 39, 40, 41, 42, 43, 44, 45, 46, 47, 48, 49] | 8 => [3, 50] | _ => []
def c_disk_Disk_Fork : RCode :=
 .seq (.ops [mv 2 (.const (.pointer none))] [2])
 (.seq (.seq (.ops [mv 6 (t 0),
 o 7 (.pnil .eql (t 6) (.const (.pointer none)))] [6])
 (.cond (t 7)
  (.seq (.ops [mv 2 (.const (.pointer none))] [])
  (.ret))
  (.skip)))
 (.seq (.draw (.take (mv 8 (t 0)) (.take (o 9 (.nilck (t 8))) (.take (fa 10 0 (t 9)) (.take (l1 11 (t 10)) (.take (mv 13 (t 0)) (.take (o 14 (.nilck (t 13))) (.take (fa 15 2 (t 14)) (.take (l1 16 (t 15)) (.take (mv 17 (t 0)) (.take (o 18 (.nilck (t 17))) (.take (fa 19 3 (t 18)) (.take (l1 20 (t 19)) (.alt (o 12 (.mkMap)) true
  (.take (o 21 (.build [(i 0), (.map none), (i 0), (.bool false)] [(0, 1, (t 11)), (1, 1, (t 12)), (2, 1, (t 16)), (3, 1, (t 20))])) (.alt (o 22 (.box 64 (t 21))) false
   (.take (mv 3 (t 22)) (.done))
   (.none)))
  (.none)))))))))))))) [8, 9, 10, 11, 12, 13, 14, 15, 16, 17, 18, 19, 20, 21, 22])
 (.seq (.seq (.ops [mv 23 (t 0),
 o 24 (.nilck (t 23)),
 fa 25 1 (t 24),
 l1 26 (t 25),
 o 27 (.mrange (t 26))] [0, 23, 24, 25, 26])
 (.block 0 (.loop (.seq (.ops [o 28 (.mnext (t 27)),
  ex 29 (t 28) 0] [28])
  (.seq (.cond (t 29)
   (.skip)
   (.exit 0))
  (.block 1 (.seq (.ops [o 30 (.mentry (t 27)),
  ex 31 (t 30) 0,
  ex 32 (t 30) 1,
  mv 4 (t 31),
  mv 5 (t 32)] [30, 31, 32])
  (.draw (.take (mv 33 (t 3)) (.take (o 34 (.nilck (t 33))) (.take (fa 35 1 (t 34)) (.take (l1 36 (t 35)) (.take (mv 37 (t 4)) (.take (mv 39 (t 5)) (.take (o 40 (.nilck (t 39))) (.take (fa 41 0 (t 40)) (.take (l1 42 (t 41)) (.take (mv 44 (t 5)) (.take (o 45 (.nilck (t 44))) (.take (fa 46 1 (t 45)) (.take (l1 47 (t 46)) (.alt (o 38 (.mkSl false 5 0 [] [])) false
   (.alt (o 43 (.app 5 1 1 [(u 0)] (t 38) (t 42))) true
    (.take (o 48 (.build [sn, (i 0)] [(0, 1, (t 43)), (1, 1, (t 47))])) (.alt (o 49 (.box 68 (t 48))) false
     (.alt (e (.mset .str (t 36) (t 37) (t 49))) false
      (.done)
      (.none))
     (.none)))
    (.none))
   (.none))))))))))))))) [4, 5, 33, 34, 35, 36, 37, 38, 39, 40, 41, 42, 43, 44, 45, 46, 47, 48, 49]))))))))
 (.seq (.ops [mv 50 (t 3),
 mv 2 (t 50)] [3, 50])
 (.ret)))))
def r_disk_Disk_Fork : List RRes := [.tmp 2]
theorem fo_disk_Disk_Fork {args : List Value} {M : Mem} {R : Value → Mem → Prop} (hn : args.length ≤ 51) (h : vfn Try.prog c_disk_Disk_Fork r_disk_Disk_Fork args M R) : CallsM Try.prog F.disk_Disk_Fork args M R :=
  fn_ok (kf := k_disk_Disk_Fork) Try.func22 (by kernel_rfl) (by kernel_rfl) hn (by kernel_rfl) h
/-- portage/portagelaw10.same -/
def k_law10_same (i : Nat) : List Nat := match i with | 0 => [4] | 1 => [12, 13] | 2 => [14, 15] | 3 => [16, 17, 18, 19, 20, 21, 22, 23, 24, 25, 26] | 6 => [28, 29, 30] | 8 => [34, 35, 36, 37, 38, 39, 40, 41, 42] | 9 => [43, 44, 45, 46, 47, 48, 49, 50, 51] | 10 => [8, 9, 10, 11, 52, 53, 54, 55, 56, 57, 58, 59, 60, 61, 62, 63, 64, 65, 66, 67, 68, 69, 70, 71, 72, 73, 74, 75, 76, 77, 78, 79, 80, 81, 82, 83, 84, 85, 86] | 7 => [32, 33] | _ => []
def c_law10_same : RCode :=
 .seq (.ops [mv 4 (kb false)] [4])
 (.seq (.ops [mv 12 (t 0),
 ca 13 F.disk_Disk_Names [(t 12)],
 mv 5 (t 13)] [12, 13])
 (.seq (.ops [mv 14 (t 1),
 ca 15 F.disk_Disk_Names [(t 14)],
 mv 6 (t 15)] [14, 15])
 (.seq (.seq (.ops [mv 16 (t 5),
 o 17 (.len (t 16)),
 mv 18 (t 6),
 o 19 (.len (t 18)),
 o 20 (.ibin .neq (t 17) (t 19)),
 os 21 (.mov (t 20)),
 gf 21 22 (.mov (t 0)),
 gf 21 23 (.call (fn F.disk_Disk_Used) [(t 22)]),
 gf 21 24 (.mov (t 1)),
 gf 21 25 (.call (fn F.disk_Disk_Used) [(t 24)]),
 gf 21 26 (.ibin .neq (t 23) (t 25)),
 o 27 (.pick (t 21) (kb true) (t 26))] [16, 17, 18, 19, 20, 21, 22, 23, 24, 25, 26])
 (.cond (t 27)
  (.seq (.ops [mv 4 (kb false)] [])
  (.ret))
  (.skip)))
 (.seq (.seq (.ops [mv 7 (k 0)] [])
 (.block 0 (.loop (.seq (.seq (.ops [mv 28 (t 7),
  mv 29 (t 5),
  o 30 (.len (t 29)),
  o 31 (.ibin .lss (t 28) (t 30))] [28, 29, 30])
  (.cond (t 31)
   (.skip)
   (.exit 0)))
  (.seq (.block 1 (.seq (.ops [mv 35 (t 0),
  mv 36 (t 5),
  mv 37 (t 7),
  o 38 (.iaddr 1 (t 36) (t 37)),
  l1 39 (t 38),
  ca 40 F.disk_Disk_Read [(t 35), (t 39)],
  mv 34 (t 40),
  ex 41 (t 34) 0,
  ex 42 (t 34) 1,
  mv 8 (t 41),
  mv 9 (t 42)] [34, 35, 36, 37, 38, 39, 40, 41, 42])
  (.seq (.ops [mv 44 (t 1),
  mv 45 (t 6),
  mv 46 (t 7),
  o 47 (.iaddr 1 (t 45) (t 46)),
  l1 48 (t 47),
  ca 49 F.disk_Disk_Read [(t 44), (t 48)],
  mv 43 (t 49),
  ex 50 (t 43) 0,
  ex 51 (t 43) 1,
  mv 10 (t 50),
  mv 11 (t 51)] [43, 44, 45, 46, 47, 48, 49, 50, 51])
  (.seq (.draw (.take (mv 52 (t 5)) (.take (mv 53 (t 7)) (.take (o 54 (.iaddr 1 (t 52) (t 53))) (.take (l1 55 (t 54)) (.take (mv 56 (t 6)) (.take (mv 57 (t 7)) (.take (o 58 (.iaddr 1 (t 56) (t 57))) (.take (l1 59 (t 58)) (.take (o 60 (.strE .neq (t 55) (t 59))) (.take (os 61 (.mov (t 60))) (.take (gf 61 62 (.mov (t 9))) (.take (gf 61 63 (.mov (t 11))) (.take (gf 61 64 (.ibin .neq (t 62) (t 63))) (.take (o 65 (.pick (t 61) (kb true) (t 64))) (.take (os 66 (.mov (t 65))) (.take (gf 66 67 (.mov (t 8))) (.take (gf 66 68 (.strOf (t 67))) (.take (gf 66 69 (.mov (t 10))) (.take (gf 66 70 (.strOf (t 69))) (.take (gf 66 71 (.strE .neq (t 68) (t 70))) (.take (o 72 (.pick (t 66) (kb true) (t 71))) (.take (os 73 (.mov (t 72))) (.take (gf 73 74 (.mov (t 0))) (.take (gf 73 75 (.mov (t 5))) (.take (gf 73 76 (.mov (t 7))) (.take (gf 73 77 (.iaddr 1 (t 75) (t 76))) (.take (gf 73 78 (.load false 1 (t 77))) (.take (gf 73 80 (.mov (t 1))) (.take (gf 73 81 (.mov (t 6))) (.take (gf 73 82 (.mov (t 7))) (.take (gf 73 83 (.iaddr 1 (t 81) (t 82))) (.take (gf 73 84 (.load false 1 (t 83))) (.alt (gf 73 79 (.call (fn F.disk_Disk_Safe) [(t 74), (t 78)])) true
   (.alt (gf 73 85 (.call (fn F.disk_Disk_Safe) [(t 80), (t 84)])) false
    (.take (gf 73 86 (.ibin .neq (t 79) (t 85))) (.take (o 87 (.pick (t 73) (kb true) (t 86))) (.done)))
    (.none))
   (.none)))))))))))))))))))))))))))))))))) [8, 9, 10, 11, 52, 53, 54, 55, 56, 57, 58, 59, 60, 61, 62, 63, 64, 65, 66, 67, 68, 69, 70, 71, 72, 73, 74, 75, 76, 77, 78, 79, 80, 81, 82, 83, 84, 85, 86])
  (.cond (t 87)
   (.seq (.ops [mv 4 (kb false)] [])
   (.ret))
   (.skip))))))
  (.ops [mv 32 (t 7),
  ad 33 (t 32) (k 1),
  mv 7 (t 33)] [32, 33]))))))
 (.seq (.ops [mv 4 (kb true)] [])
 (.ret))))))
def r_law10_same : List RRes := [.tmp 4]
theorem fo_law10_same {args : List Value} {M : Mem} {R : Value → Mem → Prop} (hn : args.length ≤ 88) (h : vfn Try.prog c_law10_same r_law10_same args M R) : CallsM Try.prog F.law10_same args M R :=
  fn_ok (kf := k_law10_same) Try.func23 (by kernel_rfl) (by kernel_rfl) hn (by kernel_rfl) h
/-- (*portage/disk.Disk).Used -/
def k_disk_Disk_Used (i : Nat) : List Nat := match i with | 0 => [2] | 2 => [6] | 3 => [0, 8, 9, 10, 11] | 4 => [13] | 5 => [15, 16] | 6 => [5, 17, 18, 19, 20, 21, 22, 23] | 7 => [3, 24] | _ => []
def c_disk_Disk_Used : RCode :=
 .seq (.ops [mv 2 (k 0)] [2])
 (.seq (.ops [mv 3 (k 0)] [])
 (.seq (.seq (.ops [mv 6 (t 0),
 o 7 (.pnil .neq (t 6) (.const (.pointer none)))] [6])
 (.cond (t 7)
  (.seq (.ops [mv 8 (t 0),
  o 9 (.nilck (t 8)),
  fa 10 1 (t 9),
  l1 11 (t 10),
  o 12 (.mrange (t 11))] [0, 8, 9, 10, 11])
  (.block 0 (.loop (.seq (.ops [o 13 (.mnext (t 12)),
   ex 14 (t 13) 0] [13])
   (.seq (.cond (t 14)
    (.skip)
    (.exit 0))
   (.block 1 (.seq (.ops [o 15 (.mentry (t 12)),
   ex 16 (t 15) 1,
   mv 5 (t 16)] [15, 16])
   (.ops [mv 17 (t 3),
   mv 18 (t 5),
   o 19 (.nilck (t 18)),
   fa 20 0 (t 19),
   l1 21 (t 20),
   o 22 (.len (t 21)),
   ad 23 (t 17) (t 22),
   mv 3 (t 23)] [5, 17, 18, 19, 20, 21, 22, 23]))))))))
  (.skip)))
 (.seq (.ops [mv 24 (t 3),
 mv 2 (t 24)] [3, 24])
 (.ret))))
def r_disk_Disk_Used : List RRes := [.tmp 2]
theorem fo_disk_Disk_Used {args : List Value} {M : Mem} {R : Value → Mem → Prop} (hn : args.length ≤ 25) (h : vfn Try.prog c_disk_Disk_Used r_disk_Disk_Used args M R) : CallsM Try.prog F.disk_Disk_Used args M R :=
  fn_ok (kf := k_disk_Disk_Used) Try.func24 (by kernel_rfl) (by kernel_rfl) hn (by kernel_rfl) h
/-- portage/portageref10.New -/
def k_ref10_New (i : Nat) : List Nat := match i with | 0 => [3] | 1 => [4, 5, 6, 7, 8] | 2 => [10] | 3 => [0, 11, 12] | _ => []
def c_ref10_New : RCode :=
 .seq (.ops [o 2 (.alloc 50 [(i 0), sn, (i 0), (.bool false)]),
 mv 3 (k 0)] [3])
 (.seq (.seq (.ops [mv 4 (t 0),
 o 5 (.ibin .lss (t 4) (k 1)),
 os 6 (.mov (t 5)),
 gf 6 7 (.mov (t 0)),
 gf 6 8 (.ibin .gtr (t 7) (k 1048576)),
 o 9 (.pick (t 6) (kb true) (t 8))] [4, 5, 6, 7, 8])
 (.cond (t 9)
  (.seq (.ops [o 10 (.build [(i 0), sn, (i 0), (.bool false)] []),
  st 4 (t 2) (t 10),
  mv 3 (k 1)] [10])
  (.ret))
  (.skip)))
 (.seq (.ops [mv 11 (t 0),
 o 12 (.build [(i 0), sn, (i 0), (.bool false)] [(0, 1, (t 11)), (2, 1, (k (-1)))]),
 st 4 (t 2) (t 12),
 mv 3 (k 0)] [0, 11, 12])
 (.ret)))
def r_ref10_New : List RRes := [.cell true 4 2, .tmp 3]
theorem fo_ref10_New {args : List Value} {M : Mem} {R : Value → Mem → Prop} (hn : args.length ≤ 13) (h : vfn Try.prog c_ref10_New r_ref10_New args M R) : CallsM Try.prog F.ref10_New args M R :=
  fn_ok (kf := k_ref10_New) Try.func25 (by kernel_rfl) (by kernel_rfl) hn (by kernel_rfl) h
/-- (*portage/disk.Disk).Read -/
def k_disk_Disk_Read (i : Nat) : List Nat := match i with | 0 => [4, 5] | 1 => [0, 1, 9, 10, 11, 12, 13, 14] | 2 => [15] | 3 => [7, 17] | 4 => [18, 19, 20, 21, 22, 23] | 5 => [6, 24, 25, 26, 27, 28, 29] | 6 => [8, 30] | _ => []
def c_disk_Disk_Read : RCode :=
 .seq (.ops [mv 4 (.const sn),
 mv 5 (k 0)] [4, 5])
 (.seq (.ops [mv 10 (t 0),
 mv 11 (t 1),
 ca 12 F.disk_Disk_there [(t 10), (t 11)],
 mv 9 (t 12),
 ex 13 (t 9) 0,
 ex 14 (t 9) 1,
 mv 6 (t 13),
 mv 7 (t 14)] [0, 1, 9, 10, 11, 12, 13, 14])
 (.seq (.seq (.ops [mv 15 (t 7),
 o 16 (.ibin .neq (t 15) (k 0))] [15])
 (.cond (t 16)
  (.seq (.ops [mv 17 (t 7),
  mv 4 (.const sn),
  mv 5 (t 17)] [7, 17])
  (.ret))
  (.skip)))
 (.seq (.ops [mv 18 (t 6),
 o 19 (.nilck (t 18)),
 fa 20 0 (t 19),
 l1 21 (t 20),
 o 22 (.len (t 21)),
 o 23 (.mkSlN 5 1 [(u 0)] (t 22) (t 22)),
 mv 8 (t 23)] [18, 19, 20, 21, 22, 23])
 (.seq (.ops [mv 24 (t 8),
 mv 25 (t 6),
 o 26 (.nilck (t 25)),
 fa 27 0 (t 26),
 l1 28 (t 27),
 o 29 (.cpy 1 (t 24) (t 28))] [6, 24, 25, 26, 27, 28, 29])
 (.seq (.ops [mv 30 (t 8),
 mv 4 (t 30),
 mv 5 (k 0)] [8, 30])
 (.ret))))))
def r_disk_Disk_Read : List RRes := [.tmp 4, .tmp 5]
theorem fo_disk_Disk_Read {args : List Value} {M : Mem} {R : Value → Mem → Prop} (hn : args.length ≤ 31) (h : vfn Try.prog c_disk_Disk_Read r_disk_Disk_Read args M R) : CallsM Try.prog F.disk_Disk_Read args M R :=
  fn_ok (kf := k_disk_Disk_Read) Try.func26 (by kernel_rfl) (by kernel_rfl) hn (by kernel_rfl) h
/-- (*portage/disk.Disk).Safe -/
def k_disk_Disk_Safe (i : Nat) : List Nat := match i with | 0 => [4] | 1 => [5, 6, 7, 8, 9, 10, 11, 12, 13, 14] | 3 => [0, 1, 16, 17, 18, 19, 20, 21, 22, 23, 24] | _ => []
def c_disk_Disk_Safe : RCode :=
 .seq (.ops [mv 4 (k 0)] [4])
 (.seq (.seq (.ops [mv 5 (t 0),
 o 6 (.pnil .eql (t 5) (.const (.pointer none))),
 os 7 (.mov (t 6)),
 gf 7 8 (.mov (t 0)),
 gf 7 9 (.nilck (t 8)),
 gf 7 10 (.faddr 1 (t 9)),
 gf 7 11 (.load false 1 (t 10)),
 gf 7 12 (.mov (t 1)),
 gf 7 13 (.mget .str false (.pointer none) (t 11) (t 12)),
 gf 7 14 (.pnil .eql (t 13) (.const (.pointer none))),
 o 15 (.pick (t 7) (kb true) (t 14))] [5, 6, 7, 8, 9, 10, 11, 12, 13, 14])
 (.cond (t 15)
  (.seq (.ops [mv 4 (k 0)] [])
  (.ret))
  (.skip)))
 (.seq (.ops [mv 16 (t 0),
 o 17 (.nilck (t 16)),
 fa 18 1 (t 17),
 l1 19 (t 18),
 mv 20 (t 1),
 o 21 (.mget .str false (.pointer none) (t 19) (t 20)),
 o 22 (.nilck (t 21)),
 fa 23 1 (t 22),
 l1 24 (t 23),
 mv 4 (t 24)] [0, 1, 16, 17, 18, 19, 20, 21, 22, 23, 24])
 (.ret)))
def r_disk_Disk_Safe : List RRes := [.tmp 4]
theorem fo_disk_Disk_Safe {args : List Value} {M : Mem} {R : Value → Mem → Prop} (hn : args.length ≤ 25) (h : vfn Try.prog c_disk_Disk_Safe r_disk_Disk_Safe args M R) : CallsM Try.prog F.disk_Disk_Safe args M R :=
  fn_ok (kf := k_disk_Disk_Safe) Try.func27 (by kernel_rfl) (by kernel_rfl) hn (by kernel_rfl) h
/-- portage/portagelaw10.step -/
def k_law10_step (i : Nat) : List Nat := match i with | 0 => [1, 2, 7] | 1 => [27] | 2 => [30] | 3 => [4, 31, 32, 33, 34, 35, 36, 37, 38, 39] | 4 => [0, 5, 8, 9, 40, 41, 42, 43, 44, 45, 46, 47, 48, 49, 50] | 5 => [52] | 6 => [4, 53, 54, 55, 56, 57, 58, 59] | 7 => [0, 5, 10, 11, 60, 61, 62, 63, 64, 65, 66] | 8 => [68] | 9 => [4, 69, 70, 71, 72, 73, 74, 75, 76, 77] | 10 => [0, 5, 12, 13, 78, 79, 80, 81, 82, 83, 84, 85, 86] | 11 => [88] | 12 => [4, 89, 90, 91, 92, 93, 94, 95, 96, 97] | 13 => [0, 5, 14, 15, 98, 99, 100, 101, 102, 103, 104, 105, 106] | 14 => [108] | 15 => [4, 109, 110, 111, 112, 113, 114, 115] | 16 => [0, 5, 16, 17, 116, 117, 118, 119, 120, 121, 122] | 17 => [124] | 18 => [0, 125, 126, 127, 128, 129, 130, 131] | 19 => [5, 132, 133, 134, 135, 136, 137, 138] | 21 => [139, 140, 141, 142, 143, 144, 145, 146, 147] | 23 => [151, 152, 153, 154, 155, 156, 157, 158] | 24 => [159, 160, 161, 162, 163, 164, 165, 166] | 22 => [149, 150] | 25 => [4, 18, 19, 20, 21, 167, 168, 169, 170, 171, 172, 173, 174, 175, 176] | 26 => [178] | 27 => [4, 179, 180, 181, 182, 183, 184, 185] | 28 => [0, 5, 23, 24, 186, 187, 188, 189, 190, 191, 192] | 29 => [194] | 30 => [4, 195, 196, 197, 198, 199, 200, 201] | 31 => [0, 5, 25, 26, 202, 203, 204, 205, 206, 207, 208] | 32 => [28, 210] | 33 => [0, 4, 5, 211, 212, 213, 214, 215, 216, 217, 218, 219, 220, 221] | 34 => [4, 222] | _ => []
def c_law10_step : RCode :=
 .seq (.ops [o 4 (.box 50 (t 1)),
 o 5 (.box 34 (t 2)),
 o 6 (.alloc 50 [(i 0), sn, (i 0), (.bool false)]),
 mv 7 (kb false)] [1, 2, 7])
 (.seq (.seq (.ops [fa 27 0 (t 5),
 l1 28 (t 27)] [27])
 (.block 0 (.seq (.ops [o 30 (.ibin .eql (t 28) (k 0)),
 mv 29 (t 30)] [30])
 (.cond (t 29)
  (.seq (.ops [la 32 4 (t 4),
  fa 33 1 (t 5),
  l1 34 (t 33),
  fa 35 3 (t 5),
  l1 36 (t 35),
  ca 37 F.ref10_Append [(t 32), (t 34), (t 36)],
  mv 31 (t 37),
  ex 38 (t 31) 0,
  ex 39 (t 31) 1,
  o 8 (.alloc 50 [(i 0), sn, (i 0), (.bool false)]),
  st 4 (t 8) (t 38),
  mv 9 (t 39)] [4, 31, 32, 33, 34, 35, 36, 37, 38, 39])
  (.seq (.draw (.take (la 40 4 (t 8)) (.take (mv 41 (t 0)) (.take (fa 42 1 (t 5)) (.take (l1 43 (t 42)) (.take (fa 45 3 (t 5)) (.take (l1 46 (t 45)) (.take (mv 49 (t 9)) (.alt (o 44 (.mkSl false 5 0 [] [])) false
   (.alt (o 47 (.app 5 1 1 [(u 0)] (t 44) (t 46))) true
    (.alt (ca 48 F.disk_Disk_Append [(t 41), (t 43), (t 47)]) true
     (.take (o 50 (.ibin .eql (t 48) (t 49))) (.alt (st 4 (t 6) (t 40)) false
      (.take (mv 7 (t 50)) (.done))
      (.none)))
     (.none))
    (.none))
   (.none))))))))) [0, 5, 8, 9, 40, 41, 42, 43, 44, 45, 46, 47, 48, 49, 50])
  (.ret)))
  (.seq (.ops [o 52 (.ibin .eql (t 28) (k 1)),
  mv 51 (t 52)] [52])
  (.cond (t 51)
   (.seq (.ops [la 54 4 (t 4),
   fa 55 1 (t 5),
   l1 56 (t 55),
   ca 57 F.ref10_Sync [(t 54), (t 56)],
   mv 53 (t 57),
   ex 58 (t 53) 0,
   ex 59 (t 53) 1,
   o 10 (.alloc 50 [(i 0), sn, (i 0), (.bool false)]),
   st 4 (t 10) (t 58),
   mv 11 (t 59)] [4, 53, 54, 55, 56, 57, 58, 59])
   (.seq (.draw (.take (la 60 4 (t 10)) (.take (mv 61 (t 0)) (.take (fa 62 1 (t 5)) (.take (l1 63 (t 62)) (.take (mv 65 (t 11)) (.alt (ca 64 F.disk_Disk_Sync [(t 61), (t 63)]) true
    (.take (o 66 (.ibin .eql (t 64) (t 65))) (.alt (st 4 (t 6) (t 60)) false
     (.take (mv 7 (t 66)) (.done))
     (.none)))
    (.none))))))) [0, 5, 10, 11, 60, 61, 62, 63, 64, 65, 66])
   (.ret)))
   (.seq (.ops [o 68 (.ibin .eql (t 28) (k 2)),
   mv 67 (t 68)] [68])
   (.cond (t 67)
    (.seq (.ops [la 70 4 (t 4),
    fa 71 1 (t 5),
    l1 72 (t 71),
    fa 73 4 (t 5),
    l1 74 (t 73),
    ca 75 F.ref10_Cut [(t 70), (t 72), (t 74)],
    mv 69 (t 75),
    ex 76 (t 69) 0,
    ex 77 (t 69) 1,
    o 12 (.alloc 50 [(i 0), sn, (i 0), (.bool false)]),
    st 4 (t 12) (t 76),
    mv 13 (t 77)] [4, 69, 70, 71, 72, 73, 74, 75, 76, 77])
    (.seq (.draw (.take (la 78 4 (t 12)) (.take (mv 79 (t 0)) (.take (fa 80 1 (t 5)) (.take (l1 81 (t 80)) (.take (fa 82 4 (t 5)) (.take (l1 83 (t 82)) (.take (mv 85 (t 13)) (.alt (ca 84 F.disk_Disk_Cut [(t 79), (t 81), (t 83)]) true
     (.take (o 86 (.ibin .eql (t 84) (t 85))) (.alt (st 4 (t 6) (t 78)) false
      (.take (mv 7 (t 86)) (.done))
      (.none)))
     (.none))))))))) [0, 5, 12, 13, 78, 79, 80, 81, 82, 83, 84, 85, 86])
    (.ret)))
    (.seq (.ops [o 88 (.ibin .eql (t 28) (k 3)),
    mv 87 (t 88)] [88])
    (.cond (t 87)
     (.seq (.ops [la 90 4 (t 4),
     fa 91 1 (t 5),
     l1 92 (t 91),
     fa 93 2 (t 5),
     l1 94 (t 93),
     ca 95 F.ref10_Rename [(t 90), (t 92), (t 94)],
     mv 89 (t 95),
     ex 96 (t 89) 0,
     ex 97 (t 89) 1,
     o 14 (.alloc 50 [(i 0), sn, (i 0), (.bool false)]),
     st 4 (t 14) (t 96),
     mv 15 (t 97)] [4, 89, 90, 91, 92, 93, 94, 95, 96, 97])
     (.seq (.draw (.take (la 98 4 (t 14)) (.take (mv 99 (t 0)) (.take (fa 100 1 (t 5)) (.take (l1 101 (t 100)) (.take (fa 102 2 (t 5)) (.take (l1 103 (t 102)) (.take (mv 105 (t 15)) (.alt (ca 104 F.disk_Disk_Rename [(t 99), (t 101), (t 103)]) true
      (.take (o 106 (.ibin .eql (t 104) (t 105))) (.alt (st 4 (t 6) (t 98)) false
       (.take (mv 7 (t 106)) (.done))
       (.none)))
      (.none))))))))) [0, 5, 14, 15, 98, 99, 100, 101, 102, 103, 104, 105, 106])
     (.ret)))
     (.seq (.ops [o 108 (.ibin .eql (t 28) (k 4)),
     mv 107 (t 108)] [108])
     (.cond (t 107)
      (.seq (.ops [la 110 4 (t 4),
      fa 111 1 (t 5),
      l1 112 (t 111),
      ca 113 F.ref10_Remove [(t 110), (t 112)],
      mv 109 (t 113),
      ex 114 (t 109) 0,
      ex 115 (t 109) 1,
      o 16 (.alloc 50 [(i 0), sn, (i 0), (.bool false)]),
      st 4 (t 16) (t 114),
      mv 17 (t 115)] [4, 109, 110, 111, 112, 113, 114, 115])
      (.seq (.draw (.take (la 116 4 (t 16)) (.take (mv 117 (t 0)) (.take (fa 118 1 (t 5)) (.take (l1 119 (t 118)) (.take (mv 121 (t 17)) (.alt (ca 120 F.disk_Disk_Remove [(t 117), (t 119)]) true
       (.take (o 122 (.ibin .eql (t 120) (t 121))) (.alt (st 4 (t 6) (t 116)) false
        (.take (mv 7 (t 122)) (.done))
        (.none)))
       (.none))))))) [0, 5, 16, 17, 116, 117, 118, 119, 120, 121, 122])
      (.ret)))
      (.seq (.ops [o 124 (.ibin .eql (t 28) (k 5)),
      mv 123 (t 124)] [124])
      (.cond (t 123)
       (.seq (.ops [mv 126 (t 0),
       fa 127 1 (t 5),
       l1 128 (t 127),
       ca 129 F.disk_Disk_Read [(t 126), (t 128)],
       mv 125 (t 129),
       ex 130 (t 125) 0,
       ex 131 (t 125) 1,
       mv 18 (t 130),
       mv 19 (t 131)] [0, 125, 126, 127, 128, 129, 130, 131])
       (.seq (.ops [la 133 4 (t 4),
       fa 134 1 (t 5),
       l1 135 (t 134),
       ca 136 F.ref10_Read [(t 133), (t 135)],
       mv 132 (t 136),
       ex 137 (t 132) 0,
       ex 138 (t 132) 1,
       mv 20 (t 137),
       mv 21 (t 138)] [5, 132, 133, 134, 135, 136, 137, 138])
       (.seq (.seq (.ops [mv 22 (k 0)] [])
       (.block 1 (.loop (.seq (.seq (.ops [mv 139 (t 22),
        mv 140 (t 18),
        o 141 (.len (t 140)),
        o 142 (.ibin .lss (t 139) (t 141)),
        os 143 (.mov (t 142)),
        gt 143 144 (.mov (t 18)),
        gt 143 145 (.strOf (t 144)),
        gt 143 146 (.mov (t 20)),
        gt 143 147 (.strE .eql (t 145) (t 146)),
        o 148 (.pick (t 143) (t 147) (kb false))] [139, 140, 141, 142, 143, 144, 145, 146, 147])
        (.cond (t 148)
         (.skip)
         (.exit 1)))
        (.seq (.block 2 (.seq (.ops [mv 151 (t 18),
        mv 152 (t 22),
        mv 153 (t 18),
        mv 154 (t 22),
        o 155 (.iaddr 1 (t 153) (t 154)),
        l1 156 (t 155),
        o 157 (.ibin .sub (.const (u 255)) (t 156)),
        o 158 (.iaddr 1 (t 151) (t 152)),
        st 1 (t 158) (t 157)] [151, 152, 153, 154, 155, 156, 157, 158])
        (.ops [mv 159 (t 18),
        mv 160 (t 22),
        mv 161 (t 18),
        mv 162 (t 22),
        o 163 (.iaddr 1 (t 161) (t 162)),
        l1 164 (t 163),
        o 165 (.ibin .sub (.const (u 255)) (t 164)),
        o 166 (.iaddr 1 (t 159) (t 160)),
        st 1 (t 166) (t 165)] [159, 160, 161, 162, 163, 164, 165, 166])))
        (.ops [mv 149 (t 22),
        ad 150 (t 149) (k 1),
        mv 22 (t 150)] [149, 150]))))))
       (.seq (.ops [la 167 4 (t 4),
       mv 168 (t 18),
       o 169 (.strOf (t 168)),
       mv 170 (t 20),
       o 171 (.strE .eql (t 169) (t 170)),
       os 172 (.mov (t 171)),
       gt 172 173 (.mov (t 19)),
       gt 172 174 (.mov (t 21)),
       gt 172 175 (.ibin .eql (t 173) (t 174)),
       o 176 (.pick (t 172) (t 175) (kb false)),
       st 4 (t 6) (t 167),
       mv 7 (t 176)] [4, 18, 19, 20, 21, 167, 168, 169, 170, 171, 172, 173, 174, 175, 176])
       (.ret)))))
       (.seq (.ops [o 178 (.ibin .eql (t 28) (k 6)),
       mv 177 (t 178)] [178])
       (.cond (t 177)
        (.seq (.ops [la 180 4 (t 4),
        fa 181 4 (t 5),
        l1 182 (t 181),
        ca 183 F.ref10_Limit [(t 180), (t 182)],
        mv 179 (t 183),
        ex 184 (t 179) 0,
        ex 185 (t 179) 1,
        o 23 (.alloc 50 [(i 0), sn, (i 0), (.bool false)]),
        st 4 (t 23) (t 184),
        mv 24 (t 185)] [4, 179, 180, 181, 182, 183, 184, 185])
        (.seq (.draw (.take (la 186 4 (t 23)) (.take (mv 187 (t 0)) (.take (fa 188 4 (t 5)) (.take (l1 189 (t 188)) (.take (mv 191 (t 24)) (.alt (ca 190 F.disk_Disk_Limit [(t 187), (t 189)]) true
         (.take (o 192 (.ibin .eql (t 190) (t 191))) (.alt (st 4 (t 6) (t 186)) false
          (.take (mv 7 (t 192)) (.done))
          (.none)))
         (.none))))))) [0, 5, 23, 24, 186, 187, 188, 189, 190, 191, 192])
        (.ret)))
        (.seq (.ops [o 194 (.ibin .eql (t 28) (k 7)),
        mv 193 (t 194)] [194])
        (.cond (t 193)
         (.seq (.ops [la 196 4 (t 4),
         fa 197 4 (t 5),
         l1 198 (t 197),
         ca 199 F.ref10_Arm [(t 196), (t 198)],
         mv 195 (t 199),
         ex 200 (t 195) 0,
         ex 201 (t 195) 1,
         o 25 (.alloc 50 [(i 0), sn, (i 0), (.bool false)]),
         st 4 (t 25) (t 200),
         mv 26 (t 201)] [4, 195, 196, 197, 198, 199, 200, 201])
         (.seq (.draw (.take (la 202 4 (t 25)) (.take (mv 203 (t 0)) (.take (fa 204 4 (t 5)) (.take (l1 205 (t 204)) (.take (mv 207 (t 26)) (.alt (ca 206 F.disk_Disk_Arm [(t 203), (t 205)]) true
          (.take (o 208 (.ibin .eql (t 206) (t 207))) (.alt (st 4 (t 6) (t 202)) false
           (.take (mv 7 (t 208)) (.done))
           (.none)))
          (.none))))))) [0, 5, 25, 26, 202, 203, 204, 205, 206, 207, 208])
         (.ret)))
         (.seq (.ops [o 210 (.ibin .eql (t 28) (k 8)),
         mv 209 (t 210)] [28, 210])
         (.cond (t 209)
          (.seq (.draw (.take (la 211 4 (t 4)) (.take (fa 212 5 (t 5)) (.take (l1 213 (t 212)) (.take (mv 215 (t 0)) (.take (fa 217 5 (t 5)) (.take (l1 218 (t 217)) (.alt (ca 214 F.ref10_Crash [(t 211), (t 213)]) true
           (.alt (o 216 (.mkSl false 3 0 [] [])) false
            (.alt (o 219 (.app 3 1 8 [(i 0)] (t 216) (t 218))) false
             (.alt (ca 220 F.disk_Disk_Crash [(t 215), (t 219)]) false
              (.take (o 221 (.ibin .eql (t 220) (k 0))) (.alt (st 4 (t 6) (t 214)) false
               (.take (mv 7 (t 221)) (.done))
               (.none)))
              (.none))
             (.none))
            (.none))
           (.alt (o 216 (.mkSl false 3 0 [] [])) false
            (.alt (ca 214 F.ref10_Crash [(t 211), (t 213)]) true
             (.alt (o 219 (.app 3 1 8 [(i 0)] (t 216) (t 218))) false
              (.alt (ca 220 F.disk_Disk_Crash [(t 215), (t 219)]) false
               (.take (o 221 (.ibin .eql (t 220) (k 0))) (.alt (st 4 (t 6) (t 214)) false
                (.take (mv 7 (t 221)) (.done))
                (.none)))
               (.none))
              (.none))
             (.none))
            (.none))))))))) [0, 4, 5, 211, 212, 213, 214, 215, 216, 217, 218, 219, 220, 221])
          (.ret))
          (.skip)))))))))))))))))))))
 (.seq (.ops [la 222 4 (t 4),
 st 4 (t 6) (t 222),
 mv 7 (kb true)] [4, 222])
 (.ret)))
def r_law10_step : List RRes := [.cell true 4 6, .tmp 7]
theorem fo_law10_step {args : List Value} {M : Mem} {R : Value → Mem → Prop} (hn : args.length ≤ 223) (h : vfn Try.prog c_law10_step r_law10_step args M R) : CallsM Try.prog F.law10_step args M R :=
  fn_ok (kf := k_law10_step) Try.func28 (by kernel_rfl) (by kernel_rfl) hn (by kernel_rfl) h
/-- portage/portagelaw10.as -/
def k_law10_as (i : Nat) : List Nat := match i with | 0 => [1, 4] | 1 => [9, 10] | 2 => [11, 12, 13, 14, 15, 16, 17, 18, 19, 20, 21, 22, 23, 24, 25, 26, 27, 28, 29] | 5 => [31, 32, 33] | 7 => [37, 38, 39, 40, 41, 42, 43, 44, 45, 46, 47, 48, 49, 50, 51, 52, 53, 54, 55, 56, 57, 58, 59, 60, 61, 62] | 9 => [64, 65, 66, 67, 68, 69, 70, 71, 72] | 10 => [7, 8, 73, 74, 75, 76, 77, 78, 79, 80, 81, 82, 83, 84, 85, 86, 87, 88, 89, 90, 91, 92, 93, 94, 95, 96, 97, 98, 99, 100, 101, 102, 103, 104] | 6 => [35, 36] | _ => []
def c_law10_as : RCode :=
 .seq (.ops [o 3 (.box 50 (t 1)),
 mv 4 (kb false)] [1, 4])
 (.seq (.ops [mv 9 (t 0),
 ca 10 F.disk_Disk_Names [(t 9)],
 mv 5 (t 10)] [9, 10])
 (.seq (.seq (.draw (.take (mv 11 (t 5)) (.take (o 12 (.len (t 11))) (.take (fa 13 1 (t 3)) (.take (l1 14 (t 13)) (.take (o 15 (.len (t 14))) (.take (o 16 (.ibin .neq (t 12) (t 15))) (.take (os 17 (.mov (t 16))) (.take (gf 17 18 (.mov (t 0))) (.take (gf 17 20 (.load true 4 (t 3))) (.alt (gf 17 19 (.call (fn F.disk_Disk_Used) [(t 18)])) true
  (.alt (gf 17 21 (.call (fn F.ref10_Used) [(t 20)])) true
   (.take (gf 17 22 (.ibin .neq (t 19) (t 21))) (.take (o 23 (.pick (t 17) (kb true) (t 22))) (.take (os 24 (.mov (t 23))) (.take (gf 24 25 (.mov (t 0))) (.take (gf 24 27 (.faddr 3 (t 3))) (.take (gf 24 28 (.load false 1 (t 27))) (.alt (gf 24 26 (.call (fn F.disk_Disk_Down) [(t 25)])) true
    (.take (gf 24 29 (.bbin .neq (t 26) (t 28))) (.take (o 30 (.pick (t 24) (kb true) (t 29))) (.done)))
    (.none))))))))
   (.none))
  (.none))))))))))) [11, 12, 13, 14, 15, 16, 17, 18, 19, 20, 21, 22, 23, 24, 25, 26, 27, 28, 29])
 (.cond (t 30)
  (.seq (.ops [mv 4 (kb false)] [])
  (.ret))
  (.skip)))
 (.seq (.seq (.ops [mv 6 (k 0)] [])
 (.block 0 (.loop (.seq (.seq (.ops [mv 31 (t 6),
  mv 32 (t 5),
  o 33 (.len (t 32)),
  o 34 (.ibin .lss (t 31) (t 33))] [31, 32, 33])
  (.cond (t 34)
   (.skip)
   (.exit 0)))
  (.seq (.block 1 (.seq (.seq (.draw (.take (mv 37 (t 5)) (.take (mv 38 (t 6)) (.take (o 39 (.iaddr 1 (t 37) (t 38))) (.take (l1 40 (t 39)) (.take (fa 41 1 (t 3)) (.take (l1 42 (t 41)) (.take (mv 43 (t 6)) (.take (o 44 (.iaddr 3 (t 42) (t 43))) (.take (fa 45 0 (t 44)) (.take (l1 46 (t 45)) (.take (o 47 (.strE .neq (t 40) (t 46))) (.take (os 48 (.mov (t 47))) (.take (gf 48 49 (.mov (t 0))) (.take (gf 48 50 (.mov (t 5))) (.take (gf 48 51 (.mov (t 6))) (.take (gf 48 52 (.iaddr 1 (t 50) (t 51))) (.take (gf 48 53 (.load false 1 (t 52))) (.take (gf 48 55 (.faddr 1 (t 3))) (.take (gf 48 56 (.load false 1 (t 55))) (.take (gf 48 57 (.mov (t 6))) (.take (gf 48 58 (.iaddr 3 (t 56) (t 57))) (.take (gf 48 59 (.faddr 1 (t 58))) (.take (gf 48 60 (.load false 1 (t 59))) (.take (gf 48 61 (.lenS (t 60))) (.alt (gf 48 54 (.call (fn F.disk_Disk_Safe) [(t 49), (t 53)])) true
   (.take (gf 48 62 (.ibin .neq (t 54) (t 61))) (.take (o 63 (.pick (t 48) (kb true) (t 62))) (.done)))
   (.none)))))))))))))))))))))))))) [37, 38, 39, 40, 41, 42, 43, 44, 45, 46, 47, 48, 49, 50, 51, 52, 53, 54, 55, 56, 57, 58, 59, 60, 61, 62])
  (.cond (t 63)
   (.seq (.ops [mv 4 (kb false)] [])
   (.ret))
   (.skip)))
  (.seq (.ops [mv 65 (t 0),
  mv 66 (t 5),
  mv 67 (t 6),
  o 68 (.iaddr 1 (t 66) (t 67)),
  l1 69 (t 68),
  ca 70 F.disk_Disk_Read [(t 65), (t 69)],
  mv 64 (t 70),
  ex 71 (t 64) 0,
  ex 72 (t 64) 1,
  mv 7 (t 71),
  mv 8 (t 72)] [64, 65, 66, 67, 68, 69, 70, 71, 72])
  (.seq (.draw (.take (fa 73 3 (t 3)) (.take (l1 74 (t 73)) (.take (o 75 (.not (t 74))) (.take (os 76 (.mov (t 75))) (.take (gt 76 77 (.mov (t 8))) (.take (gt 76 78 (.ibin .neq (t 77) (k 0))) (.take (⟨(some 79), .mov (t 78), some (76, true), true⟩) (.take (gf 79 80 (.mov (t 7))) (.take (gf 79 81 (.strOf (t 80))) (.take (gf 79 82 (.faddr 1 (t 3))) (.take (gf 79 83 (.load false 1 (t 82))) (.take (gf 79 84 (.mov (t 6))) (.take (gf 79 85 (.iaddr 3 (t 83) (t 84))) (.take (gf 79 86 (.faddr 1 (t 85))) (.take (gf 79 87 (.load false 1 (t 86))) (.take (gf 79 88 (.faddr 1 (t 3))) (.take (gf 79 89 (.load false 1 (t 88))) (.take (gf 79 90 (.mov (t 6))) (.take (gf 79 91 (.iaddr 3 (t 89) (t 90))) (.take (gf 79 92 (.faddr 2 (t 91))) (.take (gf 79 93 (.load false 1 (t 92))) (.take (gf 79 94 (.strE .add (t 87) (t 93))) (.take (gf 79 95 (.strE .neq (t 81) (t 94))) (.take (gt 76 96 (.pick (t 79) (kb true) (t 95))) (.take (o 97 (.pick (t 76) (t 96) (kb false))) (.take (os 98 (.mov (t 97))) (.take (gf 98 99 (.faddr 3 (t 3))) (.take (gf 98 100 (.load false 1 (t 99))) (.take (⟨(some 101), .mov (t 100), some (98, false), true⟩) (.take (gt 101 102 (.mov (t 8))) (.take (gt 101 103 (.ibin .neq (t 102) (k 9))) (.take (gf 98 104 (.pick (t 101) (t 103) (kb false))) (.take (o 105 (.pick (t 98) (kb true) (t 104))) (.done)))))))))))))))))))))))))))))))))) [7, 8, 73, 74, 75, 76, 77, 78, 79, 80, 81, 82, 83, 84, 85, 86, 87, 88, 89, 90, 91, 92, 93, 94, 95, 96, 97, 98, 99, 100, 101, 102, 103, 104])
  (.cond (t 105)
   (.seq (.ops [mv 4 (kb false)] [])
   (.ret))
   (.skip))))))
  (.ops [mv 35 (t 6),
  ad 36 (t 35) (k 1),
  mv 6 (t 36)] [35, 36]))))))
 (.seq (.ops [mv 4 (kb true)] [])
 (.ret)))))
def r_law10_as : List RRes := [.tmp 4]
theorem fo_law10_as {args : List Value} {M : Mem} {R : Value → Mem → Prop} (hn : args.length ≤ 106) (h : vfn Try.prog c_law10_as r_law10_as args M R) : CallsM Try.prog F.law10_as args M R :=
  fn_ok (kf := k_law10_as) Try.func29 (by kernel_rfl) (by kernel_rfl) hn (by kernel_rfl) h
/-- (*portage/disk.Disk).Limit -/
def k_disk_Disk_Limit (i : Nat) : List Nat := match i with | 0 => [4] | 1 => [5] | 3 => [7, 8, 9, 10, 11] | 5 => [0, 1, 13, 14, 15, 16] | _ => []
def c_disk_Disk_Limit : RCode :=
 .seq (.ops [mv 4 (k 0)] [4])
 (.seq (.seq (.ops [mv 5 (t 0),
 o 6 (.pnil .eql (t 5) (.const (.pointer none)))] [5])
 (.cond (t 6)
  (.seq (.ops [mv 4 (k 7)] [])
  (.ret))
  (.skip)))
 (.seq (.seq (.ops [mv 7 (t 1),
 o 8 (.ibin .lss (t 7) (k 0)),
 os 9 (.mov (t 8)),
 gf 9 10 (.mov (t 1)),
 gf 9 11 (.ibin .gtr (t 10) (k 1048576)),
 o 12 (.pick (t 9) (kb true) (t 11))] [7, 8, 9, 10, 11])
 (.cond (t 12)
  (.seq (.ops [mv 4 (k 1)] [])
  (.ret))
  (.skip)))
 (.seq (.ops [mv 13 (t 0),
 mv 14 (t 1),
 o 15 (.nilck (t 13)),
 fa 16 0 (t 15),
 st 1 (t 16) (t 14)] [0, 1, 13, 14, 15, 16])
 (.seq (.ops [mv 4 (k 0)] [])
 (.ret)))))
def r_disk_Disk_Limit : List RRes := [.tmp 4]
theorem fo_disk_Disk_Limit {args : List Value} {M : Mem} {R : Value → Mem → Prop} (hn : args.length ≤ 17) (h : vfn Try.prog c_disk_Disk_Limit r_disk_Disk_Limit args M R) : CallsM Try.prog F.disk_Disk_Limit args M R :=
  fn_ok (kf := k_disk_Disk_Limit) Try.func30 (by kernel_rfl) (by kernel_rfl) hn (by kernel_rfl) h
/-- (*portage/disk.Disk).ready -/
def k_disk_Disk_ready (i : Nat) : List Nat := match i with | 0 => [4] | 1 => [7] | 3 => [0, 9, 10, 11] | 5 => [1] | 7 => [17, 18] | 8 => [6, 19, 20] | 10 => [22] | _ => []
def c_disk_Disk_ready : RCode :=
 .seq (.ops [mv 4 (k 0)] [4])
 (.seq (.seq (.ops [mv 7 (t 0),
 o 8 (.pnil .eql (t 7) (.const (.pointer none)))] [7])
 (.cond (t 8)
  (.seq (.ops [mv 4 (k 7)] [])
  (.ret))
  (.skip)))
 (.seq (.seq (.ops [mv 9 (t 0),
 o 10 (.nilck (t 9)),
 fa 11 3 (t 10),
 l1 12 (t 11)] [0, 9, 10, 11])
 (.cond (t 12)
  (.seq (.ops [mv 4 (k 9)] [])
  (.ret))
  (.skip)))
 (.seq (.seq (.ops [mv 13 (t 1),
 o 14 (.len (t 13)),
 mv 15 (k 0)] [1])
 (.block 0 (.loop (.seq (.ops [o 16 (.ibin .lss (t 15) (t 14))] [])
  (.seq (.cond (t 16)
   (.skip)
   (.exit 0))
  (.seq (.block 1 (.seq (.ops [o 17 (.iaddr 1 (t 13) (t 15)),
  l1 18 (t 17),
  mv 6 (t 18)] [17, 18])
  (.seq (.ops [mv 19 (t 6),
  ca 20 F.disk_named [(t 19)],
  o 21 (.not (t 20))] [6, 19, 20])
  (.cond (t 21)
   (.seq (.ops [mv 4 (k 2)] [])
   (.ret))
   (.skip)))))
  (.ops [ad 22 (t 15) (k 1),
  mv 15 (t 22)] [22])))))))
 (.seq (.ops [mv 4 (k 0)] [])
 (.ret)))))
def r_disk_Disk_ready : List RRes := [.tmp 4]
theorem fo_disk_Disk_ready {args : List Value} {M : Mem} {R : Value → Mem → Prop} (hn : args.length ≤ 23) (h : vfn Try.prog c_disk_Disk_ready r_disk_Disk_ready args M R) : CallsM Try.prog F.disk_Disk_ready args M R :=
  fn_ok (kf := k_disk_Disk_ready) Try.func31 (by kernel_rfl) (by kernel_rfl) hn (by kernel_rfl) h
/-- (*portage/disk.Disk).changed -/
def k_disk_Disk_changed (i : Nat) : List Nat := match i with | 0 => [2] | 1 => [3, 4, 5, 6] | 2 => [8, 9, 10, 11, 12, 13, 14] | 3 => [0, 15, 16, 17, 18, 19, 20, 21, 22] | _ => []
def c_disk_Disk_changed : RCode :=
 .seq (.ops [mv 2 (k 0)] [2])
 (.seq (.seq (.ops [mv 3 (t 0),
 o 4 (.nilck (t 3)),
 fa 5 2 (t 4),
 l1 6 (t 5),
 o 7 (.ibin .gtr (t 6) (k 0))] [3, 4, 5, 6])
 (.cond (t 7)
  (.seq (.ops [mv 8 (t 0),
  o 9 (.nilck (t 8)),
  fa 10 2 (t 9),
  l1 11 (t 10),
  o 12 (.ibin .sub (t 11) (k 1)),
  o 13 (.nilck (t 8)),
  fa 14 2 (t 13),
  st 1 (t 14) (t 12)] [8, 9, 10, 11, 12, 13, 14])
  (.ops [mv 15 (t 0),
  mv 16 (t 0),
  o 17 (.nilck (t 16)),
  fa 18 2 (t 17),
  l1 19 (t 18),
  o 20 (.ibin .eql (t 19) (k 0)),
  o 21 (.nilck (t 15)),
  fa 22 3 (t 21),
  st 1 (t 22) (t 20)] [0, 15, 16, 17, 18, 19, 20, 21, 22]))
  (.skip)))
 (.seq (.ops [mv 2 (k 0)] [])
 (.ret)))
def r_disk_Disk_changed : List RRes := [.tmp 2]
theorem fo_disk_Disk_changed {args : List Value} {M : Mem} {R : Value → Mem → Prop} (hn : args.length ≤ 23) (h : vfn Try.prog c_disk_Disk_changed r_disk_Disk_changed args M R) : CallsM Try.prog F.disk_Disk_changed args M R :=
  fn_ok (kf := k_disk_Disk_changed) Try.func32 (by kernel_rfl) (by kernel_rfl) hn (by kernel_rfl) h
/-- (*portage/disk.Disk).there -/
def k_disk_Disk_there (i : Nat) : List Nat := match i with | 0 => [4, 5] | 1 => [8, 9, 10, 11] | 2 => [12] | 3 => [6, 14] | 4 => [0, 1, 15, 16, 17, 18, 19, 20] | 5 => [21] | 7 => [7, 23] | _ => []
def c_disk_Disk_there : RCode :=
 .seq (.ops [mv 4 (.const (.pointer none)),
 mv 5 (k 0)] [4, 5])
 (.seq (.seq (.ops [mv 8 (t 0),
 mv 9 (t 1),
 o 10 (.mkSl false 9 1 [(.string ByteArray.empty)] [(0, 1, (t 9))]),
 ca 11 F.disk_Disk_ready [(t 8), (t 10)],
 mv 6 (t 11)] [8, 9, 10, 11])
 (.seq (.ops [mv 12 (t 6),
 o 13 (.ibin .neq (t 12) (k 0))] [12])
 (.cond (t 13)
  (.seq (.ops [mv 14 (t 6),
  mv 4 (.const (.pointer none)),
  mv 5 (t 14)] [6, 14])
  (.ret))
  (.skip))))
 (.seq (.ops [mv 15 (t 0),
 o 16 (.nilck (t 15)),
 fa 17 1 (t 16),
 l1 18 (t 17),
 mv 19 (t 1),
 o 20 (.mget .str false (.pointer none) (t 18) (t 19)),
 mv 7 (t 20)] [0, 1, 15, 16, 17, 18, 19, 20])
 (.seq (.seq (.ops [mv 21 (t 7),
 o 22 (.pnil .eql (t 21) (.const (.pointer none)))] [21])
 (.cond (t 22)
  (.seq (.ops [mv 4 (.const (.pointer none)),
  mv 5 (k 4)] [])
  (.ret))
  (.skip)))
 (.seq (.ops [mv 23 (t 7),
 mv 4 (t 23),
 mv 5 (k 0)] [7, 23])
 (.ret)))))
def r_disk_Disk_there : List RRes := [.tmp 4, .tmp 5]
theorem fo_disk_Disk_there {args : List Value} {M : Mem} {R : Value → Mem → Prop} (hn : args.length ≤ 24) (h : vfn Try.prog c_disk_Disk_there r_disk_Disk_there args M R) : CallsM Try.prog F.disk_Disk_there args M R :=
  fn_ok (kf := k_disk_Disk_there) Try.func33 (by kernel_rfl) (by kernel_rfl) hn (by kernel_rfl) h
/-- slices.Sort[[]string,string] -/
def k_slices_Sort_string_string (i : Nat) : List Nat := match i with | 0 => [3, 4] | 1 => [0, 2, 5, 6, 7, 8, 9, 10] | _ => []
def c_slices_Sort_string_string : RCode :=
 .seq (.ops [mv 3 (t 0),
 o 4 (.len (t 3)),
 mv 2 (t 4)] [3, 4])
 (.ops [mv 5 (t 0),
 mv 6 (t 2),
 mv 7 (t 2),
 o 8 (.conv .u64 (t 7)),
 ca 9 F.math_bits_Len [(t 8)],
 ca 10 F.slices_pdqsortOrdered_string [(t 5), (k 0), (t 6), (t 9)]] [0, 2, 5, 6, 7, 8, 9, 10])
def r_slices_Sort_string_string : List RRes := []
theorem fo_slices_Sort_string_string {args : List Value} {M : Mem} {R : Value → Mem → Prop} (hn : args.length ≤ 11) (h : vfn Try.prog c_slices_Sort_string_string r_slices_Sort_string_string args M R) : CallsM Try.prog F.slices_Sort_string_string args M R :=
  fn_ok (kf := k_slices_Sort_string_string) Try.func34 (by kernel_rfl) (by kernel_rfl) hn (by kernel_rfl) h
/-- portage/portageref10.Append -/
def k_ref10_Append (i : Nat) : List Nat := match i with | 0 => [0, 7] | 1 => [9, 10, 11] | 2 => [1, 3, 13, 14, 15, 16] | 3 => [17, 18, 19, 20, 21, 22, 23, 24, 25, 26, 27, 28, 29, 30, 31, 32, 33, 34, 35] | 4 => [3, 37] | 5 => [38, 39, 40] | 6 => [1, 2, 3, 8, 41, 42, 43, 44, 45, 46, 47, 48, 49, 50, 51, 52, 53, 54] | _ => []
def c_ref10_Append : RCode :=
 .seq (.ops [o 3 (.box 50 (t 0)),
 o 6 (.alloc 50 [(i 0), sn, (i 0), (.bool false)]),
 mv 7 (k 0)] [0, 7])
 (.seq (.seq (.ops [la 9 4 (t 3),
 mv 10 (t 1),
 ca 11 F.ref10_Ready [(t 9), (t 10)],
 o 12 (.ibin .neq (t 11) (k 0))] [9, 10, 11])
 (.cond (t 12)
  (.seq (.draw (.take (la 13 4 (t 3)) (.take (la 14 4 (t 3)) (.take (mv 15 (t 1)) (.alt (ca 16 F.ref10_Ready [(t 14), (t 15)]) true
   (.alt (st 4 (t 6) (t 13)) false
    (.take (mv 7 (t 16)) (.done))
    (.none))
   (.none))))) [1, 3, 13, 14, 15, 16])
  (.ret))
  (.skip)))
 (.seq (.seq (.draw (.take (mv 17 (t 2)) (.take (o 18 (.len (t 17))) (.take (fa 19 0 (t 3)) (.take (l1 20 (t 19)) (.take (la 21 4 (t 3)) (.alt (ca 22 F.ref10_Used [(t 21)]) true
  (.take (o 23 (.ibin .sub (t 20) (t 22))) (.take (o 24 (.ibin .gtr (t 18) (t 23))) (.take (os 25 (.mov (t 24))) (.take (gf 25 26 (.load true 4 (t 3))) (.take (gf 25 27 (.mov (t 1))) (.alt (gf 25 28 (.call (fn F.ref10_Place) [(t 26), (t 27)])) true
   (.take (gf 25 29 (.ibin .lss (t 28) (k 0))) (.take (⟨(some 30), .mov (t 29), some (25, false), true⟩) (.take (gt 30 31 (.faddr 1 (t 3))) (.take (gt 30 32 (.load false 1 (t 31))) (.take (gt 30 33 (.len (t 32))) (.take (gt 30 34 (.ibin .geq (t 33) (k 64))) (.take (gf 25 35 (.pick (t 30) (t 34) (kb false))) (.take (o 36 (.pick (t 25) (kb true) (t 35))) (.done)))))))))
   (.none)))))))
  (.none))))))) [17, 18, 19, 20, 21, 22, 23, 24, 25, 26, 27, 28, 29, 30, 31, 32, 33, 34, 35])
 (.cond (t 36)
  (.seq (.ops [la 37 4 (t 3),
  st 4 (t 6) (t 37),
  mv 7 (k 6)] [3, 37])
  (.ret))
  (.skip)))
 (.seq (.ops [la 38 4 (t 3),
 mv 39 (t 1),
 ca 40 F.ref10_file [(t 38), (t 39)],
 o 8 (.alloc 83 [(.string ByteArray.empty), (.string ByteArray.empty), (.string ByteArray.empty)]),
 st 3 (t 8) (t 40)] [38, 39, 40])
 (.seq (.draw (.take (la 41 4 (t 3)) (.take (fa 42 1 (t 3)) (.take (l1 43 (t 42)) (.take (mv 44 (t 1)) (.take (fa 45 1 (t 8)) (.take (l1 46 (t 45)) (.take (fa 47 2 (t 8)) (.take (l1 48 (t 47)) (.take (mv 49 (t 2)) (.take (o 50 (.strOf (t 49))) (.take (o 51 (.strE .add (t 48) (t 50))) (.take (o 52 (.build [(.string ByteArray.empty), (.string ByteArray.empty), (.string ByteArray.empty)] [(0, 1, (t 44)), (1, 1, (t 46)), (2, 1, (t 51))])) (.alt (ca 53 F.ref10_with [(t 43), (t 52)]) true
  (.alt (ca 54 F.ref10_changed [(t 41), (t 53)]) false
   (.alt (st 4 (t 6) (t 54)) false
    (.take (mv 7 (k 0)) (.done))
    (.none))
   (.none))
  (.none)))))))))))))) [1, 2, 3, 8, 41, 42, 43, 44, 45, 46, 47, 48, 49, 50, 51, 52, 53, 54])
 (.ret)))))
def r_ref10_Append : List RRes := [.cell true 4 6, .tmp 7]
theorem fo_ref10_Append {args : List Value} {M : Mem} {R : Value → Mem → Prop} (hn : args.length ≤ 55) (h : vfn Try.prog c_ref10_Append r_ref10_Append args M R) : CallsM Try.prog F.ref10_Append args M R :=
  fn_ok (kf := k_ref10_Append) Try.func35 (by kernel_rfl) (by kernel_rfl) hn (by kernel_rfl) h
/-- portage/portageref10.Sync -/
def k_ref10_Sync (i : Nat) : List Nat := match i with | 0 => [0, 5] | 1 => [7, 8, 9] | 2 => [1, 2, 11, 12, 13, 14] | 3 => [15, 16, 17] | 4 => [1, 2, 6, 18, 19, 20, 21, 22, 23, 24, 25, 26, 27, 28, 29] | _ => []
def c_ref10_Sync : RCode :=
 .seq (.ops [o 2 (.box 50 (t 0)),
 o 4 (.alloc 50 [(i 0), sn, (i 0), (.bool false)]),
 mv 5 (k 0)] [0, 5])
 (.seq (.seq (.ops [la 7 4 (t 2),
 mv 8 (t 1),
 ca 9 F.ref10_There [(t 7), (t 8)],
 o 10 (.ibin .neq (t 9) (k 0))] [7, 8, 9])
 (.cond (t 10)
  (.seq (.draw (.take (la 11 4 (t 2)) (.take (la 12 4 (t 2)) (.take (mv 13 (t 1)) (.alt (ca 14 F.ref10_There [(t 12), (t 13)]) true
   (.alt (st 4 (t 4) (t 11)) false
    (.take (mv 5 (t 14)) (.done))
    (.none))
   (.none))))) [1, 2, 11, 12, 13, 14])
  (.ret))
  (.skip)))
 (.seq (.ops [la 15 4 (t 2),
 mv 16 (t 1),
 ca 17 F.ref10_file [(t 15), (t 16)],
 o 6 (.alloc 83 [(.string ByteArray.empty), (.string ByteArray.empty), (.string ByteArray.empty)]),
 st 3 (t 6) (t 17)] [15, 16, 17])
 (.seq (.draw (.take (la 18 4 (t 2)) (.take (fa 19 1 (t 2)) (.take (l1 20 (t 19)) (.take (mv 21 (t 1)) (.take (fa 22 1 (t 6)) (.take (l1 23 (t 22)) (.take (fa 24 2 (t 6)) (.take (l1 25 (t 24)) (.take (o 26 (.strE .add (t 23) (t 25))) (.take (o 27 (.build [(.string ByteArray.empty), (.string ByteArray.empty), (.string ByteArray.empty)] [(0, 1, (t 21)), (1, 1, (t 26))])) (.alt (ca 28 F.ref10_with [(t 20), (t 27)]) true
  (.alt (ca 29 F.ref10_changed [(t 18), (t 28)]) false
   (.alt (st 4 (t 4) (t 29)) false
    (.take (mv 5 (k 0)) (.done))
    (.none))
   (.none))
  (.none)))))))))))) [1, 2, 6, 18, 19, 20, 21, 22, 23, 24, 25, 26, 27, 28, 29])
 (.ret))))
def r_ref10_Sync : List RRes := [.cell true 4 4, .tmp 5]
theorem fo_ref10_Sync {args : List Value} {M : Mem} {R : Value → Mem → Prop} (hn : args.length ≤ 30) (h : vfn Try.prog c_ref10_Sync r_ref10_Sync args M R) : CallsM Try.prog F.ref10_Sync args M R :=
  fn_ok (kf := k_ref10_Sync) Try.func36 (by kernel_rfl) (by kernel_rfl) hn (by kernel_rfl) h
/-- portage/portageref10.Cut -/
def k_ref10_Cut (i : Nat) : List Nat := match i with | 0 => [0, 7] | 1 => [10, 11, 12] | 2 => [1, 3, 14, 15, 16, 17] | 3 => [18, 19, 20] | 4 => [8, 21, 22, 23, 24, 25] | 5 => [26, 27, 28, 29, 30, 31, 32] | 6 => [3, 34] | 7 => [1, 2, 3, 9, 35, 36, 37, 38, 39, 40, 41, 42, 43, 44] | _ => []
def c_ref10_Cut : RCode :=
 .seq (.ops [o 3 (.box 50 (t 0)),
 o 6 (.alloc 50 [(i 0), sn, (i 0), (.bool false)]),
 mv 7 (k 0)] [0, 7])
 (.seq (.seq (.ops [la 10 4 (t 3),
 mv 11 (t 1),
 ca 12 F.ref10_There [(t 10), (t 11)],
 o 13 (.ibin .neq (t 12) (k 0))] [10, 11, 12])
 (.cond (t 13)
  (.seq (.draw (.take (la 14 4 (t 3)) (.take (la 15 4 (t 3)) (.take (mv 16 (t 1)) (.alt (ca 17 F.ref10_There [(t 15), (t 16)]) true
   (.alt (st 4 (t 6) (t 14)) false
    (.take (mv 7 (t 17)) (.done))
    (.none))
   (.none))))) [1, 3, 14, 15, 16, 17])
  (.ret))
  (.skip)))
 (.seq (.ops [la 18 4 (t 3),
 mv 19 (t 1),
 ca 20 F.ref10_file [(t 18), (t 19)],
 o 8 (.alloc 83 [(.string ByteArray.empty), (.string ByteArray.empty), (.string ByteArray.empty)]),
 st 3 (t 8) (t 20)] [18, 19, 20])
 (.seq (.ops [fa 21 1 (t 8),
 l1 22 (t 21),
 fa 23 2 (t 8),
 l1 24 (t 23),
 o 25 (.strE .add (t 22) (t 24)),
 mv 9 (t 25)] [8, 21, 22, 23, 24, 25])
 (.seq (.seq (.ops [mv 26 (t 2),
 o 27 (.ibin .lss (t 26) (k 0)),
 os 28 (.mov (t 27)),
 gf 28 29 (.mov (t 2)),
 gf 28 30 (.mov (t 9)),
 gf 28 31 (.lenS (t 30)),
 gf 28 32 (.ibin .gtr (t 29) (t 31)),
 o 33 (.pick (t 28) (kb true) (t 32))] [26, 27, 28, 29, 30, 31, 32])
 (.cond (t 33)
  (.seq (.ops [la 34 4 (t 3),
  st 4 (t 6) (t 34),
  mv 7 (k 1)] [3, 34])
  (.ret))
  (.skip)))
 (.seq (.draw (.take (la 35 4 (t 3)) (.take (fa 36 1 (t 3)) (.take (l1 37 (t 36)) (.take (mv 38 (t 1)) (.take (mv 39 (t 9)) (.take (mv 40 (t 2)) (.take (o 41 (.ssl (t 39) none (some (t 40)))) (.take (o 42 (.build [(.string ByteArray.empty), (.string ByteArray.empty), (.string ByteArray.empty)] [(0, 1, (t 38)), (1, 1, (t 41))])) (.alt (ca 43 F.ref10_with [(t 37), (t 42)]) true
  (.alt (ca 44 F.ref10_changed [(t 35), (t 43)]) false
   (.alt (st 4 (t 6) (t 44)) false
    (.take (mv 7 (k 0)) (.done))
    (.none))
   (.none))
  (.none)))))))))) [1, 2, 3, 9, 35, 36, 37, 38, 39, 40, 41, 42, 43, 44])
 (.ret))))))
def r_ref10_Cut : List RRes := [.cell true 4 6, .tmp 7]
theorem fo_ref10_Cut {args : List Value} {M : Mem} {R : Value → Mem → Prop} (hn : args.length ≤ 45) (h : vfn Try.prog c_ref10_Cut r_ref10_Cut args M R) : CallsM Try.prog F.ref10_Cut args M R :=
  fn_ok (kf := k_ref10_Cut) Try.func37 (by kernel_rfl) (by kernel_rfl) hn (by kernel_rfl) h
/-- portage/portageref10.Rename -/
def k_ref10_Rename (i : Nat) : List Nat := match i with | 0 => [0, 7] | 1 => [9, 10, 11] | 2 => [1, 3, 13, 14, 15, 16] | 3 => [17, 18, 19] | 4 => [2, 3, 21, 22, 23, 24] | 5 => [25, 26, 27] | 6 => [1, 3, 29, 30, 31, 32] | 7 => [33, 34, 35] | 8 => [36, 37, 38] | 9 => [3, 40] | 10 => [1, 2, 3, 8, 41, 42, 43, 44, 45, 46, 47, 48, 49, 50, 51] | _ => []
def c_ref10_Rename : RCode :=
 .seq (.ops [o 3 (.box 50 (t 0)),
 o 6 (.alloc 50 [(i 0), sn, (i 0), (.bool false)]),
 mv 7 (k 0)] [0, 7])
 (.seq (.seq (.ops [la 9 4 (t 3),
 mv 10 (t 1),
 ca 11 F.ref10_Ready [(t 9), (t 10)],
 o 12 (.ibin .neq (t 11) (k 0))] [9, 10, 11])
 (.cond (t 12)
  (.seq (.draw (.take (la 13 4 (t 3)) (.take (la 14 4 (t 3)) (.take (mv 15 (t 1)) (.alt (ca 16 F.ref10_Ready [(t 14), (t 15)]) true
   (.alt (st 4 (t 6) (t 13)) false
    (.take (mv 7 (t 16)) (.done))
    (.none))
   (.none))))) [1, 3, 13, 14, 15, 16])
  (.ret))
  (.skip)))
 (.seq (.seq (.ops [la 17 4 (t 3),
 mv 18 (t 2),
 ca 19 F.ref10_Ready [(t 17), (t 18)],
 o 20 (.ibin .neq (t 19) (k 0))] [17, 18, 19])
 (.cond (t 20)
  (.seq (.draw (.take (la 21 4 (t 3)) (.take (la 22 4 (t 3)) (.take (mv 23 (t 2)) (.alt (ca 24 F.ref10_Ready [(t 22), (t 23)]) true
   (.alt (st 4 (t 6) (t 21)) false
    (.take (mv 7 (t 24)) (.done))
    (.none))
   (.none))))) [2, 3, 21, 22, 23, 24])
  (.ret))
  (.skip)))
 (.seq (.seq (.ops [la 25 4 (t 3),
 mv 26 (t 1),
 ca 27 F.ref10_There [(t 25), (t 26)],
 o 28 (.ibin .neq (t 27) (k 0))] [25, 26, 27])
 (.cond (t 28)
  (.seq (.draw (.take (la 29 4 (t 3)) (.take (la 30 4 (t 3)) (.take (mv 31 (t 1)) (.alt (ca 32 F.ref10_There [(t 30), (t 31)]) true
   (.alt (st 4 (t 6) (t 29)) false
    (.take (mv 7 (t 32)) (.done))
    (.none))
   (.none))))) [1, 3, 29, 30, 31, 32])
  (.ret))
  (.skip)))
 (.seq (.ops [la 33 4 (t 3),
 mv 34 (t 1),
 ca 35 F.ref10_file [(t 33), (t 34)],
 o 8 (.alloc 83 [(.string ByteArray.empty), (.string ByteArray.empty), (.string ByteArray.empty)]),
 st 3 (t 8) (t 35)] [33, 34, 35])
 (.seq (.seq (.ops [fa 36 2 (t 8),
 l1 37 (t 36),
 o 38 (.lenS (t 37)),
 o 39 (.ibin .gtr (t 38) (k 0))] [36, 37, 38])
 (.cond (t 39)
  (.seq (.ops [la 40 4 (t 3),
  st 4 (t 6) (t 40),
  mv 7 (k 7)] [3, 40])
  (.ret))
  (.skip)))
 (.seq (.draw (.take (la 41 4 (t 3)) (.take (fa 42 1 (t 3)) (.take (l1 43 (t 42)) (.take (mv 44 (t 1)) (.take (mv 46 (t 2)) (.take (fa 47 1 (t 8)) (.take (l1 48 (t 47)) (.take (o 49 (.build [(.string ByteArray.empty), (.string ByteArray.empty), (.string ByteArray.empty)] [(0, 1, (t 46)), (1, 1, (t 48))])) (.alt (ca 45 F.ref10_without [(t 43), (t 44)]) true
  (.alt (ca 50 F.ref10_with [(t 45), (t 49)]) true
   (.alt (ca 51 F.ref10_changed [(t 41), (t 50)]) false
    (.alt (st 4 (t 6) (t 51)) false
     (.take (mv 7 (k 0)) (.done))
     (.none))
    (.none))
   (.none))
  (.none)))))))))) [1, 2, 3, 8, 41, 42, 43, 44, 45, 46, 47, 48, 49, 50, 51])
 (.ret)))))))
def r_ref10_Rename : List RRes := [.cell true 4 6, .tmp 7]
theorem fo_ref10_Rename {args : List Value} {M : Mem} {R : Value → Mem → Prop} (hn : args.length ≤ 52) (h : vfn Try.prog c_ref10_Rename r_ref10_Rename args M R) : CallsM Try.prog F.ref10_Rename args M R :=
  fn_ok (kf := k_ref10_Rename) Try.func38 (by kernel_rfl) (by kernel_rfl) hn (by kernel_rfl) h
/-- portage/portageref10.Remove -/
def k_ref10_Remove (i : Nat) : List Nat := match i with | 0 => [0, 5] | 1 => [6, 7, 8] | 2 => [1, 2, 10, 11, 12, 13] | 3 => [1, 2, 14, 15, 16, 17, 18, 19] | _ => []
def c_ref10_Remove : RCode :=
 .seq (.ops [o 2 (.box 50 (t 0)),
 o 4 (.alloc 50 [(i 0), sn, (i 0), (.bool false)]),
 mv 5 (k 0)] [0, 5])
 (.seq (.seq (.ops [la 6 4 (t 2),
 mv 7 (t 1),
 ca 8 F.ref10_There [(t 6), (t 7)],
 o 9 (.ibin .neq (t 8) (k 0))] [6, 7, 8])
 (.cond (t 9)
  (.seq (.draw (.take (la 10 4 (t 2)) (.take (la 11 4 (t 2)) (.take (mv 12 (t 1)) (.alt (ca 13 F.ref10_There [(t 11), (t 12)]) true
   (.alt (st 4 (t 4) (t 10)) false
    (.take (mv 5 (t 13)) (.done))
    (.none))
   (.none))))) [1, 2, 10, 11, 12, 13])
  (.ret))
  (.skip)))
 (.seq (.draw (.take (la 14 4 (t 2)) (.take (fa 15 1 (t 2)) (.take (l1 16 (t 15)) (.take (mv 17 (t 1)) (.alt (ca 18 F.ref10_without [(t 16), (t 17)]) true
  (.alt (ca 19 F.ref10_changed [(t 14), (t 18)]) false
   (.alt (st 4 (t 4) (t 19)) false
    (.take (mv 5 (k 0)) (.done))
    (.none))
   (.none))
  (.none)))))) [1, 2, 14, 15, 16, 17, 18, 19])
 (.ret)))
def r_ref10_Remove : List RRes := [.cell true 4 4, .tmp 5]
theorem fo_ref10_Remove {args : List Value} {M : Mem} {R : Value → Mem → Prop} (hn : args.length ≤ 20) (h : vfn Try.prog c_ref10_Remove r_ref10_Remove args M R) : CallsM Try.prog F.ref10_Remove args M R :=
  fn_ok (kf := k_ref10_Remove) Try.func39 (by kernel_rfl) (by kernel_rfl) hn (by kernel_rfl) h
/-- portage/portageref10.Read -/
def k_ref10_Read (i : Nat) : List Nat := match i with | 0 => [0, 4, 5] | 1 => [7, 8, 9] | 2 => [1, 2, 11, 12, 13] | 3 => [1, 2, 14, 15, 16] | 4 => [6, 17, 18, 19, 20, 21] | _ => []
def c_ref10_Read : RCode :=
 .seq (.ops [o 2 (.box 50 (t 0)),
 mv 4 (.const (.string ByteArray.empty)),
 mv 5 (k 0)] [0, 4, 5])
 (.seq (.seq (.ops [la 7 4 (t 2),
 mv 8 (t 1),
 ca 9 F.ref10_There [(t 7), (t 8)],
 o 10 (.ibin .neq (t 9) (k 0))] [7, 8, 9])
 (.cond (t 10)
  (.seq (.ops [la 11 4 (t 2),
  mv 12 (t 1),
  ca 13 F.ref10_There [(t 11), (t 12)],
  mv 4 (.const (.string ByteArray.empty)),
  mv 5 (t 13)] [1, 2, 11, 12, 13])
  (.ret))
  (.skip)))
 (.seq (.ops [la 14 4 (t 2),
 mv 15 (t 1),
 ca 16 F.ref10_file [(t 14), (t 15)],
 o 6 (.alloc 83 [(.string ByteArray.empty), (.string ByteArray.empty), (.string ByteArray.empty)]),
 st 3 (t 6) (t 16)] [1, 2, 14, 15, 16])
 (.seq (.ops [fa 17 1 (t 6),
 l1 18 (t 17),
 fa 19 2 (t 6),
 l1 20 (t 19),
 o 21 (.strE .add (t 18) (t 20)),
 mv 4 (t 21),
 mv 5 (k 0)] [6, 17, 18, 19, 20, 21])
 (.ret))))
def r_ref10_Read : List RRes := [.tmp 4, .tmp 5]
theorem fo_ref10_Read {args : List Value} {M : Mem} {R : Value → Mem → Prop} (hn : args.length ≤ 22) (h : vfn Try.prog c_ref10_Read r_ref10_Read args M R) : CallsM Try.prog F.ref10_Read args M R :=
  fn_ok (kf := k_ref10_Read) Try.func40 (by kernel_rfl) (by kernel_rfl) hn (by kernel_rfl) h
/-- portage/portageref10.Limit -/
def k_ref10_Limit (i : Nat) : List Nat := match i with | 0 => [0, 5] | 1 => [6, 7, 8, 9, 10] | 2 => [2, 12] | 3 => [1, 2, 13, 14, 15, 16, 17, 18, 19, 20] | _ => []
def c_ref10_Limit : RCode :=
 .seq (.ops [o 2 (.box 50 (t 0)),
 o 4 (.alloc 50 [(i 0), sn, (i 0), (.bool false)]),
 mv 5 (k 0)] [0, 5])
 (.seq (.seq (.ops [mv 6 (t 1),
 o 7 (.ibin .lss (t 6) (k 0)),
 os 8 (.mov (t 7)),
 gf 8 9 (.mov (t 1)),
 gf 8 10 (.ibin .gtr (t 9) (k 1048576)),
 o 11 (.pick (t 8) (kb true) (t 10))] [6, 7, 8, 9, 10])
 (.cond (t 11)
  (.seq (.ops [la 12 4 (t 2),
  st 4 (t 4) (t 12),
  mv 5 (k 1)] [2, 12])
  (.ret))
  (.skip)))
 (.seq (.ops [mv 13 (t 1),
 fa 14 1 (t 2),
 l1 15 (t 14),
 fa 16 2 (t 2),
 l1 17 (t 16),
 fa 18 3 (t 2),
 l1 19 (t 18),
 o 20 (.build [(i 0), sn, (i 0), (.bool false)] [(0, 1, (t 13)), (1, 1, (t 15)), (2, 1, (t 17)), (3, 1, (t 19))]),
 st 4 (t 4) (t 20),
 mv 5 (k 0)] [1, 2, 13, 14, 15, 16, 17, 18, 19, 20])
 (.ret)))
def r_ref10_Limit : List RRes := [.cell true 4 4, .tmp 5]
theorem fo_ref10_Limit {args : List Value} {M : Mem} {R : Value → Mem → Prop} (hn : args.length ≤ 21) (h : vfn Try.prog c_ref10_Limit r_ref10_Limit args M R) : CallsM Try.prog F.ref10_Limit args M R :=
  fn_ok (kf := k_ref10_Limit) Try.func41 (by kernel_rfl) (by kernel_rfl) hn (by kernel_rfl) h
/-- portage/portageref10.Arm -/
def k_ref10_Arm (i : Nat) : List Nat := match i with | 0 => [0, 5] | 1 => [6] | 2 => [2, 8] | 3 => [9] | 5 => [1, 2, 11, 12, 13, 14, 15, 16, 17, 18] | _ => []
def c_ref10_Arm : RCode :=
 .seq (.ops [o 2 (.box 50 (t 0)),
 o 4 (.alloc 50 [(i 0), sn, (i 0), (.bool false)]),
 mv 5 (k 0)] [0, 5])
 (.seq (.seq (.ops [fa 6 3 (t 2),
 l1 7 (t 6)] [6])
 (.cond (t 7)
  (.seq (.ops [la 8 4 (t 2),
  st 4 (t 4) (t 8),
  mv 5 (k 9)] [2, 8])
  (.ret))
  (.skip)))
 (.seq (.seq (.ops [mv 9 (t 1),
 o 10 (.ibin .lss (t 9) (k 0))] [9])
 (.cond (t 10)
  (.ops [mv 1 (k (-1))] [])
  (.skip)))
 (.seq (.ops [fa 11 0 (t 2),
 l1 12 (t 11),
 fa 13 1 (t 2),
 l1 14 (t 13),
 mv 15 (t 1),
 mv 16 (t 1),
 o 17 (.ibin .eql (t 16) (k 0)),
 o 18 (.build [(i 0), sn, (i 0), (.bool false)] [(0, 1, (t 12)), (1, 1, (t 14)), (2, 1, (t 15)), (3, 1, (t 17))]),
 st 4 (t 4) (t 18),
 mv 5 (k 0)] [1, 2, 11, 12, 13, 14, 15, 16, 17, 18])
 (.ret))))
def r_ref10_Arm : List RRes := [.cell true 4 4, .tmp 5]
theorem fo_ref10_Arm {args : List Value} {M : Mem} {R : Value → Mem → Prop} (hn : args.length ≤ 19) (h : vfn Try.prog c_ref10_Arm r_ref10_Arm args M R) : CallsM Try.prog F.ref10_Arm args M R :=
  fn_ok (kf := k_ref10_Arm) Try.func42 (by kernel_rfl) (by kernel_rfl) hn (by kernel_rfl) h
/-- portage/portageref10.Crash -/
def k_ref10_Crash (i : Nat) : List Nat := match i with | 0 => [0] | 1 => [8] | 3 => [9, 10, 11, 12] | 6 => [16, 17, 18, 19, 20, 21, 22, 23, 24, 25] | 7 => [27, 28, 29, 30, 31, 32, 33, 34, 35, 36, 37, 38] | 8 => [7, 39, 40, 41, 42, 43, 44, 45, 46, 47, 48, 49, 50, 51, 52, 53, 54, 55, 56, 57, 58, 59, 60, 61, 62, 63] | 4 => [14, 15] | 9 => [2, 5, 64, 65, 66, 67] | _ => []
def c_ref10_Crash : RCode :=
 .seq (.ops [o 2 (.box 50 (t 0)),
 o 4 (.alloc 50 [(i 0), sn, (i 0), (.bool false)])] [0])
 (.seq (.ops [o 8 (.mkSl false 83 0 [] []),
 mv 5 (t 8)] [8])
 (.seq (.seq (.ops [mv 6 (k 0)] [])
 (.block 0 (.loop (.seq (.seq (.ops [mv 9 (t 6),
  fa 10 1 (t 2),
  l1 11 (t 10),
  o 12 (.len (t 11)),
  o 13 (.ibin .lss (t 9) (t 12))] [9, 10, 11, 12])
  (.cond (t 13)
   (.skip)
   (.exit 0)))
  (.seq (.block 1 (.seq (.ops [mv 7 (k 0)] [])
  (.seq (.seq (.ops [mv 16 (t 6),
  mv 17 (t 1),
  o 18 (.len (t 17)),
  o 19 (.ibin .lss (t 16) (t 18)),
  os 20 (.mov (t 19)),
  gt 20 21 (.mov (t 1)),
  gt 20 22 (.mov (t 6)),
  gt 20 23 (.iaddr 1 (t 21) (t 22)),
  gt 20 24 (.load false 1 (t 23)),
  gt 20 25 (.ibin .gtr (t 24) (k 0)),
  o 26 (.pick (t 20) (t 25) (kb false))] [16, 17, 18, 19, 20, 21, 22, 23, 24, 25])
  (.cond (t 26)
   (.draw (.take (mv 27 (t 1)) (.take (mv 28 (t 6)) (.take (o 29 (.iaddr 1 (t 27) (t 28))) (.take (l1 30 (t 29)) (.take (fa 31 1 (t 2)) (.take (l1 32 (t 31)) (.take (mv 33 (t 6)) (.take (o 34 (.iaddr 3 (t 32) (t 33))) (.take (fa 35 2 (t 34)) (.take (l1 36 (t 35)) (.take (o 37 (.lenS (t 36))) (.take (o 38 (.imm false (t 30) (t 37))) (.take (mv 7 (t 38)) (.done)))))))))))))) [27, 28, 29, 30, 31, 32, 33, 34, 35, 36, 37, 38])
   (.skip)))
  (.draw (.take (mv 39 (t 5)) (.take (fa 40 1 (t 2)) (.take (l1 41 (t 40)) (.take (mv 42 (t 6)) (.take (o 43 (.iaddr 3 (t 41) (t 42))) (.take (fa 44 0 (t 43)) (.take (l1 45 (t 44)) (.take (fa 46 1 (t 2)) (.take (l1 47 (t 46)) (.take (mv 48 (t 6)) (.take (o 49 (.iaddr 3 (t 47) (t 48))) (.take (fa 50 1 (t 49)) (.take (l1 51 (t 50)) (.take (fa 52 1 (t 2)) (.take (l1 53 (t 52)) (.take (mv 54 (t 6)) (.take (o 55 (.iaddr 3 (t 53) (t 54))) (.take (fa 56 2 (t 55)) (.take (l1 57 (t 56)) (.take (mv 58 (t 7)) (.take (o 59 (.ssl (t 57) none (some (t 58)))) (.take (o 60 (.strE .add (t 51) (t 59))) (.take (o 61 (.build [(.string ByteArray.empty), (.string ByteArray.empty), (.string ByteArray.empty)] [(0, 1, (t 45)), (1, 1, (t 60))])) (.alt (o 62 (.mkSl true 83 1 [(.string ByteArray.empty), (.string ByteArray.empty), (.string ByteArray.empty)] [(0, 3, (t 61))])) false
   (.alt (o 63 (.app 83 3 48 [(.string ByteArray.empty), (.string ByteArray.empty), (.string ByteArray.empty)] (t 39) (t 62))) true
    (.take (mv 5 (t 63)) (.done))
    (.none))
   (.none))))))))))))))))))))))))) [7, 39, 40, 41, 42, 43, 44, 45, 46, 47, 48, 49, 50, 51, 52, 53, 54, 55, 56, 57, 58, 59, 60, 61, 62, 63]))))
  (.ops [mv 14 (t 6),
  ad 15 (t 14) (k 1),
  mv 6 (t 15)] [14, 15]))))))
 (.seq (.ops [fa 64 0 (t 2),
 l1 65 (t 64),
 mv 66 (t 5),
 o 67 (.build [(i 0), sn, (i 0), (.bool false)] [(0, 1, (t 65)), (1, 1, (t 66)), (2, 1, (k (-1)))]),
 st 4 (t 4) (t 67)] [2, 5, 64, 65, 66, 67])
 (.ret))))
def r_ref10_Crash : List RRes := [.cell true 4 4]
theorem fo_ref10_Crash {args : List Value} {M : Mem} {R : Value → Mem → Prop} (hn : args.length ≤ 68) (h : vfn Try.prog c_ref10_Crash r_ref10_Crash args M R) : CallsM Try.prog F.ref10_Crash args M R :=
  fn_ok (kf := k_ref10_Crash) Try.func43 (by kernel_rfl) (by kernel_rfl) hn (by kernel_rfl) h
/-- portage/portageref10.Used -/
def k_ref10_Used (i : Nat) : List Nat := match i with | 0 => [0, 2] | 3 => [5, 6, 7, 8] | 5 => [12, 13, 14, 15, 16, 17, 18, 19, 20, 21, 22, 23, 24, 25, 26, 27, 28] | 4 => [10, 11] | 6 => [3, 29] | _ => []
def c_ref10_Used : RCode :=
 .seq (.ops [o 1 (.box 50 (t 0)),
 mv 2 (k 0)] [0, 2])
 (.seq (.ops [mv 3 (k 0)] [])
 (.seq (.seq (.ops [mv 4 (k 0)] [])
 (.block 0 (.loop (.seq (.seq (.ops [mv 5 (t 4),
  fa 6 1 (t 1),
  l1 7 (t 6),
  o 8 (.len (t 7)),
  o 9 (.ibin .lss (t 5) (t 8))] [5, 6, 7, 8])
  (.cond (t 9)
   (.skip)
   (.exit 0)))
  (.seq (.block 1 (.draw (.take (mv 12 (t 3)) (.take (fa 13 1 (t 1)) (.take (l1 14 (t 13)) (.take (mv 15 (t 4)) (.take (o 16 (.iaddr 3 (t 14) (t 15))) (.take (fa 17 1 (t 16)) (.take (l1 18 (t 17)) (.take (o 19 (.lenS (t 18))) (.take (ad 20 (t 12) (t 19)) (.take (fa 21 1 (t 1)) (.take (l1 22 (t 21)) (.take (mv 23 (t 4)) (.take (o 24 (.iaddr 3 (t 22) (t 23))) (.take (fa 25 2 (t 24)) (.take (l1 26 (t 25)) (.take (o 27 (.lenS (t 26))) (.take (ad 28 (t 20) (t 27)) (.take (mv 3 (t 28)) (.done))))))))))))))))))) [12, 13, 14, 15, 16, 17, 18, 19, 20, 21, 22, 23, 24, 25, 26, 27, 28]))
  (.ops [mv 10 (t 4),
  ad 11 (t 10) (k 1),
  mv 4 (t 11)] [10, 11]))))))
 (.seq (.ops [mv 29 (t 3),
 mv 2 (t 29)] [3, 29])
 (.ret))))
def r_ref10_Used : List RRes := [.tmp 2]
theorem fo_ref10_Used {args : List Value} {M : Mem} {R : Value → Mem → Prop} (hn : args.length ≤ 30) (h : vfn Try.prog c_ref10_Used r_ref10_Used args M R) : CallsM Try.prog F.ref10_Used args M R :=
  fn_ok (kf := k_ref10_Used) Try.func44 (by kernel_rfl) (by kernel_rfl) hn (by kernel_rfl) h
/-- portage/disk.named -/
def k_disk_named (i : Nat) : List Nat := match i with | 0 => [2] | 1 => [5] | 3 => [9] | 4 => [3, 10, 11, 12] | 5 => [4, 13, 14, 15, 16, 17, 18, 19, 20, 21, 22, 23, 24, 25, 26, 27, 28, 29] | 7 => [31] | 8 => [0, 32, 33, 34, 35, 36, 37, 38, 39] | _ => []
def c_disk_named : RCode :=
 .seq (.ops [mv 2 (kb false)] [2])
 (.seq (.seq (.ops [mv 5 (t 0),
 o 6 (.lenS (t 5)),
 mv 7 (k 0)] [5])
 (.block 0 (.loop (.seq (.ops [o 8 (.ibin .lss (t 7) (t 6))] [])
  (.seq (.cond (t 8)
   (.skip)
   (.exit 0))
  (.seq (.block 1 (.seq (.ops [mv 9 (t 7),
  mv 3 (t 9)] [9])
  (.seq (.ops [mv 10 (t 0),
  mv 11 (t 3),
  o 12 (.sidx (t 10) (t 11)),
  mv 4 (t 12)] [3, 10, 11, 12])
  (.seq (.ops [mv 13 (t 4),
  o 14 (.ibin .neq (t 13) (.const (u 46))),
  os 15 (.mov (t 14)),
  gt 15 16 (.mov (t 4)),
  gt 15 17 (.ibin .lss (t 16) (.const (u 48))),
  ⟨(some 18), .mov (t 17), some (15, true), true⟩,
  gf 18 19 (.mov (t 4)),
  gf 18 20 (.ibin .gtr (t 19) (.const (u 57))),
  gt 15 21 (.pick (t 18) (kb true) (t 20)),
  o 22 (.pick (t 15) (t 21) (kb false)),
  os 23 (.mov (t 22)),
  gt 23 24 (.mov (t 4)),
  gt 23 25 (.ibin .lss (t 24) (.const (u 97))),
  ⟨(some 26), .mov (t 25), some (23, true), true⟩,
  gf 26 27 (.mov (t 4)),
  gf 26 28 (.ibin .gtr (t 27) (.const (u 122))),
  gt 23 29 (.pick (t 26) (kb true) (t 28)),
  o 30 (.pick (t 23) (t 29) (kb false))] [4, 13, 14, 15, 16, 17, 18, 19, 20, 21, 22, 23, 24, 25, 26, 27, 28, 29])
  (.cond (t 30)
   (.seq (.ops [mv 2 (kb false)] [])
   (.ret))
   (.skip))))))
  (.ops [ad 31 (t 7) (k 1),
  mv 7 (t 31)] [31])))))))
 (.seq (.ops [mv 32 (t 0),
 o 33 (.lenS (t 32)),
 o 34 (.ibin .gtr (t 33) (k 0)),
 os 35 (.mov (t 34)),
 gt 35 36 (.mov (t 0)),
 gt 35 37 (.lenS (t 36)),
 gt 35 38 (.ibin .leq (t 37) (k 12)),
 o 39 (.pick (t 35) (t 38) (kb false)),
 mv 2 (t 39)] [0, 32, 33, 34, 35, 36, 37, 38, 39])
 (.ret)))
def r_disk_named : List RRes := [.tmp 2]
theorem fo_disk_named {args : List Value} {M : Mem} {R : Value → Mem → Prop} (hn : args.length ≤ 40) (h : vfn Try.prog c_disk_named r_disk_named args M R) : CallsM Try.prog F.disk_named args M R :=
  fn_ok (kf := k_disk_named) Try.func45 (by kernel_rfl) (by kernel_rfl) hn (by kernel_rfl) h
/-- slices.pdqsortOrdered[string] -/
def k_slices_pdqsortOrdered_string (i : Nat) : List Nat := match i with | 2 => [19, 20, 21] | 3 => [22] | 4 => [0, 1, 2, 24, 25, 26, 27] | 5 => [28] | 6 => [0, 1, 2, 30, 31, 32, 33] | 7 => [34] | 8 => [36, 37, 38, 39] | 9 => [40, 41] | 10 => [42, 43, 44, 45, 46, 47, 48] | 11 => [49] | 12 => [51, 52, 53, 54] | 13 => [55, 56, 57, 58, 59, 60] | 15 => [12, 61, 62, 63, 64, 65, 66, 67] | 16 => [69, 70, 71] | 17 => [73, 74, 75, 76, 77, 78, 79, 80, 81, 82, 83, 84, 85, 86] | 18 => [1, 11, 88, 89, 90, 91, 92] | 19 => [13, 93] | 20 => [11, 94, 95, 96, 97, 98, 99, 100, 101] | 21 => [15, 102] | 22 => [103, 104, 105, 106, 107, 108] | 23 => [10, 109, 110] | 24 => [111, 112] | 25 => [16, 18, 114, 115, 116] | 26 => [1, 117, 118, 119, 120, 121] | 27 => [14, 122, 123] | 28 => [17, 18, 124, 125, 126] | 29 => [2, 127, 128, 129, 130, 131, 132] | 30 => [14, 133] | _ => []
def c_slices_pdqsortOrdered_string : RCode :=
 .seq (.ops [mv 8 (kb true)] [])
 (.seq (.ops [mv 9 (kb true)] [])
 (.block 0 (.loop (.block 1 (.seq (.ops [mv 19 (t 2),
  mv 20 (t 1),
  o 21 (.ibin .sub (t 19) (t 20)),
  mv 10 (t 21)] [19, 20, 21])
  (.seq (.seq (.ops [mv 22 (t 10),
  o 23 (.ibin .leq (t 22) (k 12))] [22])
  (.cond (t 23)
   (.seq (.ops [mv 24 (t 0),
   mv 25 (t 1),
   mv 26 (t 2),
   ca 27 F.slices_insertionSortOrdered_string [(t 24), (t 25), (t 26)]] [0, 1, 2, 24, 25, 26, 27])
   (.ret))
   (.skip)))
  (.seq (.seq (.ops [mv 28 (t 3),
  o 29 (.ibin .eql (t 28) (k 0))] [28])
  (.cond (t 29)
   (.seq (.ops [mv 30 (t 0),
   mv 31 (t 1),
   mv 32 (t 2),
   ca 33 F.slices_heapSortOrdered_string [(t 30), (t 31), (t 32)]] [0, 1, 2, 30, 31, 32, 33])
   (.ret))
   (.skip)))
  (.seq (.seq (.ops [mv 34 (t 8),
  o 35 (.not (t 34))] [34])
  (.cond (t 35)
   (.seq (.ops [mv 36 (t 0),
   mv 37 (t 1),
   mv 38 (t 2),
   ca 39 F.slices_breakPatternsOrdered_string [(t 36), (t 37), (t 38)]] [36, 37, 38, 39])
   (.ops [mv 40 (t 3),
   o 41 (.ibin .sub (t 40) (k 1)),
   mv 3 (t 41)] [40, 41]))
   (.skip)))
  (.seq (.ops [mv 43 (t 0),
  mv 44 (t 1),
  mv 45 (t 2),
  ca 46 F.slices_choosePivotOrdered_string [(t 43), (t 44), (t 45)],
  mv 42 (t 46),
  ex 47 (t 42) 0,
  ex 48 (t 42) 1,
  mv 11 (t 47),
  mv 12 (t 48)] [42, 43, 44, 45, 46, 47, 48])
  (.seq (.seq (.ops [mv 49 (t 12),
  o 50 (.ibin .eql (t 49) (k 2))] [49])
  (.cond (t 50)
   (.seq (.ops [mv 51 (t 0),
   mv 52 (t 1),
   mv 53 (t 2),
   ca 54 F.slices_reverseRangeOrdered_string [(t 51), (t 52), (t 53)]] [51, 52, 53, 54])
   (.seq (.ops [mv 55 (t 2),
   o 56 (.ibin .sub (t 55) (k 1)),
   mv 57 (t 11),
   mv 58 (t 1),
   o 59 (.ibin .sub (t 57) (t 58)),
   o 60 (.ibin .sub (t 56) (t 59)),
   mv 11 (t 60)] [55, 56, 57, 58, 59, 60])
   (.ops [mv 12 (k 1)] [])))
   (.skip)))
  (.seq (.seq (.ops [mv 61 (t 8),
  os 62 (.mov (t 61)),
  gt 62 63 (.mov (t 9)),
  o 64 (.pick (t 62) (t 63) (kb false)),
  os 65 (.mov (t 64)),
  gt 65 66 (.mov (t 12)),
  gt 65 67 (.ibin .eql (t 66) (k 1)),
  o 68 (.pick (t 65) (t 67) (kb false))] [12, 61, 62, 63, 64, 65, 66, 67])
  (.cond (t 68)
   (.seq (.ops [mv 69 (t 0),
   mv 70 (t 1),
   mv 71 (t 2),
   ca 72 F.slices_partialInsertionSortOrdered_string [(t 69), (t 70), (t 71)]] [69, 70, 71])
   (.cond (t 72)
    (.ret)
    (.skip)))
   (.skip)))
  (.seq (.seq (.draw (.take (mv 73 (t 1)) (.take (o 74 (.ibin .gtr (t 73) (k 0))) (.take (os 75 (.mov (t 74))) (.take (gt 75 76 (.mov (t 0))) (.take (gt 75 77 (.mov (t 1))) (.take (gt 75 78 (.ibin .sub (t 77) (k 1))) (.take (gt 75 79 (.iaddr 1 (t 76) (t 78))) (.take (gt 75 80 (.load false 1 (t 79))) (.take (gt 75 81 (.mov (t 0))) (.take (gt 75 82 (.mov (t 11))) (.take (gt 75 83 (.iaddr 1 (t 81) (t 82))) (.take (gt 75 84 (.load false 1 (t 83))) (.alt (gt 75 85 (.call (fn F.cmp_Less_string) [(t 80), (t 84)])) false
   (.take (gt 75 86 (.not (t 85))) (.take (o 87 (.pick (t 75) (t 86) (kb false))) (.done)))
   (.none)))))))))))))) [73, 74, 75, 76, 77, 78, 79, 80, 81, 82, 83, 84, 85, 86])
  (.cond (t 87)
   (.seq (.ops [mv 88 (t 0),
   mv 89 (t 1),
   mv 90 (t 2),
   mv 91 (t 11),
   ca 92 F.slices_partitionEqualOrdered_string [(t 88), (t 89), (t 90), (t 91)],
   mv 13 (t 92)] [1, 11, 88, 89, 90, 91, 92])
   (.seq (.ops [mv 93 (t 13),
   mv 1 (t 93)] [13, 93])
   (.exit 1)))
   (.skip)))
  (.seq (.ops [mv 95 (t 0),
  mv 96 (t 1),
  mv 97 (t 2),
  mv 98 (t 11),
  ca 99 F.slices_partitionOrdered_string [(t 95), (t 96), (t 97), (t 98)],
  mv 94 (t 99),
  ex 100 (t 94) 0,
  ex 101 (t 94) 1,
  mv 14 (t 100),
  mv 15 (t 101)] [11, 94, 95, 96, 97, 98, 99, 100, 101])
  (.seq (.ops [mv 102 (t 15),
  mv 9 (t 102)] [15, 102])
  (.seq (.ops [mv 103 (t 14),
  mv 104 (t 1),
  o 105 (.ibin .sub (t 103) (t 104)),
  mv 106 (t 2),
  mv 107 (t 14),
  o 108 (.ibin .sub (t 106) (t 107)),
  mv 16 (t 105),
  mv 17 (t 108)] [103, 104, 105, 106, 107, 108])
  (.seq (.ops [mv 109 (t 10),
  o 110 (.ibin .quo (t 109) (k 8)),
  mv 18 (t 110)] [10, 109, 110])
  (.seq (.ops [mv 111 (t 16),
  mv 112 (t 17),
  o 113 (.ibin .lss (t 111) (t 112))] [111, 112])
  (.cond (t 113)
   (.seq (.ops [mv 114 (t 16),
   mv 115 (t 18),
   o 116 (.ibin .geq (t 114) (t 115)),
   mv 8 (t 116)] [16, 18, 114, 115, 116])
   (.seq (.ops [mv 117 (t 0),
   mv 118 (t 1),
   mv 119 (t 14),
   mv 120 (t 3),
   ca 121 F.slices_pdqsortOrdered_string [(t 117), (t 118), (t 119), (t 120)]] [1, 117, 118, 119, 120, 121])
   (.ops [mv 122 (t 14),
   ad 123 (t 122) (k 1),
   mv 1 (t 123)] [14, 122, 123])))
   (.seq (.ops [mv 124 (t 17),
   mv 125 (t 18),
   o 126 (.ibin .geq (t 124) (t 125)),
   mv 8 (t 126)] [17, 18, 124, 125, 126])
   (.seq (.ops [mv 127 (t 0),
   mv 128 (t 14),
   ad 129 (t 128) (k 1),
   mv 130 (t 2),
   mv 131 (t 3),
   ca 132 F.slices_pdqsortOrdered_string [(t 127), (t 129), (t 130), (t 131)]] [2, 127, 128, 129, 130, 131, 132])
   (.ops [mv 133 (t 14),
   mv 2 (t 133)] [14, 133])))))))))))))))))))))
def r_slices_pdqsortOrdered_string : List RRes := []
theorem fo_slices_pdqsortOrdered_string {args : List Value} {M : Mem} {R : Value → Mem → Prop} (hn : args.length ≤ 134) (h : vfn Try.prog c_slices_pdqsortOrdered_string r_slices_pdqsortOrdered_string args M R) : CallsM Try.prog F.slices_pdqsortOrdered_string args M R :=
  fn_ok (kf := k_slices_pdqsortOrdered_string) Try.func46 (by kernel_rfl) (by kernel_rfl) hn (by kernel_rfl) h
/-- math/bits.Len -/
def k_math_bits_Len (i : Nat) : List Nat := match i with | 0 => [2] | 1 => [0, 3, 4, 5] | 2 => [0, 6, 7] | _ => []
def c_math_bits_Len : RCode :=
 .seq (.ops [mv 2 (k 0)] [2])
 (.seq (.cond (kb false)
  (.seq (.ops [mv 3 (t 0),
  o 4 (.conv .u32 (t 3)),
  ca 5 F.math_bits_Len32 [(t 4)],
  mv 2 (t 5)] [0, 3, 4, 5])
  (.ret))
  (.skip))
 (.seq (.ops [mv 6 (t 0),
 ca 7 F.math_bits_Len64 [(t 6)],
 mv 2 (t 7)] [0, 6, 7])
 (.ret)))
def r_math_bits_Len : List RRes := [.tmp 2]
theorem fo_math_bits_Len {args : List Value} {M : Mem} {R : Value → Mem → Prop} (hn : args.length ≤ 8) (h : vfn Try.prog c_math_bits_Len r_math_bits_Len args M R) : CallsM Try.prog F.math_bits_Len args M R :=
  fn_ok (kf := k_math_bits_Len) Try.func47 (by kernel_rfl) (by kernel_rfl) hn (by kernel_rfl) h
/-- portage/portageref10.Ready -/
def k_ref10_Ready (i : Nat) : List Nat := match i with | 0 => [0, 4] | 1 => [2, 5] | 3 => [1, 7, 8] | _ => []
def c_ref10_Ready : RCode :=
 .seq (.ops [o 2 (.box 50 (t 0)),
 mv 4 (k 0)] [0, 4])
 (.seq (.seq (.ops [fa 5 3 (t 2),
 l1 6 (t 5)] [2, 5])
 (.cond (t 6)
  (.seq (.ops [mv 4 (k 9)] [])
  (.ret))
  (.skip)))
 (.seq (.seq (.ops [mv 7 (t 1),
 ca 8 F.ref10_Name [(t 7)],
 o 9 (.not (t 8))] [1, 7, 8])
 (.cond (t 9)
  (.seq (.ops [mv 4 (k 2)] [])
  (.ret))
  (.skip)))
 (.seq (.ops [mv 4 (k 0)] [])
 (.ret))))
def r_ref10_Ready : List RRes := [.tmp 4]
theorem fo_ref10_Ready {args : List Value} {M : Mem} {R : Value → Mem → Prop} (hn : args.length ≤ 10) (h : vfn Try.prog c_ref10_Ready r_ref10_Ready args M R) : CallsM Try.prog F.ref10_Ready args M R :=
  fn_ok (kf := k_ref10_Ready) Try.func48 (by kernel_rfl) (by kernel_rfl) hn (by kernel_rfl) h
/-- portage/portageref10.Place -/
def k_ref10_Place (i : Nat) : List Nat := match i with | 0 => [0, 4] | 2 => [6, 7, 8, 9] | 4 => [13, 14, 15, 16, 17, 18, 19] | 5 => [5, 21] | 3 => [11, 12] | _ => []
def c_ref10_Place : RCode :=
 .seq (.ops [o 2 (.box 50 (t 0)),
 mv 4 (k 0)] [0, 4])
 (.seq (.seq (.ops [mv 5 (k 0)] [])
 (.block 0 (.loop (.seq (.seq (.ops [mv 6 (t 5),
  fa 7 1 (t 2),
  l1 8 (t 7),
  o 9 (.len (t 8)),
  o 10 (.ibin .lss (t 6) (t 9))] [6, 7, 8, 9])
  (.cond (t 10)
   (.skip)
   (.exit 0)))
  (.seq (.block 1 (.seq (.ops [fa 13 1 (t 2),
  l1 14 (t 13),
  mv 15 (t 5),
  o 16 (.iaddr 3 (t 14) (t 15)),
  fa 17 0 (t 16),
  l1 18 (t 17),
  mv 19 (t 1),
  o 20 (.strE .eql (t 18) (t 19))] [13, 14, 15, 16, 17, 18, 19])
  (.cond (t 20)
   (.seq (.ops [mv 21 (t 5),
   mv 4 (t 21)] [5, 21])
   (.ret))
   (.skip))))
  (.ops [mv 11 (t 5),
  ad 12 (t 11) (k 1),
  mv 5 (t 12)] [11, 12]))))))
 (.seq (.ops [mv 4 (k (-1))] [])
 (.ret)))
def r_ref10_Place : List RRes := [.tmp 4]
theorem fo_ref10_Place {args : List Value} {M : Mem} {R : Value → Mem → Prop} (hn : args.length ≤ 22) (h : vfn Try.prog c_ref10_Place r_ref10_Place args M R) : CallsM Try.prog F.ref10_Place args M R :=
  fn_ok (kf := k_ref10_Place) Try.func49 (by kernel_rfl) (by kernel_rfl) hn (by kernel_rfl) h
/-- portage/portageref10.file -/
def k_ref10_file (i : Nat) : List Nat := match i with | 0 => [0] | 1 => [5, 6, 7] | 2 => [1, 9, 10] | 3 => [1, 2, 11, 12, 13, 14, 15, 16, 17] | _ => []
def c_ref10_file : RCode :=
 .seq (.ops [o 2 (.box 50 (t 0)),
 o 4 (.alloc 83 [(.string ByteArray.empty), (.string ByteArray.empty), (.string ByteArray.empty)])] [0])
 (.seq (.seq (.ops [la 5 4 (t 2),
 mv 6 (t 1),
 ca 7 F.ref10_Place [(t 5), (t 6)],
 o 8 (.ibin .lss (t 7) (k 0))] [5, 6, 7])
 (.cond (t 8)
  (.seq (.ops [mv 9 (t 1),
  o 10 (.build [(.string ByteArray.empty), (.string ByteArray.empty), (.string ByteArray.empty)] [(0, 1, (t 9))]),
  st 3 (t 4) (t 10)] [1, 9, 10])
  (.ret))
  (.skip)))
 (.seq (.draw (.take (fa 11 1 (t 2)) (.take (l1 12 (t 11)) (.take (la 13 4 (t 2)) (.take (mv 14 (t 1)) (.alt (ca 15 F.ref10_Place [(t 13), (t 14)]) true
  (.take (o 16 (.iaddr 3 (t 12) (t 15))) (.take (la 17 3 (t 16)) (.alt (st 3 (t 4) (t 17)) false
   (.done)
   (.none))))
  (.none)))))) [1, 2, 11, 12, 13, 14, 15, 16, 17])
 (.ret)))
def r_ref10_file : List RRes := [.cell true 3 4]
theorem fo_ref10_file {args : List Value} {M : Mem} {R : Value → Mem → Prop} (hn : args.length ≤ 18) (h : vfn Try.prog c_ref10_file r_ref10_file args M R) : CallsM Try.prog F.ref10_file args M R :=
  fn_ok (kf := k_ref10_file) Try.func50 (by kernel_rfl) (by kernel_rfl) hn (by kernel_rfl) h
/-- portage/portageref10.changed -/
def k_ref10_changed (i : Nat) : List Nat := match i with | 0 => [0] | 1 => [6, 7] | 2 => [8] | 3 => [10, 11] | 4 => [1, 2, 5, 12, 13, 14, 15, 16, 17, 18, 19] | _ => []
def c_ref10_changed : RCode :=
 .seq (.ops [o 2 (.box 50 (t 0)),
 o 4 (.alloc 50 [(i 0), sn, (i 0), (.bool false)])] [0])
 (.seq (.ops [fa 6 2 (t 2),
 l1 7 (t 6),
 mv 5 (t 7)] [6, 7])
 (.seq (.seq (.ops [mv 8 (t 5),
 o 9 (.ibin .gtr (t 8) (k 0))] [8])
 (.cond (t 9)
  (.ops [mv 10 (t 5),
  o 11 (.ibin .sub (t 10) (k 1)),
  mv 5 (t 11)] [10, 11])
  (.skip)))
 (.seq (.ops [fa 12 0 (t 2),
 l1 13 (t 12),
 mv 14 (t 1),
 mv 15 (t 5),
 fa 16 2 (t 2),
 l1 17 (t 16),
 o 18 (.ibin .eql (t 17) (k 1)),
 o 19 (.build [(i 0), sn, (i 0), (.bool false)] [(0, 1, (t 13)), (1, 1, (t 14)), (2, 1, (t 15)), (3, 1, (t 18))]),
 st 4 (t 4) (t 19)] [1, 2, 5, 12, 13, 14, 15, 16, 17, 18, 19])
 (.ret))))
def r_ref10_changed : List RRes := [.cell true 4 4]
theorem fo_ref10_changed {args : List Value} {M : Mem} {R : Value → Mem → Prop} (hn : args.length ≤ 20) (h : vfn Try.prog c_ref10_changed r_ref10_changed args M R) : CallsM Try.prog F.ref10_changed args M R :=
  fn_ok (kf := k_ref10_changed) Try.func51 (by kernel_rfl) (by kernel_rfl) hn (by kernel_rfl) h
/-- portage/portageref10.with -/
def k_ref10_with (i : Nat) : List Nat := match i with | 0 => [1, 4] | 1 => [8] | 3 => [9, 10, 11, 12] | 5 => [13, 14, 15] | 7 => [19, 20, 21, 22, 23, 24, 25, 26, 27, 28, 29] | 8 => [31, 32, 33, 34] | 10 => [35, 36, 37, 38, 39, 40, 41] | 6 => [17, 18] | 11 => [6, 42] | 12 => [3, 44, 45, 46, 47] | 13 => [5, 48] | _ => []
def c_ref10_with : RCode :=
 .seq (.ops [o 3 (.box 83 (t 1)),
 mv 4 (.const sn)] [1, 4])
 (.seq (.ops [o 8 (.mkSl false 83 0 [] []),
 mv 5 (t 8)] [8])
 (.seq (.ops [mv 6 (kb false)] [])
 (.seq (.ops [mv 9 (t 0),
 fa 10 0 (t 3),
 l1 11 (t 10),
 ca 12 F.ref10_without [(t 9), (t 11)],
 mv 0 (t 12)] [9, 10, 11, 12])
 (.seq (.seq (.ops [mv 7 (k 0)] [])
 (.block 0 (.loop (.seq (.seq (.ops [mv 13 (t 7),
  mv 14 (t 0),
  o 15 (.len (t 14)),
  o 16 (.ibin .lss (t 13) (t 15))] [13, 14, 15])
  (.cond (t 16)
   (.skip)
   (.exit 0)))
  (.seq (.block 1 (.seq (.seq (.draw (.take (mv 19 (t 6)) (.take (o 20 (.not (t 19))) (.take (os 21 (.mov (t 20))) (.take (gt 21 22 (.faddr 0 (t 3))) (.take (gt 21 23 (.load false 1 (t 22))) (.take (gt 21 24 (.mov (t 0))) (.take (gt 21 25 (.mov (t 7))) (.take (gt 21 26 (.iaddr 3 (t 24) (t 25))) (.take (gt 21 27 (.faddr 0 (t 26))) (.take (gt 21 28 (.load false 1 (t 27))) (.take (gt 21 29 (.strE .lss (t 23) (t 28))) (.take (o 30 (.pick (t 21) (t 29) (kb false))) (.done))))))))))))) [19, 20, 21, 22, 23, 24, 25, 26, 27, 28, 29])
  (.cond (t 30)
   (.seq (.ops [mv 31 (t 5),
   la 32 3 (t 3),
   o 33 (.mkSl true 83 1 [(.string ByteArray.empty), (.string ByteArray.empty), (.string ByteArray.empty)] [(0, 3, (t 32))]),
   o 34 (.app 83 3 48 [(.string ByteArray.empty), (.string ByteArray.empty), (.string ByteArray.empty)] (t 31) (t 33)),
   mv 5 (t 34)] [31, 32, 33, 34])
   (.ops [mv 6 (kb true)] []))
   (.skip)))
  (.ops [mv 35 (t 5),
  mv 36 (t 0),
  mv 37 (t 7),
  o 38 (.iaddr 3 (t 36) (t 37)),
  la 39 3 (t 38),
  o 40 (.mkSl true 83 1 [(.string ByteArray.empty), (.string ByteArray.empty), (.string ByteArray.empty)] [(0, 3, (t 39))]),
  o 41 (.app 83 3 48 [(.string ByteArray.empty), (.string ByteArray.empty), (.string ByteArray.empty)] (t 35) (t 40)),
  mv 5 (t 41)] [35, 36, 37, 38, 39, 40, 41])))
  (.ops [mv 17 (t 7),
  ad 18 (t 17) (k 1),
  mv 7 (t 18)] [17, 18]))))))
 (.seq (.seq (.ops [mv 42 (t 6),
 o 43 (.not (t 42))] [6, 42])
 (.cond (t 43)
  (.ops [mv 44 (t 5),
  la 45 3 (t 3),
  o 46 (.mkSl true 83 1 [(.string ByteArray.empty), (.string ByteArray.empty), (.string ByteArray.empty)] [(0, 3, (t 45))]),
  o 47 (.app 83 3 48 [(.string ByteArray.empty), (.string ByteArray.empty), (.string ByteArray.empty)] (t 44) (t 46)),
  mv 5 (t 47)] [3, 44, 45, 46, 47])
  (.skip)))
 (.seq (.ops [mv 48 (t 5),
 mv 4 (t 48)] [5, 48])
 (.ret)))))))
def r_ref10_with : List RRes := [.tmp 4]
theorem fo_ref10_with {args : List Value} {M : Mem} {R : Value → Mem → Prop} (hn : args.length ≤ 49) (h : vfn Try.prog c_ref10_with r_ref10_with args M R) : CallsM Try.prog F.ref10_with args M R :=
  fn_ok (kf := k_ref10_with) Try.func52 (by kernel_rfl) (by kernel_rfl) hn (by kernel_rfl) h
/-- portage/portageref10.There -/
def k_ref10_There (i : Nat) : List Nat := match i with | 0 => [0, 4] | 1 => [5, 6, 7] | 2 => [1, 2, 9, 10, 11] | 3 => [1, 2, 12, 13, 14] | _ => []
def c_ref10_There : RCode :=
 .seq (.ops [o 2 (.box 50 (t 0)),
 mv 4 (k 0)] [0, 4])
 (.seq (.seq (.ops [la 5 4 (t 2),
 mv 6 (t 1),
 ca 7 F.ref10_Ready [(t 5), (t 6)],
 o 8 (.ibin .neq (t 7) (k 0))] [5, 6, 7])
 (.cond (t 8)
  (.seq (.ops [la 9 4 (t 2),
  mv 10 (t 1),
  ca 11 F.ref10_Ready [(t 9), (t 10)],
  mv 4 (t 11)] [1, 2, 9, 10, 11])
  (.ret))
  (.skip)))
 (.seq (.seq (.ops [la 12 4 (t 2),
 mv 13 (t 1),
 ca 14 F.ref10_Place [(t 12), (t 13)],
 o 15 (.ibin .lss (t 14) (k 0))] [1, 2, 12, 13, 14])
 (.cond (t 15)
  (.seq (.ops [mv 4 (k 4)] [])
  (.ret))
  (.skip)))
 (.seq (.ops [mv 4 (k 0)] [])
 (.ret))))
def r_ref10_There : List RRes := [.tmp 4]
theorem fo_ref10_There {args : List Value} {M : Mem} {R : Value → Mem → Prop} (hn : args.length ≤ 16) (h : vfn Try.prog c_ref10_There r_ref10_There args M R) : CallsM Try.prog F.ref10_There args M R :=
  fn_ok (kf := k_ref10_There) Try.func53 (by kernel_rfl) (by kernel_rfl) hn (by kernel_rfl) h
/-- portage/portageref10.without -/
def k_ref10_without (i : Nat) : List Nat := match i with | 0 => [4] | 1 => [7] | 3 => [8, 9, 10] | 5 => [14, 15, 16, 17, 18, 19] | 6 => [21, 22, 23, 24, 25, 26, 27] | 4 => [12, 13] | 7 => [5, 28] | _ => []
def c_ref10_without : RCode :=
 .seq (.ops [mv 4 (.const sn)] [4])
 (.seq (.ops [o 7 (.mkSl false 83 0 [] []),
 mv 5 (t 7)] [7])
 (.seq (.seq (.ops [mv 6 (k 0)] [])
 (.block 0 (.loop (.seq (.seq (.ops [mv 8 (t 6),
  mv 9 (t 0),
  o 10 (.len (t 9)),
  o 11 (.ibin .lss (t 8) (t 10))] [8, 9, 10])
  (.cond (t 11)
   (.skip)
   (.exit 0)))
  (.seq (.block 1 (.seq (.ops [mv 14 (t 0),
  mv 15 (t 6),
  o 16 (.iaddr 3 (t 14) (t 15)),
  fa 17 0 (t 16),
  l1 18 (t 17),
  mv 19 (t 1),
  o 20 (.strE .neq (t 18) (t 19))] [14, 15, 16, 17, 18, 19])
  (.cond (t 20)
   (.ops [mv 21 (t 5),
   mv 22 (t 0),
   mv 23 (t 6),
   o 24 (.iaddr 3 (t 22) (t 23)),
   la 25 3 (t 24),
   o 26 (.mkSl true 83 1 [(.string ByteArray.empty), (.string ByteArray.empty), (.string ByteArray.empty)] [(0, 3, (t 25))]),
   o 27 (.app 83 3 48 [(.string ByteArray.empty), (.string ByteArray.empty), (.string ByteArray.empty)] (t 21) (t 26)),
   mv 5 (t 27)] [21, 22, 23, 24, 25, 26, 27])
   (.skip))))
  (.ops [mv 12 (t 6),
  ad 13 (t 12) (k 1),
  mv 6 (t 13)] [12, 13]))))))
 (.seq (.ops [mv 28 (t 5),
 mv 4 (t 28)] [5, 28])
 (.ret))))
def r_ref10_without : List RRes := [.tmp 4]
theorem fo_ref10_without {args : List Value} {M : Mem} {R : Value → Mem → Prop} (hn : args.length ≤ 29) (h : vfn Try.prog c_ref10_without r_ref10_without args M R) : CallsM Try.prog F.ref10_without args M R :=
  fn_ok (kf := k_ref10_without) Try.func54 (by kernel_rfl) (by kernel_rfl) hn (by kernel_rfl) h
/-- slices.insertionSortOrdered[string] -/
def k_slices_insertionSortOrdered_string (i : Nat) : List Nat := match i with | 0 => [8, 9] | 1 => [10, 11] | 3 => [15] | 4 => [16, 17, 18, 19, 20, 21, 22, 23, 24, 25, 26, 27, 28, 29] | 6 => [33, 34, 35, 36, 37, 38, 39, 40, 41, 42, 43, 44, 45, 46, 47, 48] | 5 => [31, 32] | 2 => [13, 14] | _ => []
def c_slices_insertionSortOrdered_string : RCode :=
 .seq (.ops [mv 8 (t 1),
 ad 9 (t 8) (k 1),
 mv 6 (t 9)] [8, 9])
 (.block 0 (.loop (.seq (.seq (.ops [mv 10 (t 6),
  mv 11 (t 2),
  o 12 (.ibin .lss (t 10) (t 11))] [10, 11])
  (.cond (t 12)
   (.skip)
   (.exit 0)))
  (.seq (.block 1 (.seq (.ops [mv 15 (t 6),
  mv 7 (t 15)] [15])
  (.block 2 (.loop (.seq (.seq (.draw (.take (mv 16 (t 7)) (.take (mv 17 (t 1)) (.take (o 18 (.ibin .gtr (t 16) (t 17))) (.take (os 19 (.mov (t 18))) (.take (gt 19 20 (.mov (t 0))) (.take (gt 19 21 (.mov (t 7))) (.take (gt 19 22 (.iaddr 1 (t 20) (t 21))) (.take (gt 19 23 (.load false 1 (t 22))) (.take (gt 19 24 (.mov (t 0))) (.take (gt 19 25 (.mov (t 7))) (.take (gt 19 26 (.ibin .sub (t 25) (k 1))) (.take (gt 19 27 (.iaddr 1 (t 24) (t 26))) (.take (gt 19 28 (.load false 1 (t 27))) (.alt (gt 19 29 (.call (fn F.cmp_Less_string) [(t 23), (t 28)])) false
    (.take (o 30 (.pick (t 19) (t 29) (kb false))) (.done))
    (.none))))))))))))))) [16, 17, 18, 19, 20, 21, 22, 23, 24, 25, 26, 27, 28, 29])
   (.cond (t 30)
    (.skip)
    (.exit 2)))
   (.seq (.block 3 (.draw (.take (mv 33 (t 0)) (.take (mv 34 (t 7)) (.take (mv 35 (t 0)) (.take (mv 36 (t 7)) (.take (o 37 (.ibin .sub (t 36) (k 1))) (.take (mv 38 (t 0)) (.take (mv 39 (t 7)) (.take (o 40 (.ibin .sub (t 39) (k 1))) (.take (o 41 (.iaddr 1 (t 38) (t 40))) (.take (l1 42 (t 41)) (.take (mv 43 (t 0)) (.take (mv 44 (t 7)) (.take (o 45 (.iaddr 1 (t 43) (t 44))) (.take (l1 46 (t 45)) (.take (o 47 (.iaddr 1 (t 33) (t 34))) (.alt (st 1 (t 47) (t 42)) false
    (.take (o 48 (.iaddr 1 (t 35) (t 37))) (.alt (st 1 (t 48) (t 46)) false
     (.done)
     (.none)))
    (.none))))))))))))))))) [33, 34, 35, 36, 37, 38, 39, 40, 41, 42, 43, 44, 45, 46, 47, 48]))
   (.ops [mv 31 (t 7),
   o 32 (.ibin .sub (t 31) (k 1)),
   mv 7 (t 32)] [31, 32])))))))
  (.ops [mv 13 (t 6),
  ad 14 (t 13) (k 1),
  mv 6 (t 14)] [13, 14])))))
def r_slices_insertionSortOrdered_string : List RRes := []
theorem fo_slices_insertionSortOrdered_string {args : List Value} {M : Mem} {R : Value → Mem → Prop} (hn : args.length ≤ 49) (h : vfn Try.prog c_slices_insertionSortOrdered_string r_slices_insertionSortOrdered_string args M R) : CallsM Try.prog F.slices_insertionSortOrdered_string args M R :=
  fn_ok (kf := k_slices_insertionSortOrdered_string) Try.func55 (by kernel_rfl) (by kernel_rfl) hn (by kernel_rfl) h
/-- slices.heapSortOrdered[string] -/
def k_slices_heapSortOrdered_string (i : Nat) : List Nat := match i with | 0 => [11] | 2 => [1, 2, 12, 13, 14] | 3 => [15, 16, 17] | 4 => [18] | 6 => [22, 23, 24, 25, 26] | 5 => [20, 21] | 7 => [8, 27, 28] | 8 => [29] | 10 => [33, 34, 35, 36, 37, 38, 39, 40, 41, 42, 43, 44, 45, 46, 47, 48, 49, 50] | 11 => [51, 52, 53, 54, 55] | 9 => [31, 32] | _ => []
def c_slices_heapSortOrdered_string : RCode :=
 .seq (.ops [mv 11 (t 1),
 mv 6 (t 11)] [11])
 (.seq (.ops [mv 7 (k 0)] [])
 (.seq (.ops [mv 12 (t 2),
 mv 13 (t 1),
 o 14 (.ibin .sub (t 12) (t 13)),
 mv 8 (t 14)] [1, 2, 12, 13, 14])
 (.seq (.seq (.ops [mv 15 (t 8),
 o 16 (.ibin .sub (t 15) (k 1)),
 o 17 (.ibin .quo (t 16) (k 2)),
 mv 9 (t 17)] [15, 16, 17])
 (.block 0 (.loop (.seq (.seq (.ops [mv 18 (t 9),
  o 19 (.ibin .geq (t 18) (k 0))] [18])
  (.cond (t 19)
   (.skip)
   (.exit 0)))
  (.seq (.block 1 (.ops [mv 22 (t 0),
  mv 23 (t 9),
  mv 24 (t 8),
  mv 25 (t 6),
  ca 26 F.slices_siftDownOrdered_string [(t 22), (t 23), (t 24), (t 25)]] [22, 23, 24, 25, 26]))
  (.ops [mv 20 (t 9),
  o 21 (.ibin .sub (t 20) (k 1)),
  mv 9 (t 21)] [20, 21]))))))
 (.seq (.ops [mv 27 (t 8),
 o 28 (.ibin .sub (t 27) (k 1)),
 mv 10 (t 28)] [8, 27, 28])
 (.block 2 (.loop (.seq (.seq (.ops [mv 29 (t 10),
  o 30 (.ibin .geq (t 29) (k 0))] [29])
  (.cond (t 30)
   (.skip)
   (.exit 2)))
  (.seq (.block 3 (.seq (.draw (.take (mv 33 (t 0)) (.take (mv 34 (t 6)) (.take (mv 35 (t 0)) (.take (mv 36 (t 6)) (.take (mv 37 (t 10)) (.take (ad 38 (t 36) (t 37)) (.take (mv 39 (t 0)) (.take (mv 40 (t 6)) (.take (mv 41 (t 10)) (.take (ad 42 (t 40) (t 41)) (.take (o 43 (.iaddr 1 (t 39) (t 42))) (.take (l1 44 (t 43)) (.take (mv 45 (t 0)) (.take (mv 46 (t 6)) (.take (o 47 (.iaddr 1 (t 45) (t 46))) (.take (l1 48 (t 47)) (.take (o 49 (.iaddr 1 (t 33) (t 34))) (.alt (st 1 (t 49) (t 44)) false
   (.take (o 50 (.iaddr 1 (t 35) (t 38))) (.alt (st 1 (t 50) (t 48)) false
    (.done)
    (.none)))
   (.none))))))))))))))))))) [33, 34, 35, 36, 37, 38, 39, 40, 41, 42, 43, 44, 45, 46, 47, 48, 49, 50])
  (.ops [mv 51 (t 0),
  mv 52 (t 7),
  mv 53 (t 10),
  mv 54 (t 6),
  ca 55 F.slices_siftDownOrdered_string [(t 51), (t 52), (t 53), (t 54)]] [51, 52, 53, 54, 55])))
  (.ops [mv 31 (t 10),
  o 32 (.ibin .sub (t 31) (k 1)),
  mv 10 (t 32)] [31, 32])))))))))
def r_slices_heapSortOrdered_string : List RRes := []
theorem fo_slices_heapSortOrdered_string {args : List Value} {M : Mem} {R : Value → Mem → Prop} (hn : args.length ≤ 56) (h : vfn Try.prog c_slices_heapSortOrdered_string r_slices_heapSortOrdered_string args M R) : CallsM Try.prog F.slices_heapSortOrdered_string args M R :=
  fn_ok (kf := k_slices_heapSortOrdered_string) Try.func56 (by kernel_rfl) (by kernel_rfl) hn (by kernel_rfl) h
/-- slices.breakPatternsOrdered[string] -/
def k_slices_breakPatternsOrdered_string (i : Nat) : List Nat := match i with | 0 => [2, 11, 12, 13] | 1 => [14] | 2 => [16, 17] | 3 => [18, 19] | 4 => [20, 21, 22, 23, 24, 25] | 5 => [26, 27, 28, 29, 30, 31, 32] | 7 => [36, 37, 38, 39, 40] | 8 => [41, 42] | 9 => [44, 45, 46] | 10 => [10, 47, 48, 49, 50, 51, 52, 53, 54, 55, 56, 57, 58, 59, 60, 61, 62, 63, 64] | 6 => [34, 35] | _ => []
def c_slices_breakPatternsOrdered_string : RCode :=
 .seq (.ops [mv 11 (t 2),
 mv 12 (t 1),
 o 13 (.ibin .sub (t 11) (t 12)),
 mv 6 (t 13)] [2, 11, 12, 13])
 (.seq (.ops [mv 14 (t 6),
 o 15 (.ibin .geq (t 14) (k 8))] [14])
 (.cond (t 15)
  (.seq (.ops [mv 16 (t 6),
  o 17 (.conv .u64 (t 16)),
  o 7 (.alloc 106 [(.int .u64 0)]),
  st 1 (t 7) (t 17)] [16, 17])
  (.seq (.ops [mv 18 (t 6),
  ca 19 F.slices_nextPowerOfTwo [(t 18)],
  mv 8 (t 19)] [18, 19])
  (.seq (.ops [mv 20 (t 1),
  mv 21 (t 6),
  o 22 (.ibin .quo (t 21) (k 4)),
  o 23 (.ibin .mul (t 22) (k 2)),
  ad 24 (t 20) (t 23),
  o 25 (.ibin .sub (t 24) (k 1)),
  mv 9 (t 25)] [20, 21, 22, 23, 24, 25])
  (.block 0 (.loop (.seq (.seq (.ops [mv 26 (t 9),
   mv 27 (t 1),
   mv 28 (t 6),
   o 29 (.ibin .quo (t 28) (k 4)),
   o 30 (.ibin .mul (t 29) (k 2)),
   ad 31 (t 27) (t 30),
   ad 32 (t 31) (k 1),
   o 33 (.ibin .leq (t 26) (t 32))] [26, 27, 28, 29, 30, 31, 32])
   (.cond (t 33)
    (.skip)
    (.exit 0)))
   (.seq (.block 1 (.seq (.ops [ca 36 F.slices_xorshift_Next [(t 7)],
   mv 37 (t 8),
   o 38 (.ibin .sub (t 37) (.const (.int .u64 1))),
   o 39 (.ibin .and (t 36) (t 38)),
   o 40 (.conv .i64 (t 39)),
   mv 10 (t 40)] [36, 37, 38, 39, 40])
   (.seq (.seq (.ops [mv 41 (t 10),
   mv 42 (t 6),
   o 43 (.ibin .geq (t 41) (t 42))] [41, 42])
   (.cond (t 43)
    (.ops [mv 44 (t 10),
    mv 45 (t 6),
    o 46 (.ibin .sub (t 44) (t 45)),
    mv 10 (t 46)] [44, 45, 46])
    (.skip)))
   (.draw (.take (mv 47 (t 0)) (.take (mv 48 (t 9)) (.take (mv 49 (t 0)) (.take (mv 50 (t 1)) (.take (mv 51 (t 10)) (.take (ad 52 (t 50) (t 51)) (.take (mv 53 (t 0)) (.take (mv 54 (t 1)) (.take (mv 55 (t 10)) (.take (ad 56 (t 54) (t 55)) (.take (o 57 (.iaddr 1 (t 53) (t 56))) (.take (l1 58 (t 57)) (.take (mv 59 (t 0)) (.take (mv 60 (t 9)) (.take (o 61 (.iaddr 1 (t 59) (t 60))) (.take (l1 62 (t 61)) (.take (o 63 (.iaddr 1 (t 47) (t 48))) (.alt (st 1 (t 63) (t 58)) false
    (.take (o 64 (.iaddr 1 (t 49) (t 52))) (.alt (st 1 (t 64) (t 62)) false
     (.done)
     (.none)))
    (.none))))))))))))))))))) [10, 47, 48, 49, 50, 51, 52, 53, 54, 55, 56, 57, 58, 59, 60, 61, 62, 63, 64]))))
   (.ops [mv 34 (t 9),
   ad 35 (t 34) (k 1),
   mv 9 (t 35)] [34, 35]))))))))
  (.skip)))
def r_slices_breakPatternsOrdered_string : List RRes := []
theorem fo_slices_breakPatternsOrdered_string {args : List Value} {M : Mem} {R : Value → Mem → Prop} (hn : args.length ≤ 65) (h : vfn Try.prog c_slices_breakPatternsOrdered_string r_slices_breakPatternsOrdered_string args M R) : CallsM Try.prog F.slices_breakPatternsOrdered_string args M R :=
  fn_ok (kf := k_slices_breakPatternsOrdered_string) Try.func57 (by kernel_rfl) (by kernel_rfl) hn (by kernel_rfl) h
/-- slices.choosePivotOrdered[string] -/
def k_slices_choosePivotOrdered_string (i : Nat) : List Nat := match i with | 0 => [6, 7] | 1 => [2, 13, 14, 15] | 3 => [16, 17, 18, 19, 20] | 4 => [21, 22, 23, 24, 25] | 5 => [1, 26, 27, 28, 29, 30] | 6 => [31] | 7 => [8, 33] | 8 => [35, 36, 37] | 9 => [38, 39, 40] | 10 => [41, 42, 43] | 11 => [0, 10, 12, 44, 45, 46, 47, 48] | 12 => [9] | 14 => [52] | 15 => [11, 53] | 16 => [49, 55] | 17 => [11, 56] | 13 => [11, 50] | _ => []
def c_slices_choosePivotOrdered_string : RCode :=
 .seq (.ops [mv 6 (k 0),
 mv 7 (k 0)] [6, 7])
 (.seq (.ops [mv 13 (t 2),
 mv 14 (t 1),
 o 15 (.ibin .sub (t 13) (t 14)),
 mv 8 (t 15)] [2, 13, 14, 15])
 (.seq (.ops [o 9 (.alloc 3 [(i 0)])] [])
 (.seq (.ops [mv 16 (t 1),
 mv 17 (t 8),
 o 18 (.ibin .quo (t 17) (k 4)),
 o 19 (.ibin .mul (t 18) (k 1)),
 ad 20 (t 16) (t 19),
 mv 10 (t 20)] [16, 17, 18, 19, 20])
 (.seq (.ops [mv 21 (t 1),
 mv 22 (t 8),
 o 23 (.ibin .quo (t 22) (k 4)),
 o 24 (.ibin .mul (t 23) (k 2)),
 ad 25 (t 21) (t 24),
 mv 11 (t 25)] [21, 22, 23, 24, 25])
 (.seq (.ops [mv 26 (t 1),
 mv 27 (t 8),
 o 28 (.ibin .quo (t 27) (k 4)),
 o 29 (.ibin .mul (t 28) (k 3)),
 ad 30 (t 26) (t 29),
 mv 12 (t 30)] [1, 26, 27, 28, 29, 30])
 (.seq (.seq (.ops [mv 31 (t 8),
 o 32 (.ibin .geq (t 31) (k 8))] [31])
 (.cond (t 32)
  (.seq (.seq (.ops [mv 33 (t 8),
  o 34 (.ibin .geq (t 33) (k 50))] [8, 33])
  (.cond (t 34)
   (.seq (.ops [mv 35 (t 0),
   mv 36 (t 10),
   ca 37 F.slices_medianAdjacentOrdered_string [(t 35), (t 36), (t 9)],
   mv 10 (t 37)] [35, 36, 37])
   (.seq (.ops [mv 38 (t 0),
   mv 39 (t 11),
   ca 40 F.slices_medianAdjacentOrdered_string [(t 38), (t 39), (t 9)],
   mv 11 (t 40)] [38, 39, 40])
   (.ops [mv 41 (t 0),
   mv 42 (t 12),
   ca 43 F.slices_medianAdjacentOrdered_string [(t 41), (t 42), (t 9)],
   mv 12 (t 43)] [41, 42, 43])))
   (.skip)))
  (.ops [mv 44 (t 0),
  mv 45 (t 10),
  mv 46 (t 11),
  mv 47 (t 12),
  ca 48 F.slices_medianOrdered_string [(t 44), (t 45), (t 46), (t 47), (t 9)],
  mv 11 (t 48)] [0, 10, 12, 44, 45, 46, 47, 48]))
  (.skip)))
 (.seq (.ops [l1 49 (t 9)] [9])
 (.block 0 (.seq (.ops [o 52 (.ibin .eql (t 49) (k 0)),
 mv 51 (t 52)] [52])
 (.cond (t 51)
  (.seq (.ops [mv 53 (t 11),
  mv 6 (t 53),
  mv 7 (k 1)] [11, 53])
  (.ret))
  (.seq (.ops [o 55 (.ibin .eql (t 49) (k 12)),
  mv 54 (t 55)] [49, 55])
  (.cond (t 54)
   (.seq (.ops [mv 56 (t 11),
   mv 6 (t 56),
   mv 7 (k 2)] [11, 56])
   (.ret))
   (.seq (.ops [mv 50 (t 11),
   mv 6 (t 50),
   mv 7 (k 0)] [11, 50])
   (.ret))))))))))))))
def r_slices_choosePivotOrdered_string : List RRes := [.tmp 6, .tmp 7]
theorem fo_slices_choosePivotOrdered_string {args : List Value} {M : Mem} {R : Value → Mem → Prop} (hn : args.length ≤ 57) (h : vfn Try.prog c_slices_choosePivotOrdered_string r_slices_choosePivotOrdered_string args M R) : CallsM Try.prog F.slices_choosePivotOrdered_string args M R :=
  fn_ok (kf := k_slices_choosePivotOrdered_string) Try.func58 (by kernel_rfl) (by kernel_rfl) hn (by kernel_rfl) h
/-- slices.reverseRangeOrdered[string] -/
def k_slices_reverseRangeOrdered_string (i : Nat) : List Nat := match i with | 0 => [1, 8] | 1 => [2, 9, 10] | 2 => [11, 12] | 3 => [14, 15, 16, 17, 18, 19, 20, 21, 22, 23, 24, 25, 26, 27] | 4 => [28, 29] | 5 => [30, 31] | _ => []
def c_slices_reverseRangeOrdered_string : RCode :=
 .seq (.ops [mv 8 (t 1),
 mv 6 (t 8)] [1, 8])
 (.seq (.ops [mv 9 (t 2),
 o 10 (.ibin .sub (t 9) (k 1)),
 mv 7 (t 10)] [2, 9, 10])
 (.block 0 (.loop (.seq (.seq (.ops [mv 11 (t 6),
  mv 12 (t 7),
  o 13 (.ibin .lss (t 11) (t 12))] [11, 12])
  (.cond (t 13)
   (.skip)
   (.exit 0)))
  (.block 1 (.seq (.draw (.take (mv 14 (t 0)) (.take (mv 15 (t 6)) (.take (mv 16 (t 0)) (.take (mv 17 (t 7)) (.take (mv 18 (t 0)) (.take (mv 19 (t 7)) (.take (o 20 (.iaddr 1 (t 18) (t 19))) (.take (l1 21 (t 20)) (.take (mv 22 (t 0)) (.take (mv 23 (t 6)) (.take (o 24 (.iaddr 1 (t 22) (t 23))) (.take (l1 25 (t 24)) (.take (o 26 (.iaddr 1 (t 14) (t 15))) (.alt (st 1 (t 26) (t 21)) false
   (.take (o 27 (.iaddr 1 (t 16) (t 17))) (.alt (st 1 (t 27) (t 25)) false
    (.done)
    (.none)))
   (.none))))))))))))))) [14, 15, 16, 17, 18, 19, 20, 21, 22, 23, 24, 25, 26, 27])
  (.seq (.ops [mv 28 (t 6),
  ad 29 (t 28) (k 1),
  mv 6 (t 29)] [28, 29])
  (.ops [mv 30 (t 7),
  o 31 (.ibin .sub (t 30) (k 1)),
  mv 7 (t 31)] [30, 31]))))))))
def r_slices_reverseRangeOrdered_string : List RRes := []
theorem fo_slices_reverseRangeOrdered_string {args : List Value} {M : Mem} {R : Value → Mem → Prop} (hn : args.length ≤ 32) (h : vfn Try.prog c_slices_reverseRangeOrdered_string r_slices_reverseRangeOrdered_string args M R) : CallsM Try.prog F.slices_reverseRangeOrdered_string args M R :=
  fn_ok (kf := k_slices_reverseRangeOrdered_string) Try.func59 (by kernel_rfl) (by kernel_rfl) hn (by kernel_rfl) h
/-- slices.partialInsertionSortOrdered[string] -/
def k_slices_partialInsertionSortOrdered_string (i : Nat) : List Nat := match i with | 0 => [6] | 1 => [11, 12] | 3 => [13] | 5 => [17, 18, 19, 20, 21, 22, 23, 24, 25, 26, 27, 28, 29, 30, 31] | 6 => [33, 34] | 7 => [35, 36] | 9 => [38, 39, 40] | 11 => [42, 43, 44, 45, 46, 47, 48, 49, 50, 51, 52, 53, 54, 55, 56, 57] | 12 => [58, 59, 60] | 13 => [62, 63] | 14 => [64] | 16 => [68, 69, 70, 71, 72, 73, 74, 75, 76, 77] | 17 => [79, 80, 81, 82, 83, 84, 85, 86, 87, 88, 89, 90, 91, 92, 93, 94] | 15 => [66, 67] | 18 => [95, 96, 97] | 19 => [99, 100] | 20 => [101, 102] | 22 => [106, 107, 108, 109, 110, 111, 112, 113, 114, 115] | 23 => [117, 118, 119, 120, 121, 122, 123, 124, 125, 126, 127, 128, 129, 130, 131, 132] | 21 => [104, 105] | 4 => [15, 16] | _ => []
def c_slices_partialInsertionSortOrdered_string : RCode :=
 .seq (.ops [mv 6 (kb false)] [6])
 (.seq (.ops [mv 11 (t 1),
 ad 12 (t 11) (k 1),
 mv 7 (t 12)] [11, 12])
 (.seq (.seq (.ops [mv 8 (k 0)] [])
 (.block 0 (.loop (.seq (.seq (.ops [mv 13 (t 8),
  o 14 (.ibin .lss (t 13) (k 5))] [13])
  (.cond (t 14)
   (.skip)
   (.exit 0)))
  (.seq (.block 1 (.seq (.block 2 (.loop (.seq (.seq (.draw (.take (mv 17 (t 7)) (.take (mv 18 (t 2)) (.take (o 19 (.ibin .lss (t 17) (t 18))) (.take (os 20 (.mov (t 19))) (.take (gt 20 21 (.mov (t 0))) (.take (gt 20 22 (.mov (t 7))) (.take (gt 20 23 (.iaddr 1 (t 21) (t 22))) (.take (gt 20 24 (.load false 1 (t 23))) (.take (gt 20 25 (.mov (t 0))) (.take (gt 20 26 (.mov (t 7))) (.take (gt 20 27 (.ibin .sub (t 26) (k 1))) (.take (gt 20 28 (.iaddr 1 (t 25) (t 27))) (.take (gt 20 29 (.load false 1 (t 28))) (.alt (gt 20 30 (.call (fn F.cmp_Less_string) [(t 24), (t 29)])) false
    (.take (gt 20 31 (.not (t 30))) (.take (o 32 (.pick (t 20) (t 31) (kb false))) (.done)))
    (.none))))))))))))))) [17, 18, 19, 20, 21, 22, 23, 24, 25, 26, 27, 28, 29, 30, 31])
   (.cond (t 32)
    (.skip)
    (.exit 2)))
   (.block 3 (.ops [mv 33 (t 7),
   ad 34 (t 33) (k 1),
   mv 7 (t 34)] [33, 34])))))
  (.seq (.seq (.ops [mv 35 (t 7),
  mv 36 (t 2),
  o 37 (.ibin .eql (t 35) (t 36))] [35, 36])
  (.cond (t 37)
   (.seq (.ops [mv 6 (kb true)] [])
   (.ret))
   (.skip)))
  (.seq (.seq (.ops [mv 38 (t 2),
  mv 39 (t 1),
  o 40 (.ibin .sub (t 38) (t 39)),
  o 41 (.ibin .lss (t 40) (k 50))] [38, 39, 40])
  (.cond (t 41)
   (.seq (.ops [mv 6 (kb false)] [])
   (.ret))
   (.skip)))
  (.seq (.draw (.take (mv 42 (t 0)) (.take (mv 43 (t 7)) (.take (mv 44 (t 0)) (.take (mv 45 (t 7)) (.take (o 46 (.ibin .sub (t 45) (k 1))) (.take (mv 47 (t 0)) (.take (mv 48 (t 7)) (.take (o 49 (.ibin .sub (t 48) (k 1))) (.take (o 50 (.iaddr 1 (t 47) (t 49))) (.take (l1 51 (t 50)) (.take (mv 52 (t 0)) (.take (mv 53 (t 7)) (.take (o 54 (.iaddr 1 (t 52) (t 53))) (.take (l1 55 (t 54)) (.take (o 56 (.iaddr 1 (t 42) (t 43))) (.alt (st 1 (t 56) (t 51)) false
   (.take (o 57 (.iaddr 1 (t 44) (t 46))) (.alt (st 1 (t 57) (t 55)) false
    (.done)
    (.none)))
   (.none))))))))))))))))) [42, 43, 44, 45, 46, 47, 48, 49, 50, 51, 52, 53, 54, 55, 56, 57])
  (.seq (.seq (.ops [mv 58 (t 7),
  mv 59 (t 1),
  o 60 (.ibin .sub (t 58) (t 59)),
  o 61 (.ibin .geq (t 60) (k 2))] [58, 59, 60])
  (.cond (t 61)
   (.seq (.ops [mv 62 (t 7),
   o 63 (.ibin .sub (t 62) (k 1)),
   mv 9 (t 63)] [62, 63])
   (.block 4 (.loop (.seq (.seq (.ops [mv 64 (t 9),
    o 65 (.ibin .geq (t 64) (k 1))] [64])
    (.cond (t 65)
     (.skip)
     (.exit 4)))
    (.seq (.block 5 (.seq (.seq (.draw (.take (mv 68 (t 0)) (.take (mv 69 (t 9)) (.take (o 70 (.iaddr 1 (t 68) (t 69))) (.take (l1 71 (t 70)) (.take (mv 72 (t 0)) (.take (mv 73 (t 9)) (.take (o 74 (.ibin .sub (t 73) (k 1))) (.take (o 75 (.iaddr 1 (t 72) (t 74))) (.take (l1 76 (t 75)) (.alt (ca 77 F.cmp_Less_string [(t 71), (t 76)]) false
     (.take (o 78 (.not (t 77))) (.done))
     (.none))))))))))) [68, 69, 70, 71, 72, 73, 74, 75, 76, 77])
    (.cond (t 78)
     (.exit 4)
     (.skip)))
    (.draw (.take (mv 79 (t 0)) (.take (mv 80 (t 9)) (.take (mv 81 (t 0)) (.take (mv 82 (t 9)) (.take (o 83 (.ibin .sub (t 82) (k 1))) (.take (mv 84 (t 0)) (.take (mv 85 (t 9)) (.take (o 86 (.ibin .sub (t 85) (k 1))) (.take (o 87 (.iaddr 1 (t 84) (t 86))) (.take (l1 88 (t 87)) (.take (mv 89 (t 0)) (.take (mv 90 (t 9)) (.take (o 91 (.iaddr 1 (t 89) (t 90))) (.take (l1 92 (t 91)) (.take (o 93 (.iaddr 1 (t 79) (t 80))) (.alt (st 1 (t 93) (t 88)) false
     (.take (o 94 (.iaddr 1 (t 81) (t 83))) (.alt (st 1 (t 94) (t 92)) false
      (.done)
      (.none)))
     (.none))))))))))))))))) [79, 80, 81, 82, 83, 84, 85, 86, 87, 88, 89, 90, 91, 92, 93, 94])))
    (.ops [mv 66 (t 9),
    o 67 (.ibin .sub (t 66) (k 1)),
    mv 9 (t 67)] [66, 67]))))))
   (.skip)))
  (.seq (.ops [mv 95 (t 2),
  mv 96 (t 7),
  o 97 (.ibin .sub (t 95) (t 96)),
  o 98 (.ibin .geq (t 97) (k 2))] [95, 96, 97])
  (.cond (t 98)
   (.seq (.ops [mv 99 (t 7),
   ad 100 (t 99) (k 1),
   mv 10 (t 100)] [99, 100])
   (.block 6 (.loop (.seq (.seq (.ops [mv 101 (t 10),
    mv 102 (t 2),
    o 103 (.ibin .lss (t 101) (t 102))] [101, 102])
    (.cond (t 103)
     (.skip)
     (.exit 6)))
    (.seq (.block 7 (.seq (.seq (.draw (.take (mv 106 (t 0)) (.take (mv 107 (t 10)) (.take (o 108 (.iaddr 1 (t 106) (t 107))) (.take (l1 109 (t 108)) (.take (mv 110 (t 0)) (.take (mv 111 (t 10)) (.take (o 112 (.ibin .sub (t 111) (k 1))) (.take (o 113 (.iaddr 1 (t 110) (t 112))) (.take (l1 114 (t 113)) (.alt (ca 115 F.cmp_Less_string [(t 109), (t 114)]) false
     (.take (o 116 (.not (t 115))) (.done))
     (.none))))))))))) [106, 107, 108, 109, 110, 111, 112, 113, 114, 115])
    (.cond (t 116)
     (.exit 6)
     (.skip)))
    (.draw (.take (mv 117 (t 0)) (.take (mv 118 (t 10)) (.take (mv 119 (t 0)) (.take (mv 120 (t 10)) (.take (o 121 (.ibin .sub (t 120) (k 1))) (.take (mv 122 (t 0)) (.take (mv 123 (t 10)) (.take (o 124 (.ibin .sub (t 123) (k 1))) (.take (o 125 (.iaddr 1 (t 122) (t 124))) (.take (l1 126 (t 125)) (.take (mv 127 (t 0)) (.take (mv 128 (t 10)) (.take (o 129 (.iaddr 1 (t 127) (t 128))) (.take (l1 130 (t 129)) (.take (o 131 (.iaddr 1 (t 117) (t 118))) (.alt (st 1 (t 131) (t 126)) false
     (.take (o 132 (.iaddr 1 (t 119) (t 121))) (.alt (st 1 (t 132) (t 130)) false
      (.done)
      (.none)))
     (.none))))))))))))))))) [117, 118, 119, 120, 121, 122, 123, 124, 125, 126, 127, 128, 129, 130, 131, 132])))
    (.ops [mv 104 (t 10),
    ad 105 (t 104) (k 1),
    mv 10 (t 105)] [104, 105]))))))
   (.skip)))))))))
  (.ops [mv 15 (t 8),
  ad 16 (t 15) (k 1),
  mv 8 (t 16)] [15, 16]))))))
 (.seq (.ops [mv 6 (kb false)] [])
 (.ret))))
def r_slices_partialInsertionSortOrdered_string : List RRes := [.tmp 6]
theorem fo_slices_partialInsertionSortOrdered_string {args : List Value} {M : Mem} {R : Value → Mem → Prop} (hn : args.length ≤ 133) (h : vfn Try.prog c_slices_partialInsertionSortOrdered_string r_slices_partialInsertionSortOrdered_string args M R) : CallsM Try.prog F.slices_partialInsertionSortOrdered_string args M R :=
  fn_ok (kf := k_slices_partialInsertionSortOrdered_string) Try.func60 (by kernel_rfl) (by kernel_rfl) hn (by kernel_rfl) h
/-- cmp.Less[string] -/
def k_cmp_Less_string (i : Nat) : List Nat := match i with | 0 => [4] | 1 => [0, 1, 5, 6, 7, 8, 9, 10, 11, 12, 13, 14, 15, 16] | _ => []
def c_cmp_Less_string : RCode :=
 .seq (.ops [mv 4 (kb false)] [4])
 (.seq (.ops [mv 5 (t 0),
 ca 6 F.cmp_isNaN_string [(t 5)],
 os 7 (.mov (t 6)),
 gt 7 8 (.mov (t 1)),
 gt 7 9 (.call (fn F.cmp_isNaN_string) [(t 8)]),
 gt 7 10 (.not (t 9)),
 o 11 (.pick (t 7) (t 10) (kb false)),
 os 12 (.mov (t 11)),
 gf 12 13 (.mov (t 0)),
 gf 12 14 (.mov (t 1)),
 gf 12 15 (.strE .lss (t 13) (t 14)),
 o 16 (.pick (t 12) (kb true) (t 15)),
 mv 4 (t 16)] [0, 1, 5, 6, 7, 8, 9, 10, 11, 12, 13, 14, 15, 16])
 (.ret))
def r_cmp_Less_string : List RRes := [.tmp 4]
theorem fo_cmp_Less_string {args : List Value} {M : Mem} {R : Value → Mem → Prop} (hn : args.length ≤ 17) (h : vfn Try.prog c_cmp_Less_string r_cmp_Less_string args M R) : CallsM Try.prog F.cmp_Less_string args M R :=
  fn_ok (kf := k_cmp_Less_string) Try.func61 (by kernel_rfl) (by kernel_rfl) hn (by kernel_rfl) h
/-- slices.partitionEqualOrdered[string] -/
def k_slices_partitionEqualOrdered_string (i : Nat) : List Nat := match i with | 0 => [8] | 1 => [3, 11, 12, 13, 14, 15, 16, 17, 18, 19, 20, 21, 22, 23, 24] | 2 => [2, 25, 26, 27, 28] | 3 => [29, 30, 31, 32, 33, 34, 35, 36, 37, 38, 39, 40, 41, 42] | 4 => [44, 45] | 5 => [46, 47, 48, 49, 50, 51, 52, 53, 54, 55, 56, 57, 58] | 6 => [60, 61] | 7 => [62, 63] | 8 => [65, 66, 67, 68, 69, 70, 71, 72, 73, 74, 75, 76, 77, 78] | 9 => [79, 80] | 10 => [81, 82] | 11 => [9, 83] | _ => []
def c_slices_partitionEqualOrdered_string : RCode :=
 .seq (.ops [mv 8 (k 0)] [8])
 (.seq (.draw (.take (mv 11 (t 0)) (.take (mv 12 (t 1)) (.take (mv 13 (t 0)) (.take (mv 14 (t 3)) (.take (mv 15 (t 0)) (.take (mv 16 (t 3)) (.take (o 17 (.iaddr 1 (t 15) (t 16))) (.take (l1 18 (t 17)) (.take (mv 19 (t 0)) (.take (mv 20 (t 1)) (.take (o 21 (.iaddr 1 (t 19) (t 20))) (.take (l1 22 (t 21)) (.take (o 23 (.iaddr 1 (t 11) (t 12))) (.alt (st 1 (t 23) (t 18)) false
  (.take (o 24 (.iaddr 1 (t 13) (t 14))) (.alt (st 1 (t 24) (t 22)) false
   (.done)
   (.none)))
  (.none))))))))))))))) [3, 11, 12, 13, 14, 15, 16, 17, 18, 19, 20, 21, 22, 23, 24])
 (.seq (.ops [mv 25 (t 1),
 ad 26 (t 25) (k 1),
 mv 27 (t 2),
 o 28 (.ibin .sub (t 27) (k 1)),
 mv 9 (t 26),
 mv 10 (t 28)] [2, 25, 26, 27, 28])
 (.seq (.block 0 (.loop (.block 1 (.seq (.block 2 (.loop (.seq (.seq (.draw (.take (mv 29 (t 9)) (.take (mv 30 (t 10)) (.take (o 31 (.ibin .leq (t 29) (t 30))) (.take (os 32 (.mov (t 31))) (.take (gt 32 33 (.mov (t 0))) (.take (gt 32 34 (.mov (t 1))) (.take (gt 32 35 (.iaddr 1 (t 33) (t 34))) (.take (gt 32 36 (.load false 1 (t 35))) (.take (gt 32 37 (.mov (t 0))) (.take (gt 32 38 (.mov (t 9))) (.take (gt 32 39 (.iaddr 1 (t 37) (t 38))) (.take (gt 32 40 (.load false 1 (t 39))) (.alt (gt 32 41 (.call (fn F.cmp_Less_string) [(t 36), (t 40)])) false
    (.take (gt 32 42 (.not (t 41))) (.take (o 43 (.pick (t 32) (t 42) (kb false))) (.done)))
    (.none)))))))))))))) [29, 30, 31, 32, 33, 34, 35, 36, 37, 38, 39, 40, 41, 42])
   (.cond (t 43)
    (.skip)
    (.exit 2)))
   (.block 3 (.ops [mv 44 (t 9),
   ad 45 (t 44) (k 1),
   mv 9 (t 45)] [44, 45])))))
  (.seq (.block 4 (.loop (.seq (.seq (.draw (.take (mv 46 (t 9)) (.take (mv 47 (t 10)) (.take (o 48 (.ibin .leq (t 46) (t 47))) (.take (os 49 (.mov (t 48))) (.take (gt 49 50 (.mov (t 0))) (.take (gt 49 51 (.mov (t 1))) (.take (gt 49 52 (.iaddr 1 (t 50) (t 51))) (.take (gt 49 53 (.load false 1 (t 52))) (.take (gt 49 54 (.mov (t 0))) (.take (gt 49 55 (.mov (t 10))) (.take (gt 49 56 (.iaddr 1 (t 54) (t 55))) (.take (gt 49 57 (.load false 1 (t 56))) (.alt (gt 49 58 (.call (fn F.cmp_Less_string) [(t 53), (t 57)])) false
    (.take (o 59 (.pick (t 49) (t 58) (kb false))) (.done))
    (.none)))))))))))))) [46, 47, 48, 49, 50, 51, 52, 53, 54, 55, 56, 57, 58])
   (.cond (t 59)
    (.skip)
    (.exit 4)))
   (.block 5 (.ops [mv 60 (t 10),
   o 61 (.ibin .sub (t 60) (k 1)),
   mv 10 (t 61)] [60, 61])))))
  (.seq (.seq (.ops [mv 62 (t 9),
  mv 63 (t 10),
  o 64 (.ibin .gtr (t 62) (t 63))] [62, 63])
  (.cond (t 64)
   (.exit 0)
   (.skip)))
  (.seq (.draw (.take (mv 65 (t 0)) (.take (mv 66 (t 9)) (.take (mv 67 (t 0)) (.take (mv 68 (t 10)) (.take (mv 69 (t 0)) (.take (mv 70 (t 10)) (.take (o 71 (.iaddr 1 (t 69) (t 70))) (.take (l1 72 (t 71)) (.take (mv 73 (t 0)) (.take (mv 74 (t 9)) (.take (o 75 (.iaddr 1 (t 73) (t 74))) (.take (l1 76 (t 75)) (.take (o 77 (.iaddr 1 (t 65) (t 66))) (.alt (st 1 (t 77) (t 72)) false
   (.take (o 78 (.iaddr 1 (t 67) (t 68))) (.alt (st 1 (t 78) (t 76)) false
    (.done)
    (.none)))
   (.none))))))))))))))) [65, 66, 67, 68, 69, 70, 71, 72, 73, 74, 75, 76, 77, 78])
  (.seq (.ops [mv 79 (t 9),
  ad 80 (t 79) (k 1),
  mv 9 (t 80)] [79, 80])
  (.ops [mv 81 (t 10),
  o 82 (.ibin .sub (t 81) (k 1)),
  mv 10 (t 82)] [81, 82])))))))))
 (.seq (.ops [mv 83 (t 9),
 mv 8 (t 83)] [9, 83])
 (.ret)))))
def r_slices_partitionEqualOrdered_string : List RRes := [.tmp 8]
theorem fo_slices_partitionEqualOrdered_string {args : List Value} {M : Mem} {R : Value → Mem → Prop} (hn : args.length ≤ 84) (h : vfn Try.prog c_slices_partitionEqualOrdered_string r_slices_partitionEqualOrdered_string args M R) : CallsM Try.prog F.slices_partitionEqualOrdered_string args M R :=
  fn_ok (kf := k_slices_partitionEqualOrdered_string) Try.func62 (by kernel_rfl) (by kernel_rfl) hn (by kernel_rfl) h
/-- slices.partitionOrdered[string] -/
def k_slices_partitionOrdered_string (i : Nat) : List Nat := match i with | 0 => [8, 9] | 1 => [3, 12, 13, 14, 15, 16, 17, 18, 19, 20, 21, 22, 23, 24, 25] | 2 => [2, 26, 27, 28, 29] | 3 => [30, 31, 32, 33, 34, 35, 36, 37, 38, 39, 40, 41, 42] | 4 => [44, 45] | 5 => [46, 47, 48, 49, 50, 51, 52, 53, 54, 55, 56, 57, 58, 59] | 6 => [61, 62] | 7 => [63, 64] | 8 => [0, 1, 66, 67, 68, 69, 70, 71, 72, 73, 74, 75, 76, 77, 78, 79] | 9 => [11, 80] | 10 => [81, 82, 83, 84, 85, 86, 87, 88, 89, 90, 91, 92, 93, 94] | 11 => [95, 96] | 12 => [97, 98] | 13 => [99, 100, 101, 102, 103, 104, 105, 106, 107, 108, 109, 110, 111] | 14 => [113, 114] | 15 => [115, 116, 117, 118, 119, 120, 121, 122, 123, 124, 125, 126, 127, 128] | 16 => [130, 131] | 17 => [132, 133] | 18 => [135, 136, 137, 138, 139, 140, 141, 142, 143, 144, 145, 146, 147, 148] | 19 => [149, 150] | 20 => [151, 152] | 21 => [0, 1, 153, 154, 155, 156, 157, 158, 159, 160, 161, 162, 163, 164, 165, 166] | 22 => [11, 167] | _ => []
def c_slices_partitionOrdered_string : RCode :=
 .seq (.ops [mv 8 (k 0),
 mv 9 (kb false)] [8, 9])
 (.seq (.draw (.take (mv 12 (t 0)) (.take (mv 13 (t 1)) (.take (mv 14 (t 0)) (.take (mv 15 (t 3)) (.take (mv 16 (t 0)) (.take (mv 17 (t 3)) (.take (o 18 (.iaddr 1 (t 16) (t 17))) (.take (l1 19 (t 18)) (.take (mv 20 (t 0)) (.take (mv 21 (t 1)) (.take (o 22 (.iaddr 1 (t 20) (t 21))) (.take (l1 23 (t 22)) (.take (o 24 (.iaddr 1 (t 12) (t 13))) (.alt (st 1 (t 24) (t 19)) false
  (.take (o 25 (.iaddr 1 (t 14) (t 15))) (.alt (st 1 (t 25) (t 23)) false
   (.done)
   (.none)))
  (.none))))))))))))))) [3, 12, 13, 14, 15, 16, 17, 18, 19, 20, 21, 22, 23, 24, 25])
 (.seq (.ops [mv 26 (t 1),
 ad 27 (t 26) (k 1),
 mv 28 (t 2),
 o 29 (.ibin .sub (t 28) (k 1)),
 mv 10 (t 27),
 mv 11 (t 29)] [2, 26, 27, 28, 29])
 (.seq (.block 0 (.loop (.seq (.seq (.draw (.take (mv 30 (t 10)) (.take (mv 31 (t 11)) (.take (o 32 (.ibin .leq (t 30) (t 31))) (.take (os 33 (.mov (t 32))) (.take (gt 33 34 (.mov (t 0))) (.take (gt 33 35 (.mov (t 10))) (.take (gt 33 36 (.iaddr 1 (t 34) (t 35))) (.take (gt 33 37 (.load false 1 (t 36))) (.take (gt 33 38 (.mov (t 0))) (.take (gt 33 39 (.mov (t 1))) (.take (gt 33 40 (.iaddr 1 (t 38) (t 39))) (.take (gt 33 41 (.load false 1 (t 40))) (.alt (gt 33 42 (.call (fn F.cmp_Less_string) [(t 37), (t 41)])) false
   (.take (o 43 (.pick (t 33) (t 42) (kb false))) (.done))
   (.none)))))))))))))) [30, 31, 32, 33, 34, 35, 36, 37, 38, 39, 40, 41, 42])
  (.cond (t 43)
   (.skip)
   (.exit 0)))
  (.block 1 (.ops [mv 44 (t 10),
  ad 45 (t 44) (k 1),
  mv 10 (t 45)] [44, 45])))))
 (.seq (.block 2 (.loop (.seq (.seq (.draw (.take (mv 46 (t 10)) (.take (mv 47 (t 11)) (.take (o 48 (.ibin .leq (t 46) (t 47))) (.take (os 49 (.mov (t 48))) (.take (gt 49 50 (.mov (t 0))) (.take (gt 49 51 (.mov (t 11))) (.take (gt 49 52 (.iaddr 1 (t 50) (t 51))) (.take (gt 49 53 (.load false 1 (t 52))) (.take (gt 49 54 (.mov (t 0))) (.take (gt 49 55 (.mov (t 1))) (.take (gt 49 56 (.iaddr 1 (t 54) (t 55))) (.take (gt 49 57 (.load false 1 (t 56))) (.alt (gt 49 58 (.call (fn F.cmp_Less_string) [(t 53), (t 57)])) false
   (.take (gt 49 59 (.not (t 58))) (.take (o 60 (.pick (t 49) (t 59) (kb false))) (.done)))
   (.none)))))))))))))) [46, 47, 48, 49, 50, 51, 52, 53, 54, 55, 56, 57, 58, 59])
  (.cond (t 60)
   (.skip)
   (.exit 2)))
  (.block 3 (.ops [mv 61 (t 11),
  o 62 (.ibin .sub (t 61) (k 1)),
  mv 11 (t 62)] [61, 62])))))
 (.seq (.seq (.ops [mv 63 (t 10),
 mv 64 (t 11),
 o 65 (.ibin .gtr (t 63) (t 64))] [63, 64])
 (.cond (t 65)
  (.seq (.draw (.take (mv 66 (t 0)) (.take (mv 67 (t 11)) (.take (mv 68 (t 0)) (.take (mv 69 (t 1)) (.take (mv 70 (t 0)) (.take (mv 71 (t 1)) (.take (o 72 (.iaddr 1 (t 70) (t 71))) (.take (l1 73 (t 72)) (.take (mv 74 (t 0)) (.take (mv 75 (t 11)) (.take (o 76 (.iaddr 1 (t 74) (t 75))) (.take (l1 77 (t 76)) (.take (o 78 (.iaddr 1 (t 66) (t 67))) (.alt (st 1 (t 78) (t 73)) false
   (.take (o 79 (.iaddr 1 (t 68) (t 69))) (.alt (st 1 (t 79) (t 77)) false
    (.done)
    (.none)))
   (.none))))))))))))))) [0, 1, 66, 67, 68, 69, 70, 71, 72, 73, 74, 75, 76, 77, 78, 79])
  (.seq (.ops [mv 80 (t 11),
  mv 8 (t 80),
  mv 9 (kb true)] [11, 80])
  (.ret)))
  (.skip)))
 (.seq (.draw (.take (mv 81 (t 0)) (.take (mv 82 (t 10)) (.take (mv 83 (t 0)) (.take (mv 84 (t 11)) (.take (mv 85 (t 0)) (.take (mv 86 (t 11)) (.take (o 87 (.iaddr 1 (t 85) (t 86))) (.take (l1 88 (t 87)) (.take (mv 89 (t 0)) (.take (mv 90 (t 10)) (.take (o 91 (.iaddr 1 (t 89) (t 90))) (.take (l1 92 (t 91)) (.take (o 93 (.iaddr 1 (t 81) (t 82))) (.alt (st 1 (t 93) (t 88)) false
  (.take (o 94 (.iaddr 1 (t 83) (t 84))) (.alt (st 1 (t 94) (t 92)) false
   (.done)
   (.none)))
  (.none))))))))))))))) [81, 82, 83, 84, 85, 86, 87, 88, 89, 90, 91, 92, 93, 94])
 (.seq (.ops [mv 95 (t 10),
 ad 96 (t 95) (k 1),
 mv 10 (t 96)] [95, 96])
 (.seq (.ops [mv 97 (t 11),
 o 98 (.ibin .sub (t 97) (k 1)),
 mv 11 (t 98)] [97, 98])
 (.seq (.block 4 (.loop (.block 5 (.seq (.block 6 (.loop (.seq (.seq (.draw (.take (mv 99 (t 10)) (.take (mv 100 (t 11)) (.take (o 101 (.ibin .leq (t 99) (t 100))) (.take (os 102 (.mov (t 101))) (.take (gt 102 103 (.mov (t 0))) (.take (gt 102 104 (.mov (t 10))) (.take (gt 102 105 (.iaddr 1 (t 103) (t 104))) (.take (gt 102 106 (.load false 1 (t 105))) (.take (gt 102 107 (.mov (t 0))) (.take (gt 102 108 (.mov (t 1))) (.take (gt 102 109 (.iaddr 1 (t 107) (t 108))) (.take (gt 102 110 (.load false 1 (t 109))) (.alt (gt 102 111 (.call (fn F.cmp_Less_string) [(t 106), (t 110)])) false
    (.take (o 112 (.pick (t 102) (t 111) (kb false))) (.done))
    (.none)))))))))))))) [99, 100, 101, 102, 103, 104, 105, 106, 107, 108, 109, 110, 111])
   (.cond (t 112)
    (.skip)
    (.exit 6)))
   (.block 7 (.ops [mv 113 (t 10),
   ad 114 (t 113) (k 1),
   mv 10 (t 114)] [113, 114])))))
  (.seq (.block 8 (.loop (.seq (.seq (.draw (.take (mv 115 (t 10)) (.take (mv 116 (t 11)) (.take (o 117 (.ibin .leq (t 115) (t 116))) (.take (os 118 (.mov (t 117))) (.take (gt 118 119 (.mov (t 0))) (.take (gt 118 120 (.mov (t 11))) (.take (gt 118 121 (.iaddr 1 (t 119) (t 120))) (.take (gt 118 122 (.load false 1 (t 121))) (.take (gt 118 123 (.mov (t 0))) (.take (gt 118 124 (.mov (t 1))) (.take (gt 118 125 (.iaddr 1 (t 123) (t 124))) (.take (gt 118 126 (.load false 1 (t 125))) (.alt (gt 118 127 (.call (fn F.cmp_Less_string) [(t 122), (t 126)])) false
    (.take (gt 118 128 (.not (t 127))) (.take (o 129 (.pick (t 118) (t 128) (kb false))) (.done)))
    (.none)))))))))))))) [115, 116, 117, 118, 119, 120, 121, 122, 123, 124, 125, 126, 127, 128])
   (.cond (t 129)
    (.skip)
    (.exit 8)))
   (.block 9 (.ops [mv 130 (t 11),
   o 131 (.ibin .sub (t 130) (k 1)),
   mv 11 (t 131)] [130, 131])))))
  (.seq (.seq (.ops [mv 132 (t 10),
  mv 133 (t 11),
  o 134 (.ibin .gtr (t 132) (t 133))] [132, 133])
  (.cond (t 134)
   (.exit 4)
   (.skip)))
  (.seq (.draw (.take (mv 135 (t 0)) (.take (mv 136 (t 10)) (.take (mv 137 (t 0)) (.take (mv 138 (t 11)) (.take (mv 139 (t 0)) (.take (mv 140 (t 11)) (.take (o 141 (.iaddr 1 (t 139) (t 140))) (.take (l1 142 (t 141)) (.take (mv 143 (t 0)) (.take (mv 144 (t 10)) (.take (o 145 (.iaddr 1 (t 143) (t 144))) (.take (l1 146 (t 145)) (.take (o 147 (.iaddr 1 (t 135) (t 136))) (.alt (st 1 (t 147) (t 142)) false
   (.take (o 148 (.iaddr 1 (t 137) (t 138))) (.alt (st 1 (t 148) (t 146)) false
    (.done)
    (.none)))
   (.none))))))))))))))) [135, 136, 137, 138, 139, 140, 141, 142, 143, 144, 145, 146, 147, 148])
  (.seq (.ops [mv 149 (t 10),
  ad 150 (t 149) (k 1),
  mv 10 (t 150)] [149, 150])
  (.ops [mv 151 (t 11),
  o 152 (.ibin .sub (t 151) (k 1)),
  mv 11 (t 152)] [151, 152])))))))))
 (.seq (.draw (.take (mv 153 (t 0)) (.take (mv 154 (t 11)) (.take (mv 155 (t 0)) (.take (mv 156 (t 1)) (.take (mv 157 (t 0)) (.take (mv 158 (t 1)) (.take (o 159 (.iaddr 1 (t 157) (t 158))) (.take (l1 160 (t 159)) (.take (mv 161 (t 0)) (.take (mv 162 (t 11)) (.take (o 163 (.iaddr 1 (t 161) (t 162))) (.take (l1 164 (t 163)) (.take (o 165 (.iaddr 1 (t 153) (t 154))) (.alt (st 1 (t 165) (t 160)) false
  (.take (o 166 (.iaddr 1 (t 155) (t 156))) (.alt (st 1 (t 166) (t 164)) false
   (.done)
   (.none)))
  (.none))))))))))))))) [0, 1, 153, 154, 155, 156, 157, 158, 159, 160, 161, 162, 163, 164, 165, 166])
 (.seq (.ops [mv 167 (t 11),
 mv 8 (t 167),
 mv 9 (kb false)] [11, 167])
 (.ret))))))))))))
def r_slices_partitionOrdered_string : List RRes := [.tmp 8, .tmp 9]
theorem fo_slices_partitionOrdered_string {args : List Value} {M : Mem} {R : Value → Mem → Prop} (hn : args.length ≤ 168) (h : vfn Try.prog c_slices_partitionOrdered_string r_slices_partitionOrdered_string args M R) : CallsM Try.prog F.slices_partitionOrdered_string args M R :=
  fn_ok (kf := k_slices_partitionOrdered_string) Try.func63 (by kernel_rfl) (by kernel_rfl) hn (by kernel_rfl) h
/-- math/bits.Len32 -/
def k_math_bits_Len32 (i : Nat) : List Nat := match i with | 1 => [3] | 2 => [5, 6] | 4 => [7] | 5 => [9, 10] | 6 => [11, 12] | 7 => [0, 13, 14, 15, 16, 17, 18] | _ => []
def c_math_bits_Len32 : RCode :=
 .seq (.ops [mv 2 (k 0)] [])
 (.seq (.seq (.ops [mv 3 (t 0),
 o 4 (.ibin .geq (t 3) (.const (.int .u32 65536)))] [3])
 (.cond (t 4)
  (.seq (.ops [mv 5 (t 0),
  o 6 (.ibin .shr (t 5) (.const (.int .u64 16))),
  mv 0 (t 6)] [5, 6])
  (.ops [mv 2 (k 16)] []))
  (.skip)))
 (.seq (.seq (.ops [mv 7 (t 0),
 o 8 (.ibin .geq (t 7) (.const (.int .u32 256)))] [7])
 (.cond (t 8)
  (.seq (.ops [mv 9 (t 0),
  o 10 (.ibin .shr (t 9) (.const (.int .u64 8))),
  mv 0 (t 10)] [9, 10])
  (.ops [mv 11 (t 2),
  ad 12 (t 11) (k 8),
  mv 2 (t 12)] [11, 12]))
  (.skip)))
 (.seq (.ops [mv 13 (t 2),
 mv 14 (t 0),
 o 15 (.conv .u8 (t 14)),
 o 16 (.sidx (.const (.string ⟨#[0, 1, 2, 2, 3, 3, 3, 3, 4, 4, 4, 4, 4, 4, 4, 4, 5, 5, 5, 5, 5, 5, 5, 5, 5, 5, 5, 5, 5, 5, 5, 5, 6, 6, 6, 6, 6, 6, 6, 6, 6, 6, 6, 6, 6, 6, 6, 6, 6, 6, 6, 6, 6, 6, 6, 6, 6, 6, 6, 6, 6, 6, 6, 6, 7, 7, 7, 7, 7, 7, 7, 7, 7, 7, 7, 7, 7, 7, 7, 7, 7, 7, 7, 7, 7, 7, 7, 7, 7, 7, 7, 7, 7, 7, 7, 7, 7, 7, 7, 7, 7, 7, 7, 7, 7, 7, 7, 7, 7, 7, 7, 7, 7, 7, 7, 7, 7, 7, 7, 7, 7, 7, 7, 7, 7, 7, 7, 7, 8, 8, 8, 8, 8, 8, 8, 8, 8, 8, 8, 8, 8, 8, 8, 8, 8, 8, 8, 8, 8, 8, 8, 8, 8, 8, 8, 8, 8, 8, 8, 8, 8, 8, 8, 8, 8, 8, 8, 8, 8, 8, 8, 8, 8, 8, 8, 8, 8, 8, 8, 8, 8, 8, 8, 8, 8, 8, 8, 8, 8, 8, 8, 8, 8, 8, 8, 8, 8, 8, 8, 8, 8, 8, 8, 8, 8, 8, 8, 8, 8, 8, 8, 8, 8, 8, 8, 8, 8, 8, 8, 8, 8, 8, 8, 8, 8, 8, 8, 8, 8, 8, 8, 8, 8, 8, 8, 8, 8, 8, 8, 8, 8, 8, 8, 8, 8, 8, 8, 8, 8, 8, 8, 8, 8, 8, 8, 8]⟩)) (t 15)),
 o 17 (.conv .i64 (t 16)),
 ad 18 (t 13) (t 17),
 mv 2 (t 18)] [0, 13, 14, 15, 16, 17, 18])
 (.ret))))
def r_math_bits_Len32 : List RRes := [.tmp 2]
theorem fo_math_bits_Len32 {args : List Value} {M : Mem} {R : Value → Mem → Prop} (hn : args.length ≤ 19) (h : vfn Try.prog c_math_bits_Len32 r_math_bits_Len32 args M R) : CallsM Try.prog F.math_bits_Len32 args M R :=
  fn_ok (kf := k_math_bits_Len32) Try.func64 (by kernel_rfl) (by kernel_rfl) hn (by kernel_rfl) h
/-- math/bits.Len64 -/
def k_math_bits_Len64 (i : Nat) : List Nat := match i with | 1 => [3] | 2 => [5, 6] | 4 => [7] | 5 => [9, 10] | 6 => [11, 12] | 7 => [13] | 8 => [15, 16] | 9 => [17, 18] | 10 => [0, 19, 20, 21, 22, 23, 24] | _ => []
def c_math_bits_Len64 : RCode :=
 .seq (.ops [mv 2 (k 0)] [])
 (.seq (.seq (.ops [mv 3 (t 0),
 o 4 (.ibin .geq (t 3) (.const (.int .u64 4294967296)))] [3])
 (.cond (t 4)
  (.seq (.ops [mv 5 (t 0),
  o 6 (.ibin .shr (t 5) (.const (.int .u64 32))),
  mv 0 (t 6)] [5, 6])
  (.ops [mv 2 (k 32)] []))
  (.skip)))
 (.seq (.seq (.ops [mv 7 (t 0),
 o 8 (.ibin .geq (t 7) (.const (.int .u64 65536)))] [7])
 (.cond (t 8)
  (.seq (.ops [mv 9 (t 0),
  o 10 (.ibin .shr (t 9) (.const (.int .u64 16))),
  mv 0 (t 10)] [9, 10])
  (.ops [mv 11 (t 2),
  ad 12 (t 11) (k 16),
  mv 2 (t 12)] [11, 12]))
  (.skip)))
 (.seq (.seq (.ops [mv 13 (t 0),
 o 14 (.ibin .geq (t 13) (.const (.int .u64 256)))] [13])
 (.cond (t 14)
  (.seq (.ops [mv 15 (t 0),
  o 16 (.ibin .shr (t 15) (.const (.int .u64 8))),
  mv 0 (t 16)] [15, 16])
  (.ops [mv 17 (t 2),
  ad 18 (t 17) (k 8),
  mv 2 (t 18)] [17, 18]))
  (.skip)))
 (.seq (.ops [mv 19 (t 2),
 mv 20 (t 0),
 o 21 (.conv .u8 (t 20)),
 o 22 (.sidx (.const (.string ⟨#[0, 1, 2, 2, 3, 3, 3, 3, 4, 4, 4, 4, 4, 4, 4, 4, 5, 5, 5, 5, 5, 5, 5, 5, 5, 5, 5, 5, 5, 5, 5, 5, 6, 6, 6, 6, 6, 6, 6, 6, 6, 6, 6, 6, 6, 6, 6, 6, 6, 6, 6, 6, 6, 6, 6, 6, 6, 6, 6, 6, 6, 6, 6, 6, 7, 7, 7, 7, 7, 7, 7, 7, 7, 7, 7, 7, 7, 7, 7, 7, 7, 7, 7, 7, 7, 7, 7, 7, 7, 7, 7, 7, 7, 7, 7, 7, 7, 7, 7, 7, 7, 7, 7, 7, 7, 7, 7, 7, 7, 7, 7, 7, 7, 7, 7, 7, 7, 7, 7, 7, 7, 7, 7, 7, 7, 7, 7, 7, 8, 8, 8, 8, 8, 8, 8, 8, 8, 8, 8, 8, 8, 8, 8, 8, 8, 8, 8, 8, 8, 8, 8, 8, 8, 8, 8, 8, 8, 8, 8, 8, 8, 8, 8, 8, 8, 8, 8, 8, 8, 8, 8, 8, 8, 8, 8, 8, 8, 8, 8, 8, 8, 8, 8, 8, 8, 8, 8, 8, 8, 8, 8, 8, 8, 8, 8, 8, 8, 8, 8, 8, 8, 8, 8, 8, 8, 8, 8, 8, 8, 8, 8, 8, 8, 8, 8, 8, 8, 8, 8, 8, 8, 8, 8, 8, 8, 8, 8, 8, 8, 8, 8, 8, 8, 8, 8, 8, 8, 8, 8, 8, 8, 8, 8, 8, 8, 8, 8, 8, 8, 8, 8, 8, 8, 8, 8, 8]⟩)) (t 21)),
 o 23 (.conv .i64 (t 22)),
 ad 24 (t 19) (t 23),
 mv 2 (t 24)] [0, 19, 20, 21, 22, 23, 24])
 (.ret)))))
def r_math_bits_Len64 : List RRes := [.tmp 2]
theorem fo_math_bits_Len64 {args : List Value} {M : Mem} {R : Value → Mem → Prop} (hn : args.length ≤ 25) (h : vfn Try.prog c_math_bits_Len64 r_math_bits_Len64 args M R) : CallsM Try.prog F.math_bits_Len64 args M R :=
  fn_ok (kf := k_math_bits_Len64) Try.func65 (by kernel_rfl) (by kernel_rfl) hn (by kernel_rfl) h
/-- portage/portageref10.Name -/
def k_ref10_Name (i : Nat) : List Nat := match i with | 0 => [2] | 1 => [6, 7, 8, 9, 10, 11, 12] | 4 => [14, 15, 16] | 6 => [20, 21, 22, 23, 24, 25, 26, 27, 28, 29] | 7 => [30, 31, 32, 33, 34, 35, 36, 37, 38, 39] | 8 => [4, 5, 40, 41, 42, 43, 44, 45, 46, 47, 48, 49, 50] | 5 => [18, 19] | _ => []
def c_ref10_Name : RCode :=
 .seq (.ops [mv 2 (kb false)] [2])
 (.seq (.seq (.ops [mv 6 (t 0),
 o 7 (.lenS (t 6)),
 o 8 (.ibin .lss (t 7) (k 1)),
 os 9 (.mov (t 8)),
 gf 9 10 (.mov (t 0)),
 gf 9 11 (.lenS (t 10)),
 gf 9 12 (.ibin .gtr (t 11) (k 12)),
 o 13 (.pick (t 9) (kb true) (t 12))] [6, 7, 8, 9, 10, 11, 12])
 (.cond (t 13)
  (.seq (.ops [mv 2 (kb false)] [])
  (.ret))
  (.skip)))
 (.seq (.seq (.ops [mv 3 (k 0)] [])
 (.block 0 (.loop (.seq (.seq (.ops [mv 14 (t 3),
  mv 15 (t 0),
  o 16 (.lenS (t 15)),
  o 17 (.ibin .lss (t 14) (t 16))] [14, 15, 16])
  (.cond (t 17)
   (.skip)
   (.exit 0)))
  (.seq (.block 1 (.seq (.ops [mv 20 (t 0),
  mv 21 (t 3),
  o 22 (.sidx (t 20) (t 21)),
  o 23 (.ibin .geq (t 22) (.const (u 97))),
  os 24 (.mov (t 23)),
  gt 24 25 (.mov (t 0)),
  gt 24 26 (.mov (t 3)),
  gt 24 27 (.sidx (t 25) (t 26)),
  gt 24 28 (.ibin .leq (t 27) (.const (u 122))),
  o 29 (.pick (t 24) (t 28) (kb false)),
  mv 4 (t 29)] [20, 21, 22, 23, 24, 25, 26, 27, 28, 29])
  (.seq (.ops [mv 30 (t 0),
  mv 31 (t 3),
  o 32 (.sidx (t 30) (t 31)),
  o 33 (.ibin .geq (t 32) (.const (u 48))),
  os 34 (.mov (t 33)),
  gt 34 35 (.mov (t 0)),
  gt 34 36 (.mov (t 3)),
  gt 34 37 (.sidx (t 35) (t 36)),
  gt 34 38 (.ibin .leq (t 37) (.const (u 57))),
  o 39 (.pick (t 34) (t 38) (kb false)),
  mv 5 (t 39)] [30, 31, 32, 33, 34, 35, 36, 37, 38, 39])
  (.seq (.ops [mv 40 (t 4),
  o 41 (.not (t 40)),
  os 42 (.mov (t 41)),
  gt 42 43 (.mov (t 5)),
  gt 42 44 (.not (t 43)),
  o 45 (.pick (t 42) (t 44) (kb false)),
  os 46 (.mov (t 45)),
  gt 46 47 (.mov (t 0)),
  gt 46 48 (.mov (t 3)),
  gt 46 49 (.sidx (t 47) (t 48)),
  gt 46 50 (.ibin .neq (t 49) (.const (u 46))),
  o 51 (.pick (t 46) (t 50) (kb false))] [4, 5, 40, 41, 42, 43, 44, 45, 46, 47, 48, 49, 50])
  (.cond (t 51)
   (.seq (.ops [mv 2 (kb false)] [])
   (.ret))
   (.skip))))))
  (.ops [mv 18 (t 3),
  ad 19 (t 18) (k 1),
  mv 3 (t 19)] [18, 19]))))))
 (.seq (.ops [mv 2 (kb true)] [])
 (.ret))))
def r_ref10_Name : List RRes := [.tmp 2]
theorem fo_ref10_Name {args : List Value} {M : Mem} {R : Value → Mem → Prop} (hn : args.length ≤ 52) (h : vfn Try.prog c_ref10_Name r_ref10_Name args M R) : CallsM Try.prog F.ref10_Name args M R :=
  fn_ok (kf := k_ref10_Name) Try.func66 (by kernel_rfl) (by kernel_rfl) hn (by kernel_rfl) h
/-- slices.siftDownOrdered[string] -/
def k_slices_siftDownOrdered_string (i : Nat) : List Nat := match i with | 0 => [1, 10] | 1 => [11, 12, 13] | 2 => [14, 15] | 3 => [17, 18, 19, 20, 21, 22, 23, 24, 25, 26, 27, 28, 29, 30, 31, 32, 33, 34, 35] | 4 => [37, 38] | 5 => [39, 40, 41, 42, 43, 44, 45, 46, 47, 48, 49, 50, 51] | 6 => [8, 53, 54, 55, 56, 57, 58, 59, 60, 61, 62, 63, 64, 65, 66, 67, 68, 69, 70, 71, 72, 73, 74] | 7 => [9, 75] | _ => []
def c_slices_siftDownOrdered_string : RCode :=
 .seq (.ops [mv 10 (t 1),
 mv 8 (t 10)] [1, 10])
 (.block 0 (.loop (.block 1 (.seq (.ops [mv 11 (t 8),
  o 12 (.ibin .mul (k 2) (t 11)),
  ad 13 (t 12) (k 1),
  mv 9 (t 13)] [11, 12, 13])
  (.seq (.seq (.ops [mv 14 (t 9),
  mv 15 (t 2),
  o 16 (.ibin .geq (t 14) (t 15))] [14, 15])
  (.cond (t 16)
   (.exit 0)
   (.skip)))
  (.seq (.seq (.draw (.take (mv 17 (t 9)) (.take (ad 18 (t 17) (k 1)) (.take (mv 19 (t 2)) (.take (o 20 (.ibin .lss (t 18) (t 19))) (.take (os 21 (.mov (t 20))) (.take (gt 21 22 (.mov (t 0))) (.take (gt 21 23 (.mov (t 3))) (.take (gt 21 24 (.mov (t 9))) (.take (gt 21 25 (.ibin .add (t 23) (t 24))) (.take (gt 21 26 (.iaddr 1 (t 22) (t 25))) (.take (gt 21 27 (.load false 1 (t 26))) (.take (gt 21 28 (.mov (t 0))) (.take (gt 21 29 (.mov (t 3))) (.take (gt 21 30 (.mov (t 9))) (.take (gt 21 31 (.ibin .add (t 29) (t 30))) (.take (gt 21 32 (.ibin .add (t 31) (k 1))) (.take (gt 21 33 (.iaddr 1 (t 28) (t 32))) (.take (gt 21 34 (.load false 1 (t 33))) (.alt (gt 21 35 (.call (fn F.cmp_Less_string) [(t 27), (t 34)])) false
   (.take (o 36 (.pick (t 21) (t 35) (kb false))) (.done))
   (.none)))))))))))))))))))) [17, 18, 19, 20, 21, 22, 23, 24, 25, 26, 27, 28, 29, 30, 31, 32, 33, 34, 35])
  (.cond (t 36)
   (.ops [mv 37 (t 9),
   ad 38 (t 37) (k 1),
   mv 9 (t 38)] [37, 38])
   (.skip)))
  (.seq (.seq (.draw (.take (mv 39 (t 0)) (.take (mv 40 (t 3)) (.take (mv 41 (t 8)) (.take (ad 42 (t 40) (t 41)) (.take (o 43 (.iaddr 1 (t 39) (t 42))) (.take (l1 44 (t 43)) (.take (mv 45 (t 0)) (.take (mv 46 (t 3)) (.take (mv 47 (t 9)) (.take (ad 48 (t 46) (t 47)) (.take (o 49 (.iaddr 1 (t 45) (t 48))) (.take (l1 50 (t 49)) (.alt (ca 51 F.cmp_Less_string [(t 44), (t 50)]) false
   (.take (o 52 (.not (t 51))) (.done))
   (.none)))))))))))))) [39, 40, 41, 42, 43, 44, 45, 46, 47, 48, 49, 50, 51])
  (.cond (t 52)
   (.ret)
   (.skip)))
  (.seq (.draw (.take (mv 53 (t 0)) (.take (mv 54 (t 3)) (.take (mv 55 (t 8)) (.take (ad 56 (t 54) (t 55)) (.take (mv 57 (t 0)) (.take (mv 58 (t 3)) (.take (mv 59 (t 9)) (.take (ad 60 (t 58) (t 59)) (.take (mv 61 (t 0)) (.take (mv 62 (t 3)) (.take (mv 63 (t 9)) (.take (ad 64 (t 62) (t 63)) (.take (o 65 (.iaddr 1 (t 61) (t 64))) (.take (l1 66 (t 65)) (.take (mv 67 (t 0)) (.take (mv 68 (t 3)) (.take (mv 69 (t 8)) (.take (ad 70 (t 68) (t 69)) (.take (o 71 (.iaddr 1 (t 67) (t 70))) (.take (l1 72 (t 71)) (.take (o 73 (.iaddr 1 (t 53) (t 56))) (.alt (st 1 (t 73) (t 66)) false
   (.take (o 74 (.iaddr 1 (t 57) (t 60))) (.alt (st 1 (t 74) (t 72)) false
    (.done)
    (.none)))
   (.none))))))))))))))))))))))) [8, 53, 54, 55, 56, 57, 58, 59, 60, 61, 62, 63, 64, 65, 66, 67, 68, 69, 70, 71, 72, 73, 74])
  (.ops [mv 75 (t 9),
  mv 8 (t 75)] [9, 75])))))))))
def r_slices_siftDownOrdered_string : List RRes := []
theorem fo_slices_siftDownOrdered_string {args : List Value} {M : Mem} {R : Value → Mem → Prop} (hn : args.length ≤ 76) (h : vfn Try.prog c_slices_siftDownOrdered_string r_slices_siftDownOrdered_string args M R) : CallsM Try.prog F.slices_siftDownOrdered_string args M R :=
  fn_ok (kf := k_slices_siftDownOrdered_string) Try.func67 (by kernel_rfl) (by kernel_rfl) hn (by kernel_rfl) h
/-- slices.nextPowerOfTwo -/
def k_slices_nextPowerOfTwo (i : Nat) : List Nat := match i with | 0 => [2] | 1 => [0, 3, 4, 5, 6] | _ => []
def c_slices_nextPowerOfTwo : RCode :=
 .seq (.ops [mv 2 (.const (.int .u64 0))] [2])
 (.seq (.ops [mv 3 (t 0),
 o 4 (.conv .u64 (t 3)),
 ca 5 F.math_bits_Len [(t 4)],
 o 6 (.ibin .shl (.const (.int .u64 1)) (t 5)),
 mv 2 (t 6)] [0, 3, 4, 5, 6])
 (.ret))
def r_slices_nextPowerOfTwo : List RRes := [.tmp 2]
theorem fo_slices_nextPowerOfTwo {args : List Value} {M : Mem} {R : Value → Mem → Prop} (hn : args.length ≤ 7) (h : vfn Try.prog c_slices_nextPowerOfTwo r_slices_nextPowerOfTwo args M R) : CallsM Try.prog F.slices_nextPowerOfTwo args M R :=
  fn_ok (kf := k_slices_nextPowerOfTwo) Try.func68 (by kernel_rfl) (by kernel_rfl) hn (by kernel_rfl) h
/-- (*slices.xorshift).Next -/
def k_slices_xorshift_Next (i : Nat) : List Nat := match i with | 0 => [2] | 1 => [3, 4, 5, 6, 7, 8, 9, 10, 11] | 2 => [12, 13, 14, 15, 16, 17, 18, 19, 20] | 3 => [21, 22, 23, 24, 25, 26, 27, 28, 29] | 4 => [0, 30, 31, 32] | _ => []
def c_slices_xorshift_Next : RCode :=
 .seq (.ops [mv 2 (.const (.int .u64 0))] [2])
 (.seq (.draw (.take (mv 3 (t 0)) (.take (o 4 (.nilck (t 3))) (.take (l1 5 (t 4)) (.take (mv 6 (t 0)) (.take (o 7 (.nilck (t 6))) (.take (l1 8 (t 7)) (.take (o 9 (.ibin .shl (t 8) (.const (.int .u64 13)))) (.take (o 10 (.ibin .xor (t 5) (t 9))) (.take (o 11 (.nilck (t 3))) (.alt (st 1 (t 11) (t 10)) false
  (.done)
  (.none))))))))))) [3, 4, 5, 6, 7, 8, 9, 10, 11])
 (.seq (.draw (.take (mv 12 (t 0)) (.take (o 13 (.nilck (t 12))) (.take (l1 14 (t 13)) (.take (mv 15 (t 0)) (.take (o 16 (.nilck (t 15))) (.take (l1 17 (t 16)) (.take (o 18 (.ibin .shr (t 17) (.const (.int .u64 7)))) (.take (o 19 (.ibin .xor (t 14) (t 18))) (.take (o 20 (.nilck (t 12))) (.alt (st 1 (t 20) (t 19)) false
  (.done)
  (.none))))))))))) [12, 13, 14, 15, 16, 17, 18, 19, 20])
 (.seq (.draw (.take (mv 21 (t 0)) (.take (o 22 (.nilck (t 21))) (.take (l1 23 (t 22)) (.take (mv 24 (t 0)) (.take (o 25 (.nilck (t 24))) (.take (l1 26 (t 25)) (.take (o 27 (.ibin .shl (t 26) (.const (.int .u64 17)))) (.take (o 28 (.ibin .xor (t 23) (t 27))) (.take (o 29 (.nilck (t 21))) (.alt (st 1 (t 29) (t 28)) false
  (.done)
  (.none))))))))))) [21, 22, 23, 24, 25, 26, 27, 28, 29])
 (.seq (.ops [mv 30 (t 0),
 o 31 (.nilck (t 30)),
 l1 32 (t 31),
 mv 2 (t 32)] [0, 30, 31, 32])
 (.ret)))))
def r_slices_xorshift_Next : List RRes := [.tmp 2]
theorem fo_slices_xorshift_Next {args : List Value} {M : Mem} {R : Value → Mem → Prop} (hn : args.length ≤ 33) (h : vfn Try.prog c_slices_xorshift_Next r_slices_xorshift_Next args M R) : CallsM Try.prog F.slices_xorshift_Next args M R :=
  fn_ok (kf := k_slices_xorshift_Next) Try.func69 (by kernel_rfl) (by kernel_rfl) hn (by kernel_rfl) h
/-- slices.medianAdjacentOrdered[string] -/
def k_slices_medianAdjacentOrdered_string (i : Nat) : List Nat := match i with | 0 => [6] | 1 => [0, 1, 2, 7, 8, 9, 10, 11, 12, 13, 14] | _ => []
def c_slices_medianAdjacentOrdered_string : RCode :=
 .seq (.ops [mv 6 (k 0)] [6])
 (.seq (.ops [mv 7 (t 0),
 mv 8 (t 1),
 o 9 (.ibin .sub (t 8) (k 1)),
 mv 10 (t 1),
 mv 11 (t 1),
 ad 12 (t 11) (k 1),
 mv 13 (t 2),
 ca 14 F.slices_medianOrdered_string [(t 7), (t 9), (t 10), (t 12), (t 13)],
 mv 6 (t 14)] [0, 1, 2, 7, 8, 9, 10, 11, 12, 13, 14])
 (.ret))
def r_slices_medianAdjacentOrdered_string : List RRes := [.tmp 6]
theorem fo_slices_medianAdjacentOrdered_string {args : List Value} {M : Mem} {R : Value → Mem → Prop} (hn : args.length ≤ 15) (h : vfn Try.prog c_slices_medianAdjacentOrdered_string r_slices_medianAdjacentOrdered_string args M R) : CallsM Try.prog F.slices_medianAdjacentOrdered_string args M R :=
  fn_ok (kf := k_slices_medianAdjacentOrdered_string) Try.func70 (by kernel_rfl) (by kernel_rfl) hn (by kernel_rfl) h
/-- slices.medianOrdered[string] -/
def k_slices_medianOrdered_string (i : Nat) : List Nat := match i with | 0 => [10] | 1 => [11, 12, 13, 14, 15, 16, 17, 18] | 2 => [3, 19, 20, 21, 22, 23, 24, 25, 26] | 3 => [0, 1, 4, 27, 28, 29, 30, 31, 32, 33, 34] | 4 => [2, 35] | _ => []
def c_slices_medianOrdered_string : RCode :=
 .seq (.ops [mv 10 (k 0)] [10])
 (.seq (.ops [mv 12 (t 0),
 mv 13 (t 1),
 mv 14 (t 2),
 mv 15 (t 4),
 ca 16 F.slices_order2Ordered_string [(t 12), (t 13), (t 14), (t 15)],
 mv 11 (t 16),
 ex 17 (t 11) 0,
 ex 18 (t 11) 1,
 mv 1 (t 17),
 mv 2 (t 18)] [11, 12, 13, 14, 15, 16, 17, 18])
 (.seq (.ops [mv 20 (t 0),
 mv 21 (t 2),
 mv 22 (t 3),
 mv 23 (t 4),
 ca 24 F.slices_order2Ordered_string [(t 20), (t 21), (t 22), (t 23)],
 mv 19 (t 24),
 ex 25 (t 19) 0,
 ex 26 (t 19) 1,
 mv 2 (t 25),
 mv 3 (t 26)] [3, 19, 20, 21, 22, 23, 24, 25, 26])
 (.seq (.ops [mv 28 (t 0),
 mv 29 (t 1),
 mv 30 (t 2),
 mv 31 (t 4),
 ca 32 F.slices_order2Ordered_string [(t 28), (t 29), (t 30), (t 31)],
 mv 27 (t 32),
 ex 33 (t 27) 0,
 ex 34 (t 27) 1,
 mv 1 (t 33),
 mv 2 (t 34)] [0, 1, 4, 27, 28, 29, 30, 31, 32, 33, 34])
 (.seq (.ops [mv 35 (t 2),
 mv 10 (t 35)] [2, 35])
 (.ret)))))
def r_slices_medianOrdered_string : List RRes := [.tmp 10]
theorem fo_slices_medianOrdered_string {args : List Value} {M : Mem} {R : Value → Mem → Prop} (hn : args.length ≤ 36) (h : vfn Try.prog c_slices_medianOrdered_string r_slices_medianOrdered_string args M R) : CallsM Try.prog F.slices_medianOrdered_string args M R :=
  fn_ok (kf := k_slices_medianOrdered_string) Try.func71 (by kernel_rfl) (by kernel_rfl) hn (by kernel_rfl) h
/-- cmp.isNaN[string] -/
def k_cmp_isNaN_string (i : Nat) : List Nat := match i with | 0 => [2] | 1 => [0, 3, 4, 5] | _ => []
def c_cmp_isNaN_string : RCode :=
 .seq (.ops [mv 2 (kb false)] [2])
 (.seq (.ops [mv 3 (t 0),
 mv 4 (t 0),
 o 5 (.strE .neq (t 3) (t 4)),
 mv 2 (t 5)] [0, 3, 4, 5])
 (.ret))
def r_cmp_isNaN_string : List RRes := [.tmp 2]
theorem fo_cmp_isNaN_string {args : List Value} {M : Mem} {R : Value → Mem → Prop} (hn : args.length ≤ 6) (h : vfn Try.prog c_cmp_isNaN_string r_cmp_isNaN_string args M R) : CallsM Try.prog F.cmp_isNaN_string args M R :=
  fn_ok (kf := k_cmp_isNaN_string) Try.func72 (by kernel_rfl) (by kernel_rfl) hn (by kernel_rfl) h
/-- slices.order2Ordered[string] -/
def k_slices_order2Ordered_string (i : Nat) : List Nat := match i with | 0 => [8, 9] | 1 => [0, 10, 11, 12, 13, 14, 15, 16, 17] | 2 => [3, 19, 20, 21, 22, 23] | 3 => [1, 2, 24, 25] | 4 => [1, 2, 26, 27] | _ => []
def c_slices_order2Ordered_string : RCode :=
 .seq (.ops [mv 8 (k 0),
 mv 9 (k 0)] [8, 9])
 (.seq (.seq (.draw (.take (mv 10 (t 0)) (.take (mv 11 (t 2)) (.take (o 12 (.iaddr 1 (t 10) (t 11))) (.take (l1 13 (t 12)) (.take (mv 14 (t 0)) (.take (mv 15 (t 1)) (.take (o 16 (.iaddr 1 (t 14) (t 15))) (.take (l1 17 (t 16)) (.alt (ca 18 F.cmp_Less_string [(t 13), (t 17)]) false
  (.done)
  (.none)))))))))) [0, 10, 11, 12, 13, 14, 15, 16, 17])
 (.cond (t 18)
  (.seq (.ops [mv 19 (t 3),
  o 20 (.nilck (t 19)),
  l1 21 (t 20),
  ad 22 (t 21) (k 1),
  o 23 (.nilck (t 19)),
  st 1 (t 23) (t 22)] [3, 19, 20, 21, 22, 23])
  (.seq (.ops [mv 24 (t 2),
  mv 25 (t 1),
  mv 8 (t 24),
  mv 9 (t 25)] [1, 2, 24, 25])
  (.ret)))
  (.skip)))
 (.seq (.ops [mv 26 (t 1),
 mv 27 (t 2),
 mv 8 (t 26),
 mv 9 (t 27)] [1, 2, 26, 27])
 (.ret)))
def r_slices_order2Ordered_string : List RRes := [.tmp 8, .tmp 9]
theorem fo_slices_order2Ordered_string {args : List Value} {M : Mem} {R : Value → Mem → Prop} (hn : args.length ≤ 28) (h : vfn Try.prog c_slices_order2Ordered_string r_slices_order2Ordered_string args M R) : CallsM Try.prog F.slices_order2Ordered_string args M R :=
  fn_ok (kf := k_slices_order2Ordered_string) Try.func73 (by kernel_rfl) (by kernel_rfl) hn (by kernel_rfl) h

end Go.Proofs.Ytdjgmhifocdelaa
