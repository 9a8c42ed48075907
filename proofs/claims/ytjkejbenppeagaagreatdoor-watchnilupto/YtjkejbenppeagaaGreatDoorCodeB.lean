/- The resolved texts of the functions; made by program. -/
import Derived.Test.YtjkejbenppeagaaGreatDoorNames
namespace Go.Proofs.YtjkejbenppeagaaGreatDoor
open Go.Vm Go.Vm.S
/-- slices.pdqsortCmpFunc[portage/api.Mark] -/
def k_slices_pdqsortCmpFunc_api_Mark (i : Nat) : List Nat := match i with | 2 => [21, 22, 23] | 3 => [24] | 4 => [0, 1, 2, 4, 26, 27, 28, 29, 30] | 5 => [31] | 6 => [0, 1, 2, 4, 33, 34, 35, 36, 37] | 7 => [38] | 8 => [40, 41, 42, 43, 44] | 9 => [45, 46] | 10 => [47, 48, 49, 50, 51, 52, 53, 54] | 11 => [55] | 12 => [57, 58, 59, 60, 61] | 13 => [62, 63, 64, 65, 66, 67] | 15 => [14, 68, 69, 70, 71, 72, 73, 74] | 16 => [76, 77, 78, 79] | 17 => [81, 82, 83, 84, 85, 86, 87, 88, 89, 90, 91, 92, 93, 94, 95, 96] | 18 => [1, 13, 98, 99, 100, 101, 102, 103] | 19 => [15, 104] | 20 => [13, 105, 106, 107, 108, 109, 110, 111, 112, 113] | 21 => [17, 114] | 22 => [115, 116, 117, 118, 119, 120] | 23 => [12, 121, 122] | 24 => [123, 124] | 25 => [18, 20, 126, 127, 128] | 26 => [1, 129, 130, 131, 132, 133, 134] | 27 => [16, 135, 136] | 28 => [19, 20, 137, 138, 139] | 29 => [2, 140, 141, 142, 143, 144, 145, 146] | 30 => [16, 147] | _ => []
def c_slices_pdqsortCmpFunc_api_Mark : RCode :=
 .seq (.ops [mv 10 (kb true)] [])
 (.seq (.ops [mv 11 (kb true)] [])
 (.block 0 (.loop (.block 1 (.seq (.ops [mv 21 (t 2),
  mv 22 (t 1),
  o 23 (.ibin .sub (t 21) (t 22)),
  mv 12 (t 23)] [21, 22, 23])
  (.seq (.seq (.ops [mv 24 (t 12),
  o 25 (.ibin .leq (t 24) (k 12))] [24])
  (.cond (t 25)
   (.seq (.ops [mv 26 (t 0),
   mv 27 (t 1),
   mv 28 (t 2),
   mv 29 (t 4),
   ca 30 F.slices_insertionSortCmpFunc_api_Mark [(t 26), (t 27), (t 28), (t 29)]] [0, 1, 2, 4, 26, 27, 28, 29, 30])
   (.ret))
   (.skip)))
  (.seq (.seq (.ops [mv 31 (t 3),
  o 32 (.ibin .eql (t 31) (k 0))] [31])
  (.cond (t 32)
   (.seq (.ops [mv 33 (t 0),
   mv 34 (t 1),
   mv 35 (t 2),
   mv 36 (t 4),
   ca 37 F.slices_heapSortCmpFunc_api_Mark [(t 33), (t 34), (t 35), (t 36)]] [0, 1, 2, 4, 33, 34, 35, 36, 37])
   (.ret))
   (.skip)))
  (.seq (.seq (.ops [mv 38 (t 10),
  o 39 (.not (t 38))] [38])
  (.cond (t 39)
   (.seq (.ops [mv 40 (t 0),
   mv 41 (t 1),
   mv 42 (t 2),
   mv 43 (t 4),
   ca 44 F.slices_breakPatternsCmpFunc_api_Mark [(t 40), (t 41), (t 42), (t 43)]] [40, 41, 42, 43, 44])
   (.ops [mv 45 (t 3),
   o 46 (.ibin .sub (t 45) (k 1)),
   mv 3 (t 46)] [45, 46]))
   (.skip)))
  (.seq (.ops [mv 48 (t 0),
  mv 49 (t 1),
  mv 50 (t 2),
  mv 51 (t 4),
  ca 52 F.slices_choosePivotCmpFunc_api_Mark [(t 48), (t 49), (t 50), (t 51)],
  mv 47 (t 52),
  ex 53 (t 47) 0,
  ex 54 (t 47) 1,
  mv 13 (t 53),
  mv 14 (t 54)] [47, 48, 49, 50, 51, 52, 53, 54])
  (.seq (.seq (.ops [mv 55 (t 14),
  o 56 (.ibin .eql (t 55) (k 2))] [55])
  (.cond (t 56)
   (.seq (.ops [mv 57 (t 0),
   mv 58 (t 1),
   mv 59 (t 2),
   mv 60 (t 4),
   ca 61 F.slices_reverseRangeCmpFunc_api_Mark [(t 57), (t 58), (t 59), (t 60)]] [57, 58, 59, 60, 61])
   (.seq (.ops [mv 62 (t 2),
   o 63 (.ibin .sub (t 62) (k 1)),
   mv 64 (t 13),
   mv 65 (t 1),
   o 66 (.ibin .sub (t 64) (t 65)),
   o 67 (.ibin .sub (t 63) (t 66)),
   mv 13 (t 67)] [62, 63, 64, 65, 66, 67])
   (.ops [mv 14 (k 1)] [])))
   (.skip)))
  (.seq (.seq (.ops [mv 68 (t 10),
  os 69 (.mov (t 68)),
  gt 69 70 (.mov (t 11)),
  o 71 (.pick (t 69) (t 70) (kb false)),
  os 72 (.mov (t 71)),
  gt 72 73 (.mov (t 14)),
  gt 72 74 (.ibin .eql (t 73) (k 1)),
  o 75 (.pick (t 72) (t 74) (kb false))] [14, 68, 69, 70, 71, 72, 73, 74])
  (.cond (t 75)
   (.seq (.ops [mv 76 (t 0),
   mv 77 (t 1),
   mv 78 (t 2),
   mv 79 (t 4),
   ca 80 F.slices_partialInsertionSortCmpFunc_api_Mark [(t 76), (t 77), (t 78), (t 79)]] [76, 77, 78, 79])
   (.cond (t 80)
    (.ret)
    (.skip)))
   (.skip)))
  (.seq (.seq (.draw (.take (mv 81 (t 1)) (.take (o 82 (.ibin .gtr (t 81) (k 0))) (.take (os 83 (.mov (t 82))) (.take (gt 83 84 (.mov (t 4))) (.take (gt 83 85 (.mov (t 0))) (.take (gt 83 86 (.mov (t 1))) (.take (gt 83 87 (.ibin .sub (t 86) (k 1))) (.take (gt 83 88 (.iaddr 4 (t 85) (t 87))) (.take (gt 83 89 (.load true 4 (t 88))) (.take (gt 83 90 (.mov (t 0))) (.take (gt 83 91 (.mov (t 13))) (.take (gt 83 92 (.iaddr 4 (t 90) (t 91))) (.take (gt 83 93 (.load true 4 (t 92))) (.alt (gt 83 94 (.call (t 84) [(t 89), (t 93)])) false
   (.take (gt 83 95 (.ibin .lss (t 94) (k 0))) (.take (gt 83 96 (.not (t 95))) (.take (o 97 (.pick (t 83) (t 96) (kb false))) (.done))))
   (.none))))))))))))))) [81, 82, 83, 84, 85, 86, 87, 88, 89, 90, 91, 92, 93, 94, 95, 96])
  (.cond (t 97)
   (.seq (.ops [mv 98 (t 0),
   mv 99 (t 1),
   mv 100 (t 2),
   mv 101 (t 13),
   mv 102 (t 4),
   ca 103 F.slices_partitionEqualCmpFunc_api_Mark [(t 98), (t 99), (t 100), (t 101), (t 102)],
   mv 15 (t 103)] [1, 13, 98, 99, 100, 101, 102, 103])
   (.seq (.ops [mv 104 (t 15),
   mv 1 (t 104)] [15, 104])
   (.exit 1)))
   (.skip)))
  (.seq (.ops [mv 106 (t 0),
  mv 107 (t 1),
  mv 108 (t 2),
  mv 109 (t 13),
  mv 110 (t 4),
  ca 111 F.slices_partitionCmpFunc_api_Mark [(t 106), (t 107), (t 108), (t 109), (t 110)],
  mv 105 (t 111),
  ex 112 (t 105) 0,
  ex 113 (t 105) 1,
  mv 16 (t 112),
  mv 17 (t 113)] [13, 105, 106, 107, 108, 109, 110, 111, 112, 113])
  (.seq (.ops [mv 114 (t 17),
  mv 11 (t 114)] [17, 114])
  (.seq (.ops [mv 115 (t 16),
  mv 116 (t 1),
  o 117 (.ibin .sub (t 115) (t 116)),
  mv 118 (t 2),
  mv 119 (t 16),
  o 120 (.ibin .sub (t 118) (t 119)),
  mv 18 (t 117),
  mv 19 (t 120)] [115, 116, 117, 118, 119, 120])
  (.seq (.ops [mv 121 (t 12),
  o 122 (.ibin .quo (t 121) (k 8)),
  mv 20 (t 122)] [12, 121, 122])
  (.seq (.ops [mv 123 (t 18),
  mv 124 (t 19),
  o 125 (.ibin .lss (t 123) (t 124))] [123, 124])
  (.cond (t 125)
   (.seq (.ops [mv 126 (t 18),
   mv 127 (t 20),
   o 128 (.ibin .geq (t 126) (t 127)),
   mv 10 (t 128)] [18, 20, 126, 127, 128])
   (.seq (.ops [mv 129 (t 0),
   mv 130 (t 1),
   mv 131 (t 16),
   mv 132 (t 3),
   mv 133 (t 4),
   ca 134 F.slices_pdqsortCmpFunc_api_Mark [(t 129), (t 130), (t 131), (t 132), (t 133)]] [1, 129, 130, 131, 132, 133, 134])
   (.ops [mv 135 (t 16),
   ad 136 (t 135) (k 1),
   mv 1 (t 136)] [16, 135, 136])))
   (.seq (.ops [mv 137 (t 19),
   mv 138 (t 20),
   o 139 (.ibin .geq (t 137) (t 138)),
   mv 10 (t 139)] [19, 20, 137, 138, 139])
   (.seq (.ops [mv 140 (t 0),
   mv 141 (t 16),
   ad 142 (t 141) (k 1),
   mv 143 (t 2),
   mv 144 (t 3),
   mv 145 (t 4),
   ca 146 F.slices_pdqsortCmpFunc_api_Mark [(t 140), (t 142), (t 143), (t 144), (t 145)]] [2, 140, 141, 142, 143, 144, 145, 146])
   (.ops [mv 147 (t 16),
   mv 2 (t 147)] [16, 147])))))))))))))))))))))
def r_slices_pdqsortCmpFunc_api_Mark : List RRes := []
theorem fo_slices_pdqsortCmpFunc_api_Mark {args : List Value} {M : Mem} {R : Value → Mem → Prop} (hn : args.length ≤ 148) (h : vfn Tryz.prog c_slices_pdqsortCmpFunc_api_Mark r_slices_pdqsortCmpFunc_api_Mark args M R) : CallsM Tryz.prog F.slices_pdqsortCmpFunc_api_Mark args M R :=
  fn_ok (kf := k_slices_pdqsortCmpFunc_api_Mark) Tryz.func135 (by kernel_rfl) (by kernel_rfl) hn (by kernel_rfl) h
/-- cmp.Compare[int] -/
def k_cmp_Compare_int (i : Nat) : List Nat := match i with | 0 => [4] | 1 => [7, 8] | 2 => [9, 10] | 3 => [5] | 4 => [6] | 7 => [6] | 9 => [14, 15] | 11 => [0, 1, 17, 18] | _ => []
def c_cmp_Compare_int : RCode :=
 .seq (.ops [mv 4 (k 0)] [4])
 (.seq (.ops [mv 7 (t 0),
 ca 8 F.cmp_isNaN_int [(t 7)],
 mv 5 (t 8)] [7, 8])
 (.seq (.ops [mv 9 (t 1),
 ca 10 F.cmp_isNaN_int [(t 9)],
 mv 6 (t 10)] [9, 10])
 (.seq (.seq (.ops [mv 11 (t 5)] [5])
 (.cond (t 11)
  (.seq (.seq (.ops [mv 12 (t 6)] [6])
  (.cond (t 12)
   (.seq (.ops [mv 4 (k 0)] [])
   (.ret))
   (.skip)))
  (.seq (.ops [mv 4 (k (-1))] [])
  (.ret)))
  (.skip)))
 (.seq (.seq (.ops [mv 13 (t 6)] [6])
 (.cond (t 13)
  (.seq (.ops [mv 4 (k 1)] [])
  (.ret))
  (.skip)))
 (.seq (.seq (.ops [mv 14 (t 0),
 mv 15 (t 1),
 o 16 (.ibin .lss (t 14) (t 15))] [14, 15])
 (.cond (t 16)
  (.seq (.ops [mv 4 (k (-1))] [])
  (.ret))
  (.skip)))
 (.seq (.seq (.ops [mv 17 (t 0),
 mv 18 (t 1),
 o 19 (.ibin .gtr (t 17) (t 18))] [0, 1, 17, 18])
 (.cond (t 19)
  (.seq (.ops [mv 4 (k 1)] [])
  (.ret))
  (.skip)))
 (.seq (.ops [mv 4 (k 0)] [])
 (.ret))))))))
def r_cmp_Compare_int : List RRes := [.tmp 4]
theorem fo_cmp_Compare_int {args : List Value} {M : Mem} {R : Value → Mem → Prop} (hn : args.length ≤ 20) (h : vfn Tryz.prog c_cmp_Compare_int r_cmp_Compare_int args M R) : CallsM Tryz.prog F.cmp_Compare_int args M R :=
  fn_ok (kf := k_cmp_Compare_int) Tryz.func136 (by kernel_rfl) (by kernel_rfl) hn (by kernel_rfl) h
/-- math/bits.TrailingZeros -/
def k_math_bits_TrailingZeros (i : Nat) : List Nat := match i with | 0 => [2] | 1 => [0, 3, 4, 5] | 2 => [0, 6, 7] | _ => []
def c_math_bits_TrailingZeros : RCode :=
 .seq (.ops [mv 2 (k 0)] [2])
 (.seq (.cond (kb false)
  (.seq (.ops [mv 3 (t 0),
  o 4 (.conv .u32 (t 3)),
  ca 5 F.math_bits_TrailingZeros32 [(t 4)],
  mv 2 (t 5)] [0, 3, 4, 5])
  (.ret))
  (.skip))
 (.seq (.ops [mv 6 (t 0),
 ca 7 F.math_bits_TrailingZeros64 [(t 6)],
 mv 2 (t 7)] [0, 6, 7])
 (.ret)))
def r_math_bits_TrailingZeros : List RRes := [.tmp 2]
theorem fo_math_bits_TrailingZeros {args : List Value} {M : Mem} {R : Value → Mem → Prop} (hn : args.length ≤ 8) (h : vfn Tryz.prog c_math_bits_TrailingZeros r_math_bits_TrailingZeros args M R) : CallsM Tryz.prog F.math_bits_TrailingZeros args M R :=
  fn_ok (kf := k_math_bits_TrailingZeros) Tryz.func140 (by kernel_rfl) (by kernel_rfl) hn (by kernel_rfl) h
/-- slices.siftDownOrdered[string] -/
def k_slices_siftDownOrdered_string (i : Nat) : List Nat := match i with | 0 => [1, 10] | 1 => [11, 12, 13] | 2 => [14, 15] | 3 => [17, 18, 19, 20, 21, 22, 23, 24, 25, 26, 27, 28, 29, 30, 31, 32, 33, 34, 35] | 4 => [37, 38] | 5 => [39, 40, 41, 42, 43, 44, 45, 46, 47, 48, 49, 50, 51] | 6 => [8, 53, 54, 55, 56, 57, 58, 59, 60, 61, 62, 63, 64, 65, 66, 67, 68, 69, 70, 71, 72, 73, 74] | 7 => [9, 75] | _ => []
def c_slices_siftDownOrdered_string : RCode :=
 .seq (.ops [mv 10 (t 1),
 mv 8 (t 10)] [1, 10])
 (.block 0 (.loop (.block 1 (.seq (.ops [mv 11 (t 8),
  o 12 (.ibin .mul (k 2) (t 11)),
  ad 13 (t 12) (k 1),
  mv 9 (t 13)] [11, 12, 13])
  (.seq (.seq (.ops [mv 14 (t 9),
  mv 15 (t 2),
  o 16 (.ibin .geq (t 14) (t 15))] [14, 15])
  (.cond (t 16)
   (.exit 0)
   (.skip)))
  (.seq (.seq (.draw (.take (mv 17 (t 9)) (.take (ad 18 (t 17) (k 1)) (.take (mv 19 (t 2)) (.take (o 20 (.ibin .lss (t 18) (t 19))) (.take (os 21 (.mov (t 20))) (.take (gt 21 22 (.mov (t 0))) (.take (gt 21 23 (.mov (t 3))) (.take (gt 21 24 (.mov (t 9))) (.take (gt 21 25 (.ibin .add (t 23) (t 24))) (.take (gt 21 26 (.iaddr 1 (t 22) (t 25))) (.take (gt 21 27 (.load false 1 (t 26))) (.take (gt 21 28 (.mov (t 0))) (.take (gt 21 29 (.mov (t 3))) (.take (gt 21 30 (.mov (t 9))) (.take (gt 21 31 (.ibin .add (t 29) (t 30))) (.take (gt 21 32 (.ibin .add (t 31) (k 1))) (.take (gt 21 33 (.iaddr 1 (t 28) (t 32))) (.take (gt 21 34 (.load false 1 (t 33))) (.alt (gt 21 35 (.call (fn F.cmp_Less_string) [(t 27), (t 34)])) false
   (.take (o 36 (.pick (t 21) (t 35) (kb false))) (.done))
   (.none)))))))))))))))))))) [17, 18, 19, 20, 21, 22, 23, 24, 25, 26, 27, 28, 29, 30, 31, 32, 33, 34, 35])
  (.cond (t 36)
   (.ops [mv 37 (t 9),
   ad 38 (t 37) (k 1),
   mv 9 (t 38)] [37, 38])
   (.skip)))
  (.seq (.seq (.draw (.take (mv 39 (t 0)) (.take (mv 40 (t 3)) (.take (mv 41 (t 8)) (.take (ad 42 (t 40) (t 41)) (.take (o 43 (.iaddr 1 (t 39) (t 42))) (.take (l1 44 (t 43)) (.take (mv 45 (t 0)) (.take (mv 46 (t 3)) (.take (mv 47 (t 9)) (.take (ad 48 (t 46) (t 47)) (.take (o 49 (.iaddr 1 (t 45) (t 48))) (.take (l1 50 (t 49)) (.alt (ca 51 F.cmp_Less_string [(t 44), (t 50)]) false
   (.take (o 52 (.not (t 51))) (.done))
   (.none)))))))))))))) [39, 40, 41, 42, 43, 44, 45, 46, 47, 48, 49, 50, 51])
  (.cond (t 52)
   (.ret)
   (.skip)))
  (.seq (.draw (.take (mv 53 (t 0)) (.take (mv 54 (t 3)) (.take (mv 55 (t 8)) (.take (ad 56 (t 54) (t 55)) (.take (mv 57 (t 0)) (.take (mv 58 (t 3)) (.take (mv 59 (t 9)) (.take (ad 60 (t 58) (t 59)) (.take (mv 61 (t 0)) (.take (mv 62 (t 3)) (.take (mv 63 (t 9)) (.take (ad 64 (t 62) (t 63)) (.take (o 65 (.iaddr 1 (t 61) (t 64))) (.take (l1 66 (t 65)) (.take (mv 67 (t 0)) (.take (mv 68 (t 3)) (.take (mv 69 (t 8)) (.take (ad 70 (t 68) (t 69)) (.take (o 71 (.iaddr 1 (t 67) (t 70))) (.take (l1 72 (t 71)) (.take (o 73 (.iaddr 1 (t 53) (t 56))) (.alt (st 1 (t 73) (t 66)) false
   (.take (o 74 (.iaddr 1 (t 57) (t 60))) (.alt (st 1 (t 74) (t 72)) false
    (.done)
    (.none)))
   (.none))))))))))))))))))))))) [8, 53, 54, 55, 56, 57, 58, 59, 60, 61, 62, 63, 64, 65, 66, 67, 68, 69, 70, 71, 72, 73, 74])
  (.ops [mv 75 (t 9),
  mv 8 (t 75)] [9, 75])))))))))
def r_slices_siftDownOrdered_string : List RRes := []
theorem fo_slices_siftDownOrdered_string {args : List Value} {M : Mem} {R : Value → Mem → Prop} (hn : args.length ≤ 76) (h : vfn Tryz.prog c_slices_siftDownOrdered_string r_slices_siftDownOrdered_string args M R) : CallsM Tryz.prog F.slices_siftDownOrdered_string args M R :=
  fn_ok (kf := k_slices_siftDownOrdered_string) Tryz.func141 (by kernel_rfl) (by kernel_rfl) hn (by kernel_rfl) h
/-- slices.nextPowerOfTwo -/
def k_slices_nextPowerOfTwo (i : Nat) : List Nat := match i with | 0 => [2] | 1 => [0, 3, 4, 5, 6] | _ => []
def c_slices_nextPowerOfTwo : RCode :=
 .seq (.ops [mv 2 (.const (.int .u64 0))] [2])
 (.seq (.ops [mv 3 (t 0),
 o 4 (.conv .u64 (t 3)),
 ca 5 F.math_bits_Len [(t 4)],
 o 6 (.ibin .shl (.const (.int .u64 1)) (t 5)),
 mv 2 (t 6)] [0, 3, 4, 5, 6])
 (.ret))
def r_slices_nextPowerOfTwo : List RRes := [.tmp 2]
theorem fo_slices_nextPowerOfTwo {args : List Value} {M : Mem} {R : Value → Mem → Prop} (hn : args.length ≤ 7) (h : vfn Tryz.prog c_slices_nextPowerOfTwo r_slices_nextPowerOfTwo args M R) : CallsM Tryz.prog F.slices_nextPowerOfTwo args M R :=
  fn_ok (kf := k_slices_nextPowerOfTwo) Tryz.func142 (by kernel_rfl) (by kernel_rfl) hn (by kernel_rfl) h
/-- (*slices.xorshift).Next -/
def k_slices_xorshift_Next (i : Nat) : List Nat := match i with | 0 => [2] | 1 => [3, 4, 5, 6, 7, 8, 9, 10, 11] | 2 => [12, 13, 14, 15, 16, 17, 18, 19, 20] | 3 => [21, 22, 23, 24, 25, 26, 27, 28, 29] | 4 => [0, 30, 31, 32] | _ => []
def c_slices_xorshift_Next : RCode :=
 .seq (.ops [mv 2 (.const (.int .u64 0))] [2])
 (.seq (.draw (.take (mv 3 (t 0)) (.take (o 4 (.nilck (t 3))) (.take (l1 5 (t 4)) (.take (mv 6 (t 0)) (.take (o 7 (.nilck (t 6))) (.take (l1 8 (t 7)) (.take (o 9 (.ibin .shl (t 8) (.const (.int .u64 13)))) (.take (o 10 (.ibin .xor (t 5) (t 9))) (.take (o 11 (.nilck (t 3))) (.alt (st 1 (t 11) (t 10)) false
  (.done)
  (.none))))))))))) [3, 4, 5, 6, 7, 8, 9, 10, 11])
 (.seq (.draw (.take (mv 12 (t 0)) (.take (o 13 (.nilck (t 12))) (.take (l1 14 (t 13)) (.take (mv 15 (t 0)) (.take (o 16 (.nilck (t 15))) (.take (l1 17 (t 16)) (.take (o 18 (.ibin .shr (t 17) (.const (.int .u64 7)))) (.take (o 19 (.ibin .xor (t 14) (t 18))) (.take (o 20 (.nilck (t 12))) (.alt (st 1 (t 20) (t 19)) false
  (.done)
  (.none))))))))))) [12, 13, 14, 15, 16, 17, 18, 19, 20])
 (.seq (.draw (.take (mv 21 (t 0)) (.take (o 22 (.nilck (t 21))) (.take (l1 23 (t 22)) (.take (mv 24 (t 0)) (.take (o 25 (.nilck (t 24))) (.take (l1 26 (t 25)) (.take (o 27 (.ibin .shl (t 26) (.const (.int .u64 17)))) (.take (o 28 (.ibin .xor (t 23) (t 27))) (.take (o 29 (.nilck (t 21))) (.alt (st 1 (t 29) (t 28)) false
  (.done)
  (.none))))))))))) [21, 22, 23, 24, 25, 26, 27, 28, 29])
 (.seq (.ops [mv 30 (t 0),
 o 31 (.nilck (t 30)),
 l1 32 (t 31),
 mv 2 (t 32)] [0, 30, 31, 32])
 (.ret)))))
def r_slices_xorshift_Next : List RRes := [.tmp 2]
theorem fo_slices_xorshift_Next {args : List Value} {M : Mem} {R : Value → Mem → Prop} (hn : args.length ≤ 33) (h : vfn Tryz.prog c_slices_xorshift_Next r_slices_xorshift_Next args M R) : CallsM Tryz.prog F.slices_xorshift_Next args M R :=
  fn_ok (kf := k_slices_xorshift_Next) Tryz.func143 (by kernel_rfl) (by kernel_rfl) hn (by kernel_rfl) h
/-- slices.medianAdjacentOrdered[string] -/
def k_slices_medianAdjacentOrdered_string (i : Nat) : List Nat := match i with | 0 => [6] | 1 => [0, 1, 2, 7, 8, 9, 10, 11, 12, 13, 14] | _ => []
def c_slices_medianAdjacentOrdered_string : RCode :=
 .seq (.ops [mv 6 (k 0)] [6])
 (.seq (.ops [mv 7 (t 0),
 mv 8 (t 1),
 o 9 (.ibin .sub (t 8) (k 1)),
 mv 10 (t 1),
 mv 11 (t 1),
 ad 12 (t 11) (k 1),
 mv 13 (t 2),
 ca 14 F.slices_medianOrdered_string [(t 7), (t 9), (t 10), (t 12), (t 13)],
 mv 6 (t 14)] [0, 1, 2, 7, 8, 9, 10, 11, 12, 13, 14])
 (.ret))
def r_slices_medianAdjacentOrdered_string : List RRes := [.tmp 6]
theorem fo_slices_medianAdjacentOrdered_string {args : List Value} {M : Mem} {R : Value → Mem → Prop} (hn : args.length ≤ 15) (h : vfn Tryz.prog c_slices_medianAdjacentOrdered_string r_slices_medianAdjacentOrdered_string args M R) : CallsM Tryz.prog F.slices_medianAdjacentOrdered_string args M R :=
  fn_ok (kf := k_slices_medianAdjacentOrdered_string) Tryz.func144 (by kernel_rfl) (by kernel_rfl) hn (by kernel_rfl) h
/-- slices.medianOrdered[string] -/
def k_slices_medianOrdered_string (i : Nat) : List Nat := match i with | 0 => [10] | 1 => [11, 12, 13, 14, 15, 16, 17, 18] | 2 => [3, 19, 20, 21, 22, 23, 24, 25, 26] | 3 => [0, 1, 4, 27, 28, 29, 30, 31, 32, 33, 34] | 4 => [2, 35] | _ => []
def c_slices_medianOrdered_string : RCode :=
 .seq (.ops [mv 10 (k 0)] [10])
 (.seq (.ops [mv 12 (t 0),
 mv 13 (t 1),
 mv 14 (t 2),
 mv 15 (t 4),
 ca 16 F.slices_order2Ordered_string [(t 12), (t 13), (t 14), (t 15)],
 mv 11 (t 16),
 ex 17 (t 11) 0,
 ex 18 (t 11) 1,
 mv 1 (t 17),
 mv 2 (t 18)] [11, 12, 13, 14, 15, 16, 17, 18])
 (.seq (.ops [mv 20 (t 0),
 mv 21 (t 2),
 mv 22 (t 3),
 mv 23 (t 4),
 ca 24 F.slices_order2Ordered_string [(t 20), (t 21), (t 22), (t 23)],
 mv 19 (t 24),
 ex 25 (t 19) 0,
 ex 26 (t 19) 1,
 mv 2 (t 25),
 mv 3 (t 26)] [3, 19, 20, 21, 22, 23, 24, 25, 26])
 (.seq (.ops [mv 28 (t 0),
 mv 29 (t 1),
 mv 30 (t 2),
 mv 31 (t 4),
 ca 32 F.slices_order2Ordered_string [(t 28), (t 29), (t 30), (t 31)],
 mv 27 (t 32),
 ex 33 (t 27) 0,
 ex 34 (t 27) 1,
 mv 1 (t 33),
 mv 2 (t 34)] [0, 1, 4, 27, 28, 29, 30, 31, 32, 33, 34])
 (.seq (.ops [mv 35 (t 2),
 mv 10 (t 35)] [2, 35])
 (.ret)))))
def r_slices_medianOrdered_string : List RRes := [.tmp 10]
theorem fo_slices_medianOrdered_string {args : List Value} {M : Mem} {R : Value → Mem → Prop} (hn : args.length ≤ 36) (h : vfn Tryz.prog c_slices_medianOrdered_string r_slices_medianOrdered_string args M R) : CallsM Tryz.prog F.slices_medianOrdered_string args M R :=
  fn_ok (kf := k_slices_medianOrdered_string) Tryz.func145 (by kernel_rfl) (by kernel_rfl) hn (by kernel_rfl) h
/-- cmp.isNaN[string] -/
def k_cmp_isNaN_string (i : Nat) : List Nat := match i with | 0 => [2] | 1 => [0, 3, 4, 5] | _ => []
def c_cmp_isNaN_string : RCode :=
 .seq (.ops [mv 2 (kb false)] [2])
 (.seq (.ops [mv 3 (t 0),
 mv 4 (t 0),
 o 5 (.strE .neq (t 3) (t 4)),
 mv 2 (t 5)] [0, 3, 4, 5])
 (.ret))
def r_cmp_isNaN_string : List RRes := [.tmp 2]
theorem fo_cmp_isNaN_string {args : List Value} {M : Mem} {R : Value → Mem → Prop} (hn : args.length ≤ 6) (h : vfn Tryz.prog c_cmp_isNaN_string r_cmp_isNaN_string args M R) : CallsM Tryz.prog F.cmp_isNaN_string args M R :=
  fn_ok (kf := k_cmp_isNaN_string) Tryz.func146 (by kernel_rfl) (by kernel_rfl) hn (by kernel_rfl) h
/-- portage/disk.named -/
def k_disk_named (i : Nat) : List Nat := match i with | 0 => [2] | 1 => [5] | 3 => [9] | 4 => [3, 10, 11, 12] | 5 => [4, 13, 14, 15, 16, 17, 18, 19, 20, 21, 22, 23, 24, 25, 26, 27, 28, 29] | 7 => [31] | 8 => [0, 32, 33, 34, 35, 36, 37, 38, 39] | _ => []
def c_disk_named : RCode :=
 .seq (.ops [mv 2 (kb false)] [2])
 (.seq (.seq (.ops [mv 5 (t 0),
 o 6 (.lenS (t 5)),
 mv 7 (k 0)] [5])
 (.block 0 (.loop (.seq (.ops [o 8 (.ibin .lss (t 7) (t 6))] [])
  (.seq (.cond (t 8)
   (.skip)
   (.exit 0))
  (.seq (.block 1 (.seq (.ops [mv 9 (t 7),
  mv 3 (t 9)] [9])
  (.seq (.ops [mv 10 (t 0),
  mv 11 (t 3),
  o 12 (.sidx (t 10) (t 11)),
  mv 4 (t 12)] [3, 10, 11, 12])
  (.seq (.ops [mv 13 (t 4),
  o 14 (.ibin .neq (t 13) (.const (u 46))),
  os 15 (.mov (t 14)),
  gt 15 16 (.mov (t 4)),
  gt 15 17 (.ibin .lss (t 16) (.const (u 48))),
  ⟨(some 18), .mov (t 17), some (15, true), true⟩,
  gf 18 19 (.mov (t 4)),
  gf 18 20 (.ibin .gtr (t 19) (.const (u 57))),
  gt 15 21 (.pick (t 18) (kb true) (t 20)),
  o 22 (.pick (t 15) (t 21) (kb false)),
  os 23 (.mov (t 22)),
  gt 23 24 (.mov (t 4)),
  gt 23 25 (.ibin .lss (t 24) (.const (u 97))),
  ⟨(some 26), .mov (t 25), some (23, true), true⟩,
  gf 26 27 (.mov (t 4)),
  gf 26 28 (.ibin .gtr (t 27) (.const (u 122))),
  gt 23 29 (.pick (t 26) (kb true) (t 28)),
  o 30 (.pick (t 23) (t 29) (kb false))] [4, 13, 14, 15, 16, 17, 18, 19, 20, 21, 22, 23, 24, 25, 26, 27, 28, 29])
  (.cond (t 30)
   (.seq (.ops [mv 2 (kb false)] [])
   (.ret))
   (.skip))))))
  (.ops [ad 31 (t 7) (k 1),
  mv 7 (t 31)] [31])))))))
 (.seq (.ops [mv 32 (t 0),
 o 33 (.lenS (t 32)),
 o 34 (.ibin .gtr (t 33) (k 0)),
 os 35 (.mov (t 34)),
 gt 35 36 (.mov (t 0)),
 gt 35 37 (.lenS (t 36)),
 gt 35 38 (.ibin .leq (t 37) (k 12)),
 o 39 (.pick (t 35) (t 38) (kb false)),
 mv 2 (t 39)] [0, 32, 33, 34, 35, 36, 37, 38, 39])
 (.ret)))
def r_disk_named : List RRes := [.tmp 2]
theorem fo_disk_named {args : List Value} {M : Mem} {R : Value → Mem → Prop} (hn : args.length ≤ 40) (h : vfn Tryz.prog c_disk_named r_disk_named args M R) : CallsM Tryz.prog F.disk_named args M R :=
  fn_ok (kf := k_disk_named) Tryz.func147 (by kernel_rfl) (by kernel_rfl) hn (by kernel_rfl) h
/-- portage/wal.number -/
def k_wal_number (i : Nat) : List Nat := match i with | 0 => [2] | 1 => [6, 7, 8, 9, 10, 11, 12] | 4 => [14, 15] | 6 => [17, 19] | 7 => [5, 20, 21, 22, 23, 24, 25] | 8 => [0, 26, 27, 28] | 10 => [3, 30] | _ => []
def c_wal_number : RCode :=
 .seq (.ops [mv 2 (k 0)] [2])
 (.seq (.seq (.ops [mv 6 (t 0),
 o 7 (.lenS (t 6)),
 o 8 (.ibin .neq (t 7) (k 6)),
 os 9 (.mov (t 8)),
 gf 9 10 (.mov (t 0)),
 gf 9 11 (.sidx (t 10) (k 0)),
 gf 9 12 (.ibin .neq (t 11) (.const (u 119))),
 o 13 (.pick (t 9) (kb true) (t 12))] [6, 7, 8, 9, 10, 11, 12])
 (.cond (t 13)
  (.seq (.ops [mv 2 (k 0)] [])
  (.ret))
  (.skip)))
 (.seq (.ops [mv 3 (k 0)] [])
 (.seq (.seq (.ops [mv 14 (t 0),
 o 15 (.ssl (t 14) (some (k 1)) none),
 o 16 (.srange (t 15))] [14, 15])
 (.block 0 (.loop (.seq (.ops [o 17 (.snext (t 16)),
  ex 18 (t 17) 0] [])
  (.seq (.cond (t 18)
   (.skip)
   (.exit 0))
  (.block 1 (.seq (.ops [ex 19 (t 17) 2,
  mv 5 (t 19)] [17, 19])
  (.ops [mv 20 (t 3),
  o 21 (.ibin .mul (k 10) (t 20)),
  mv 22 (t 5),
  o 23 (.ibin .sub (t 22) (.const (.int .i32 48))),
  o 24 (.conv .i64 (t 23)),
  ad 25 (t 21) (t 24),
  mv 3 (t 25)] [5, 20, 21, 22, 23, 24, 25]))))))))
 (.seq (.seq (.ops [mv 26 (t 3),
 ca 27 F.wal_Name [(t 26)],
 mv 28 (t 0),
 o 29 (.strE .neq (t 27) (t 28))] [0, 26, 27, 28])
 (.cond (t 29)
  (.seq (.ops [mv 2 (k 0)] [])
  (.ret))
  (.skip)))
 (.seq (.ops [mv 30 (t 3),
 mv 2 (t 30)] [3, 30])
 (.ret))))))
def r_wal_number : List RRes := [.tmp 2]
theorem fo_wal_number {args : List Value} {M : Mem} {R : Value → Mem → Prop} (hn : args.length ≤ 31) (h : vfn Tryz.prog c_wal_number r_wal_number args M R) : CallsM Tryz.prog F.wal_number args M R :=
  fn_ok (kf := k_wal_number) Tryz.func148 (by kernel_rfl) (by kernel_rfl) hn (by kernel_rfl) h
/-- portage/record.rows -/
def k_record_rows (i : Nat) : List Nat := match i with | 0 => [0, 2] | 1 => [1, 3] | _ => []
def c_record_rows : RCode :=
 .seq (.ops [o 1 (.box 44 (t 0)),
 mv 2 (.const .nilFunc)] [0, 2])
 (.seq (.ops [o 3 (.mkfn F.record_rows_1 [(t 1)]),
 mv 2 (t 3)] [1, 3])
 (.ret))
def r_record_rows : List RRes := [.tmp 2]
theorem fo_record_rows {args : List Value} {M : Mem} {R : Value → Mem → Prop} (hn : args.length ≤ 4) (h : vfn Tryz.prog c_record_rows r_record_rows args M R) : CallsM Tryz.prog F.record_rows args M R :=
  fn_ok (kf := k_record_rows) Tryz.func149 (by kernel_rfl) (by kernel_rfl) hn (by kernel_rfl) h
/-- (*portage/seen.Set).Has -/
def k_seen_Set_Has (i : Nat) : List Nat := match i with | 0 => [1, 4] | 1 => [6, 7, 8, 9, 10, 11] | 3 => [0, 13, 14, 15] | 4 => [3, 5, 16, 17, 18, 19, 20, 21, 22, 23, 24, 25, 26, 27, 28, 29, 30, 31] | _ => []
def c_seen_Set_Has : RCode :=
 .seq (.ops [o 3 (.box 42 (t 1)),
 mv 4 (kb false)] [1, 4])
 (.seq (.seq (.ops [mv 6 (t 0),
 o 7 (.pnil .eql (t 6) (.const (.pointer none))),
 os 8 (.mov (t 7)),
 gf 8 9 (.load true 4 (t 3)),
 gf 8 10 (.call (fn F.msg_Check) [(t 9)]),
 gf 8 11 (.ibin .neq (t 10) (k 0)),
 o 12 (.pick (t 8) (kb true) (t 11))] [6, 7, 8, 9, 10, 11])
 (.cond (t 12)
  (.seq (.ops [mv 4 (kb false)] [])
  (.ret))
  (.skip)))
 (.seq (.ops [mv 13 (t 0),
 la 14 4 (t 3),
 ca 15 F.seen_Set_of [(t 13), (t 14)],
 mv 5 (t 15)] [0, 13, 14, 15])
 (.seq (.draw (.take (fa 16 3 (t 3)) (.take (l1 17 (t 16)) (.take (mv 18 (t 5)) (.take (o 19 (.nilck (t 18))) (.take (fa 20 0 (t 19)) (.take (l1 21 (t 20)) (.take (o 22 (.ibin .leq (t 17) (t 21))) (.take (os 23 (.mov (t 22))) (.take (gf 23 24 (.mov (t 5))) (.take (gf 23 25 (.nilck (t 24))) (.take (gf 23 26 (.faddr 1 (t 25))) (.take (gf 23 27 (.load false 1 (t 26))) (.take (gf 23 28 (.faddr 3 (t 3))) (.take (gf 23 29 (.load false 1 (t 28))) (.alt (gf 23 30 (.call (fn F.slices_Contains_int_int) [(t 27), (t 29)])) false
  (.take (o 31 (.pick (t 23) (kb true) (t 30))) (.take (mv 4 (t 31)) (.done)))
  (.none)))))))))))))))) [3, 5, 16, 17, 18, 19, 20, 21, 22, 23, 24, 25, 26, 27, 28, 29, 30, 31])
 (.ret))))
def r_seen_Set_Has : List RRes := [.tmp 4]
theorem fo_seen_Set_Has {args : List Value} {M : Mem} {R : Value → Mem → Prop} (hn : args.length ≤ 32) (h : vfn Tryz.prog c_seen_Set_Has r_seen_Set_Has args M R) : CallsM Tryz.prog F.seen_Set_Has args M R :=
  fn_ok (kf := k_seen_Set_Has) Tryz.func150 (by kernel_rfl) (by kernel_rfl) hn (by kernel_rfl) h
/-- cmp.Less[int] -/
def k_cmp_Less_int (i : Nat) : List Nat := match i with | 0 => [4] | 1 => [0, 1, 5, 6, 7, 8, 9, 10, 11, 12, 13, 14, 15, 16] | _ => []
def c_cmp_Less_int : RCode :=
 .seq (.ops [mv 4 (kb false)] [4])
 (.seq (.ops [mv 5 (t 0),
 ca 6 F.cmp_isNaN_int [(t 5)],
 os 7 (.mov (t 6)),
 gt 7 8 (.mov (t 1)),
 gt 7 9 (.call (fn F.cmp_isNaN_int) [(t 8)]),
 gt 7 10 (.not (t 9)),
 o 11 (.pick (t 7) (t 10) (kb false)),
 os 12 (.mov (t 11)),
 gf 12 13 (.mov (t 0)),
 gf 12 14 (.mov (t 1)),
 gf 12 15 (.ibin .lss (t 13) (t 14)),
 o 16 (.pick (t 12) (kb true) (t 15)),
 mv 4 (t 16)] [0, 1, 5, 6, 7, 8, 9, 10, 11, 12, 13, 14, 15, 16])
 (.ret))
def r_cmp_Less_int : List RRes := [.tmp 4]
theorem fo_cmp_Less_int {args : List Value} {M : Mem} {R : Value → Mem → Prop} (hn : args.length ≤ 17) (h : vfn Tryz.prog c_cmp_Less_int r_cmp_Less_int args M R) : CallsM Tryz.prog F.cmp_Less_int args M R :=
  fn_ok (kf := k_cmp_Less_int) Tryz.func151 (by kernel_rfl) (by kernel_rfl) hn (by kernel_rfl) h
/-- slices.isNaN[int] -/
def k_slices_isNaN_int (i : Nat) : List Nat := match i with | 0 => [2] | 1 => [0, 3, 4, 5] | _ => []
def c_slices_isNaN_int : RCode :=
 .seq (.ops [mv 2 (kb false)] [2])
 (.seq (.ops [mv 3 (t 0),
 mv 4 (t 0),
 o 5 (.ibin .neq (t 3) (t 4)),
 mv 2 (t 5)] [0, 3, 4, 5])
 (.ret))
def r_slices_isNaN_int : List RRes := [.tmp 2]
theorem fo_slices_isNaN_int {args : List Value} {M : Mem} {R : Value → Mem → Prop} (hn : args.length ≤ 6) (h : vfn Tryz.prog c_slices_isNaN_int r_slices_isNaN_int args M R) : CallsM Tryz.prog F.slices_isNaN_int args M R :=
  fn_ok (kf := k_slices_isNaN_int) Tryz.func152 (by kernel_rfl) (by kernel_rfl) hn (by kernel_rfl) h
/-- slices.rotateRight[int] -/
def k_slices_rotateRight_int (i : Nat) : List Nat := match i with | 0 => [0, 1, 4, 5, 6, 7, 8, 9] | _ => []
def c_slices_rotateRight_int : RCode :=
 .ops [mv 4 (t 0),
 mv 5 (t 0),
 o 6 (.len (t 5)),
 mv 7 (t 1),
 o 8 (.ibin .sub (t 6) (t 7)),
 ca 9 F.slices_rotateLeft_int [(t 4), (t 8)]] [0, 1, 4, 5, 6, 7, 8, 9]
def r_slices_rotateRight_int : List RRes := []
theorem fo_slices_rotateRight_int {args : List Value} {M : Mem} {R : Value → Mem → Prop} (hn : args.length ≤ 10) (h : vfn Tryz.prog c_slices_rotateRight_int r_slices_rotateRight_int args M R) : CallsM Tryz.prog F.slices_rotateRight_int args M R :=
  fn_ok (kf := k_slices_rotateRight_int) Tryz.func154 (by kernel_rfl) (by kernel_rfl) hn (by kernel_rfl) h
/-- portage/bits.Put -/
def k_bits_Put (i : Nat) : List Nat := match i with | 0 => [6, 7] | 1 => [10, 11, 12, 13, 14] | 3 => [16, 17, 18, 19, 20, 21, 22, 23] | 5 => [0, 25, 26, 27] | 6 => [2, 28, 29] | 7 => [30, 31] | 8 => [32, 33, 34, 35, 36, 37, 38] | 10 => [39, 41] | 11 => [8, 42] | _ => []
def c_bits_Put : RCode :=
 .seq (.ops [mv 6 (.const sn),
 mv 7 (k 0)] [6, 7])
 (.scope (.seq (.seq (.ops [mv 10 (t 2),
 o 11 (.ibin .lss (t 10) (k 1)),
 os 12 (.mov (t 11)),
 gf 12 13 (.mov (t 2)),
 gf 12 14 (.ibin .gtr (t 13) (k 8)),
 o 15 (.pick (t 12) (kb true) (t 14))] [10, 11, 12, 13, 14])
 (.cond (t 15)
  (.seq (.ops [mv 6 (.const sn),
  mv 7 (k 1)] [])
  (.ret))
  (.skip)))
 (.seq (.seq (.ops [mv 16 (t 2),
 o 17 (.ibin .lss (t 16) (k 8)),
 os 18 (.mov (t 17)),
 gt 18 19 (.mov (t 1)),
 gt 18 20 (.mov (t 2)),
 gt 18 21 (.ibin .mul (k 8) (t 20)),
 gt 18 22 (.ibin .shr (t 19) (t 21)),
 gt 18 23 (.ibin .neq (t 22) (.const (.int .u64 0))),
 o 24 (.pick (t 18) (t 23) (kb false))] [16, 17, 18, 19, 20, 21, 22, 23])
 (.cond (t 24)
  (.seq (.ops [mv 6 (.const sn),
  mv 7 (k 3)] [])
  (.ret))
  (.skip)))
 (.seq (.ops [o 25 (.mkSl false 5 0 [] []),
 mv 26 (t 0),
 o 27 (.app 5 1 1 [(u 0)] (t 25) (t 26)),
 mv 8 (t 27)] [0, 25, 26, 27])
 (.seq (.ops [mv 28 (t 2),
 o 29 (.ibin .mul (k 8) (t 28)),
 mv 9 (t 29)] [2, 28, 29])
 (.seq (.skip)
 (.seq (.block 0 (.loop (.block 1 (.seq (.ops [mv 30 (t 9),
  o 31 (.ibin .sub (t 30) (k 8)),
  mv 9 (t 31)] [30, 31])
  (.seq (.ops [mv 32 (t 8),
  mv 33 (t 1),
  mv 34 (t 9),
  o 35 (.ibin .shr (t 33) (t 34)),
  o 36 (.conv .u8 (t 35)),
  o 37 (.mkSl true 5 1 [(u 0)] [(0, 1, (t 36))]),
  o 38 (.app 5 1 1 [(u 0)] (t 32) (t 37)),
  mv 8 (t 38)] [32, 33, 34, 35, 36, 37, 38])
  (.seq (.ops [mv 39 (t 9)] [])
  (.block 2 (.seq (.ops [o 41 (.ibin .eql (t 39) (k 0)),
  mv 40 (t 41)] [39, 41])
  (.cond (t 40)
   (.exit 0)
   (.skip))))))))))
 (.seq (.ops [mv 42 (t 8),
 mv 6 (t 42),
 mv 7 (k 0)] [8, 42])
 (.ret)))))))))
def r_bits_Put : List RRes := [.tmp 6, .tmp 7]
theorem fo_bits_Put {args : List Value} {M : Mem} {R : Value → Mem → Prop} (hn : args.length ≤ 43) (h : vfn Tryz.prog c_bits_Put r_bits_Put args M R) : CallsM Tryz.prog F.bits_Put args M R :=
  fn_ok (kf := k_bits_Put) Tryz.func155 (by kernel_rfl) (by kernel_rfl) hn (by kernel_rfl) h
/-- (*portage/disk.Disk).Used -/
def k_disk_Disk_Used (i : Nat) : List Nat := match i with | 0 => [2] | 2 => [6] | 3 => [0, 8, 9, 10, 11] | 4 => [13] | 5 => [15, 16] | 6 => [5, 17, 18, 19, 20, 21, 22, 23] | 7 => [3, 24] | _ => []
def c_disk_Disk_Used : RCode :=
 .seq (.ops [mv 2 (k 0)] [2])
 (.seq (.ops [mv 3 (k 0)] [])
 (.seq (.seq (.ops [mv 6 (t 0),
 o 7 (.pnil .neq (t 6) (.const (.pointer none)))] [6])
 (.cond (t 7)
  (.seq (.ops [mv 8 (t 0),
  o 9 (.nilck (t 8)),
  fa 10 1 (t 9),
  l1 11 (t 10),
  o 12 (.mrange (t 11))] [0, 8, 9, 10, 11])
  (.block 0 (.loop (.seq (.ops [o 13 (.mnext (t 12)),
   ex 14 (t 13) 0] [13])
   (.seq (.cond (t 14)
    (.skip)
    (.exit 0))
   (.block 1 (.seq (.ops [o 15 (.mentry (t 12)),
   ex 16 (t 15) 1,
   mv 5 (t 16)] [15, 16])
   (.ops [mv 17 (t 3),
   mv 18 (t 5),
   o 19 (.nilck (t 18)),
   fa 20 0 (t 19),
   l1 21 (t 20),
   o 22 (.len (t 21)),
   ad 23 (t 17) (t 22),
   mv 3 (t 23)] [5, 17, 18, 19, 20, 21, 22, 23]))))))))
  (.skip)))
 (.seq (.ops [mv 24 (t 3),
 mv 2 (t 24)] [3, 24])
 (.ret))))
def r_disk_Disk_Used : List RRes := [.tmp 2]
theorem fo_disk_Disk_Used {args : List Value} {M : Mem} {R : Value → Mem → Prop} (hn : args.length ≤ 25) (h : vfn Tryz.prog c_disk_Disk_Used r_disk_Disk_Used args M R) : CallsM Tryz.prog F.disk_Disk_Used args M R :=
  fn_ok (kf := k_disk_Disk_Used) Tryz.func156 (by kernel_rfl) (by kernel_rfl) hn (by kernel_rfl) h
/-- slices.insertionSortCmpFunc[portage/store.place] -/
def k_slices_insertionSortCmpFunc_store_place (i : Nat) : List Nat := match i with | 0 => [10, 11] | 1 => [12, 13] | 3 => [17] | 4 => [18, 19, 20, 21, 22, 23, 24, 25, 26, 27, 28, 29, 30, 31, 32, 33] | 6 => [37, 38, 39, 40, 41, 42, 43, 44, 45, 46, 47, 48, 49, 50, 51, 52] | 5 => [35, 36] | 2 => [15, 16] | _ => []
def c_slices_insertionSortCmpFunc_store_place : RCode :=
 .seq (.ops [mv 10 (t 1),
 ad 11 (t 10) (k 1),
 mv 8 (t 11)] [10, 11])
 (.block 0 (.loop (.seq (.seq (.ops [mv 12 (t 8),
  mv 13 (t 2),
  o 14 (.ibin .lss (t 12) (t 13))] [12, 13])
  (.cond (t 14)
   (.skip)
   (.exit 0)))
  (.seq (.block 1 (.seq (.ops [mv 17 (t 8),
  mv 9 (t 17)] [17])
  (.block 2 (.loop (.seq (.seq (.draw (.take (mv 18 (t 9)) (.take (mv 19 (t 1)) (.take (o 20 (.ibin .gtr (t 18) (t 19))) (.take (os 21 (.mov (t 20))) (.take (gt 21 22 (.mov (t 3))) (.take (gt 21 23 (.mov (t 0))) (.take (gt 21 24 (.mov (t 9))) (.take (gt 21 25 (.iaddr 6 (t 23) (t 24))) (.take (gt 21 26 (.load true 6 (t 25))) (.take (gt 21 27 (.mov (t 0))) (.take (gt 21 28 (.mov (t 9))) (.take (gt 21 29 (.ibin .sub (t 28) (k 1))) (.take (gt 21 30 (.iaddr 6 (t 27) (t 29))) (.take (gt 21 31 (.load true 6 (t 30))) (.alt (gt 21 32 (.call (t 22) [(t 26), (t 31)])) false
    (.take (gt 21 33 (.ibin .lss (t 32) (k 0))) (.take (o 34 (.pick (t 21) (t 33) (kb false))) (.done)))
    (.none)))))))))))))))) [18, 19, 20, 21, 22, 23, 24, 25, 26, 27, 28, 29, 30, 31, 32, 33])
   (.cond (t 34)
    (.skip)
    (.exit 2)))
   (.seq (.block 3 (.draw (.take (mv 37 (t 0)) (.take (mv 38 (t 9)) (.take (mv 39 (t 0)) (.take (mv 40 (t 9)) (.take (o 41 (.ibin .sub (t 40) (k 1))) (.take (mv 42 (t 0)) (.take (mv 43 (t 9)) (.take (o 44 (.ibin .sub (t 43) (k 1))) (.take (o 45 (.iaddr 6 (t 42) (t 44))) (.take (la 46 6 (t 45)) (.take (mv 47 (t 0)) (.take (mv 48 (t 9)) (.take (o 49 (.iaddr 6 (t 47) (t 48))) (.take (la 50 6 (t 49)) (.take (o 51 (.iaddr 6 (t 37) (t 38))) (.alt (st 6 (t 51) (t 46)) false
    (.take (o 52 (.iaddr 6 (t 39) (t 41))) (.alt (st 6 (t 52) (t 50)) false
     (.done)
     (.none)))
    (.none))))))))))))))))) [37, 38, 39, 40, 41, 42, 43, 44, 45, 46, 47, 48, 49, 50, 51, 52]))
   (.ops [mv 35 (t 9),
   o 36 (.ibin .sub (t 35) (k 1)),
   mv 9 (t 36)] [35, 36])))))))
  (.ops [mv 15 (t 8),
  ad 16 (t 15) (k 1),
  mv 8 (t 16)] [15, 16])))))
def r_slices_insertionSortCmpFunc_store_place : List RRes := []
theorem fo_slices_insertionSortCmpFunc_store_place {args : List Value} {M : Mem} {R : Value → Mem → Prop} (hn : args.length ≤ 53) (h : vfn Tryz.prog c_slices_insertionSortCmpFunc_store_place r_slices_insertionSortCmpFunc_store_place args M R) : CallsM Tryz.prog F.slices_insertionSortCmpFunc_store_place args M R :=
  fn_ok (kf := k_slices_insertionSortCmpFunc_store_place) Tryz.func157 (by kernel_rfl) (by kernel_rfl) hn (by kernel_rfl) h
/-- slices.heapSortCmpFunc[portage/store.place] -/
def k_slices_heapSortCmpFunc_store_place (i : Nat) : List Nat := match i with | 0 => [13] | 2 => [1, 2, 14, 15, 16] | 3 => [17, 18, 19] | 4 => [20] | 6 => [24, 25, 26, 27, 28, 29] | 5 => [22, 23] | 7 => [10, 30, 31] | 8 => [32] | 10 => [36, 37, 38, 39, 40, 41, 42, 43, 44, 45, 46, 47, 48, 49, 50, 51, 52, 53] | 11 => [54, 55, 56, 57, 58, 59] | 9 => [34, 35] | _ => []
def c_slices_heapSortCmpFunc_store_place : RCode :=
 .seq (.ops [mv 13 (t 1),
 mv 8 (t 13)] [13])
 (.seq (.ops [mv 9 (k 0)] [])
 (.seq (.ops [mv 14 (t 2),
 mv 15 (t 1),
 o 16 (.ibin .sub (t 14) (t 15)),
 mv 10 (t 16)] [1, 2, 14, 15, 16])
 (.seq (.seq (.ops [mv 17 (t 10),
 o 18 (.ibin .sub (t 17) (k 1)),
 o 19 (.ibin .quo (t 18) (k 2)),
 mv 11 (t 19)] [17, 18, 19])
 (.block 0 (.loop (.seq (.seq (.ops [mv 20 (t 11),
  o 21 (.ibin .geq (t 20) (k 0))] [20])
  (.cond (t 21)
   (.skip)
   (.exit 0)))
  (.seq (.block 1 (.ops [mv 24 (t 0),
  mv 25 (t 11),
  mv 26 (t 10),
  mv 27 (t 8),
  mv 28 (t 3),
  ca 29 F.slices_siftDownCmpFunc_store_place [(t 24), (t 25), (t 26), (t 27), (t 28)]] [24, 25, 26, 27, 28, 29]))
  (.ops [mv 22 (t 11),
  o 23 (.ibin .sub (t 22) (k 1)),
  mv 11 (t 23)] [22, 23]))))))
 (.seq (.ops [mv 30 (t 10),
 o 31 (.ibin .sub (t 30) (k 1)),
 mv 12 (t 31)] [10, 30, 31])
 (.block 2 (.loop (.seq (.seq (.ops [mv 32 (t 12),
  o 33 (.ibin .geq (t 32) (k 0))] [32])
  (.cond (t 33)
   (.skip)
   (.exit 2)))
  (.seq (.block 3 (.seq (.draw (.take (mv 36 (t 0)) (.take (mv 37 (t 8)) (.take (mv 38 (t 0)) (.take (mv 39 (t 8)) (.take (mv 40 (t 12)) (.take (ad 41 (t 39) (t 40)) (.take (mv 42 (t 0)) (.take (mv 43 (t 8)) (.take (mv 44 (t 12)) (.take (ad 45 (t 43) (t 44)) (.take (o 46 (.iaddr 6 (t 42) (t 45))) (.take (la 47 6 (t 46)) (.take (mv 48 (t 0)) (.take (mv 49 (t 8)) (.take (o 50 (.iaddr 6 (t 48) (t 49))) (.take (la 51 6 (t 50)) (.take (o 52 (.iaddr 6 (t 36) (t 37))) (.alt (st 6 (t 52) (t 47)) false
   (.take (o 53 (.iaddr 6 (t 38) (t 41))) (.alt (st 6 (t 53) (t 51)) false
    (.done)
    (.none)))
   (.none))))))))))))))))))) [36, 37, 38, 39, 40, 41, 42, 43, 44, 45, 46, 47, 48, 49, 50, 51, 52, 53])
  (.ops [mv 54 (t 0),
  mv 55 (t 9),
  mv 56 (t 12),
  mv 57 (t 8),
  mv 58 (t 3),
  ca 59 F.slices_siftDownCmpFunc_store_place [(t 54), (t 55), (t 56), (t 57), (t 58)]] [54, 55, 56, 57, 58, 59])))
  (.ops [mv 34 (t 12),
  o 35 (.ibin .sub (t 34) (k 1)),
  mv 12 (t 35)] [34, 35])))))))))
def r_slices_heapSortCmpFunc_store_place : List RRes := []
theorem fo_slices_heapSortCmpFunc_store_place {args : List Value} {M : Mem} {R : Value → Mem → Prop} (hn : args.length ≤ 60) (h : vfn Tryz.prog c_slices_heapSortCmpFunc_store_place r_slices_heapSortCmpFunc_store_place args M R) : CallsM Tryz.prog F.slices_heapSortCmpFunc_store_place args M R :=
  fn_ok (kf := k_slices_heapSortCmpFunc_store_place) Tryz.func158 (by kernel_rfl) (by kernel_rfl) hn (by kernel_rfl) h
/-- slices.breakPatternsCmpFunc[portage/store.place] -/
def k_slices_breakPatternsCmpFunc_store_place (i : Nat) : List Nat := match i with | 0 => [2, 13, 14, 15] | 1 => [16] | 2 => [18, 19] | 3 => [20, 21] | 4 => [22, 23, 24, 25, 26, 27] | 5 => [28, 29, 30, 31, 32, 33, 34] | 7 => [38, 39, 40, 41, 42] | 8 => [43, 44] | 9 => [46, 47, 48] | 10 => [12, 49, 50, 51, 52, 53, 54, 55, 56, 57, 58, 59, 60, 61, 62, 63, 64, 65, 66] | 6 => [36, 37] | _ => []
def c_slices_breakPatternsCmpFunc_store_place : RCode :=
 .seq (.ops [mv 13 (t 2),
 mv 14 (t 1),
 o 15 (.ibin .sub (t 13) (t 14)),
 mv 8 (t 15)] [2, 13, 14, 15])
 (.seq (.ops [mv 16 (t 8),
 o 17 (.ibin .geq (t 16) (k 8))] [16])
 (.cond (t 17)
  (.seq (.ops [mv 18 (t 8),
  o 19 (.conv .u64 (t 18)),
  o 9 (.alloc 227 [(.int .u64 0)]),
  st 1 (t 9) (t 19)] [18, 19])
  (.seq (.ops [mv 20 (t 8),
  ca 21 F.slices_nextPowerOfTwo [(t 20)],
  mv 10 (t 21)] [20, 21])
  (.seq (.ops [mv 22 (t 1),
  mv 23 (t 8),
  o 24 (.ibin .quo (t 23) (k 4)),
  o 25 (.ibin .mul (t 24) (k 2)),
  ad 26 (t 22) (t 25),
  o 27 (.ibin .sub (t 26) (k 1)),
  mv 11 (t 27)] [22, 23, 24, 25, 26, 27])
  (.block 0 (.loop (.seq (.seq (.ops [mv 28 (t 11),
   mv 29 (t 1),
   mv 30 (t 8),
   o 31 (.ibin .quo (t 30) (k 4)),
   o 32 (.ibin .mul (t 31) (k 2)),
   ad 33 (t 29) (t 32),
   ad 34 (t 33) (k 1),
   o 35 (.ibin .leq (t 28) (t 34))] [28, 29, 30, 31, 32, 33, 34])
   (.cond (t 35)
    (.skip)
    (.exit 0)))
   (.seq (.block 1 (.seq (.ops [ca 38 F.slices_xorshift_Next [(t 9)],
   mv 39 (t 10),
   o 40 (.ibin .sub (t 39) (.const (.int .u64 1))),
   o 41 (.ibin .and (t 38) (t 40)),
   o 42 (.conv .i64 (t 41)),
   mv 12 (t 42)] [38, 39, 40, 41, 42])
   (.seq (.seq (.ops [mv 43 (t 12),
   mv 44 (t 8),
   o 45 (.ibin .geq (t 43) (t 44))] [43, 44])
   (.cond (t 45)
    (.ops [mv 46 (t 12),
    mv 47 (t 8),
    o 48 (.ibin .sub (t 46) (t 47)),
    mv 12 (t 48)] [46, 47, 48])
    (.skip)))
   (.draw (.take (mv 49 (t 0)) (.take (mv 50 (t 11)) (.take (mv 51 (t 0)) (.take (mv 52 (t 1)) (.take (mv 53 (t 12)) (.take (ad 54 (t 52) (t 53)) (.take (mv 55 (t 0)) (.take (mv 56 (t 1)) (.take (mv 57 (t 12)) (.take (ad 58 (t 56) (t 57)) (.take (o 59 (.iaddr 6 (t 55) (t 58))) (.take (la 60 6 (t 59)) (.take (mv 61 (t 0)) (.take (mv 62 (t 11)) (.take (o 63 (.iaddr 6 (t 61) (t 62))) (.take (la 64 6 (t 63)) (.take (o 65 (.iaddr 6 (t 49) (t 50))) (.alt (st 6 (t 65) (t 60)) false
    (.take (o 66 (.iaddr 6 (t 51) (t 54))) (.alt (st 6 (t 66) (t 64)) false
     (.done)
     (.none)))
    (.none))))))))))))))))))) [12, 49, 50, 51, 52, 53, 54, 55, 56, 57, 58, 59, 60, 61, 62, 63, 64, 65, 66]))))
   (.ops [mv 36 (t 11),
   ad 37 (t 36) (k 1),
   mv 11 (t 37)] [36, 37]))))))))
  (.skip)))
def r_slices_breakPatternsCmpFunc_store_place : List RRes := []
theorem fo_slices_breakPatternsCmpFunc_store_place {args : List Value} {M : Mem} {R : Value → Mem → Prop} (hn : args.length ≤ 67) (h : vfn Tryz.prog c_slices_breakPatternsCmpFunc_store_place r_slices_breakPatternsCmpFunc_store_place args M R) : CallsM Tryz.prog F.slices_breakPatternsCmpFunc_store_place args M R :=
  fn_ok (kf := k_slices_breakPatternsCmpFunc_store_place) Tryz.func159 (by kernel_rfl) (by kernel_rfl) hn (by kernel_rfl) h
/-- slices.choosePivotCmpFunc[portage/store.place] -/
def k_slices_choosePivotCmpFunc_store_place (i : Nat) : List Nat := match i with | 0 => [8, 9] | 1 => [2, 15, 16, 17] | 3 => [18, 19, 20, 21, 22] | 4 => [23, 24, 25, 26, 27] | 5 => [1, 28, 29, 30, 31, 32] | 6 => [33] | 7 => [10, 35] | 8 => [37, 38, 39, 40] | 9 => [41, 42, 43, 44] | 10 => [45, 46, 47, 48] | 11 => [0, 3, 12, 14, 49, 50, 51, 52, 53, 54] | 12 => [11] | 14 => [58] | 15 => [13, 59] | 16 => [55, 61] | 17 => [13, 62] | 13 => [13, 56] | _ => []
def c_slices_choosePivotCmpFunc_store_place : RCode :=
 .seq (.ops [mv 8 (k 0),
 mv 9 (k 0)] [8, 9])
 (.seq (.ops [mv 15 (t 2),
 mv 16 (t 1),
 o 17 (.ibin .sub (t 15) (t 16)),
 mv 10 (t 17)] [2, 15, 16, 17])
 (.seq (.ops [o 11 (.alloc 3 [(i 0)])] [])
 (.seq (.ops [mv 18 (t 1),
 mv 19 (t 10),
 o 20 (.ibin .quo (t 19) (k 4)),
 o 21 (.ibin .mul (t 20) (k 1)),
 ad 22 (t 18) (t 21),
 mv 12 (t 22)] [18, 19, 20, 21, 22])
 (.seq (.ops [mv 23 (t 1),
 mv 24 (t 10),
 o 25 (.ibin .quo (t 24) (k 4)),
 o 26 (.ibin .mul (t 25) (k 2)),
 ad 27 (t 23) (t 26),
 mv 13 (t 27)] [23, 24, 25, 26, 27])
 (.seq (.ops [mv 28 (t 1),
 mv 29 (t 10),
 o 30 (.ibin .quo (t 29) (k 4)),
 o 31 (.ibin .mul (t 30) (k 3)),
 ad 32 (t 28) (t 31),
 mv 14 (t 32)] [1, 28, 29, 30, 31, 32])
 (.seq (.seq (.ops [mv 33 (t 10),
 o 34 (.ibin .geq (t 33) (k 8))] [33])
 (.cond (t 34)
  (.seq (.seq (.ops [mv 35 (t 10),
  o 36 (.ibin .geq (t 35) (k 50))] [10, 35])
  (.cond (t 36)
   (.seq (.ops [mv 37 (t 0),
   mv 38 (t 12),
   mv 39 (t 3),
   ca 40 F.slices_medianAdjacentCmpFunc_store_place [(t 37), (t 38), (t 11), (t 39)],
   mv 12 (t 40)] [37, 38, 39, 40])
   (.seq (.ops [mv 41 (t 0),
   mv 42 (t 13),
   mv 43 (t 3),
   ca 44 F.slices_medianAdjacentCmpFunc_store_place [(t 41), (t 42), (t 11), (t 43)],
   mv 13 (t 44)] [41, 42, 43, 44])
   (.ops [mv 45 (t 0),
   mv 46 (t 14),
   mv 47 (t 3),
   ca 48 F.slices_medianAdjacentCmpFunc_store_place [(t 45), (t 46), (t 11), (t 47)],
   mv 14 (t 48)] [45, 46, 47, 48])))
   (.skip)))
  (.ops [mv 49 (t 0),
  mv 50 (t 12),
  mv 51 (t 13),
  mv 52 (t 14),
  mv 53 (t 3),
  ca 54 F.slices_medianCmpFunc_store_place [(t 49), (t 50), (t 51), (t 52), (t 11), (t 53)],
  mv 13 (t 54)] [0, 3, 12, 14, 49, 50, 51, 52, 53, 54]))
  (.skip)))
 (.seq (.ops [l1 55 (t 11)] [11])
 (.block 0 (.seq (.ops [o 58 (.ibin .eql (t 55) (k 0)),
 mv 57 (t 58)] [58])
 (.cond (t 57)
  (.seq (.ops [mv 59 (t 13),
  mv 8 (t 59),
  mv 9 (k 1)] [13, 59])
  (.ret))
  (.seq (.ops [o 61 (.ibin .eql (t 55) (k 12)),
  mv 60 (t 61)] [55, 61])
  (.cond (t 60)
   (.seq (.ops [mv 62 (t 13),
   mv 8 (t 62),
   mv 9 (k 2)] [13, 62])
   (.ret))
   (.seq (.ops [mv 56 (t 13),
   mv 8 (t 56),
   mv 9 (k 0)] [13, 56])
   (.ret))))))))))))))
def r_slices_choosePivotCmpFunc_store_place : List RRes := [.tmp 8, .tmp 9]
theorem fo_slices_choosePivotCmpFunc_store_place {args : List Value} {M : Mem} {R : Value → Mem → Prop} (hn : args.length ≤ 63) (h : vfn Tryz.prog c_slices_choosePivotCmpFunc_store_place r_slices_choosePivotCmpFunc_store_place args M R) : CallsM Tryz.prog F.slices_choosePivotCmpFunc_store_place args M R :=
  fn_ok (kf := k_slices_choosePivotCmpFunc_store_place) Tryz.func160 (by kernel_rfl) (by kernel_rfl) hn (by kernel_rfl) h
/-- slices.reverseRangeCmpFunc[portage/store.place] -/
def k_slices_reverseRangeCmpFunc_store_place (i : Nat) : List Nat := match i with | 0 => [1, 10] | 1 => [2, 11, 12] | 2 => [13, 14] | 3 => [16, 17, 18, 19, 20, 21, 22, 23, 24, 25, 26, 27, 28, 29] | 4 => [30, 31] | 5 => [32, 33] | _ => []
def c_slices_reverseRangeCmpFunc_store_place : RCode :=
 .seq (.ops [mv 10 (t 1),
 mv 8 (t 10)] [1, 10])
 (.seq (.ops [mv 11 (t 2),
 o 12 (.ibin .sub (t 11) (k 1)),
 mv 9 (t 12)] [2, 11, 12])
 (.block 0 (.loop (.seq (.seq (.ops [mv 13 (t 8),
  mv 14 (t 9),
  o 15 (.ibin .lss (t 13) (t 14))] [13, 14])
  (.cond (t 15)
   (.skip)
   (.exit 0)))
  (.block 1 (.seq (.draw (.take (mv 16 (t 0)) (.take (mv 17 (t 8)) (.take (mv 18 (t 0)) (.take (mv 19 (t 9)) (.take (mv 20 (t 0)) (.take (mv 21 (t 9)) (.take (o 22 (.iaddr 6 (t 20) (t 21))) (.take (la 23 6 (t 22)) (.take (mv 24 (t 0)) (.take (mv 25 (t 8)) (.take (o 26 (.iaddr 6 (t 24) (t 25))) (.take (la 27 6 (t 26)) (.take (o 28 (.iaddr 6 (t 16) (t 17))) (.alt (st 6 (t 28) (t 23)) false
   (.take (o 29 (.iaddr 6 (t 18) (t 19))) (.alt (st 6 (t 29) (t 27)) false
    (.done)
    (.none)))
   (.none))))))))))))))) [16, 17, 18, 19, 20, 21, 22, 23, 24, 25, 26, 27, 28, 29])
  (.seq (.ops [mv 30 (t 8),
  ad 31 (t 30) (k 1),
  mv 8 (t 31)] [30, 31])
  (.ops [mv 32 (t 9),
  o 33 (.ibin .sub (t 32) (k 1)),
  mv 9 (t 33)] [32, 33]))))))))
def r_slices_reverseRangeCmpFunc_store_place : List RRes := []
theorem fo_slices_reverseRangeCmpFunc_store_place {args : List Value} {M : Mem} {R : Value → Mem → Prop} (hn : args.length ≤ 34) (h : vfn Tryz.prog c_slices_reverseRangeCmpFunc_store_place r_slices_reverseRangeCmpFunc_store_place args M R) : CallsM Tryz.prog F.slices_reverseRangeCmpFunc_store_place args M R :=
  fn_ok (kf := k_slices_reverseRangeCmpFunc_store_place) Tryz.func161 (by kernel_rfl) (by kernel_rfl) hn (by kernel_rfl) h
/-- slices.partialInsertionSortCmpFunc[portage/store.place] -/
def k_slices_partialInsertionSortCmpFunc_store_place (i : Nat) : List Nat := match i with | 0 => [8] | 1 => [13, 14] | 3 => [15] | 5 => [19, 20, 21, 22, 23, 24, 25, 26, 27, 28, 29, 30, 31, 32, 33, 34, 35] | 6 => [37, 38] | 7 => [39, 40] | 9 => [42, 43, 44] | 11 => [46, 47, 48, 49, 50, 51, 52, 53, 54, 55, 56, 57, 58, 59, 60, 61] | 12 => [62, 63, 64] | 13 => [66, 67] | 14 => [68] | 16 => [72, 73, 74, 75, 76, 77, 78, 79, 80, 81, 82, 83] | 17 => [85, 86, 87, 88, 89, 90, 91, 92, 93, 94, 95, 96, 97, 98, 99, 100] | 15 => [70, 71] | 18 => [101, 102, 103] | 19 => [105, 106] | 20 => [107, 108] | 22 => [112, 113, 114, 115, 116, 117, 118, 119, 120, 121, 122, 123] | 23 => [125, 126, 127, 128, 129, 130, 131, 132, 133, 134, 135, 136, 137, 138, 139, 140] | 21 => [110, 111] | 4 => [17, 18] | _ => []
def c_slices_partialInsertionSortCmpFunc_store_place : RCode :=
 .seq (.ops [mv 8 (kb false)] [8])
 (.seq (.ops [mv 13 (t 1),
 ad 14 (t 13) (k 1),
 mv 9 (t 14)] [13, 14])
 (.seq (.seq (.ops [mv 10 (k 0)] [])
 (.block 0 (.loop (.seq (.seq (.ops [mv 15 (t 10),
  o 16 (.ibin .lss (t 15) (k 5))] [15])
  (.cond (t 16)
   (.skip)
   (.exit 0)))
  (.seq (.block 1 (.seq (.block 2 (.loop (.seq (.seq (.draw (.take (mv 19 (t 9)) (.take (mv 20 (t 2)) (.take (o 21 (.ibin .lss (t 19) (t 20))) (.take (os 22 (.mov (t 21))) (.take (gt 22 23 (.mov (t 3))) (.take (gt 22 24 (.mov (t 0))) (.take (gt 22 25 (.mov (t 9))) (.take (gt 22 26 (.iaddr 6 (t 24) (t 25))) (.take (gt 22 27 (.load true 6 (t 26))) (.take (gt 22 28 (.mov (t 0))) (.take (gt 22 29 (.mov (t 9))) (.take (gt 22 30 (.ibin .sub (t 29) (k 1))) (.take (gt 22 31 (.iaddr 6 (t 28) (t 30))) (.take (gt 22 32 (.load true 6 (t 31))) (.alt (gt 22 33 (.call (t 23) [(t 27), (t 32)])) false
    (.take (gt 22 34 (.ibin .lss (t 33) (k 0))) (.take (gt 22 35 (.not (t 34))) (.take (o 36 (.pick (t 22) (t 35) (kb false))) (.done))))
    (.none)))))))))))))))) [19, 20, 21, 22, 23, 24, 25, 26, 27, 28, 29, 30, 31, 32, 33, 34, 35])
   (.cond (t 36)
    (.skip)
    (.exit 2)))
   (.block 3 (.ops [mv 37 (t 9),
   ad 38 (t 37) (k 1),
   mv 9 (t 38)] [37, 38])))))
  (.seq (.seq (.ops [mv 39 (t 9),
  mv 40 (t 2),
  o 41 (.ibin .eql (t 39) (t 40))] [39, 40])
  (.cond (t 41)
   (.seq (.ops [mv 8 (kb true)] [])
   (.ret))
   (.skip)))
  (.seq (.seq (.ops [mv 42 (t 2),
  mv 43 (t 1),
  o 44 (.ibin .sub (t 42) (t 43)),
  o 45 (.ibin .lss (t 44) (k 50))] [42, 43, 44])
  (.cond (t 45)
   (.seq (.ops [mv 8 (kb false)] [])
   (.ret))
   (.skip)))
  (.seq (.draw (.take (mv 46 (t 0)) (.take (mv 47 (t 9)) (.take (mv 48 (t 0)) (.take (mv 49 (t 9)) (.take (o 50 (.ibin .sub (t 49) (k 1))) (.take (mv 51 (t 0)) (.take (mv 52 (t 9)) (.take (o 53 (.ibin .sub (t 52) (k 1))) (.take (o 54 (.iaddr 6 (t 51) (t 53))) (.take (la 55 6 (t 54)) (.take (mv 56 (t 0)) (.take (mv 57 (t 9)) (.take (o 58 (.iaddr 6 (t 56) (t 57))) (.take (la 59 6 (t 58)) (.take (o 60 (.iaddr 6 (t 46) (t 47))) (.alt (st 6 (t 60) (t 55)) false
   (.take (o 61 (.iaddr 6 (t 48) (t 50))) (.alt (st 6 (t 61) (t 59)) false
    (.done)
    (.none)))
   (.none))))))))))))))))) [46, 47, 48, 49, 50, 51, 52, 53, 54, 55, 56, 57, 58, 59, 60, 61])
  (.seq (.seq (.ops [mv 62 (t 9),
  mv 63 (t 1),
  o 64 (.ibin .sub (t 62) (t 63)),
  o 65 (.ibin .geq (t 64) (k 2))] [62, 63, 64])
  (.cond (t 65)
   (.seq (.ops [mv 66 (t 9),
   o 67 (.ibin .sub (t 66) (k 1)),
   mv 11 (t 67)] [66, 67])
   (.block 4 (.loop (.seq (.seq (.ops [mv 68 (t 11),
    o 69 (.ibin .geq (t 68) (k 1))] [68])
    (.cond (t 69)
     (.skip)
     (.exit 4)))
    (.seq (.block 5 (.seq (.seq (.draw (.take (mv 72 (t 3)) (.take (mv 73 (t 0)) (.take (mv 74 (t 11)) (.take (o 75 (.iaddr 6 (t 73) (t 74))) (.take (la 76 6 (t 75)) (.take (mv 77 (t 0)) (.take (mv 78 (t 11)) (.take (o 79 (.ibin .sub (t 78) (k 1))) (.take (o 80 (.iaddr 6 (t 77) (t 79))) (.take (la 81 6 (t 80)) (.alt (o 82 (.call (t 72) [(t 76), (t 81)])) false
     (.take (o 83 (.ibin .lss (t 82) (k 0))) (.take (o 84 (.not (t 83))) (.done)))
     (.none)))))))))))) [72, 73, 74, 75, 76, 77, 78, 79, 80, 81, 82, 83])
    (.cond (t 84)
     (.exit 4)
     (.skip)))
    (.draw (.take (mv 85 (t 0)) (.take (mv 86 (t 11)) (.take (mv 87 (t 0)) (.take (mv 88 (t 11)) (.take (o 89 (.ibin .sub (t 88) (k 1))) (.take (mv 90 (t 0)) (.take (mv 91 (t 11)) (.take (o 92 (.ibin .sub (t 91) (k 1))) (.take (o 93 (.iaddr 6 (t 90) (t 92))) (.take (la 94 6 (t 93)) (.take (mv 95 (t 0)) (.take (mv 96 (t 11)) (.take (o 97 (.iaddr 6 (t 95) (t 96))) (.take (la 98 6 (t 97)) (.take (o 99 (.iaddr 6 (t 85) (t 86))) (.alt (st 6 (t 99) (t 94)) false
     (.take (o 100 (.iaddr 6 (t 87) (t 89))) (.alt (st 6 (t 100) (t 98)) false
      (.done)
      (.none)))
     (.none))))))))))))))))) [85, 86, 87, 88, 89, 90, 91, 92, 93, 94, 95, 96, 97, 98, 99, 100])))
    (.ops [mv 70 (t 11),
    o 71 (.ibin .sub (t 70) (k 1)),
    mv 11 (t 71)] [70, 71]))))))
   (.skip)))
  (.seq (.ops [mv 101 (t 2),
  mv 102 (t 9),
  o 103 (.ibin .sub (t 101) (t 102)),
  o 104 (.ibin .geq (t 103) (k 2))] [101, 102, 103])
  (.cond (t 104)
   (.seq (.ops [mv 105 (t 9),
   ad 106 (t 105) (k 1),
   mv 12 (t 106)] [105, 106])
   (.block 6 (.loop (.seq (.seq (.ops [mv 107 (t 12),
    mv 108 (t 2),
    o 109 (.ibin .lss (t 107) (t 108))] [107, 108])
    (.cond (t 109)
     (.skip)
     (.exit 6)))
    (.seq (.block 7 (.seq (.seq (.draw (.take (mv 112 (t 3)) (.take (mv 113 (t 0)) (.take (mv 114 (t 12)) (.take (o 115 (.iaddr 6 (t 113) (t 114))) (.take (la 116 6 (t 115)) (.take (mv 117 (t 0)) (.take (mv 118 (t 12)) (.take (o 119 (.ibin .sub (t 118) (k 1))) (.take (o 120 (.iaddr 6 (t 117) (t 119))) (.take (la 121 6 (t 120)) (.alt (o 122 (.call (t 112) [(t 116), (t 121)])) false
     (.take (o 123 (.ibin .lss (t 122) (k 0))) (.take (o 124 (.not (t 123))) (.done)))
     (.none)))))))))))) [112, 113, 114, 115, 116, 117, 118, 119, 120, 121, 122, 123])
    (.cond (t 124)
     (.exit 6)
     (.skip)))
    (.draw (.take (mv 125 (t 0)) (.take (mv 126 (t 12)) (.take (mv 127 (t 0)) (.take (mv 128 (t 12)) (.take (o 129 (.ibin .sub (t 128) (k 1))) (.take (mv 130 (t 0)) (.take (mv 131 (t 12)) (.take (o 132 (.ibin .sub (t 131) (k 1))) (.take (o 133 (.iaddr 6 (t 130) (t 132))) (.take (la 134 6 (t 133)) (.take (mv 135 (t 0)) (.take (mv 136 (t 12)) (.take (o 137 (.iaddr 6 (t 135) (t 136))) (.take (la 138 6 (t 137)) (.take (o 139 (.iaddr 6 (t 125) (t 126))) (.alt (st 6 (t 139) (t 134)) false
     (.take (o 140 (.iaddr 6 (t 127) (t 129))) (.alt (st 6 (t 140) (t 138)) false
      (.done)
      (.none)))
     (.none))))))))))))))))) [125, 126, 127, 128, 129, 130, 131, 132, 133, 134, 135, 136, 137, 138, 139, 140])))
    (.ops [mv 110 (t 12),
    ad 111 (t 110) (k 1),
    mv 12 (t 111)] [110, 111]))))))
   (.skip)))))))))
  (.ops [mv 17 (t 10),
  ad 18 (t 17) (k 1),
  mv 10 (t 18)] [17, 18]))))))
 (.seq (.ops [mv 8 (kb false)] [])
 (.ret))))
def r_slices_partialInsertionSortCmpFunc_store_place : List RRes := [.tmp 8]
theorem fo_slices_partialInsertionSortCmpFunc_store_place {args : List Value} {M : Mem} {R : Value → Mem → Prop} (hn : args.length ≤ 141) (h : vfn Tryz.prog c_slices_partialInsertionSortCmpFunc_store_place r_slices_partialInsertionSortCmpFunc_store_place args M R) : CallsM Tryz.prog F.slices_partialInsertionSortCmpFunc_store_place args M R :=
  fn_ok (kf := k_slices_partialInsertionSortCmpFunc_store_place) Tryz.func162 (by kernel_rfl) (by kernel_rfl) hn (by kernel_rfl) h
/-- slices.partitionEqualCmpFunc[portage/store.place] -/
def k_slices_partitionEqualCmpFunc_store_place (i : Nat) : List Nat := match i with | 0 => [10] | 1 => [3, 13, 14, 15, 16, 17, 18, 19, 20, 21, 22, 23, 24, 25, 26] | 2 => [2, 27, 28, 29, 30] | 3 => [31, 32, 33, 34, 35, 36, 37, 38, 39, 40, 41, 42, 43, 44, 45, 46] | 4 => [48, 49] | 5 => [50, 51, 52, 53, 54, 55, 56, 57, 58, 59, 60, 61, 62, 63, 64] | 6 => [66, 67] | 7 => [68, 69] | 8 => [71, 72, 73, 74, 75, 76, 77, 78, 79, 80, 81, 82, 83, 84] | 9 => [85, 86] | 10 => [87, 88] | 11 => [11, 89] | _ => []
def c_slices_partitionEqualCmpFunc_store_place : RCode :=
 .seq (.ops [mv 10 (k 0)] [10])
 (.seq (.draw (.take (mv 13 (t 0)) (.take (mv 14 (t 1)) (.take (mv 15 (t 0)) (.take (mv 16 (t 3)) (.take (mv 17 (t 0)) (.take (mv 18 (t 3)) (.take (o 19 (.iaddr 6 (t 17) (t 18))) (.take (la 20 6 (t 19)) (.take (mv 21 (t 0)) (.take (mv 22 (t 1)) (.take (o 23 (.iaddr 6 (t 21) (t 22))) (.take (la 24 6 (t 23)) (.take (o 25 (.iaddr 6 (t 13) (t 14))) (.alt (st 6 (t 25) (t 20)) false
  (.take (o 26 (.iaddr 6 (t 15) (t 16))) (.alt (st 6 (t 26) (t 24)) false
   (.done)
   (.none)))
  (.none))))))))))))))) [3, 13, 14, 15, 16, 17, 18, 19, 20, 21, 22, 23, 24, 25, 26])
 (.seq (.ops [mv 27 (t 1),
 ad 28 (t 27) (k 1),
 mv 29 (t 2),
 o 30 (.ibin .sub (t 29) (k 1)),
 mv 11 (t 28),
 mv 12 (t 30)] [2, 27, 28, 29, 30])
 (.seq (.block 0 (.loop (.block 1 (.seq (.block 2 (.loop (.seq (.seq (.draw (.take (mv 31 (t 11)) (.take (mv 32 (t 12)) (.take (o 33 (.ibin .leq (t 31) (t 32))) (.take (os 34 (.mov (t 33))) (.take (gt 34 35 (.mov (t 4))) (.take (gt 34 36 (.mov (t 0))) (.take (gt 34 37 (.mov (t 1))) (.take (gt 34 38 (.iaddr 6 (t 36) (t 37))) (.take (gt 34 39 (.load true 6 (t 38))) (.take (gt 34 40 (.mov (t 0))) (.take (gt 34 41 (.mov (t 11))) (.take (gt 34 42 (.iaddr 6 (t 40) (t 41))) (.take (gt 34 43 (.load true 6 (t 42))) (.alt (gt 34 44 (.call (t 35) [(t 39), (t 43)])) false
    (.take (gt 34 45 (.ibin .lss (t 44) (k 0))) (.take (gt 34 46 (.not (t 45))) (.take (o 47 (.pick (t 34) (t 46) (kb false))) (.done))))
    (.none))))))))))))))) [31, 32, 33, 34, 35, 36, 37, 38, 39, 40, 41, 42, 43, 44, 45, 46])
   (.cond (t 47)
    (.skip)
    (.exit 2)))
   (.block 3 (.ops [mv 48 (t 11),
   ad 49 (t 48) (k 1),
   mv 11 (t 49)] [48, 49])))))
  (.seq (.block 4 (.loop (.seq (.seq (.draw (.take (mv 50 (t 11)) (.take (mv 51 (t 12)) (.take (o 52 (.ibin .leq (t 50) (t 51))) (.take (os 53 (.mov (t 52))) (.take (gt 53 54 (.mov (t 4))) (.take (gt 53 55 (.mov (t 0))) (.take (gt 53 56 (.mov (t 1))) (.take (gt 53 57 (.iaddr 6 (t 55) (t 56))) (.take (gt 53 58 (.load true 6 (t 57))) (.take (gt 53 59 (.mov (t 0))) (.take (gt 53 60 (.mov (t 12))) (.take (gt 53 61 (.iaddr 6 (t 59) (t 60))) (.take (gt 53 62 (.load true 6 (t 61))) (.alt (gt 53 63 (.call (t 54) [(t 58), (t 62)])) false
    (.take (gt 53 64 (.ibin .lss (t 63) (k 0))) (.take (o 65 (.pick (t 53) (t 64) (kb false))) (.done)))
    (.none))))))))))))))) [50, 51, 52, 53, 54, 55, 56, 57, 58, 59, 60, 61, 62, 63, 64])
   (.cond (t 65)
    (.skip)
    (.exit 4)))
   (.block 5 (.ops [mv 66 (t 12),
   o 67 (.ibin .sub (t 66) (k 1)),
   mv 12 (t 67)] [66, 67])))))
  (.seq (.seq (.ops [mv 68 (t 11),
  mv 69 (t 12),
  o 70 (.ibin .gtr (t 68) (t 69))] [68, 69])
  (.cond (t 70)
   (.exit 0)
   (.skip)))
  (.seq (.draw (.take (mv 71 (t 0)) (.take (mv 72 (t 11)) (.take (mv 73 (t 0)) (.take (mv 74 (t 12)) (.take (mv 75 (t 0)) (.take (mv 76 (t 12)) (.take (o 77 (.iaddr 6 (t 75) (t 76))) (.take (la 78 6 (t 77)) (.take (mv 79 (t 0)) (.take (mv 80 (t 11)) (.take (o 81 (.iaddr 6 (t 79) (t 80))) (.take (la 82 6 (t 81)) (.take (o 83 (.iaddr 6 (t 71) (t 72))) (.alt (st 6 (t 83) (t 78)) false
   (.take (o 84 (.iaddr 6 (t 73) (t 74))) (.alt (st 6 (t 84) (t 82)) false
    (.done)
    (.none)))
   (.none))))))))))))))) [71, 72, 73, 74, 75, 76, 77, 78, 79, 80, 81, 82, 83, 84])
  (.seq (.ops [mv 85 (t 11),
  ad 86 (t 85) (k 1),
  mv 11 (t 86)] [85, 86])
  (.ops [mv 87 (t 12),
  o 88 (.ibin .sub (t 87) (k 1)),
  mv 12 (t 88)] [87, 88])))))))))
 (.seq (.ops [mv 89 (t 11),
 mv 10 (t 89)] [11, 89])
 (.ret)))))
def r_slices_partitionEqualCmpFunc_store_place : List RRes := [.tmp 10]
theorem fo_slices_partitionEqualCmpFunc_store_place {args : List Value} {M : Mem} {R : Value → Mem → Prop} (hn : args.length ≤ 90) (h : vfn Tryz.prog c_slices_partitionEqualCmpFunc_store_place r_slices_partitionEqualCmpFunc_store_place args M R) : CallsM Tryz.prog F.slices_partitionEqualCmpFunc_store_place args M R :=
  fn_ok (kf := k_slices_partitionEqualCmpFunc_store_place) Tryz.func163 (by kernel_rfl) (by kernel_rfl) hn (by kernel_rfl) h
/-- slices.partitionCmpFunc[portage/store.place] -/
def k_slices_partitionCmpFunc_store_place (i : Nat) : List Nat := match i with | 0 => [10, 11] | 1 => [3, 14, 15, 16, 17, 18, 19, 20, 21, 22, 23, 24, 25, 26, 27] | 2 => [2, 28, 29, 30, 31] | 3 => [32, 33, 34, 35, 36, 37, 38, 39, 40, 41, 42, 43, 44, 45, 46] | 4 => [48, 49] | 5 => [50, 51, 52, 53, 54, 55, 56, 57, 58, 59, 60, 61, 62, 63, 64, 65] | 6 => [67, 68] | 7 => [69, 70] | 8 => [0, 1, 72, 73, 74, 75, 76, 77, 78, 79, 80, 81, 82, 83, 84, 85] | 9 => [13, 86] | 10 => [87, 88, 89, 90, 91, 92, 93, 94, 95, 96, 97, 98, 99, 100] | 11 => [101, 102] | 12 => [103, 104] | 13 => [105, 106, 107, 108, 109, 110, 111, 112, 113, 114, 115, 116, 117, 118, 119] | 14 => [121, 122] | 15 => [123, 124, 125, 126, 127, 128, 129, 130, 131, 132, 133, 134, 135, 136, 137, 138] | 16 => [140, 141] | 17 => [142, 143] | 18 => [145, 146, 147, 148, 149, 150, 151, 152, 153, 154, 155, 156, 157, 158] | 19 => [159, 160] | 20 => [161, 162] | 21 => [0, 1, 163, 164, 165, 166, 167, 168, 169, 170, 171, 172, 173, 174, 175, 176] | 22 => [13, 177] | _ => []
def c_slices_partitionCmpFunc_store_place : RCode :=
 .seq (.ops [mv 10 (k 0),
 mv 11 (kb false)] [10, 11])
 (.seq (.draw (.take (mv 14 (t 0)) (.take (mv 15 (t 1)) (.take (mv 16 (t 0)) (.take (mv 17 (t 3)) (.take (mv 18 (t 0)) (.take (mv 19 (t 3)) (.take (o 20 (.iaddr 6 (t 18) (t 19))) (.take (la 21 6 (t 20)) (.take (mv 22 (t 0)) (.take (mv 23 (t 1)) (.take (o 24 (.iaddr 6 (t 22) (t 23))) (.take (la 25 6 (t 24)) (.take (o 26 (.iaddr 6 (t 14) (t 15))) (.alt (st 6 (t 26) (t 21)) false
  (.take (o 27 (.iaddr 6 (t 16) (t 17))) (.alt (st 6 (t 27) (t 25)) false
   (.done)
   (.none)))
  (.none))))))))))))))) [3, 14, 15, 16, 17, 18, 19, 20, 21, 22, 23, 24, 25, 26, 27])
 (.seq (.ops [mv 28 (t 1),
 ad 29 (t 28) (k 1),
 mv 30 (t 2),
 o 31 (.ibin .sub (t 30) (k 1)),
 mv 12 (t 29),
 mv 13 (t 31)] [2, 28, 29, 30, 31])
 (.seq (.block 0 (.loop (.seq (.seq (.draw (.take (mv 32 (t 12)) (.take (mv 33 (t 13)) (.take (o 34 (.ibin .leq (t 32) (t 33))) (.take (os 35 (.mov (t 34))) (.take (gt 35 36 (.mov (t 4))) (.take (gt 35 37 (.mov (t 0))) (.take (gt 35 38 (.mov (t 12))) (.take (gt 35 39 (.iaddr 6 (t 37) (t 38))) (.take (gt 35 40 (.load true 6 (t 39))) (.take (gt 35 41 (.mov (t 0))) (.take (gt 35 42 (.mov (t 1))) (.take (gt 35 43 (.iaddr 6 (t 41) (t 42))) (.take (gt 35 44 (.load true 6 (t 43))) (.alt (gt 35 45 (.call (t 36) [(t 40), (t 44)])) false
   (.take (gt 35 46 (.ibin .lss (t 45) (k 0))) (.take (o 47 (.pick (t 35) (t 46) (kb false))) (.done)))
   (.none))))))))))))))) [32, 33, 34, 35, 36, 37, 38, 39, 40, 41, 42, 43, 44, 45, 46])
  (.cond (t 47)
   (.skip)
   (.exit 0)))
  (.block 1 (.ops [mv 48 (t 12),
  ad 49 (t 48) (k 1),
  mv 12 (t 49)] [48, 49])))))
 (.seq (.block 2 (.loop (.seq (.seq (.draw (.take (mv 50 (t 12)) (.take (mv 51 (t 13)) (.take (o 52 (.ibin .leq (t 50) (t 51))) (.take (os 53 (.mov (t 52))) (.take (gt 53 54 (.mov (t 4))) (.take (gt 53 55 (.mov (t 0))) (.take (gt 53 56 (.mov (t 13))) (.take (gt 53 57 (.iaddr 6 (t 55) (t 56))) (.take (gt 53 58 (.load true 6 (t 57))) (.take (gt 53 59 (.mov (t 0))) (.take (gt 53 60 (.mov (t 1))) (.take (gt 53 61 (.iaddr 6 (t 59) (t 60))) (.take (gt 53 62 (.load true 6 (t 61))) (.alt (gt 53 63 (.call (t 54) [(t 58), (t 62)])) false
   (.take (gt 53 64 (.ibin .lss (t 63) (k 0))) (.take (gt 53 65 (.not (t 64))) (.take (o 66 (.pick (t 53) (t 65) (kb false))) (.done))))
   (.none))))))))))))))) [50, 51, 52, 53, 54, 55, 56, 57, 58, 59, 60, 61, 62, 63, 64, 65])
  (.cond (t 66)
   (.skip)
   (.exit 2)))
  (.block 3 (.ops [mv 67 (t 13),
  o 68 (.ibin .sub (t 67) (k 1)),
  mv 13 (t 68)] [67, 68])))))
 (.seq (.seq (.ops [mv 69 (t 12),
 mv 70 (t 13),
 o 71 (.ibin .gtr (t 69) (t 70))] [69, 70])
 (.cond (t 71)
  (.seq (.draw (.take (mv 72 (t 0)) (.take (mv 73 (t 13)) (.take (mv 74 (t 0)) (.take (mv 75 (t 1)) (.take (mv 76 (t 0)) (.take (mv 77 (t 1)) (.take (o 78 (.iaddr 6 (t 76) (t 77))) (.take (la 79 6 (t 78)) (.take (mv 80 (t 0)) (.take (mv 81 (t 13)) (.take (o 82 (.iaddr 6 (t 80) (t 81))) (.take (la 83 6 (t 82)) (.take (o 84 (.iaddr 6 (t 72) (t 73))) (.alt (st 6 (t 84) (t 79)) false
   (.take (o 85 (.iaddr 6 (t 74) (t 75))) (.alt (st 6 (t 85) (t 83)) false
    (.done)
    (.none)))
   (.none))))))))))))))) [0, 1, 72, 73, 74, 75, 76, 77, 78, 79, 80, 81, 82, 83, 84, 85])
  (.seq (.ops [mv 86 (t 13),
  mv 10 (t 86),
  mv 11 (kb true)] [13, 86])
  (.ret)))
  (.skip)))
 (.seq (.draw (.take (mv 87 (t 0)) (.take (mv 88 (t 12)) (.take (mv 89 (t 0)) (.take (mv 90 (t 13)) (.take (mv 91 (t 0)) (.take (mv 92 (t 13)) (.take (o 93 (.iaddr 6 (t 91) (t 92))) (.take (la 94 6 (t 93)) (.take (mv 95 (t 0)) (.take (mv 96 (t 12)) (.take (o 97 (.iaddr 6 (t 95) (t 96))) (.take (la 98 6 (t 97)) (.take (o 99 (.iaddr 6 (t 87) (t 88))) (.alt (st 6 (t 99) (t 94)) false
  (.take (o 100 (.iaddr 6 (t 89) (t 90))) (.alt (st 6 (t 100) (t 98)) false
   (.done)
   (.none)))
  (.none))))))))))))))) [87, 88, 89, 90, 91, 92, 93, 94, 95, 96, 97, 98, 99, 100])
 (.seq (.ops [mv 101 (t 12),
 ad 102 (t 101) (k 1),
 mv 12 (t 102)] [101, 102])
 (.seq (.ops [mv 103 (t 13),
 o 104 (.ibin .sub (t 103) (k 1)),
 mv 13 (t 104)] [103, 104])
 (.seq (.block 4 (.loop (.block 5 (.seq (.block 6 (.loop (.seq (.seq (.draw (.take (mv 105 (t 12)) (.take (mv 106 (t 13)) (.take (o 107 (.ibin .leq (t 105) (t 106))) (.take (os 108 (.mov (t 107))) (.take (gt 108 109 (.mov (t 4))) (.take (gt 108 110 (.mov (t 0))) (.take (gt 108 111 (.mov (t 12))) (.take (gt 108 112 (.iaddr 6 (t 110) (t 111))) (.take (gt 108 113 (.load true 6 (t 112))) (.take (gt 108 114 (.mov (t 0))) (.take (gt 108 115 (.mov (t 1))) (.take (gt 108 116 (.iaddr 6 (t 114) (t 115))) (.take (gt 108 117 (.load true 6 (t 116))) (.alt (gt 108 118 (.call (t 109) [(t 113), (t 117)])) false
    (.take (gt 108 119 (.ibin .lss (t 118) (k 0))) (.take (o 120 (.pick (t 108) (t 119) (kb false))) (.done)))
    (.none))))))))))))))) [105, 106, 107, 108, 109, 110, 111, 112, 113, 114, 115, 116, 117, 118, 119])
   (.cond (t 120)
    (.skip)
    (.exit 6)))
   (.block 7 (.ops [mv 121 (t 12),
   ad 122 (t 121) (k 1),
   mv 12 (t 122)] [121, 122])))))
  (.seq (.block 8 (.loop (.seq (.seq (.draw (.take (mv 123 (t 12)) (.take (mv 124 (t 13)) (.take (o 125 (.ibin .leq (t 123) (t 124))) (.take (os 126 (.mov (t 125))) (.take (gt 126 127 (.mov (t 4))) (.take (gt 126 128 (.mov (t 0))) (.take (gt 126 129 (.mov (t 13))) (.take (gt 126 130 (.iaddr 6 (t 128) (t 129))) (.take (gt 126 131 (.load true 6 (t 130))) (.take (gt 126 132 (.mov (t 0))) (.take (gt 126 133 (.mov (t 1))) (.take (gt 126 134 (.iaddr 6 (t 132) (t 133))) (.take (gt 126 135 (.load true 6 (t 134))) (.alt (gt 126 136 (.call (t 127) [(t 131), (t 135)])) false
    (.take (gt 126 137 (.ibin .lss (t 136) (k 0))) (.take (gt 126 138 (.not (t 137))) (.take (o 139 (.pick (t 126) (t 138) (kb false))) (.done))))
    (.none))))))))))))))) [123, 124, 125, 126, 127, 128, 129, 130, 131, 132, 133, 134, 135, 136, 137, 138])
   (.cond (t 139)
    (.skip)
    (.exit 8)))
   (.block 9 (.ops [mv 140 (t 13),
   o 141 (.ibin .sub (t 140) (k 1)),
   mv 13 (t 141)] [140, 141])))))
  (.seq (.seq (.ops [mv 142 (t 12),
  mv 143 (t 13),
  o 144 (.ibin .gtr (t 142) (t 143))] [142, 143])
  (.cond (t 144)
   (.exit 4)
   (.skip)))
  (.seq (.draw (.take (mv 145 (t 0)) (.take (mv 146 (t 12)) (.take (mv 147 (t 0)) (.take (mv 148 (t 13)) (.take (mv 149 (t 0)) (.take (mv 150 (t 13)) (.take (o 151 (.iaddr 6 (t 149) (t 150))) (.take (la 152 6 (t 151)) (.take (mv 153 (t 0)) (.take (mv 154 (t 12)) (.take (o 155 (.iaddr 6 (t 153) (t 154))) (.take (la 156 6 (t 155)) (.take (o 157 (.iaddr 6 (t 145) (t 146))) (.alt (st 6 (t 157) (t 152)) false
   (.take (o 158 (.iaddr 6 (t 147) (t 148))) (.alt (st 6 (t 158) (t 156)) false
    (.done)
    (.none)))
   (.none))))))))))))))) [145, 146, 147, 148, 149, 150, 151, 152, 153, 154, 155, 156, 157, 158])
  (.seq (.ops [mv 159 (t 12),
  ad 160 (t 159) (k 1),
  mv 12 (t 160)] [159, 160])
  (.ops [mv 161 (t 13),
  o 162 (.ibin .sub (t 161) (k 1)),
  mv 13 (t 162)] [161, 162])))))))))
 (.seq (.draw (.take (mv 163 (t 0)) (.take (mv 164 (t 13)) (.take (mv 165 (t 0)) (.take (mv 166 (t 1)) (.take (mv 167 (t 0)) (.take (mv 168 (t 1)) (.take (o 169 (.iaddr 6 (t 167) (t 168))) (.take (la 170 6 (t 169)) (.take (mv 171 (t 0)) (.take (mv 172 (t 13)) (.take (o 173 (.iaddr 6 (t 171) (t 172))) (.take (la 174 6 (t 173)) (.take (o 175 (.iaddr 6 (t 163) (t 164))) (.alt (st 6 (t 175) (t 170)) false
  (.take (o 176 (.iaddr 6 (t 165) (t 166))) (.alt (st 6 (t 176) (t 174)) false
   (.done)
   (.none)))
  (.none))))))))))))))) [0, 1, 163, 164, 165, 166, 167, 168, 169, 170, 171, 172, 173, 174, 175, 176])
 (.seq (.ops [mv 177 (t 13),
 mv 10 (t 177),
 mv 11 (kb false)] [13, 177])
 (.ret))))))))))))
def r_slices_partitionCmpFunc_store_place : List RRes := [.tmp 10, .tmp 11]
theorem fo_slices_partitionCmpFunc_store_place {args : List Value} {M : Mem} {R : Value → Mem → Prop} (hn : args.length ≤ 178) (h : vfn Tryz.prog c_slices_partitionCmpFunc_store_place r_slices_partitionCmpFunc_store_place args M R) : CallsM Tryz.prog F.slices_partitionCmpFunc_store_place args M R :=
  fn_ok (kf := k_slices_partitionCmpFunc_store_place) Tryz.func164 (by kernel_rfl) (by kernel_rfl) hn (by kernel_rfl) h
/-- slices.insertionSortCmpFunc[portage/api.Mark] -/
def k_slices_insertionSortCmpFunc_api_Mark (i : Nat) : List Nat := match i with | 0 => [10, 11] | 1 => [12, 13] | 3 => [17] | 4 => [18, 19, 20, 21, 22, 23, 24, 25, 26, 27, 28, 29, 30, 31, 32, 33] | 6 => [37, 38, 39, 40, 41, 42, 43, 44, 45, 46, 47, 48, 49, 50, 51, 52] | 5 => [35, 36] | 2 => [15, 16] | _ => []
def c_slices_insertionSortCmpFunc_api_Mark : RCode :=
 .seq (.ops [mv 10 (t 1),
 ad 11 (t 10) (k 1),
 mv 8 (t 11)] [10, 11])
 (.block 0 (.loop (.seq (.seq (.ops [mv 12 (t 8),
  mv 13 (t 2),
  o 14 (.ibin .lss (t 12) (t 13))] [12, 13])
  (.cond (t 14)
   (.skip)
   (.exit 0)))
  (.seq (.block 1 (.seq (.ops [mv 17 (t 8),
  mv 9 (t 17)] [17])
  (.block 2 (.loop (.seq (.seq (.draw (.take (mv 18 (t 9)) (.take (mv 19 (t 1)) (.take (o 20 (.ibin .gtr (t 18) (t 19))) (.take (os 21 (.mov (t 20))) (.take (gt 21 22 (.mov (t 3))) (.take (gt 21 23 (.mov (t 0))) (.take (gt 21 24 (.mov (t 9))) (.take (gt 21 25 (.iaddr 4 (t 23) (t 24))) (.take (gt 21 26 (.load true 4 (t 25))) (.take (gt 21 27 (.mov (t 0))) (.take (gt 21 28 (.mov (t 9))) (.take (gt 21 29 (.ibin .sub (t 28) (k 1))) (.take (gt 21 30 (.iaddr 4 (t 27) (t 29))) (.take (gt 21 31 (.load true 4 (t 30))) (.alt (gt 21 32 (.call (t 22) [(t 26), (t 31)])) false
    (.take (gt 21 33 (.ibin .lss (t 32) (k 0))) (.take (o 34 (.pick (t 21) (t 33) (kb false))) (.done)))
    (.none)))))))))))))))) [18, 19, 20, 21, 22, 23, 24, 25, 26, 27, 28, 29, 30, 31, 32, 33])
   (.cond (t 34)
    (.skip)
    (.exit 2)))
   (.seq (.block 3 (.draw (.take (mv 37 (t 0)) (.take (mv 38 (t 9)) (.take (mv 39 (t 0)) (.take (mv 40 (t 9)) (.take (o 41 (.ibin .sub (t 40) (k 1))) (.take (mv 42 (t 0)) (.take (mv 43 (t 9)) (.take (o 44 (.ibin .sub (t 43) (k 1))) (.take (o 45 (.iaddr 4 (t 42) (t 44))) (.take (la 46 4 (t 45)) (.take (mv 47 (t 0)) (.take (mv 48 (t 9)) (.take (o 49 (.iaddr 4 (t 47) (t 48))) (.take (la 50 4 (t 49)) (.take (o 51 (.iaddr 4 (t 37) (t 38))) (.alt (st 4 (t 51) (t 46)) false
    (.take (o 52 (.iaddr 4 (t 39) (t 41))) (.alt (st 4 (t 52) (t 50)) false
     (.done)
     (.none)))
    (.none))))))))))))))))) [37, 38, 39, 40, 41, 42, 43, 44, 45, 46, 47, 48, 49, 50, 51, 52]))
   (.ops [mv 35 (t 9),
   o 36 (.ibin .sub (t 35) (k 1)),
   mv 9 (t 36)] [35, 36])))))))
  (.ops [mv 15 (t 8),
  ad 16 (t 15) (k 1),
  mv 8 (t 16)] [15, 16])))))
def r_slices_insertionSortCmpFunc_api_Mark : List RRes := []
theorem fo_slices_insertionSortCmpFunc_api_Mark {args : List Value} {M : Mem} {R : Value → Mem → Prop} (hn : args.length ≤ 53) (h : vfn Tryz.prog c_slices_insertionSortCmpFunc_api_Mark r_slices_insertionSortCmpFunc_api_Mark args M R) : CallsM Tryz.prog F.slices_insertionSortCmpFunc_api_Mark args M R :=
  fn_ok (kf := k_slices_insertionSortCmpFunc_api_Mark) Tryz.func165 (by kernel_rfl) (by kernel_rfl) hn (by kernel_rfl) h
/-- slices.heapSortCmpFunc[portage/api.Mark] -/
def k_slices_heapSortCmpFunc_api_Mark (i : Nat) : List Nat := match i with | 0 => [13] | 2 => [1, 2, 14, 15, 16] | 3 => [17, 18, 19] | 4 => [20] | 6 => [24, 25, 26, 27, 28, 29] | 5 => [22, 23] | 7 => [10, 30, 31] | 8 => [32] | 10 => [36, 37, 38, 39, 40, 41, 42, 43, 44, 45, 46, 47, 48, 49, 50, 51, 52, 53] | 11 => [54, 55, 56, 57, 58, 59] | 9 => [34, 35] | _ => []
def c_slices_heapSortCmpFunc_api_Mark : RCode :=
 .seq (.ops [mv 13 (t 1),
 mv 8 (t 13)] [13])
 (.seq (.ops [mv 9 (k 0)] [])
 (.seq (.ops [mv 14 (t 2),
 mv 15 (t 1),
 o 16 (.ibin .sub (t 14) (t 15)),
 mv 10 (t 16)] [1, 2, 14, 15, 16])
 (.seq (.seq (.ops [mv 17 (t 10),
 o 18 (.ibin .sub (t 17) (k 1)),
 o 19 (.ibin .quo (t 18) (k 2)),
 mv 11 (t 19)] [17, 18, 19])
 (.block 0 (.loop (.seq (.seq (.ops [mv 20 (t 11),
  o 21 (.ibin .geq (t 20) (k 0))] [20])
  (.cond (t 21)
   (.skip)
   (.exit 0)))
  (.seq (.block 1 (.ops [mv 24 (t 0),
  mv 25 (t 11),
  mv 26 (t 10),
  mv 27 (t 8),
  mv 28 (t 3),
  ca 29 F.slices_siftDownCmpFunc_api_Mark [(t 24), (t 25), (t 26), (t 27), (t 28)]] [24, 25, 26, 27, 28, 29]))
  (.ops [mv 22 (t 11),
  o 23 (.ibin .sub (t 22) (k 1)),
  mv 11 (t 23)] [22, 23]))))))
 (.seq (.ops [mv 30 (t 10),
 o 31 (.ibin .sub (t 30) (k 1)),
 mv 12 (t 31)] [10, 30, 31])
 (.block 2 (.loop (.seq (.seq (.ops [mv 32 (t 12),
  o 33 (.ibin .geq (t 32) (k 0))] [32])
  (.cond (t 33)
   (.skip)
   (.exit 2)))
  (.seq (.block 3 (.seq (.draw (.take (mv 36 (t 0)) (.take (mv 37 (t 8)) (.take (mv 38 (t 0)) (.take (mv 39 (t 8)) (.take (mv 40 (t 12)) (.take (ad 41 (t 39) (t 40)) (.take (mv 42 (t 0)) (.take (mv 43 (t 8)) (.take (mv 44 (t 12)) (.take (ad 45 (t 43) (t 44)) (.take (o 46 (.iaddr 4 (t 42) (t 45))) (.take (la 47 4 (t 46)) (.take (mv 48 (t 0)) (.take (mv 49 (t 8)) (.take (o 50 (.iaddr 4 (t 48) (t 49))) (.take (la 51 4 (t 50)) (.take (o 52 (.iaddr 4 (t 36) (t 37))) (.alt (st 4 (t 52) (t 47)) false
   (.take (o 53 (.iaddr 4 (t 38) (t 41))) (.alt (st 4 (t 53) (t 51)) false
    (.done)
    (.none)))
   (.none))))))))))))))))))) [36, 37, 38, 39, 40, 41, 42, 43, 44, 45, 46, 47, 48, 49, 50, 51, 52, 53])
  (.ops [mv 54 (t 0),
  mv 55 (t 9),
  mv 56 (t 12),
  mv 57 (t 8),
  mv 58 (t 3),
  ca 59 F.slices_siftDownCmpFunc_api_Mark [(t 54), (t 55), (t 56), (t 57), (t 58)]] [54, 55, 56, 57, 58, 59])))
  (.ops [mv 34 (t 12),
  o 35 (.ibin .sub (t 34) (k 1)),
  mv 12 (t 35)] [34, 35])))))))))
def r_slices_heapSortCmpFunc_api_Mark : List RRes := []
theorem fo_slices_heapSortCmpFunc_api_Mark {args : List Value} {M : Mem} {R : Value → Mem → Prop} (hn : args.length ≤ 60) (h : vfn Tryz.prog c_slices_heapSortCmpFunc_api_Mark r_slices_heapSortCmpFunc_api_Mark args M R) : CallsM Tryz.prog F.slices_heapSortCmpFunc_api_Mark args M R :=
  fn_ok (kf := k_slices_heapSortCmpFunc_api_Mark) Tryz.func166 (by kernel_rfl) (by kernel_rfl) hn (by kernel_rfl) h
/-- slices.breakPatternsCmpFunc[portage/api.Mark] -/
def k_slices_breakPatternsCmpFunc_api_Mark (i : Nat) : List Nat := match i with | 0 => [2, 13, 14, 15] | 1 => [16] | 2 => [18, 19] | 3 => [20, 21] | 4 => [22, 23, 24, 25, 26, 27] | 5 => [28, 29, 30, 31, 32, 33, 34] | 7 => [38, 39, 40, 41, 42] | 8 => [43, 44] | 9 => [46, 47, 48] | 10 => [12, 49, 50, 51, 52, 53, 54, 55, 56, 57, 58, 59, 60, 61, 62, 63, 64, 65, 66] | 6 => [36, 37] | _ => []
def c_slices_breakPatternsCmpFunc_api_Mark : RCode :=
 .seq (.ops [mv 13 (t 2),
 mv 14 (t 1),
 o 15 (.ibin .sub (t 13) (t 14)),
 mv 8 (t 15)] [2, 13, 14, 15])
 (.seq (.ops [mv 16 (t 8),
 o 17 (.ibin .geq (t 16) (k 8))] [16])
 (.cond (t 17)
  (.seq (.ops [mv 18 (t 8),
  o 19 (.conv .u64 (t 18)),
  o 9 (.alloc 227 [(.int .u64 0)]),
  st 1 (t 9) (t 19)] [18, 19])
  (.seq (.ops [mv 20 (t 8),
  ca 21 F.slices_nextPowerOfTwo [(t 20)],
  mv 10 (t 21)] [20, 21])
  (.seq (.ops [mv 22 (t 1),
  mv 23 (t 8),
  o 24 (.ibin .quo (t 23) (k 4)),
  o 25 (.ibin .mul (t 24) (k 2)),
  ad 26 (t 22) (t 25),
  o 27 (.ibin .sub (t 26) (k 1)),
  mv 11 (t 27)] [22, 23, 24, 25, 26, 27])
  (.block 0 (.loop (.seq (.seq (.ops [mv 28 (t 11),
   mv 29 (t 1),
   mv 30 (t 8),
   o 31 (.ibin .quo (t 30) (k 4)),
   o 32 (.ibin .mul (t 31) (k 2)),
   ad 33 (t 29) (t 32),
   ad 34 (t 33) (k 1),
   o 35 (.ibin .leq (t 28) (t 34))] [28, 29, 30, 31, 32, 33, 34])
   (.cond (t 35)
    (.skip)
    (.exit 0)))
   (.seq (.block 1 (.seq (.ops [ca 38 F.slices_xorshift_Next [(t 9)],
   mv 39 (t 10),
   o 40 (.ibin .sub (t 39) (.const (.int .u64 1))),
   o 41 (.ibin .and (t 38) (t 40)),
   o 42 (.conv .i64 (t 41)),
   mv 12 (t 42)] [38, 39, 40, 41, 42])
   (.seq (.seq (.ops [mv 43 (t 12),
   mv 44 (t 8),
   o 45 (.ibin .geq (t 43) (t 44))] [43, 44])
   (.cond (t 45)
    (.ops [mv 46 (t 12),
    mv 47 (t 8),
    o 48 (.ibin .sub (t 46) (t 47)),
    mv 12 (t 48)] [46, 47, 48])
    (.skip)))
   (.draw (.take (mv 49 (t 0)) (.take (mv 50 (t 11)) (.take (mv 51 (t 0)) (.take (mv 52 (t 1)) (.take (mv 53 (t 12)) (.take (ad 54 (t 52) (t 53)) (.take (mv 55 (t 0)) (.take (mv 56 (t 1)) (.take (mv 57 (t 12)) (.take (ad 58 (t 56) (t 57)) (.take (o 59 (.iaddr 4 (t 55) (t 58))) (.take (la 60 4 (t 59)) (.take (mv 61 (t 0)) (.take (mv 62 (t 11)) (.take (o 63 (.iaddr 4 (t 61) (t 62))) (.take (la 64 4 (t 63)) (.take (o 65 (.iaddr 4 (t 49) (t 50))) (.alt (st 4 (t 65) (t 60)) false
    (.take (o 66 (.iaddr 4 (t 51) (t 54))) (.alt (st 4 (t 66) (t 64)) false
     (.done)
     (.none)))
    (.none))))))))))))))))))) [12, 49, 50, 51, 52, 53, 54, 55, 56, 57, 58, 59, 60, 61, 62, 63, 64, 65, 66]))))
   (.ops [mv 36 (t 11),
   ad 37 (t 36) (k 1),
   mv 11 (t 37)] [36, 37]))))))))
  (.skip)))
def r_slices_breakPatternsCmpFunc_api_Mark : List RRes := []
theorem fo_slices_breakPatternsCmpFunc_api_Mark {args : List Value} {M : Mem} {R : Value → Mem → Prop} (hn : args.length ≤ 67) (h : vfn Tryz.prog c_slices_breakPatternsCmpFunc_api_Mark r_slices_breakPatternsCmpFunc_api_Mark args M R) : CallsM Tryz.prog F.slices_breakPatternsCmpFunc_api_Mark args M R :=
  fn_ok (kf := k_slices_breakPatternsCmpFunc_api_Mark) Tryz.func167 (by kernel_rfl) (by kernel_rfl) hn (by kernel_rfl) h
/-- slices.choosePivotCmpFunc[portage/api.Mark] -/
def k_slices_choosePivotCmpFunc_api_Mark (i : Nat) : List Nat := match i with | 0 => [8, 9] | 1 => [2, 15, 16, 17] | 3 => [18, 19, 20, 21, 22] | 4 => [23, 24, 25, 26, 27] | 5 => [1, 28, 29, 30, 31, 32] | 6 => [33] | 7 => [10, 35] | 8 => [37, 38, 39, 40] | 9 => [41, 42, 43, 44] | 10 => [45, 46, 47, 48] | 11 => [0, 3, 12, 14, 49, 50, 51, 52, 53, 54] | 12 => [11] | 14 => [58] | 15 => [13, 59] | 16 => [55, 61] | 17 => [13, 62] | 13 => [13, 56] | _ => []
def c_slices_choosePivotCmpFunc_api_Mark : RCode :=
 .seq (.ops [mv 8 (k 0),
 mv 9 (k 0)] [8, 9])
 (.seq (.ops [mv 15 (t 2),
 mv 16 (t 1),
 o 17 (.ibin .sub (t 15) (t 16)),
 mv 10 (t 17)] [2, 15, 16, 17])
 (.seq (.ops [o 11 (.alloc 3 [(i 0)])] [])
 (.seq (.ops [mv 18 (t 1),
 mv 19 (t 10),
 o 20 (.ibin .quo (t 19) (k 4)),
 o 21 (.ibin .mul (t 20) (k 1)),
 ad 22 (t 18) (t 21),
 mv 12 (t 22)] [18, 19, 20, 21, 22])
 (.seq (.ops [mv 23 (t 1),
 mv 24 (t 10),
 o 25 (.ibin .quo (t 24) (k 4)),
 o 26 (.ibin .mul (t 25) (k 2)),
 ad 27 (t 23) (t 26),
 mv 13 (t 27)] [23, 24, 25, 26, 27])
 (.seq (.ops [mv 28 (t 1),
 mv 29 (t 10),
 o 30 (.ibin .quo (t 29) (k 4)),
 o 31 (.ibin .mul (t 30) (k 3)),
 ad 32 (t 28) (t 31),
 mv 14 (t 32)] [1, 28, 29, 30, 31, 32])
 (.seq (.seq (.ops [mv 33 (t 10),
 o 34 (.ibin .geq (t 33) (k 8))] [33])
 (.cond (t 34)
  (.seq (.seq (.ops [mv 35 (t 10),
  o 36 (.ibin .geq (t 35) (k 50))] [10, 35])
  (.cond (t 36)
   (.seq (.ops [mv 37 (t 0),
   mv 38 (t 12),
   mv 39 (t 3),
   ca 40 F.slices_medianAdjacentCmpFunc_api_Mark [(t 37), (t 38), (t 11), (t 39)],
   mv 12 (t 40)] [37, 38, 39, 40])
   (.seq (.ops [mv 41 (t 0),
   mv 42 (t 13),
   mv 43 (t 3),
   ca 44 F.slices_medianAdjacentCmpFunc_api_Mark [(t 41), (t 42), (t 11), (t 43)],
   mv 13 (t 44)] [41, 42, 43, 44])
   (.ops [mv 45 (t 0),
   mv 46 (t 14),
   mv 47 (t 3),
   ca 48 F.slices_medianAdjacentCmpFunc_api_Mark [(t 45), (t 46), (t 11), (t 47)],
   mv 14 (t 48)] [45, 46, 47, 48])))
   (.skip)))
  (.ops [mv 49 (t 0),
  mv 50 (t 12),
  mv 51 (t 13),
  mv 52 (t 14),
  mv 53 (t 3),
  ca 54 F.slices_medianCmpFunc_api_Mark [(t 49), (t 50), (t 51), (t 52), (t 11), (t 53)],
  mv 13 (t 54)] [0, 3, 12, 14, 49, 50, 51, 52, 53, 54]))
  (.skip)))
 (.seq (.ops [l1 55 (t 11)] [11])
 (.block 0 (.seq (.ops [o 58 (.ibin .eql (t 55) (k 0)),
 mv 57 (t 58)] [58])
 (.cond (t 57)
  (.seq (.ops [mv 59 (t 13),
  mv 8 (t 59),
  mv 9 (k 1)] [13, 59])
  (.ret))
  (.seq (.ops [o 61 (.ibin .eql (t 55) (k 12)),
  mv 60 (t 61)] [55, 61])
  (.cond (t 60)
   (.seq (.ops [mv 62 (t 13),
   mv 8 (t 62),
   mv 9 (k 2)] [13, 62])
   (.ret))
   (.seq (.ops [mv 56 (t 13),
   mv 8 (t 56),
   mv 9 (k 0)] [13, 56])
   (.ret))))))))))))))
def r_slices_choosePivotCmpFunc_api_Mark : List RRes := [.tmp 8, .tmp 9]
theorem fo_slices_choosePivotCmpFunc_api_Mark {args : List Value} {M : Mem} {R : Value → Mem → Prop} (hn : args.length ≤ 63) (h : vfn Tryz.prog c_slices_choosePivotCmpFunc_api_Mark r_slices_choosePivotCmpFunc_api_Mark args M R) : CallsM Tryz.prog F.slices_choosePivotCmpFunc_api_Mark args M R :=
  fn_ok (kf := k_slices_choosePivotCmpFunc_api_Mark) Tryz.func168 (by kernel_rfl) (by kernel_rfl) hn (by kernel_rfl) h
/-- slices.reverseRangeCmpFunc[portage/api.Mark] -/
def k_slices_reverseRangeCmpFunc_api_Mark (i : Nat) : List Nat := match i with | 0 => [1, 10] | 1 => [2, 11, 12] | 2 => [13, 14] | 3 => [16, 17, 18, 19, 20, 21, 22, 23, 24, 25, 26, 27, 28, 29] | 4 => [30, 31] | 5 => [32, 33] | _ => []
def c_slices_reverseRangeCmpFunc_api_Mark : RCode :=
 .seq (.ops [mv 10 (t 1),
 mv 8 (t 10)] [1, 10])
 (.seq (.ops [mv 11 (t 2),
 o 12 (.ibin .sub (t 11) (k 1)),
 mv 9 (t 12)] [2, 11, 12])
 (.block 0 (.loop (.seq (.seq (.ops [mv 13 (t 8),
  mv 14 (t 9),
  o 15 (.ibin .lss (t 13) (t 14))] [13, 14])
  (.cond (t 15)
   (.skip)
   (.exit 0)))
  (.block 1 (.seq (.draw (.take (mv 16 (t 0)) (.take (mv 17 (t 8)) (.take (mv 18 (t 0)) (.take (mv 19 (t 9)) (.take (mv 20 (t 0)) (.take (mv 21 (t 9)) (.take (o 22 (.iaddr 4 (t 20) (t 21))) (.take (la 23 4 (t 22)) (.take (mv 24 (t 0)) (.take (mv 25 (t 8)) (.take (o 26 (.iaddr 4 (t 24) (t 25))) (.take (la 27 4 (t 26)) (.take (o 28 (.iaddr 4 (t 16) (t 17))) (.alt (st 4 (t 28) (t 23)) false
   (.take (o 29 (.iaddr 4 (t 18) (t 19))) (.alt (st 4 (t 29) (t 27)) false
    (.done)
    (.none)))
   (.none))))))))))))))) [16, 17, 18, 19, 20, 21, 22, 23, 24, 25, 26, 27, 28, 29])
  (.seq (.ops [mv 30 (t 8),
  ad 31 (t 30) (k 1),
  mv 8 (t 31)] [30, 31])
  (.ops [mv 32 (t 9),
  o 33 (.ibin .sub (t 32) (k 1)),
  mv 9 (t 33)] [32, 33]))))))))
def r_slices_reverseRangeCmpFunc_api_Mark : List RRes := []
theorem fo_slices_reverseRangeCmpFunc_api_Mark {args : List Value} {M : Mem} {R : Value → Mem → Prop} (hn : args.length ≤ 34) (h : vfn Tryz.prog c_slices_reverseRangeCmpFunc_api_Mark r_slices_reverseRangeCmpFunc_api_Mark args M R) : CallsM Tryz.prog F.slices_reverseRangeCmpFunc_api_Mark args M R :=
  fn_ok (kf := k_slices_reverseRangeCmpFunc_api_Mark) Tryz.func169 (by kernel_rfl) (by kernel_rfl) hn (by kernel_rfl) h
/-- slices.partialInsertionSortCmpFunc[portage/api.Mark] -/
def k_slices_partialInsertionSortCmpFunc_api_Mark (i : Nat) : List Nat := match i with | 0 => [8] | 1 => [13, 14] | 3 => [15] | 5 => [19, 20, 21, 22, 23, 24, 25, 26, 27, 28, 29, 30, 31, 32, 33, 34, 35] | 6 => [37, 38] | 7 => [39, 40] | 9 => [42, 43, 44] | 11 => [46, 47, 48, 49, 50, 51, 52, 53, 54, 55, 56, 57, 58, 59, 60, 61] | 12 => [62, 63, 64] | 13 => [66, 67] | 14 => [68] | 16 => [72, 73, 74, 75, 76, 77, 78, 79, 80, 81, 82, 83] | 17 => [85, 86, 87, 88, 89, 90, 91, 92, 93, 94, 95, 96, 97, 98, 99, 100] | 15 => [70, 71] | 18 => [101, 102, 103] | 19 => [105, 106] | 20 => [107, 108] | 22 => [112, 113, 114, 115, 116, 117, 118, 119, 120, 121, 122, 123] | 23 => [125, 126, 127, 128, 129, 130, 131, 132, 133, 134, 135, 136, 137, 138, 139, 140] | 21 => [110, 111] | 4 => [17, 18] | _ => []
def c_slices_partialInsertionSortCmpFunc_api_Mark : RCode :=
 .seq (.ops [mv 8 (kb false)] [8])
 (.seq (.ops [mv 13 (t 1),
 ad 14 (t 13) (k 1),
 mv 9 (t 14)] [13, 14])
 (.seq (.seq (.ops [mv 10 (k 0)] [])
 (.block 0 (.loop (.seq (.seq (.ops [mv 15 (t 10),
  o 16 (.ibin .lss (t 15) (k 5))] [15])
  (.cond (t 16)
   (.skip)
   (.exit 0)))
  (.seq (.block 1 (.seq (.block 2 (.loop (.seq (.seq (.draw (.take (mv 19 (t 9)) (.take (mv 20 (t 2)) (.take (o 21 (.ibin .lss (t 19) (t 20))) (.take (os 22 (.mov (t 21))) (.take (gt 22 23 (.mov (t 3))) (.take (gt 22 24 (.mov (t 0))) (.take (gt 22 25 (.mov (t 9))) (.take (gt 22 26 (.iaddr 4 (t 24) (t 25))) (.take (gt 22 27 (.load true 4 (t 26))) (.take (gt 22 28 (.mov (t 0))) (.take (gt 22 29 (.mov (t 9))) (.take (gt 22 30 (.ibin .sub (t 29) (k 1))) (.take (gt 22 31 (.iaddr 4 (t 28) (t 30))) (.take (gt 22 32 (.load true 4 (t 31))) (.alt (gt 22 33 (.call (t 23) [(t 27), (t 32)])) false
    (.take (gt 22 34 (.ibin .lss (t 33) (k 0))) (.take (gt 22 35 (.not (t 34))) (.take (o 36 (.pick (t 22) (t 35) (kb false))) (.done))))
    (.none)))))))))))))))) [19, 20, 21, 22, 23, 24, 25, 26, 27, 28, 29, 30, 31, 32, 33, 34, 35])
   (.cond (t 36)
    (.skip)
    (.exit 2)))
   (.block 3 (.ops [mv 37 (t 9),
   ad 38 (t 37) (k 1),
   mv 9 (t 38)] [37, 38])))))
  (.seq (.seq (.ops [mv 39 (t 9),
  mv 40 (t 2),
  o 41 (.ibin .eql (t 39) (t 40))] [39, 40])
  (.cond (t 41)
   (.seq (.ops [mv 8 (kb true)] [])
   (.ret))
   (.skip)))
  (.seq (.seq (.ops [mv 42 (t 2),
  mv 43 (t 1),
  o 44 (.ibin .sub (t 42) (t 43)),
  o 45 (.ibin .lss (t 44) (k 50))] [42, 43, 44])
  (.cond (t 45)
   (.seq (.ops [mv 8 (kb false)] [])
   (.ret))
   (.skip)))
  (.seq (.draw (.take (mv 46 (t 0)) (.take (mv 47 (t 9)) (.take (mv 48 (t 0)) (.take (mv 49 (t 9)) (.take (o 50 (.ibin .sub (t 49) (k 1))) (.take (mv 51 (t 0)) (.take (mv 52 (t 9)) (.take (o 53 (.ibin .sub (t 52) (k 1))) (.take (o 54 (.iaddr 4 (t 51) (t 53))) (.take (la 55 4 (t 54)) (.take (mv 56 (t 0)) (.take (mv 57 (t 9)) (.take (o 58 (.iaddr 4 (t 56) (t 57))) (.take (la 59 4 (t 58)) (.take (o 60 (.iaddr 4 (t 46) (t 47))) (.alt (st 4 (t 60) (t 55)) false
   (.take (o 61 (.iaddr 4 (t 48) (t 50))) (.alt (st 4 (t 61) (t 59)) false
    (.done)
    (.none)))
   (.none))))))))))))))))) [46, 47, 48, 49, 50, 51, 52, 53, 54, 55, 56, 57, 58, 59, 60, 61])
  (.seq (.seq (.ops [mv 62 (t 9),
  mv 63 (t 1),
  o 64 (.ibin .sub (t 62) (t 63)),
  o 65 (.ibin .geq (t 64) (k 2))] [62, 63, 64])
  (.cond (t 65)
   (.seq (.ops [mv 66 (t 9),
   o 67 (.ibin .sub (t 66) (k 1)),
   mv 11 (t 67)] [66, 67])
   (.block 4 (.loop (.seq (.seq (.ops [mv 68 (t 11),
    o 69 (.ibin .geq (t 68) (k 1))] [68])
    (.cond (t 69)
     (.skip)
     (.exit 4)))
    (.seq (.block 5 (.seq (.seq (.draw (.take (mv 72 (t 3)) (.take (mv 73 (t 0)) (.take (mv 74 (t 11)) (.take (o 75 (.iaddr 4 (t 73) (t 74))) (.take (la 76 4 (t 75)) (.take (mv 77 (t 0)) (.take (mv 78 (t 11)) (.take (o 79 (.ibin .sub (t 78) (k 1))) (.take (o 80 (.iaddr 4 (t 77) (t 79))) (.take (la 81 4 (t 80)) (.alt (o 82 (.call (t 72) [(t 76), (t 81)])) false
     (.take (o 83 (.ibin .lss (t 82) (k 0))) (.take (o 84 (.not (t 83))) (.done)))
     (.none)))))))))))) [72, 73, 74, 75, 76, 77, 78, 79, 80, 81, 82, 83])
    (.cond (t 84)
     (.exit 4)
     (.skip)))
    (.draw (.take (mv 85 (t 0)) (.take (mv 86 (t 11)) (.take (mv 87 (t 0)) (.take (mv 88 (t 11)) (.take (o 89 (.ibin .sub (t 88) (k 1))) (.take (mv 90 (t 0)) (.take (mv 91 (t 11)) (.take (o 92 (.ibin .sub (t 91) (k 1))) (.take (o 93 (.iaddr 4 (t 90) (t 92))) (.take (la 94 4 (t 93)) (.take (mv 95 (t 0)) (.take (mv 96 (t 11)) (.take (o 97 (.iaddr 4 (t 95) (t 96))) (.take (la 98 4 (t 97)) (.take (o 99 (.iaddr 4 (t 85) (t 86))) (.alt (st 4 (t 99) (t 94)) false
     (.take (o 100 (.iaddr 4 (t 87) (t 89))) (.alt (st 4 (t 100) (t 98)) false
      (.done)
      (.none)))
     (.none))))))))))))))))) [85, 86, 87, 88, 89, 90, 91, 92, 93, 94, 95, 96, 97, 98, 99, 100])))
    (.ops [mv 70 (t 11),
    o 71 (.ibin .sub (t 70) (k 1)),
    mv 11 (t 71)] [70, 71]))))))
   (.skip)))
  (.seq (.ops [mv 101 (t 2),
  mv 102 (t 9),
  o 103 (.ibin .sub (t 101) (t 102)),
  o 104 (.ibin .geq (t 103) (k 2))] [101, 102, 103])
  (.cond (t 104)
   (.seq (.ops [mv 105 (t 9),
   ad 106 (t 105) (k 1),
   mv 12 (t 106)] [105, 106])
   (.block 6 (.loop (.seq (.seq (.ops [mv 107 (t 12),
    mv 108 (t 2),
    o 109 (.ibin .lss (t 107) (t 108))] [107, 108])
    (.cond (t 109)
     (.skip)
     (.exit 6)))
    (.seq (.block 7 (.seq (.seq (.draw (.take (mv 112 (t 3)) (.take (mv 113 (t 0)) (.take (mv 114 (t 12)) (.take (o 115 (.iaddr 4 (t 113) (t 114))) (.take (la 116 4 (t 115)) (.take (mv 117 (t 0)) (.take (mv 118 (t 12)) (.take (o 119 (.ibin .sub (t 118) (k 1))) (.take (o 120 (.iaddr 4 (t 117) (t 119))) (.take (la 121 4 (t 120)) (.alt (o 122 (.call (t 112) [(t 116), (t 121)])) false
     (.take (o 123 (.ibin .lss (t 122) (k 0))) (.take (o 124 (.not (t 123))) (.done)))
     (.none)))))))))))) [112, 113, 114, 115, 116, 117, 118, 119, 120, 121, 122, 123])
    (.cond (t 124)
     (.exit 6)
     (.skip)))
    (.draw (.take (mv 125 (t 0)) (.take (mv 126 (t 12)) (.take (mv 127 (t 0)) (.take (mv 128 (t 12)) (.take (o 129 (.ibin .sub (t 128) (k 1))) (.take (mv 130 (t 0)) (.take (mv 131 (t 12)) (.take (o 132 (.ibin .sub (t 131) (k 1))) (.take (o 133 (.iaddr 4 (t 130) (t 132))) (.take (la 134 4 (t 133)) (.take (mv 135 (t 0)) (.take (mv 136 (t 12)) (.take (o 137 (.iaddr 4 (t 135) (t 136))) (.take (la 138 4 (t 137)) (.take (o 139 (.iaddr 4 (t 125) (t 126))) (.alt (st 4 (t 139) (t 134)) false
     (.take (o 140 (.iaddr 4 (t 127) (t 129))) (.alt (st 4 (t 140) (t 138)) false
      (.done)
      (.none)))
     (.none))))))))))))))))) [125, 126, 127, 128, 129, 130, 131, 132, 133, 134, 135, 136, 137, 138, 139, 140])))
    (.ops [mv 110 (t 12),
    ad 111 (t 110) (k 1),
    mv 12 (t 111)] [110, 111]))))))
   (.skip)))))))))
  (.ops [mv 17 (t 10),
  ad 18 (t 17) (k 1),
  mv 10 (t 18)] [17, 18]))))))
 (.seq (.ops [mv 8 (kb false)] [])
 (.ret))))
def r_slices_partialInsertionSortCmpFunc_api_Mark : List RRes := [.tmp 8]
theorem fo_slices_partialInsertionSortCmpFunc_api_Mark {args : List Value} {M : Mem} {R : Value → Mem → Prop} (hn : args.length ≤ 141) (h : vfn Tryz.prog c_slices_partialInsertionSortCmpFunc_api_Mark r_slices_partialInsertionSortCmpFunc_api_Mark args M R) : CallsM Tryz.prog F.slices_partialInsertionSortCmpFunc_api_Mark args M R :=
  fn_ok (kf := k_slices_partialInsertionSortCmpFunc_api_Mark) Tryz.func170 (by kernel_rfl) (by kernel_rfl) hn (by kernel_rfl) h
/-- slices.partitionEqualCmpFunc[portage/api.Mark] -/
def k_slices_partitionEqualCmpFunc_api_Mark (i : Nat) : List Nat := match i with | 0 => [10] | 1 => [3, 13, 14, 15, 16, 17, 18, 19, 20, 21, 22, 23, 24, 25, 26] | 2 => [2, 27, 28, 29, 30] | 3 => [31, 32, 33, 34, 35, 36, 37, 38, 39, 40, 41, 42, 43, 44, 45, 46] | 4 => [48, 49] | 5 => [50, 51, 52, 53, 54, 55, 56, 57, 58, 59, 60, 61, 62, 63, 64] | 6 => [66, 67] | 7 => [68, 69] | 8 => [71, 72, 73, 74, 75, 76, 77, 78, 79, 80, 81, 82, 83, 84] | 9 => [85, 86] | 10 => [87, 88] | 11 => [11, 89] | _ => []
def c_slices_partitionEqualCmpFunc_api_Mark : RCode :=
 .seq (.ops [mv 10 (k 0)] [10])
 (.seq (.draw (.take (mv 13 (t 0)) (.take (mv 14 (t 1)) (.take (mv 15 (t 0)) (.take (mv 16 (t 3)) (.take (mv 17 (t 0)) (.take (mv 18 (t 3)) (.take (o 19 (.iaddr 4 (t 17) (t 18))) (.take (la 20 4 (t 19)) (.take (mv 21 (t 0)) (.take (mv 22 (t 1)) (.take (o 23 (.iaddr 4 (t 21) (t 22))) (.take (la 24 4 (t 23)) (.take (o 25 (.iaddr 4 (t 13) (t 14))) (.alt (st 4 (t 25) (t 20)) false
  (.take (o 26 (.iaddr 4 (t 15) (t 16))) (.alt (st 4 (t 26) (t 24)) false
   (.done)
   (.none)))
  (.none))))))))))))))) [3, 13, 14, 15, 16, 17, 18, 19, 20, 21, 22, 23, 24, 25, 26])
 (.seq (.ops [mv 27 (t 1),
 ad 28 (t 27) (k 1),
 mv 29 (t 2),
 o 30 (.ibin .sub (t 29) (k 1)),
 mv 11 (t 28),
 mv 12 (t 30)] [2, 27, 28, 29, 30])
 (.seq (.block 0 (.loop (.block 1 (.seq (.block 2 (.loop (.seq (.seq (.draw (.take (mv 31 (t 11)) (.take (mv 32 (t 12)) (.take (o 33 (.ibin .leq (t 31) (t 32))) (.take (os 34 (.mov (t 33))) (.take (gt 34 35 (.mov (t 4))) (.take (gt 34 36 (.mov (t 0))) (.take (gt 34 37 (.mov (t 1))) (.take (gt 34 38 (.iaddr 4 (t 36) (t 37))) (.take (gt 34 39 (.load true 4 (t 38))) (.take (gt 34 40 (.mov (t 0))) (.take (gt 34 41 (.mov (t 11))) (.take (gt 34 42 (.iaddr 4 (t 40) (t 41))) (.take (gt 34 43 (.load true 4 (t 42))) (.alt (gt 34 44 (.call (t 35) [(t 39), (t 43)])) false
    (.take (gt 34 45 (.ibin .lss (t 44) (k 0))) (.take (gt 34 46 (.not (t 45))) (.take (o 47 (.pick (t 34) (t 46) (kb false))) (.done))))
    (.none))))))))))))))) [31, 32, 33, 34, 35, 36, 37, 38, 39, 40, 41, 42, 43, 44, 45, 46])
   (.cond (t 47)
    (.skip)
    (.exit 2)))
   (.block 3 (.ops [mv 48 (t 11),
   ad 49 (t 48) (k 1),
   mv 11 (t 49)] [48, 49])))))
  (.seq (.block 4 (.loop (.seq (.seq (.draw (.take (mv 50 (t 11)) (.take (mv 51 (t 12)) (.take (o 52 (.ibin .leq (t 50) (t 51))) (.take (os 53 (.mov (t 52))) (.take (gt 53 54 (.mov (t 4))) (.take (gt 53 55 (.mov (t 0))) (.take (gt 53 56 (.mov (t 1))) (.take (gt 53 57 (.iaddr 4 (t 55) (t 56))) (.take (gt 53 58 (.load true 4 (t 57))) (.take (gt 53 59 (.mov (t 0))) (.take (gt 53 60 (.mov (t 12))) (.take (gt 53 61 (.iaddr 4 (t 59) (t 60))) (.take (gt 53 62 (.load true 4 (t 61))) (.alt (gt 53 63 (.call (t 54) [(t 58), (t 62)])) false
    (.take (gt 53 64 (.ibin .lss (t 63) (k 0))) (.take (o 65 (.pick (t 53) (t 64) (kb false))) (.done)))
    (.none))))))))))))))) [50, 51, 52, 53, 54, 55, 56, 57, 58, 59, 60, 61, 62, 63, 64])
   (.cond (t 65)
    (.skip)
    (.exit 4)))
   (.block 5 (.ops [mv 66 (t 12),
   o 67 (.ibin .sub (t 66) (k 1)),
   mv 12 (t 67)] [66, 67])))))
  (.seq (.seq (.ops [mv 68 (t 11),
  mv 69 (t 12),
  o 70 (.ibin .gtr (t 68) (t 69))] [68, 69])
  (.cond (t 70)
   (.exit 0)
   (.skip)))
  (.seq (.draw (.take (mv 71 (t 0)) (.take (mv 72 (t 11)) (.take (mv 73 (t 0)) (.take (mv 74 (t 12)) (.take (mv 75 (t 0)) (.take (mv 76 (t 12)) (.take (o 77 (.iaddr 4 (t 75) (t 76))) (.take (la 78 4 (t 77)) (.take (mv 79 (t 0)) (.take (mv 80 (t 11)) (.take (o 81 (.iaddr 4 (t 79) (t 80))) (.take (la 82 4 (t 81)) (.take (o 83 (.iaddr 4 (t 71) (t 72))) (.alt (st 4 (t 83) (t 78)) false
   (.take (o 84 (.iaddr 4 (t 73) (t 74))) (.alt (st 4 (t 84) (t 82)) false
    (.done)
    (.none)))
   (.none))))))))))))))) [71, 72, 73, 74, 75, 76, 77, 78, 79, 80, 81, 82, 83, 84])
  (.seq (.ops [mv 85 (t 11),
  ad 86 (t 85) (k 1),
  mv 11 (t 86)] [85, 86])
  (.ops [mv 87 (t 12),
  o 88 (.ibin .sub (t 87) (k 1)),
  mv 12 (t 88)] [87, 88])))))))))
 (.seq (.ops [mv 89 (t 11),
 mv 10 (t 89)] [11, 89])
 (.ret)))))
def r_slices_partitionEqualCmpFunc_api_Mark : List RRes := [.tmp 10]
theorem fo_slices_partitionEqualCmpFunc_api_Mark {args : List Value} {M : Mem} {R : Value → Mem → Prop} (hn : args.length ≤ 90) (h : vfn Tryz.prog c_slices_partitionEqualCmpFunc_api_Mark r_slices_partitionEqualCmpFunc_api_Mark args M R) : CallsM Tryz.prog F.slices_partitionEqualCmpFunc_api_Mark args M R :=
  fn_ok (kf := k_slices_partitionEqualCmpFunc_api_Mark) Tryz.func171 (by kernel_rfl) (by kernel_rfl) hn (by kernel_rfl) h
/-- slices.partitionCmpFunc[portage/api.Mark] -/
def k_slices_partitionCmpFunc_api_Mark (i : Nat) : List Nat := match i with | 0 => [10, 11] | 1 => [3, 14, 15, 16, 17, 18, 19, 20, 21, 22, 23, 24, 25, 26, 27] | 2 => [2, 28, 29, 30, 31] | 3 => [32, 33, 34, 35, 36, 37, 38, 39, 40, 41, 42, 43, 44, 45, 46] | 4 => [48, 49] | 5 => [50, 51, 52, 53, 54, 55, 56, 57, 58, 59, 60, 61, 62, 63, 64, 65] | 6 => [67, 68] | 7 => [69, 70] | 8 => [0, 1, 72, 73, 74, 75, 76, 77, 78, 79, 80, 81, 82, 83, 84, 85] | 9 => [13, 86] | 10 => [87, 88, 89, 90, 91, 92, 93, 94, 95, 96, 97, 98, 99, 100] | 11 => [101, 102] | 12 => [103, 104] | 13 => [105, 106, 107, 108, 109, 110, 111, 112, 113, 114, 115, 116, 117, 118, 119] | 14 => [121, 122] | 15 => [123, 124, 125, 126, 127, 128, 129, 130, 131, 132, 133, 134, 135, 136, 137, 138] | 16 => [140, 141] | 17 => [142, 143] | 18 => [145, 146, 147, 148, 149, 150, 151, 152, 153, 154, 155, 156, 157, 158] | 19 => [159, 160] | 20 => [161, 162] | 21 => [0, 1, 163, 164, 165, 166, 167, 168, 169, 170, 171, 172, 173, 174, 175, 176] | 22 => [13, 177] | _ => []
def c_slices_partitionCmpFunc_api_Mark : RCode :=
 .seq (.ops [mv 10 (k 0),
 mv 11 (kb false)] [10, 11])
 (.seq (.draw (.take (mv 14 (t 0)) (.take (mv 15 (t 1)) (.take (mv 16 (t 0)) (.take (mv 17 (t 3)) (.take (mv 18 (t 0)) (.take (mv 19 (t 3)) (.take (o 20 (.iaddr 4 (t 18) (t 19))) (.take (la 21 4 (t 20)) (.take (mv 22 (t 0)) (.take (mv 23 (t 1)) (.take (o 24 (.iaddr 4 (t 22) (t 23))) (.take (la 25 4 (t 24)) (.take (o 26 (.iaddr 4 (t 14) (t 15))) (.alt (st 4 (t 26) (t 21)) false
  (.take (o 27 (.iaddr 4 (t 16) (t 17))) (.alt (st 4 (t 27) (t 25)) false
   (.done)
   (.none)))
  (.none))))))))))))))) [3, 14, 15, 16, 17, 18, 19, 20, 21, 22, 23, 24, 25, 26, 27])
 (.seq (.ops [mv 28 (t 1),
 ad 29 (t 28) (k 1),
 mv 30 (t 2),
 o 31 (.ibin .sub (t 30) (k 1)),
 mv 12 (t 29),
 mv 13 (t 31)] [2, 28, 29, 30, 31])
 (.seq (.block 0 (.loop (.seq (.seq (.draw (.take (mv 32 (t 12)) (.take (mv 33 (t 13)) (.take (o 34 (.ibin .leq (t 32) (t 33))) (.take (os 35 (.mov (t 34))) (.take (gt 35 36 (.mov (t 4))) (.take (gt 35 37 (.mov (t 0))) (.take (gt 35 38 (.mov (t 12))) (.take (gt 35 39 (.iaddr 4 (t 37) (t 38))) (.take (gt 35 40 (.load true 4 (t 39))) (.take (gt 35 41 (.mov (t 0))) (.take (gt 35 42 (.mov (t 1))) (.take (gt 35 43 (.iaddr 4 (t 41) (t 42))) (.take (gt 35 44 (.load true 4 (t 43))) (.alt (gt 35 45 (.call (t 36) [(t 40), (t 44)])) false
   (.take (gt 35 46 (.ibin .lss (t 45) (k 0))) (.take (o 47 (.pick (t 35) (t 46) (kb false))) (.done)))
   (.none))))))))))))))) [32, 33, 34, 35, 36, 37, 38, 39, 40, 41, 42, 43, 44, 45, 46])
  (.cond (t 47)
   (.skip)
   (.exit 0)))
  (.block 1 (.ops [mv 48 (t 12),
  ad 49 (t 48) (k 1),
  mv 12 (t 49)] [48, 49])))))
 (.seq (.block 2 (.loop (.seq (.seq (.draw (.take (mv 50 (t 12)) (.take (mv 51 (t 13)) (.take (o 52 (.ibin .leq (t 50) (t 51))) (.take (os 53 (.mov (t 52))) (.take (gt 53 54 (.mov (t 4))) (.take (gt 53 55 (.mov (t 0))) (.take (gt 53 56 (.mov (t 13))) (.take (gt 53 57 (.iaddr 4 (t 55) (t 56))) (.take (gt 53 58 (.load true 4 (t 57))) (.take (gt 53 59 (.mov (t 0))) (.take (gt 53 60 (.mov (t 1))) (.take (gt 53 61 (.iaddr 4 (t 59) (t 60))) (.take (gt 53 62 (.load true 4 (t 61))) (.alt (gt 53 63 (.call (t 54) [(t 58), (t 62)])) false
   (.take (gt 53 64 (.ibin .lss (t 63) (k 0))) (.take (gt 53 65 (.not (t 64))) (.take (o 66 (.pick (t 53) (t 65) (kb false))) (.done))))
   (.none))))))))))))))) [50, 51, 52, 53, 54, 55, 56, 57, 58, 59, 60, 61, 62, 63, 64, 65])
  (.cond (t 66)
   (.skip)
   (.exit 2)))
  (.block 3 (.ops [mv 67 (t 13),
  o 68 (.ibin .sub (t 67) (k 1)),
  mv 13 (t 68)] [67, 68])))))
 (.seq (.seq (.ops [mv 69 (t 12),
 mv 70 (t 13),
 o 71 (.ibin .gtr (t 69) (t 70))] [69, 70])
 (.cond (t 71)
  (.seq (.draw (.take (mv 72 (t 0)) (.take (mv 73 (t 13)) (.take (mv 74 (t 0)) (.take (mv 75 (t 1)) (.take (mv 76 (t 0)) (.take (mv 77 (t 1)) (.take (o 78 (.iaddr 4 (t 76) (t 77))) (.take (la 79 4 (t 78)) (.take (mv 80 (t 0)) (.take (mv 81 (t 13)) (.take (o 82 (.iaddr 4 (t 80) (t 81))) (.take (la 83 4 (t 82)) (.take (o 84 (.iaddr 4 (t 72) (t 73))) (.alt (st 4 (t 84) (t 79)) false
   (.take (o 85 (.iaddr 4 (t 74) (t 75))) (.alt (st 4 (t 85) (t 83)) false
    (.done)
    (.none)))
   (.none))))))))))))))) [0, 1, 72, 73, 74, 75, 76, 77, 78, 79, 80, 81, 82, 83, 84, 85])
  (.seq (.ops [mv 86 (t 13),
  mv 10 (t 86),
  mv 11 (kb true)] [13, 86])
  (.ret)))
  (.skip)))
 (.seq (.draw (.take (mv 87 (t 0)) (.take (mv 88 (t 12)) (.take (mv 89 (t 0)) (.take (mv 90 (t 13)) (.take (mv 91 (t 0)) (.take (mv 92 (t 13)) (.take (o 93 (.iaddr 4 (t 91) (t 92))) (.take (la 94 4 (t 93)) (.take (mv 95 (t 0)) (.take (mv 96 (t 12)) (.take (o 97 (.iaddr 4 (t 95) (t 96))) (.take (la 98 4 (t 97)) (.take (o 99 (.iaddr 4 (t 87) (t 88))) (.alt (st 4 (t 99) (t 94)) false
  (.take (o 100 (.iaddr 4 (t 89) (t 90))) (.alt (st 4 (t 100) (t 98)) false
   (.done)
   (.none)))
  (.none))))))))))))))) [87, 88, 89, 90, 91, 92, 93, 94, 95, 96, 97, 98, 99, 100])
 (.seq (.ops [mv 101 (t 12),
 ad 102 (t 101) (k 1),
 mv 12 (t 102)] [101, 102])
 (.seq (.ops [mv 103 (t 13),
 o 104 (.ibin .sub (t 103) (k 1)),
 mv 13 (t 104)] [103, 104])
 (.seq (.block 4 (.loop (.block 5 (.seq (.block 6 (.loop (.seq (.seq (.draw (.take (mv 105 (t 12)) (.take (mv 106 (t 13)) (.take (o 107 (.ibin .leq (t 105) (t 106))) (.take (os 108 (.mov (t 107))) (.take (gt 108 109 (.mov (t 4))) (.take (gt 108 110 (.mov (t 0))) (.take (gt 108 111 (.mov (t 12))) (.take (gt 108 112 (.iaddr 4 (t 110) (t 111))) (.take (gt 108 113 (.load true 4 (t 112))) (.take (gt 108 114 (.mov (t 0))) (.take (gt 108 115 (.mov (t 1))) (.take (gt 108 116 (.iaddr 4 (t 114) (t 115))) (.take (gt 108 117 (.load true 4 (t 116))) (.alt (gt 108 118 (.call (t 109) [(t 113), (t 117)])) false
    (.take (gt 108 119 (.ibin .lss (t 118) (k 0))) (.take (o 120 (.pick (t 108) (t 119) (kb false))) (.done)))
    (.none))))))))))))))) [105, 106, 107, 108, 109, 110, 111, 112, 113, 114, 115, 116, 117, 118, 119])
   (.cond (t 120)
    (.skip)
    (.exit 6)))
   (.block 7 (.ops [mv 121 (t 12),
   ad 122 (t 121) (k 1),
   mv 12 (t 122)] [121, 122])))))
  (.seq (.block 8 (.loop (.seq (.seq (.draw (.take (mv 123 (t 12)) (.take (mv 124 (t 13)) (.take (o 125 (.ibin .leq (t 123) (t 124))) (.take (os 126 (.mov (t 125))) (.take (gt 126 127 (.mov (t 4))) (.take (gt 126 128 (.mov (t 0))) (.take (gt 126 129 (.mov (t 13))) (.take (gt 126 130 (.iaddr 4 (t 128) (t 129))) (.take (gt 126 131 (.load true 4 (t 130))) (.take (gt 126 132 (.mov (t 0))) (.take (gt 126 133 (.mov (t 1))) (.take (gt 126 134 (.iaddr 4 (t 132) (t 133))) (.take (gt 126 135 (.load true 4 (t 134))) (.alt (gt 126 136 (.call (t 127) [(t 131), (t 135)])) false
    (.take (gt 126 137 (.ibin .lss (t 136) (k 0))) (.take (gt 126 138 (.not (t 137))) (.take (o 139 (.pick (t 126) (t 138) (kb false))) (.done))))
    (.none))))))))))))))) [123, 124, 125, 126, 127, 128, 129, 130, 131, 132, 133, 134, 135, 136, 137, 138])
   (.cond (t 139)
    (.skip)
    (.exit 8)))
   (.block 9 (.ops [mv 140 (t 13),
   o 141 (.ibin .sub (t 140) (k 1)),
   mv 13 (t 141)] [140, 141])))))
  (.seq (.seq (.ops [mv 142 (t 12),
  mv 143 (t 13),
  o 144 (.ibin .gtr (t 142) (t 143))] [142, 143])
  (.cond (t 144)
   (.exit 4)
   (.skip)))
  (.seq (.draw (.take (mv 145 (t 0)) (.take (mv 146 (t 12)) (.take (mv 147 (t 0)) (.take (mv 148 (t 13)) (.take (mv 149 (t 0)) (.take (mv 150 (t 13)) (.take (o 151 (.iaddr 4 (t 149) (t 150))) (.take (la 152 4 (t 151)) (.take (mv 153 (t 0)) (.take (mv 154 (t 12)) (.take (o 155 (.iaddr 4 (t 153) (t 154))) (.take (la 156 4 (t 155)) (.take (o 157 (.iaddr 4 (t 145) (t 146))) (.alt (st 4 (t 157) (t 152)) false
   (.take (o 158 (.iaddr 4 (t 147) (t 148))) (.alt (st 4 (t 158) (t 156)) false
    (.done)
    (.none)))
   (.none))))))))))))))) [145, 146, 147, 148, 149, 150, 151, 152, 153, 154, 155, 156, 157, 158])
  (.seq (.ops [mv 159 (t 12),
  ad 160 (t 159) (k 1),
  mv 12 (t 160)] [159, 160])
  (.ops [mv 161 (t 13),
  o 162 (.ibin .sub (t 161) (k 1)),
  mv 13 (t 162)] [161, 162])))))))))
 (.seq (.draw (.take (mv 163 (t 0)) (.take (mv 164 (t 13)) (.take (mv 165 (t 0)) (.take (mv 166 (t 1)) (.take (mv 167 (t 0)) (.take (mv 168 (t 1)) (.take (o 169 (.iaddr 4 (t 167) (t 168))) (.take (la 170 4 (t 169)) (.take (mv 171 (t 0)) (.take (mv 172 (t 13)) (.take (o 173 (.iaddr 4 (t 171) (t 172))) (.take (la 174 4 (t 173)) (.take (o 175 (.iaddr 4 (t 163) (t 164))) (.alt (st 4 (t 175) (t 170)) false
  (.take (o 176 (.iaddr 4 (t 165) (t 166))) (.alt (st 4 (t 176) (t 174)) false
   (.done)
   (.none)))
  (.none))))))))))))))) [0, 1, 163, 164, 165, 166, 167, 168, 169, 170, 171, 172, 173, 174, 175, 176])
 (.seq (.ops [mv 177 (t 13),
 mv 10 (t 177),
 mv 11 (kb false)] [13, 177])
 (.ret))))))))))))
def r_slices_partitionCmpFunc_api_Mark : List RRes := [.tmp 10, .tmp 11]
theorem fo_slices_partitionCmpFunc_api_Mark {args : List Value} {M : Mem} {R : Value → Mem → Prop} (hn : args.length ≤ 178) (h : vfn Tryz.prog c_slices_partitionCmpFunc_api_Mark r_slices_partitionCmpFunc_api_Mark args M R) : CallsM Tryz.prog F.slices_partitionCmpFunc_api_Mark args M R :=
  fn_ok (kf := k_slices_partitionCmpFunc_api_Mark) Tryz.func172 (by kernel_rfl) (by kernel_rfl) hn (by kernel_rfl) h
/-- cmp.isNaN[int] -/
def k_cmp_isNaN_int (i : Nat) : List Nat := match i with | 0 => [2] | 1 => [0, 3, 4, 5] | _ => []
def c_cmp_isNaN_int : RCode :=
 .seq (.ops [mv 2 (kb false)] [2])
 (.seq (.ops [mv 3 (t 0),
 mv 4 (t 0),
 o 5 (.ibin .neq (t 3) (t 4)),
 mv 2 (t 5)] [0, 3, 4, 5])
 (.ret))
def r_cmp_isNaN_int : List RRes := [.tmp 2]
theorem fo_cmp_isNaN_int {args : List Value} {M : Mem} {R : Value → Mem → Prop} (hn : args.length ≤ 6) (h : vfn Tryz.prog c_cmp_isNaN_int r_cmp_isNaN_int args M R) : CallsM Tryz.prog F.cmp_isNaN_int args M R :=
  fn_ok (kf := k_cmp_isNaN_int) Tryz.func173 (by kernel_rfl) (by kernel_rfl) hn (by kernel_rfl) h
/-- math/bits.TrailingZeros32 -/
def k_math_bits_TrailingZeros32 (i : Nat) : List Nat := match i with | 0 => [2] | 1 => [3] | 3 => [0, 5, 6, 7, 8, 9, 10, 11, 12, 13] | _ => []
def c_math_bits_TrailingZeros32 : RCode :=
 .seq (.ops [mv 2 (k 0)] [2])
 (.seq (.seq (.ops [mv 3 (t 0),
 o 4 (.ibin .eql (t 3) (.const (.int .u32 0)))] [3])
 (.cond (t 4)
  (.seq (.ops [mv 2 (k 32)] [])
  (.ret))
  (.skip)))
 (.seq (.ops [mv 5 (t 0),
 mv 6 (t 0),
 o 7 (.uneg (t 6)),
 o 8 (.ibin .and (t 5) (t 7)),
 o 9 (.ibin .mul (t 8) (.const (.int .u32 125613361))),
 o 10 (.ibin .shr (t 9) (.const (.int .u64 27))),
 o 11 (.iaddrA 32 1 (.global 1) (t 10)),
 l1 12 (t 11),
 o 13 (.conv .i64 (t 12)),
 mv 2 (t 13)] [0, 5, 6, 7, 8, 9, 10, 11, 12, 13])
 (.ret)))
def r_math_bits_TrailingZeros32 : List RRes := [.tmp 2]
theorem fo_math_bits_TrailingZeros32 {args : List Value} {M : Mem} {R : Value → Mem → Prop} (hn : args.length ≤ 14) (h : vfn Tryz.prog c_math_bits_TrailingZeros32 r_math_bits_TrailingZeros32 args M R) : CallsM Tryz.prog F.math_bits_TrailingZeros32 args M R :=
  fn_ok (kf := k_math_bits_TrailingZeros32) Tryz.func174 (by kernel_rfl) (by kernel_rfl) hn (by kernel_rfl) h
/-- math/bits.TrailingZeros64 -/
def k_math_bits_TrailingZeros64 (i : Nat) : List Nat := match i with | 0 => [2] | 1 => [3] | 3 => [0, 5, 6, 7, 8, 9, 10, 11, 12, 13] | _ => []
def c_math_bits_TrailingZeros64 : RCode :=
 .seq (.ops [mv 2 (k 0)] [2])
 (.seq (.seq (.ops [mv 3 (t 0),
 o 4 (.ibin .eql (t 3) (.const (.int .u64 0)))] [3])
 (.cond (t 4)
  (.seq (.ops [mv 2 (k 64)] [])
  (.ret))
  (.skip)))
 (.seq (.ops [mv 5 (t 0),
 mv 6 (t 0),
 o 7 (.uneg (t 6)),
 o 8 (.ibin .and (t 5) (t 7)),
 o 9 (.ibin .mul (t 8) (.const (.int .u64 285870213051353865))),
 o 10 (.ibin .shr (t 9) (.const (.int .u64 58))),
 o 11 (.iaddrA 64 1 (.global 2) (t 10)),
 l1 12 (t 11),
 o 13 (.conv .i64 (t 12)),
 mv 2 (t 13)] [0, 5, 6, 7, 8, 9, 10, 11, 12, 13])
 (.ret)))
def r_math_bits_TrailingZeros64 : List RRes := [.tmp 2]
theorem fo_math_bits_TrailingZeros64 {args : List Value} {M : Mem} {R : Value → Mem → Prop} (hn : args.length ≤ 14) (h : vfn Tryz.prog c_math_bits_TrailingZeros64 r_math_bits_TrailingZeros64 args M R) : CallsM Tryz.prog F.math_bits_TrailingZeros64 args M R :=
  fn_ok (kf := k_math_bits_TrailingZeros64) Tryz.func175 (by kernel_rfl) (by kernel_rfl) hn (by kernel_rfl) h
/-- slices.order2Ordered[string] -/
def k_slices_order2Ordered_string (i : Nat) : List Nat := match i with | 0 => [8, 9] | 1 => [0, 10, 11, 12, 13, 14, 15, 16, 17] | 2 => [3, 19, 20, 21, 22, 23] | 3 => [1, 2, 24, 25] | 4 => [1, 2, 26, 27] | _ => []
def c_slices_order2Ordered_string : RCode :=
 .seq (.ops [mv 8 (k 0),
 mv 9 (k 0)] [8, 9])
 (.seq (.seq (.draw (.take (mv 10 (t 0)) (.take (mv 11 (t 2)) (.take (o 12 (.iaddr 1 (t 10) (t 11))) (.take (l1 13 (t 12)) (.take (mv 14 (t 0)) (.take (mv 15 (t 1)) (.take (o 16 (.iaddr 1 (t 14) (t 15))) (.take (l1 17 (t 16)) (.alt (ca 18 F.cmp_Less_string [(t 13), (t 17)]) false
  (.done)
  (.none)))))))))) [0, 10, 11, 12, 13, 14, 15, 16, 17])
 (.cond (t 18)
  (.seq (.ops [mv 19 (t 3),
  o 20 (.nilck (t 19)),
  l1 21 (t 20),
  ad 22 (t 21) (k 1),
  o 23 (.nilck (t 19)),
  st 1 (t 23) (t 22)] [3, 19, 20, 21, 22, 23])
  (.seq (.ops [mv 24 (t 2),
  mv 25 (t 1),
  mv 8 (t 24),
  mv 9 (t 25)] [1, 2, 24, 25])
  (.ret)))
  (.skip)))
 (.seq (.ops [mv 26 (t 1),
 mv 27 (t 2),
 mv 8 (t 26),
 mv 9 (t 27)] [1, 2, 26, 27])
 (.ret)))
def r_slices_order2Ordered_string : List RRes := [.tmp 8, .tmp 9]
theorem fo_slices_order2Ordered_string {args : List Value} {M : Mem} {R : Value → Mem → Prop} (hn : args.length ≤ 28) (h : vfn Tryz.prog c_slices_order2Ordered_string r_slices_order2Ordered_string args M R) : CallsM Tryz.prog F.slices_order2Ordered_string args M R :=
  fn_ok (kf := k_slices_order2Ordered_string) Tryz.func176 (by kernel_rfl) (by kernel_rfl) hn (by kernel_rfl) h
/-- portage/record.rows$1 -/
def k_record_rows_1 (i : Nat) : List Nat := match i with | 1 => [6, 7, 8, 9, 10, 11, 12] | 2 => [4, 13, 14, 15, 16, 17, 18, 19, 20] | 3 => [5, 22, 23, 24] | _ => []
def c_record_rows_1 : RCode :=
 .seq (.ops [mv 3 (k 0)] [])
 (.block 0 (.loop (.block 1 (.seq (.ops [l1 7 (t 1),
  mv 8 (t 3),
  o 9 (.slx 1 (t 7) (some (t 8)) none),
  ca 10 F.record_First [(t 9)],
  mv 6 (t 10),
  ex 11 (t 6) 0,
  ex 12 (t 6) 1,
  mv 4 (t 11),
  mv 5 (t 12)] [6, 7, 8, 9, 10, 11, 12])
  (.seq (.seq (.ops [mv 13 (t 5),
  o 14 (.ibin .eql (t 13) (k 0)),
  os 15 (.mov (t 14)),
  gf 15 16 (.mov (t 0)),
  gf 15 17 (.mov (t 3)),
  gf 15 18 (.mov (t 4)),
  gf 15 19 (.call (t 16) [(t 17), (t 18)]),
  gf 15 20 (.not (t 19)),
  o 21 (.pick (t 15) (kb true) (t 20))] [4, 13, 14, 15, 16, 17, 18, 19, 20])
  (.cond (t 21)
   (.ret)
   (.skip)))
  (.ops [mv 22 (t 3),
  mv 23 (t 5),
  ad 24 (t 22) (t 23),
  mv 3 (t 24)] [5, 22, 23, 24]))))))
def r_record_rows_1 : List RRes := []
theorem fo_record_rows_1 {args : List Value} {M : Mem} {R : Value → Mem → Prop} (hn : args.length ≤ 25) (h : vfn Tryz.prog c_record_rows_1 r_record_rows_1 args M R) : CallsM Tryz.prog F.record_rows_1 args M R :=
  fn_ok (kf := k_record_rows_1) Tryz.func177 (by kernel_rfl) (by kernel_rfl) hn (by kernel_rfl) h
/-- portage/record.First -/
def k_record_First (i : Nat) : List Nat := match i with | 0 => [2, 3] | 1 => [9, 10, 11, 12, 13] | 2 => [14, 15, 16, 17, 18] | 3 => [5, 7, 19, 20, 21, 22, 23, 24, 25, 26, 27, 28, 29, 30, 31, 32, 33, 34, 35, 36, 37, 38, 39] | 5 => [41, 42, 43, 44, 45] | 6 => [0, 6, 46, 47, 48, 49, 50, 51, 52] | 8 => [4, 8, 54, 55, 56, 57, 58, 59] | _ => []
def c_record_First : RCode :=
 .seq (.ops [mv 2 (.const sn),
 mv 3 (k 0)] [2, 3])
 (.seq (.ops [mv 10 (t 0),
 ca 11 F.bits_Get [(t 10), (k 0), (k 4)],
 mv 9 (t 11),
 ex 12 (t 9) 0,
 ex 13 (t 9) 1,
 mv 4 (t 12),
 mv 5 (t 13)] [9, 10, 11, 12, 13])
 (.seq (.ops [mv 15 (t 0),
 ca 16 F.bits_Get [(t 15), (k 4), (k 4)],
 mv 14 (t 16),
 ex 17 (t 14) 0,
 ex 18 (t 14) 1,
 mv 6 (t 17),
 mv 7 (t 18)] [14, 15, 16, 17, 18])
 (.seq (.seq (.ops [mv 19 (t 5),
 o 20 (.ibin .neq (t 19) (k 0)),
 os 21 (.mov (t 20)),
 gf 21 22 (.mov (t 7)),
 gf 21 23 (.ibin .neq (t 22) (k 0)),
 o 24 (.pick (t 21) (kb true) (t 23)),
 os 25 (.mov (t 24)),
 gf 25 26 (.mov (t 4)),
 gf 25 27 (.ibin .eql (t 26) (.const (.int .u64 0))),
 o 28 (.pick (t 25) (kb true) (t 27)),
 os 29 (.mov (t 28)),
 gf 29 30 (.mov (t 4)),
 gf 29 31 (.ibin .gtr (t 30) (.const (.int .u64 65536))),
 o 32 (.pick (t 29) (kb true) (t 31)),
 os 33 (.mov (t 32)),
 gf 33 34 (.mov (t 0)),
 gf 33 35 (.len (t 34)),
 gf 33 36 (.ibin .sub (t 35) (k 8)),
 gf 33 37 (.conv .u64 (t 36)),
 gf 33 38 (.mov (t 4)),
 gf 33 39 (.ibin .lss (t 37) (t 38)),
 o 40 (.pick (t 33) (kb true) (t 39))] [5, 7, 19, 20, 21, 22, 23, 24, 25, 26, 27, 28, 29, 30, 31, 32, 33, 34, 35, 36, 37, 38, 39])
 (.cond (t 40)
  (.seq (.ops [mv 2 (.const sn),
  mv 3 (k 0)] [])
  (.ret))
  (.skip)))
 (.seq (.ops [mv 41 (t 0),
 mv 42 (t 4),
 o 43 (.conv .i64 (t 42)),
 ad 44 (k 8) (t 43),
 o 45 (.slx 1 (t 41) (some (k 8)) (some (t 44))),
 mv 8 (t 45)] [41, 42, 43, 44, 45])
 (.seq (.seq (.ops [mv 46 (t 0),
 o 47 (.slx 1 (t 46) none (some (k 4))),
 mv 48 (t 8),
 o 49 (.mkSl false 44 2 [sn, sn] [(0, 1, (t 47)), (1, 1, (t 48))]),
 ca 50 F.crc_Sum [(t 49)],
 o 51 (.conv .u64 (t 50)),
 mv 52 (t 6),
 o 53 (.ibin .neq (t 51) (t 52))] [0, 6, 46, 47, 48, 49, 50, 51, 52])
 (.cond (t 53)
  (.seq (.ops [mv 2 (.const sn),
  mv 3 (k 0)] [])
  (.ret))
  (.skip)))
 (.seq (.ops [o 54 (.mkSl false 5 0 [] []),
 mv 55 (t 8),
 o 56 (.app 5 1 1 [(u 0)] (t 54) (t 55)),
 mv 57 (t 4),
 o 58 (.conv .i64 (t 57)),
 ad 59 (k 8) (t 58),
 mv 2 (t 56),
 mv 3 (t 59)] [4, 8, 54, 55, 56, 57, 58, 59])
 (.ret)))))))
def r_record_First : List RRes := [.tmp 2, .tmp 3]
theorem fo_record_First {args : List Value} {M : Mem} {R : Value → Mem → Prop} (hn : args.length ≤ 60) (h : vfn Tryz.prog c_record_First r_record_First args M R) : CallsM Tryz.prog F.record_First args M R :=
  fn_ok (kf := k_record_First) Tryz.func178 (by kernel_rfl) (by kernel_rfl) hn (by kernel_rfl) h
/-- slices.Contains[[]int,int] -/
def k_slices_Contains_int_int (i : Nat) : List Nat := match i with | 0 => [4] | 1 => [0, 1, 5, 6, 7, 8] | _ => []
def c_slices_Contains_int_int : RCode :=
 .seq (.ops [mv 4 (kb false)] [4])
 (.seq (.ops [mv 5 (t 0),
 mv 6 (t 1),
 ca 7 F.slices_Index_int_int [(t 5), (t 6)],
 o 8 (.ibin .geq (t 7) (k 0)),
 mv 4 (t 8)] [0, 1, 5, 6, 7, 8])
 (.ret))
def r_slices_Contains_int_int : List RRes := [.tmp 4]
theorem fo_slices_Contains_int_int {args : List Value} {M : Mem} {R : Value → Mem → Prop} (hn : args.length ≤ 9) (h : vfn Tryz.prog c_slices_Contains_int_int r_slices_Contains_int_int args M R) : CallsM Tryz.prog F.slices_Contains_int_int args M R :=
  fn_ok (kf := k_slices_Contains_int_int) Tryz.func179 (by kernel_rfl) (by kernel_rfl) hn (by kernel_rfl) h
/-- slices.rotateLeft[int] -/
def k_slices_rotateLeft_int (i : Nat) : List Nat := match i with | 0 => [4, 5, 6, 7] | 1 => [1, 8, 9, 10, 11] | 2 => [0, 12, 13] | _ => []
def c_slices_rotateLeft_int : RCode :=
 .seq (.ops [mv 4 (t 0),
 mv 5 (t 1),
 o 6 (.slx 1 (t 4) none (some (t 5))),
 ca 7 F.slices_Reverse_int_int [(t 6)]] [4, 5, 6, 7])
 (.seq (.ops [mv 8 (t 0),
 mv 9 (t 1),
 o 10 (.slx 1 (t 8) (some (t 9)) none),
 ca 11 F.slices_Reverse_int_int [(t 10)]] [1, 8, 9, 10, 11])
 (.ops [mv 12 (t 0),
 ca 13 F.slices_Reverse_int_int [(t 12)]] [0, 12, 13]))
def r_slices_rotateLeft_int : List RRes := []
theorem fo_slices_rotateLeft_int {args : List Value} {M : Mem} {R : Value → Mem → Prop} (hn : args.length ≤ 14) (h : vfn Tryz.prog c_slices_rotateLeft_int r_slices_rotateLeft_int args M R) : CallsM Tryz.prog F.slices_rotateLeft_int args M R :=
  fn_ok (kf := k_slices_rotateLeft_int) Tryz.func180 (by kernel_rfl) (by kernel_rfl) hn (by kernel_rfl) h
/-- slices.siftDownCmpFunc[portage/store.place] -/
def k_slices_siftDownCmpFunc_store_place (i : Nat) : List Nat := match i with | 0 => [1, 12] | 1 => [13, 14, 15] | 2 => [16, 17] | 3 => [19, 20, 21, 22, 23, 24, 25, 26, 27, 28, 29, 30, 31, 32, 33, 34, 35, 36, 37, 38, 39] | 4 => [41, 42] | 5 => [43, 44, 45, 46, 47, 48, 49, 50, 51, 52, 53, 54, 55, 56, 57] | 6 => [10, 59, 60, 61, 62, 63, 64, 65, 66, 67, 68, 69, 70, 71, 72, 73, 74, 75, 76, 77, 78, 79, 80] | 7 => [11, 81] | _ => []
def c_slices_siftDownCmpFunc_store_place : RCode :=
 .seq (.ops [mv 12 (t 1),
 mv 10 (t 12)] [1, 12])
 (.block 0 (.loop (.block 1 (.seq (.ops [mv 13 (t 10),
  o 14 (.ibin .mul (k 2) (t 13)),
  ad 15 (t 14) (k 1),
  mv 11 (t 15)] [13, 14, 15])
  (.seq (.seq (.ops [mv 16 (t 11),
  mv 17 (t 2),
  o 18 (.ibin .geq (t 16) (t 17))] [16, 17])
  (.cond (t 18)
   (.exit 0)
   (.skip)))
  (.seq (.seq (.draw (.take (mv 19 (t 11)) (.take (ad 20 (t 19) (k 1)) (.take (mv 21 (t 2)) (.take (o 22 (.ibin .lss (t 20) (t 21))) (.take (os 23 (.mov (t 22))) (.take (gt 23 24 (.mov (t 4))) (.take (gt 23 25 (.mov (t 0))) (.take (gt 23 26 (.mov (t 3))) (.take (gt 23 27 (.mov (t 11))) (.take (gt 23 28 (.ibin .add (t 26) (t 27))) (.take (gt 23 29 (.iaddr 6 (t 25) (t 28))) (.take (gt 23 30 (.load true 6 (t 29))) (.take (gt 23 31 (.mov (t 0))) (.take (gt 23 32 (.mov (t 3))) (.take (gt 23 33 (.mov (t 11))) (.take (gt 23 34 (.ibin .add (t 32) (t 33))) (.take (gt 23 35 (.ibin .add (t 34) (k 1))) (.take (gt 23 36 (.iaddr 6 (t 31) (t 35))) (.take (gt 23 37 (.load true 6 (t 36))) (.alt (gt 23 38 (.call (t 24) [(t 30), (t 37)])) false
   (.take (gt 23 39 (.ibin .lss (t 38) (k 0))) (.take (o 40 (.pick (t 23) (t 39) (kb false))) (.done)))
   (.none))))))))))))))))))))) [19, 20, 21, 22, 23, 24, 25, 26, 27, 28, 29, 30, 31, 32, 33, 34, 35, 36, 37, 38, 39])
  (.cond (t 40)
   (.ops [mv 41 (t 11),
   ad 42 (t 41) (k 1),
   mv 11 (t 42)] [41, 42])
   (.skip)))
  (.seq (.seq (.draw (.take (mv 43 (t 4)) (.take (mv 44 (t 0)) (.take (mv 45 (t 3)) (.take (mv 46 (t 10)) (.take (ad 47 (t 45) (t 46)) (.take (o 48 (.iaddr 6 (t 44) (t 47))) (.take (la 49 6 (t 48)) (.take (mv 50 (t 0)) (.take (mv 51 (t 3)) (.take (mv 52 (t 11)) (.take (ad 53 (t 51) (t 52)) (.take (o 54 (.iaddr 6 (t 50) (t 53))) (.take (la 55 6 (t 54)) (.alt (o 56 (.call (t 43) [(t 49), (t 55)])) false
   (.take (o 57 (.ibin .lss (t 56) (k 0))) (.take (o 58 (.not (t 57))) (.done)))
   (.none))))))))))))))) [43, 44, 45, 46, 47, 48, 49, 50, 51, 52, 53, 54, 55, 56, 57])
  (.cond (t 58)
   (.ret)
   (.skip)))
  (.seq (.draw (.take (mv 59 (t 0)) (.take (mv 60 (t 3)) (.take (mv 61 (t 10)) (.take (ad 62 (t 60) (t 61)) (.take (mv 63 (t 0)) (.take (mv 64 (t 3)) (.take (mv 65 (t 11)) (.take (ad 66 (t 64) (t 65)) (.take (mv 67 (t 0)) (.take (mv 68 (t 3)) (.take (mv 69 (t 11)) (.take (ad 70 (t 68) (t 69)) (.take (o 71 (.iaddr 6 (t 67) (t 70))) (.take (la 72 6 (t 71)) (.take (mv 73 (t 0)) (.take (mv 74 (t 3)) (.take (mv 75 (t 10)) (.take (ad 76 (t 74) (t 75)) (.take (o 77 (.iaddr 6 (t 73) (t 76))) (.take (la 78 6 (t 77)) (.take (o 79 (.iaddr 6 (t 59) (t 62))) (.alt (st 6 (t 79) (t 72)) false
   (.take (o 80 (.iaddr 6 (t 63) (t 66))) (.alt (st 6 (t 80) (t 78)) false
    (.done)
    (.none)))
   (.none))))))))))))))))))))))) [10, 59, 60, 61, 62, 63, 64, 65, 66, 67, 68, 69, 70, 71, 72, 73, 74, 75, 76, 77, 78, 79, 80])
  (.ops [mv 81 (t 11),
  mv 10 (t 81)] [11, 81])))))))))
def r_slices_siftDownCmpFunc_store_place : List RRes := []
theorem fo_slices_siftDownCmpFunc_store_place {args : List Value} {M : Mem} {R : Value → Mem → Prop} (hn : args.length ≤ 82) (h : vfn Tryz.prog c_slices_siftDownCmpFunc_store_place r_slices_siftDownCmpFunc_store_place args M R) : CallsM Tryz.prog F.slices_siftDownCmpFunc_store_place args M R :=
  fn_ok (kf := k_slices_siftDownCmpFunc_store_place) Tryz.func181 (by kernel_rfl) (by kernel_rfl) hn (by kernel_rfl) h
/-- slices.medianAdjacentCmpFunc[portage/store.place] -/
def k_slices_medianAdjacentCmpFunc_store_place (i : Nat) : List Nat := match i with | 0 => [8] | 1 => [0, 1, 2, 3, 9, 10, 11, 12, 13, 14, 15, 16, 17] | _ => []
def c_slices_medianAdjacentCmpFunc_store_place : RCode :=
 .seq (.ops [mv 8 (k 0)] [8])
 (.seq (.ops [mv 9 (t 0),
 mv 10 (t 1),
 o 11 (.ibin .sub (t 10) (k 1)),
 mv 12 (t 1),
 mv 13 (t 1),
 ad 14 (t 13) (k 1),
 mv 15 (t 2),
 mv 16 (t 3),
 ca 17 F.slices_medianCmpFunc_store_place [(t 9), (t 11), (t 12), (t 14), (t 15), (t 16)],
 mv 8 (t 17)] [0, 1, 2, 3, 9, 10, 11, 12, 13, 14, 15, 16, 17])
 (.ret))
def r_slices_medianAdjacentCmpFunc_store_place : List RRes := [.tmp 8]
theorem fo_slices_medianAdjacentCmpFunc_store_place {args : List Value} {M : Mem} {R : Value → Mem → Prop} (hn : args.length ≤ 18) (h : vfn Tryz.prog c_slices_medianAdjacentCmpFunc_store_place r_slices_medianAdjacentCmpFunc_store_place args M R) : CallsM Tryz.prog F.slices_medianAdjacentCmpFunc_store_place args M R :=
  fn_ok (kf := k_slices_medianAdjacentCmpFunc_store_place) Tryz.func182 (by kernel_rfl) (by kernel_rfl) hn (by kernel_rfl) h
/-- slices.medianCmpFunc[portage/store.place] -/
def k_slices_medianCmpFunc_store_place (i : Nat) : List Nat := match i with | 0 => [12] | 1 => [13, 14, 15, 16, 17, 18, 19, 20, 21] | 2 => [3, 22, 23, 24, 25, 26, 27, 28, 29, 30] | 3 => [0, 1, 4, 5, 31, 32, 33, 34, 35, 36, 37, 38, 39] | 4 => [2, 40] | _ => []
def c_slices_medianCmpFunc_store_place : RCode :=
 .seq (.ops [mv 12 (k 0)] [12])
 (.seq (.ops [mv 14 (t 0),
 mv 15 (t 1),
 mv 16 (t 2),
 mv 17 (t 4),
 mv 18 (t 5),
 ca 19 F.slices_order2CmpFunc_store_place [(t 14), (t 15), (t 16), (t 17), (t 18)],
 mv 13 (t 19),
 ex 20 (t 13) 0,
 ex 21 (t 13) 1,
 mv 1 (t 20),
 mv 2 (t 21)] [13, 14, 15, 16, 17, 18, 19, 20, 21])
 (.seq (.ops [mv 23 (t 0),
 mv 24 (t 2),
 mv 25 (t 3),
 mv 26 (t 4),
 mv 27 (t 5),
 ca 28 F.slices_order2CmpFunc_store_place [(t 23), (t 24), (t 25), (t 26), (t 27)],
 mv 22 (t 28),
 ex 29 (t 22) 0,
 ex 30 (t 22) 1,
 mv 2 (t 29),
 mv 3 (t 30)] [3, 22, 23, 24, 25, 26, 27, 28, 29, 30])
 (.seq (.ops [mv 32 (t 0),
 mv 33 (t 1),
 mv 34 (t 2),
 mv 35 (t 4),
 mv 36 (t 5),
 ca 37 F.slices_order2CmpFunc_store_place [(t 32), (t 33), (t 34), (t 35), (t 36)],
 mv 31 (t 37),
 ex 38 (t 31) 0,
 ex 39 (t 31) 1,
 mv 1 (t 38),
 mv 2 (t 39)] [0, 1, 4, 5, 31, 32, 33, 34, 35, 36, 37, 38, 39])
 (.seq (.ops [mv 40 (t 2),
 mv 12 (t 40)] [2, 40])
 (.ret)))))
def r_slices_medianCmpFunc_store_place : List RRes := [.tmp 12]
theorem fo_slices_medianCmpFunc_store_place {args : List Value} {M : Mem} {R : Value → Mem → Prop} (hn : args.length ≤ 41) (h : vfn Tryz.prog c_slices_medianCmpFunc_store_place r_slices_medianCmpFunc_store_place args M R) : CallsM Tryz.prog F.slices_medianCmpFunc_store_place args M R :=
  fn_ok (kf := k_slices_medianCmpFunc_store_place) Tryz.func183 (by kernel_rfl) (by kernel_rfl) hn (by kernel_rfl) h
/-- slices.siftDownCmpFunc[portage/api.Mark] -/
def k_slices_siftDownCmpFunc_api_Mark (i : Nat) : List Nat := match i with | 0 => [1, 12] | 1 => [13, 14, 15] | 2 => [16, 17] | 3 => [19, 20, 21, 22, 23, 24, 25, 26, 27, 28, 29, 30, 31, 32, 33, 34, 35, 36, 37, 38, 39] | 4 => [41, 42] | 5 => [43, 44, 45, 46, 47, 48, 49, 50, 51, 52, 53, 54, 55, 56, 57] | 6 => [10, 59, 60, 61, 62, 63, 64, 65, 66, 67, 68, 69, 70, 71, 72, 73, 74, 75, 76, 77, 78, 79, 80] | 7 => [11, 81] | _ => []
def c_slices_siftDownCmpFunc_api_Mark : RCode :=
 .seq (.ops [mv 12 (t 1),
 mv 10 (t 12)] [1, 12])
 (.block 0 (.loop (.block 1 (.seq (.ops [mv 13 (t 10),
  o 14 (.ibin .mul (k 2) (t 13)),
  ad 15 (t 14) (k 1),
  mv 11 (t 15)] [13, 14, 15])
  (.seq (.seq (.ops [mv 16 (t 11),
  mv 17 (t 2),
  o 18 (.ibin .geq (t 16) (t 17))] [16, 17])
  (.cond (t 18)
   (.exit 0)
   (.skip)))
  (.seq (.seq (.draw (.take (mv 19 (t 11)) (.take (ad 20 (t 19) (k 1)) (.take (mv 21 (t 2)) (.take (o 22 (.ibin .lss (t 20) (t 21))) (.take (os 23 (.mov (t 22))) (.take (gt 23 24 (.mov (t 4))) (.take (gt 23 25 (.mov (t 0))) (.take (gt 23 26 (.mov (t 3))) (.take (gt 23 27 (.mov (t 11))) (.take (gt 23 28 (.ibin .add (t 26) (t 27))) (.take (gt 23 29 (.iaddr 4 (t 25) (t 28))) (.take (gt 23 30 (.load true 4 (t 29))) (.take (gt 23 31 (.mov (t 0))) (.take (gt 23 32 (.mov (t 3))) (.take (gt 23 33 (.mov (t 11))) (.take (gt 23 34 (.ibin .add (t 32) (t 33))) (.take (gt 23 35 (.ibin .add (t 34) (k 1))) (.take (gt 23 36 (.iaddr 4 (t 31) (t 35))) (.take (gt 23 37 (.load true 4 (t 36))) (.alt (gt 23 38 (.call (t 24) [(t 30), (t 37)])) false
   (.take (gt 23 39 (.ibin .lss (t 38) (k 0))) (.take (o 40 (.pick (t 23) (t 39) (kb false))) (.done)))
   (.none))))))))))))))))))))) [19, 20, 21, 22, 23, 24, 25, 26, 27, 28, 29, 30, 31, 32, 33, 34, 35, 36, 37, 38, 39])
  (.cond (t 40)
   (.ops [mv 41 (t 11),
   ad 42 (t 41) (k 1),
   mv 11 (t 42)] [41, 42])
   (.skip)))
  (.seq (.seq (.draw (.take (mv 43 (t 4)) (.take (mv 44 (t 0)) (.take (mv 45 (t 3)) (.take (mv 46 (t 10)) (.take (ad 47 (t 45) (t 46)) (.take (o 48 (.iaddr 4 (t 44) (t 47))) (.take (la 49 4 (t 48)) (.take (mv 50 (t 0)) (.take (mv 51 (t 3)) (.take (mv 52 (t 11)) (.take (ad 53 (t 51) (t 52)) (.take (o 54 (.iaddr 4 (t 50) (t 53))) (.take (la 55 4 (t 54)) (.alt (o 56 (.call (t 43) [(t 49), (t 55)])) false
   (.take (o 57 (.ibin .lss (t 56) (k 0))) (.take (o 58 (.not (t 57))) (.done)))
   (.none))))))))))))))) [43, 44, 45, 46, 47, 48, 49, 50, 51, 52, 53, 54, 55, 56, 57])
  (.cond (t 58)
   (.ret)
   (.skip)))
  (.seq (.draw (.take (mv 59 (t 0)) (.take (mv 60 (t 3)) (.take (mv 61 (t 10)) (.take (ad 62 (t 60) (t 61)) (.take (mv 63 (t 0)) (.take (mv 64 (t 3)) (.take (mv 65 (t 11)) (.take (ad 66 (t 64) (t 65)) (.take (mv 67 (t 0)) (.take (mv 68 (t 3)) (.take (mv 69 (t 11)) (.take (ad 70 (t 68) (t 69)) (.take (o 71 (.iaddr 4 (t 67) (t 70))) (.take (la 72 4 (t 71)) (.take (mv 73 (t 0)) (.take (mv 74 (t 3)) (.take (mv 75 (t 10)) (.take (ad 76 (t 74) (t 75)) (.take (o 77 (.iaddr 4 (t 73) (t 76))) (.take (la 78 4 (t 77)) (.take (o 79 (.iaddr 4 (t 59) (t 62))) (.alt (st 4 (t 79) (t 72)) false
   (.take (o 80 (.iaddr 4 (t 63) (t 66))) (.alt (st 4 (t 80) (t 78)) false
    (.done)
    (.none)))
   (.none))))))))))))))))))))))) [10, 59, 60, 61, 62, 63, 64, 65, 66, 67, 68, 69, 70, 71, 72, 73, 74, 75, 76, 77, 78, 79, 80])
  (.ops [mv 81 (t 11),
  mv 10 (t 81)] [11, 81])))))))))
def r_slices_siftDownCmpFunc_api_Mark : List RRes := []
theorem fo_slices_siftDownCmpFunc_api_Mark {args : List Value} {M : Mem} {R : Value → Mem → Prop} (hn : args.length ≤ 82) (h : vfn Tryz.prog c_slices_siftDownCmpFunc_api_Mark r_slices_siftDownCmpFunc_api_Mark args M R) : CallsM Tryz.prog F.slices_siftDownCmpFunc_api_Mark args M R :=
  fn_ok (kf := k_slices_siftDownCmpFunc_api_Mark) Tryz.func184 (by kernel_rfl) (by kernel_rfl) hn (by kernel_rfl) h
/-- slices.medianAdjacentCmpFunc[portage/api.Mark] -/
def k_slices_medianAdjacentCmpFunc_api_Mark (i : Nat) : List Nat := match i with | 0 => [8] | 1 => [0, 1, 2, 3, 9, 10, 11, 12, 13, 14, 15, 16, 17] | _ => []
def c_slices_medianAdjacentCmpFunc_api_Mark : RCode :=
 .seq (.ops [mv 8 (k 0)] [8])
 (.seq (.ops [mv 9 (t 0),
 mv 10 (t 1),
 o 11 (.ibin .sub (t 10) (k 1)),
 mv 12 (t 1),
 mv 13 (t 1),
 ad 14 (t 13) (k 1),
 mv 15 (t 2),
 mv 16 (t 3),
 ca 17 F.slices_medianCmpFunc_api_Mark [(t 9), (t 11), (t 12), (t 14), (t 15), (t 16)],
 mv 8 (t 17)] [0, 1, 2, 3, 9, 10, 11, 12, 13, 14, 15, 16, 17])
 (.ret))
def r_slices_medianAdjacentCmpFunc_api_Mark : List RRes := [.tmp 8]
theorem fo_slices_medianAdjacentCmpFunc_api_Mark {args : List Value} {M : Mem} {R : Value → Mem → Prop} (hn : args.length ≤ 18) (h : vfn Tryz.prog c_slices_medianAdjacentCmpFunc_api_Mark r_slices_medianAdjacentCmpFunc_api_Mark args M R) : CallsM Tryz.prog F.slices_medianAdjacentCmpFunc_api_Mark args M R :=
  fn_ok (kf := k_slices_medianAdjacentCmpFunc_api_Mark) Tryz.func185 (by kernel_rfl) (by kernel_rfl) hn (by kernel_rfl) h
/-- slices.medianCmpFunc[portage/api.Mark] -/
def k_slices_medianCmpFunc_api_Mark (i : Nat) : List Nat := match i with | 0 => [12] | 1 => [13, 14, 15, 16, 17, 18, 19, 20, 21] | 2 => [3, 22, 23, 24, 25, 26, 27, 28, 29, 30] | 3 => [0, 1, 4, 5, 31, 32, 33, 34, 35, 36, 37, 38, 39] | 4 => [2, 40] | _ => []
def c_slices_medianCmpFunc_api_Mark : RCode :=
 .seq (.ops [mv 12 (k 0)] [12])
 (.seq (.ops [mv 14 (t 0),
 mv 15 (t 1),
 mv 16 (t 2),
 mv 17 (t 4),
 mv 18 (t 5),
 ca 19 F.slices_order2CmpFunc_api_Mark [(t 14), (t 15), (t 16), (t 17), (t 18)],
 mv 13 (t 19),
 ex 20 (t 13) 0,
 ex 21 (t 13) 1,
 mv 1 (t 20),
 mv 2 (t 21)] [13, 14, 15, 16, 17, 18, 19, 20, 21])
 (.seq (.ops [mv 23 (t 0),
 mv 24 (t 2),
 mv 25 (t 3),
 mv 26 (t 4),
 mv 27 (t 5),
 ca 28 F.slices_order2CmpFunc_api_Mark [(t 23), (t 24), (t 25), (t 26), (t 27)],
 mv 22 (t 28),
 ex 29 (t 22) 0,
 ex 30 (t 22) 1,
 mv 2 (t 29),
 mv 3 (t 30)] [3, 22, 23, 24, 25, 26, 27, 28, 29, 30])
 (.seq (.ops [mv 32 (t 0),
 mv 33 (t 1),
 mv 34 (t 2),
 mv 35 (t 4),
 mv 36 (t 5),
 ca 37 F.slices_order2CmpFunc_api_Mark [(t 32), (t 33), (t 34), (t 35), (t 36)],
 mv 31 (t 37),
 ex 38 (t 31) 0,
 ex 39 (t 31) 1,
 mv 1 (t 38),
 mv 2 (t 39)] [0, 1, 4, 5, 31, 32, 33, 34, 35, 36, 37, 38, 39])
 (.seq (.ops [mv 40 (t 2),
 mv 12 (t 40)] [2, 40])
 (.ret)))))
def r_slices_medianCmpFunc_api_Mark : List RRes := [.tmp 12]
theorem fo_slices_medianCmpFunc_api_Mark {args : List Value} {M : Mem} {R : Value → Mem → Prop} (hn : args.length ≤ 41) (h : vfn Tryz.prog c_slices_medianCmpFunc_api_Mark r_slices_medianCmpFunc_api_Mark args M R) : CallsM Tryz.prog F.slices_medianCmpFunc_api_Mark args M R :=
  fn_ok (kf := k_slices_medianCmpFunc_api_Mark) Tryz.func186 (by kernel_rfl) (by kernel_rfl) hn (by kernel_rfl) h
/-- slices.Index[[]int,int] -/
def k_slices_Index_int_int (i : Nat) : List Nat := match i with | 0 => [4] | 1 => [6] | 3 => [10] | 4 => [11, 12, 13, 14, 15] | 5 => [5, 17] | 6 => [18] | _ => []
def c_slices_Index_int_int : RCode :=
 .seq (.ops [mv 4 (k 0)] [4])
 (.seq (.seq (.ops [mv 6 (t 0),
 o 7 (.len (t 6)),
 mv 8 (k 0)] [6])
 (.block 0 (.loop (.seq (.ops [o 9 (.ibin .lss (t 8) (t 7))] [])
  (.seq (.cond (t 9)
   (.skip)
   (.exit 0))
  (.seq (.block 1 (.seq (.ops [mv 10 (t 8),
  mv 5 (t 10)] [10])
  (.seq (.ops [mv 11 (t 1),
  mv 12 (t 0),
  mv 13 (t 5),
  o 14 (.iaddr 1 (t 12) (t 13)),
  l1 15 (t 14),
  o 16 (.ibin .eql (t 11) (t 15))] [11, 12, 13, 14, 15])
  (.cond (t 16)
   (.seq (.ops [mv 17 (t 5),
   mv 4 (t 17)] [5, 17])
   (.ret))
   (.skip)))))
  (.ops [ad 18 (t 8) (k 1),
  mv 8 (t 18)] [18])))))))
 (.seq (.ops [mv 4 (k (-1))] [])
 (.ret)))
def r_slices_Index_int_int : List RRes := [.tmp 4]
theorem fo_slices_Index_int_int {args : List Value} {M : Mem} {R : Value → Mem → Prop} (hn : args.length ≤ 19) (h : vfn Tryz.prog c_slices_Index_int_int r_slices_Index_int_int args M R) : CallsM Tryz.prog F.slices_Index_int_int args M R :=
  fn_ok (kf := k_slices_Index_int_int) Tryz.func187 (by kernel_rfl) (by kernel_rfl) hn (by kernel_rfl) h
/-- slices.order2CmpFunc[portage/store.place] -/
def k_slices_order2CmpFunc_store_place (i : Nat) : List Nat := match i with | 0 => [10, 11] | 1 => [0, 4, 12, 13, 14, 15, 16, 17, 18, 19, 20, 21] | 2 => [3, 23, 24, 25, 26, 27] | 3 => [1, 2, 28, 29] | 4 => [1, 2, 30, 31] | _ => []
def c_slices_order2CmpFunc_store_place : RCode :=
 .seq (.ops [mv 10 (k 0),
 mv 11 (k 0)] [10, 11])
 (.seq (.seq (.draw (.take (mv 12 (t 4)) (.take (mv 13 (t 0)) (.take (mv 14 (t 2)) (.take (o 15 (.iaddr 6 (t 13) (t 14))) (.take (la 16 6 (t 15)) (.take (mv 17 (t 0)) (.take (mv 18 (t 1)) (.take (o 19 (.iaddr 6 (t 17) (t 18))) (.take (la 20 6 (t 19)) (.alt (o 21 (.call (t 12) [(t 16), (t 20)])) false
  (.take (o 22 (.ibin .lss (t 21) (k 0))) (.done))
  (.none))))))))))) [0, 4, 12, 13, 14, 15, 16, 17, 18, 19, 20, 21])
 (.cond (t 22)
  (.seq (.ops [mv 23 (t 3),
  o 24 (.nilck (t 23)),
  l1 25 (t 24),
  ad 26 (t 25) (k 1),
  o 27 (.nilck (t 23)),
  st 1 (t 27) (t 26)] [3, 23, 24, 25, 26, 27])
  (.seq (.ops [mv 28 (t 2),
  mv 29 (t 1),
  mv 10 (t 28),
  mv 11 (t 29)] [1, 2, 28, 29])
  (.ret)))
  (.skip)))
 (.seq (.ops [mv 30 (t 1),
 mv 31 (t 2),
 mv 10 (t 30),
 mv 11 (t 31)] [1, 2, 30, 31])
 (.ret)))
def r_slices_order2CmpFunc_store_place : List RRes := [.tmp 10, .tmp 11]
theorem fo_slices_order2CmpFunc_store_place {args : List Value} {M : Mem} {R : Value → Mem → Prop} (hn : args.length ≤ 32) (h : vfn Tryz.prog c_slices_order2CmpFunc_store_place r_slices_order2CmpFunc_store_place args M R) : CallsM Tryz.prog F.slices_order2CmpFunc_store_place args M R :=
  fn_ok (kf := k_slices_order2CmpFunc_store_place) Tryz.func188 (by kernel_rfl) (by kernel_rfl) hn (by kernel_rfl) h
/-- slices.order2CmpFunc[portage/api.Mark] -/
def k_slices_order2CmpFunc_api_Mark (i : Nat) : List Nat := match i with | 0 => [10, 11] | 1 => [0, 4, 12, 13, 14, 15, 16, 17, 18, 19, 20, 21] | 2 => [3, 23, 24, 25, 26, 27] | 3 => [1, 2, 28, 29] | 4 => [1, 2, 30, 31] | _ => []
def c_slices_order2CmpFunc_api_Mark : RCode :=
 .seq (.ops [mv 10 (k 0),
 mv 11 (k 0)] [10, 11])
 (.seq (.seq (.draw (.take (mv 12 (t 4)) (.take (mv 13 (t 0)) (.take (mv 14 (t 2)) (.take (o 15 (.iaddr 4 (t 13) (t 14))) (.take (la 16 4 (t 15)) (.take (mv 17 (t 0)) (.take (mv 18 (t 1)) (.take (o 19 (.iaddr 4 (t 17) (t 18))) (.take (la 20 4 (t 19)) (.alt (o 21 (.call (t 12) [(t 16), (t 20)])) false
  (.take (o 22 (.ibin .lss (t 21) (k 0))) (.done))
  (.none))))))))))) [0, 4, 12, 13, 14, 15, 16, 17, 18, 19, 20, 21])
 (.cond (t 22)
  (.seq (.ops [mv 23 (t 3),
  o 24 (.nilck (t 23)),
  l1 25 (t 24),
  ad 26 (t 25) (k 1),
  o 27 (.nilck (t 23)),
  st 1 (t 27) (t 26)] [3, 23, 24, 25, 26, 27])
  (.seq (.ops [mv 28 (t 2),
  mv 29 (t 1),
  mv 10 (t 28),
  mv 11 (t 29)] [1, 2, 28, 29])
  (.ret)))
  (.skip)))
 (.seq (.ops [mv 30 (t 1),
 mv 31 (t 2),
 mv 10 (t 30),
 mv 11 (t 31)] [1, 2, 30, 31])
 (.ret)))
def r_slices_order2CmpFunc_api_Mark : List RRes := [.tmp 10, .tmp 11]
theorem fo_slices_order2CmpFunc_api_Mark {args : List Value} {M : Mem} {R : Value → Mem → Prop} (hn : args.length ≤ 32) (h : vfn Tryz.prog c_slices_order2CmpFunc_api_Mark r_slices_order2CmpFunc_api_Mark args M R) : CallsM Tryz.prog F.slices_order2CmpFunc_api_Mark args M R :=
  fn_ok (kf := k_slices_order2CmpFunc_api_Mark) Tryz.func189 (by kernel_rfl) (by kernel_rfl) hn (by kernel_rfl) h

end Go.Proofs.YtjkejbenppeagaaGreatDoor
