/- The resolved texts of the functions; made by program. -/
import Derived.Test.YtlocjjponfbhmaaNames
namespace Go.Proofs.Ytlocjjponfbhmaa
open Go.Vm Go.Vm.S
/-- slices.partitionCmpFunc[portage/store.place] -/
def k_slices_partitionCmpFunc_store_place (i : Nat) : List Nat := match i with | 0 => [10, 11] | 1 => [3, 14, 15, 16, 17, 18, 19, 20, 21, 22, 23, 24, 25, 26, 27] | 2 => [2, 28, 29, 30, 31] | 3 => [32, 33, 34, 35, 36, 37, 38, 39, 40, 41, 42, 43, 44, 45, 46] | 4 => [48, 49] | 5 => [50, 51, 52, 53, 54, 55, 56, 57, 58, 59, 60, 61, 62, 63, 64, 65] | 6 => [67, 68] | 7 => [69, 70] | 8 => [0, 1, 72, 73, 74, 75, 76, 77, 78, 79, 80, 81, 82, 83, 84, 85] | 9 => [13, 86] | 10 => [87, 88, 89, 90, 91, 92, 93, 94, 95, 96, 97, 98, 99, 100] | 11 => [101, 102] | 12 => [103, 104] | 13 => [105, 106, 107, 108, 109, 110, 111, 112, 113, 114, 115, 116, 117, 118, 119] | 14 => [121, 122] | 15 => [123, 124, 125, 126, 127, 128, 129, 130, 131, 132, 133, 134, 135, 136, 137, 138] | 16 => [140, 141] | 17 => [142, 143] | 18 => [145, 146, 147, 148, 149, 150, 151, 152, 153, 154, 155, 156, 157, 158] | 19 => [159, 160] | 20 => [161, 162] | 21 => [0, 1, 163, 164, 165, 166, 167, 168, 169, 170, 171, 172, 173, 174, 175, 176] | 22 => [13, 177] | _ => []
def c_slices_partitionCmpFunc_store_place : RCode :=
 .seq (.ops [mv 10 (k 0),
 mv 11 (kb false)] [10, 11])
 (.seq (.draw (.take (mv 14 (t 0)) (.take (mv 15 (t 1)) (.take (mv 16 (t 0)) (.take (mv 17 (t 3)) (.take (mv 18 (t 0)) (.take (mv 19 (t 3)) (.take (o 20 (.iaddr 6 (t 18) (t 19))) (.take (la 21 6 (t 20)) (.take (mv 22 (t 0)) (.take (mv 23 (t 1)) (.take (o 24 (.iaddr 6 (t 22) (t 23))) (.take (la 25 6 (t 24)) (.take (o 26 (.iaddr 6 (t 14) (t 15))) (.alt (st 6 (t 26) (t 21)) false
  (.take (o 27 (.iaddr 6 (t 16) (t 17))) (.alt (st 6 (t 27) (t 25)) false
   (.done)
   (.none)))
  (.none))))))))))))))) [3, 14, 15, 16, 17, 18, 19, 20, 21, 22, 23, 24, 25, 26, 27])
 (.seq (.ops [mv 28 (t 1),
 ad 29 (t 28) (k 1),
 mv 30 (t 2),
 o 31 (.ibin .sub (t 30) (k 1)),
 mv 12 (t 29),
 mv 13 (t 31)] [2, 28, 29, 30, 31])
 (.seq (.block 0 (.loop (.seq (.seq (.draw (.take (mv 32 (t 12)) (.take (mv 33 (t 13)) (.take (o 34 (.ibin .leq (t 32) (t 33))) (.take (os 35 (.mov (t 34))) (.take (gt 35 36 (.mov (t 4))) (.take (gt 35 37 (.mov (t 0))) (.take (gt 35 38 (.mov (t 12))) (.take (gt 35 39 (.iaddr 6 (t 37) (t 38))) (.take (gt 35 40 (.load true 6 (t 39))) (.take (gt 35 41 (.mov (t 0))) (.take (gt 35 42 (.mov (t 1))) (.take (gt 35 43 (.iaddr 6 (t 41) (t 42))) (.take (gt 35 44 (.load true 6 (t 43))) (.alt (gt 35 45 (.call (t 36) [(t 40), (t 44)])) false
   (.take (gt 35 46 (.ibin .lss (t 45) (k 0))) (.take (o 47 (.pick (t 35) (t 46) (kb false))) (.done)))
   (.none))))))))))))))) [32, 33, 34, 35, 36, 37, 38, 39, 40, 41, 42, 43, 44, 45, 46])
  (.cond (t 47)
   (.skip)
   (.exit 0)))
  (.block 1 (.ops [mv 48 (t 12),
  ad 49 (t 48) (k 1),
  mv 12 (t 49)] [48, 49])))))
 (.seq (.block 2 (.loop (.seq (.seq (.draw (.take (mv 50 (t 12)) (.take (mv 51 (t 13)) (.take (o 52 (.ibin .leq (t 50) (t 51))) (.take (os 53 (.mov (t 52))) (.take (gt 53 54 (.mov (t 4))) (.take (gt 53 55 (.mov (t 0))) (.take (gt 53 56 (.mov (t 13))) (.take (gt 53 57 (.iaddr 6 (t 55) (t 56))) (.take (gt 53 58 (.load true 6 (t 57))) (.take (gt 53 59 (.mov (t 0))) (.take (gt 53 60 (.mov (t 1))) (.take (gt 53 61 (.iaddr 6 (t 59) (t 60))) (.take (gt 53 62 (.load true 6 (t 61))) (.alt (gt 53 63 (.call (t 54) [(t 58), (t 62)])) false
   (.take (gt 53 64 (.ibin .lss (t 63) (k 0))) (.take (gt 53 65 (.not (t 64))) (.take (o 66 (.pick (t 53) (t 65) (kb false))) (.done))))
   (.none))))))))))))))) [50, 51, 52, 53, 54, 55, 56, 57, 58, 59, 60, 61, 62, 63, 64, 65])
  (.cond (t 66)
   (.skip)
   (.exit 2)))
  (.block 3 (.ops [mv 67 (t 13),
  o 68 (.ibin .sub (t 67) (k 1)),
  mv 13 (t 68)] [67, 68])))))
 (.seq (.seq (.ops [mv 69 (t 12),
 mv 70 (t 13),
 o 71 (.ibin .gtr (t 69) (t 70))] [69, 70])
 (.cond (t 71)
  (.seq (.draw (.take (mv 72 (t 0)) (.take (mv 73 (t 13)) (.take (mv 74 (t 0)) (.take (mv 75 (t 1)) (.take (mv 76 (t 0)) (.take (mv 77 (t 1)) (.take (o 78 (.iaddr 6 (t 76) (t 77))) (.take (la 79 6 (t 78)) (.take (mv 80 (t 0)) (.take (mv 81 (t 13)) (.take (o 82 (.iaddr 6 (t 80) (t 81))) (.take (la 83 6 (t 82)) (.take (o 84 (.iaddr 6 (t 72) (t 73))) (.alt (st 6 (t 84) (t 79)) false
   (.take (o 85 (.iaddr 6 (t 74) (t 75))) (.alt (st 6 (t 85) (t 83)) false
    (.done)
    (.none)))
   (.none))))))))))))))) [0, 1, 72, 73, 74, 75, 76, 77, 78, 79, 80, 81, 82, 83, 84, 85])
  (.seq (.ops [mv 86 (t 13),
  mv 10 (t 86),
  mv 11 (kb true)] [13, 86])
  (.ret)))
  (.skip)))
 (.seq (.draw (.take (mv 87 (t 0)) (.take (mv 88 (t 12)) (.take (mv 89 (t 0)) (.take (mv 90 (t 13)) (.take (mv 91 (t 0)) (.take (mv 92 (t 13)) (.take (o 93 (.iaddr 6 (t 91) (t 92))) (.take (la 94 6 (t 93)) (.take (mv 95 (t 0)) (.take (mv 96 (t 12)) (.take (o 97 (.iaddr 6 (t 95) (t 96))) (.take (la 98 6 (t 97)) (.take (o 99 (.iaddr 6 (t 87) (t 88))) (.alt (st 6 (t 99) (t 94)) false
  (.take (o 100 (.iaddr 6 (t 89) (t 90))) (.alt (st 6 (t 100) (t 98)) false
   (.done)
   (.none)))
  (.none))))))))))))))) [87, 88, 89, 90, 91, 92, 93, 94, 95, 96, 97, 98, 99, 100])
 (.seq (.ops [mv 101 (t 12),
 ad 102 (t 101) (k 1),
 mv 12 (t 102)] [101, 102])
 (.seq (.ops [mv 103 (t 13),
 o 104 (.ibin .sub (t 103) (k 1)),
 mv 13 (t 104)] [103, 104])
 (.seq (.block 4 (.loop (.block 5 (.seq (.block 6 (.loop (.seq (.seq (.draw (.take (mv 105 (t 12)) (.take (mv 106 (t 13)) (.take (o 107 (.ibin .leq (t 105) (t 106))) (.take (os 108 (.mov (t 107))) (.take (gt 108 109 (.mov (t 4))) (.take (gt 108 110 (.mov (t 0))) (.take (gt 108 111 (.mov (t 12))) (.take (gt 108 112 (.iaddr 6 (t 110) (t 111))) (.take (gt 108 113 (.load true 6 (t 112))) (.take (gt 108 114 (.mov (t 0))) (.take (gt 108 115 (.mov (t 1))) (.take (gt 108 116 (.iaddr 6 (t 114) (t 115))) (.take (gt 108 117 (.load true 6 (t 116))) (.alt (gt 108 118 (.call (t 109) [(t 113), (t 117)])) false
    (.take (gt 108 119 (.ibin .lss (t 118) (k 0))) (.take (o 120 (.pick (t 108) (t 119) (kb false))) (.done)))
    (.none))))))))))))))) [105, 106, 107, 108, 109, 110, 111, 112, 113, 114, 115, 116, 117, 118, 119])
   (.cond (t 120)
    (.skip)
    (.exit 6)))
   (.block 7 (.ops [mv 121 (t 12),
   ad 122 (t 121) (k 1),
   mv 12 (t 122)] [121, 122])))))
  (.seq (.block 8 (.loop (.seq (.seq (.draw (.take (mv 123 (t 12)) (.take (mv 124 (t 13)) (.take (o 125 (.ibin .leq (t 123) (t 124))) (.take (os 126 (.mov (t 125))) (.take (gt 126 127 (.mov (t 4))) (.take (gt 126 128 (.mov (t 0))) (.take (gt 126 129 (.mov (t 13))) (.take (gt 126 130 (.iaddr 6 (t 128) (t 129))) (.take (gt 126 131 (.load true 6 (t 130))) (.take (gt 126 132 (.mov (t 0))) (.take (gt 126 133 (.mov (t 1))) (.take (gt 126 134 (.iaddr 6 (t 132) (t 133))) (.take (gt 126 135 (.load true 6 (t 134))) (.alt (gt 126 136 (.call (t 127) [(t 131), (t 135)])) false
    (.take (gt 126 137 (.ibin .lss (t 136) (k 0))) (.take (gt 126 138 (.not (t 137))) (.take (o 139 (.pick (t 126) (t 138) (kb false))) (.done))))
    (.none))))))))))))))) [123, 124, 125, 126, 127, 128, 129, 130, 131, 132, 133, 134, 135, 136, 137, 138])
   (.cond (t 139)
    (.skip)
    (.exit 8)))
   (.block 9 (.ops [mv 140 (t 13),
   o 141 (.ibin .sub (t 140) (k 1)),
   mv 13 (t 141)] [140, 141])))))
  (.seq (.seq (.ops [mv 142 (t 12),
  mv 143 (t 13),
  o 144 (.ibin .gtr (t 142) (t 143))] [142, 143])
  (.cond (t 144)
   (.exit 4)
   (.skip)))
  (.seq (.draw (.take (mv 145 (t 0)) (.take (mv 146 (t 12)) (.take (mv 147 (t 0)) (.take (mv 148 (t 13)) (.take (mv 149 (t 0)) (.take (mv 150 (t 13)) (.take (o 151 (.iaddr 6 (t 149) (t 150))) (.take (la 152 6 (t 151)) (.take (mv 153 (t 0)) (.take (mv 154 (t 12)) (.take (o 155 (.iaddr 6 (t 153) (t 154))) (.take (la 156 6 (t 155)) (.take (o 157 (.iaddr 6 (t 145) (t 146))) (.alt (st 6 (t 157) (t 152)) false
   (.take (o 158 (.iaddr 6 (t 147) (t 148))) (.alt (st 6 (t 158) (t 156)) false
    (.done)
    (.none)))
   (.none))))))))))))))) [145, 146, 147, 148, 149, 150, 151, 152, 153, 154, 155, 156, 157, 158])
  (.seq (.ops [mv 159 (t 12),
  ad 160 (t 159) (k 1),
  mv 12 (t 160)] [159, 160])
  (.ops [mv 161 (t 13),
  o 162 (.ibin .sub (t 161) (k 1)),
  mv 13 (t 162)] [161, 162])))))))))
 (.seq (.draw (.take (mv 163 (t 0)) (.take (mv 164 (t 13)) (.take (mv 165 (t 0)) (.take (mv 166 (t 1)) (.take (mv 167 (t 0)) (.take (mv 168 (t 1)) (.take (o 169 (.iaddr 6 (t 167) (t 168))) (.take (la 170 6 (t 169)) (.take (mv 171 (t 0)) (.take (mv 172 (t 13)) (.take (o 173 (.iaddr 6 (t 171) (t 172))) (.take (la 174 6 (t 173)) (.take (o 175 (.iaddr 6 (t 163) (t 164))) (.alt (st 6 (t 175) (t 170)) false
  (.take (o 176 (.iaddr 6 (t 165) (t 166))) (.alt (st 6 (t 176) (t 174)) false
   (.done)
   (.none)))
  (.none))))))))))))))) [0, 1, 163, 164, 165, 166, 167, 168, 169, 170, 171, 172, 173, 174, 175, 176])
 (.seq (.ops [mv 177 (t 13),
 mv 10 (t 177),
 mv 11 (kb false)] [13, 177])
 (.ret))))))))))))
def r_slices_partitionCmpFunc_store_place : List RRes := [.tmp 10, .tmp 11]
theorem fo_slices_partitionCmpFunc_store_place {args : List Value} {M : Mem} {R : Value → Mem → Prop} (hn : args.length ≤ 178) (h : vfn Try.prog c_slices_partitionCmpFunc_store_place r_slices_partitionCmpFunc_store_place args M R) : CallsM Try.prog F.slices_partitionCmpFunc_store_place args M R :=
  fn_ok (kf := k_slices_partitionCmpFunc_store_place) Try.func112 (by kernel_rfl) (by kernel_rfl) hn (by kernel_rfl) h
/-- math/bits.Len32 -/
def k_math_bits_Len32 (i : Nat) : List Nat := match i with | 1 => [3] | 2 => [5, 6] | 4 => [7] | 5 => [9, 10] | 6 => [11, 12] | 7 => [0, 13, 14, 15, 16, 17, 18] | _ => []
def c_math_bits_Len32 : RCode :=
 .seq (.ops [mv 2 (k 0)] [])
 (.seq (.seq (.ops [mv 3 (t 0),
 o 4 (.ibin .geq (t 3) (.const (.int .u32 65536)))] [3])
 (.cond (t 4)
  (.seq (.ops [mv 5 (t 0),
  o 6 (.ibin .shr (t 5) (.const (.int .u64 16))),
  mv 0 (t 6)] [5, 6])
  (.ops [mv 2 (k 16)] []))
  (.skip)))
 (.seq (.seq (.ops [mv 7 (t 0),
 o 8 (.ibin .geq (t 7) (.const (.int .u32 256)))] [7])
 (.cond (t 8)
  (.seq (.ops [mv 9 (t 0),
  o 10 (.ibin .shr (t 9) (.const (.int .u64 8))),
  mv 0 (t 10)] [9, 10])
  (.ops [mv 11 (t 2),
  ad 12 (t 11) (k 8),
  mv 2 (t 12)] [11, 12]))
  (.skip)))
 (.seq (.ops [mv 13 (t 2),
 mv 14 (t 0),
 o 15 (.conv .u8 (t 14)),
 o 16 (.sidx (.const (.string ⟨#[0, 1, 2, 2, 3, 3, 3, 3, 4, 4, 4, 4, 4, 4, 4, 4, 5, 5, 5, 5, 5, 5, 5, 5, 5, 5, 5, 5, 5, 5, 5, 5, 6, 6, 6, 6, 6, 6, 6, 6, 6, 6, 6, 6, 6, 6, 6, 6, 6, 6, 6, 6, 6, 6, 6, 6, 6, 6, 6, 6, 6, 6, 6, 6, 7, 7, 7, 7, 7, 7, 7, 7, 7, 7, 7, 7, 7, 7, 7, 7, 7, 7, 7, 7, 7, 7, 7, 7, 7, 7, 7, 7, 7, 7, 7, 7, 7, 7, 7, 7, 7, 7, 7, 7, 7, 7, 7, 7, 7, 7, 7, 7, 7, 7, 7, 7, 7, 7, 7, 7, 7, 7, 7, 7, 7, 7, 7, 7, 8, 8, 8, 8, 8, 8, 8, 8, 8, 8, 8, 8, 8, 8, 8, 8, 8, 8, 8, 8, 8, 8, 8, 8, 8, 8, 8, 8, 8, 8, 8, 8, 8, 8, 8, 8, 8, 8, 8, 8, 8, 8, 8, 8, 8, 8, 8, 8, 8, 8, 8, 8, 8, 8, 8, 8, 8, 8, 8, 8, 8, 8, 8, 8, 8, 8, 8, 8, 8, 8, 8, 8, 8, 8, 8, 8, 8, 8, 8, 8, 8, 8, 8, 8, 8, 8, 8, 8, 8, 8, 8, 8, 8, 8, 8, 8, 8, 8, 8, 8, 8, 8, 8, 8, 8, 8, 8, 8, 8, 8, 8, 8, 8, 8, 8, 8, 8, 8, 8, 8, 8, 8, 8, 8, 8, 8, 8, 8]⟩)) (t 15)),
 o 17 (.conv .i64 (t 16)),
 ad 18 (t 13) (t 17),
 mv 2 (t 18)] [0, 13, 14, 15, 16, 17, 18])
 (.ret))))
def r_math_bits_Len32 : List RRes := [.tmp 2]
theorem fo_math_bits_Len32 {args : List Value} {M : Mem} {R : Value → Mem → Prop} (hn : args.length ≤ 19) (h : vfn Try.prog c_math_bits_Len32 r_math_bits_Len32 args M R) : CallsM Try.prog F.math_bits_Len32 args M R :=
  fn_ok (kf := k_math_bits_Len32) Try.func113 (by kernel_rfl) (by kernel_rfl) hn (by kernel_rfl) h
/-- math/bits.Len64 -/
def k_math_bits_Len64 (i : Nat) : List Nat := match i with | 1 => [3] | 2 => [5, 6] | 4 => [7] | 5 => [9, 10] | 6 => [11, 12] | 7 => [13] | 8 => [15, 16] | 9 => [17, 18] | 10 => [0, 19, 20, 21, 22, 23, 24] | _ => []
def c_math_bits_Len64 : RCode :=
 .seq (.ops [mv 2 (k 0)] [])
 (.seq (.seq (.ops [mv 3 (t 0),
 o 4 (.ibin .geq (t 3) (.const (.int .u64 4294967296)))] [3])
 (.cond (t 4)
  (.seq (.ops [mv 5 (t 0),
  o 6 (.ibin .shr (t 5) (.const (.int .u64 32))),
  mv 0 (t 6)] [5, 6])
  (.ops [mv 2 (k 32)] []))
  (.skip)))
 (.seq (.seq (.ops [mv 7 (t 0),
 o 8 (.ibin .geq (t 7) (.const (.int .u64 65536)))] [7])
 (.cond (t 8)
  (.seq (.ops [mv 9 (t 0),
  o 10 (.ibin .shr (t 9) (.const (.int .u64 16))),
  mv 0 (t 10)] [9, 10])
  (.ops [mv 11 (t 2),
  ad 12 (t 11) (k 16),
  mv 2 (t 12)] [11, 12]))
  (.skip)))
 (.seq (.seq (.ops [mv 13 (t 0),
 o 14 (.ibin .geq (t 13) (.const (.int .u64 256)))] [13])
 (.cond (t 14)
  (.seq (.ops [mv 15 (t 0),
  o 16 (.ibin .shr (t 15) (.const (.int .u64 8))),
  mv 0 (t 16)] [15, 16])
  (.ops [mv 17 (t 2),
  ad 18 (t 17) (k 8),
  mv 2 (t 18)] [17, 18]))
  (.skip)))
 (.seq (.ops [mv 19 (t 2),
 mv 20 (t 0),
 o 21 (.conv .u8 (t 20)),
 o 22 (.sidx (.const (.string ⟨#[0, 1, 2, 2, 3, 3, 3, 3, 4, 4, 4, 4, 4, 4, 4, 4, 5, 5, 5, 5, 5, 5, 5, 5, 5, 5, 5, 5, 5, 5, 5, 5, 6, 6, 6, 6, 6, 6, 6, 6, 6, 6, 6, 6, 6, 6, 6, 6, 6, 6, 6, 6, 6, 6, 6, 6, 6, 6, 6, 6, 6, 6, 6, 6, 7, 7, 7, 7, 7, 7, 7, 7, 7, 7, 7, 7, 7, 7, 7, 7, 7, 7, 7, 7, 7, 7, 7, 7, 7, 7, 7, 7, 7, 7, 7, 7, 7, 7, 7, 7, 7, 7, 7, 7, 7, 7, 7, 7, 7, 7, 7, 7, 7, 7, 7, 7, 7, 7, 7, 7, 7, 7, 7, 7, 7, 7, 7, 7, 8, 8, 8, 8, 8, 8, 8, 8, 8, 8, 8, 8, 8, 8, 8, 8, 8, 8, 8, 8, 8, 8, 8, 8, 8, 8, 8, 8, 8, 8, 8, 8, 8, 8, 8, 8, 8, 8, 8, 8, 8, 8, 8, 8, 8, 8, 8, 8, 8, 8, 8, 8, 8, 8, 8, 8, 8, 8, 8, 8, 8, 8, 8, 8, 8, 8, 8, 8, 8, 8, 8, 8, 8, 8, 8, 8, 8, 8, 8, 8, 8, 8, 8, 8, 8, 8, 8, 8, 8, 8, 8, 8, 8, 8, 8, 8, 8, 8, 8, 8, 8, 8, 8, 8, 8, 8, 8, 8, 8, 8, 8, 8, 8, 8, 8, 8, 8, 8, 8, 8, 8, 8, 8, 8, 8, 8, 8, 8]⟩)) (t 21)),
 o 23 (.conv .i64 (t 22)),
 ad 24 (t 19) (t 23),
 mv 2 (t 24)] [0, 19, 20, 21, 22, 23, 24])
 (.ret)))))
def r_math_bits_Len64 : List RRes := [.tmp 2]
theorem fo_math_bits_Len64 {args : List Value} {M : Mem} {R : Value → Mem → Prop} (hn : args.length ≤ 25) (h : vfn Try.prog c_math_bits_Len64 r_math_bits_Len64 args M R) : CallsM Try.prog F.math_bits_Len64 args M R :=
  fn_ok (kf := k_math_bits_Len64) Try.func114 (by kernel_rfl) (by kernel_rfl) hn (by kernel_rfl) h
/-- portage/portageref14.Next -/
def k_ref14_Next (i : Nat) : List Nat := match i with | 0 => [0, 1, 4] | 1 => [2, 7, 8] | 3 => [9, 10, 11] | 5 => [15, 16, 17, 18, 19, 20, 21, 22, 23, 24, 25, 26, 27, 28, 29, 30, 31] | 6 => [5, 6, 33, 34, 35, 36, 37, 38] | 4 => [13, 14] | _ => []
def c_ref14_Next : RCode :=
 .seq (.ops [o 2 (.box 34 (t 0)),
 o 3 (.box 45 (t 1)),
 mv 4 (k 0)] [0, 1, 4])
 (.seq (.ops [la 7 2 (t 2),
 ca 8 F.ref14_Marks [(t 7)],
 mv 5 (t 8)] [2, 7, 8])
 (.seq (.seq (.ops [mv 6 (k 0)] [])
 (.block 0 (.loop (.seq (.seq (.ops [mv 9 (t 6),
  mv 10 (t 5),
  o 11 (.len (t 10)),
  o 12 (.ibin .lss (t 9) (t 11))] [9, 10, 11])
  (.cond (t 12)
   (.skip)
   (.exit 0)))
  (.seq (.block 1 (.seq (.draw (.take (mv 15 (t 5)) (.take (mv 16 (t 6)) (.take (o 17 (.iaddr 4 (t 15) (t 16))) (.take (fa 18 0 (t 17)) (.take (l1 19 (t 18)) (.take (fa 20 0 (t 3)) (.take (l1 21 (t 20)) (.take (o 22 (.ibin .eql (t 19) (t 21))) (.take (os 23 (.mov (t 22))) (.take (gt 23 24 (.mov (t 5))) (.take (gt 23 25 (.mov (t 6))) (.take (gt 23 26 (.iaddr 4 (t 24) (t 25))) (.take (gt 23 27 (.faddr 1 (t 26))) (.take (gt 23 28 (.load false 1 (t 27))) (.take (gt 23 29 (.faddr 2 (t 3))) (.take (gt 23 30 (.load false 1 (t 29))) (.take (gt 23 31 (.ibin .eql (t 28) (t 30))) (.take (o 32 (.pick (t 23) (t 31) (kb false))) (.done))))))))))))))))))) [15, 16, 17, 18, 19, 20, 21, 22, 23, 24, 25, 26, 27, 28, 29, 30, 31])
  (.cond (t 32)
   (.seq (.ops [mv 33 (t 5),
   mv 34 (t 6),
   o 35 (.iaddr 4 (t 33) (t 34)),
   fa 36 2 (t 35),
   l1 37 (t 36),
   ad 38 (t 37) (k 1),
   mv 4 (t 38)] [5, 6, 33, 34, 35, 36, 37, 38])
   (.ret))
   (.skip))))
  (.ops [mv 13 (t 6),
  ad 14 (t 13) (k 1),
  mv 6 (t 14)] [13, 14]))))))
 (.seq (.ops [mv 4 (k 1)] [])
 (.ret))))
def r_ref14_Next : List RRes := [.tmp 4]
theorem fo_ref14_Next {args : List Value} {M : Mem} {R : Value → Mem → Prop} (hn : args.length ≤ 39) (h : vfn Try.prog c_ref14_Next r_ref14_Next args M R) : CallsM Try.prog F.ref14_Next args M R :=
  fn_ok (kf := k_ref14_Next) Try.func115 (by kernel_rfl) (by kernel_rfl) hn (by kernel_rfl) h
/-- portage/portageref14.Gaps -/
def k_ref14_Gaps (i : Nat) : List Nat := match i with | 0 => [0, 2] | 1 => [1, 6, 7] | 4 => [8, 9, 10] | 6 => [14, 15, 16, 17, 18, 19, 20, 21] | 5 => [12, 13] | 7 => [4, 22] | _ => []
def c_ref14_Gaps : RCode :=
 .seq (.ops [o 1 (.box 34 (t 0)),
 mv 2 (k 0)] [0, 2])
 (.seq (.ops [la 6 2 (t 1),
 ca 7 F.ref14_Marks [(t 6)],
 mv 3 (t 7)] [1, 6, 7])
 (.seq (.ops [mv 4 (k 0)] [])
 (.seq (.seq (.ops [mv 5 (k 0)] [])
 (.block 0 (.loop (.seq (.seq (.ops [mv 8 (t 5),
  mv 9 (t 3),
  o 10 (.len (t 9)),
  o 11 (.ibin .lss (t 8) (t 10))] [8, 9, 10])
  (.cond (t 11)
   (.skip)
   (.exit 0)))
  (.seq (.block 1 (.ops [mv 14 (t 4),
  mv 15 (t 3),
  mv 16 (t 5),
  o 17 (.iaddr 4 (t 15) (t 16)),
  fa 18 3 (t 17),
  l1 19 (t 18),
  o 20 (.len (t 19)),
  ad 21 (t 14) (t 20),
  mv 4 (t 21)] [14, 15, 16, 17, 18, 19, 20, 21]))
  (.ops [mv 12 (t 5),
  ad 13 (t 12) (k 1),
  mv 5 (t 13)] [12, 13]))))))
 (.seq (.ops [mv 22 (t 4),
 mv 2 (t 22)] [4, 22])
 (.ret)))))
def r_ref14_Gaps : List RRes := [.tmp 2]
theorem fo_ref14_Gaps {args : List Value} {M : Mem} {R : Value → Mem → Prop} (hn : args.length ≤ 23) (h : vfn Try.prog c_ref14_Gaps r_ref14_Gaps args M R) : CallsM Try.prog F.ref14_Gaps args M R :=
  fn_ok (kf := k_ref14_Gaps) Try.func116 (by kernel_rfl) (by kernel_rfl) hn (by kernel_rfl) h
/-- portage/portageref14.less -/
def k_ref14_less (i : Nat) : List Nat := match i with | 0 => [0, 1, 4] | 1 => [5, 6, 7, 8] | 2 => [2, 3, 10, 11, 12, 13, 14] | 3 => [15, 16, 17, 18] | 4 => [2, 3, 20, 21, 22, 23, 24] | 5 => [2, 3, 25, 26, 27, 28, 29] | _ => []
def c_ref14_less : RCode :=
 .seq (.ops [o 2 (.box 140 (t 0)),
 o 3 (.box 140 (t 1)),
 mv 4 (kb false)] [0, 1, 4])
 (.seq (.seq (.ops [fa 5 0 (t 2),
 l1 6 (t 5),
 fa 7 0 (t 3),
 l1 8 (t 7),
 o 9 (.ibin .neq (t 6) (t 8))] [5, 6, 7, 8])
 (.cond (t 9)
  (.seq (.ops [fa 10 0 (t 2),
  l1 11 (t 10),
  fa 12 0 (t 3),
  l1 13 (t 12),
  o 14 (.ibin .lss (t 11) (t 13)),
  mv 4 (t 14)] [2, 3, 10, 11, 12, 13, 14])
  (.ret))
  (.skip)))
 (.seq (.seq (.ops [fa 15 1 (t 2),
 l1 16 (t 15),
 fa 17 1 (t 3),
 l1 18 (t 17),
 o 19 (.ibin .neq (t 16) (t 18))] [15, 16, 17, 18])
 (.cond (t 19)
  (.seq (.ops [fa 20 1 (t 2),
  l1 21 (t 20),
  fa 22 1 (t 3),
  l1 23 (t 22),
  o 24 (.ibin .lss (t 21) (t 23)),
  mv 4 (t 24)] [2, 3, 20, 21, 22, 23, 24])
  (.ret))
  (.skip)))
 (.seq (.ops [fa 25 2 (t 2),
 l1 26 (t 25),
 fa 27 2 (t 3),
 l1 28 (t 27),
 o 29 (.ibin .lss (t 26) (t 28)),
 mv 4 (t 29)] [2, 3, 25, 26, 27, 28, 29])
 (.ret))))
def r_ref14_less : List RRes := [.tmp 4]
theorem fo_ref14_less {args : List Value} {M : Mem} {R : Value → Mem → Prop} (hn : args.length ≤ 30) (h : vfn Try.prog c_ref14_less r_ref14_less args M R) : CallsM Try.prog F.ref14_less args M R :=
  fn_ok (kf := k_ref14_less) Try.func117 (by kernel_rfl) (by kernel_rfl) hn (by kernel_rfl) h
/-- cmp.isNaN[int] -/
def k_cmp_isNaN_int (i : Nat) : List Nat := match i with | 0 => [2] | 1 => [0, 3, 4, 5] | _ => []
def c_cmp_isNaN_int : RCode :=
 .seq (.ops [mv 2 (kb false)] [2])
 (.seq (.ops [mv 3 (t 0),
 mv 4 (t 0),
 o 5 (.ibin .neq (t 3) (t 4)),
 mv 2 (t 5)] [0, 3, 4, 5])
 (.ret))
def r_cmp_isNaN_int : List RRes := [.tmp 2]
theorem fo_cmp_isNaN_int {args : List Value} {M : Mem} {R : Value → Mem → Prop} (hn : args.length ≤ 6) (h : vfn Try.prog c_cmp_isNaN_int r_cmp_isNaN_int args M R) : CallsM Try.prog F.cmp_isNaN_int args M R :=
  fn_ok (kf := k_cmp_isNaN_int) Try.func118 (by kernel_rfl) (by kernel_rfl) hn (by kernel_rfl) h
/-- slices.rotateLeft[int] -/
def k_slices_rotateLeft_int (i : Nat) : List Nat := match i with | 0 => [4, 5, 6, 7] | 1 => [1, 8, 9, 10, 11] | 2 => [0, 12, 13] | _ => []
def c_slices_rotateLeft_int : RCode :=
 .seq (.ops [mv 4 (t 0),
 mv 5 (t 1),
 o 6 (.slx 1 (t 4) none (some (t 5))),
 ca 7 F.slices_Reverse_int_int [(t 6)]] [4, 5, 6, 7])
 (.seq (.ops [mv 8 (t 0),
 mv 9 (t 1),
 o 10 (.slx 1 (t 8) (some (t 9)) none),
 ca 11 F.slices_Reverse_int_int [(t 10)]] [1, 8, 9, 10, 11])
 (.ops [mv 12 (t 0),
 ca 13 F.slices_Reverse_int_int [(t 12)]] [0, 12, 13]))
def r_slices_rotateLeft_int : List RRes := []
theorem fo_slices_rotateLeft_int {args : List Value} {M : Mem} {R : Value → Mem → Prop} (hn : args.length ≤ 14) (h : vfn Try.prog c_slices_rotateLeft_int r_slices_rotateLeft_int args M R) : CallsM Try.prog F.slices_rotateLeft_int args M R :=
  fn_ok (kf := k_slices_rotateLeft_int) Try.func119 (by kernel_rfl) (by kernel_rfl) hn (by kernel_rfl) h
/-- slices.insertionSortCmpFunc[portage/api.Mark] -/
def k_slices_insertionSortCmpFunc_api_Mark (i : Nat) : List Nat := match i with | 0 => [10, 11] | 1 => [12, 13] | 3 => [17] | 4 => [18, 19, 20, 21, 22, 23, 24, 25, 26, 27, 28, 29, 30, 31, 32, 33] | 6 => [37, 38, 39, 40, 41, 42, 43, 44, 45, 46, 47, 48, 49, 50, 51, 52] | 5 => [35, 36] | 2 => [15, 16] | _ => []
def c_slices_insertionSortCmpFunc_api_Mark : RCode :=
 .seq (.ops [mv 10 (t 1),
 ad 11 (t 10) (k 1),
 mv 8 (t 11)] [10, 11])
 (.block 0 (.loop (.seq (.seq (.ops [mv 12 (t 8),
  mv 13 (t 2),
  o 14 (.ibin .lss (t 12) (t 13))] [12, 13])
  (.cond (t 14)
   (.skip)
   (.exit 0)))
  (.seq (.block 1 (.seq (.ops [mv 17 (t 8),
  mv 9 (t 17)] [17])
  (.block 2 (.loop (.seq (.seq (.draw (.take (mv 18 (t 9)) (.take (mv 19 (t 1)) (.take (o 20 (.ibin .gtr (t 18) (t 19))) (.take (os 21 (.mov (t 20))) (.take (gt 21 22 (.mov (t 3))) (.take (gt 21 23 (.mov (t 0))) (.take (gt 21 24 (.mov (t 9))) (.take (gt 21 25 (.iaddr 4 (t 23) (t 24))) (.take (gt 21 26 (.load true 4 (t 25))) (.take (gt 21 27 (.mov (t 0))) (.take (gt 21 28 (.mov (t 9))) (.take (gt 21 29 (.ibin .sub (t 28) (k 1))) (.take (gt 21 30 (.iaddr 4 (t 27) (t 29))) (.take (gt 21 31 (.load true 4 (t 30))) (.alt (gt 21 32 (.call (t 22) [(t 26), (t 31)])) false
    (.take (gt 21 33 (.ibin .lss (t 32) (k 0))) (.take (o 34 (.pick (t 21) (t 33) (kb false))) (.done)))
    (.none)))))))))))))))) [18, 19, 20, 21, 22, 23, 24, 25, 26, 27, 28, 29, 30, 31, 32, 33])
   (.cond (t 34)
    (.skip)
    (.exit 2)))
   (.seq (.block 3 (.draw (.take (mv 37 (t 0)) (.take (mv 38 (t 9)) (.take (mv 39 (t 0)) (.take (mv 40 (t 9)) (.take (o 41 (.ibin .sub (t 40) (k 1))) (.take (mv 42 (t 0)) (.take (mv 43 (t 9)) (.take (o 44 (.ibin .sub (t 43) (k 1))) (.take (o 45 (.iaddr 4 (t 42) (t 44))) (.take (la 46 4 (t 45)) (.take (mv 47 (t 0)) (.take (mv 48 (t 9)) (.take (o 49 (.iaddr 4 (t 47) (t 48))) (.take (la 50 4 (t 49)) (.take (o 51 (.iaddr 4 (t 37) (t 38))) (.alt (st 4 (t 51) (t 46)) false
    (.take (o 52 (.iaddr 4 (t 39) (t 41))) (.alt (st 4 (t 52) (t 50)) false
     (.done)
     (.none)))
    (.none))))))))))))))))) [37, 38, 39, 40, 41, 42, 43, 44, 45, 46, 47, 48, 49, 50, 51, 52]))
   (.ops [mv 35 (t 9),
   o 36 (.ibin .sub (t 35) (k 1)),
   mv 9 (t 36)] [35, 36])))))))
  (.ops [mv 15 (t 8),
  ad 16 (t 15) (k 1),
  mv 8 (t 16)] [15, 16])))))
def r_slices_insertionSortCmpFunc_api_Mark : List RRes := []
theorem fo_slices_insertionSortCmpFunc_api_Mark {args : List Value} {M : Mem} {R : Value → Mem → Prop} (hn : args.length ≤ 53) (h : vfn Try.prog c_slices_insertionSortCmpFunc_api_Mark r_slices_insertionSortCmpFunc_api_Mark args M R) : CallsM Try.prog F.slices_insertionSortCmpFunc_api_Mark args M R :=
  fn_ok (kf := k_slices_insertionSortCmpFunc_api_Mark) Try.func120 (by kernel_rfl) (by kernel_rfl) hn (by kernel_rfl) h
/-- slices.heapSortCmpFunc[portage/api.Mark] -/
def k_slices_heapSortCmpFunc_api_Mark (i : Nat) : List Nat := match i with | 0 => [13] | 2 => [1, 2, 14, 15, 16] | 3 => [17, 18, 19] | 4 => [20] | 6 => [24, 25, 26, 27, 28, 29] | 5 => [22, 23] | 7 => [10, 30, 31] | 8 => [32] | 10 => [36, 37, 38, 39, 40, 41, 42, 43, 44, 45, 46, 47, 48, 49, 50, 51, 52, 53] | 11 => [54, 55, 56, 57, 58, 59] | 9 => [34, 35] | _ => []
def c_slices_heapSortCmpFunc_api_Mark : RCode :=
 .seq (.ops [mv 13 (t 1),
 mv 8 (t 13)] [13])
 (.seq (.ops [mv 9 (k 0)] [])
 (.seq (.ops [mv 14 (t 2),
 mv 15 (t 1),
 o 16 (.ibin .sub (t 14) (t 15)),
 mv 10 (t 16)] [1, 2, 14, 15, 16])
 (.seq (.seq (.ops [mv 17 (t 10),
 o 18 (.ibin .sub (t 17) (k 1)),
 o 19 (.ibin .quo (t 18) (k 2)),
 mv 11 (t 19)] [17, 18, 19])
 (.block 0 (.loop (.seq (.seq (.ops [mv 20 (t 11),
  o 21 (.ibin .geq (t 20) (k 0))] [20])
  (.cond (t 21)
   (.skip)
   (.exit 0)))
  (.seq (.block 1 (.ops [mv 24 (t 0),
  mv 25 (t 11),
  mv 26 (t 10),
  mv 27 (t 8),
  mv 28 (t 3),
  ca 29 F.slices_siftDownCmpFunc_api_Mark [(t 24), (t 25), (t 26), (t 27), (t 28)]] [24, 25, 26, 27, 28, 29]))
  (.ops [mv 22 (t 11),
  o 23 (.ibin .sub (t 22) (k 1)),
  mv 11 (t 23)] [22, 23]))))))
 (.seq (.ops [mv 30 (t 10),
 o 31 (.ibin .sub (t 30) (k 1)),
 mv 12 (t 31)] [10, 30, 31])
 (.block 2 (.loop (.seq (.seq (.ops [mv 32 (t 12),
  o 33 (.ibin .geq (t 32) (k 0))] [32])
  (.cond (t 33)
   (.skip)
   (.exit 2)))
  (.seq (.block 3 (.seq (.draw (.take (mv 36 (t 0)) (.take (mv 37 (t 8)) (.take (mv 38 (t 0)) (.take (mv 39 (t 8)) (.take (mv 40 (t 12)) (.take (ad 41 (t 39) (t 40)) (.take (mv 42 (t 0)) (.take (mv 43 (t 8)) (.take (mv 44 (t 12)) (.take (ad 45 (t 43) (t 44)) (.take (o 46 (.iaddr 4 (t 42) (t 45))) (.take (la 47 4 (t 46)) (.take (mv 48 (t 0)) (.take (mv 49 (t 8)) (.take (o 50 (.iaddr 4 (t 48) (t 49))) (.take (la 51 4 (t 50)) (.take (o 52 (.iaddr 4 (t 36) (t 37))) (.alt (st 4 (t 52) (t 47)) false
   (.take (o 53 (.iaddr 4 (t 38) (t 41))) (.alt (st 4 (t 53) (t 51)) false
    (.done)
    (.none)))
   (.none))))))))))))))))))) [36, 37, 38, 39, 40, 41, 42, 43, 44, 45, 46, 47, 48, 49, 50, 51, 52, 53])
  (.ops [mv 54 (t 0),
  mv 55 (t 9),
  mv 56 (t 12),
  mv 57 (t 8),
  mv 58 (t 3),
  ca 59 F.slices_siftDownCmpFunc_api_Mark [(t 54), (t 55), (t 56), (t 57), (t 58)]] [54, 55, 56, 57, 58, 59])))
  (.ops [mv 34 (t 12),
  o 35 (.ibin .sub (t 34) (k 1)),
  mv 12 (t 35)] [34, 35])))))))))
def r_slices_heapSortCmpFunc_api_Mark : List RRes := []
theorem fo_slices_heapSortCmpFunc_api_Mark {args : List Value} {M : Mem} {R : Value → Mem → Prop} (hn : args.length ≤ 60) (h : vfn Try.prog c_slices_heapSortCmpFunc_api_Mark r_slices_heapSortCmpFunc_api_Mark args M R) : CallsM Try.prog F.slices_heapSortCmpFunc_api_Mark args M R :=
  fn_ok (kf := k_slices_heapSortCmpFunc_api_Mark) Try.func121 (by kernel_rfl) (by kernel_rfl) hn (by kernel_rfl) h
/-- slices.breakPatternsCmpFunc[portage/api.Mark] -/
def k_slices_breakPatternsCmpFunc_api_Mark (i : Nat) : List Nat := match i with | 0 => [2, 13, 14, 15] | 1 => [16] | 2 => [18, 19] | 3 => [20, 21] | 4 => [22, 23, 24, 25, 26, 27] | 5 => [28, 29, 30, 31, 32, 33, 34] | 7 => [38, 39, 40, 41, 42] | 8 => [43, 44] | 9 => [46, 47, 48] | 10 => [12, 49, 50, 51, 52, 53, 54, 55, 56, 57, 58, 59, 60, 61, 62, 63, 64, 65, 66] | 6 => [36, 37] | _ => []
def c_slices_breakPatternsCmpFunc_api_Mark : RCode :=
 .seq (.ops [mv 13 (t 2),
 mv 14 (t 1),
 o 15 (.ibin .sub (t 13) (t 14)),
 mv 8 (t 15)] [2, 13, 14, 15])
 (.seq (.ops [mv 16 (t 8),
 o 17 (.ibin .geq (t 16) (k 8))] [16])
 (.cond (t 17)
  (.seq (.ops [mv 18 (t 8),
  o 19 (.conv .u64 (t 18)),
  o 9 (.alloc 181 [(.int .u64 0)]),
  st 1 (t 9) (t 19)] [18, 19])
  (.seq (.ops [mv 20 (t 8),
  ca 21 F.slices_nextPowerOfTwo [(t 20)],
  mv 10 (t 21)] [20, 21])
  (.seq (.ops [mv 22 (t 1),
  mv 23 (t 8),
  o 24 (.ibin .quo (t 23) (k 4)),
  o 25 (.ibin .mul (t 24) (k 2)),
  ad 26 (t 22) (t 25),
  o 27 (.ibin .sub (t 26) (k 1)),
  mv 11 (t 27)] [22, 23, 24, 25, 26, 27])
  (.block 0 (.loop (.seq (.seq (.ops [mv 28 (t 11),
   mv 29 (t 1),
   mv 30 (t 8),
   o 31 (.ibin .quo (t 30) (k 4)),
   o 32 (.ibin .mul (t 31) (k 2)),
   ad 33 (t 29) (t 32),
   ad 34 (t 33) (k 1),
   o 35 (.ibin .leq (t 28) (t 34))] [28, 29, 30, 31, 32, 33, 34])
   (.cond (t 35)
    (.skip)
    (.exit 0)))
   (.seq (.block 1 (.seq (.ops [ca 38 F.slices_xorshift_Next [(t 9)],
   mv 39 (t 10),
   o 40 (.ibin .sub (t 39) (.const (.int .u64 1))),
   o 41 (.ibin .and (t 38) (t 40)),
   o 42 (.conv .i64 (t 41)),
   mv 12 (t 42)] [38, 39, 40, 41, 42])
   (.seq (.seq (.ops [mv 43 (t 12),
   mv 44 (t 8),
   o 45 (.ibin .geq (t 43) (t 44))] [43, 44])
   (.cond (t 45)
    (.ops [mv 46 (t 12),
    mv 47 (t 8),
    o 48 (.ibin .sub (t 46) (t 47)),
    mv 12 (t 48)] [46, 47, 48])
    (.skip)))
   (.draw (.take (mv 49 (t 0)) (.take (mv 50 (t 11)) (.take (mv 51 (t 0)) (.take (mv 52 (t 1)) (.take (mv 53 (t 12)) (.take (ad 54 (t 52) (t 53)) (.take (mv 55 (t 0)) (.take (mv 56 (t 1)) (.take (mv 57 (t 12)) (.take (ad 58 (t 56) (t 57)) (.take (o 59 (.iaddr 4 (t 55) (t 58))) (.take (la 60 4 (t 59)) (.take (mv 61 (t 0)) (.take (mv 62 (t 11)) (.take (o 63 (.iaddr 4 (t 61) (t 62))) (.take (la 64 4 (t 63)) (.take (o 65 (.iaddr 4 (t 49) (t 50))) (.alt (st 4 (t 65) (t 60)) false
    (.take (o 66 (.iaddr 4 (t 51) (t 54))) (.alt (st 4 (t 66) (t 64)) false
     (.done)
     (.none)))
    (.none))))))))))))))))))) [12, 49, 50, 51, 52, 53, 54, 55, 56, 57, 58, 59, 60, 61, 62, 63, 64, 65, 66]))))
   (.ops [mv 36 (t 11),
   ad 37 (t 36) (k 1),
   mv 11 (t 37)] [36, 37]))))))))
  (.skip)))
def r_slices_breakPatternsCmpFunc_api_Mark : List RRes := []
theorem fo_slices_breakPatternsCmpFunc_api_Mark {args : List Value} {M : Mem} {R : Value → Mem → Prop} (hn : args.length ≤ 67) (h : vfn Try.prog c_slices_breakPatternsCmpFunc_api_Mark r_slices_breakPatternsCmpFunc_api_Mark args M R) : CallsM Try.prog F.slices_breakPatternsCmpFunc_api_Mark args M R :=
  fn_ok (kf := k_slices_breakPatternsCmpFunc_api_Mark) Try.func122 (by kernel_rfl) (by kernel_rfl) hn (by kernel_rfl) h
/-- slices.choosePivotCmpFunc[portage/api.Mark] -/
def k_slices_choosePivotCmpFunc_api_Mark (i : Nat) : List Nat := match i with | 0 => [8, 9] | 1 => [2, 15, 16, 17] | 3 => [18, 19, 20, 21, 22] | 4 => [23, 24, 25, 26, 27] | 5 => [1, 28, 29, 30, 31, 32] | 6 => [33] | 7 => [10, 35] | 8 => [37, 38, 39, 40] | 9 => [41, 42, 43, 44] | 10 => [45, 46, 47, 48] | 11 => [0, 3, 12, 14, 49, 50, 51, 52, 53, 54] | 12 => [11] | 14 => [58] | 15 => [13, 59] | 16 => [55, 61] | 17 => [13, 62] | 13 => [13, 56] | _ => []
def c_slices_choosePivotCmpFunc_api_Mark : RCode :=
 .seq (.ops [mv 8 (k 0),
 mv 9 (k 0)] [8, 9])
 (.seq (.ops [mv 15 (t 2),
 mv 16 (t 1),
 o 17 (.ibin .sub (t 15) (t 16)),
 mv 10 (t 17)] [2, 15, 16, 17])
 (.seq (.ops [o 11 (.alloc 3 [(i 0)])] [])
 (.seq (.ops [mv 18 (t 1),
 mv 19 (t 10),
 o 20 (.ibin .quo (t 19) (k 4)),
 o 21 (.ibin .mul (t 20) (k 1)),
 ad 22 (t 18) (t 21),
 mv 12 (t 22)] [18, 19, 20, 21, 22])
 (.seq (.ops [mv 23 (t 1),
 mv 24 (t 10),
 o 25 (.ibin .quo (t 24) (k 4)),
 o 26 (.ibin .mul (t 25) (k 2)),
 ad 27 (t 23) (t 26),
 mv 13 (t 27)] [23, 24, 25, 26, 27])
 (.seq (.ops [mv 28 (t 1),
 mv 29 (t 10),
 o 30 (.ibin .quo (t 29) (k 4)),
 o 31 (.ibin .mul (t 30) (k 3)),
 ad 32 (t 28) (t 31),
 mv 14 (t 32)] [1, 28, 29, 30, 31, 32])
 (.seq (.seq (.ops [mv 33 (t 10),
 o 34 (.ibin .geq (t 33) (k 8))] [33])
 (.cond (t 34)
  (.seq (.seq (.ops [mv 35 (t 10),
  o 36 (.ibin .geq (t 35) (k 50))] [10, 35])
  (.cond (t 36)
   (.seq (.ops [mv 37 (t 0),
   mv 38 (t 12),
   mv 39 (t 3),
   ca 40 F.slices_medianAdjacentCmpFunc_api_Mark [(t 37), (t 38), (t 11), (t 39)],
   mv 12 (t 40)] [37, 38, 39, 40])
   (.seq (.ops [mv 41 (t 0),
   mv 42 (t 13),
   mv 43 (t 3),
   ca 44 F.slices_medianAdjacentCmpFunc_api_Mark [(t 41), (t 42), (t 11), (t 43)],
   mv 13 (t 44)] [41, 42, 43, 44])
   (.ops [mv 45 (t 0),
   mv 46 (t 14),
   mv 47 (t 3),
   ca 48 F.slices_medianAdjacentCmpFunc_api_Mark [(t 45), (t 46), (t 11), (t 47)],
   mv 14 (t 48)] [45, 46, 47, 48])))
   (.skip)))
  (.ops [mv 49 (t 0),
  mv 50 (t 12),
  mv 51 (t 13),
  mv 52 (t 14),
  mv 53 (t 3),
  ca 54 F.slices_medianCmpFunc_api_Mark [(t 49), (t 50), (t 51), (t 52), (t 11), (t 53)],
  mv 13 (t 54)] [0, 3, 12, 14, 49, 50, 51, 52, 53, 54]))
  (.skip)))
 (.seq (.ops [l1 55 (t 11)] [11])
 (.block 0 (.seq (.ops [o 58 (.ibin .eql (t 55) (k 0)),
 mv 57 (t 58)] [58])
 (.cond (t 57)
  (.seq (.ops [mv 59 (t 13),
  mv 8 (t 59),
  mv 9 (k 1)] [13, 59])
  (.ret))
  (.seq (.ops [o 61 (.ibin .eql (t 55) (k 12)),
  mv 60 (t 61)] [55, 61])
  (.cond (t 60)
   (.seq (.ops [mv 62 (t 13),
   mv 8 (t 62),
   mv 9 (k 2)] [13, 62])
   (.ret))
   (.seq (.ops [mv 56 (t 13),
   mv 8 (t 56),
   mv 9 (k 0)] [13, 56])
   (.ret))))))))))))))
def r_slices_choosePivotCmpFunc_api_Mark : List RRes := [.tmp 8, .tmp 9]
theorem fo_slices_choosePivotCmpFunc_api_Mark {args : List Value} {M : Mem} {R : Value → Mem → Prop} (hn : args.length ≤ 63) (h : vfn Try.prog c_slices_choosePivotCmpFunc_api_Mark r_slices_choosePivotCmpFunc_api_Mark args M R) : CallsM Try.prog F.slices_choosePivotCmpFunc_api_Mark args M R :=
  fn_ok (kf := k_slices_choosePivotCmpFunc_api_Mark) Try.func123 (by kernel_rfl) (by kernel_rfl) hn (by kernel_rfl) h
/-- slices.reverseRangeCmpFunc[portage/api.Mark] -/
def k_slices_reverseRangeCmpFunc_api_Mark (i : Nat) : List Nat := match i with | 0 => [1, 10] | 1 => [2, 11, 12] | 2 => [13, 14] | 3 => [16, 17, 18, 19, 20, 21, 22, 23, 24, 25, 26, 27, 28, 29] | 4 => [30, 31] | 5 => [32, 33] | _ => []
def c_slices_reverseRangeCmpFunc_api_Mark : RCode :=
 .seq (.ops [mv 10 (t 1),
 mv 8 (t 10)] [1, 10])
 (.seq (.ops [mv 11 (t 2),
 o 12 (.ibin .sub (t 11) (k 1)),
 mv 9 (t 12)] [2, 11, 12])
 (.block 0 (.loop (.seq (.seq (.ops [mv 13 (t 8),
  mv 14 (t 9),
  o 15 (.ibin .lss (t 13) (t 14))] [13, 14])
  (.cond (t 15)
   (.skip)
   (.exit 0)))
  (.block 1 (.seq (.draw (.take (mv 16 (t 0)) (.take (mv 17 (t 8)) (.take (mv 18 (t 0)) (.take (mv 19 (t 9)) (.take (mv 20 (t 0)) (.take (mv 21 (t 9)) (.take (o 22 (.iaddr 4 (t 20) (t 21))) (.take (la 23 4 (t 22)) (.take (mv 24 (t 0)) (.take (mv 25 (t 8)) (.take (o 26 (.iaddr 4 (t 24) (t 25))) (.take (la 27 4 (t 26)) (.take (o 28 (.iaddr 4 (t 16) (t 17))) (.alt (st 4 (t 28) (t 23)) false
   (.take (o 29 (.iaddr 4 (t 18) (t 19))) (.alt (st 4 (t 29) (t 27)) false
    (.done)
    (.none)))
   (.none))))))))))))))) [16, 17, 18, 19, 20, 21, 22, 23, 24, 25, 26, 27, 28, 29])
  (.seq (.ops [mv 30 (t 8),
  ad 31 (t 30) (k 1),
  mv 8 (t 31)] [30, 31])
  (.ops [mv 32 (t 9),
  o 33 (.ibin .sub (t 32) (k 1)),
  mv 9 (t 33)] [32, 33]))))))))
def r_slices_reverseRangeCmpFunc_api_Mark : List RRes := []
theorem fo_slices_reverseRangeCmpFunc_api_Mark {args : List Value} {M : Mem} {R : Value → Mem → Prop} (hn : args.length ≤ 34) (h : vfn Try.prog c_slices_reverseRangeCmpFunc_api_Mark r_slices_reverseRangeCmpFunc_api_Mark args M R) : CallsM Try.prog F.slices_reverseRangeCmpFunc_api_Mark args M R :=
  fn_ok (kf := k_slices_reverseRangeCmpFunc_api_Mark) Try.func124 (by kernel_rfl) (by kernel_rfl) hn (by kernel_rfl) h
/-- slices.partialInsertionSortCmpFunc[portage/api.Mark] -/
def k_slices_partialInsertionSortCmpFunc_api_Mark (i : Nat) : List Nat := match i with | 0 => [8] | 1 => [13, 14] | 3 => [15] | 5 => [19, 20, 21, 22, 23, 24, 25, 26, 27, 28, 29, 30, 31, 32, 33, 34, 35] | 6 => [37, 38] | 7 => [39, 40] | 9 => [42, 43, 44] | 11 => [46, 47, 48, 49, 50, 51, 52, 53, 54, 55, 56, 57, 58, 59, 60, 61] | 12 => [62, 63, 64] | 13 => [66, 67] | 14 => [68] | 16 => [72, 73, 74, 75, 76, 77, 78, 79, 80, 81, 82, 83] | 17 => [85, 86, 87, 88, 89, 90, 91, 92, 93, 94, 95, 96, 97, 98, 99, 100] | 15 => [70, 71] | 18 => [101, 102, 103] | 19 => [105, 106] | 20 => [107, 108] | 22 => [112, 113, 114, 115, 116, 117, 118, 119, 120, 121, 122, 123] | 23 => [125, 126, 127, 128, 129, 130, 131, 132, 133, 134, 135, 136, 137, 138, 139, 140] | 21 => [110, 111] | 4 => [17, 18] | _ => []
def c_slices_partialInsertionSortCmpFunc_api_Mark : RCode :=
 .seq (.ops [mv 8 (kb false)] [8])
 (.seq (.ops [mv 13 (t 1),
 ad 14 (t 13) (k 1),
 mv 9 (t 14)] [13, 14])
 (.seq (.seq (.ops [mv 10 (k 0)] [])
 (.block 0 (.loop (.seq (.seq (.ops [mv 15 (t 10),
  o 16 (.ibin .lss (t 15) (k 5))] [15])
  (.cond (t 16)
   (.skip)
   (.exit 0)))
  (.seq (.block 1 (.seq (.block 2 (.loop (.seq (.seq (.draw (.take (mv 19 (t 9)) (.take (mv 20 (t 2)) (.take (o 21 (.ibin .lss (t 19) (t 20))) (.take (os 22 (.mov (t 21))) (.take (gt 22 23 (.mov (t 3))) (.take (gt 22 24 (.mov (t 0))) (.take (gt 22 25 (.mov (t 9))) (.take (gt 22 26 (.iaddr 4 (t 24) (t 25))) (.take (gt 22 27 (.load true 4 (t 26))) (.take (gt 22 28 (.mov (t 0))) (.take (gt 22 29 (.mov (t 9))) (.take (gt 22 30 (.ibin .sub (t 29) (k 1))) (.take (gt 22 31 (.iaddr 4 (t 28) (t 30))) (.take (gt 22 32 (.load true 4 (t 31))) (.alt (gt 22 33 (.call (t 23) [(t 27), (t 32)])) false
    (.take (gt 22 34 (.ibin .lss (t 33) (k 0))) (.take (gt 22 35 (.not (t 34))) (.take (o 36 (.pick (t 22) (t 35) (kb false))) (.done))))
    (.none)))))))))))))))) [19, 20, 21, 22, 23, 24, 25, 26, 27, 28, 29, 30, 31, 32, 33, 34, 35])
   (.cond (t 36)
    (.skip)
    (.exit 2)))
   (.block 3 (.ops [mv 37 (t 9),
   ad 38 (t 37) (k 1),
   mv 9 (t 38)] [37, 38])))))
  (.seq (.seq (.ops [mv 39 (t 9),
  mv 40 (t 2),
  o 41 (.ibin .eql (t 39) (t 40))] [39, 40])
  (.cond (t 41)
   (.seq (.ops [mv 8 (kb true)] [])
   (.ret))
   (.skip)))
  (.seq (.seq (.ops [mv 42 (t 2),
  mv 43 (t 1),
  o 44 (.ibin .sub (t 42) (t 43)),
  o 45 (.ibin .lss (t 44) (k 50))] [42, 43, 44])
  (.cond (t 45)
   (.seq (.ops [mv 8 (kb false)] [])
   (.ret))
   (.skip)))
  (.seq (.draw (.take (mv 46 (t 0)) (.take (mv 47 (t 9)) (.take (mv 48 (t 0)) (.take (mv 49 (t 9)) (.take (o 50 (.ibin .sub (t 49) (k 1))) (.take (mv 51 (t 0)) (.take (mv 52 (t 9)) (.take (o 53 (.ibin .sub (t 52) (k 1))) (.take (o 54 (.iaddr 4 (t 51) (t 53))) (.take (la 55 4 (t 54)) (.take (mv 56 (t 0)) (.take (mv 57 (t 9)) (.take (o 58 (.iaddr 4 (t 56) (t 57))) (.take (la 59 4 (t 58)) (.take (o 60 (.iaddr 4 (t 46) (t 47))) (.alt (st 4 (t 60) (t 55)) false
   (.take (o 61 (.iaddr 4 (t 48) (t 50))) (.alt (st 4 (t 61) (t 59)) false
    (.done)
    (.none)))
   (.none))))))))))))))))) [46, 47, 48, 49, 50, 51, 52, 53, 54, 55, 56, 57, 58, 59, 60, 61])
  (.seq (.seq (.ops [mv 62 (t 9),
  mv 63 (t 1),
  o 64 (.ibin .sub (t 62) (t 63)),
  o 65 (.ibin .geq (t 64) (k 2))] [62, 63, 64])
  (.cond (t 65)
   (.seq (.ops [mv 66 (t 9),
   o 67 (.ibin .sub (t 66) (k 1)),
   mv 11 (t 67)] [66, 67])
   (.block 4 (.loop (.seq (.seq (.ops [mv 68 (t 11),
    o 69 (.ibin .geq (t 68) (k 1))] [68])
    (.cond (t 69)
     (.skip)
     (.exit 4)))
    (.seq (.block 5 (.seq (.seq (.draw (.take (mv 72 (t 3)) (.take (mv 73 (t 0)) (.take (mv 74 (t 11)) (.take (o 75 (.iaddr 4 (t 73) (t 74))) (.take (la 76 4 (t 75)) (.take (mv 77 (t 0)) (.take (mv 78 (t 11)) (.take (o 79 (.ibin .sub (t 78) (k 1))) (.take (o 80 (.iaddr 4 (t 77) (t 79))) (.take (la 81 4 (t 80)) (.alt (o 82 (.call (t 72) [(t 76), (t 81)])) false
     (.take (o 83 (.ibin .lss (t 82) (k 0))) (.take (o 84 (.not (t 83))) (.done)))
     (.none)))))))))))) [72, 73, 74, 75, 76, 77, 78, 79, 80, 81, 82, 83])
    (.cond (t 84)
     (.exit 4)
     (.skip)))
    (.draw (.take (mv 85 (t 0)) (.take (mv 86 (t 11)) (.take (mv 87 (t 0)) (.take (mv 88 (t 11)) (.take (o 89 (.ibin .sub (t 88) (k 1))) (.take (mv 90 (t 0)) (.take (mv 91 (t 11)) (.take (o 92 (.ibin .sub (t 91) (k 1))) (.take (o 93 (.iaddr 4 (t 90) (t 92))) (.take (la 94 4 (t 93)) (.take (mv 95 (t 0)) (.take (mv 96 (t 11)) (.take (o 97 (.iaddr 4 (t 95) (t 96))) (.take (la 98 4 (t 97)) (.take (o 99 (.iaddr 4 (t 85) (t 86))) (.alt (st 4 (t 99) (t 94)) false
     (.take (o 100 (.iaddr 4 (t 87) (t 89))) (.alt (st 4 (t 100) (t 98)) false
      (.done)
      (.none)))
     (.none))))))))))))))))) [85, 86, 87, 88, 89, 90, 91, 92, 93, 94, 95, 96, 97, 98, 99, 100])))
    (.ops [mv 70 (t 11),
    o 71 (.ibin .sub (t 70) (k 1)),
    mv 11 (t 71)] [70, 71]))))))
   (.skip)))
  (.seq (.ops [mv 101 (t 2),
  mv 102 (t 9),
  o 103 (.ibin .sub (t 101) (t 102)),
  o 104 (.ibin .geq (t 103) (k 2))] [101, 102, 103])
  (.cond (t 104)
   (.seq (.ops [mv 105 (t 9),
   ad 106 (t 105) (k 1),
   mv 12 (t 106)] [105, 106])
   (.block 6 (.loop (.seq (.seq (.ops [mv 107 (t 12),
    mv 108 (t 2),
    o 109 (.ibin .lss (t 107) (t 108))] [107, 108])
    (.cond (t 109)
     (.skip)
     (.exit 6)))
    (.seq (.block 7 (.seq (.seq (.draw (.take (mv 112 (t 3)) (.take (mv 113 (t 0)) (.take (mv 114 (t 12)) (.take (o 115 (.iaddr 4 (t 113) (t 114))) (.take (la 116 4 (t 115)) (.take (mv 117 (t 0)) (.take (mv 118 (t 12)) (.take (o 119 (.ibin .sub (t 118) (k 1))) (.take (o 120 (.iaddr 4 (t 117) (t 119))) (.take (la 121 4 (t 120)) (.alt (o 122 (.call (t 112) [(t 116), (t 121)])) false
     (.take (o 123 (.ibin .lss (t 122) (k 0))) (.take (o 124 (.not (t 123))) (.done)))
     (.none)))))))))))) [112, 113, 114, 115, 116, 117, 118, 119, 120, 121, 122, 123])
    (.cond (t 124)
     (.exit 6)
     (.skip)))
    (.draw (.take (mv 125 (t 0)) (.take (mv 126 (t 12)) (.take (mv 127 (t 0)) (.take (mv 128 (t 12)) (.take (o 129 (.ibin .sub (t 128) (k 1))) (.take (mv 130 (t 0)) (.take (mv 131 (t 12)) (.take (o 132 (.ibin .sub (t 131) (k 1))) (.take (o 133 (.iaddr 4 (t 130) (t 132))) (.take (la 134 4 (t 133)) (.take (mv 135 (t 0)) (.take (mv 136 (t 12)) (.take (o 137 (.iaddr 4 (t 135) (t 136))) (.take (la 138 4 (t 137)) (.take (o 139 (.iaddr 4 (t 125) (t 126))) (.alt (st 4 (t 139) (t 134)) false
     (.take (o 140 (.iaddr 4 (t 127) (t 129))) (.alt (st 4 (t 140) (t 138)) false
      (.done)
      (.none)))
     (.none))))))))))))))))) [125, 126, 127, 128, 129, 130, 131, 132, 133, 134, 135, 136, 137, 138, 139, 140])))
    (.ops [mv 110 (t 12),
    ad 111 (t 110) (k 1),
    mv 12 (t 111)] [110, 111]))))))
   (.skip)))))))))
  (.ops [mv 17 (t 10),
  ad 18 (t 17) (k 1),
  mv 10 (t 18)] [17, 18]))))))
 (.seq (.ops [mv 8 (kb false)] [])
 (.ret))))
def r_slices_partialInsertionSortCmpFunc_api_Mark : List RRes := [.tmp 8]
theorem fo_slices_partialInsertionSortCmpFunc_api_Mark {args : List Value} {M : Mem} {R : Value → Mem → Prop} (hn : args.length ≤ 141) (h : vfn Try.prog c_slices_partialInsertionSortCmpFunc_api_Mark r_slices_partialInsertionSortCmpFunc_api_Mark args M R) : CallsM Try.prog F.slices_partialInsertionSortCmpFunc_api_Mark args M R :=
  fn_ok (kf := k_slices_partialInsertionSortCmpFunc_api_Mark) Try.func125 (by kernel_rfl) (by kernel_rfl) hn (by kernel_rfl) h
/-- slices.partitionEqualCmpFunc[portage/api.Mark] -/
def k_slices_partitionEqualCmpFunc_api_Mark (i : Nat) : List Nat := match i with | 0 => [10] | 1 => [3, 13, 14, 15, 16, 17, 18, 19, 20, 21, 22, 23, 24, 25, 26] | 2 => [2, 27, 28, 29, 30] | 3 => [31, 32, 33, 34, 35, 36, 37, 38, 39, 40, 41, 42, 43, 44, 45, 46] | 4 => [48, 49] | 5 => [50, 51, 52, 53, 54, 55, 56, 57, 58, 59, 60, 61, 62, 63, 64] | 6 => [66, 67] | 7 => [68, 69] | 8 => [71, 72, 73, 74, 75, 76, 77, 78, 79, 80, 81, 82, 83, 84] | 9 => [85, 86] | 10 => [87, 88] | 11 => [11, 89] | _ => []
def c_slices_partitionEqualCmpFunc_api_Mark : RCode :=
 .seq (.ops [mv 10 (k 0)] [10])
 (.seq (.draw (.take (mv 13 (t 0)) (.take (mv 14 (t 1)) (.take (mv 15 (t 0)) (.take (mv 16 (t 3)) (.take (mv 17 (t 0)) (.take (mv 18 (t 3)) (.take (o 19 (.iaddr 4 (t 17) (t 18))) (.take (la 20 4 (t 19)) (.take (mv 21 (t 0)) (.take (mv 22 (t 1)) (.take (o 23 (.iaddr 4 (t 21) (t 22))) (.take (la 24 4 (t 23)) (.take (o 25 (.iaddr 4 (t 13) (t 14))) (.alt (st 4 (t 25) (t 20)) false
  (.take (o 26 (.iaddr 4 (t 15) (t 16))) (.alt (st 4 (t 26) (t 24)) false
   (.done)
   (.none)))
  (.none))))))))))))))) [3, 13, 14, 15, 16, 17, 18, 19, 20, 21, 22, 23, 24, 25, 26])
 (.seq (.ops [mv 27 (t 1),
 ad 28 (t 27) (k 1),
 mv 29 (t 2),
 o 30 (.ibin .sub (t 29) (k 1)),
 mv 11 (t 28),
 mv 12 (t 30)] [2, 27, 28, 29, 30])
 (.seq (.block 0 (.loop (.block 1 (.seq (.block 2 (.loop (.seq (.seq (.draw (.take (mv 31 (t 11)) (.take (mv 32 (t 12)) (.take (o 33 (.ibin .leq (t 31) (t 32))) (.take (os 34 (.mov (t 33))) (.take (gt 34 35 (.mov (t 4))) (.take (gt 34 36 (.mov (t 0))) (.take (gt 34 37 (.mov (t 1))) (.take (gt 34 38 (.iaddr 4 (t 36) (t 37))) (.take (gt 34 39 (.load true 4 (t 38))) (.take (gt 34 40 (.mov (t 0))) (.take (gt 34 41 (.mov (t 11))) (.take (gt 34 42 (.iaddr 4 (t 40) (t 41))) (.take (gt 34 43 (.load true 4 (t 42))) (.alt (gt 34 44 (.call (t 35) [(t 39), (t 43)])) false
    (.take (gt 34 45 (.ibin .lss (t 44) (k 0))) (.take (gt 34 46 (.not (t 45))) (.take (o 47 (.pick (t 34) (t 46) (kb false))) (.done))))
    (.none))))))))))))))) [31, 32, 33, 34, 35, 36, 37, 38, 39, 40, 41, 42, 43, 44, 45, 46])
   (.cond (t 47)
    (.skip)
    (.exit 2)))
   (.block 3 (.ops [mv 48 (t 11),
   ad 49 (t 48) (k 1),
   mv 11 (t 49)] [48, 49])))))
  (.seq (.block 4 (.loop (.seq (.seq (.draw (.take (mv 50 (t 11)) (.take (mv 51 (t 12)) (.take (o 52 (.ibin .leq (t 50) (t 51))) (.take (os 53 (.mov (t 52))) (.take (gt 53 54 (.mov (t 4))) (.take (gt 53 55 (.mov (t 0))) (.take (gt 53 56 (.mov (t 1))) (.take (gt 53 57 (.iaddr 4 (t 55) (t 56))) (.take (gt 53 58 (.load true 4 (t 57))) (.take (gt 53 59 (.mov (t 0))) (.take (gt 53 60 (.mov (t 12))) (.take (gt 53 61 (.iaddr 4 (t 59) (t 60))) (.take (gt 53 62 (.load true 4 (t 61))) (.alt (gt 53 63 (.call (t 54) [(t 58), (t 62)])) false
    (.take (gt 53 64 (.ibin .lss (t 63) (k 0))) (.take (o 65 (.pick (t 53) (t 64) (kb false))) (.done)))
    (.none))))))))))))))) [50, 51, 52, 53, 54, 55, 56, 57, 58, 59, 60, 61, 62, 63, 64])
   (.cond (t 65)
    (.skip)
    (.exit 4)))
   (.block 5 (.ops [mv 66 (t 12),
   o 67 (.ibin .sub (t 66) (k 1)),
   mv 12 (t 67)] [66, 67])))))
  (.seq (.seq (.ops [mv 68 (t 11),
  mv 69 (t 12),
  o 70 (.ibin .gtr (t 68) (t 69))] [68, 69])
  (.cond (t 70)
   (.exit 0)
   (.skip)))
  (.seq (.draw (.take (mv 71 (t 0)) (.take (mv 72 (t 11)) (.take (mv 73 (t 0)) (.take (mv 74 (t 12)) (.take (mv 75 (t 0)) (.take (mv 76 (t 12)) (.take (o 77 (.iaddr 4 (t 75) (t 76))) (.take (la 78 4 (t 77)) (.take (mv 79 (t 0)) (.take (mv 80 (t 11)) (.take (o 81 (.iaddr 4 (t 79) (t 80))) (.take (la 82 4 (t 81)) (.take (o 83 (.iaddr 4 (t 71) (t 72))) (.alt (st 4 (t 83) (t 78)) false
   (.take (o 84 (.iaddr 4 (t 73) (t 74))) (.alt (st 4 (t 84) (t 82)) false
    (.done)
    (.none)))
   (.none))))))))))))))) [71, 72, 73, 74, 75, 76, 77, 78, 79, 80, 81, 82, 83, 84])
  (.seq (.ops [mv 85 (t 11),
  ad 86 (t 85) (k 1),
  mv 11 (t 86)] [85, 86])
  (.ops [mv 87 (t 12),
  o 88 (.ibin .sub (t 87) (k 1)),
  mv 12 (t 88)] [87, 88])))))))))
 (.seq (.ops [mv 89 (t 11),
 mv 10 (t 89)] [11, 89])
 (.ret)))))
def r_slices_partitionEqualCmpFunc_api_Mark : List RRes := [.tmp 10]
theorem fo_slices_partitionEqualCmpFunc_api_Mark {args : List Value} {M : Mem} {R : Value → Mem → Prop} (hn : args.length ≤ 90) (h : vfn Try.prog c_slices_partitionEqualCmpFunc_api_Mark r_slices_partitionEqualCmpFunc_api_Mark args M R) : CallsM Try.prog F.slices_partitionEqualCmpFunc_api_Mark args M R :=
  fn_ok (kf := k_slices_partitionEqualCmpFunc_api_Mark) Try.func126 (by kernel_rfl) (by kernel_rfl) hn (by kernel_rfl) h
/-- slices.partitionCmpFunc[portage/api.Mark] -/
def k_slices_partitionCmpFunc_api_Mark (i : Nat) : List Nat := match i with | 0 => [10, 11] | 1 => [3, 14, 15, 16, 17, 18, 19, 20, 21, 22, 23, 24, 25, 26, 27] | 2 => [2, 28, 29, 30, 31] | 3 => [32, 33, 34, 35, 36, 37, 38, 39, 40, 41, 42, 43, 44, 45, 46] | 4 => [48, 49] | 5 => [50, 51, 52, 53, 54, 55, 56, 57, 58, 59, 60, 61, 62, 63, 64, 65] | 6 => [67, 68] | 7 => [69, 70] | 8 => [0, 1, 72, 73, 74, 75, 76, 77, 78, 79, 80, 81, 82, 83, 84, 85] | 9 => [13, 86] | 10 => [87, 88, 89, 90, 91, 92, 93, 94, 95, 96, 97, 98, 99, 100] | 11 => [101, 102] | 12 => [103, 104] | 13 => [105, 106, 107, 108, 109, 110, 111, 112, 113, 114, 115, 116, 117, 118, 119] | 14 => [121, 122] | 15 => [123, 124, 125, 126, 127, 128, 129, 130, 131, 132, 133, 134, 135, 136, 137, 138] | 16 => [140, 141] | 17 => [142, 143] | 18 => [145, 146, 147, 148, 149, 150, 151, 152, 153, 154, 155, 156, 157, 158] | 19 => [159, 160] | 20 => [161, 162] | 21 => [0, 1, 163, 164, 165, 166, 167, 168, 169, 170, 171, 172, 173, 174, 175, 176] | 22 => [13, 177] | _ => []
def c_slices_partitionCmpFunc_api_Mark : RCode :=
 .seq (.ops [mv 10 (k 0),
 mv 11 (kb false)] [10, 11])
 (.seq (.draw (.take (mv 14 (t 0)) (.take (mv 15 (t 1)) (.take (mv 16 (t 0)) (.take (mv 17 (t 3)) (.take (mv 18 (t 0)) (.take (mv 19 (t 3)) (.take (o 20 (.iaddr 4 (t 18) (t 19))) (.take (la 21 4 (t 20)) (.take (mv 22 (t 0)) (.take (mv 23 (t 1)) (.take (o 24 (.iaddr 4 (t 22) (t 23))) (.take (la 25 4 (t 24)) (.take (o 26 (.iaddr 4 (t 14) (t 15))) (.alt (st 4 (t 26) (t 21)) false
  (.take (o 27 (.iaddr 4 (t 16) (t 17))) (.alt (st 4 (t 27) (t 25)) false
   (.done)
   (.none)))
  (.none))))))))))))))) [3, 14, 15, 16, 17, 18, 19, 20, 21, 22, 23, 24, 25, 26, 27])
 (.seq (.ops [mv 28 (t 1),
 ad 29 (t 28) (k 1),
 mv 30 (t 2),
 o 31 (.ibin .sub (t 30) (k 1)),
 mv 12 (t 29),
 mv 13 (t 31)] [2, 28, 29, 30, 31])
 (.seq (.block 0 (.loop (.seq (.seq (.draw (.take (mv 32 (t 12)) (.take (mv 33 (t 13)) (.take (o 34 (.ibin .leq (t 32) (t 33))) (.take (os 35 (.mov (t 34))) (.take (gt 35 36 (.mov (t 4))) (.take (gt 35 37 (.mov (t 0))) (.take (gt 35 38 (.mov (t 12))) (.take (gt 35 39 (.iaddr 4 (t 37) (t 38))) (.take (gt 35 40 (.load true 4 (t 39))) (.take (gt 35 41 (.mov (t 0))) (.take (gt 35 42 (.mov (t 1))) (.take (gt 35 43 (.iaddr 4 (t 41) (t 42))) (.take (gt 35 44 (.load true 4 (t 43))) (.alt (gt 35 45 (.call (t 36) [(t 40), (t 44)])) false
   (.take (gt 35 46 (.ibin .lss (t 45) (k 0))) (.take (o 47 (.pick (t 35) (t 46) (kb false))) (.done)))
   (.none))))))))))))))) [32, 33, 34, 35, 36, 37, 38, 39, 40, 41, 42, 43, 44, 45, 46])
  (.cond (t 47)
   (.skip)
   (.exit 0)))
  (.block 1 (.ops [mv 48 (t 12),
  ad 49 (t 48) (k 1),
  mv 12 (t 49)] [48, 49])))))
 (.seq (.block 2 (.loop (.seq (.seq (.draw (.take (mv 50 (t 12)) (.take (mv 51 (t 13)) (.take (o 52 (.ibin .leq (t 50) (t 51))) (.take (os 53 (.mov (t 52))) (.take (gt 53 54 (.mov (t 4))) (.take (gt 53 55 (.mov (t 0))) (.take (gt 53 56 (.mov (t 13))) (.take (gt 53 57 (.iaddr 4 (t 55) (t 56))) (.take (gt 53 58 (.load true 4 (t 57))) (.take (gt 53 59 (.mov (t 0))) (.take (gt 53 60 (.mov (t 1))) (.take (gt 53 61 (.iaddr 4 (t 59) (t 60))) (.take (gt 53 62 (.load true 4 (t 61))) (.alt (gt 53 63 (.call (t 54) [(t 58), (t 62)])) false
   (.take (gt 53 64 (.ibin .lss (t 63) (k 0))) (.take (gt 53 65 (.not (t 64))) (.take (o 66 (.pick (t 53) (t 65) (kb false))) (.done))))
   (.none))))))))))))))) [50, 51, 52, 53, 54, 55, 56, 57, 58, 59, 60, 61, 62, 63, 64, 65])
  (.cond (t 66)
   (.skip)
   (.exit 2)))
  (.block 3 (.ops [mv 67 (t 13),
  o 68 (.ibin .sub (t 67) (k 1)),
  mv 13 (t 68)] [67, 68])))))
 (.seq (.seq (.ops [mv 69 (t 12),
 mv 70 (t 13),
 o 71 (.ibin .gtr (t 69) (t 70))] [69, 70])
 (.cond (t 71)
  (.seq (.draw (.take (mv 72 (t 0)) (.take (mv 73 (t 13)) (.take (mv 74 (t 0)) (.take (mv 75 (t 1)) (.take (mv 76 (t 0)) (.take (mv 77 (t 1)) (.take (o 78 (.iaddr 4 (t 76) (t 77))) (.take (la 79 4 (t 78)) (.take (mv 80 (t 0)) (.take (mv 81 (t 13)) (.take (o 82 (.iaddr 4 (t 80) (t 81))) (.take (la 83 4 (t 82)) (.take (o 84 (.iaddr 4 (t 72) (t 73))) (.alt (st 4 (t 84) (t 79)) false
   (.take (o 85 (.iaddr 4 (t 74) (t 75))) (.alt (st 4 (t 85) (t 83)) false
    (.done)
    (.none)))
   (.none))))))))))))))) [0, 1, 72, 73, 74, 75, 76, 77, 78, 79, 80, 81, 82, 83, 84, 85])
  (.seq (.ops [mv 86 (t 13),
  mv 10 (t 86),
  mv 11 (kb true)] [13, 86])
  (.ret)))
  (.skip)))
 (.seq (.draw (.take (mv 87 (t 0)) (.take (mv 88 (t 12)) (.take (mv 89 (t 0)) (.take (mv 90 (t 13)) (.take (mv 91 (t 0)) (.take (mv 92 (t 13)) (.take (o 93 (.iaddr 4 (t 91) (t 92))) (.take (la 94 4 (t 93)) (.take (mv 95 (t 0)) (.take (mv 96 (t 12)) (.take (o 97 (.iaddr 4 (t 95) (t 96))) (.take (la 98 4 (t 97)) (.take (o 99 (.iaddr 4 (t 87) (t 88))) (.alt (st 4 (t 99) (t 94)) false
  (.take (o 100 (.iaddr 4 (t 89) (t 90))) (.alt (st 4 (t 100) (t 98)) false
   (.done)
   (.none)))
  (.none))))))))))))))) [87, 88, 89, 90, 91, 92, 93, 94, 95, 96, 97, 98, 99, 100])
 (.seq (.ops [mv 101 (t 12),
 ad 102 (t 101) (k 1),
 mv 12 (t 102)] [101, 102])
 (.seq (.ops [mv 103 (t 13),
 o 104 (.ibin .sub (t 103) (k 1)),
 mv 13 (t 104)] [103, 104])
 (.seq (.block 4 (.loop (.block 5 (.seq (.block 6 (.loop (.seq (.seq (.draw (.take (mv 105 (t 12)) (.take (mv 106 (t 13)) (.take (o 107 (.ibin .leq (t 105) (t 106))) (.take (os 108 (.mov (t 107))) (.take (gt 108 109 (.mov (t 4))) (.take (gt 108 110 (.mov (t 0))) (.take (gt 108 111 (.mov (t 12))) (.take (gt 108 112 (.iaddr 4 (t 110) (t 111))) (.take (gt 108 113 (.load true 4 (t 112))) (.take (gt 108 114 (.mov (t 0))) (.take (gt 108 115 (.mov (t 1))) (.take (gt 108 116 (.iaddr 4 (t 114) (t 115))) (.take (gt 108 117 (.load true 4 (t 116))) (.alt (gt 108 118 (.call (t 109) [(t 113), (t 117)])) false
    (.take (gt 108 119 (.ibin .lss (t 118) (k 0))) (.take (o 120 (.pick (t 108) (t 119) (kb false))) (.done)))
    (.none))))))))))))))) [105, 106, 107, 108, 109, 110, 111, 112, 113, 114, 115, 116, 117, 118, 119])
   (.cond (t 120)
    (.skip)
    (.exit 6)))
   (.block 7 (.ops [mv 121 (t 12),
   ad 122 (t 121) (k 1),
   mv 12 (t 122)] [121, 122])))))
  (.seq (.block 8 (.loop (.seq (.seq (.draw (.take (mv 123 (t 12)) (.take (mv 124 (t 13)) (.take (o 125 (.ibin .leq (t 123) (t 124))) (.take (os 126 (.mov (t 125))) (.take (gt 126 127 (.mov (t 4))) (.take (gt 126 128 (.mov (t 0))) (.take (gt 126 129 (.mov (t 13))) (.take (gt 126 130 (.iaddr 4 (t 128) (t 129))) (.take (gt 126 131 (.load true 4 (t 130))) (.take (gt 126 132 (.mov (t 0))) (.take (gt 126 133 (.mov (t 1))) (.take (gt 126 134 (.iaddr 4 (t 132) (t 133))) (.take (gt 126 135 (.load true 4 (t 134))) (.alt (gt 126 136 (.call (t 127) [(t 131), (t 135)])) false
    (.take (gt 126 137 (.ibin .lss (t 136) (k 0))) (.take (gt 126 138 (.not (t 137))) (.take (o 139 (.pick (t 126) (t 138) (kb false))) (.done))))
    (.none))))))))))))))) [123, 124, 125, 126, 127, 128, 129, 130, 131, 132, 133, 134, 135, 136, 137, 138])
   (.cond (t 139)
    (.skip)
    (.exit 8)))
   (.block 9 (.ops [mv 140 (t 13),
   o 141 (.ibin .sub (t 140) (k 1)),
   mv 13 (t 141)] [140, 141])))))
  (.seq (.seq (.ops [mv 142 (t 12),
  mv 143 (t 13),
  o 144 (.ibin .gtr (t 142) (t 143))] [142, 143])
  (.cond (t 144)
   (.exit 4)
   (.skip)))
  (.seq (.draw (.take (mv 145 (t 0)) (.take (mv 146 (t 12)) (.take (mv 147 (t 0)) (.take (mv 148 (t 13)) (.take (mv 149 (t 0)) (.take (mv 150 (t 13)) (.take (o 151 (.iaddr 4 (t 149) (t 150))) (.take (la 152 4 (t 151)) (.take (mv 153 (t 0)) (.take (mv 154 (t 12)) (.take (o 155 (.iaddr 4 (t 153) (t 154))) (.take (la 156 4 (t 155)) (.take (o 157 (.iaddr 4 (t 145) (t 146))) (.alt (st 4 (t 157) (t 152)) false
   (.take (o 158 (.iaddr 4 (t 147) (t 148))) (.alt (st 4 (t 158) (t 156)) false
    (.done)
    (.none)))
   (.none))))))))))))))) [145, 146, 147, 148, 149, 150, 151, 152, 153, 154, 155, 156, 157, 158])
  (.seq (.ops [mv 159 (t 12),
  ad 160 (t 159) (k 1),
  mv 12 (t 160)] [159, 160])
  (.ops [mv 161 (t 13),
  o 162 (.ibin .sub (t 161) (k 1)),
  mv 13 (t 162)] [161, 162])))))))))
 (.seq (.draw (.take (mv 163 (t 0)) (.take (mv 164 (t 13)) (.take (mv 165 (t 0)) (.take (mv 166 (t 1)) (.take (mv 167 (t 0)) (.take (mv 168 (t 1)) (.take (o 169 (.iaddr 4 (t 167) (t 168))) (.take (la 170 4 (t 169)) (.take (mv 171 (t 0)) (.take (mv 172 (t 13)) (.take (o 173 (.iaddr 4 (t 171) (t 172))) (.take (la 174 4 (t 173)) (.take (o 175 (.iaddr 4 (t 163) (t 164))) (.alt (st 4 (t 175) (t 170)) false
  (.take (o 176 (.iaddr 4 (t 165) (t 166))) (.alt (st 4 (t 176) (t 174)) false
   (.done)
   (.none)))
  (.none))))))))))))))) [0, 1, 163, 164, 165, 166, 167, 168, 169, 170, 171, 172, 173, 174, 175, 176])
 (.seq (.ops [mv 177 (t 13),
 mv 10 (t 177),
 mv 11 (kb false)] [13, 177])
 (.ret))))))))))))
def r_slices_partitionCmpFunc_api_Mark : List RRes := [.tmp 10, .tmp 11]
theorem fo_slices_partitionCmpFunc_api_Mark {args : List Value} {M : Mem} {R : Value → Mem → Prop} (hn : args.length ≤ 178) (h : vfn Try.prog c_slices_partitionCmpFunc_api_Mark r_slices_partitionCmpFunc_api_Mark args M R) : CallsM Try.prog F.slices_partitionCmpFunc_api_Mark args M R :=
  fn_ok (kf := k_slices_partitionCmpFunc_api_Mark) Try.func127 (by kernel_rfl) (by kernel_rfl) hn (by kernel_rfl) h
/-- slices.siftDownCmpFunc[portage/store.place] -/
def k_slices_siftDownCmpFunc_store_place (i : Nat) : List Nat := match i with | 0 => [1, 12] | 1 => [13, 14, 15] | 2 => [16, 17] | 3 => [19, 20, 21, 22, 23, 24, 25, 26, 27, 28, 29, 30, 31, 32, 33, 34, 35, 36, 37, 38, 39] | 4 => [41, 42] | 5 => [43, 44, 45, 46, 47, 48, 49, 50, 51, 52, 53, 54, 55, 56, 57] | 6 => [10, 59, 60, 61, 62, 63, 64, 65, 66, 67, 68, 69, 70, 71, 72, 73, 74, 75, 76, 77, 78, 79, 80] | 7 => [11, 81] | _ => []
def c_slices_siftDownCmpFunc_store_place : RCode :=
 .seq (.ops [mv 12 (t 1),
 mv 10 (t 12)] [1, 12])
 (.block 0 (.loop (.block 1 (.seq (.ops [mv 13 (t 10),
  o 14 (.ibin .mul (k 2) (t 13)),
  ad 15 (t 14) (k 1),
  mv 11 (t 15)] [13, 14, 15])
  (.seq (.seq (.ops [mv 16 (t 11),
  mv 17 (t 2),
  o 18 (.ibin .geq (t 16) (t 17))] [16, 17])
  (.cond (t 18)
   (.exit 0)
   (.skip)))
  (.seq (.seq (.draw (.take (mv 19 (t 11)) (.take (ad 20 (t 19) (k 1)) (.take (mv 21 (t 2)) (.take (o 22 (.ibin .lss (t 20) (t 21))) (.take (os 23 (.mov (t 22))) (.take (gt 23 24 (.mov (t 4))) (.take (gt 23 25 (.mov (t 0))) (.take (gt 23 26 (.mov (t 3))) (.take (gt 23 27 (.mov (t 11))) (.take (gt 23 28 (.ibin .add (t 26) (t 27))) (.take (gt 23 29 (.iaddr 6 (t 25) (t 28))) (.take (gt 23 30 (.load true 6 (t 29))) (.take (gt 23 31 (.mov (t 0))) (.take (gt 23 32 (.mov (t 3))) (.take (gt 23 33 (.mov (t 11))) (.take (gt 23 34 (.ibin .add (t 32) (t 33))) (.take (gt 23 35 (.ibin .add (t 34) (k 1))) (.take (gt 23 36 (.iaddr 6 (t 31) (t 35))) (.take (gt 23 37 (.load true 6 (t 36))) (.alt (gt 23 38 (.call (t 24) [(t 30), (t 37)])) false
   (.take (gt 23 39 (.ibin .lss (t 38) (k 0))) (.take (o 40 (.pick (t 23) (t 39) (kb false))) (.done)))
   (.none))))))))))))))))))))) [19, 20, 21, 22, 23, 24, 25, 26, 27, 28, 29, 30, 31, 32, 33, 34, 35, 36, 37, 38, 39])
  (.cond (t 40)
   (.ops [mv 41 (t 11),
   ad 42 (t 41) (k 1),
   mv 11 (t 42)] [41, 42])
   (.skip)))
  (.seq (.seq (.draw (.take (mv 43 (t 4)) (.take (mv 44 (t 0)) (.take (mv 45 (t 3)) (.take (mv 46 (t 10)) (.take (ad 47 (t 45) (t 46)) (.take (o 48 (.iaddr 6 (t 44) (t 47))) (.take (la 49 6 (t 48)) (.take (mv 50 (t 0)) (.take (mv 51 (t 3)) (.take (mv 52 (t 11)) (.take (ad 53 (t 51) (t 52)) (.take (o 54 (.iaddr 6 (t 50) (t 53))) (.take (la 55 6 (t 54)) (.alt (o 56 (.call (t 43) [(t 49), (t 55)])) false
   (.take (o 57 (.ibin .lss (t 56) (k 0))) (.take (o 58 (.not (t 57))) (.done)))
   (.none))))))))))))))) [43, 44, 45, 46, 47, 48, 49, 50, 51, 52, 53, 54, 55, 56, 57])
  (.cond (t 58)
   (.ret)
   (.skip)))
  (.seq (.draw (.take (mv 59 (t 0)) (.take (mv 60 (t 3)) (.take (mv 61 (t 10)) (.take (ad 62 (t 60) (t 61)) (.take (mv 63 (t 0)) (.take (mv 64 (t 3)) (.take (mv 65 (t 11)) (.take (ad 66 (t 64) (t 65)) (.take (mv 67 (t 0)) (.take (mv 68 (t 3)) (.take (mv 69 (t 11)) (.take (ad 70 (t 68) (t 69)) (.take (o 71 (.iaddr 6 (t 67) (t 70))) (.take (la 72 6 (t 71)) (.take (mv 73 (t 0)) (.take (mv 74 (t 3)) (.take (mv 75 (t 10)) (.take (ad 76 (t 74) (t 75)) (.take (o 77 (.iaddr 6 (t 73) (t 76))) (.take (la 78 6 (t 77)) (.take (o 79 (.iaddr 6 (t 59) (t 62))) (.alt (st 6 (t 79) (t 72)) false
   (.take (o 80 (.iaddr 6 (t 63) (t 66))) (.alt (st 6 (t 80) (t 78)) false
    (.done)
    (.none)))
   (.none))))))))))))))))))))))) [10, 59, 60, 61, 62, 63, 64, 65, 66, 67, 68, 69, 70, 71, 72, 73, 74, 75, 76, 77, 78, 79, 80])
  (.ops [mv 81 (t 11),
  mv 10 (t 81)] [11, 81])))))))))
def r_slices_siftDownCmpFunc_store_place : List RRes := []
theorem fo_slices_siftDownCmpFunc_store_place {args : List Value} {M : Mem} {R : Value → Mem → Prop} (hn : args.length ≤ 82) (h : vfn Try.prog c_slices_siftDownCmpFunc_store_place r_slices_siftDownCmpFunc_store_place args M R) : CallsM Try.prog F.slices_siftDownCmpFunc_store_place args M R :=
  fn_ok (kf := k_slices_siftDownCmpFunc_store_place) Try.func128 (by kernel_rfl) (by kernel_rfl) hn (by kernel_rfl) h
/-- slices.nextPowerOfTwo -/
def k_slices_nextPowerOfTwo (i : Nat) : List Nat := match i with | 0 => [2] | 1 => [0, 3, 4, 5, 6] | _ => []
def c_slices_nextPowerOfTwo : RCode :=
 .seq (.ops [mv 2 (.const (.int .u64 0))] [2])
 (.seq (.ops [mv 3 (t 0),
 o 4 (.conv .u64 (t 3)),
 ca 5 F.math_bits_Len [(t 4)],
 o 6 (.ibin .shl (.const (.int .u64 1)) (t 5)),
 mv 2 (t 6)] [0, 3, 4, 5, 6])
 (.ret))
def r_slices_nextPowerOfTwo : List RRes := [.tmp 2]
theorem fo_slices_nextPowerOfTwo {args : List Value} {M : Mem} {R : Value → Mem → Prop} (hn : args.length ≤ 7) (h : vfn Try.prog c_slices_nextPowerOfTwo r_slices_nextPowerOfTwo args M R) : CallsM Try.prog F.slices_nextPowerOfTwo args M R :=
  fn_ok (kf := k_slices_nextPowerOfTwo) Try.func129 (by kernel_rfl) (by kernel_rfl) hn (by kernel_rfl) h
/-- (*slices.xorshift).Next -/
def k_slices_xorshift_Next (i : Nat) : List Nat := match i with | 0 => [2] | 1 => [3, 4, 5, 6, 7, 8, 9, 10, 11] | 2 => [12, 13, 14, 15, 16, 17, 18, 19, 20] | 3 => [21, 22, 23, 24, 25, 26, 27, 28, 29] | 4 => [0, 30, 31, 32] | _ => []
def c_slices_xorshift_Next : RCode :=
 .seq (.ops [mv 2 (.const (.int .u64 0))] [2])
 (.seq (.draw (.take (mv 3 (t 0)) (.take (o 4 (.nilck (t 3))) (.take (l1 5 (t 4)) (.take (mv 6 (t 0)) (.take (o 7 (.nilck (t 6))) (.take (l1 8 (t 7)) (.take (o 9 (.ibin .shl (t 8) (.const (.int .u64 13)))) (.take (o 10 (.ibin .xor (t 5) (t 9))) (.take (o 11 (.nilck (t 3))) (.alt (st 1 (t 11) (t 10)) false
  (.done)
  (.none))))))))))) [3, 4, 5, 6, 7, 8, 9, 10, 11])
 (.seq (.draw (.take (mv 12 (t 0)) (.take (o 13 (.nilck (t 12))) (.take (l1 14 (t 13)) (.take (mv 15 (t 0)) (.take (o 16 (.nilck (t 15))) (.take (l1 17 (t 16)) (.take (o 18 (.ibin .shr (t 17) (.const (.int .u64 7)))) (.take (o 19 (.ibin .xor (t 14) (t 18))) (.take (o 20 (.nilck (t 12))) (.alt (st 1 (t 20) (t 19)) false
  (.done)
  (.none))))))))))) [12, 13, 14, 15, 16, 17, 18, 19, 20])
 (.seq (.draw (.take (mv 21 (t 0)) (.take (o 22 (.nilck (t 21))) (.take (l1 23 (t 22)) (.take (mv 24 (t 0)) (.take (o 25 (.nilck (t 24))) (.take (l1 26 (t 25)) (.take (o 27 (.ibin .shl (t 26) (.const (.int .u64 17)))) (.take (o 28 (.ibin .xor (t 23) (t 27))) (.take (o 29 (.nilck (t 21))) (.alt (st 1 (t 29) (t 28)) false
  (.done)
  (.none))))))))))) [21, 22, 23, 24, 25, 26, 27, 28, 29])
 (.seq (.ops [mv 30 (t 0),
 o 31 (.nilck (t 30)),
 l1 32 (t 31),
 mv 2 (t 32)] [0, 30, 31, 32])
 (.ret)))))
def r_slices_xorshift_Next : List RRes := [.tmp 2]
theorem fo_slices_xorshift_Next {args : List Value} {M : Mem} {R : Value → Mem → Prop} (hn : args.length ≤ 33) (h : vfn Try.prog c_slices_xorshift_Next r_slices_xorshift_Next args M R) : CallsM Try.prog F.slices_xorshift_Next args M R :=
  fn_ok (kf := k_slices_xorshift_Next) Try.func130 (by kernel_rfl) (by kernel_rfl) hn (by kernel_rfl) h
/-- slices.medianAdjacentCmpFunc[portage/store.place] -/
def k_slices_medianAdjacentCmpFunc_store_place (i : Nat) : List Nat := match i with | 0 => [8] | 1 => [0, 1, 2, 3, 9, 10, 11, 12, 13, 14, 15, 16, 17] | _ => []
def c_slices_medianAdjacentCmpFunc_store_place : RCode :=
 .seq (.ops [mv 8 (k 0)] [8])
 (.seq (.ops [mv 9 (t 0),
 mv 10 (t 1),
 o 11 (.ibin .sub (t 10) (k 1)),
 mv 12 (t 1),
 mv 13 (t 1),
 ad 14 (t 13) (k 1),
 mv 15 (t 2),
 mv 16 (t 3),
 ca 17 F.slices_medianCmpFunc_store_place [(t 9), (t 11), (t 12), (t 14), (t 15), (t 16)],
 mv 8 (t 17)] [0, 1, 2, 3, 9, 10, 11, 12, 13, 14, 15, 16, 17])
 (.ret))
def r_slices_medianAdjacentCmpFunc_store_place : List RRes := [.tmp 8]
theorem fo_slices_medianAdjacentCmpFunc_store_place {args : List Value} {M : Mem} {R : Value → Mem → Prop} (hn : args.length ≤ 18) (h : vfn Try.prog c_slices_medianAdjacentCmpFunc_store_place r_slices_medianAdjacentCmpFunc_store_place args M R) : CallsM Try.prog F.slices_medianAdjacentCmpFunc_store_place args M R :=
  fn_ok (kf := k_slices_medianAdjacentCmpFunc_store_place) Try.func131 (by kernel_rfl) (by kernel_rfl) hn (by kernel_rfl) h
/-- slices.medianCmpFunc[portage/store.place] -/
def k_slices_medianCmpFunc_store_place (i : Nat) : List Nat := match i with | 0 => [12] | 1 => [13, 14, 15, 16, 17, 18, 19, 20, 21] | 2 => [3, 22, 23, 24, 25, 26, 27, 28, 29, 30] | 3 => [0, 1, 4, 5, 31, 32, 33, 34, 35, 36, 37, 38, 39] | 4 => [2, 40] | _ => []
def c_slices_medianCmpFunc_store_place : RCode :=
 .seq (.ops [mv 12 (k 0)] [12])
 (.seq (.ops [mv 14 (t 0),
 mv 15 (t 1),
 mv 16 (t 2),
 mv 17 (t 4),
 mv 18 (t 5),
 ca 19 F.slices_order2CmpFunc_store_place [(t 14), (t 15), (t 16), (t 17), (t 18)],
 mv 13 (t 19),
 ex 20 (t 13) 0,
 ex 21 (t 13) 1,
 mv 1 (t 20),
 mv 2 (t 21)] [13, 14, 15, 16, 17, 18, 19, 20, 21])
 (.seq (.ops [mv 23 (t 0),
 mv 24 (t 2),
 mv 25 (t 3),
 mv 26 (t 4),
 mv 27 (t 5),
 ca 28 F.slices_order2CmpFunc_store_place [(t 23), (t 24), (t 25), (t 26), (t 27)],
 mv 22 (t 28),
 ex 29 (t 22) 0,
 ex 30 (t 22) 1,
 mv 2 (t 29),
 mv 3 (t 30)] [3, 22, 23, 24, 25, 26, 27, 28, 29, 30])
 (.seq (.ops [mv 32 (t 0),
 mv 33 (t 1),
 mv 34 (t 2),
 mv 35 (t 4),
 mv 36 (t 5),
 ca 37 F.slices_order2CmpFunc_store_place [(t 32), (t 33), (t 34), (t 35), (t 36)],
 mv 31 (t 37),
 ex 38 (t 31) 0,
 ex 39 (t 31) 1,
 mv 1 (t 38),
 mv 2 (t 39)] [0, 1, 4, 5, 31, 32, 33, 34, 35, 36, 37, 38, 39])
 (.seq (.ops [mv 40 (t 2),
 mv 12 (t 40)] [2, 40])
 (.ret)))))
def r_slices_medianCmpFunc_store_place : List RRes := [.tmp 12]
theorem fo_slices_medianCmpFunc_store_place {args : List Value} {M : Mem} {R : Value → Mem → Prop} (hn : args.length ≤ 41) (h : vfn Try.prog c_slices_medianCmpFunc_store_place r_slices_medianCmpFunc_store_place args M R) : CallsM Try.prog F.slices_medianCmpFunc_store_place args M R :=
  fn_ok (kf := k_slices_medianCmpFunc_store_place) Try.func132 (by kernel_rfl) (by kernel_rfl) hn (by kernel_rfl) h
/-- portage/portageref14.Marks -/
def k_ref14_Marks (i : Nat) : List Nat := match i with | 0 => [0, 2] | 1 => [7] | 3 => [8, 9, 10, 11] | 5 => [15, 16, 17, 18, 19] | 6 => [20, 21, 22] | 7 => [23, 24, 25, 26, 27, 28, 29, 30, 31, 32, 33, 34, 35, 36, 37, 38, 39, 40, 41, 42, 43] | 8 => [45, 46, 47, 48, 49, 50, 51, 52] | 9 => [53, 54] | 10 => [55, 56, 57, 58, 59, 60, 61, 62, 63, 64, 65, 66, 67, 68, 69, 70, 71] | 11 => [6, 73, 74, 75, 76, 77, 78, 79, 80] | 12 => [5, 6, 81, 82, 83, 84, 85, 86, 87, 88, 89, 90, 91, 92, 93] | 4 => [13, 14] | 13 => [3, 94] | _ => []
def c_ref14_Marks : RCode :=
 .seq (.ops [o 1 (.box 34 (t 0)),
 mv 2 (.const sn)] [0, 2])
 (.seq (.ops [o 7 (.mkSl false 77 0 [] []),
 mv 3 (t 7)] [7])
 (.seq (.seq (.ops [mv 4 (k 0)] [])
 (.block 0 (.loop (.seq (.seq (.ops [mv 8 (t 4),
  fa 9 1 (t 1),
  l1 10 (t 9),
  o 11 (.len (t 10)),
  o 12 (.ibin .lss (t 8) (t 11))] [8, 9, 10, 11])
  (.cond (t 12)
   (.skip)
   (.exit 0)))
  (.seq (.block 1 (.seq (.ops [fa 15 1 (t 1),
  l1 16 (t 15),
  mv 17 (t 4),
  o 18 (.iaddr 3 (t 16) (t 17)),
  la 19 3 (t 18),
  o 5 (.alloc 140 [(i 0), (i 0), (i 0)]),
  st 3 (t 5) (t 19)] [15, 16, 17, 18, 19])
  (.seq (.ops [mv 20 (t 3),
  o 21 (.len (t 20)),
  o 22 (.ibin .sub (t 21) (k 1)),
  mv 6 (t 22)] [20, 21, 22])
  (.seq (.seq (.draw (.take (mv 23 (t 6)) (.take (o 24 (.ibin .lss (t 23) (k 0))) (.take (os 25 (.mov (t 24))) (.take (gf 25 26 (.mov (t 3))) (.take (gf 25 27 (.mov (t 6))) (.take (gf 25 28 (.iaddr 4 (t 26) (t 27))) (.take (gf 25 29 (.faddr 0 (t 28))) (.take (gf 25 30 (.load false 1 (t 29))) (.take (gf 25 31 (.faddr 0 (t 5))) (.take (gf 25 32 (.load false 1 (t 31))) (.take (gf 25 33 (.ibin .neq (t 30) (t 32))) (.take (o 34 (.pick (t 25) (kb true) (t 33))) (.take (os 35 (.mov (t 34))) (.take (gf 35 36 (.mov (t 3))) (.take (gf 35 37 (.mov (t 6))) (.take (gf 35 38 (.iaddr 4 (t 36) (t 37))) (.take (gf 35 39 (.faddr 1 (t 38))) (.take (gf 35 40 (.load false 1 (t 39))) (.take (gf 35 41 (.faddr 1 (t 5))) (.take (gf 35 42 (.load false 1 (t 41))) (.take (gf 35 43 (.ibin .neq (t 40) (t 42))) (.take (o 44 (.pick (t 35) (kb true) (t 43))) (.done))))))))))))))))))))))) [23, 24, 25, 26, 27, 28, 29, 30, 31, 32, 33, 34, 35, 36, 37, 38, 39, 40, 41, 42, 43])
  (.cond (t 44)
   (.seq (.ops [mv 45 (t 3),
   fa 46 0 (t 5),
   l1 47 (t 46),
   fa 48 1 (t 5),
   l1 49 (t 48),
   o 50 (.build [(i 0), (i 0), (i 0), sn] [(0, 1, (t 47)), (1, 1, (t 49))]),
   o 51 (.mkSl true 77 1 [(i 0), (i 0), (i 0), sn] [(0, 4, (t 50))]),
   o 52 (.app 77 4 48 [(i 0), (i 0), (i 0), sn] (t 45) (t 51)),
   mv 3 (t 52)] [45, 46, 47, 48, 49, 50, 51, 52])
   (.ops [mv 53 (t 6),
   ad 54 (t 53) (k 1),
   mv 6 (t 54)] [53, 54]))
   (.skip)))
  (.seq (.draw (.take (mv 55 (t 3)) (.take (mv 56 (t 6)) (.take (o 57 (.iaddr 4 (t 55) (t 56))) (.take (fa 58 3 (t 57)) (.take (l1 59 (t 58)) (.take (o 60 (.len (t 59))) (.take (o 61 (.ibin .eql (t 60) (k 0))) (.take (os 62 (.mov (t 61))) (.take (gt 62 63 (.faddr 2 (t 5))) (.take (gt 62 64 (.load false 1 (t 63))) (.take (gt 62 65 (.mov (t 3))) (.take (gt 62 66 (.mov (t 6))) (.take (gt 62 67 (.iaddr 4 (t 65) (t 66))) (.take (gt 62 68 (.faddr 2 (t 67))) (.take (gt 62 69 (.load false 1 (t 68))) (.take (gt 62 70 (.ibin .add (t 69) (k 1))) (.take (gt 62 71 (.ibin .eql (t 64) (t 70))) (.take (o 72 (.pick (t 62) (t 71) (kb false))) (.done))))))))))))))))))) [55, 56, 57, 58, 59, 60, 61, 62, 63, 64, 65, 66, 67, 68, 69, 70, 71])
  (.cond (t 72)
   (.ops [mv 73 (t 3),
   mv 74 (t 6),
   o 75 (.iaddr 4 (t 73) (t 74)),
   fa 76 2 (t 75),
   l1 77 (t 76),
   ad 78 (t 77) (k 1),
   o 79 (.iaddr 4 (t 73) (t 74)),
   fa 80 2 (t 79),
   st 1 (t 80) (t 78)] [6, 73, 74, 75, 76, 77, 78, 79, 80])
   (.draw (.take (mv 81 (t 3)) (.take (mv 82 (t 6)) (.take (mv 83 (t 3)) (.take (mv 84 (t 6)) (.take (o 85 (.iaddr 4 (t 83) (t 84))) (.take (fa 86 3 (t 85)) (.take (l1 87 (t 86)) (.take (fa 88 2 (t 5)) (.take (l1 89 (t 88)) (.alt (o 90 (.mkSl true 3 1 [(i 0)] [(0, 1, (t 89))])) false
    (.alt (o 91 (.app 3 1 8 [(i 0)] (t 87) (t 90))) false
     (.take (o 92 (.iaddr 4 (t 81) (t 82))) (.take (fa 93 3 (t 92)) (.alt (st 1 (t 93) (t 91)) false
      (.done)
      (.none))))
     (.none))
    (.none))))))))))) [5, 6, 81, 82, 83, 84, 85, 86, 87, 88, 89, 90, 91, 92, 93])))))))
  (.ops [mv 13 (t 4),
  ad 14 (t 13) (k 1),
  mv 4 (t 14)] [13, 14]))))))
 (.seq (.ops [mv 94 (t 3),
 mv 2 (t 94)] [3, 94])
 (.ret))))
def r_ref14_Marks : List RRes := [.tmp 2]
theorem fo_ref14_Marks {args : List Value} {M : Mem} {R : Value → Mem → Prop} (hn : args.length ≤ 95) (h : vfn Try.prog c_ref14_Marks r_ref14_Marks args M R) : CallsM Try.prog F.ref14_Marks args M R :=
  fn_ok (kf := k_ref14_Marks) Try.func133 (by kernel_rfl) (by kernel_rfl) hn (by kernel_rfl) h
/-- slices.Reverse[[]int,int] -/
def k_slices_Reverse_int_int (i : Nat) : List Nat := match i with | 0 => [4, 5, 6] | 1 => [7, 8] | 3 => [14, 15, 16, 17, 18, 19, 20, 21, 22, 23, 24, 25, 26, 27] | 2 => [10, 11, 12, 13] | _ => []
def c_slices_Reverse_int_int : RCode :=
 .seq (.ops [mv 4 (t 0),
 o 5 (.len (t 4)),
 o 6 (.ibin .sub (t 5) (k 1)),
 mv 2 (k 0),
 mv 3 (t 6)] [4, 5, 6])
 (.block 0 (.loop (.seq (.seq (.ops [mv 7 (t 2),
  mv 8 (t 3),
  o 9 (.ibin .lss (t 7) (t 8))] [7, 8])
  (.cond (t 9)
   (.skip)
   (.exit 0)))
  (.seq (.block 1 (.draw (.take (mv 14 (t 0)) (.take (mv 15 (t 2)) (.take (mv 16 (t 0)) (.take (mv 17 (t 3)) (.take (mv 18 (t 0)) (.take (mv 19 (t 3)) (.take (o 20 (.iaddr 1 (t 18) (t 19))) (.take (l1 21 (t 20)) (.take (mv 22 (t 0)) (.take (mv 23 (t 2)) (.take (o 24 (.iaddr 1 (t 22) (t 23))) (.take (l1 25 (t 24)) (.take (o 26 (.iaddr 1 (t 14) (t 15))) (.alt (st 1 (t 26) (t 21)) false
   (.take (o 27 (.iaddr 1 (t 16) (t 17))) (.alt (st 1 (t 27) (t 25)) false
    (.done)
    (.none)))
   (.none))))))))))))))) [14, 15, 16, 17, 18, 19, 20, 21, 22, 23, 24, 25, 26, 27]))
  (.ops [mv 10 (t 2),
  ad 11 (t 10) (k 1),
  mv 12 (t 3),
  o 13 (.ibin .sub (t 12) (k 1)),
  mv 2 (t 11),
  mv 3 (t 13)] [10, 11, 12, 13])))))
def r_slices_Reverse_int_int : List RRes := []
theorem fo_slices_Reverse_int_int {args : List Value} {M : Mem} {R : Value → Mem → Prop} (hn : args.length ≤ 28) (h : vfn Try.prog c_slices_Reverse_int_int r_slices_Reverse_int_int args M R) : CallsM Try.prog F.slices_Reverse_int_int args M R :=
  fn_ok (kf := k_slices_Reverse_int_int) Try.func134 (by kernel_rfl) (by kernel_rfl) hn (by kernel_rfl) h
/-- slices.siftDownCmpFunc[portage/api.Mark] -/
def k_slices_siftDownCmpFunc_api_Mark (i : Nat) : List Nat := match i with | 0 => [1, 12] | 1 => [13, 14, 15] | 2 => [16, 17] | 3 => [19, 20, 21, 22, 23, 24, 25, 26, 27, 28, 29, 30, 31, 32, 33, 34, 35, 36, 37, 38, 39] | 4 => [41, 42] | 5 => [43, 44, 45, 46, 47, 48, 49, 50, 51, 52, 53, 54, 55, 56, 57] | 6 => [10, 59, 60, 61, 62, 63, 64, 65, 66, 67, 68, 69, 70, 71, 72, 73, 74, 75, 76, 77, 78, 79, 80] | 7 => [11, 81] | _ => []
def c_slices_siftDownCmpFunc_api_Mark : RCode :=
 .seq (.ops [mv 12 (t 1),
 mv 10 (t 12)] [1, 12])
 (.block 0 (.loop (.block 1 (.seq (.ops [mv 13 (t 10),
  o 14 (.ibin .mul (k 2) (t 13)),
  ad 15 (t 14) (k 1),
  mv 11 (t 15)] [13, 14, 15])
  (.seq (.seq (.ops [mv 16 (t 11),
  mv 17 (t 2),
  o 18 (.ibin .geq (t 16) (t 17))] [16, 17])
  (.cond (t 18)
   (.exit 0)
   (.skip)))
  (.seq (.seq (.draw (.take (mv 19 (t 11)) (.take (ad 20 (t 19) (k 1)) (.take (mv 21 (t 2)) (.take (o 22 (.ibin .lss (t 20) (t 21))) (.take (os 23 (.mov (t 22))) (.take (gt 23 24 (.mov (t 4))) (.take (gt 23 25 (.mov (t 0))) (.take (gt 23 26 (.mov (t 3))) (.take (gt 23 27 (.mov (t 11))) (.take (gt 23 28 (.ibin .add (t 26) (t 27))) (.take (gt 23 29 (.iaddr 4 (t 25) (t 28))) (.take (gt 23 30 (.load true 4 (t 29))) (.take (gt 23 31 (.mov (t 0))) (.take (gt 23 32 (.mov (t 3))) (.take (gt 23 33 (.mov (t 11))) (.take (gt 23 34 (.ibin .add (t 32) (t 33))) (.take (gt 23 35 (.ibin .add (t 34) (k 1))) (.take (gt 23 36 (.iaddr 4 (t 31) (t 35))) (.take (gt 23 37 (.load true 4 (t 36))) (.alt (gt 23 38 (.call (t 24) [(t 30), (t 37)])) false
   (.take (gt 23 39 (.ibin .lss (t 38) (k 0))) (.take (o 40 (.pick (t 23) (t 39) (kb false))) (.done)))
   (.none))))))))))))))))))))) [19, 20, 21, 22, 23, 24, 25, 26, 27, 28, 29, 30, 31, 32, 33, 34, 35, 36, 37, 38, 39])
  (.cond (t 40)
   (.ops [mv 41 (t 11),
   ad 42 (t 41) (k 1),
   mv 11 (t 42)] [41, 42])
   (.skip)))
  (.seq (.seq (.draw (.take (mv 43 (t 4)) (.take (mv 44 (t 0)) (.take (mv 45 (t 3)) (.take (mv 46 (t 10)) (.take (ad 47 (t 45) (t 46)) (.take (o 48 (.iaddr 4 (t 44) (t 47))) (.take (la 49 4 (t 48)) (.take (mv 50 (t 0)) (.take (mv 51 (t 3)) (.take (mv 52 (t 11)) (.take (ad 53 (t 51) (t 52)) (.take (o 54 (.iaddr 4 (t 50) (t 53))) (.take (la 55 4 (t 54)) (.alt (o 56 (.call (t 43) [(t 49), (t 55)])) false
   (.take (o 57 (.ibin .lss (t 56) (k 0))) (.take (o 58 (.not (t 57))) (.done)))
   (.none))))))))))))))) [43, 44, 45, 46, 47, 48, 49, 50, 51, 52, 53, 54, 55, 56, 57])
  (.cond (t 58)
   (.ret)
   (.skip)))
  (.seq (.draw (.take (mv 59 (t 0)) (.take (mv 60 (t 3)) (.take (mv 61 (t 10)) (.take (ad 62 (t 60) (t 61)) (.take (mv 63 (t 0)) (.take (mv 64 (t 3)) (.take (mv 65 (t 11)) (.take (ad 66 (t 64) (t 65)) (.take (mv 67 (t 0)) (.take (mv 68 (t 3)) (.take (mv 69 (t 11)) (.take (ad 70 (t 68) (t 69)) (.take (o 71 (.iaddr 4 (t 67) (t 70))) (.take (la 72 4 (t 71)) (.take (mv 73 (t 0)) (.take (mv 74 (t 3)) (.take (mv 75 (t 10)) (.take (ad 76 (t 74) (t 75)) (.take (o 77 (.iaddr 4 (t 73) (t 76))) (.take (la 78 4 (t 77)) (.take (o 79 (.iaddr 4 (t 59) (t 62))) (.alt (st 4 (t 79) (t 72)) false
   (.take (o 80 (.iaddr 4 (t 63) (t 66))) (.alt (st 4 (t 80) (t 78)) false
    (.done)
    (.none)))
   (.none))))))))))))))))))))))) [10, 59, 60, 61, 62, 63, 64, 65, 66, 67, 68, 69, 70, 71, 72, 73, 74, 75, 76, 77, 78, 79, 80])
  (.ops [mv 81 (t 11),
  mv 10 (t 81)] [11, 81])))))))))
def r_slices_siftDownCmpFunc_api_Mark : List RRes := []
theorem fo_slices_siftDownCmpFunc_api_Mark {args : List Value} {M : Mem} {R : Value → Mem → Prop} (hn : args.length ≤ 82) (h : vfn Try.prog c_slices_siftDownCmpFunc_api_Mark r_slices_siftDownCmpFunc_api_Mark args M R) : CallsM Try.prog F.slices_siftDownCmpFunc_api_Mark args M R :=
  fn_ok (kf := k_slices_siftDownCmpFunc_api_Mark) Try.func135 (by kernel_rfl) (by kernel_rfl) hn (by kernel_rfl) h
/-- slices.medianAdjacentCmpFunc[portage/api.Mark] -/
def k_slices_medianAdjacentCmpFunc_api_Mark (i : Nat) : List Nat := match i with | 0 => [8] | 1 => [0, 1, 2, 3, 9, 10, 11, 12, 13, 14, 15, 16, 17] | _ => []
def c_slices_medianAdjacentCmpFunc_api_Mark : RCode :=
 .seq (.ops [mv 8 (k 0)] [8])
 (.seq (.ops [mv 9 (t 0),
 mv 10 (t 1),
 o 11 (.ibin .sub (t 10) (k 1)),
 mv 12 (t 1),
 mv 13 (t 1),
 ad 14 (t 13) (k 1),
 mv 15 (t 2),
 mv 16 (t 3),
 ca 17 F.slices_medianCmpFunc_api_Mark [(t 9), (t 11), (t 12), (t 14), (t 15), (t 16)],
 mv 8 (t 17)] [0, 1, 2, 3, 9, 10, 11, 12, 13, 14, 15, 16, 17])
 (.ret))
def r_slices_medianAdjacentCmpFunc_api_Mark : List RRes := [.tmp 8]
theorem fo_slices_medianAdjacentCmpFunc_api_Mark {args : List Value} {M : Mem} {R : Value → Mem → Prop} (hn : args.length ≤ 18) (h : vfn Try.prog c_slices_medianAdjacentCmpFunc_api_Mark r_slices_medianAdjacentCmpFunc_api_Mark args M R) : CallsM Try.prog F.slices_medianAdjacentCmpFunc_api_Mark args M R :=
  fn_ok (kf := k_slices_medianAdjacentCmpFunc_api_Mark) Try.func136 (by kernel_rfl) (by kernel_rfl) hn (by kernel_rfl) h
/-- slices.medianCmpFunc[portage/api.Mark] -/
def k_slices_medianCmpFunc_api_Mark (i : Nat) : List Nat := match i with | 0 => [12] | 1 => [13, 14, 15, 16, 17, 18, 19, 20, 21] | 2 => [3, 22, 23, 24, 25, 26, 27, 28, 29, 30] | 3 => [0, 1, 4, 5, 31, 32, 33, 34, 35, 36, 37, 38, 39] | 4 => [2, 40] | _ => []
def c_slices_medianCmpFunc_api_Mark : RCode :=
 .seq (.ops [mv 12 (k 0)] [12])
 (.seq (.ops [mv 14 (t 0),
 mv 15 (t 1),
 mv 16 (t 2),
 mv 17 (t 4),
 mv 18 (t 5),
 ca 19 F.slices_order2CmpFunc_api_Mark [(t 14), (t 15), (t 16), (t 17), (t 18)],
 mv 13 (t 19),
 ex 20 (t 13) 0,
 ex 21 (t 13) 1,
 mv 1 (t 20),
 mv 2 (t 21)] [13, 14, 15, 16, 17, 18, 19, 20, 21])
 (.seq (.ops [mv 23 (t 0),
 mv 24 (t 2),
 mv 25 (t 3),
 mv 26 (t 4),
 mv 27 (t 5),
 ca 28 F.slices_order2CmpFunc_api_Mark [(t 23), (t 24), (t 25), (t 26), (t 27)],
 mv 22 (t 28),
 ex 29 (t 22) 0,
 ex 30 (t 22) 1,
 mv 2 (t 29),
 mv 3 (t 30)] [3, 22, 23, 24, 25, 26, 27, 28, 29, 30])
 (.seq (.ops [mv 32 (t 0),
 mv 33 (t 1),
 mv 34 (t 2),
 mv 35 (t 4),
 mv 36 (t 5),
 ca 37 F.slices_order2CmpFunc_api_Mark [(t 32), (t 33), (t 34), (t 35), (t 36)],
 mv 31 (t 37),
 ex 38 (t 31) 0,
 ex 39 (t 31) 1,
 mv 1 (t 38),
 mv 2 (t 39)] [0, 1, 4, 5, 31, 32, 33, 34, 35, 36, 37, 38, 39])
 (.seq (.ops [mv 40 (t 2),
 mv 12 (t 40)] [2, 40])
 (.ret)))))
def r_slices_medianCmpFunc_api_Mark : List RRes := [.tmp 12]
theorem fo_slices_medianCmpFunc_api_Mark {args : List Value} {M : Mem} {R : Value → Mem → Prop} (hn : args.length ≤ 41) (h : vfn Try.prog c_slices_medianCmpFunc_api_Mark r_slices_medianCmpFunc_api_Mark args M R) : CallsM Try.prog F.slices_medianCmpFunc_api_Mark args M R :=
  fn_ok (kf := k_slices_medianCmpFunc_api_Mark) Try.func137 (by kernel_rfl) (by kernel_rfl) hn (by kernel_rfl) h
/-- slices.order2CmpFunc[portage/store.place] -/
def k_slices_order2CmpFunc_store_place (i : Nat) : List Nat := match i with | 0 => [10, 11] | 1 => [0, 4, 12, 13, 14, 15, 16, 17, 18, 19, 20, 21] | 2 => [3, 23, 24, 25, 26, 27] | 3 => [1, 2, 28, 29] | 4 => [1, 2, 30, 31] | _ => []
def c_slices_order2CmpFunc_store_place : RCode :=
 .seq (.ops [mv 10 (k 0),
 mv 11 (k 0)] [10, 11])
 (.seq (.seq (.draw (.take (mv 12 (t 4)) (.take (mv 13 (t 0)) (.take (mv 14 (t 2)) (.take (o 15 (.iaddr 6 (t 13) (t 14))) (.take (la 16 6 (t 15)) (.take (mv 17 (t 0)) (.take (mv 18 (t 1)) (.take (o 19 (.iaddr 6 (t 17) (t 18))) (.take (la 20 6 (t 19)) (.alt (o 21 (.call (t 12) [(t 16), (t 20)])) false
  (.take (o 22 (.ibin .lss (t 21) (k 0))) (.done))
  (.none))))))))))) [0, 4, 12, 13, 14, 15, 16, 17, 18, 19, 20, 21])
 (.cond (t 22)
  (.seq (.ops [mv 23 (t 3),
  o 24 (.nilck (t 23)),
  l1 25 (t 24),
  ad 26 (t 25) (k 1),
  o 27 (.nilck (t 23)),
  st 1 (t 27) (t 26)] [3, 23, 24, 25, 26, 27])
  (.seq (.ops [mv 28 (t 2),
  mv 29 (t 1),
  mv 10 (t 28),
  mv 11 (t 29)] [1, 2, 28, 29])
  (.ret)))
  (.skip)))
 (.seq (.ops [mv 30 (t 1),
 mv 31 (t 2),
 mv 10 (t 30),
 mv 11 (t 31)] [1, 2, 30, 31])
 (.ret)))
def r_slices_order2CmpFunc_store_place : List RRes := [.tmp 10, .tmp 11]
theorem fo_slices_order2CmpFunc_store_place {args : List Value} {M : Mem} {R : Value → Mem → Prop} (hn : args.length ≤ 32) (h : vfn Try.prog c_slices_order2CmpFunc_store_place r_slices_order2CmpFunc_store_place args M R) : CallsM Try.prog F.slices_order2CmpFunc_store_place args M R :=
  fn_ok (kf := k_slices_order2CmpFunc_store_place) Try.func138 (by kernel_rfl) (by kernel_rfl) hn (by kernel_rfl) h
/-- slices.order2CmpFunc[portage/api.Mark] -/
def k_slices_order2CmpFunc_api_Mark (i : Nat) : List Nat := match i with | 0 => [10, 11] | 1 => [0, 4, 12, 13, 14, 15, 16, 17, 18, 19, 20, 21] | 2 => [3, 23, 24, 25, 26, 27] | 3 => [1, 2, 28, 29] | 4 => [1, 2, 30, 31] | _ => []
def c_slices_order2CmpFunc_api_Mark : RCode :=
 .seq (.ops [mv 10 (k 0),
 mv 11 (k 0)] [10, 11])
 (.seq (.seq (.draw (.take (mv 12 (t 4)) (.take (mv 13 (t 0)) (.take (mv 14 (t 2)) (.take (o 15 (.iaddr 4 (t 13) (t 14))) (.take (la 16 4 (t 15)) (.take (mv 17 (t 0)) (.take (mv 18 (t 1)) (.take (o 19 (.iaddr 4 (t 17) (t 18))) (.take (la 20 4 (t 19)) (.alt (o 21 (.call (t 12) [(t 16), (t 20)])) false
  (.take (o 22 (.ibin .lss (t 21) (k 0))) (.done))
  (.none))))))))))) [0, 4, 12, 13, 14, 15, 16, 17, 18, 19, 20, 21])
 (.cond (t 22)
  (.seq (.ops [mv 23 (t 3),
  o 24 (.nilck (t 23)),
  l1 25 (t 24),
  ad 26 (t 25) (k 1),
  o 27 (.nilck (t 23)),
  st 1 (t 27) (t 26)] [3, 23, 24, 25, 26, 27])
  (.seq (.ops [mv 28 (t 2),
  mv 29 (t 1),
  mv 10 (t 28),
  mv 11 (t 29)] [1, 2, 28, 29])
  (.ret)))
  (.skip)))
 (.seq (.ops [mv 30 (t 1),
 mv 31 (t 2),
 mv 10 (t 30),
 mv 11 (t 31)] [1, 2, 30, 31])
 (.ret)))
def r_slices_order2CmpFunc_api_Mark : List RRes := [.tmp 10, .tmp 11]
theorem fo_slices_order2CmpFunc_api_Mark {args : List Value} {M : Mem} {R : Value → Mem → Prop} (hn : args.length ≤ 32) (h : vfn Try.prog c_slices_order2CmpFunc_api_Mark r_slices_order2CmpFunc_api_Mark args M R) : CallsM Try.prog F.slices_order2CmpFunc_api_Mark args M R :=
  fn_ok (kf := k_slices_order2CmpFunc_api_Mark) Try.func139 (by kernel_rfl) (by kernel_rfl) hn (by kernel_rfl) h

end Go.Proofs.Ytlocjjponfbhmaa

