/- The resolved texts of the functions; made by program. -/
import Derived.Test.YthlleljdahkgpaaNames
namespace Go.Proofs.Ythlleljdahkgpaa
open Go.Vm Go.Vm.S
/-- portage/portagelaw20.HopPuts -/
def k_law20_HopPuts (i : Nat) : List Nat := match i with | 0 => [0, 2] | 1 => [10, 11] | 2 => [12, 13] | 3 => [14, 15, 16, 17, 18] | 5 => [19, 20, 21, 22, 23] | 7 => [27, 28, 29, 30, 31, 32, 33, 34, 35, 36, 37, 38] | 6 => [25, 26] | 8 => [39, 40, 41, 42, 43] | 9 => [1, 4, 5, 6, 8, 9, 44, 45, 46, 47, 48, 49, 50, 51, 52, 53, 54, 55, 56, 57, 58, 59, 60, 61, 62] | _ => []
def c_law20_HopPuts : RCode :=
 .seq (.ops [o 1 (.box 29 (t 0)),
 mv 2 (kb false)] [0, 2])
 (.seq (.ops [la 10 8 (t 1),
 ca 11 F.law20_copied [(t 10)],
 o 3 (.alloc 29 [(i 0), (i 0), (i 0), (i 0), (i 0), (i 0), sn, sn]),
 st 8 (t 3) (t 11)] [10, 11])
 (.seq (.ops [la 12 8 (t 3),
 ca 13 F.hop_Check [(t 12)],
 mv 4 (t 13)] [12, 13])
 (.seq (.ops [la 15 8 (t 3),
 ca 16 F.hop_Put [(t 15)],
 mv 14 (t 16),
 ex 17 (t 14) 0,
 ex 18 (t 14) 1,
 mv 5 (t 17),
 mv 6 (t 18)] [14, 15, 16, 17, 18])
 (.seq (.seq (.ops [mv 7 (k 0)] [])
 (.block 0 (.loop (.seq (.seq (.ops [mv 19 (t 7),
  fa 20 2 (t 3),
  fa 21 4 (t 20),
  l1 22 (t 21),
  o 23 (.len (t 22)),
  o 24 (.ibin .lss (t 19) (t 23))] [19, 20, 21, 22, 23])
  (.cond (t 24)
   (.skip)
   (.exit 0)))
  (.seq (.block 1 (.draw (.take (fa 27 2 (t 3)) (.take (fa 28 4 (t 27)) (.take (l1 29 (t 28)) (.take (mv 30 (t 7)) (.take (fa 31 2 (t 3)) (.take (fa 32 4 (t 31)) (.take (l1 33 (t 32)) (.take (mv 34 (t 7)) (.take (o 35 (.iaddr 1 (t 33) (t 34))) (.take (l1 36 (t 35)) (.take (o 37 (.ibin .sub (.const (u 255)) (t 36))) (.take (o 38 (.iaddr 1 (t 29) (t 30))) (.alt (st 1 (t 38) (t 37)) false
   (.done)
   (.none)))))))))))))) [27, 28, 29, 30, 31, 32, 33, 34, 35, 36, 37, 38]))
  (.ops [mv 25 (t 7),
  ad 26 (t 25) (k 1),
  mv 7 (t 26)] [25, 26]))))))
 (.seq (.ops [la 40 8 (t 1),
 ca 41 F.ref20_Put [(t 40)],
 mv 39 (t 41),
 ex 42 (t 39) 0,
 ex 43 (t 39) 1,
 mv 8 (t 42),
 mv 9 (t 43)] [39, 40, 41, 42, 43])
 (.seq (.ops [mv 44 (t 4),
 la 45 8 (t 1),
 ca 46 F.ref20_Check [(t 45)],
 o 47 (.ibin .eql (t 44) (t 46)),
 os 48 (.mov (t 47)),
 gt 48 49 (.mov (t 5)),
 gt 48 50 (.strOf (t 49)),
 gt 48 51 (.mov (t 8)),
 gt 48 52 (.strOf (t 51)),
 gt 48 53 (.strE .eql (t 50) (t 52)),
 o 54 (.pick (t 48) (t 53) (kb false)),
 os 55 (.mov (t 54)),
 gt 55 56 (.mov (t 6)),
 gt 55 57 (.mov (t 9)),
 gt 55 58 (.ibin .eql (t 56) (t 57)),
 o 59 (.pick (t 55) (t 58) (kb false)),
 os 60 (.mov (t 59)),
 gt 60 61 (.call (fn F.law20_awake) []),
 o 62 (.pick (t 60) (t 61) (kb false)),
 mv 2 (t 62)] [1, 4, 5, 6, 8, 9, 44, 45, 46, 47, 48, 49, 50, 51, 52, 53, 54, 55, 56, 57, 58, 59, 60, 61, 62])
 (.ret)))))))
def r_law20_HopPuts : List RRes := [.tmp 2]
theorem fo_law20_HopPuts {args : List Value} {M : Mem} {R : Value → Mem → Prop} (hn : args.length ≤ 63) (h : vfn Try.prog c_law20_HopPuts r_law20_HopPuts args M R) : CallsM Try.prog F.law20_HopPuts args M R :=
  fn_ok (kf := k_law20_HopPuts) Try.func3 (by kernel_rfl) (by kernel_rfl) hn (by kernel_rfl) h
/-- portage/portagelaw20.HopWhose -/
def k_law20_HopWhose (i : Nat) : List Nat := match i with | 0 => [1, 2, 6] | 1 => [12, 13, 14, 15, 16] | 2 => [8, 17, 18, 19, 20, 21] | 3 => [0, 7, 23, 24, 25, 26, 27, 28, 29, 30, 31, 32, 33, 34, 35] | 4 => [36, 37, 38, 39, 40, 41, 42, 43, 44, 45, 46, 47, 48, 49, 50, 51] | 5 => [53] | 6 => [54, 55] | 7 => [56, 57, 58, 59, 60, 61, 62, 63, 64, 65, 66] | 8 => [10, 67, 68, 69, 70, 71, 72, 73, 74, 75, 76, 77, 78, 79, 80, 81, 82, 83, 84, 85, 86, 87, 88, 89, 90, 91, 92, 93, 94, 95, 96, 97, 98, 99, 100, 101, 102, 103, 104, 105, 106, 107, 108, 109, 110, 111, 112, 113, 114, 115, 116, 117, 118, 119, 120, 121, 122, 123, 124, 125, 126, 127, 128, 129] | 11 => [131, 132] | 13 => [136, 137, 138, 139, 140, 141, 142, 143, 144, 145, 146, 147, 148, 149, 150, 151, 152, 153, 154, 155] | 15 => [157, 158] | 12 => [134, 135] | 16 => [9, 159, 160, 161, 162, 163, 164, 165, 166, 167] | 17 => [4, 5, 7, 10, 168, 169, 170, 171, 172, 173, 174, 175, 176, 177, 178, 179, 180, 181, 182, 183, 184, 185, 186, 187, 188, 189, 190, 191, 192, 193, 194, 195, 196, 197, 198, 199, 200, 201, 202, 203, 204, 205, 206] | _ => []
def c_law20_HopWhose : RCode :=
 .seq (.ops [o 4 (.box 26 (t 1)),
 o 5 (.box 37 (t 2)),
 mv 6 (kb false)] [1, 2, 6])
 (.seq (.ops [mv 13 (t 0),
 ca 14 F.hop_New [(t 13)],
 mv 12 (t 14),
 ex 15 (t 12) 0,
 ex 16 (t 12) 1,
 mv 7 (t 15),
 mv 8 (t 16)] [12, 13, 14, 15, 16])
 (.seq (.seq (.ops [mv 17 (t 8),
 o 18 (.ibin .neq (t 17) (k 0)),
 os 19 (.mov (t 18)),
 gf 19 20 (.mov (t 7)),
 gf 19 21 (.pnil .eql (t 20) (.const (.pointer none))),
 o 22 (.pick (t 19) (kb true) (t 21))] [8, 17, 18, 19, 20, 21])
 (.cond (t 22)
  (.seq (.ops [mv 23 (t 0),
  o 24 (.ibin .lss (t 23) (k 1)),
  os 25 (.mov (t 24)),
  gf 25 26 (.mov (t 0)),
  gf 25 27 (.ibin .gtr (t 26) (k 64)),
  o 28 (.pick (t 25) (kb true) (t 27)),
  os 29 (.mov (t 28)),
  gt 29 30 (.mov (t 7)),
  gt 29 31 (.pnil .eql (t 30) (.const (.pointer none))),
  o 32 (.pick (t 29) (t 31) (kb false)),
  os 33 (.mov (t 32)),
  gt 33 34 (.call (fn F.law20_awake) []),
  o 35 (.pick (t 33) (t 34) (kb false)),
  mv 6 (t 35)] [0, 7, 23, 24, 25, 26, 27, 28, 29, 30, 31, 32, 33, 34, 35])
  (.ret))
  (.skip)))
 (.seq (.seq (.ops [fa 36 0 (t 4),
 fa 37 1 (t 36),
 l1 38 (t 37),
 o 39 (.ibin .lss (t 38) (k 0)),
 os 40 (.mov (t 39)),
 gf 40 41 (.faddr 0 (t 4)),
 gf 40 42 (.faddr 1 (t 41)),
 gf 40 43 (.load false 1 (t 42)),
 gf 40 44 (.ibin .geq (t 43) (k 64)),
 o 45 (.pick (t 40) (kb true) (t 44)),
 os 46 (.mov (t 45)),
 gf 46 47 (.iaddrA 2 1 (t 5) (k 0)),
 gf 46 48 (.load false 1 (t 47)),
 gf 46 49 (.iaddrA 2 1 (t 5) (k 1)),
 gf 46 50 (.load false 1 (t 49)),
 gf 46 51 (.ibin .eql (t 48) (t 50)),
 o 52 (.pick (t 46) (kb true) (t 51))] [36, 37, 38, 39, 40, 41, 42, 43, 44, 45, 46, 47, 48, 49, 50, 51])
 (.cond (t 52)
  (.seq (.ops [ca 53 F.law20_awake [],
  mv 6 (t 53)] [53])
  (.ret))
  (.skip)))
 (.seq (.ops [la 54 5 (t 4),
 o 55 (.mkSl false 26 1 [(i 0), (i 0), (i 0), (i 0), sn] [(0, 5, (t 54))]),
 mv 9 (t 55)] [54, 55])
 (.seq (.draw (.take (mv 56 (t 7)) (.take (mv 57 (t 9)) (.take (o 58 (.iaddrA 2 1 (t 5) (k 0))) (.take (l1 59 (t 58)) (.take (o 61 (.iaddrA 2 1 (t 5) (k 0))) (.take (l1 62 (t 61)) (.take (o 63 (.iaddrA 2 1 (t 5) (k 1))) (.take (l1 64 (t 63)) (.alt (ca 60 F.law20_via [(t 59)]) true
  (.alt (o 65 (.mkSl false 3 2 [(i 0), (i 0)] [(0, 1, (t 62)), (1, 1, (t 64))])) false
   (.alt (ca 66 F.hop_Desk_Plan [(t 56), (t 57), (t 60), (t 65)]) false
    (.take (mv 10 (t 66)) (.done))
    (.none))
   (.none))
  (.alt (o 65 (.mkSl false 3 2 [(i 0), (i 0)] [(0, 1, (t 62)), (1, 1, (t 64))])) false
   (.alt (ca 60 F.law20_via [(t 59)]) true
    (.alt (ca 66 F.hop_Desk_Plan [(t 56), (t 57), (t 60), (t 65)]) false
     (.take (mv 10 (t 66)) (.done))
     (.none))
    (.none))
   (.none))))))))))) [56, 57, 58, 59, 60, 61, 62, 63, 64, 65, 66])
 (.seq (.seq (.ops [mv 67 (t 10),
 o 68 (.len (t 67)),
 o 69 (.ibin .neq (t 68) (k 1)),
 os 70 (.mov (t 69)),
 gf 70 71 (.mov (t 10)),
 gf 70 72 (.iaddr 7 (t 71) (k 0)),
 gf 70 73 (.faddr 1 (t 72)),
 gf 70 74 (.load false 1 (t 73)),
 gf 70 75 (.ibin .neq (t 74) (k 0)),
 o 76 (.pick (t 70) (kb true) (t 75)),
 os 77 (.mov (t 76)),
 gf 77 78 (.mov (t 7)),
 gf 77 79 (.iaddrA 2 1 (t 5) (k 1)),
 gf 77 80 (.load false 1 (t 79)),
 gf 77 81 (.faddr 0 (t 4)),
 gf 77 82 (.load true 4 (t 81)),
 gf 77 83 (.call (fn F.hop_Desk_Ack) [(t 78), (t 80), (k 0), (t 82)]),
 o 84 (.pick (t 77) (kb true) (t 83)),
 os 85 (.mov (t 84)),
 gf 85 86 (.mov (t 7)),
 gf 85 87 (.iaddrA 2 1 (t 5) (k 1)),
 gf 85 88 (.load false 1 (t 87)),
 gf 85 89 (.faddr 0 (t 4)),
 gf 85 90 (.load true 4 (t 89)),
 gf 85 91 (.call (fn F.hop_Desk_Refuse) [(t 86), (t 88), (k 0), (t 90)]),
 o 92 (.pick (t 85) (kb true) (t 91)),
 os 93 (.mov (t 92)),
 gf 93 94 (.mov (t 7)),
 gf 93 95 (.iaddrA 2 1 (t 5) (k 0)),
 gf 93 96 (.load false 1 (t 95)),
 gf 93 97 (.faddr 0 (t 4)),
 gf 93 98 (.load true 4 (t 97)),
 gf 93 99 (.call (fn F.hop_Desk_Ack) [(t 94), (t 96), (k 1), (t 98)]),
 o 100 (.pick (t 93) (kb true) (t 99)),
 os 101 (.mov (t 100)),
 gf 101 102 (.mov (t 7)),
 gf 101 103 (.faddr 0 (t 4)),
 gf 101 104 (.load true 4 (t 103)),
 gf 101 105 (.call (fn F.hop_Desk_Is) [(t 102), (t 104)]),
 gf 101 106 (.not (t 105)),
 o 107 (.pick (t 101) (kb true) (t 106)),
 os 108 (.mov (t 107)),
 gf 108 109 (.mov (t 7)),
 gf 108 110 (.iaddrA 2 1 (t 5) (k 0)),
 gf 108 111 (.load false 1 (t 110)),
 gf 108 112 (.faddr 0 (t 4)),
 gf 108 113 (.load true 4 (t 112)),
 gf 108 114 (.call (fn F.hop_Desk_Refuse) [(t 109), (t 111), (k 0), (t 113)]),
 gf 108 115 (.not (t 114)),
 o 116 (.pick (t 108) (kb true) (t 115)),
 os 117 (.mov (t 116)),
 gf 117 118 (.mov (t 7)),
 gf 117 119 (.iaddrA 2 1 (t 5) (k 0)),
 gf 117 120 (.load false 1 (t 119)),
 gf 117 121 (.faddr 0 (t 4)),
 gf 117 122 (.load true 4 (t 121)),
 gf 117 123 (.call (fn F.hop_Desk_Ack) [(t 118), (t 120), (k 0), (t 122)]),
 o 124 (.pick (t 117) (kb true) (t 123)),
 os 125 (.mov (t 124)),
 gf 125 126 (.mov (t 7)),
 gf 125 127 (.faddr 0 (t 4)),
 gf 125 128 (.load true 4 (t 127)),
 gf 125 129 (.call (fn F.hop_Desk_Is) [(t 126), (t 128)]),
 o 130 (.pick (t 125) (kb true) (t 129))] [10, 67, 68, 69, 70, 71, 72, 73, 74, 75, 76, 77, 78, 79, 80, 81, 82, 83, 84, 85, 86, 87, 88, 89, 90, 91, 92, 93, 94, 95, 96, 97, 98, 99, 100, 101, 102, 103, 104, 105, 106, 107, 108, 109, 110, 111, 112, 113, 114, 115, 116, 117, 118, 119, 120, 121, 122, 123, 124, 125, 126, 127, 128, 129])
 (.cond (t 130)
  (.seq (.ops [mv 6 (kb false)] [])
  (.ret))
  (.skip)))
 (.seq (.seq (.ops [mv 11 (k 0)] [])
 (.block 0 (.loop (.seq (.seq (.ops [mv 131 (t 11),
  mv 132 (t 0),
  o 133 (.ibin .lss (t 131) (t 132))] [131, 132])
  (.cond (t 133)
   (.skip)
   (.exit 0)))
  (.seq (.block 1 (.seq (.seq (.draw (.take (mv 136 (t 7)) (.take (fa 137 0 (t 4)) (.take (la 138 4 (t 137)) (.take (mv 140 (t 0)) (.take (mv 141 (t 11)) (.take (o 142 (.ibin .sub (t 140) (t 141))) (.alt (ca 139 F.hop_Desk_Waits [(t 136), (t 138)]) true
   (.take (o 143 (.ibin .neq (t 139) (t 142))) (.take (os 144 (.mov (t 143))) (.take (gf 144 145 (.mov (t 7))) (.take (gf 144 146 (.mov (t 9))) (.take (gf 144 147 (.iaddrA 2 1 (t 5) (k 1))) (.take (gf 144 148 (.load false 1 (t 147))) (.take (gf 144 150 (.iaddrA 2 1 (t 5) (k 1))) (.take (gf 144 151 (.load false 1 (t 150))) (.alt (gf 144 149 (.call (fn F.law20_via) [(t 148)])) true
    (.alt (gf 144 152 (.mkSl false 3 1 [(i 0)] [(0, 1, (t 151))])) false
     (.alt (gf 144 153 (.call (fn F.hop_Desk_Plan) [(t 145), (t 146), (t 149), (t 152)])) false
      (.take (gf 144 154 (.len (t 153))) (.take (gf 144 155 (.ibin .neq (t 154) (k 0))) (.take (o 156 (.pick (t 144) (kb true) (t 155))) (.done))))
      (.none))
     (.none))
    (.alt (gf 144 152 (.mkSl false 3 1 [(i 0)] [(0, 1, (t 151))])) false
     (.alt (gf 144 149 (.call (fn F.law20_via) [(t 148)])) true
      (.alt (gf 144 153 (.call (fn F.hop_Desk_Plan) [(t 145), (t 146), (t 149), (t 152)])) false
       (.take (gf 144 154 (.len (t 153))) (.take (gf 144 155 (.ibin .neq (t 154) (k 0))) (.take (o 156 (.pick (t 144) (kb true) (t 155))) (.done))))
       (.none))
      (.none))
     (.none)))))))))))
   (.none)))))))) [136, 137, 138, 139, 140, 141, 142, 143, 144, 145, 146, 147, 148, 149, 150, 151, 152, 153, 154, 155])
  (.cond (t 156)
   (.seq (.ops [mv 6 (kb false)] [])
   (.ret))
   (.skip)))
  (.ops [mv 157 (t 7),
  ca 158 F.hop_Desk_Tick [(t 157)]] [157, 158])))
  (.ops [mv 134 (t 11),
  ad 135 (t 134) (k 1),
  mv 11 (t 135)] [134, 135]))))))
 (.seq (.draw (.take (mv 159 (t 7)) (.take (mv 160 (t 9)) (.take (o 161 (.iaddrA 2 1 (t 5) (k 0))) (.take (l1 162 (t 161)) (.take (o 164 (.iaddrA 2 1 (t 5) (k 0))) (.take (l1 165 (t 164)) (.alt (ca 163 F.law20_via [(t 162)]) true
  (.alt (o 166 (.mkSl false 3 1 [(i 0)] [(0, 1, (t 165))])) false
   (.alt (ca 167 F.hop_Desk_Plan [(t 159), (t 160), (t 163), (t 166)]) false
    (.take (mv 10 (t 167)) (.done))
    (.none))
   (.none))
  (.alt (o 166 (.mkSl false 3 1 [(i 0)] [(0, 1, (t 165))])) false
   (.alt (ca 163 F.law20_via [(t 162)]) true
    (.alt (ca 167 F.hop_Desk_Plan [(t 159), (t 160), (t 163), (t 166)]) false
     (.take (mv 10 (t 167)) (.done))
     (.none))
    (.none))
   (.none))))))))) [9, 159, 160, 161, 162, 163, 164, 165, 166, 167])
 (.seq (.ops [mv 168 (t 10),
 o 169 (.len (t 168)),
 o 170 (.ibin .eql (t 169) (k 1)),
 os 171 (.mov (t 170)),
 gt 171 172 (.mov (t 10)),
 gt 171 173 (.iaddr 7 (t 172) (k 0)),
 gt 171 174 (.faddr 1 (t 173)),
 gt 171 175 (.load false 1 (t 174)),
 gt 171 176 (.ibin .eql (t 175) (k 1)),
 o 177 (.pick (t 171) (t 176) (kb false)),
 os 178 (.mov (t 177)),
 gt 178 179 (.mov (t 7)),
 gt 178 180 (.iaddrA 2 1 (t 5) (k 0)),
 gt 178 181 (.load false 1 (t 180)),
 gt 178 182 (.faddr 0 (t 4)),
 gt 178 183 (.load true 4 (t 182)),
 gt 178 184 (.call (fn F.hop_Desk_Ack) [(t 179), (t 181), (k 0), (t 183)]),
 gt 178 185 (.not (t 184)),
 o 186 (.pick (t 178) (t 185) (kb false)),
 os 187 (.mov (t 186)),
 gt 187 188 (.mov (t 7)),
 gt 187 189 (.iaddrA 2 1 (t 5) (k 0)),
 gt 187 190 (.load false 1 (t 189)),
 gt 187 191 (.faddr 0 (t 4)),
 gt 187 192 (.load true 4 (t 191)),
 gt 187 193 (.call (fn F.hop_Desk_Refuse) [(t 188), (t 190), (k 0), (t 192)]),
 gt 187 194 (.not (t 193)),
 o 195 (.pick (t 187) (t 194) (kb false)),
 os 196 (.mov (t 195)),
 gt 196 197 (.mov (t 7)),
 gt 196 198 (.iaddrA 2 1 (t 5) (k 0)),
 gt 196 199 (.load false 1 (t 198)),
 gt 196 200 (.faddr 0 (t 4)),
 gt 196 201 (.load true 4 (t 200)),
 gt 196 202 (.call (fn F.hop_Desk_Ack) [(t 197), (t 199), (k 1), (t 201)]),
 o 203 (.pick (t 196) (t 202) (kb false)),
 os 204 (.mov (t 203)),
 gt 204 205 (.call (fn F.law20_awake) []),
 o 206 (.pick (t 204) (t 205) (kb false)),
 mv 6 (t 206)] [4, 5, 7, 10, 168, 169, 170, 171, 172, 173, 174, 175, 176, 177, 178, 179, 180, 181, 182, 183, 184, 185, 186, 187, 188, 189, 190, 191, 192, 193, 194, 195, 196, 197, 198, 199, 200, 201, 202, 203, 204, 205, 206])
 (.ret))))))))))
def r_law20_HopWhose : List RRes := [.tmp 6]
theorem fo_law20_HopWhose {args : List Value} {M : Mem} {R : Value → Mem → Prop} (hn : args.length ≤ 207) (h : vfn Try.prog c_law20_HopWhose r_law20_HopWhose args M R) : CallsM Try.prog F.law20_HopWhose args M R :=
  fn_ok (kf := k_law20_HopWhose) Try.func4 (by kernel_rfl) (by kernel_rfl) hn (by kernel_rfl) h
/-- portage/portagelaw20.HopGets -/
def k_law20_HopGets (i : Nat) : List Nat := match i with | 0 => [2] | 1 => [9, 10, 11] | 2 => [12, 13, 14, 15, 16] | 4 => [17, 18, 19] | 6 => [23, 24, 25, 26, 27, 28, 29, 30] | 5 => [21, 22] | 7 => [0, 31, 32, 33, 34, 35] | 8 => [4, 5, 7, 8, 36, 37, 38, 39, 40, 41, 42, 43, 44, 45, 46] | _ => []
def c_law20_HopGets : RCode :=
 .seq (.ops [mv 2 (kb false)] [2])
 (.seq (.ops [o 9 (.mkSl false 5 0 [] []),
 mv 10 (t 0),
 o 11 (.app 5 1 1 [(u 0)] (t 9) (t 10)),
 mv 3 (t 11)] [9, 10, 11])
 (.seq (.ops [mv 13 (t 3),
 ca 14 F.hop_Get [(t 13)],
 mv 12 (t 14),
 ex 15 (t 12) 0,
 ex 16 (t 12) 1,
 o 4 (.alloc 29 [(i 0), (i 0), (i 0), (i 0), (i 0), (i 0), sn, sn]),
 st 8 (t 4) (t 15),
 mv 5 (t 16)] [12, 13, 14, 15, 16])
 (.seq (.seq (.ops [mv 6 (k 0)] [])
 (.block 0 (.loop (.seq (.seq (.ops [mv 17 (t 6),
  mv 18 (t 3),
  o 19 (.len (t 18)),
  o 20 (.ibin .lss (t 17) (t 19))] [17, 18, 19])
  (.cond (t 20)
   (.skip)
   (.exit 0)))
  (.seq (.block 1 (.ops [mv 23 (t 3),
  mv 24 (t 6),
  mv 25 (t 3),
  mv 26 (t 6),
  o 27 (.iaddr 1 (t 25) (t 26)),
  l1 28 (t 27),
  o 29 (.ibin .sub (.const (u 255)) (t 28)),
  o 30 (.iaddr 1 (t 23) (t 24)),
  st 1 (t 30) (t 29)] [23, 24, 25, 26, 27, 28, 29, 30]))
  (.ops [mv 21 (t 6),
  ad 22 (t 21) (k 1),
  mv 6 (t 22)] [21, 22]))))))
 (.seq (.ops [mv 32 (t 0),
 ca 33 F.ref20_Get [(t 32)],
 mv 31 (t 33),
 ex 34 (t 31) 0,
 ex 35 (t 31) 1,
 o 7 (.alloc 29 [(i 0), (i 0), (i 0), (i 0), (i 0), (i 0), sn, sn]),
 st 8 (t 7) (t 34),
 mv 8 (t 35)] [0, 31, 32, 33, 34, 35])
 (.seq (.ops [la 36 8 (t 4),
 la 37 8 (t 7),
 ca 38 F.ref20_Same [(t 36), (t 37)],
 os 39 (.mov (t 38)),
 gt 39 40 (.mov (t 5)),
 gt 39 41 (.mov (t 8)),
 gt 39 42 (.ibin .eql (t 40) (t 41)),
 o 43 (.pick (t 39) (t 42) (kb false)),
 os 44 (.mov (t 43)),
 gt 44 45 (.call (fn F.law20_awake) []),
 o 46 (.pick (t 44) (t 45) (kb false)),
 mv 2 (t 46)] [4, 5, 7, 8, 36, 37, 38, 39, 40, 41, 42, 43, 44, 45, 46])
 (.ret))))))
def r_law20_HopGets : List RRes := [.tmp 2]
theorem fo_law20_HopGets {args : List Value} {M : Mem} {R : Value → Mem → Prop} (hn : args.length ≤ 47) (h : vfn Try.prog c_law20_HopGets r_law20_HopGets args M R) : CallsM Try.prog F.law20_HopGets args M R :=
  fn_ok (kf := k_law20_HopGets) Try.func5 (by kernel_rfl) (by kernel_rfl) hn (by kernel_rfl) h
/-- portage/portagelaw20.HopBack -/
def k_law20_HopBack (i : Nat) : List Nat := match i with | 0 => [0, 4] | 1 => [13, 14, 15, 16, 17] | 2 => [6, 18] | 3 => [20, 21, 22, 23, 24] | 4 => [2, 5, 7, 8, 25, 26, 27, 28, 29, 30, 31, 32, 33, 34, 35, 36, 37, 38, 39, 40, 41] | 6 => [43, 44, 45, 46, 47] | 7 => [10, 48] | 8 => [9, 50, 51, 52, 53, 54] | 9 => [1, 11, 12, 55, 56, 57, 58, 59, 60, 61, 62] | 11 => [64] | _ => []
def c_law20_HopBack : RCode :=
 .seq (.ops [o 2 (.box 29 (t 0)),
 mv 4 (kb false)] [0, 4])
 (.seq (.ops [la 14 8 (t 2),
 ca 15 F.hop_Put [(t 14)],
 mv 13 (t 15),
 ex 16 (t 13) 0,
 ex 17 (t 13) 1,
 mv 5 (t 16),
 mv 6 (t 17)] [13, 14, 15, 16, 17])
 (.seq (.seq (.ops [mv 18 (t 6),
 o 19 (.ibin .eql (t 18) (k 0))] [6, 18])
 (.cond (t 19)
  (.seq (.ops [mv 21 (t 5),
  ca 22 F.hop_Get [(t 21)],
  mv 20 (t 22),
  ex 23 (t 20) 0,
  ex 24 (t 20) 1,
  o 7 (.alloc 29 [(i 0), (i 0), (i 0), (i 0), (i 0), (i 0), sn, sn]),
  st 8 (t 7) (t 23),
  mv 8 (t 24)] [20, 21, 22, 23, 24])
  (.seq (.ops [mv 25 (t 8),
  o 26 (.ibin .neq (t 25) (k 0)),
  os 27 (.mov (t 26)),
  gf 27 28 (.load true 8 (t 2)),
  gf 27 29 (.load true 8 (t 7)),
  gf 27 30 (.call (fn F.ref20_Same) [(t 28), (t 29)]),
  gf 27 31 (.not (t 30)),
  o 32 (.pick (t 27) (kb true) (t 31)),
  os 33 (.mov (t 32)),
  gf 33 34 (.mov (t 5)),
  gf 33 35 (.len (t 34)),
  gf 33 36 (.ibin .gtr (t 35) (k 65)),
  o 37 (.pick (t 33) (kb true) (t 36)),
  os 38 (.mov (t 37)),
  gf 38 39 (.mov (t 5)),
  gf 38 40 (.len (t 39)),
  gf 38 41 (.ibin .lss (t 40) (k 9)),
  o 42 (.pick (t 38) (kb true) (t 41))] [2, 5, 7, 8, 25, 26, 27, 28, 29, 30, 31, 32, 33, 34, 35, 36, 37, 38, 39, 40, 41])
  (.cond (t 42)
   (.seq (.ops [mv 4 (kb false)] [])
   (.ret))
   (.skip))))
  (.skip)))
 (.seq (.ops [mv 44 (t 1),
 ca 45 F.hop_Get [(t 44)],
 mv 43 (t 45),
 ex 46 (t 43) 0,
 ex 47 (t 43) 1,
 o 9 (.alloc 29 [(i 0), (i 0), (i 0), (i 0), (i 0), (i 0), sn, sn]),
 st 8 (t 9) (t 46),
 mv 10 (t 47)] [43, 44, 45, 46, 47])
 (.seq (.seq (.ops [mv 48 (t 10),
 o 49 (.ibin .eql (t 48) (k 0))] [10, 48])
 (.cond (t 49)
  (.seq (.ops [la 51 8 (t 9),
  ca 52 F.hop_Put [(t 51)],
  mv 50 (t 52),
  ex 53 (t 50) 0,
  ex 54 (t 50) 1,
  mv 11 (t 53),
  mv 12 (t 54)] [9, 50, 51, 52, 53, 54])
  (.seq (.ops [mv 55 (t 12),
  o 56 (.ibin .neq (t 55) (k 0)),
  os 57 (.mov (t 56)),
  gf 57 58 (.mov (t 11)),
  gf 57 59 (.strOf (t 58)),
  gf 57 60 (.mov (t 1)),
  gf 57 61 (.strOf (t 60)),
  gf 57 62 (.strE .neq (t 59) (t 61)),
  o 63 (.pick (t 57) (kb true) (t 62))] [1, 11, 12, 55, 56, 57, 58, 59, 60, 61, 62])
  (.cond (t 63)
   (.seq (.ops [mv 4 (kb false)] [])
   (.ret))
   (.skip))))
  (.skip)))
 (.seq (.ops [ca 64 F.law20_awake [],
 mv 4 (t 64)] [64])
 (.ret))))))
def r_law20_HopBack : List RRes := [.tmp 4]
theorem fo_law20_HopBack {args : List Value} {M : Mem} {R : Value → Mem → Prop} (hn : args.length ≤ 65) (h : vfn Try.prog c_law20_HopBack r_law20_HopBack args M R) : CallsM Try.prog F.law20_HopBack args M R :=
  fn_ok (kf := k_law20_HopBack) Try.func6 (by kernel_rfl) (by kernel_rfl) hn (by kernel_rfl) h
/-- portage/portagelaw20.HopOnce -/
def k_law20_HopOnce (i : Nat) : List Nat := match i with | 0 => [4] | 1 => [17, 18, 19, 20, 21] | 2 => [6, 22, 23, 24, 25, 26] | 3 => [0, 5, 28, 29, 30, 31, 32, 33, 34, 35, 36, 37, 38, 39, 40] | 4 => [41] | 5 => [42] | 8 => [43, 44, 45, 46, 47, 48, 49] | 10 => [53, 54, 55, 56] | 11 => [57] | 24 => [108] | 25 => [11, 109, 110, 111, 112, 113, 114, 115, 116] | 27 => [117, 118, 119] | 30 => [123, 124, 125] | 32 => [129, 130, 131, 132, 133, 134, 135, 136, 137, 138, 139, 140, 141, 142, 143, 144, 145, 146, 147] | 31 => [127, 128] | 34 => [149, 150, 151, 152, 153, 154, 155, 156, 157] | 35 => [158, 159, 160, 161] | 28 => [121, 122] | 36 => [163] | 37 => [164, 165] | 38 => [166, 167] | 39 => [58, 169] | 40 => [11, 170, 171, 172, 173] | 13 => [59, 60] | 14 => [62, 63, 64, 65, 66, 67, 68, 69] | 15 => [70, 71] | 16 => [73, 74, 75, 76] | 17 => [77, 78] | 18 => [80, 81, 82, 83, 84, 85, 86, 87] | 20 => [88, 89, 90, 91, 92, 93] | 22 => [97, 98, 99, 100, 101, 102] | 23 => [104, 105, 106] | 21 => [95, 96] | 9 => [51, 52] | 42 => [175] | _ => []
def c_law20_HopOnce : RCode :=
 .seq (.ops [mv 4 (kb false)] [4])
 (.seq (.ops [mv 18 (t 0),
 ca 19 F.hop_New [(t 18)],
 mv 17 (t 19),
 ex 20 (t 17) 0,
 ex 21 (t 17) 1,
 mv 5 (t 20),
 mv 6 (t 21)] [17, 18, 19, 20, 21])
 (.seq (.seq (.ops [mv 22 (t 6),
 o 23 (.ibin .neq (t 22) (k 0)),
 os 24 (.mov (t 23)),
 gf 24 25 (.mov (t 5)),
 gf 24 26 (.pnil .eql (t 25) (.const (.pointer none))),
 o 27 (.pick (t 24) (kb true) (t 26))] [6, 22, 23, 24, 25, 26])
 (.cond (t 27)
  (.seq (.ops [mv 28 (t 0),
  o 29 (.ibin .lss (t 28) (k 1)),
  os 30 (.mov (t 29)),
  gf 30 31 (.mov (t 0)),
  gf 30 32 (.ibin .gtr (t 31) (k 64)),
  o 33 (.pick (t 30) (kb true) (t 32)),
  os 34 (.mov (t 33)),
  gt 34 35 (.mov (t 5)),
  gt 34 36 (.pnil .eql (t 35) (.const (.pointer none))),
  o 37 (.pick (t 34) (t 36) (kb false)),
  os 38 (.mov (t 37)),
  gt 38 39 (.call (fn F.law20_awake) []),
  o 40 (.pick (t 38) (t 39) (kb false)),
  mv 4 (t 40)] [0, 5, 28, 29, 30, 31, 32, 33, 34, 35, 36, 37, 38, 39, 40])
  (.ret))
  (.skip)))
 (.seq (.ops [o 41 (.mkSl false 23 0 [] []),
 mv 7 (t 41)] [41])
 (.seq (.ops [o 42 (.mkSl false 3 0 [] []),
 mv 8 (t 42)] [42])
 (.seq (.ops [mv 9 (k 0)] [])
 (.seq (.seq (.ops [mv 10 (k 0)] [])
 (.block 0 (.loop (.seq (.seq (.ops [mv 43 (t 10),
  mv 44 (t 1),
  o 45 (.len (t 44)),
  o 46 (.ibin .lss (t 43) (t 45)),
  os 47 (.mov (t 46)),
  gt 47 48 (.mov (t 10)),
  gt 47 49 (.ibin .lss (t 48) (k 60)),
  o 50 (.pick (t 47) (t 49) (kb false))] [43, 44, 45, 46, 47, 48, 49])
  (.cond (t 50)
   (.skip)
   (.exit 0)))
  (.seq (.block 1 (.seq (.ops [mv 53 (t 1),
  mv 54 (t 10),
  o 55 (.iaddr 10 (t 53) (t 54)),
  la 56 10 (t 55),
  o 11 (.alloc 60 [(i 0), sn, sn, sn, (i 0), (i 0), (i 0), (i 0), (i 0), (i 0)]),
  st 10 (t 11) (t 56)] [53, 54, 55, 56])
  (.seq (.ops [fa 57 0 (t 11),
  l1 58 (t 57)] [57])
  (.block 2 (.seq (.ops [o 108 (.ibin .eql (t 58) (k 0)),
  mv 107 (t 108)] [108])
  (.cond (t 107)
   (.seq (.ops [mv 109 (t 5),
   fa 110 1 (t 11),
   l1 111 (t 110),
   fa 112 2 (t 11),
   l1 113 (t 112),
   fa 114 3 (t 11),
   l1 115 (t 114),
   ca 116 F.hop_Desk_Plan [(t 109), (t 111), (t 113), (t 115)],
   mv 12 (t 116)] [11, 109, 110, 111, 112, 113, 114, 115, 116])
   (.seq (.ops [mv 13 (k 0)] [])
   (.block 5 (.loop (.seq (.seq (.ops [mv 117 (t 13),
    mv 118 (t 12),
    o 119 (.len (t 118)),
    o 120 (.ibin .lss (t 117) (t 119))] [117, 118, 119])
    (.cond (t 120)
     (.skip)
     (.exit 5)))
    (.seq (.block 6 (.seq (.seq (.ops [mv 14 (k 0)] [])
    (.block 7 (.loop (.seq (.seq (.ops [mv 123 (t 14),
     mv 124 (t 7),
     o 125 (.len (t 124)),
     o 126 (.ibin .lss (t 123) (t 125))] [123, 124, 125])
     (.cond (t 126)
      (.skip)
      (.exit 7)))
     (.seq (.block 8 (.seq (.draw (.take (mv 129 (t 7)) (.take (mv 130 (t 14)) (.take (o 131 (.iaddr 4 (t 129) (t 130))) (.take (la 132 4 (t 131)) (.take (mv 133 (t 12)) (.take (mv 134 (t 13)) (.take (o 135 (.iaddr 7 (t 133) (t 134))) (.take (fa 136 2 (t 135)) (.take (fa 137 0 (t 136)) (.take (la 138 4 (t 137)) (.take (o 139 (.aeq .eql 4 (t 132) (t 138))) (.take (os 140 (.mov (t 139))) (.take (gt 140 141 (.mov (t 9))) (.take (gt 140 142 (.mov (t 8))) (.take (gt 140 143 (.mov (t 14))) (.take (gt 140 144 (.iaddr 1 (t 142) (t 143))) (.take (gt 140 145 (.load false 1 (t 144))) (.take (gt 140 146 (.ibin .sub (t 141) (t 145))) (.take (gt 140 147 (.ibin .lss (t 146) (k 64))) (.take (o 148 (.pick (t 140) (t 147) (kb false))) (.done))))))))))))))))))))) [129, 130, 131, 132, 133, 134, 135, 136, 137, 138, 139, 140, 141, 142, 143, 144, 145, 146, 147])
     (.cond (t 148)
      (.seq (.ops [mv 4 (kb false)] [])
      (.ret))
      (.skip))))
     (.ops [mv 127 (t 14),
     ad 128 (t 127) (k 1),
     mv 14 (t 128)] [127, 128]))))))
    (.seq (.ops [mv 149 (t 7),
    mv 150 (t 12),
    mv 151 (t 13),
    o 152 (.iaddr 7 (t 150) (t 151)),
    fa 153 2 (t 152),
    fa 154 0 (t 153),
    la 155 4 (t 154),
    o 156 (.mkSl true 23 1 [(i 0), (i 0), (i 0), (i 0)] [(0, 4, (t 155))]),
    o 157 (.app 23 4 32 [(i 0), (i 0), (i 0), (i 0)] (t 149) (t 156)),
    mv 7 (t 157)] [149, 150, 151, 152, 153, 154, 155, 156, 157])
    (.ops [mv 158 (t 8),
    mv 159 (t 9),
    o 160 (.mkSl true 3 1 [(i 0)] [(0, 1, (t 159))]),
    o 161 (.app 3 1 8 [(i 0)] (t 158) (t 160)),
    mv 8 (t 161)] [158, 159, 160, 161]))))
    (.ops [mv 121 (t 13),
    ad 122 (t 121) (k 1),
    mv 13 (t 122)] [121, 122])))))))
   (.seq (.ops [o 163 (.ibin .eql (t 58) (k 1)),
   mv 162 (t 163)] [163])
   (.cond (t 162)
    (.seq (.ops [mv 164 (t 5),
    ca 165 F.hop_Desk_Tick [(t 164)]] [164, 165])
    (.ops [mv 166 (t 9),
    ad 167 (t 166) (k 1),
    mv 9 (t 167)] [166, 167]))
    (.seq (.ops [o 169 (.ibin .eql (t 58) (k 5)),
    mv 168 (t 169)] [58, 169])
    (.cond (t 168)
     (.seq (.ops [mv 170 (t 5),
     fa 171 4 (t 11),
     l1 172 (t 171),
     ca 173 F.hop_Desk_Reset [(t 170), (t 172)],
     o 174 (.ibin .gtr (t 173) (k 0))] [11, 170, 171, 172, 173])
     (.cond (t 174)
      (.ops [mv 7 (.const sn),
      mv 8 (.const sn)] [])
      (.skip)))
     (.seq (.ops [mv 15 (kb false)] [])
     (.seq (.seq (.ops [fa 59 0 (t 11),
     l1 60 (t 59),
     o 61 (.ibin .eql (t 60) (k 2))] [59, 60])
     (.cond (t 61)
      (.ops [mv 62 (t 5),
      fa 63 4 (t 11),
      l1 64 (t 63),
      fa 65 5 (t 11),
      l1 66 (t 65),
      fa 67 6 (t 11),
      la 68 4 (t 67),
      ca 69 F.hop_Desk_Ack [(t 62), (t 64), (t 66), (t 68)],
      mv 15 (t 69)] [62, 63, 64, 65, 66, 67, 68, 69])
      (.skip)))
     (.seq (.seq (.ops [fa 70 0 (t 11),
     l1 71 (t 70),
     o 72 (.ibin .eql (t 71) (k 4))] [70, 71])
     (.cond (t 72)
      (.ops [mv 73 (t 5),
      fa 74 6 (t 11),
      la 75 4 (t 74),
      ca 76 F.hop_Desk_Back [(t 73), (t 75)],
      mv 15 (t 76)] [73, 74, 75, 76])
      (.skip)))
     (.seq (.seq (.ops [fa 77 0 (t 11),
     l1 78 (t 77),
     o 79 (.ibin .eql (t 78) (k 3))] [77, 78])
     (.cond (t 79)
      (.ops [mv 80 (t 5),
      fa 81 4 (t 11),
      l1 82 (t 81),
      fa 83 5 (t 11),
      l1 84 (t 83),
      fa 85 6 (t 11),
      la 86 4 (t 85),
      ca 87 F.hop_Desk_Refuse [(t 80), (t 82), (t 84), (t 86)],
      mv 15 (t 87)] [80, 81, 82, 83, 84, 85, 86, 87])
      (.skip)))
     (.seq (.ops [mv 16 (k 0)] [])
     (.block 3 (.loop (.seq (.seq (.ops [mv 88 (t 16),
      mv 89 (t 7),
      o 90 (.len (t 89)),
      o 91 (.ibin .lss (t 88) (t 90)),
      os 92 (.mov (t 91)),
      gt 92 93 (.mov (t 15)),
      o 94 (.pick (t 92) (t 93) (kb false))] [88, 89, 90, 91, 92, 93])
      (.cond (t 94)
       (.skip)
       (.exit 3)))
      (.seq (.block 4 (.seq (.draw (.take (mv 97 (t 7)) (.take (mv 98 (t 16)) (.take (o 99 (.iaddr 4 (t 97) (t 98))) (.take (la 100 4 (t 99)) (.take (fa 101 6 (t 11)) (.take (la 102 4 (t 101)) (.take (o 103 (.aeq .eql 4 (t 100) (t 102))) (.done)))))))) [97, 98, 99, 100, 101, 102])
      (.cond (t 103)
       (.ops [mv 104 (t 8),
       mv 105 (t 16),
       o 106 (.iaddr 1 (t 104) (t 105)),
       st 1 (t 106) (k (-64))] [104, 105, 106])
       (.skip))))
      (.ops [mv 95 (t 16),
      ad 96 (t 95) (k 1),
      mv 16 (t 96)] [95, 96]))))))))))))))))))))
  (.ops [mv 51 (t 10),
  ad 52 (t 51) (k 1),
  mv 10 (t 52)] [51, 52]))))))
 (.seq (.ops [ca 175 F.law20_awake [],
 mv 4 (t 175)] [175])
 (.ret))))))))
def r_law20_HopOnce : List RRes := [.tmp 4]
theorem fo_law20_HopOnce {args : List Value} {M : Mem} {R : Value → Mem → Prop} (hn : args.length ≤ 176) (h : vfn Try.prog c_law20_HopOnce r_law20_HopOnce args M R) : CallsM Try.prog F.law20_HopOnce args M R :=
  fn_ok (kf := k_law20_HopOnce) Try.func7 (by kernel_rfl) (by kernel_rfl) hn (by kernel_rfl) h
/-- portage/portagelaw20.HopPlays -/
def k_law20_HopPlays (i : Nat) : List Nat := match i with | 0 => [4] | 1 => [13, 14, 15, 16, 17] | 2 => [0, 18, 19, 20, 21, 22] | 3 => [6, 23, 24, 25, 26, 27, 28, 29, 30, 31] | 5 => [8, 33] | 6 => [35] | 8 => [36, 37, 38, 39, 40, 41, 42] | 10 => [46, 47, 48, 49, 50, 51, 52, 53, 54, 55] | 11 => [10, 56] | 12 => [11, 57, 58, 59, 60, 61, 62, 63, 64, 65, 66, 67, 68, 69, 70, 71, 72, 73, 74, 75, 76, 77, 78, 79, 80, 81, 82, 83, 84, 85, 86, 87, 88, 89, 90, 91] | 15 => [93] | 17 => [97, 98, 99, 100, 101, 102, 103] | 16 => [95, 96] | 9 => [44, 45] | 19 => [105] | _ => []
def c_law20_HopPlays : RCode :=
 .seq (.ops [mv 4 (kb false)] [4])
 (.seq (.ops [mv 14 (t 0),
 ca 15 F.hop_New [(t 14)],
 mv 13 (t 15),
 ex 16 (t 13) 0,
 ex 17 (t 13) 1,
 mv 5 (t 16),
 mv 6 (t 17)] [13, 14, 15, 16, 17])
 (.seq (.ops [mv 19 (t 0),
 ca 20 F.ref20_New [(t 19)],
 mv 18 (t 20),
 ex 21 (t 18) 0,
 ex 22 (t 18) 1,
 o 7 (.alloc 65 [(i 0), (i 0), sn]),
 st 3 (t 7) (t 21),
 mv 8 (t 22)] [0, 18, 19, 20, 21, 22])
 (.seq (.seq (.ops [mv 23 (t 6),
 mv 24 (t 8),
 o 25 (.ibin .neq (t 23) (t 24)),
 os 26 (.mov (t 25)),
 gf 26 27 (.mov (t 5)),
 gf 26 28 (.pnil .eql (t 27) (.const (.pointer none))),
 gf 26 29 (.mov (t 8)),
 gf 26 30 (.ibin .neq (t 29) (k 0)),
 gf 26 31 (.bbin .neq (t 28) (t 30)),
 o 32 (.pick (t 26) (kb true) (t 31))] [6, 23, 24, 25, 26, 27, 28, 29, 30, 31])
 (.cond (t 32)
  (.seq (.ops [mv 4 (kb false)] [])
  (.ret))
  (.skip)))
 (.seq (.seq (.ops [mv 33 (t 8),
 o 34 (.ibin .neq (t 33) (k 0))] [8, 33])
 (.cond (t 34)
  (.seq (.ops [ca 35 F.law20_awake [],
  mv 4 (t 35)] [35])
  (.ret))
  (.skip)))
 (.seq (.seq (.ops [mv 9 (k 0)] [])
 (.block 0 (.loop (.seq (.seq (.ops [mv 36 (t 9),
  mv 37 (t 1),
  o 38 (.len (t 37)),
  o 39 (.ibin .lss (t 36) (t 38)),
  os 40 (.mov (t 39)),
  gt 40 41 (.mov (t 9)),
  gt 40 42 (.ibin .lss (t 41) (k 60)),
  o 43 (.pick (t 40) (t 42) (kb false))] [36, 37, 38, 39, 40, 41, 42])
  (.cond (t 43)
   (.skip)
   (.exit 0)))
  (.seq (.block 1 (.seq (.draw (.take (mv 47 (t 5)) (.take (la 48 3 (t 7)) (.take (mv 49 (t 1)) (.take (mv 50 (t 9)) (.take (o 51 (.iaddr 10 (t 49) (t 50))) (.take (la 52 10 (t 51)) (.alt (ca 53 F.law20_play [(t 47), (t 48), (t 52)]) false
   (.take (mv 46 (t 53)) (.take (ex 54 (t 46) 0) (.take (ex 55 (t 46) 1) (.alt (o 10 (.alloc 65 [(i 0), (i 0), sn])) false
    (.alt (st 3 (t 10) (t 54)) false
     (.take (mv 11 (t 55)) (.done))
     (.none))
    (.none)))))
   (.alt (o 10 (.alloc 65 [(i 0), (i 0), sn])) false
    (.alt (ca 53 F.law20_play [(t 47), (t 48), (t 52)]) false
     (.take (mv 46 (t 53)) (.take (ex 54 (t 46) 0) (.take (ex 55 (t 46) 1) (.alt (st 3 (t 10) (t 54)) false
      (.take (mv 11 (t 55)) (.done))
      (.none)))))
     (.none))
    (.none))))))))) [46, 47, 48, 49, 50, 51, 52, 53, 54, 55])
  (.seq (.ops [la 56 3 (t 10),
  st 3 (t 7) (t 56)] [10, 56])
  (.seq (.seq (.draw (.take (mv 57 (t 11)) (.take (o 58 (.not (t 57))) (.take (os 59 (.mov (t 58))) (.take (gf 59 60 (.mov (t 5))) (.take (gf 59 61 (.mov (t 1))) (.take (gf 59 62 (.mov (t 9))) (.take (gf 59 63 (.iaddr 10 (t 61) (t 62))) (.take (gf 59 64 (.faddr 6 (t 63))) (.take (gf 59 65 (.load true 4 (t 64))) (.take (gf 59 67 (.load true 3 (t 7))) (.take (gf 59 68 (.mov (t 1))) (.take (gf 59 69 (.mov (t 9))) (.take (gf 59 70 (.iaddr 10 (t 68) (t 69))) (.take (gf 59 71 (.faddr 6 (t 70))) (.take (gf 59 72 (.load true 4 (t 71))) (.alt (gf 59 66 (.call (fn F.hop_Desk_Waits) [(t 60), (t 65)])) true
   (.alt (gf 59 73 (.call (fn F.ref20_Waits) [(t 67), (t 72)])) true
    (.take (gf 59 74 (.ibin .neq (t 66) (t 73))) (.take (o 75 (.pick (t 59) (kb true) (t 74))) (.take (os 76 (.mov (t 75))) (.take (gf 76 77 (.mov (t 5))) (.take (gf 76 78 (.mov (t 1))) (.take (gf 76 79 (.mov (t 9))) (.take (gf 76 80 (.iaddr 10 (t 78) (t 79))) (.take (gf 76 81 (.faddr 6 (t 80))) (.take (gf 76 82 (.load true 4 (t 81))) (.take (gf 76 84 (.load true 3 (t 7))) (.take (gf 76 85 (.mov (t 1))) (.take (gf 76 86 (.mov (t 9))) (.take (gf 76 87 (.iaddr 10 (t 85) (t 86))) (.take (gf 76 88 (.faddr 6 (t 87))) (.take (gf 76 89 (.load true 4 (t 88))) (.alt (gf 76 83 (.call (fn F.hop_Desk_Is) [(t 77), (t 82)])) true
     (.alt (gf 76 90 (.call (fn F.ref20_Is) [(t 84), (t 89)])) false
      (.take (gf 76 91 (.bbin .neq (t 83) (t 90))) (.take (o 92 (.pick (t 76) (kb true) (t 91))) (.done)))
      (.none))
     (.none)))))))))))))))))
    (.none))
   (.none))))))))))))))))) [11, 57, 58, 59, 60, 61, 62, 63, 64, 65, 66, 67, 68, 69, 70, 71, 72, 73, 74, 75, 76, 77, 78, 79, 80, 81, 82, 83, 84, 85, 86, 87, 88, 89, 90, 91])
  (.cond (t 92)
   (.seq (.ops [mv 4 (kb false)] [])
   (.ret))
   (.skip)))
  (.seq (.ops [mv 12 (k (-1))] [])
  (.block 2 (.loop (.seq (.seq (.ops [mv 93 (t 12),
   o 94 (.ibin .lss (t 93) (k 6))] [93])
   (.cond (t 94)
    (.skip)
    (.exit 2)))
   (.seq (.block 3 (.seq (.draw (.take (mv 97 (t 5)) (.take (mv 98 (t 12)) (.take (la 100 3 (t 7)) (.take (mv 101 (t 12)) (.alt (ca 99 F.hop_Desk_Offered [(t 97), (t 98)]) true
    (.alt (ca 102 F.ref20_Offered [(t 100), (t 101)]) false
     (.alt (ca 103 F.ref20_SameIds [(t 99), (t 102)]) false
      (.take (o 104 (.not (t 103))) (.done))
      (.none))
     (.none))
    (.none)))))) [97, 98, 99, 100, 101, 102, 103])
   (.cond (t 104)
    (.seq (.ops [mv 4 (kb false)] [])
    (.ret))
    (.skip))))
   (.ops [mv 95 (t 12),
   ad 96 (t 95) (k 1),
   mv 12 (t 96)] [95, 96]))))))))))
  (.ops [mv 44 (t 9),
  ad 45 (t 44) (k 1),
  mv 9 (t 45)] [44, 45]))))))
 (.seq (.ops [ca 105 F.law20_awake [],
 mv 4 (t 105)] [105])
 (.ret)))))))
def r_law20_HopPlays : List RRes := [.tmp 4]
theorem fo_law20_HopPlays {args : List Value} {M : Mem} {R : Value → Mem → Prop} (hn : args.length ≤ 106) (h : vfn Try.prog c_law20_HopPlays r_law20_HopPlays args M R) : CallsM Try.prog F.law20_HopPlays args M R :=
  fn_ok (kf := k_law20_HopPlays) Try.func8 (by kernel_rfl) (by kernel_rfl) hn (by kernel_rfl) h
/-- portage/portagelaw20.HopNil -/
def k_law20_HopNil (i : Nat) : List Nat := match i with | 0 => [0, 2] | 2 => [1, 3, 4, 5, 6, 7, 8, 9, 10, 11, 12, 13, 14, 15, 16, 17, 18, 19, 20, 21, 22, 23, 24, 25, 26, 27, 28, 29, 30, 31, 32, 33, 34, 35, 36, 37, 38, 39, 40, 41, 42, 43, 44, 45, 46, 47, 48, 49, 50, 51, 52, 53, 54, 55, 56, 57, 58, 59, 60, 61, 62, 63, 64, 65, 66, 67, 68, 69, 70, 71, 72, 73, 74, 75, 76, 77, 78, 79] | _ => []
def c_law20_HopNil : RCode :=
 .seq (.ops [o 1 (.box 60 (t 0)),
 mv 2 (kb false)] [0, 2])
 (.seq (.ops [mv 3 (.const (.pointer none))] [])
 (.seq (.ops [mv 4 (t 3),
 fa 5 1 (t 1),
 l1 6 (t 5),
 fa 7 2 (t 1),
 l1 8 (t 7),
 fa 9 3 (t 1),
 l1 10 (t 9),
 ca 11 F.hop_Desk_Plan [(t 4), (t 6), (t 8), (t 10)],
 o 12 (.len (t 11)),
 o 13 (.ibin .eql (t 12) (k 0)),
 os 14 (.mov (t 13)),
 gt 14 15 (.mov (t 3)),
 gt 14 16 (.call (fn F.hop_Desk_Tick) [(t 15)]),
 gt 14 17 (.ibin .eql (t 16) (k 7)),
 o 18 (.pick (t 14) (t 17) (kb false)),
 os 19 (.mov (t 18)),
 gt 19 20 (.mov (t 3)),
 gt 19 21 (.faddr 4 (t 1)),
 gt 19 22 (.load false 1 (t 21)),
 gt 19 23 (.faddr 5 (t 1)),
 gt 19 24 (.load false 1 (t 23)),
 gt 19 25 (.faddr 6 (t 1)),
 gt 19 26 (.load true 4 (t 25)),
 gt 19 27 (.call (fn F.hop_Desk_Ack) [(t 20), (t 22), (t 24), (t 26)]),
 gt 19 28 (.not (t 27)),
 o 29 (.pick (t 19) (t 28) (kb false)),
 os 30 (.mov (t 29)),
 gt 30 31 (.mov (t 3)),
 gt 30 32 (.faddr 4 (t 1)),
 gt 30 33 (.load false 1 (t 32)),
 gt 30 34 (.faddr 5 (t 1)),
 gt 30 35 (.load false 1 (t 34)),
 gt 30 36 (.faddr 6 (t 1)),
 gt 30 37 (.load true 4 (t 36)),
 gt 30 38 (.call (fn F.hop_Desk_Refuse) [(t 31), (t 33), (t 35), (t 37)]),
 gt 30 39 (.not (t 38)),
 o 40 (.pick (t 30) (t 39) (kb false)),
 os 41 (.mov (t 40)),
 gt 41 42 (.mov (t 3)),
 gt 41 43 (.faddr 6 (t 1)),
 gt 41 44 (.load true 4 (t 43)),
 gt 41 45 (.call (fn F.hop_Desk_Is) [(t 42), (t 44)]),
 gt 41 46 (.not (t 45)),
 o 47 (.pick (t 41) (t 46) (kb false)),
 os 48 (.mov (t 47)),
 gt 48 49 (.mov (t 3)),
 gt 48 50 (.faddr 6 (t 1)),
 gt 48 51 (.load true 4 (t 50)),
 gt 48 52 (.call (fn F.hop_Desk_Back) [(t 49), (t 51)]),
 gt 48 53 (.not (t 52)),
 o 54 (.pick (t 48) (t 53) (kb false)),
 os 55 (.mov (t 54)),
 gt 55 56 (.mov (t 3)),
 gt 55 57 (.faddr 4 (t 1)),
 gt 55 58 (.load false 1 (t 57)),
 gt 55 59 (.call (fn F.hop_Desk_Reset) [(t 56), (t 58)]),
 gt 55 60 (.ibin .eql (t 59) (k 0)),
 o 61 (.pick (t 55) (t 60) (kb false)),
 os 62 (.mov (t 61)),
 gt 62 63 (.mov (t 3)),
 gt 62 64 (.faddr 4 (t 1)),
 gt 62 65 (.load false 1 (t 64)),
 gt 62 66 (.call (fn F.hop_Desk_Offered) [(t 63), (t 65)]),
 gt 62 67 (.len (t 66)),
 gt 62 68 (.ibin .eql (t 67) (k 0)),
 o 69 (.pick (t 62) (t 68) (kb false)),
 os 70 (.mov (t 69)),
 gt 70 71 (.mov (t 3)),
 gt 70 72 (.faddr 6 (t 1)),
 gt 70 73 (.load true 4 (t 72)),
 gt 70 74 (.call (fn F.hop_Desk_Waits) [(t 71), (t 73)]),
 gt 70 75 (.ibin .eql (t 74) (k 0)),
 o 76 (.pick (t 70) (t 75) (kb false)),
 os 77 (.mov (t 76)),
 gt 77 78 (.call (fn F.law20_awake) []),
 o 79 (.pick (t 77) (t 78) (kb false)),
 mv 2 (t 79)] [1, 3, 4, 5, 6, 7, 8, 9, 10, 11, 12, 13, 14, 15, 16, 17, 18, 19, 20, 21, 22, 23, 24, 25, 26, 27, 28, 29, 30, 31, 32, 33, 34, 35, 36, 37, 38, 39, 40, 41, 42, 43, 44, 45, 46, 47, 48, 49, 50, 51, 52, 53, 54, 55, 56, 57, 58, 59, 60, 61, 62, 63, 64, 65, 66, 67, 68, 69, 70, 71, 72, 73, 74, 75, 76, 77, 78, 79])
 (.ret)))
def r_law20_HopNil : List RRes := [.tmp 2]
theorem fo_law20_HopNil {args : List Value} {M : Mem} {R : Value → Mem → Prop} (hn : args.length ≤ 80) (h : vfn Try.prog c_law20_HopNil r_law20_HopNil args M R) : CallsM Try.prog F.law20_HopNil args M R :=
  fn_ok (kf := k_law20_HopNil) Try.func9 (by kernel_rfl) (by kernel_rfl) hn (by kernel_rfl) h
/-- portage/portagelaw20.copied -/
def k_law20_copied (i : Nat) : List Nat := match i with | 0 => [0] | 1 => [3, 4, 5, 6, 7, 8, 9] | 2 => [10, 11, 12, 13, 14] | 3 => [1, 15] | _ => []
def c_law20_copied : RCode :=
 .seq (.ops [o 1 (.box 29 (t 0)),
 o 2 (.alloc 29 [(i 0), (i 0), (i 0), (i 0), (i 0), (i 0), sn, sn])] [0])
 (.seq (.ops [o 3 (.mkSl false 5 0 [] []),
 fa 4 2 (t 1),
 fa 5 4 (t 4),
 l1 6 (t 5),
 o 7 (.app 5 1 1 [(u 0)] (t 3) (t 6)),
 fa 8 2 (t 1),
 fa 9 4 (t 8),
 st 1 (t 9) (t 7)] [3, 4, 5, 6, 7, 8, 9])
 (.seq (.ops [o 10 (.mkSl false 3 0 [] []),
 fa 11 7 (t 1),
 l1 12 (t 11),
 o 13 (.app 3 1 8 [(i 0)] (t 10) (t 12)),
 fa 14 7 (t 1),
 st 1 (t 14) (t 13)] [10, 11, 12, 13, 14])
 (.seq (.ops [la 15 8 (t 1),
 st 8 (t 2) (t 15)] [1, 15])
 (.ret))))
def r_law20_copied : List RRes := [.cell true 8 2]
theorem fo_law20_copied {args : List Value} {M : Mem} {R : Value → Mem → Prop} (hn : args.length ≤ 16) (h : vfn Try.prog c_law20_copied r_law20_copied args M R) : CallsM Try.prog F.law20_copied args M R :=
  fn_ok (kf := k_law20_copied) Try.func10 (by kernel_rfl) (by kernel_rfl) hn (by kernel_rfl) h
/-- portage/hop.Check -/
def k_hop_Check (i : Nat) : List Nat := match i with | 0 => [0, 2] | 1 => [8] | 2 => [9, 10, 11, 12, 13, 14, 15] | 4 => [17] | 6 => [20] | 7 => [21, 22, 23] | 8 => [24] | 9 => [4, 26] | 10 => [27, 28] | 11 => [30] | 12 => [31] | 13 => [32, 33, 34, 35] | 14 => [36] | 15 => [5, 38] | 16 => [39, 40, 41, 42] | 17 => [18, 44] | 18 => [45, 46, 47, 48, 49, 50, 51, 52] | 20 => [54] | 22 => [59, 60] | 23 => [7, 61, 62, 63, 64, 65] | 25 => [67] | 26 => [1, 3, 68, 69, 70, 71, 72, 73, 74, 75, 76, 77, 78, 79, 80, 81, 82] | _ => []
def c_hop_Check : RCode :=
 .seq (.ops [o 1 (.box 29 (t 0)),
 mv 2 (k 0)] [0, 2])
 (.seq (.ops [o 8 (.build [(i 0), (i 0), (i 0), (i 0), sn] []),
 o 3 (.alloc 26 [(i 0), (i 0), (i 0), (i 0), sn]),
 st 5 (t 3) (t 8)] [8])
 (.seq (.seq (.ops [fa 9 1 (t 1),
 l1 10 (t 9),
 o 11 (.ibin .lss (t 10) (k 0)),
 os 12 (.mov (t 11)),
 gf 12 13 (.faddr 1 (t 1)),
 gf 12 14 (.load false 1 (t 13)),
 gf 12 15 (.ibin .gtr (t 14) (k 65535)),
 o 16 (.pick (t 12) (kb true) (t 15))] [9, 10, 11, 12, 13, 14, 15])
 (.cond (t 16)
  (.seq (.ops [mv 2 (k 1)] [])
  (.ret))
  (.skip)))
 (.seq (.seq (.ops [fa 17 0 (t 1),
 l1 18 (t 17)] [17])
 (.block 0 (.seq (.ops [o 20 (.ibin .eql (t 18) (k 1)),
 mv 19 (t 20)] [20])
 (.cond (t 19)
  (.seq (.seq (.ops [fa 21 2 (t 1),
  la 22 5 (t 21),
  ca 23 F.msg_CheckMsg [(t 22)],
  mv 4 (t 23)] [21, 22, 23])
  (.seq (.ops [mv 24 (t 4),
  o 25 (.ibin .neq (t 24) (k 0))] [24])
  (.cond (t 25)
   (.seq (.ops [mv 26 (t 4),
   mv 2 (t 26)] [4, 26])
   (.ret))
   (.skip))))
  (.ops [fa 27 2 (t 1),
  la 28 5 (t 27),
  st 5 (t 3) (t 28)] [27, 28]))
  (.seq (.seq (.ops [o 30 (.ibin .eql (t 18) (k 2)),
  mv 29 (t 30)] [30])
  (.cond (t 29)
   (.skip)
   (.ops [o 31 (.ibin .eql (t 18) (k 3)),
   mv 29 (t 31)] [31])))
  (.cond (t 29)
   (.seq (.seq (.ops [fa 32 2 (t 1),
   fa 33 0 (t 32),
   la 34 4 (t 33),
   ca 35 F.msg_Check [(t 34)],
   mv 5 (t 35)] [32, 33, 34, 35])
   (.seq (.ops [mv 36 (t 5),
   o 37 (.ibin .neq (t 36) (k 0))] [36])
   (.cond (t 37)
    (.seq (.ops [mv 38 (t 5),
    mv 2 (t 38)] [5, 38])
    (.ret))
    (.skip))))
   (.ops [fa 39 2 (t 1),
   fa 40 0 (t 39),
   la 41 4 (t 40),
   fa 42 0 (t 3),
   st 4 (t 42) (t 41)] [39, 40, 41, 42]))
   (.seq (.ops [o 44 (.ibin .eql (t 18) (k 4)),
   mv 43 (t 44)] [18, 44])
   (.cond (t 43)
    (.seq (.seq (.ops [fa 45 7 (t 1),
    l1 46 (t 45),
    o 47 (.len (t 46)),
    o 48 (.ibin .neq (t 47) (k 64)),
    os 49 (.mov (t 48)),
    gf 49 50 (.faddr 1 (t 1)),
    gf 49 51 (.load false 1 (t 50)),
    gf 49 52 (.ibin .neq (t 51) (k 0)),
    o 53 (.pick (t 49) (kb true) (t 52))] [45, 46, 47, 48, 49, 50, 51, 52])
    (.cond (t 53)
     (.seq (.ops [mv 2 (k 2)] [])
     (.ret))
     (.skip)))
    (.seq (.ops [fa 54 7 (t 1),
    l1 55 (t 54),
    o 56 (.len (t 55)),
    mv 57 (k 0)] [54])
    (.block 1 (.loop (.seq (.ops [o 58 (.ibin .lss (t 57) (t 56))] [])
     (.seq (.cond (t 58)
      (.skip)
      (.exit 1))
     (.seq (.block 2 (.seq (.ops [o 59 (.iaddr 1 (t 55) (t 57)),
     l1 60 (t 59),
     mv 7 (t 60)] [59, 60])
     (.seq (.ops [mv 61 (t 7),
     o 62 (.ibin .lss (t 61) (k 0)),
     os 63 (.mov (t 62)),
     gf 63 64 (.mov (t 7)),
     gf 63 65 (.ibin .gtr (t 64) (k 16)),
     o 66 (.pick (t 63) (kb true) (t 65))] [7, 61, 62, 63, 64, 65])
     (.cond (t 66)
      (.seq (.ops [mv 2 (k 2)] [])
      (.ret))
      (.skip)))))
     (.ops [ad 67 (t 57) (k 1),
     mv 57 (t 67)] [67]))))))))
    (.seq (.ops [mv 2 (k 1)] [])
    (.ret))))))))))
 (.seq (.seq (.ops [fa 68 2 (t 1),
 la 69 5 (t 68),
 la 70 5 (t 3),
 ca 71 F.msg_Same [(t 69), (t 70)],
 o 72 (.not (t 71)),
 os 73 (.mov (t 72)),
 gf 73 74 (.faddr 0 (t 1)),
 gf 73 75 (.load false 1 (t 74)),
 gf 73 76 (.ibin .neq (t 75) (k 4)),
 ⟨(some 77), .mov (t 76), some (73, false), true⟩,
 gt 77 78 (.faddr 7 (t 1)),
 gt 77 79 (.load false 1 (t 78)),
 gt 77 80 (.len (t 79)),
 gt 77 81 (.ibin .gtr (t 80) (k 0)),
 gf 73 82 (.pick (t 77) (t 81) (kb false)),
 o 83 (.pick (t 73) (kb true) (t 82))] [1, 3, 68, 69, 70, 71, 72, 73, 74, 75, 76, 77, 78, 79, 80, 81, 82])
 (.cond (t 83)
  (.seq (.ops [mv 2 (k 2)] [])
  (.ret))
  (.skip)))
 (.seq (.ops [mv 2 (k 0)] [])
 (.ret))))))
def r_hop_Check : List RRes := [.tmp 2]
theorem fo_hop_Check {args : List Value} {M : Mem} {R : Value → Mem → Prop} (hn : args.length ≤ 84) (h : vfn Try.prog c_hop_Check r_hop_Check args M R) : CallsM Try.prog F.hop_Check args M R :=
  fn_ok (kf := k_hop_Check) Try.func11 (by kernel_rfl) (by kernel_rfl) hn (by kernel_rfl) h
/-- portage/hop.Put -/
def k_hop_Put (i : Nat) : List Nat := match i with | 0 => [0, 2, 3] | 1 => [10, 11] | 2 => [12] | 3 => [4, 14] | 4 => [15, 16, 17, 18] | 5 => [19, 20] | 6 => [1, 22] | 8 => [27, 28] | 9 => [7, 29, 30, 31, 32, 33] | 10 => [34] | 11 => [5, 35] | 12 => [36, 37, 38, 39, 40, 41, 42, 43] | 13 => [9, 44, 45, 46, 47, 48, 49, 50] | 14 => [1, 5, 8, 51, 52, 53, 54, 55, 56, 57] | _ => []
def c_hop_Put : RCode :=
 .seq (.ops [o 1 (.box 29 (t 0)),
 mv 2 (.const sn),
 mv 3 (k 0)] [0, 2, 3])
 (.seq (.seq (.ops [la 10 8 (t 1),
 ca 11 F.hop_Check [(t 10)],
 mv 4 (t 11)] [10, 11])
 (.seq (.ops [mv 12 (t 4),
 o 13 (.ibin .neq (t 12) (k 0))] [12])
 (.cond (t 13)
  (.seq (.ops [mv 14 (t 4),
  mv 2 (.const sn),
  mv 3 (t 14)] [4, 14])
  (.ret))
  (.skip))))
 (.seq (.ops [fa 15 0 (t 1),
 l1 16 (t 15),
 o 17 (.conv .u8 (t 16)),
 o 18 (.mkSl false 5 1 [(u 0)] [(0, 1, (t 17))]),
 mv 5 (t 18)] [15, 16, 17, 18])
 (.seq (.seq (.ops [fa 19 0 (t 1),
 l1 20 (t 19),
 o 21 (.ibin .eql (t 20) (k 4))] [19, 20])
 (.cond (t 21)
  (.seq (.seq (.ops [fa 22 7 (t 1),
  l1 23 (t 22),
  o 24 (.len (t 23)),
  mv 25 (k 0)] [1, 22])
  (.block 0 (.loop (.seq (.ops [o 26 (.ibin .lss (t 25) (t 24))] [])
   (.seq (.cond (t 26)
    (.skip)
    (.exit 0))
   (.seq (.block 1 (.seq (.ops [o 27 (.iaddr 1 (t 23) (t 25)),
   l1 28 (t 27),
   mv 7 (t 28)] [27, 28])
   (.ops [mv 29 (t 5),
   mv 30 (t 7),
   o 31 (.conv .u8 (t 30)),
   o 32 (.mkSl true 5 1 [(u 0)] [(0, 1, (t 31))]),
   o 33 (.app 5 1 1 [(u 0)] (t 29) (t 32)),
   mv 5 (t 33)] [7, 29, 30, 31, 32, 33])))
   (.ops [ad 34 (t 25) (k 1),
   mv 25 (t 34)] [34])))))))
  (.seq (.ops [mv 35 (t 5),
  mv 2 (t 35),
  mv 3 (k 0)] [5, 35])
  (.ret)))
  (.skip)))
 (.seq (.ops [mv 37 (t 5),
 fa 38 1 (t 1),
 l1 39 (t 38),
 o 40 (.conv .u64 (t 39)),
 ca 41 F.bits_Put [(t 37), (t 40), (k 2)],
 mv 36 (t 41),
 ex 42 (t 36) 0,
 ex 43 (t 36) 1,
 mv 5 (t 42)] [36, 37, 38, 39, 40, 41, 42, 43])
 (.seq (.ops [fa 45 2 (t 1),
 fa 46 0 (t 45),
 la 47 4 (t 46),
 ca 48 F.msg_PutId [(t 47)],
 mv 44 (t 48),
 ex 49 (t 44) 0,
 ex 50 (t 44) 1,
 mv 8 (t 49),
 mv 9 (t 50)] [9, 44, 45, 46, 47, 48, 49, 50])
 (.seq (.draw (.take (mv 51 (t 5)) (.take (mv 52 (t 8)) (.take (fa 54 2 (t 1)) (.take (fa 55 4 (t 54)) (.take (l1 56 (t 55)) (.alt (o 53 (.app 5 1 1 [(u 0)] (t 51) (t 52))) true
  (.alt (o 57 (.app 5 1 1 [(u 0)] (t 53) (t 56))) false
   (.take (mv 2 (t 57)) (.take (mv 3 (k 0)) (.done)))
   (.none))
  (.none))))))) [1, 5, 8, 51, 52, 53, 54, 55, 56, 57])
 (.ret)))))))
def r_hop_Put : List RRes := [.tmp 2, .tmp 3]
theorem fo_hop_Put {args : List Value} {M : Mem} {R : Value → Mem → Prop} (hn : args.length ≤ 58) (h : vfn Try.prog c_hop_Put r_hop_Put args M R) : CallsM Try.prog F.hop_Put args M R :=
  fn_ok (kf := k_hop_Put) Try.func12 (by kernel_rfl) (by kernel_rfl) hn (by kernel_rfl) h
/-- portage/portageref20.Put -/
def k_ref20_Put (i : Nat) : List Nat := match i with | 0 => [0, 2, 3] | 1 => [8, 9] | 2 => [1, 11, 12] | 3 => [13, 14, 15, 16] | 4 => [17, 18] | 6 => [20, 21, 22, 23] | 8 => [27, 28, 29, 30, 31, 32, 33, 34, 35] | 7 => [25, 26] | 9 => [4, 36] | 10 => [37, 38, 39, 40, 41, 42, 43, 44, 45, 46, 47] | 11 => [7, 48, 49, 50, 51, 52, 53, 54] | 12 => [6, 55, 56, 57] | 13 => [1, 4, 58, 59, 60, 61, 62] | _ => []
def c_ref20_Put : RCode :=
 .seq (.ops [o 1 (.box 29 (t 0)),
 mv 2 (.const sn),
 mv 3 (k 0)] [0, 2, 3])
 (.seq (.seq (.ops [la 8 8 (t 1),
 ca 9 F.ref20_Check [(t 8)],
 o 10 (.ibin .neq (t 9) (k 0))] [8, 9])
 (.cond (t 10)
  (.seq (.ops [la 11 8 (t 1),
  ca 12 F.ref20_Check [(t 11)],
  mv 2 (.const sn),
  mv 3 (t 12)] [1, 11, 12])
  (.ret))
  (.skip)))
 (.seq (.ops [fa 13 0 (t 1),
 l1 14 (t 13),
 o 15 (.conv .u8 (t 14)),
 o 16 (.mkSl false 5 1 [(u 0)] [(0, 1, (t 15))]),
 mv 4 (t 16)] [13, 14, 15, 16])
 (.seq (.seq (.ops [fa 17 0 (t 1),
 l1 18 (t 17),
 o 19 (.ibin .eql (t 18) (k 4))] [17, 18])
 (.cond (t 19)
  (.seq (.seq (.ops [mv 5 (k 0)] [])
  (.block 0 (.loop (.seq (.seq (.ops [mv 20 (t 5),
   fa 21 7 (t 1),
   l1 22 (t 21),
   o 23 (.len (t 22)),
   o 24 (.ibin .lss (t 20) (t 23))] [20, 21, 22, 23])
   (.cond (t 24)
    (.skip)
    (.exit 0)))
   (.seq (.block 1 (.ops [mv 27 (t 4),
   fa 28 7 (t 1),
   l1 29 (t 28),
   mv 30 (t 5),
   o 31 (.iaddr 1 (t 29) (t 30)),
   l1 32 (t 31),
   o 33 (.conv .u8 (t 32)),
   o 34 (.mkSl true 5 1 [(u 0)] [(0, 1, (t 33))]),
   o 35 (.app 5 1 1 [(u 0)] (t 27) (t 34)),
   mv 4 (t 35)] [27, 28, 29, 30, 31, 32, 33, 34, 35]))
   (.ops [mv 25 (t 5),
   ad 26 (t 25) (k 1),
   mv 5 (t 26)] [25, 26]))))))
  (.seq (.ops [mv 36 (t 4),
  mv 2 (t 36),
  mv 3 (k 0)] [4, 36])
  (.ret)))
  (.skip)))
 (.seq (.ops [mv 37 (t 4),
 fa 38 1 (t 1),
 l1 39 (t 38),
 o 40 (.ibin .quo (t 39) (k 256)),
 o 41 (.conv .u8 (t 40)),
 fa 42 1 (t 1),
 l1 43 (t 42),
 o 44 (.ibin .rem (t 43) (k 256)),
 o 45 (.conv .u8 (t 44)),
 o 46 (.mkSl true 5 2 [(u 0), (u 0)] [(0, 1, (t 41)), (1, 1, (t 45))]),
 o 47 (.app 5 1 1 [(u 0)] (t 37) (t 46)),
 mv 4 (t 47)] [37, 38, 39, 40, 41, 42, 43, 44, 45, 46, 47])
 (.seq (.ops [fa 49 2 (t 1),
 fa 50 0 (t 49),
 la 51 4 (t 50),
 ca 52 F.ref13_PutId [(t 51)],
 mv 48 (t 52),
 ex 53 (t 48) 0,
 ex 54 (t 48) 1,
 mv 6 (t 53),
 mv 7 (t 54)] [7, 48, 49, 50, 51, 52, 53, 54])
 (.seq (.ops [mv 55 (t 4),
 mv 56 (t 6),
 o 57 (.app 5 1 1 [(u 0)] (t 55) (t 56)),
 mv 4 (t 57)] [6, 55, 56, 57])
 (.seq (.ops [mv 58 (t 4),
 fa 59 2 (t 1),
 fa 60 4 (t 59),
 l1 61 (t 60),
 o 62 (.app 5 1 1 [(u 0)] (t 58) (t 61)),
 mv 2 (t 62),
 mv 3 (k 0)] [1, 4, 58, 59, 60, 61, 62])
 (.ret))))))))
def r_ref20_Put : List RRes := [.tmp 2, .tmp 3]
theorem fo_ref20_Put {args : List Value} {M : Mem} {R : Value → Mem → Prop} (hn : args.length ≤ 63) (h : vfn Try.prog c_ref20_Put r_ref20_Put args M R) : CallsM Try.prog F.ref20_Put args M R :=
  fn_ok (kf := k_ref20_Put) Try.func13 (by kernel_rfl) (by kernel_rfl) hn (by kernel_rfl) h
/-- portage/portageref20.Check -/
def k_ref20_Check (i : Nat) : List Nat := match i with | 0 => [0, 2] | 1 => [4, 5, 6, 7, 8, 9, 10, 11, 12, 13, 14, 15, 16, 17, 18, 19, 20] | 3 => [22, 23] | 4 => [1, 25, 26] | 5 => [27, 28, 29, 30] | 6 => [31, 32] | 7 => [34, 35, 36] | 8 => [37] | 9 => [3, 39] | 10 => [1, 40, 41, 42, 43, 44, 45, 46, 47, 48, 49, 50, 51, 52, 53, 54] | _ => []
def c_ref20_Check : RCode :=
 .seq (.ops [o 1 (.box 29 (t 0)),
 mv 2 (k 0)] [0, 2])
 (.seq (.seq (.ops [fa 4 0 (t 1),
 l1 5 (t 4),
 o 6 (.ibin .lss (t 5) (k 1)),
 os 7 (.mov (t 6)),
 gf 7 8 (.faddr 0 (t 1)),
 gf 7 9 (.load false 1 (t 8)),
 gf 7 10 (.ibin .gtr (t 9) (k 4)),
 o 11 (.pick (t 7) (kb true) (t 10)),
 os 12 (.mov (t 11)),
 gf 12 13 (.faddr 1 (t 1)),
 gf 12 14 (.load false 1 (t 13)),
 gf 12 15 (.ibin .lss (t 14) (k 0)),
 o 16 (.pick (t 12) (kb true) (t 15)),
 os 17 (.mov (t 16)),
 gf 17 18 (.faddr 1 (t 1)),
 gf 17 19 (.load false 1 (t 18)),
 gf 17 20 (.ibin .gtr (t 19) (k 65535)),
 o 21 (.pick (t 17) (kb true) (t 20))] [4, 5, 6, 7, 8, 9, 10, 11, 12, 13, 14, 15, 16, 17, 18, 19, 20])
 (.cond (t 21)
  (.seq (.ops [mv 2 (k 1)] [])
  (.ret))
  (.skip)))
 (.seq (.seq (.ops [fa 22 0 (t 1),
 l1 23 (t 22),
 o 24 (.ibin .eql (t 23) (k 4))] [22, 23])
 (.cond (t 24)
  (.seq (.ops [la 25 8 (t 1),
  ca 26 F.ref20_routes [(t 25)],
  mv 2 (t 26)] [1, 25, 26])
  (.ret))
  (.skip)))
 (.seq (.ops [fa 27 2 (t 1),
 fa 28 0 (t 27),
 la 29 4 (t 28),
 ca 30 F.ref13_Check [(t 29)],
 mv 3 (t 30)] [27, 28, 29, 30])
 (.seq (.seq (.ops [fa 31 0 (t 1),
 l1 32 (t 31),
 o 33 (.ibin .eql (t 32) (k 1))] [31, 32])
 (.cond (t 33)
  (.ops [fa 34 2 (t 1),
  la 35 5 (t 34),
  ca 36 F.ref13_CheckMsg [(t 35)],
  mv 3 (t 36)] [34, 35, 36])
  (.skip)))
 (.seq (.seq (.ops [mv 37 (t 3),
 o 38 (.ibin .neq (t 37) (k 0))] [37])
 (.cond (t 38)
  (.seq (.ops [mv 39 (t 3),
  mv 2 (t 39)] [3, 39])
  (.ret))
  (.skip)))
 (.seq (.seq (.ops [fa 40 7 (t 1),
 l1 41 (t 40),
 o 42 (.len (t 41)),
 o 43 (.ibin .gtr (t 42) (k 0)),
 os 44 (.mov (t 43)),
 gf 44 45 (.faddr 0 (t 1)),
 gf 44 46 (.load false 1 (t 45)),
 gf 44 47 (.ibin .neq (t 46) (k 1)),
 ⟨(some 48), .mov (t 47), some (44, false), true⟩,
 gt 48 49 (.faddr 2 (t 1)),
 gt 48 50 (.faddr 4 (t 49)),
 gt 48 51 (.load false 1 (t 50)),
 gt 48 52 (.len (t 51)),
 gt 48 53 (.ibin .gtr (t 52) (k 0)),
 gf 44 54 (.pick (t 48) (t 53) (kb false)),
 o 55 (.pick (t 44) (kb true) (t 54))] [1, 40, 41, 42, 43, 44, 45, 46, 47, 48, 49, 50, 51, 52, 53, 54])
 (.cond (t 55)
  (.seq (.ops [mv 2 (k 2)] [])
  (.ret))
  (.skip)))
 (.seq (.ops [mv 2 (k 0)] [])
 (.ret))))))))
def r_ref20_Check : List RRes := [.tmp 2]
theorem fo_ref20_Check {args : List Value} {M : Mem} {R : Value → Mem → Prop} (hn : args.length ≤ 56) (h : vfn Try.prog c_ref20_Check r_ref20_Check args M R) : CallsM Try.prog F.ref20_Check args M R :=
  fn_ok (kf := k_ref20_Check) Try.func14 (by kernel_rfl) (by kernel_rfl) hn (by kernel_rfl) h
/-- portage/portagelaw20.awake -/
def k_law20_awake (i : Nat) : List Nat := match i with | 0 => [0] | 1 => [7, 8, 9, 10] | 2 => [11, 12, 13, 14] | 3 => [2, 15, 16, 17, 18, 19] | 5 => [21, 22, 23, 24, 25, 26] | 6 => [27, 28, 29, 30, 31, 32, 33, 34] | 7 => [1, 3, 4, 5, 6, 35, 36, 37, 38, 39, 40, 41, 42, 43, 44, 45, 46, 47, 48, 49, 50, 51, 52, 53, 54, 55, 56, 57, 58, 59, 60, 61, 62, 63, 64, 65, 66] | _ => []
def c_law20_awake : RCode :=
 .seq (.ops [mv 0 (kb false)] [0])
 (.seq (.ops [ca 8 F.hop_New [(k 2)],
 mv 7 (t 8),
 ex 9 (t 7) 0,
 ex 10 (t 7) 1,
 mv 1 (t 9),
 mv 2 (t 10)] [7, 8, 9, 10])
 (.seq (.ops [o 11 (.build [(i 0), (i 0), (i 0), (i 0)] [(0, 1, (k 1)), (1, 1, (k 3)), (2, 1, (k 1)), (3, 1, (k 1))]),
 o 12 (.mkSl false 5 1 [(u 0)] [(0, 1, (.const (u 97)))]),
 o 13 (.strish (t 12)),
 o 14 (.build [(i 0), (i 0), (i 0), (i 0), sn] [(0, 4, (t 11)), (4, 1, (t 13))]),
 o 3 (.alloc 26 [(i 0), (i 0), (i 0), (i 0), sn]),
 st 5 (t 3) (t 14)] [11, 12, 13, 14])
 (.seq (.seq (.ops [mv 15 (t 2),
 o 16 (.ibin .neq (t 15) (k 0)),
 os 17 (.mov (t 16)),
 gf 17 18 (.mov (t 1)),
 gf 17 19 (.pnil .eql (t 18) (.const (.pointer none))),
 o 20 (.pick (t 17) (kb true) (t 19))] [2, 15, 16, 17, 18, 19])
 (.cond (t 20)
  (.seq (.ops [mv 0 (kb false)] [])
  (.ret))
  (.skip)))
 (.seq (.draw (.take (mv 21 (t 1)) (.take (la 22 5 (t 3)) (.alt (o 23 (.mkSl false 26 1 [(i 0), (i 0), (i 0), (i 0), sn] [(0, 5, (t 22))])) false
  (.alt (ca 24 F.law20_via [(k 2)]) true
   (.alt (o 25 (.mkSl false 3 1 [(i 0)] [(0, 1, (k 2))])) false
    (.alt (ca 26 F.hop_Desk_Plan [(t 21), (t 23), (t 24), (t 25)]) false
     (.take (mv 4 (t 26)) (.done))
     (.none))
    (.none))
   (.alt (o 25 (.mkSl false 3 1 [(i 0)] [(0, 1, (k 2))])) false
    (.alt (ca 24 F.law20_via [(k 2)]) true
     (.alt (ca 26 F.hop_Desk_Plan [(t 21), (t 23), (t 24), (t 25)]) false
      (.take (mv 4 (t 26)) (.done))
      (.none))
     (.none))
    (.none)))
  (.alt (ca 24 F.law20_via [(k 2)]) true
   (.alt (o 23 (.mkSl false 26 1 [(i 0), (i 0), (i 0), (i 0), sn] [(0, 5, (t 22))])) false
    (.alt (o 25 (.mkSl false 3 1 [(i 0)] [(0, 1, (k 2))])) false
     (.alt (ca 26 F.hop_Desk_Plan [(t 21), (t 23), (t 24), (t 25)]) false
      (.take (mv 4 (t 26)) (.done))
      (.none))
     (.none))
    (.alt (o 25 (.mkSl false 3 1 [(i 0)] [(0, 1, (k 2))])) false
     (.alt (o 23 (.mkSl false 26 1 [(i 0), (i 0), (i 0), (i 0), sn] [(0, 5, (t 22))])) false
      (.alt (ca 26 F.hop_Desk_Plan [(t 21), (t 23), (t 24), (t 25)]) false
       (.take (mv 4 (t 26)) (.done))
       (.none))
      (.none))
     (.none)))
   (.alt (o 25 (.mkSl false 3 1 [(i 0)] [(0, 1, (k 2))])) false
    (.alt (o 23 (.mkSl false 26 1 [(i 0), (i 0), (i 0), (i 0), sn] [(0, 5, (t 22))])) false
     (.alt (ca 24 F.law20_via [(k 2)]) true
      (.alt (ca 26 F.hop_Desk_Plan [(t 21), (t 23), (t 24), (t 25)]) false
       (.take (mv 4 (t 26)) (.done))
       (.none))
      (.none))
     (.alt (ca 24 F.law20_via [(k 2)]) true
      (.alt (o 23 (.mkSl false 26 1 [(i 0), (i 0), (i 0), (i 0), sn] [(0, 5, (t 22))])) false
       (.alt (ca 26 F.hop_Desk_Plan [(t 21), (t 23), (t 24), (t 25)]) false
        (.take (mv 4 (t 26)) (.done))
        (.none))
       (.none))
      (.none)))
    (.none)))))) [21, 22, 23, 24, 25, 26])
 (.seq (.ops [fa 28 0 (t 3),
 la 29 4 (t 28),
 o 30 (.build [(i 0), (i 0), (i 0), (i 0), sn] [(0, 4, (t 29))]),
 o 31 (.build [(i 0), (i 0), (i 0), (i 0), (i 0), (i 0), sn, sn] [(0, 1, (k 2)), (2, 5, (t 30))]),
 ca 32 F.hop_Put [(t 31)],
 mv 27 (t 32),
 ex 33 (t 27) 0,
 ex 34 (t 27) 1,
 mv 5 (t 33),
 mv 6 (t 34)] [27, 28, 29, 30, 31, 32, 33, 34])
 (.seq (.ops [mv 35 (t 4),
 o 36 (.len (t 35)),
 o 37 (.ibin .eql (t 36) (k 1)),
 os 38 (.mov (t 37)),
 gt 38 39 (.mov (t 4)),
 gt 38 40 (.iaddr 7 (t 39) (k 0)),
 gt 38 41 (.faddr 0 (t 40)),
 gt 38 42 (.load false 1 (t 41)),
 gt 38 43 (.ibin .eql (t 42) (k 2)),
 o 44 (.pick (t 38) (t 43) (kb false)),
 os 45 (.mov (t 44)),
 gt 45 46 (.mov (t 1)),
 gt 45 47 (.faddr 0 (t 3)),
 gt 45 48 (.load true 4 (t 47)),
 gt 45 49 (.call (fn F.hop_Desk_Ack) [(t 46), (k 1), (k 0), (t 48)]),
 gt 45 50 (.not (t 49)),
 o 51 (.pick (t 45) (t 50) (kb false)),
 os 52 (.mov (t 51)),
 gt 52 53 (.mov (t 1)),
 gt 52 54 (.faddr 0 (t 3)),
 gt 52 55 (.load true 4 (t 54)),
 gt 52 56 (.call (fn F.hop_Desk_Ack) [(t 53), (k 2), (k 0), (t 55)]),
 o 57 (.pick (t 52) (t 56) (kb false)),
 os 58 (.mov (t 57)),
 gt 58 59 (.mov (t 6)),
 gt 58 60 (.ibin .eql (t 59) (k 0)),
 o 61 (.pick (t 58) (t 60) (kb false)),
 os 62 (.mov (t 61)),
 gt 62 63 (.mov (t 5)),
 gt 62 64 (.strOf (t 63)),
 gt 62 65 (.strE .eql (t 64) (.const (.string ⟨#[2, 0, 0, 1, 3, 0, 1, 0, 1]⟩))),
 o 66 (.pick (t 62) (t 65) (kb false)),
 mv 0 (t 66)] [1, 3, 4, 5, 6, 35, 36, 37, 38, 39, 40, 41, 42, 43, 44, 45, 46, 47, 48, 49, 50, 51, 52, 53, 54, 55, 56, 57, 58, 59, 60, 61, 62, 63, 64, 65, 66])
 (.ret)))))))
def r_law20_awake : List RRes := [.tmp 0]
theorem fo_law20_awake {args : List Value} {M : Mem} {R : Value → Mem → Prop} (hn : args.length ≤ 67) (h : vfn Try.prog c_law20_awake r_law20_awake args M R) : CallsM Try.prog F.law20_awake args M R :=
  fn_ok (kf := k_law20_awake) Try.func15 (by kernel_rfl) (by kernel_rfl) hn (by kernel_rfl) h
/-- portage/hop.New -/
def k_hop_New (i : Nat) : List Nat := match i with | 0 => [2, 3] | 1 => [4, 5, 6, 7, 8] | 3 => [0, 10, 11, 12, 13] | _ => []
def c_hop_New : RCode :=
 .seq (.ops [mv 2 (.const (.pointer none)),
 mv 3 (k 0)] [2, 3])
 (.seq (.seq (.ops [mv 4 (t 0),
 o 5 (.ibin .lss (t 4) (k 1)),
 os 6 (.mov (t 5)),
 gf 6 7 (.mov (t 0)),
 gf 6 8 (.ibin .gtr (t 7) (k 64)),
 o 9 (.pick (t 6) (kb true) (t 8))] [4, 5, 6, 7, 8])
 (.cond (t 9)
  (.seq (.ops [mv 2 (.const (.pointer none)),
  mv 3 (k 1)] [])
  (.ret))
  (.skip)))
 (.seq (.ops [mv 10 (t 0),
 o 11 (.mkMap),
 o 12 (.build [(i 0), (i 0), (.map none)] [(0, 1, (t 10)), (2, 1, (t 11))]),
 o 13 (.box 84 (t 12)),
 mv 2 (t 13),
 mv 3 (k 0)] [0, 10, 11, 12, 13])
 (.ret)))
def r_hop_New : List RRes := [.tmp 2, .tmp 3]
theorem fo_hop_New {args : List Value} {M : Mem} {R : Value → Mem → Prop} (hn : args.length ≤ 14) (h : vfn Try.prog c_hop_New r_hop_New args M R) : CallsM Try.prog F.hop_New args M R :=
  fn_ok (kf := k_hop_New) Try.func16 (by kernel_rfl) (by kernel_rfl) hn (by kernel_rfl) h
/-- (*portage/hop.Desk).Plan -/
def k_hop_Desk_Plan (i : Nat) : List Nat := match i with | 0 => [8] | 1 => [15, 16, 17, 18, 19, 20] | 4 => [1] | 6 => [26, 27] | 7 => [28, 29, 30, 31, 32, 33, 34, 35, 36, 37, 38, 39, 40, 41, 42, 43, 44, 45, 46, 47] | 8 => [12, 49, 50, 51, 52, 53, 54, 55, 56, 57, 58] | 9 => [13] | 10 => [60, 61, 62, 63, 64, 65] | 11 => [66, 67, 68, 69, 70, 71, 72, 73, 74, 75, 76, 77] | 12 => [11, 14, 78, 79, 80, 81, 82, 83, 84, 85, 86, 87, 88, 89, 90, 91, 92, 93] | 13 => [94, 95, 96, 97, 98, 99, 100, 101, 102] | 14 => [103] | 15 => [9, 104] | _ => []
def c_hop_Desk_Plan : RCode :=
 .seq (.ops [mv 8 (.const sn)] [8])
 (.seq (.seq (.ops [mv 15 (t 0),
 o 16 (.pnil .eql (t 15) (.const (.pointer none))),
 os 17 (.mov (t 16)),
 gf 17 18 (.mov (t 2)),
 gf 17 19 (.len (t 18)),
 gf 17 20 (.ibin .neq (t 19) (k 64)),
 o 21 (.pick (t 17) (kb true) (t 20))] [15, 16, 17, 18, 19, 20])
 (.cond (t 21)
  (.seq (.ops [mv 8 (.const sn)] [])
  (.ret))
  (.skip)))
 (.seq (.ops [mv 9 (.const sn)] [])
 (.seq (.seq (.ops [mv 22 (t 1),
 o 23 (.len (t 22)),
 mv 24 (k 0)] [1])
 (.block 0 (.loop (.seq (.ops [o 25 (.ibin .lss (t 24) (t 23))] [])
  (.seq (.cond (t 25)
   (.skip)
   (.exit 0))
  (.seq (.block 1 (.seq (.ops [o 26 (.iaddr 5 (t 22) (t 24)),
  la 27 5 (t 26),
  o 11 (.alloc 26 [(i 0), (i 0), (i 0), (i 0), sn]),
  st 5 (t 11) (t 27)] [26, 27])
  (.seq (.seq (.ops [fa 28 0 (t 11),
  fa 29 1 (t 28),
  l1 30 (t 29),
  o 31 (.ibin .lss (t 30) (k 0)),
  os 32 (.mov (t 31)),
  gf 32 33 (.faddr 0 (t 11)),
  gf 32 34 (.faddr 1 (t 33)),
  gf 32 35 (.load false 1 (t 34)),
  gf 32 36 (.ibin .geq (t 35) (k 64)),
  o 37 (.pick (t 32) (kb true) (t 36)),
  os 38 (.mov (t 37)),
  gf 38 39 (.mov (t 3)),
  gf 38 40 (.mov (t 2)),
  gf 38 41 (.faddr 0 (t 11)),
  gf 38 42 (.faddr 1 (t 41)),
  gf 38 43 (.load false 1 (t 42)),
  gf 38 44 (.iaddr 1 (t 40) (t 43)),
  gf 38 45 (.load false 1 (t 44)),
  gf 38 46 (.call (fn F.slices_Contains_int_int) [(t 39), (t 45)]),
  gf 38 47 (.not (t 46)),
  o 48 (.pick (t 38) (kb true) (t 47))] [28, 29, 30, 31, 32, 33, 34, 35, 36, 37, 38, 39, 40, 41, 42, 43, 44, 45, 46, 47])
  (.cond (t 48)
   (.exit 1)
   (.skip)))
  (.seq (.seq (.draw (.take (mv 50 (t 0)) (.take (o 51 (.nilck (t 50))) (.take (fa 52 2 (t 51)) (.take (l1 53 (t 52)) (.take (fa 54 0 (t 11)) (.take (la 55 4 (t 54)) (.take (o 56 (.mget (.agg 4) true (.agg #[(i 0), (i 0), (i 0), (i 0)]) (t 53) (t 55))) (.take (mv 49 (t 56)) (.take (ex 57 (t 49) 0) (.take (ex 58 (t 49) 1) (.alt (o 12 (.alloc 87 [(i 0), (i 0), (i 0), (i 0)])) false
   (.alt (st 4 (t 12) (t 57)) false
    (.take (mv 13 (t 58)) (.done))
    (.none))
   (.none)))))))))))) [12, 49, 50, 51, 52, 53, 54, 55, 56, 57, 58])
  (.seq (.ops [mv 59 (t 13)] [13])
  (.cond (t 59)
   (.exit 1)
   (.skip))))
  (.seq (.ops [mv 60 (t 2),
  fa 61 0 (t 11),
  fa 62 1 (t 61),
  l1 63 (t 62),
  o 64 (.iaddr 1 (t 60) (t 63)),
  l1 65 (t 64),
  mv 14 (t 65)] [60, 61, 62, 63, 64, 65])
  (.seq (.draw (.take (mv 66 (t 0)) (.take (o 67 (.nilck (t 66))) (.take (fa 68 2 (t 67)) (.take (l1 69 (t 68)) (.take (fa 70 0 (t 11)) (.take (la 71 4 (t 70)) (.take (mv 72 (t 14)) (.take (mv 73 (t 0)) (.take (o 74 (.nilck (t 73))) (.take (fa 75 1 (t 74)) (.take (l1 76 (t 75)) (.take (o 77 (.build [(i 0), (i 0), (i 0), (i 0)] [(0, 1, (t 72)), (1, 1, (t 76))])) (.alt (e (.mset (.agg 4) (t 69) (t 71) (t 77))) false
   (.done)
   (.none)))))))))))))) [66, 67, 68, 69, 70, 71, 72, 73, 74, 75, 76, 77])
  (.seq (.draw (.take (mv 78 (t 9)) (.take (mv 79 (t 14)) (.take (mv 80 (t 0)) (.take (o 81 (.nilck (t 80))) (.take (fa 82 1 (t 81)) (.take (l1 83 (t 82)) (.take (fa 84 0 (t 11)) (.take (la 85 4 (t 84)) (.take (fa 87 4 (t 11)) (.take (l1 88 (t 87)) (.alt (o 86 (.mkSl false 5 0 [] [])) false
   (.alt (o 89 (.app 5 1 1 [(u 0)] (t 86) (t 88))) true
    (.take (o 90 (.build [(i 0), (i 0), (i 0), (i 0), sn] [(0, 4, (t 85)), (4, 1, (t 89))])) (.take (o 91 (.build [(i 0), (i 0), (i 0), (i 0), (i 0), (i 0), sn] [(0, 1, (t 79)), (1, 1, (t 83)), (2, 5, (t 90))])) (.alt (o 92 (.mkSl true 46 1 [(i 0), (i 0), (i 0), (i 0), (i 0), (i 0), sn] [(0, 7, (t 91))])) false
     (.alt (o 93 (.app 46 7 72 [(i 0), (i 0), (i 0), (i 0), (i 0), (i 0), sn] (t 78) (t 92))) false
      (.take (mv 9 (t 93)) (.done))
      (.none))
     (.none))))
    (.none))
   (.none)))))))))))) [11, 14, 78, 79, 80, 81, 82, 83, 84, 85, 86, 87, 88, 89, 90, 91, 92, 93])
  (.ops [mv 94 (t 0),
  mv 95 (t 0),
  o 96 (.nilck (t 95)),
  fa 97 1 (t 96),
  l1 98 (t 97),
  ad 99 (t 98) (k 1),
  o 100 (.ibin .rem (t 99) (k 65536)),
  o 101 (.nilck (t 94)),
  fa 102 1 (t 101),
  st 1 (t 102) (t 100)] [94, 95, 96, 97, 98, 99, 100, 101, 102]))))))))
  (.ops [ad 103 (t 24) (k 1),
  mv 24 (t 103)] [103])))))))
 (.seq (.ops [mv 104 (t 9),
 mv 8 (t 104)] [9, 104])
 (.ret)))))
def r_hop_Desk_Plan : List RRes := [.tmp 8]
theorem fo_hop_Desk_Plan {args : List Value} {M : Mem} {R : Value → Mem → Prop} (hn : args.length ≤ 105) (h : vfn Try.prog c_hop_Desk_Plan r_hop_Desk_Plan args M R) : CallsM Try.prog F.hop_Desk_Plan args M R :=
  fn_ok (kf := k_hop_Desk_Plan) Try.func17 (by kernel_rfl) (by kernel_rfl) hn (by kernel_rfl) h
/-- portage/portagelaw20.via -/
def k_law20_via (i : Nat) : List Nat := match i with | 0 => [2] | 1 => [5] | 3 => [6, 7, 8] | 5 => [12, 13, 14, 15] | 4 => [10, 11] | 6 => [3, 16] | _ => []
def c_law20_via : RCode :=
 .seq (.ops [mv 2 (.const sn)] [2])
 (.seq (.ops [o 5 (.mkSlN 3 8 [(i 0)] (k 64) (k 64)),
 mv 3 (t 5)] [5])
 (.seq (.seq (.ops [mv 4 (k 0)] [])
 (.block 0 (.loop (.seq (.seq (.ops [mv 6 (t 4),
  mv 7 (t 3),
  o 8 (.len (t 7)),
  o 9 (.ibin .lss (t 6) (t 8))] [6, 7, 8])
  (.cond (t 9)
   (.skip)
   (.exit 0)))
  (.seq (.block 1 (.ops [mv 12 (t 3),
  mv 13 (t 4),
  mv 14 (t 0),
  o 15 (.iaddr 1 (t 12) (t 13)),
  st 1 (t 15) (t 14)] [12, 13, 14, 15]))
  (.ops [mv 10 (t 4),
  ad 11 (t 10) (k 1),
  mv 4 (t 11)] [10, 11]))))))
 (.seq (.ops [mv 16 (t 3),
 mv 2 (t 16)] [3, 16])
 (.ret))))
def r_law20_via : List RRes := [.tmp 2]
theorem fo_law20_via {args : List Value} {M : Mem} {R : Value → Mem → Prop} (hn : args.length ≤ 17) (h : vfn Try.prog c_law20_via r_law20_via args M R) : CallsM Try.prog F.law20_via args M R :=
  fn_ok (kf := k_law20_via) Try.func18 (by kernel_rfl) (by kernel_rfl) hn (by kernel_rfl) h
/-- (*portage/hop.Desk).Ack -/
def k_hop_Desk_Ack (i : Nat) : List Nat := match i with | 0 => [3, 8] | 1 => [1, 2, 10, 11, 12, 13, 14, 15, 16, 17, 18, 19, 20, 21, 22, 23, 24] | 3 => [0, 7, 26, 27, 28, 29, 30] | 4 => [9, 31] | _ => []
def c_hop_Desk_Ack : RCode :=
 .seq (.ops [o 7 (.box 23 (t 3)),
 mv 8 (kb false)] [3, 8])
 (.seq (.draw (.take (mv 10 (t 0)) (.take (mv 11 (t 1)) (.take (la 12 4 (t 7)) (.alt (ca 13 F.hop_Desk_to [(t 10), (t 11), (t 12)]) true
  (.take (os 14 (.mov (t 13))) (.take (gt 14 15 (.mov (t 0))) (.take (gt 14 16 (.nilck (t 15))) (.take (gt 14 17 (.faddr 2 (t 16))) (.take (gt 14 18 (.load false 1 (t 17))) (.take (gt 14 19 (.load true 4 (t 7))) (.take (gt 14 20 (.mget (.agg 4) false (.agg #[(i 0), (i 0), (i 0), (i 0)]) (t 18) (t 19))) (.take (gt 14 21 (.field false 1 1 (t 20))) (.take (gt 14 22 (.mov (t 2))) (.take (gt 14 23 (.ibin .eql (t 21) (t 22))) (.take (o 24 (.pick (t 14) (t 23) (kb false))) (.take (mv 9 (t 24)) (.done)))))))))))))
  (.none))))) [1, 2, 10, 11, 12, 13, 14, 15, 16, 17, 18, 19, 20, 21, 22, 23, 24])
 (.seq (.seq (.ops [mv 25 (t 9)] [])
 (.cond (t 25)
  (.draw (.take (mv 26 (t 0)) (.take (o 27 (.nilck (t 26))) (.take (fa 28 2 (t 27)) (.take (l1 29 (t 28)) (.take (la 30 4 (t 7)) (.alt (e (.mdel (.agg 4) (t 29) (t 30))) false
   (.done)
   (.none))))))) [0, 7, 26, 27, 28, 29, 30])
  (.skip)))
 (.seq (.ops [mv 31 (t 9),
 mv 8 (t 31)] [9, 31])
 (.ret))))
def r_hop_Desk_Ack : List RRes := [.tmp 8]
theorem fo_hop_Desk_Ack {args : List Value} {M : Mem} {R : Value → Mem → Prop} (hn : args.length ≤ 32) (h : vfn Try.prog c_hop_Desk_Ack r_hop_Desk_Ack args M R) : CallsM Try.prog F.hop_Desk_Ack args M R :=
  fn_ok (kf := k_hop_Desk_Ack) Try.func19 (by kernel_rfl) (by kernel_rfl) hn (by kernel_rfl) h
/-- (*portage/hop.Desk).Refuse -/
def k_hop_Desk_Refuse (i : Nat) : List Nat := match i with | 0 => [3, 8] | 1 => [1, 2, 10, 11, 12, 13, 14, 15, 16, 17, 18, 19, 20, 21, 22, 23, 24] | 3 => [0, 7, 26, 27, 28, 29, 30, 31, 32, 33, 34, 35] | 4 => [9, 36] | _ => []
def c_hop_Desk_Refuse : RCode :=
 .seq (.ops [o 7 (.box 23 (t 3)),
 mv 8 (kb false)] [3, 8])
 (.seq (.draw (.take (mv 10 (t 0)) (.take (mv 11 (t 1)) (.take (la 12 4 (t 7)) (.alt (ca 13 F.hop_Desk_to [(t 10), (t 11), (t 12)]) true
  (.take (os 14 (.mov (t 13))) (.take (gt 14 15 (.mov (t 0))) (.take (gt 14 16 (.nilck (t 15))) (.take (gt 14 17 (.faddr 2 (t 16))) (.take (gt 14 18 (.load false 1 (t 17))) (.take (gt 14 19 (.load true 4 (t 7))) (.take (gt 14 20 (.mget (.agg 4) false (.agg #[(i 0), (i 0), (i 0), (i 0)]) (t 18) (t 19))) (.take (gt 14 21 (.field false 1 1 (t 20))) (.take (gt 14 22 (.mov (t 2))) (.take (gt 14 23 (.ibin .eql (t 21) (t 22))) (.take (o 24 (.pick (t 14) (t 23) (kb false))) (.take (mv 9 (t 24)) (.done)))))))))))))
  (.none))))) [1, 2, 10, 11, 12, 13, 14, 15, 16, 17, 18, 19, 20, 21, 22, 23, 24])
 (.seq (.seq (.ops [mv 25 (t 9)] [])
 (.cond (t 25)
  (.draw (.take (mv 26 (t 0)) (.take (o 27 (.nilck (t 26))) (.take (fa 28 2 (t 27)) (.take (l1 29 (t 28)) (.take (la 30 4 (t 7)) (.take (mv 31 (t 0)) (.take (o 32 (.nilck (t 31))) (.take (fa 33 0 (t 32)) (.take (l1 34 (t 33)) (.take (o 35 (.build [(i 0), (i 0), (i 0), (i 0)] [(0, 1, (k (-1))), (3, 1, (t 34))])) (.alt (e (.mset (.agg 4) (t 29) (t 30) (t 35))) false
   (.done)
   (.none)))))))))))) [0, 7, 26, 27, 28, 29, 30, 31, 32, 33, 34, 35])
  (.skip)))
 (.seq (.ops [mv 36 (t 9),
 mv 8 (t 36)] [9, 36])
 (.ret))))
def r_hop_Desk_Refuse : List RRes := [.tmp 8]
theorem fo_hop_Desk_Refuse {args : List Value} {M : Mem} {R : Value → Mem → Prop} (hn : args.length ≤ 37) (h : vfn Try.prog c_hop_Desk_Refuse r_hop_Desk_Refuse args M R) : CallsM Try.prog F.hop_Desk_Refuse args M R :=
  fn_ok (kf := k_hop_Desk_Refuse) Try.func20 (by kernel_rfl) (by kernel_rfl) hn (by kernel_rfl) h
/-- (*portage/hop.Desk).Is -/
def k_hop_Desk_Is (i : Nat) : List Nat := match i with | 0 => [1, 4] | 1 => [7] | 3 => [0, 3, 9, 10, 11, 12, 13, 14, 15, 16, 17] | 4 => [5, 6, 18, 19, 20, 21, 22, 23] | _ => []
def c_hop_Desk_Is : RCode :=
 .seq (.ops [o 3 (.box 23 (t 1)),
 mv 4 (kb false)] [1, 4])
 (.seq (.seq (.ops [mv 7 (t 0),
 o 8 (.pnil .eql (t 7) (.const (.pointer none)))] [7])
 (.cond (t 8)
  (.seq (.ops [mv 4 (kb false)] [])
  (.ret))
  (.skip)))
 (.seq (.draw (.take (mv 10 (t 0)) (.take (o 11 (.nilck (t 10))) (.take (fa 12 2 (t 11)) (.take (l1 13 (t 12)) (.take (la 14 4 (t 3)) (.take (o 15 (.mget (.agg 4) true (.agg #[(i 0), (i 0), (i 0), (i 0)]) (t 13) (t 14))) (.take (mv 9 (t 15)) (.take (ex 16 (t 9) 0) (.take (ex 17 (t 9) 1) (.alt (o 5 (.alloc 87 [(i 0), (i 0), (i 0), (i 0)])) false
  (.alt (st 4 (t 5) (t 16)) false
   (.take (mv 6 (t 17)) (.done))
   (.none))
  (.none))))))))))) [0, 3, 9, 10, 11, 12, 13, 14, 15, 16, 17])
 (.seq (.ops [mv 18 (t 6),
 os 19 (.mov (t 18)),
 gt 19 20 (.faddr 3 (t 5)),
 gt 19 21 (.load false 1 (t 20)),
 gt 19 22 (.ibin .eql (t 21) (k 0)),
 o 23 (.pick (t 19) (t 22) (kb false)),
 mv 4 (t 23)] [5, 6, 18, 19, 20, 21, 22, 23])
 (.ret))))
def r_hop_Desk_Is : List RRes := [.tmp 4]
theorem fo_hop_Desk_Is {args : List Value} {M : Mem} {R : Value → Mem → Prop} (hn : args.length ≤ 24) (h : vfn Try.prog c_hop_Desk_Is r_hop_Desk_Is args M R) : CallsM Try.prog F.hop_Desk_Is args M R :=
  fn_ok (kf := k_hop_Desk_Is) Try.func21 (by kernel_rfl) (by kernel_rfl) hn (by kernel_rfl) h
/-- (*portage/hop.Desk).Waits -/
def k_hop_Desk_Waits (i : Nat) : List Nat := match i with | 0 => [1, 4] | 1 => [5] | 3 => [0, 3, 7, 8, 9, 10, 11, 12, 13] | _ => []
def c_hop_Desk_Waits : RCode :=
 .seq (.ops [o 3 (.box 23 (t 1)),
 mv 4 (k 0)] [1, 4])
 (.seq (.seq (.ops [mv 5 (t 0),
 o 6 (.pnil .eql (t 5) (.const (.pointer none)))] [5])
 (.cond (t 6)
  (.seq (.ops [mv 4 (k 0)] [])
  (.ret))
  (.skip)))
 (.seq (.draw (.take (mv 7 (t 0)) (.take (o 8 (.nilck (t 7))) (.take (fa 9 2 (t 8)) (.take (l1 10 (t 9)) (.take (la 11 4 (t 3)) (.take (o 12 (.mget (.agg 4) false (.agg #[(i 0), (i 0), (i 0), (i 0)]) (t 10) (t 11))) (.take (o 13 (.field false 3 1 (t 12))) (.take (mv 4 (t 13)) (.done))))))))) [0, 3, 7, 8, 9, 10, 11, 12, 13])
 (.ret)))
def r_hop_Desk_Waits : List RRes := [.tmp 4]
theorem fo_hop_Desk_Waits {args : List Value} {M : Mem} {R : Value → Mem → Prop} (hn : args.length ≤ 14) (h : vfn Try.prog c_hop_Desk_Waits r_hop_Desk_Waits args M R) : CallsM Try.prog F.hop_Desk_Waits args M R :=
  fn_ok (kf := k_hop_Desk_Waits) Try.func22 (by kernel_rfl) (by kernel_rfl) hn (by kernel_rfl) h
/-- (*portage/hop.Desk).Tick -/
def k_hop_Desk_Tick (i : Nat) : List Nat := match i with | 0 => [2] | 1 => [5] | 3 => [7, 8, 9, 10] | 4 => [12] | 5 => [14, 15, 16] | 6 => [17, 18] | 7 => [20, 21, 22, 23] | 8 => [24, 25, 26, 27] | 9 => [28, 29, 30, 31, 32, 33] | 10 => [4, 34, 35, 36, 37, 38, 39, 40, 41, 42, 43, 44, 45] | 11 => [3, 47, 48, 49, 50, 51] | _ => []
def c_hop_Desk_Tick : RCode :=
 .seq (.ops [mv 2 (k 0)] [2])
 (.seq (.seq (.ops [mv 5 (t 0),
 o 6 (.pnil .eql (t 5) (.const (.pointer none)))] [5])
 (.cond (t 6)
  (.seq (.ops [mv 2 (k 7)] [])
  (.ret))
  (.skip)))
 (.seq (.seq (.ops [mv 7 (t 0),
 o 8 (.nilck (t 7)),
 fa 9 2 (t 8),
 l1 10 (t 9),
 o 11 (.mrange (t 10))] [7, 8, 9, 10])
 (.block 0 (.loop (.seq (.ops [o 12 (.mnext (t 11)),
  ex 13 (t 12) 0] [12])
  (.seq (.cond (t 13)
   (.skip)
   (.exit 0))
  (.block 1 (.seq (.ops [o 14 (.mentry (t 11)),
  ex 15 (t 14) 0,
  ex 16 (t 14) 1,
  o 3 (.alloc 23 [(i 0), (i 0), (i 0), (i 0)]),
  o 4 (.alloc 87 [(i 0), (i 0), (i 0), (i 0)]),
  st 4 (t 3) (t 15),
  st 4 (t 4) (t 16)] [14, 15, 16])
  (.seq (.seq (.ops [fa 17 3 (t 4),
  l1 18 (t 17),
  o 19 (.ibin .gtr (t 18) (k 0))] [17, 18])
  (.cond (t 19)
   (.ops [fa 20 3 (t 4),
   l1 21 (t 20),
   o 22 (.ibin .sub (t 21) (k 1)),
   fa 23 3 (t 4),
   st 1 (t 23) (t 22)] [20, 21, 22, 23])
   (.ops [fa 24 2 (t 4),
   l1 25 (t 24),
   ad 26 (t 25) (k 1),
   fa 27 2 (t 4),
   st 1 (t 27) (t 26)] [24, 25, 26, 27])))
  (.seq (.draw (.take (mv 28 (t 0)) (.take (o 29 (.nilck (t 28))) (.take (fa 30 2 (t 29)) (.take (l1 31 (t 30)) (.take (la 32 4 (t 3)) (.take (la 33 4 (t 4)) (.alt (e (.mset (.agg 4) (t 31) (t 32) (t 33))) false
   (.done)
   (.none)))))))) [28, 29, 30, 31, 32, 33])
  (.seq (.ops [fa 34 3 (t 4),
  l1 35 (t 34),
  o 36 (.ibin .eql (t 35) (k 0)),
  os 37 (.mov (t 36)),
  gt 37 38 (.faddr 2 (t 4)),
  gt 37 39 (.load false 1 (t 38)),
  gt 37 40 (.ibin .eql (t 39) (k 0)),
  ⟨(some 41), .mov (t 40), some (37, true), true⟩,
  gf 41 42 (.faddr 2 (t 4)),
  gf 41 43 (.load false 1 (t 42)),
  gf 41 44 (.ibin .eql (t 43) (k 64)),
  gt 37 45 (.pick (t 41) (kb true) (t 44)),
  o 46 (.pick (t 37) (t 45) (kb false))] [4, 34, 35, 36, 37, 38, 39, 40, 41, 42, 43, 44, 45])
  (.cond (t 46)
   (.draw (.take (mv 47 (t 0)) (.take (o 48 (.nilck (t 47))) (.take (fa 49 2 (t 48)) (.take (l1 50 (t 49)) (.take (la 51 4 (t 3)) (.alt (e (.mdel (.agg 4) (t 50) (t 51))) false
    (.done)
    (.none))))))) [3, 47, 48, 49, 50, 51])
   (.skip))))))))))))
 (.seq (.ops [mv 2 (k 0)] [])
 (.ret))))
def r_hop_Desk_Tick : List RRes := [.tmp 2]
theorem fo_hop_Desk_Tick {args : List Value} {M : Mem} {R : Value → Mem → Prop} (hn : args.length ≤ 52) (h : vfn Try.prog c_hop_Desk_Tick r_hop_Desk_Tick args M R) : CallsM Try.prog F.hop_Desk_Tick args M R :=
  fn_ok (kf := k_hop_Desk_Tick) Try.func23 (by kernel_rfl) (by kernel_rfl) hn (by kernel_rfl) h
/-- portage/hop.Get -/
def k_hop_Get (i : Nat) : List Nat := match i with | 0 => [3] | 1 => [9, 10] | 2 => [12] | 3 => [13, 14, 15, 16, 17] | 4 => [18, 19, 20, 21, 22] | 7 => [35, 36, 37] | 8 => [0, 38] | 10 => [43, 44] | 11 => [8, 45, 46, 47, 48, 49, 50, 51] | 12 => [52] | 14 => [54, 55] | 15 => [57, 58, 59] | 16 => [5, 60, 61, 62] | 17 => [0, 63, 64, 65, 66, 67, 68, 69] | 5 => [5, 23, 24, 25] | 6 => [0, 26, 27, 28, 29, 30, 31, 32, 33] | 18 => [6, 70, 71, 72, 73, 74, 75] | 19 => [77] | 20 => [4, 78] | _ => []
def c_hop_Get : RCode :=
 .seq (.ops [o 2 (.alloc 29 [(i 0), (i 0), (i 0), (i 0), (i 0), (i 0), sn, sn]),
 mv 3 (k 0)] [3])
 (.seq (.seq (.ops [mv 9 (t 0),
 o 10 (.len (t 9)),
 o 11 (.ibin .eql (t 10) (k 0))] [9, 10])
 (.cond (t 11)
  (.seq (.ops [o 12 (.build [(i 0), (i 0), (i 0), (i 0), (i 0), (i 0), sn, sn] []),
  st 8 (t 2) (t 12),
  mv 3 (k 2)] [12])
  (.ret))
  (.skip)))
 (.seq (.ops [mv 13 (t 0),
 o 14 (.iaddr 1 (t 13) (k 0)),
 l1 15 (t 14),
 o 16 (.conv .i64 (t 15)),
 o 17 (.build [(i 0), (i 0), (i 0), (i 0), (i 0), (i 0), sn, sn] [(0, 1, (t 16))]),
 o 4 (.alloc 29 [(i 0), (i 0), (i 0), (i 0), (i 0), (i 0), sn, sn]),
 st 8 (t 4) (t 17)] [13, 14, 15, 16, 17])
 (.seq (.ops [mv 19 (t 0),
 ca 20 F.bits_Get [(t 19), (k 1), (k 2)],
 mv 18 (t 20),
 ex 21 (t 18) 0,
 ex 22 (t 18) 1,
 mv 5 (t 21),
 mv 6 (t 22)] [18, 19, 20, 21, 22])
 (.seq (.block 0 (.seq (.ops [fa 35 0 (t 4),
 l1 36 (t 35),
 o 37 (.ibin .eql (t 36) (k 4)),
 mv 34 (t 37)] [35, 36, 37])
 (.cond (t 34)
  (.seq (.seq (.ops [mv 38 (t 0),
  o 39 (.slx 1 (t 38) (some (k 1)) none),
  o 40 (.len (t 39)),
  mv 41 (k 0)] [0, 38])
  (.block 1 (.loop (.seq (.ops [o 42 (.ibin .lss (t 41) (t 40))] [])
   (.seq (.cond (t 42)
    (.skip)
    (.exit 1))
   (.seq (.block 2 (.seq (.ops [o 43 (.iaddr 1 (t 39) (t 41)),
   l1 44 (t 43),
   mv 8 (t 44)] [43, 44])
   (.ops [fa 45 7 (t 4),
   l1 46 (t 45),
   mv 47 (t 8),
   o 48 (.conv .i64 (t 47)),
   o 49 (.mkSl true 3 1 [(i 0)] [(0, 1, (t 48))]),
   o 50 (.app 3 1 8 [(i 0)] (t 46) (t 49)),
   fa 51 7 (t 4),
   st 1 (t 51) (t 50)] [8, 45, 46, 47, 48, 49, 50, 51])))
   (.ops [ad 52 (t 41) (k 1),
   mv 41 (t 52)] [52])))))))
  (.ops [mv 6 (k 0)] []))
  (.seq (.ops [mv 54 (t 6),
  o 55 (.ibin .neq (t 54) (k 0)),
  mv 53 (t 55)] [54, 55])
  (.cond (t 53)
   (.skip)
   (.seq (.ops [fa 57 0 (t 4),
   l1 58 (t 57),
   o 59 (.ibin .eql (t 58) (k 1)),
   mv 56 (t 59)] [57, 58, 59])
   (.cond (t 56)
    (.seq (.ops [mv 60 (t 5),
    o 61 (.conv .i64 (t 60)),
    fa 62 1 (t 4),
    st 1 (t 62) (t 61)] [5, 60, 61, 62])
    (.ops [mv 64 (t 0),
    o 65 (.slx 1 (t 64) (some (k 3)) none),
    ca 66 F.msg_Get [(t 65)],
    mv 63 (t 66),
    ex 67 (t 63) 0,
    ex 68 (t 63) 1,
    fa 69 2 (t 4),
    st 5 (t 69) (t 67),
    mv 6 (t 68)] [0, 63, 64, 65, 66, 67, 68, 69]))
    (.seq (.ops [mv 23 (t 5),
    o 24 (.conv .i64 (t 23)),
    fa 25 1 (t 4),
    st 1 (t 25) (t 24)] [5, 23, 24, 25])
    (.ops [mv 27 (t 0),
    o 28 (.slx 1 (t 27) (some (k 3)) none),
    ca 29 F.msg_GetId [(t 28)],
    mv 26 (t 29),
    ex 30 (t 26) 0,
    ex 31 (t 26) 1,
    fa 32 2 (t 4),
    fa 33 0 (t 32),
    st 4 (t 33) (t 30),
    mv 6 (t 31)] [0, 26, 27, 28, 29, 30, 31, 32, 33])))))))))
 (.seq (.seq (.ops [mv 70 (t 6),
 o 71 (.ibin .neq (t 70) (k 0)),
 os 72 (.mov (t 71)),
 gf 72 73 (.load true 8 (t 4)),
 gf 72 74 (.call (fn F.hop_Check) [(t 73)]),
 gf 72 75 (.ibin .neq (t 74) (k 0)),
 o 76 (.pick (t 72) (kb true) (t 75))] [6, 70, 71, 72, 73, 74, 75])
 (.cond (t 76)
  (.seq (.ops [o 77 (.build [(i 0), (i 0), (i 0), (i 0), (i 0), (i 0), sn, sn] []),
  st 8 (t 2) (t 77),
  mv 3 (k 2)] [77])
  (.ret))
  (.skip)))
 (.seq (.ops [la 78 8 (t 4),
 st 8 (t 2) (t 78),
 mv 3 (k 0)] [4, 78])
 (.ret)))))))
def r_hop_Get : List RRes := [.cell true 8 2, .tmp 3]
theorem fo_hop_Get {args : List Value} {M : Mem} {R : Value → Mem → Prop} (hn : args.length ≤ 79) (h : vfn Try.prog c_hop_Get r_hop_Get args M R) : CallsM Try.prog F.hop_Get args M R :=
  fn_ok (kf := k_hop_Get) Try.func24 (by kernel_rfl) (by kernel_rfl) hn (by kernel_rfl) h
/-- portage/portageref20.Get -/
def k_ref20_Get (i : Nat) : List Nat := match i with | 0 => [3] | 2 => [8] | 4 => [12, 13, 14] | 5 => [15, 16, 17, 18, 19] | 6 => [6, 7, 20, 21, 22, 23, 24, 25, 26, 27] | 7 => [5, 29] | 3 => [10, 11] | 8 => [30] | _ => []
def c_ref20_Get : RCode :=
 .seq (.ops [o 2 (.alloc 29 [(i 0), (i 0), (i 0), (i 0), (i 0), (i 0), sn, sn]),
 mv 3 (k 0)] [3])
 (.seq (.seq (.ops [mv 4 (k 1)] [])
 (.block 0 (.loop (.seq (.seq (.ops [mv 8 (t 4),
  o 9 (.ibin .leq (t 8) (k 4))] [8])
  (.cond (t 9)
   (.skip)
   (.exit 0)))
  (.seq (.block 1 (.seq (.ops [mv 12 (t 0),
  mv 13 (t 4),
  ca 14 F.ref20_guess [(t 12), (t 13)],
  o 5 (.alloc 29 [(i 0), (i 0), (i 0), (i 0), (i 0), (i 0), sn, sn]),
  st 8 (t 5) (t 14)] [12, 13, 14])
  (.seq (.ops [la 16 8 (t 5),
  ca 17 F.ref20_Put [(t 16)],
  mv 15 (t 17),
  ex 18 (t 15) 0,
  ex 19 (t 15) 1,
  mv 6 (t 18),
  mv 7 (t 19)] [15, 16, 17, 18, 19])
  (.seq (.ops [mv 20 (t 7),
  o 21 (.ibin .eql (t 20) (k 0)),
  os 22 (.mov (t 21)),
  gt 22 23 (.mov (t 6)),
  gt 22 24 (.strOf (t 23)),
  gt 22 25 (.mov (t 0)),
  gt 22 26 (.strOf (t 25)),
  gt 22 27 (.strE .eql (t 24) (t 26)),
  o 28 (.pick (t 22) (t 27) (kb false))] [6, 7, 20, 21, 22, 23, 24, 25, 26, 27])
  (.cond (t 28)
   (.seq (.ops [la 29 8 (t 5),
   st 8 (t 2) (t 29),
   mv 3 (k 0)] [5, 29])
   (.ret))
   (.skip))))))
  (.ops [mv 10 (t 4),
  ad 11 (t 10) (k 1),
  mv 4 (t 11)] [10, 11]))))))
 (.seq (.ops [o 30 (.build [(i 0), (i 0), (i 0), (i 0), (i 0), (i 0), sn, sn] []),
 st 8 (t 2) (t 30),
 mv 3 (k 2)] [30])
 (.ret)))
def r_ref20_Get : List RRes := [.cell true 8 2, .tmp 3]
theorem fo_ref20_Get {args : List Value} {M : Mem} {R : Value → Mem → Prop} (hn : args.length ≤ 31) (h : vfn Try.prog c_ref20_Get r_ref20_Get args M R) : CallsM Try.prog F.ref20_Get args M R :=
  fn_ok (kf := k_ref20_Get) Try.func25 (by kernel_rfl) (by kernel_rfl) hn (by kernel_rfl) h
/-- portage/portageref20.Same -/
def k_ref20_Same (i : Nat) : List Nat := match i with | 0 => [0, 1, 4] | 1 => [6, 7, 8, 9, 10, 11, 12, 13, 14, 15, 16, 17, 18, 19, 20, 21, 22, 23, 24, 25, 26, 27, 28, 29, 30, 31, 32, 33] | 4 => [35, 36, 37, 38] | 6 => [42, 43, 44, 45, 46, 47, 48, 49, 50, 51] | 5 => [40, 41] | _ => []
def c_ref20_Same : RCode :=
 .seq (.ops [o 2 (.box 29 (t 0)),
 o 3 (.box 29 (t 1)),
 mv 4 (kb false)] [0, 1, 4])
 (.seq (.seq (.ops [fa 6 0 (t 2),
 l1 7 (t 6),
 fa 8 0 (t 3),
 l1 9 (t 8),
 o 10 (.ibin .neq (t 7) (t 9)),
 os 11 (.mov (t 10)),
 gf 11 12 (.faddr 1 (t 2)),
 gf 11 13 (.load false 1 (t 12)),
 gf 11 14 (.faddr 1 (t 3)),
 gf 11 15 (.load false 1 (t 14)),
 gf 11 16 (.ibin .neq (t 13) (t 15)),
 o 17 (.pick (t 11) (kb true) (t 16)),
 os 18 (.mov (t 17)),
 gf 18 19 (.faddr 2 (t 2)),
 gf 18 20 (.load true 5 (t 19)),
 gf 18 21 (.faddr 2 (t 3)),
 gf 18 22 (.load true 5 (t 21)),
 gf 18 23 (.call (fn F.ref13_Same) [(t 20), (t 22)]),
 gf 18 24 (.not (t 23)),
 o 25 (.pick (t 18) (kb true) (t 24)),
 os 26 (.mov (t 25)),
 gf 26 27 (.faddr 7 (t 2)),
 gf 26 28 (.load false 1 (t 27)),
 gf 26 29 (.len (t 28)),
 gf 26 30 (.faddr 7 (t 3)),
 gf 26 31 (.load false 1 (t 30)),
 gf 26 32 (.len (t 31)),
 gf 26 33 (.ibin .neq (t 29) (t 32)),
 o 34 (.pick (t 26) (kb true) (t 33))] [6, 7, 8, 9, 10, 11, 12, 13, 14, 15, 16, 17, 18, 19, 20, 21, 22, 23, 24, 25, 26, 27, 28, 29, 30, 31, 32, 33])
 (.cond (t 34)
  (.seq (.ops [mv 4 (kb false)] [])
  (.ret))
  (.skip)))
 (.seq (.seq (.ops [mv 5 (k 0)] [])
 (.block 0 (.loop (.seq (.seq (.ops [mv 35 (t 5),
  fa 36 7 (t 2),
  l1 37 (t 36),
  o 38 (.len (t 37)),
  o 39 (.ibin .lss (t 35) (t 38))] [35, 36, 37, 38])
  (.cond (t 39)
   (.skip)
   (.exit 0)))
  (.seq (.block 1 (.seq (.draw (.take (fa 42 7 (t 2)) (.take (l1 43 (t 42)) (.take (mv 44 (t 5)) (.take (o 45 (.iaddr 1 (t 43) (t 44))) (.take (l1 46 (t 45)) (.take (fa 47 7 (t 3)) (.take (l1 48 (t 47)) (.take (mv 49 (t 5)) (.take (o 50 (.iaddr 1 (t 48) (t 49))) (.take (l1 51 (t 50)) (.take (o 52 (.ibin .neq (t 46) (t 51))) (.done)))))))))))) [42, 43, 44, 45, 46, 47, 48, 49, 50, 51])
  (.cond (t 52)
   (.seq (.ops [mv 4 (kb false)] [])
   (.ret))
   (.skip))))
  (.ops [mv 40 (t 5),
  ad 41 (t 40) (k 1),
  mv 5 (t 41)] [40, 41]))))))
 (.seq (.ops [mv 4 (kb true)] [])
 (.ret))))
def r_ref20_Same : List RRes := [.tmp 4]
theorem fo_ref20_Same {args : List Value} {M : Mem} {R : Value → Mem → Prop} (hn : args.length ≤ 53) (h : vfn Try.prog c_ref20_Same r_ref20_Same args M R) : CallsM Try.prog F.ref20_Same args M R :=
  fn_ok (kf := k_ref20_Same) Try.func26 (by kernel_rfl) (by kernel_rfl) hn (by kernel_rfl) h
/-- (*portage/hop.Desk).Reset -/
def k_hop_Desk_Reset (i : Nat) : List Nat := match i with | 0 => [4] | 1 => [1, 8, 9, 10] | 4 => [15, 16] | 5 => [7, 17, 18, 19, 20, 21] | 6 => [22] | 7 => [5, 23, 24] | _ => []
def c_hop_Desk_Reset : RCode :=
 .seq (.ops [mv 4 (k 0)] [4])
 (.seq (.ops [mv 8 (t 0),
 mv 9 (t 1),
 ca 10 F.hop_Desk_Offered [(t 8), (t 9)],
 mv 5 (t 10)] [1, 8, 9, 10])
 (.seq (.seq (.ops [mv 11 (t 5),
 o 12 (.len (t 11)),
 mv 13 (k 0)] [])
 (.block 0 (.loop (.seq (.ops [o 14 (.ibin .lss (t 13) (t 12))] [])
  (.seq (.cond (t 14)
   (.skip)
   (.exit 0))
  (.seq (.block 1 (.seq (.ops [o 15 (.iaddr 4 (t 11) (t 13)),
  la 16 4 (t 15),
  o 7 (.alloc 23 [(i 0), (i 0), (i 0), (i 0)]),
  st 4 (t 7) (t 16)] [15, 16])
  (.draw (.take (mv 17 (t 0)) (.take (o 18 (.nilck (t 17))) (.take (fa 19 2 (t 18)) (.take (l1 20 (t 19)) (.take (la 21 4 (t 7)) (.alt (e (.mdel (.agg 4) (t 20) (t 21))) false
   (.done)
   (.none))))))) [7, 17, 18, 19, 20, 21])))
  (.ops [ad 22 (t 13) (k 1),
  mv 13 (t 22)] [22])))))))
 (.seq (.ops [mv 23 (t 5),
 o 24 (.len (t 23)),
 mv 4 (t 24)] [5, 23, 24])
 (.ret))))
def r_hop_Desk_Reset : List RRes := [.tmp 4]
theorem fo_hop_Desk_Reset {args : List Value} {M : Mem} {R : Value → Mem → Prop} (hn : args.length ≤ 25) (h : vfn Try.prog c_hop_Desk_Reset r_hop_Desk_Reset args M R) : CallsM Try.prog F.hop_Desk_Reset args M R :=
  fn_ok (kf := k_hop_Desk_Reset) Try.func27 (by kernel_rfl) (by kernel_rfl) hn (by kernel_rfl) h
/-- (*portage/hop.Desk).Back -/
def k_hop_Desk_Back (i : Nat) : List Nat := match i with | 0 => [1, 4] | 1 => [6, 7, 8] | 3 => [0, 3, 10, 11, 12, 13, 14] | 4 => [5, 15] | _ => []
def c_hop_Desk_Back : RCode :=
 .seq (.ops [o 3 (.box 23 (t 1)),
 mv 4 (kb false)] [1, 4])
 (.seq (.ops [mv 6 (t 0),
 la 7 4 (t 3),
 ca 8 F.hop_Desk_Is [(t 6), (t 7)],
 mv 5 (t 8)] [6, 7, 8])
 (.seq (.seq (.ops [mv 9 (t 5)] [])
 (.cond (t 9)
  (.draw (.take (mv 10 (t 0)) (.take (o 11 (.nilck (t 10))) (.take (fa 12 2 (t 11)) (.take (l1 13 (t 12)) (.take (la 14 4 (t 3)) (.alt (e (.mdel (.agg 4) (t 13) (t 14))) false
   (.done)
   (.none))))))) [0, 3, 10, 11, 12, 13, 14])
  (.skip)))
 (.seq (.ops [mv 15 (t 5),
 mv 4 (t 15)] [5, 15])
 (.ret))))
def r_hop_Desk_Back : List RRes := [.tmp 4]
theorem fo_hop_Desk_Back {args : List Value} {M : Mem} {R : Value → Mem → Prop} (hn : args.length ≤ 16) (h : vfn Try.prog c_hop_Desk_Back r_hop_Desk_Back args M R) : CallsM Try.prog F.hop_Desk_Back args M R :=
  fn_ok (kf := k_hop_Desk_Back) Try.func28 (by kernel_rfl) (by kernel_rfl) hn (by kernel_rfl) h
/-- portage/portageref20.New -/
def k_ref20_New (i : Nat) : List Nat := match i with | 0 => [3] | 1 => [4, 5, 6, 7, 8] | 2 => [10] | 3 => [0, 11, 12] | _ => []
def c_ref20_New : RCode :=
 .seq (.ops [o 2 (.alloc 65 [(i 0), (i 0), sn]),
 mv 3 (k 0)] [3])
 (.seq (.seq (.ops [mv 4 (t 0),
 o 5 (.ibin .lss (t 4) (k 1)),
 os 6 (.mov (t 5)),
 gf 6 7 (.mov (t 0)),
 gf 6 8 (.ibin .gtr (t 7) (k 64)),
 o 9 (.pick (t 6) (kb true) (t 8))] [4, 5, 6, 7, 8])
 (.cond (t 9)
  (.seq (.ops [o 10 (.build [(i 0), (i 0), sn] []),
  st 3 (t 2) (t 10),
  mv 3 (k 1)] [10])
  (.ret))
  (.skip)))
 (.seq (.ops [mv 11 (t 0),
 o 12 (.build [(i 0), (i 0), sn] [(0, 1, (t 11))]),
 st 3 (t 2) (t 12),
 mv 3 (k 0)] [0, 11, 12])
 (.ret)))
def r_ref20_New : List RRes := [.cell true 3 2, .tmp 3]
theorem fo_ref20_New {args : List Value} {M : Mem} {R : Value → Mem → Prop} (hn : args.length ≤ 13) (h : vfn Try.prog c_ref20_New r_ref20_New args M R) : CallsM Try.prog F.ref20_New args M R :=
  fn_ok (kf := k_ref20_New) Try.func29 (by kernel_rfl) (by kernel_rfl) hn (by kernel_rfl) h
/-- portage/portagelaw20.play -/
def k_law20_play (i : Nat) : List Nat := match i with | 0 => [1, 2, 7] | 1 => [22] | 2 => [25] | 3 => [4, 26, 27, 28, 29, 30, 31, 32, 33, 34, 35, 36] | 4 => [0, 5, 37, 38, 39, 40, 41, 42, 43, 44] | 5 => [9, 45, 46, 47] | 7 => [48, 49, 50, 51, 52, 53] | 10 => [57, 58, 59, 60, 61, 62, 63, 64] | 12 => [68, 69, 70, 71, 72, 73, 74, 75, 76, 77, 78, 79, 80, 81, 82, 83, 84, 85] | 13 => [86, 87, 88, 89, 90, 91, 92, 93, 94, 95, 96, 97, 98, 99, 100, 101, 102, 103] | 11 => [66, 67] | 8 => [55, 56] | 14 => [8, 11, 104, 105] | 15 => [107] | 16 => [0, 4, 108, 109, 110, 111, 112] | 17 => [114] | 18 => [4, 115, 116, 117, 118, 119, 120, 121, 122, 123, 124, 125] | 19 => [0, 5, 14, 15, 126, 127, 128, 129, 130, 131, 132, 133, 134, 135, 136] | 20 => [138] | 21 => [4, 139, 140, 141, 142, 143, 144, 145, 146, 147, 148, 149] | 22 => [0, 5, 16, 17, 150, 151, 152, 153, 154, 155, 156, 157, 158, 159, 160] | 23 => [162] | 24 => [4, 163, 164, 165, 166, 167, 168, 169] | 25 => [0, 5, 18, 19, 170, 171, 172, 173, 174, 175, 176] | 26 => [23, 178] | 27 => [4, 179, 180, 181, 182, 183, 184, 185] | 28 => [0, 5, 20, 21, 186, 187, 188, 189, 190, 191, 192] | 29 => [4, 193] | _ => []
def c_law20_play : RCode :=
 .seq (.ops [o 4 (.box 65 (t 1)),
 o 5 (.box 60 (t 2)),
 o 6 (.alloc 65 [(i 0), (i 0), sn]),
 mv 7 (kb false)] [1, 2, 7])
 (.seq (.seq (.ops [fa 22 0 (t 5),
 l1 23 (t 22)] [22])
 (.block 0 (.seq (.ops [o 25 (.ibin .eql (t 23) (k 0)),
 mv 24 (t 25)] [25])
 (.cond (t 24)
  (.seq (.ops [la 27 3 (t 4),
  fa 28 1 (t 5),
  l1 29 (t 28),
  fa 30 2 (t 5),
  l1 31 (t 30),
  fa 32 3 (t 5),
  l1 33 (t 32),
  ca 34 F.ref20_Plan [(t 27), (t 29), (t 31), (t 33)],
  mv 26 (t 34),
  ex 35 (t 26) 0,
  ex 36 (t 26) 1,
  o 8 (.alloc 65 [(i 0), (i 0), sn]),
  st 3 (t 8) (t 35),
  mv 9 (t 36)] [4, 26, 27, 28, 29, 30, 31, 32, 33, 34, 35, 36])
  (.seq (.ops [mv 37 (t 0),
  fa 38 1 (t 5),
  l1 39 (t 38),
  fa 40 2 (t 5),
  l1 41 (t 40),
  fa 42 3 (t 5),
  l1 43 (t 42),
  ca 44 F.hop_Desk_Plan [(t 37), (t 39), (t 41), (t 43)],
  mv 10 (t 44)] [0, 5, 37, 38, 39, 40, 41, 42, 43, 44])
  (.seq (.ops [mv 45 (t 9),
  mv 46 (t 10),
  ca 47 F.ref20_SameOffers [(t 45), (t 46)],
  mv 11 (t 47)] [9, 45, 46, 47])
  (.seq (.seq (.ops [mv 12 (k 0)] [])
  (.block 1 (.loop (.seq (.seq (.ops [mv 48 (t 12),
   mv 49 (t 10),
   o 50 (.len (t 49)),
   o 51 (.ibin .lss (t 48) (t 50)),
   os 52 (.mov (t 51)),
   gt 52 53 (.mov (t 11)),
   o 54 (.pick (t 52) (t 53) (kb false))] [48, 49, 50, 51, 52, 53])
   (.cond (t 54)
    (.skip)
    (.exit 1)))
   (.seq (.block 2 (.seq (.ops [mv 13 (k 0)] [])
   (.block 3 (.loop (.seq (.seq (.ops [mv 57 (t 13),
    mv 58 (t 10),
    mv 59 (t 12),
    o 60 (.iaddr 7 (t 58) (t 59)),
    fa 61 2 (t 60),
    fa 62 4 (t 61),
    l1 63 (t 62),
    o 64 (.len (t 63)),
    o 65 (.ibin .lss (t 57) (t 64))] [57, 58, 59, 60, 61, 62, 63, 64])
    (.cond (t 65)
     (.skip)
     (.exit 3)))
    (.seq (.block 4 (.seq (.draw (.take (mv 68 (t 10)) (.take (mv 69 (t 12)) (.take (o 70 (.iaddr 7 (t 68) (t 69))) (.take (fa 71 2 (t 70)) (.take (fa 72 4 (t 71)) (.take (l1 73 (t 72)) (.take (mv 74 (t 13)) (.take (mv 75 (t 10)) (.take (mv 76 (t 12)) (.take (o 77 (.iaddr 7 (t 75) (t 76))) (.take (fa 78 2 (t 77)) (.take (fa 79 4 (t 78)) (.take (l1 80 (t 79)) (.take (mv 81 (t 13)) (.take (o 82 (.iaddr 1 (t 80) (t 81))) (.take (l1 83 (t 82)) (.take (o 84 (.ibin .sub (.const (u 255)) (t 83))) (.take (o 85 (.iaddr 1 (t 73) (t 74))) (.alt (st 1 (t 85) (t 84)) false
     (.done)
     (.none)))))))))))))))))))) [68, 69, 70, 71, 72, 73, 74, 75, 76, 77, 78, 79, 80, 81, 82, 83, 84, 85])
    (.draw (.take (mv 86 (t 10)) (.take (mv 87 (t 12)) (.take (o 88 (.iaddr 7 (t 86) (t 87))) (.take (fa 89 2 (t 88)) (.take (fa 90 4 (t 89)) (.take (l1 91 (t 90)) (.take (mv 92 (t 13)) (.take (mv 93 (t 10)) (.take (mv 94 (t 12)) (.take (o 95 (.iaddr 7 (t 93) (t 94))) (.take (fa 96 2 (t 95)) (.take (fa 97 4 (t 96)) (.take (l1 98 (t 97)) (.take (mv 99 (t 13)) (.take (o 100 (.iaddr 1 (t 98) (t 99))) (.take (l1 101 (t 100)) (.take (o 102 (.ibin .sub (.const (u 255)) (t 101))) (.take (o 103 (.iaddr 1 (t 91) (t 92))) (.alt (st 1 (t 103) (t 102)) false
     (.done)
     (.none)))))))))))))))))))) [86, 87, 88, 89, 90, 91, 92, 93, 94, 95, 96, 97, 98, 99, 100, 101, 102, 103])))
    (.ops [mv 66 (t 13),
    ad 67 (t 66) (k 1),
    mv 13 (t 67)] [66, 67])))))))
   (.ops [mv 55 (t 12),
   ad 56 (t 55) (k 1),
   mv 12 (t 56)] [55, 56]))))))
  (.seq (.ops [la 104 3 (t 8),
  mv 105 (t 11),
  st 3 (t 6) (t 104),
  mv 7 (t 105)] [8, 11, 104, 105])
  (.ret))))))
  (.seq (.ops [o 107 (.ibin .eql (t 23) (k 1)),
  mv 106 (t 107)] [107])
  (.cond (t 106)
   (.seq (.ops [la 108 3 (t 4),
   ca 109 F.ref20_Tick [(t 108)],
   mv 110 (t 0),
   ca 111 F.hop_Desk_Tick [(t 110)],
   o 112 (.ibin .eql (t 111) (k 0)),
   st 3 (t 6) (t 109),
   mv 7 (t 112)] [0, 4, 108, 109, 110, 111, 112])
   (.ret))
   (.seq (.ops [o 114 (.ibin .eql (t 23) (k 2)),
   mv 113 (t 114)] [114])
   (.cond (t 113)
    (.seq (.ops [la 116 3 (t 4),
    fa 117 4 (t 5),
    l1 118 (t 117),
    fa 119 5 (t 5),
    l1 120 (t 119),
    fa 121 6 (t 5),
    la 122 4 (t 121),
    ca 123 F.ref20_Ack [(t 116), (t 118), (t 120), (t 122)],
    mv 115 (t 123),
    ex 124 (t 115) 0,
    ex 125 (t 115) 1,
    o 14 (.alloc 65 [(i 0), (i 0), sn]),
    st 3 (t 14) (t 124),
    mv 15 (t 125)] [4, 115, 116, 117, 118, 119, 120, 121, 122, 123, 124, 125])
    (.seq (.draw (.take (la 126 3 (t 14)) (.take (mv 127 (t 0)) (.take (fa 128 4 (t 5)) (.take (l1 129 (t 128)) (.take (fa 130 5 (t 5)) (.take (l1 131 (t 130)) (.take (fa 132 6 (t 5)) (.take (la 133 4 (t 132)) (.take (mv 135 (t 15)) (.alt (ca 134 F.hop_Desk_Ack [(t 127), (t 129), (t 131), (t 133)]) true
     (.take (o 136 (.bbin .eql (t 134) (t 135))) (.alt (st 3 (t 6) (t 126)) false
      (.take (mv 7 (t 136)) (.done))
      (.none)))
     (.none))))))))))) [0, 5, 14, 15, 126, 127, 128, 129, 130, 131, 132, 133, 134, 135, 136])
    (.ret)))
    (.seq (.ops [o 138 (.ibin .eql (t 23) (k 3)),
    mv 137 (t 138)] [138])
    (.cond (t 137)
     (.seq (.ops [la 140 3 (t 4),
     fa 141 4 (t 5),
     l1 142 (t 141),
     fa 143 5 (t 5),
     l1 144 (t 143),
     fa 145 6 (t 5),
     la 146 4 (t 145),
     ca 147 F.ref20_Refuse [(t 140), (t 142), (t 144), (t 146)],
     mv 139 (t 147),
     ex 148 (t 139) 0,
     ex 149 (t 139) 1,
     o 16 (.alloc 65 [(i 0), (i 0), sn]),
     st 3 (t 16) (t 148),
     mv 17 (t 149)] [4, 139, 140, 141, 142, 143, 144, 145, 146, 147, 148, 149])
     (.seq (.draw (.take (la 150 3 (t 16)) (.take (mv 151 (t 0)) (.take (fa 152 4 (t 5)) (.take (l1 153 (t 152)) (.take (fa 154 5 (t 5)) (.take (l1 155 (t 154)) (.take (fa 156 6 (t 5)) (.take (la 157 4 (t 156)) (.take (mv 159 (t 17)) (.alt (ca 158 F.hop_Desk_Refuse [(t 151), (t 153), (t 155), (t 157)]) true
      (.take (o 160 (.bbin .eql (t 158) (t 159))) (.alt (st 3 (t 6) (t 150)) false
       (.take (mv 7 (t 160)) (.done))
       (.none)))
      (.none))))))))))) [0, 5, 16, 17, 150, 151, 152, 153, 154, 155, 156, 157, 158, 159, 160])
     (.ret)))
     (.seq (.ops [o 162 (.ibin .eql (t 23) (k 4)),
     mv 161 (t 162)] [162])
     (.cond (t 161)
      (.seq (.ops [la 164 3 (t 4),
      fa 165 6 (t 5),
      la 166 4 (t 165),
      ca 167 F.ref20_Back [(t 164), (t 166)],
      mv 163 (t 167),
      ex 168 (t 163) 0,
      ex 169 (t 163) 1,
      o 18 (.alloc 65 [(i 0), (i 0), sn]),
      st 3 (t 18) (t 168),
      mv 19 (t 169)] [4, 163, 164, 165, 166, 167, 168, 169])
      (.seq (.draw (.take (la 170 3 (t 18)) (.take (mv 171 (t 0)) (.take (fa 172 6 (t 5)) (.take (la 173 4 (t 172)) (.take (mv 175 (t 19)) (.alt (ca 174 F.hop_Desk_Back [(t 171), (t 173)]) true
       (.take (o 176 (.bbin .eql (t 174) (t 175))) (.alt (st 3 (t 6) (t 170)) false
        (.take (mv 7 (t 176)) (.done))
        (.none)))
       (.none))))))) [0, 5, 18, 19, 170, 171, 172, 173, 174, 175, 176])
      (.ret)))
      (.seq (.ops [o 178 (.ibin .eql (t 23) (k 5)),
      mv 177 (t 178)] [23, 178])
      (.cond (t 177)
       (.seq (.ops [la 180 3 (t 4),
       fa 181 4 (t 5),
       l1 182 (t 181),
       ca 183 F.ref20_Reset [(t 180), (t 182)],
       mv 179 (t 183),
       ex 184 (t 179) 0,
       ex 185 (t 179) 1,
       o 20 (.alloc 65 [(i 0), (i 0), sn]),
       st 3 (t 20) (t 184),
       mv 21 (t 185)] [4, 179, 180, 181, 182, 183, 184, 185])
       (.seq (.draw (.take (la 186 3 (t 20)) (.take (mv 187 (t 0)) (.take (fa 188 4 (t 5)) (.take (l1 189 (t 188)) (.take (mv 191 (t 21)) (.alt (ca 190 F.hop_Desk_Reset [(t 187), (t 189)]) true
        (.take (o 192 (.ibin .eql (t 190) (t 191))) (.alt (st 3 (t 6) (t 186)) false
         (.take (mv 7 (t 192)) (.done))
         (.none)))
        (.none))))))) [0, 5, 20, 21, 186, 187, 188, 189, 190, 191, 192])
       (.ret)))
       (.skip)))))))))))))))
 (.seq (.ops [la 193 3 (t 4),
 st 3 (t 6) (t 193),
 mv 7 (kb true)] [4, 193])
 (.ret)))
def r_law20_play : List RRes := [.cell true 3 6, .tmp 7]
theorem fo_law20_play {args : List Value} {M : Mem} {R : Value → Mem → Prop} (hn : args.length ≤ 194) (h : vfn Try.prog c_law20_play r_law20_play args M R) : CallsM Try.prog F.law20_play args M R :=
  fn_ok (kf := k_law20_play) Try.func30 (by kernel_rfl) (by kernel_rfl) hn (by kernel_rfl) h
/-- portage/portageref20.Waits -/
def k_ref20_Waits (i : Nat) : List Nat := match i with | 0 => [0, 1, 4] | 1 => [3, 6, 7, 8] | 2 => [9] | 4 => [2, 5, 11, 12, 13, 14, 15, 16] | _ => []
def c_ref20_Waits : RCode :=
 .seq (.ops [o 2 (.box 65 (t 0)),
 o 3 (.box 23 (t 1)),
 mv 4 (k 0)] [0, 1, 4])
 (.seq (.ops [la 6 3 (t 2),
 la 7 4 (t 3),
 ca 8 F.ref20_Place [(t 6), (t 7)],
 mv 5 (t 8)] [3, 6, 7, 8])
 (.seq (.seq (.ops [mv 9 (t 5),
 o 10 (.ibin .lss (t 9) (k 0))] [9])
 (.cond (t 10)
  (.seq (.ops [mv 4 (k 0)] [])
  (.ret))
  (.skip)))
 (.seq (.ops [fa 11 2 (t 2),
 l1 12 (t 11),
 mv 13 (t 5),
 o 14 (.iaddr 8 (t 12) (t 13)),
 fa 15 7 (t 14),
 l1 16 (t 15),
 mv 4 (t 16)] [2, 5, 11, 12, 13, 14, 15, 16])
 (.ret))))
def r_ref20_Waits : List RRes := [.tmp 4]
theorem fo_ref20_Waits {args : List Value} {M : Mem} {R : Value → Mem → Prop} (hn : args.length ≤ 17) (h : vfn Try.prog c_ref20_Waits r_ref20_Waits args M R) : CallsM Try.prog F.ref20_Waits args M R :=
  fn_ok (kf := k_ref20_Waits) Try.func31 (by kernel_rfl) (by kernel_rfl) hn (by kernel_rfl) h
/-- portage/portageref20.Is -/
def k_ref20_Is (i : Nat) : List Nat := match i with | 0 => [0, 1, 4] | 1 => [3, 6, 7, 8] | 2 => [2, 5, 9, 10, 11, 12, 13, 14, 15, 16, 17, 18, 19] | _ => []
def c_ref20_Is : RCode :=
 .seq (.ops [o 2 (.box 65 (t 0)),
 o 3 (.box 23 (t 1)),
 mv 4 (kb false)] [0, 1, 4])
 (.seq (.ops [la 6 3 (t 2),
 la 7 4 (t 3),
 ca 8 F.ref20_Place [(t 6), (t 7)],
 mv 5 (t 8)] [3, 6, 7, 8])
 (.seq (.ops [mv 9 (t 5),
 o 10 (.ibin .geq (t 9) (k 0)),
 os 11 (.mov (t 10)),
 gt 11 12 (.faddr 2 (t 2)),
 gt 11 13 (.load false 1 (t 12)),
 gt 11 14 (.mov (t 5)),
 gt 11 15 (.iaddr 8 (t 13) (t 14)),
 gt 11 16 (.faddr 7 (t 15)),
 gt 11 17 (.load false 1 (t 16)),
 gt 11 18 (.ibin .eql (t 17) (k 0)),
 o 19 (.pick (t 11) (t 18) (kb false)),
 mv 4 (t 19)] [2, 5, 9, 10, 11, 12, 13, 14, 15, 16, 17, 18, 19])
 (.ret)))
def r_ref20_Is : List RRes := [.tmp 4]
theorem fo_ref20_Is {args : List Value} {M : Mem} {R : Value → Mem → Prop} (hn : args.length ≤ 20) (h : vfn Try.prog c_ref20_Is r_ref20_Is args M R) : CallsM Try.prog F.ref20_Is args M R :=
  fn_ok (kf := k_ref20_Is) Try.func32 (by kernel_rfl) (by kernel_rfl) hn (by kernel_rfl) h
/-- portage/portageref20.SameIds -/
def k_ref20_SameIds (i : Nat) : List Nat := match i with | 0 => [4] | 1 => [6, 7, 8, 9] | 4 => [11, 12, 13] | 6 => [17, 18, 19, 20, 21, 22, 23, 24] | 5 => [15, 16] | _ => []
def c_ref20_SameIds : RCode :=
 .seq (.ops [mv 4 (kb false)] [4])
 (.seq (.seq (.ops [mv 6 (t 0),
 o 7 (.len (t 6)),
 mv 8 (t 1),
 o 9 (.len (t 8)),
 o 10 (.ibin .neq (t 7) (t 9))] [6, 7, 8, 9])
 (.cond (t 10)
  (.seq (.ops [mv 4 (kb false)] [])
  (.ret))
  (.skip)))
 (.seq (.seq (.ops [mv 5 (k 0)] [])
 (.block 0 (.loop (.seq (.seq (.ops [mv 11 (t 5),
  mv 12 (t 0),
  o 13 (.len (t 12)),
  o 14 (.ibin .lss (t 11) (t 13))] [11, 12, 13])
  (.cond (t 14)
   (.skip)
   (.exit 0)))
  (.seq (.block 1 (.seq (.draw (.take (mv 17 (t 0)) (.take (mv 18 (t 5)) (.take (o 19 (.iaddr 4 (t 17) (t 18))) (.take (la 20 4 (t 19)) (.take (mv 21 (t 1)) (.take (mv 22 (t 5)) (.take (o 23 (.iaddr 4 (t 21) (t 22))) (.take (la 24 4 (t 23)) (.take (o 25 (.aeq .neq 4 (t 20) (t 24))) (.done)))))))))) [17, 18, 19, 20, 21, 22, 23, 24])
  (.cond (t 25)
   (.seq (.ops [mv 4 (kb false)] [])
   (.ret))
   (.skip))))
  (.ops [mv 15 (t 5),
  ad 16 (t 15) (k 1),
  mv 5 (t 16)] [15, 16]))))))
 (.seq (.ops [mv 4 (kb true)] [])
 (.ret))))
def r_ref20_SameIds : List RRes := [.tmp 4]
theorem fo_ref20_SameIds {args : List Value} {M : Mem} {R : Value → Mem → Prop} (hn : args.length ≤ 26) (h : vfn Try.prog c_ref20_SameIds r_ref20_SameIds args M R) : CallsM Try.prog F.ref20_SameIds args M R :=
  fn_ok (kf := k_ref20_SameIds) Try.func33 (by kernel_rfl) (by kernel_rfl) hn (by kernel_rfl) h
/-- (*portage/hop.Desk).Offered -/
def k_hop_Desk_Offered (i : Nat) : List Nat := match i with | 0 => [4] | 1 => [7] | 4 => [9, 10, 11, 12] | 5 => [14] | 6 => [16, 17] | 7 => [18, 19, 20] | 8 => [6, 22, 23, 24, 25] | 9 => [26, 27] | 10 => [5, 28] | _ => []
def c_hop_Desk_Offered : RCode :=
 .seq (.ops [mv 4 (.const sn)] [4])
 (.seq (.seq (.ops [mv 7 (t 0),
 o 8 (.pnil .eql (t 7) (.const (.pointer none)))] [7])
 (.cond (t 8)
  (.seq (.ops [mv 4 (.const sn)] [])
  (.ret))
  (.skip)))
 (.seq (.ops [mv 5 (.const sn)] [])
 (.seq (.seq (.ops [mv 9 (t 0),
 o 10 (.nilck (t 9)),
 fa 11 2 (t 10),
 l1 12 (t 11),
 o 13 (.mrange (t 12))] [9, 10, 11, 12])
 (.block 0 (.loop (.seq (.ops [o 14 (.mnext (t 13)),
  ex 15 (t 14) 0] [14])
  (.seq (.cond (t 15)
   (.skip)
   (.exit 0))
  (.block 1 (.seq (.ops [o 16 (.mentry (t 13)),
  ex 17 (t 16) 0,
  o 6 (.alloc 23 [(i 0), (i 0), (i 0), (i 0)]),
  st 4 (t 6) (t 17)] [16, 17])
  (.seq (.ops [mv 18 (t 0),
  mv 19 (t 1),
  la 20 4 (t 6),
  ca 21 F.hop_Desk_to [(t 18), (t 19), (t 20)]] [18, 19, 20])
  (.cond (t 21)
   (.ops [mv 22 (t 5),
   la 23 4 (t 6),
   o 24 (.mkSl true 23 1 [(i 0), (i 0), (i 0), (i 0)] [(0, 4, (t 23))]),
   o 25 (.app 23 4 32 [(i 0), (i 0), (i 0), (i 0)] (t 22) (t 24)),
   mv 5 (t 25)] [6, 22, 23, 24, 25])
   (.skip))))))))))
 (.seq (.ops [mv 26 (t 5),
 ca 27 F.slices_SortFunc_api_Id_api_Id [(t 26), (fn F.hop_Desk_Offered_1)]] [26, 27])
 (.seq (.ops [mv 28 (t 5),
 mv 4 (t 28)] [5, 28])
 (.ret))))))
def r_hop_Desk_Offered : List RRes := [.tmp 4]
theorem fo_hop_Desk_Offered {args : List Value} {M : Mem} {R : Value → Mem → Prop} (hn : args.length ≤ 29) (h : vfn Try.prog c_hop_Desk_Offered r_hop_Desk_Offered args M R) : CallsM Try.prog F.hop_Desk_Offered args M R :=
  fn_ok (kf := k_hop_Desk_Offered) Try.func34 (by kernel_rfl) (by kernel_rfl) hn (by kernel_rfl) h
/-- portage/portageref20.Offered -/
def k_ref20_Offered (i : Nat) : List Nat := match i with | 0 => [0, 4] | 1 => [7] | 3 => [8, 9, 10, 11] | 5 => [15, 16, 17, 18, 19, 20, 21, 22, 23, 24, 25, 26, 27, 28, 29, 30] | 6 => [32, 33, 34, 35, 36, 37, 38, 39, 40] | 4 => [13, 14] | 7 => [5, 41] | _ => []
def c_ref20_Offered : RCode :=
 .seq (.ops [o 2 (.box 65 (t 0)),
 mv 4 (.const sn)] [0, 4])
 (.seq (.ops [o 7 (.mkSl false 23 0 [] []),
 mv 5 (t 7)] [7])
 (.seq (.seq (.ops [mv 6 (k 0)] [])
 (.block 0 (.loop (.seq (.seq (.ops [mv 8 (t 6),
  fa 9 2 (t 2),
  l1 10 (t 9),
  o 11 (.len (t 10)),
  o 12 (.ibin .lss (t 8) (t 11))] [8, 9, 10, 11])
  (.cond (t 12)
   (.skip)
   (.exit 0)))
  (.seq (.block 1 (.seq (.ops [fa 15 2 (t 2),
  l1 16 (t 15),
  mv 17 (t 6),
  o 18 (.iaddr 8 (t 16) (t 17)),
  fa 19 7 (t 18),
  l1 20 (t 19),
  o 21 (.ibin .eql (t 20) (k 0)),
  os 22 (.mov (t 21)),
  gt 22 23 (.faddr 2 (t 2)),
  gt 22 24 (.load false 1 (t 23)),
  gt 22 25 (.mov (t 6)),
  gt 22 26 (.iaddr 8 (t 24) (t 25)),
  gt 22 27 (.faddr 4 (t 26)),
  gt 22 28 (.load false 1 (t 27)),
  gt 22 29 (.mov (t 1)),
  gt 22 30 (.ibin .eql (t 28) (t 29)),
  o 31 (.pick (t 22) (t 30) (kb false))] [15, 16, 17, 18, 19, 20, 21, 22, 23, 24, 25, 26, 27, 28, 29, 30])
  (.cond (t 31)
   (.ops [mv 32 (t 5),
   fa 33 2 (t 2),
   l1 34 (t 33),
   mv 35 (t 6),
   o 36 (.iaddr 8 (t 34) (t 35)),
   fa 37 0 (t 36),
   la 38 4 (t 37),
   o 39 (.mkSl true 23 1 [(i 0), (i 0), (i 0), (i 0)] [(0, 4, (t 38))]),
   o 40 (.app 23 4 32 [(i 0), (i 0), (i 0), (i 0)] (t 32) (t 39)),
   mv 5 (t 40)] [32, 33, 34, 35, 36, 37, 38, 39, 40])
   (.skip))))
  (.ops [mv 13 (t 6),
  ad 14 (t 13) (k 1),
  mv 6 (t 14)] [13, 14]))))))
 (.seq (.ops [mv 41 (t 5),
 mv 4 (t 41)] [5, 41])
 (.ret))))
def r_ref20_Offered : List RRes := [.tmp 4]
theorem fo_ref20_Offered {args : List Value} {M : Mem} {R : Value → Mem → Prop} (hn : args.length ≤ 42) (h : vfn Try.prog c_ref20_Offered r_ref20_Offered args M R) : CallsM Try.prog F.ref20_Offered args M R :=
  fn_ok (kf := k_ref20_Offered) Try.func35 (by kernel_rfl) (by kernel_rfl) hn (by kernel_rfl) h
/-- portage/msg.CheckMsg -/
def k_msg_CheckMsg (i : Nat) : List Nat := match i with | 0 => [0, 2] | 1 => [4, 5, 6] | 2 => [7] | 3 => [3, 9] | 4 => [10, 11, 12] | 6 => [1, 14, 15, 16] | _ => []
def c_msg_CheckMsg : RCode :=
 .seq (.ops [o 1 (.box 26 (t 0)),
 mv 2 (k 0)] [0, 2])
 (.seq (.seq (.ops [fa 4 0 (t 1),
 la 5 4 (t 4),
 ca 6 F.msg_Check [(t 5)],
 mv 3 (t 6)] [4, 5, 6])
 (.seq (.ops [mv 7 (t 3),
 o 8 (.ibin .neq (t 7) (k 0))] [7])
 (.cond (t 8)
  (.seq (.ops [mv 9 (t 3),
  mv 2 (t 9)] [3, 9])
  (.ret))
  (.skip))))
 (.seq (.seq (.ops [fa 10 4 (t 1),
 l1 11 (t 10),
 o 12 (.len (t 11)),
 o 13 (.ibin .eql (t 12) (k 0))] [10, 11, 12])
 (.cond (t 13)
  (.seq (.ops [mv 2 (k 2)] [])
  (.ret))
  (.skip)))
 (.seq (.seq (.ops [fa 14 4 (t 1),
 l1 15 (t 14),
 o 16 (.len (t 15)),
 o 17 (.ibin .gtr (t 16) (k 48))] [1, 14, 15, 16])
 (.cond (t 17)
  (.seq (.ops [mv 2 (k 3)] [])
  (.ret))
  (.skip)))
 (.seq (.ops [mv 2 (k 0)] [])
 (.ret)))))
def r_msg_CheckMsg : List RRes := [.tmp 2]
theorem fo_msg_CheckMsg {args : List Value} {M : Mem} {R : Value → Mem → Prop} (hn : args.length ≤ 18) (h : vfn Try.prog c_msg_CheckMsg r_msg_CheckMsg args M R) : CallsM Try.prog F.msg_CheckMsg args M R :=
  fn_ok (kf := k_msg_CheckMsg) Try.func36 (by kernel_rfl) (by kernel_rfl) hn (by kernel_rfl) h
/-- portage/msg.Check -/
def k_msg_Check (i : Nat) : List Nat := match i with | 0 => [0, 2] | 2 => [3, 4, 5, 6, 7, 8, 9, 10, 11, 12, 13, 14, 15, 16, 17, 18, 19, 20, 21, 22, 23, 24, 25, 26, 27, 28] | 4 => [1, 30, 31, 32, 33] | _ => []
def c_msg_Check : RCode :=
 .seq (.ops [o 1 (.box 23 (t 0)),
 mv 2 (k 0)] [0, 2])
 (.seq (.ops [mv 3 (fn F.msg_Check_1)] [])
 (.seq (.seq (.ops [mv 4 (t 3),
 fa 5 0 (t 1),
 l1 6 (t 5),
 o 7 (.call (t 4) [(t 6), (k 0), (k 63)]),
 o 8 (.not (t 7)),
 os 9 (.mov (t 8)),
 gf 9 10 (.mov (t 3)),
 gf 9 11 (.faddr 1 (t 1)),
 gf 9 12 (.load false 1 (t 11)),
 gf 9 13 (.call (t 10) [(t 12), (k 0), (k 63)]),
 gf 9 14 (.not (t 13)),
 o 15 (.pick (t 9) (kb true) (t 14)),
 os 16 (.mov (t 15)),
 gf 16 17 (.mov (t 3)),
 gf 16 18 (.faddr 2 (t 1)),
 gf 16 19 (.load false 1 (t 18)),
 gf 16 20 (.call (t 17) [(t 19), (k 1), (k 65535)]),
 gf 16 21 (.not (t 20)),
 o 22 (.pick (t 16) (kb true) (t 21)),
 os 23 (.mov (t 22)),
 gf 23 24 (.mov (t 3)),
 gf 23 25 (.faddr 3 (t 1)),
 gf 23 26 (.load false 1 (t 25)),
 gf 23 27 (.call (t 24) [(t 26), (k 1), (k 65535)]),
 gf 23 28 (.not (t 27)),
 o 29 (.pick (t 23) (kb true) (t 28))] [3, 4, 5, 6, 7, 8, 9, 10, 11, 12, 13, 14, 15, 16, 17, 18, 19, 20, 21, 22, 23, 24, 25, 26, 27, 28])
 (.cond (t 29)
  (.seq (.ops [mv 2 (k 1)] [])
  (.ret))
  (.skip)))
 (.seq (.seq (.ops [fa 30 0 (t 1),
 l1 31 (t 30),
 fa 32 1 (t 1),
 l1 33 (t 32),
 o 34 (.ibin .eql (t 31) (t 33))] [1, 30, 31, 32, 33])
 (.cond (t 34)
  (.seq (.ops [mv 2 (k 2)] [])
  (.ret))
  (.skip)))
 (.seq (.ops [mv 2 (k 0)] [])
 (.ret)))))
def r_msg_Check : List RRes := [.tmp 2]
theorem fo_msg_Check {args : List Value} {M : Mem} {R : Value → Mem → Prop} (hn : args.length ≤ 35) (h : vfn Try.prog c_msg_Check r_msg_Check args M R) : CallsM Try.prog F.msg_Check args M R :=
  fn_ok (kf := k_msg_Check) Try.func37 (by kernel_rfl) (by kernel_rfl) hn (by kernel_rfl) h
/-- portage/msg.Same -/
def k_msg_Same (i : Nat) : List Nat := match i with | 0 => [0, 1, 4] | 1 => [2, 3, 5, 6, 7, 8, 9, 10, 11, 12, 13, 14, 15, 16, 17, 18] | _ => []
def c_msg_Same : RCode :=
 .seq (.ops [o 2 (.box 26 (t 0)),
 o 3 (.box 26 (t 1)),
 mv 4 (kb false)] [0, 1, 4])
 (.seq (.ops [fa 5 0 (t 2),
 la 6 4 (t 5),
 fa 7 0 (t 3),
 la 8 4 (t 7),
 o 9 (.aeq .eql 4 (t 6) (t 8)),
 os 10 (.mov (t 9)),
 gt 10 11 (.faddr 4 (t 2)),
 gt 10 12 (.load false 1 (t 11)),
 gt 10 13 (.strOf (t 12)),
 gt 10 14 (.faddr 4 (t 3)),
 gt 10 15 (.load false 1 (t 14)),
 gt 10 16 (.strOf (t 15)),
 gt 10 17 (.strE .eql (t 13) (t 16)),
 o 18 (.pick (t 10) (t 17) (kb false)),
 mv 4 (t 18)] [2, 3, 5, 6, 7, 8, 9, 10, 11, 12, 13, 14, 15, 16, 17, 18])
 (.ret))
def r_msg_Same : List RRes := [.tmp 4]
theorem fo_msg_Same {args : List Value} {M : Mem} {R : Value → Mem → Prop} (hn : args.length ≤ 19) (h : vfn Try.prog c_msg_Same r_msg_Same args M R) : CallsM Try.prog F.msg_Same args M R :=
  fn_ok (kf := k_msg_Same) Try.func38 (by kernel_rfl) (by kernel_rfl) hn (by kernel_rfl) h
/-- portage/bits.Put -/
def k_bits_Put (i : Nat) : List Nat := match i with | 0 => [6, 7] | 1 => [10, 11, 12, 13, 14] | 3 => [16, 17, 18, 19, 20, 21, 22, 23] | 5 => [0, 25, 26, 27] | 6 => [2, 28, 29] | 7 => [30, 31] | 8 => [32, 33, 34, 35, 36, 37, 38] | 10 => [39, 41] | 11 => [8, 42] | _ => []
def c_bits_Put : RCode :=
 .seq (.ops [mv 6 (.const sn),
 mv 7 (k 0)] [6, 7])
 (.scope (.seq (.seq (.ops [mv 10 (t 2),
 o 11 (.ibin .lss (t 10) (k 1)),
 os 12 (.mov (t 11)),
 gf 12 13 (.mov (t 2)),
 gf 12 14 (.ibin .gtr (t 13) (k 8)),
 o 15 (.pick (t 12) (kb true) (t 14))] [10, 11, 12, 13, 14])
 (.cond (t 15)
  (.seq (.ops [mv 6 (.const sn),
  mv 7 (k 1)] [])
  (.ret))
  (.skip)))
 (.seq (.seq (.ops [mv 16 (t 2),
 o 17 (.ibin .lss (t 16) (k 8)),
 os 18 (.mov (t 17)),
 gt 18 19 (.mov (t 1)),
 gt 18 20 (.mov (t 2)),
 gt 18 21 (.ibin .mul (k 8) (t 20)),
 gt 18 22 (.ibin .shr (t 19) (t 21)),
 gt 18 23 (.ibin .neq (t 22) (.const (.int .u64 0))),
 o 24 (.pick (t 18) (t 23) (kb false))] [16, 17, 18, 19, 20, 21, 22, 23])
 (.cond (t 24)
  (.seq (.ops [mv 6 (.const sn),
  mv 7 (k 3)] [])
  (.ret))
  (.skip)))
 (.seq (.ops [o 25 (.mkSl false 5 0 [] []),
 mv 26 (t 0),
 o 27 (.app 5 1 1 [(u 0)] (t 25) (t 26)),
 mv 8 (t 27)] [0, 25, 26, 27])
 (.seq (.ops [mv 28 (t 2),
 o 29 (.ibin .mul (k 8) (t 28)),
 mv 9 (t 29)] [2, 28, 29])
 (.seq (.skip)
 (.seq (.block 0 (.loop (.block 1 (.seq (.ops [mv 30 (t 9),
  o 31 (.ibin .sub (t 30) (k 8)),
  mv 9 (t 31)] [30, 31])
  (.seq (.ops [mv 32 (t 8),
  mv 33 (t 1),
  mv 34 (t 9),
  o 35 (.ibin .shr (t 33) (t 34)),
  o 36 (.conv .u8 (t 35)),
  o 37 (.mkSl true 5 1 [(u 0)] [(0, 1, (t 36))]),
  o 38 (.app 5 1 1 [(u 0)] (t 32) (t 37)),
  mv 8 (t 38)] [32, 33, 34, 35, 36, 37, 38])
  (.seq (.ops [mv 39 (t 9)] [])
  (.block 2 (.seq (.ops [o 41 (.ibin .eql (t 39) (k 0)),
  mv 40 (t 41)] [39, 41])
  (.cond (t 40)
   (.exit 0)
   (.skip))))))))))
 (.seq (.ops [mv 42 (t 8),
 mv 6 (t 42),
 mv 7 (k 0)] [8, 42])
 (.ret)))))))))
def r_bits_Put : List RRes := [.tmp 6, .tmp 7]
theorem fo_bits_Put {args : List Value} {M : Mem} {R : Value → Mem → Prop} (hn : args.length ≤ 43) (h : vfn Try.prog c_bits_Put r_bits_Put args M R) : CallsM Try.prog F.bits_Put args M R :=
  fn_ok (kf := k_bits_Put) Try.func39 (by kernel_rfl) (by kernel_rfl) hn (by kernel_rfl) h
/-- portage/msg.PutId -/
def k_msg_PutId (i : Nat) : List Nat := match i with | 0 => [0, 2, 3] | 1 => [6, 7] | 2 => [8] | 3 => [4, 10] | 4 => [11, 12, 13, 14, 15, 16, 17] | 5 => [18, 19, 20, 21, 22, 23, 24, 25] | 6 => [1, 26, 27, 28, 29, 30, 31, 32, 33] | 7 => [5, 34] | _ => []
def c_msg_PutId : RCode :=
 .seq (.ops [o 1 (.box 23 (t 0)),
 mv 2 (.const sn),
 mv 3 (k 0)] [0, 2, 3])
 (.seq (.seq (.ops [la 6 4 (t 1),
 ca 7 F.msg_Check [(t 6)],
 mv 4 (t 7)] [6, 7])
 (.seq (.ops [mv 8 (t 4),
 o 9 (.ibin .neq (t 8) (k 0))] [8])
 (.cond (t 9)
  (.seq (.ops [mv 10 (t 4),
  mv 2 (.const sn),
  mv 3 (t 10)] [4, 10])
  (.ret))
  (.skip))))
 (.seq (.ops [fa 11 0 (t 1),
 l1 12 (t 11),
 o 13 (.conv .u8 (t 12)),
 fa 14 1 (t 1),
 l1 15 (t 14),
 o 16 (.conv .u8 (t 15)),
 o 17 (.mkSl false 5 2 [(u 0), (u 0)] [(0, 1, (t 13)), (1, 1, (t 16))]),
 mv 5 (t 17)] [11, 12, 13, 14, 15, 16, 17])
 (.seq (.ops [mv 19 (t 5),
 fa 20 2 (t 1),
 l1 21 (t 20),
 o 22 (.conv .u64 (t 21)),
 ca 23 F.bits_Put [(t 19), (t 22), (k 2)],
 mv 18 (t 23),
 ex 24 (t 18) 0,
 ex 25 (t 18) 1,
 mv 5 (t 24)] [18, 19, 20, 21, 22, 23, 24, 25])
 (.seq (.ops [mv 27 (t 5),
 fa 28 3 (t 1),
 l1 29 (t 28),
 o 30 (.conv .u64 (t 29)),
 ca 31 F.bits_Put [(t 27), (t 30), (k 2)],
 mv 26 (t 31),
 ex 32 (t 26) 0,
 ex 33 (t 26) 1,
 mv 5 (t 32)] [1, 26, 27, 28, 29, 30, 31, 32, 33])
 (.seq (.ops [mv 34 (t 5),
 mv 2 (t 34),
 mv 3 (k 0)] [5, 34])
 (.ret))))))
def r_msg_PutId : List RRes := [.tmp 2, .tmp 3]
theorem fo_msg_PutId {args : List Value} {M : Mem} {R : Value → Mem → Prop} (hn : args.length ≤ 35) (h : vfn Try.prog c_msg_PutId r_msg_PutId args M R) : CallsM Try.prog F.msg_PutId args M R :=
  fn_ok (kf := k_msg_PutId) Try.func40 (by kernel_rfl) (by kernel_rfl) hn (by kernel_rfl) h
/-- portage/portageref13.PutId -/
def k_ref13_PutId (i : Nat) : List Nat := match i with | 0 => [0, 2, 3] | 1 => [4, 5] | 2 => [1, 7, 8] | 3 => [1, 9, 10, 11, 12, 13, 14, 15, 16, 17, 18, 19, 20, 21, 22, 23, 24, 25, 26, 27, 28, 29, 30, 31] | _ => []
def c_ref13_PutId : RCode :=
 .seq (.ops [o 1 (.box 23 (t 0)),
 mv 2 (.const sn),
 mv 3 (k 0)] [0, 2, 3])
 (.seq (.seq (.ops [la 4 4 (t 1),
 ca 5 F.ref13_Check [(t 4)],
 o 6 (.ibin .neq (t 5) (k 0))] [4, 5])
 (.cond (t 6)
  (.seq (.ops [la 7 4 (t 1),
  ca 8 F.ref13_Check [(t 7)],
  mv 2 (.const sn),
  mv 3 (t 8)] [1, 7, 8])
  (.ret))
  (.skip)))
 (.seq (.ops [fa 9 0 (t 1),
 l1 10 (t 9),
 o 11 (.conv .u8 (t 10)),
 fa 12 1 (t 1),
 l1 13 (t 12),
 o 14 (.conv .u8 (t 13)),
 fa 15 2 (t 1),
 l1 16 (t 15),
 o 17 (.ibin .quo (t 16) (k 256)),
 o 18 (.conv .u8 (t 17)),
 fa 19 2 (t 1),
 l1 20 (t 19),
 o 21 (.ibin .rem (t 20) (k 256)),
 o 22 (.conv .u8 (t 21)),
 fa 23 3 (t 1),
 l1 24 (t 23),
 o 25 (.ibin .quo (t 24) (k 256)),
 o 26 (.conv .u8 (t 25)),
 fa 27 3 (t 1),
 l1 28 (t 27),
 o 29 (.ibin .rem (t 28) (k 256)),
 o 30 (.conv .u8 (t 29)),
 o 31 (.mkSl false 5 6 [(u 0), (u 0), (u 0), (u 0), (u 0), (u 0)] [(0, 1, (t 11)), (1, 1, (t 14)), (2, 1, (t 18)), (3, 1, (t 22)), (4, 1, (t 26)), (5, 1, (t 30))]),
 mv 2 (t 31),
 mv 3 (k 0)] [1, 9, 10, 11, 12, 13, 14, 15, 16, 17, 18, 19, 20, 21, 22, 23, 24, 25, 26, 27, 28, 29, 30, 31])
 (.ret)))
def r_ref13_PutId : List RRes := [.tmp 2, .tmp 3]
theorem fo_ref13_PutId {args : List Value} {M : Mem} {R : Value → Mem → Prop} (hn : args.length ≤ 32) (h : vfn Try.prog c_ref13_PutId r_ref13_PutId args M R) : CallsM Try.prog F.ref13_PutId args M R :=
  fn_ok (kf := k_ref13_PutId) Try.func41 (by kernel_rfl) (by kernel_rfl) hn (by kernel_rfl) h
/-- portage/portageref20.routes -/
def k_ref20_routes (i : Nat) : List Nat := match i with | 0 => [0, 2] | 1 => [1, 3, 4, 5, 6, 7, 8, 9, 10, 11, 12, 13, 14, 15, 16, 17] | _ => []
def c_ref20_routes : RCode :=
 .seq (.ops [o 1 (.box 29 (t 0)),
 mv 2 (k 0)] [0, 2])
 (.seq (.seq (.ops [fa 3 7 (t 1),
 l1 4 (t 3),
 ca 5 F.ref18_Right [(t 4)],
 o 6 (.not (t 5)),
 os 7 (.mov (t 6)),
 gf 7 8 (.faddr 2 (t 1)),
 gf 7 9 (.load true 5 (t 8)),
 gf 7 10 (.build [(i 0), (i 0), (i 0), (i 0), sn] []),
 gf 7 11 (.call (fn F.ref13_Same) [(t 9), (t 10)]),
 gf 7 12 (.not (t 11)),
 o 13 (.pick (t 7) (kb true) (t 12)),
 os 14 (.mov (t 13)),
 gf 14 15 (.faddr 1 (t 1)),
 gf 14 16 (.load false 1 (t 15)),
 gf 14 17 (.ibin .neq (t 16) (k 0)),
 o 18 (.pick (t 14) (kb true) (t 17))] [1, 3, 4, 5, 6, 7, 8, 9, 10, 11, 12, 13, 14, 15, 16, 17])
 (.cond (t 18)
  (.seq (.ops [mv 2 (k 2)] [])
  (.ret))
  (.skip)))
 (.seq (.ops [mv 2 (k 0)] [])
 (.ret)))
def r_ref20_routes : List RRes := [.tmp 2]
theorem fo_ref20_routes {args : List Value} {M : Mem} {R : Value → Mem → Prop} (hn : args.length ≤ 19) (h : vfn Try.prog c_ref20_routes r_ref20_routes args M R) : CallsM Try.prog F.ref20_routes args M R :=
  fn_ok (kf := k_ref20_routes) Try.func42 (by kernel_rfl) (by kernel_rfl) hn (by kernel_rfl) h
/-- portage/portageref13.Check -/
def k_ref13_Check (i : Nat) : List Nat := match i with | 0 => [0, 2] | 1 => [3, 4, 5, 6, 7, 8, 9, 10, 11, 12, 13, 14, 15, 16, 17, 18, 19, 20, 21, 22, 23, 24, 25, 26, 27, 28, 29, 30, 31, 32, 33, 34, 35, 36, 37, 38, 39] | 3 => [1, 41, 42, 43, 44] | _ => []
def c_ref13_Check : RCode :=
 .seq (.ops [o 1 (.box 23 (t 0)),
 mv 2 (k 0)] [0, 2])
 (.seq (.seq (.ops [fa 3 0 (t 1),
 l1 4 (t 3),
 o 5 (.ibin .lss (t 4) (k 0)),
 os 6 (.mov (t 5)),
 gf 6 7 (.faddr 0 (t 1)),
 gf 6 8 (.load false 1 (t 7)),
 gf 6 9 (.ibin .geq (t 8) (k 64)),
 o 10 (.pick (t 6) (kb true) (t 9)),
 os 11 (.mov (t 10)),
 gf 11 12 (.faddr 1 (t 1)),
 gf 11 13 (.load false 1 (t 12)),
 gf 11 14 (.ibin .lss (t 13) (k 0)),
 o 15 (.pick (t 11) (kb true) (t 14)),
 os 16 (.mov (t 15)),
 gf 16 17 (.faddr 1 (t 1)),
 gf 16 18 (.load false 1 (t 17)),
 gf 16 19 (.ibin .geq (t 18) (k 64)),
 o 20 (.pick (t 16) (kb true) (t 19)),
 os 21 (.mov (t 20)),
 gf 21 22 (.faddr 2 (t 1)),
 gf 21 23 (.load false 1 (t 22)),
 gf 21 24 (.ibin .lss (t 23) (k 1)),
 o 25 (.pick (t 21) (kb true) (t 24)),
 os 26 (.mov (t 25)),
 gf 26 27 (.faddr 2 (t 1)),
 gf 26 28 (.load false 1 (t 27)),
 gf 26 29 (.ibin .gtr (t 28) (k 65535)),
 o 30 (.pick (t 26) (kb true) (t 29)),
 os 31 (.mov (t 30)),
 gf 31 32 (.faddr 3 (t 1)),
 gf 31 33 (.load false 1 (t 32)),
 gf 31 34 (.ibin .lss (t 33) (k 1)),
 o 35 (.pick (t 31) (kb true) (t 34)),
 os 36 (.mov (t 35)),
 gf 36 37 (.faddr 3 (t 1)),
 gf 36 38 (.load false 1 (t 37)),
 gf 36 39 (.ibin .gtr (t 38) (k 65535)),
 o 40 (.pick (t 36) (kb true) (t 39))] [3, 4, 5, 6, 7, 8, 9, 10, 11, 12, 13, 14, 15, 16, 17, 18, 19, 20, 21, 22, 23, 24, 25, 26, 27, 28, 29, 30, 31, 32, 33, 34, 35, 36, 37, 38, 39])
 (.cond (t 40)
  (.seq (.ops [mv 2 (k 1)] [])
  (.ret))
  (.skip)))
 (.seq (.seq (.ops [fa 41 0 (t 1),
 l1 42 (t 41),
 fa 43 1 (t 1),
 l1 44 (t 43),
 o 45 (.ibin .eql (t 42) (t 44))] [1, 41, 42, 43, 44])
 (.cond (t 45)
  (.seq (.ops [mv 2 (k 2)] [])
  (.ret))
  (.skip)))
 (.seq (.ops [mv 2 (k 0)] [])
 (.ret))))
def r_ref13_Check : List RRes := [.tmp 2]
theorem fo_ref13_Check {args : List Value} {M : Mem} {R : Value → Mem → Prop} (hn : args.length ≤ 46) (h : vfn Try.prog c_ref13_Check r_ref13_Check args M R) : CallsM Try.prog F.ref13_Check args M R :=
  fn_ok (kf := k_ref13_Check) Try.func43 (by kernel_rfl) (by kernel_rfl) hn (by kernel_rfl) h
/-- portage/portageref13.CheckMsg -/
def k_ref13_CheckMsg (i : Nat) : List Nat := match i with | 0 => [0, 2] | 1 => [3, 4, 5] | 2 => [1, 7, 8, 9] | 3 => [10, 11, 12] | 5 => [1, 14, 15, 16] | _ => []
def c_ref13_CheckMsg : RCode :=
 .seq (.ops [o 1 (.box 26 (t 0)),
 mv 2 (k 0)] [0, 2])
 (.seq (.seq (.ops [fa 3 0 (t 1),
 la 4 4 (t 3),
 ca 5 F.ref13_Check [(t 4)],
 o 6 (.ibin .neq (t 5) (k 0))] [3, 4, 5])
 (.cond (t 6)
  (.seq (.ops [fa 7 0 (t 1),
  la 8 4 (t 7),
  ca 9 F.ref13_Check [(t 8)],
  mv 2 (t 9)] [1, 7, 8, 9])
  (.ret))
  (.skip)))
 (.seq (.seq (.ops [fa 10 4 (t 1),
 l1 11 (t 10),
 o 12 (.len (t 11)),
 o 13 (.ibin .eql (t 12) (k 0))] [10, 11, 12])
 (.cond (t 13)
  (.seq (.ops [mv 2 (k 2)] [])
  (.ret))
  (.skip)))
 (.seq (.seq (.ops [fa 14 4 (t 1),
 l1 15 (t 14),
 o 16 (.len (t 15)),
 o 17 (.ibin .gtr (t 16) (k 48))] [1, 14, 15, 16])
 (.cond (t 17)
  (.seq (.ops [mv 2 (k 3)] [])
  (.ret))
  (.skip)))
 (.seq (.ops [mv 2 (k 0)] [])
 (.ret)))))
def r_ref13_CheckMsg : List RRes := [.tmp 2]
theorem fo_ref13_CheckMsg {args : List Value} {M : Mem} {R : Value → Mem → Prop} (hn : args.length ≤ 18) (h : vfn Try.prog c_ref13_CheckMsg r_ref13_CheckMsg args M R) : CallsM Try.prog F.ref13_CheckMsg args M R :=
  fn_ok (kf := k_ref13_CheckMsg) Try.func44 (by kernel_rfl) (by kernel_rfl) hn (by kernel_rfl) h
/-- slices.Contains[[]int,int] -/
def k_slices_Contains_int_int (i : Nat) : List Nat := match i with | 0 => [4] | 1 => [0, 1, 5, 6, 7, 8] | _ => []
def c_slices_Contains_int_int : RCode :=
 .seq (.ops [mv 4 (kb false)] [4])
 (.seq (.ops [mv 5 (t 0),
 mv 6 (t 1),
 ca 7 F.slices_Index_int_int [(t 5), (t 6)],
 o 8 (.ibin .geq (t 7) (k 0)),
 mv 4 (t 8)] [0, 1, 5, 6, 7, 8])
 (.ret))
def r_slices_Contains_int_int : List RRes := [.tmp 4]
theorem fo_slices_Contains_int_int {args : List Value} {M : Mem} {R : Value → Mem → Prop} (hn : args.length ≤ 9) (h : vfn Try.prog c_slices_Contains_int_int r_slices_Contains_int_int args M R) : CallsM Try.prog F.slices_Contains_int_int args M R :=
  fn_ok (kf := k_slices_Contains_int_int) Try.func45 (by kernel_rfl) (by kernel_rfl) hn (by kernel_rfl) h
/-- (*portage/hop.Desk).to -/
def k_hop_Desk_to (i : Nat) : List Nat := match i with | 0 => [2, 6] | 1 => [9] | 3 => [0, 5, 11, 12, 13, 14, 15, 16, 17, 18, 19] | 4 => [1, 7, 8, 20, 21, 22, 23, 24, 25, 26, 27, 28, 29, 30, 31] | _ => []
def c_hop_Desk_to : RCode :=
 .seq (.ops [o 5 (.box 23 (t 2)),
 mv 6 (kb false)] [2, 6])
 (.seq (.seq (.ops [mv 9 (t 0),
 o 10 (.pnil .eql (t 9) (.const (.pointer none)))] [9])
 (.cond (t 10)
  (.seq (.ops [mv 6 (kb false)] [])
  (.ret))
  (.skip)))
 (.seq (.draw (.take (mv 12 (t 0)) (.take (o 13 (.nilck (t 12))) (.take (fa 14 2 (t 13)) (.take (l1 15 (t 14)) (.take (la 16 4 (t 5)) (.take (o 17 (.mget (.agg 4) true (.agg #[(i 0), (i 0), (i 0), (i 0)]) (t 15) (t 16))) (.take (mv 11 (t 17)) (.take (ex 18 (t 11) 0) (.take (ex 19 (t 11) 1) (.alt (o 7 (.alloc 87 [(i 0), (i 0), (i 0), (i 0)])) false
  (.alt (st 4 (t 7) (t 18)) false
   (.take (mv 8 (t 19)) (.done))
   (.none))
  (.none))))))))))) [0, 5, 11, 12, 13, 14, 15, 16, 17, 18, 19])
 (.seq (.ops [mv 20 (t 8),
 os 21 (.mov (t 20)),
 gt 21 22 (.faddr 3 (t 7)),
 gt 21 23 (.load false 1 (t 22)),
 gt 21 24 (.ibin .eql (t 23) (k 0)),
 o 25 (.pick (t 21) (t 24) (kb false)),
 os 26 (.mov (t 25)),
 gt 26 27 (.faddr 0 (t 7)),
 gt 26 28 (.load false 1 (t 27)),
 gt 26 29 (.mov (t 1)),
 gt 26 30 (.ibin .eql (t 28) (t 29)),
 o 31 (.pick (t 26) (t 30) (kb false)),
 mv 6 (t 31)] [1, 7, 8, 20, 21, 22, 23, 24, 25, 26, 27, 28, 29, 30, 31])
 (.ret))))
def r_hop_Desk_to : List RRes := [.tmp 6]
theorem fo_hop_Desk_to {args : List Value} {M : Mem} {R : Value → Mem → Prop} (hn : args.length ≤ 32) (h : vfn Try.prog c_hop_Desk_to r_hop_Desk_to args M R) : CallsM Try.prog F.hop_Desk_to args M R :=
  fn_ok (kf := k_hop_Desk_to) Try.func46 (by kernel_rfl) (by kernel_rfl) hn (by kernel_rfl) h
/-- portage/bits.Get -/
def k_bits_Get (i : Nat) : List Nat := match i with | 0 => [6, 7] | 1 => [11, 12, 13, 14, 15, 16, 17, 18, 19] | 3 => [21, 22, 23, 24, 25, 26, 27, 28, 29, 30, 31] | 6 => [0, 1, 2, 33, 34, 35, 36, 37] | 8 => [42, 43] | 9 => [10, 44, 45, 46, 47, 48] | 10 => [49] | 11 => [8, 50] | _ => []
def c_bits_Get : RCode :=
 .seq (.ops [mv 6 (.const (.int .u64 0)),
 mv 7 (k 0)] [6, 7])
 (.seq (.seq (.ops [mv 11 (t 2),
 o 12 (.ibin .lss (t 11) (k 1)),
 os 13 (.mov (t 12)),
 gf 13 14 (.mov (t 2)),
 gf 13 15 (.ibin .gtr (t 14) (k 8)),
 o 16 (.pick (t 13) (kb true) (t 15)),
 os 17 (.mov (t 16)),
 gf 17 18 (.mov (t 1)),
 gf 17 19 (.ibin .lss (t 18) (k 0)),
 o 20 (.pick (t 17) (kb true) (t 19))] [11, 12, 13, 14, 15, 16, 17, 18, 19])
 (.cond (t 20)
  (.seq (.ops [mv 6 (.const (.int .u64 0)),
  mv 7 (k 1)] [])
  (.ret))
  (.skip)))
 (.seq (.seq (.ops [mv 21 (t 1),
 mv 22 (t 0),
 o 23 (.len (t 22)),
 o 24 (.ibin .gtr (t 21) (t 23)),
 os 25 (.mov (t 24)),
 gf 25 26 (.mov (t 0)),
 gf 25 27 (.len (t 26)),
 gf 25 28 (.mov (t 1)),
 gf 25 29 (.ibin .sub (t 27) (t 28)),
 gf 25 30 (.mov (t 2)),
 gf 25 31 (.ibin .lss (t 29) (t 30)),
 o 32 (.pick (t 25) (kb true) (t 31))] [21, 22, 23, 24, 25, 26, 27, 28, 29, 30, 31])
 (.cond (t 32)
  (.seq (.ops [mv 6 (.const (.int .u64 0)),
  mv 7 (k 2)] [])
  (.ret))
  (.skip)))
 (.seq (.ops [mv 8 (.const (.int .u64 0))] [])
 (.seq (.seq (.ops [mv 33 (t 0),
 mv 34 (t 1),
 mv 35 (t 1),
 mv 36 (t 2),
 ad 37 (t 35) (t 36),
 o 38 (.slx 1 (t 33) (some (t 34)) (some (t 37))),
 o 39 (.len (t 38)),
 mv 40 (k 0)] [0, 1, 2, 33, 34, 35, 36, 37])
 (.block 0 (.loop (.seq (.ops [o 41 (.ibin .lss (t 40) (t 39))] [])
  (.seq (.cond (t 41)
   (.skip)
   (.exit 0))
  (.seq (.block 1 (.seq (.ops [o 42 (.iaddr 1 (t 38) (t 40)),
  l1 43 (t 42),
  mv 10 (t 43)] [42, 43])
  (.ops [mv 44 (t 8),
  o 45 (.ibin .shl (t 44) (.const (.int .u64 8))),
  mv 46 (t 10),
  o 47 (.conv .u64 (t 46)),
  o 48 (.ibin .or (t 45) (t 47)),
  mv 8 (t 48)] [10, 44, 45, 46, 47, 48])))
  (.ops [ad 49 (t 40) (k 1),
  mv 40 (t 49)] [49])))))))
 (.seq (.ops [mv 50 (t 8),
 mv 6 (t 50),
 mv 7 (k 0)] [8, 50])
 (.ret))))))
def r_bits_Get : List RRes := [.tmp 6, .tmp 7]
theorem fo_bits_Get {args : List Value} {M : Mem} {R : Value → Mem → Prop} (hn : args.length ≤ 51) (h : vfn Try.prog c_bits_Get r_bits_Get args M R) : CallsM Try.prog F.bits_Get args M R :=
  fn_ok (kf := k_bits_Get) Try.func47 (by kernel_rfl) (by kernel_rfl) hn (by kernel_rfl) h
/-- portage/msg.Get -/
def k_msg_Get (i : Nat) : List Nat := match i with | 0 => [3] | 1 => [7, 8] | 2 => [10] | 3 => [11, 12, 13, 14, 15, 16] | 4 => [17] | 5 => [5, 19, 20] | 6 => [0, 4, 21, 22, 23, 24, 25, 26] | 7 => [27, 28] | 8 => [30] | 9 => [6, 31] | _ => []
def c_msg_Get : RCode :=
 .seq (.ops [o 2 (.alloc 26 [(i 0), (i 0), (i 0), (i 0), sn]),
 mv 3 (k 0)] [3])
 (.seq (.seq (.ops [mv 7 (t 0),
 o 8 (.len (t 7)),
 o 9 (.ibin .lss (t 8) (k 6))] [7, 8])
 (.cond (t 9)
  (.seq (.ops [o 10 (.build [(i 0), (i 0), (i 0), (i 0), sn] []),
  st 5 (t 2) (t 10),
  mv 3 (k 2)] [10])
  (.ret))
  (.skip)))
 (.seq (.ops [mv 12 (t 0),
 o 13 (.slx 1 (t 12) none (some (k 6))),
 ca 14 F.msg_GetId [(t 13)],
 mv 11 (t 14),
 ex 15 (t 11) 0,
 ex 16 (t 11) 1,
 o 4 (.alloc 23 [(i 0), (i 0), (i 0), (i 0)]),
 st 4 (t 4) (t 15),
 mv 5 (t 16)] [11, 12, 13, 14, 15, 16])
 (.seq (.seq (.ops [mv 17 (t 5),
 o 18 (.ibin .neq (t 17) (k 0))] [17])
 (.cond (t 18)
  (.seq (.ops [o 19 (.build [(i 0), (i 0), (i 0), (i 0), sn] []),
  mv 20 (t 5),
  st 5 (t 2) (t 19),
  mv 3 (t 20)] [5, 19, 20])
  (.ret))
  (.skip)))
 (.seq (.draw (.take (la 21 4 (t 4)) (.take (mv 23 (t 0)) (.take (o 24 (.slx 1 (t 23) (some (k 6)) none)) (.alt (o 22 (.mkSl false 5 0 [] [])) false
  (.alt (o 25 (.app 5 1 1 [(u 0)] (t 22) (t 24))) true
   (.take (o 26 (.build [(i 0), (i 0), (i 0), (i 0), sn] [(0, 4, (t 21)), (4, 1, (t 25))])) (.alt (o 6 (.alloc 26 [(i 0), (i 0), (i 0), (i 0), sn])) false
    (.alt (st 5 (t 6) (t 26)) false
     (.done)
     (.none))
    (.none)))
   (.alt (o 6 (.alloc 26 [(i 0), (i 0), (i 0), (i 0), sn])) false
    (.alt (o 25 (.app 5 1 1 [(u 0)] (t 22) (t 24))) true
     (.take (o 26 (.build [(i 0), (i 0), (i 0), (i 0), sn] [(0, 4, (t 21)), (4, 1, (t 25))])) (.alt (st 5 (t 6) (t 26)) false
      (.done)
      (.none)))
     (.none))
    (.none)))
  (.alt (o 6 (.alloc 26 [(i 0), (i 0), (i 0), (i 0), sn])) false
   (.alt (o 22 (.mkSl false 5 0 [] [])) false
    (.alt (o 25 (.app 5 1 1 [(u 0)] (t 22) (t 24))) true
     (.take (o 26 (.build [(i 0), (i 0), (i 0), (i 0), sn] [(0, 4, (t 21)), (4, 1, (t 25))])) (.alt (st 5 (t 6) (t 26)) false
      (.done)
      (.none)))
     (.none))
    (.none))
   (.none)))))) [0, 4, 21, 22, 23, 24, 25, 26])
 (.seq (.seq (.ops [la 27 5 (t 6),
 ca 28 F.msg_CheckMsg [(t 27)],
 o 29 (.ibin .neq (t 28) (k 0))] [27, 28])
 (.cond (t 29)
  (.seq (.ops [o 30 (.build [(i 0), (i 0), (i 0), (i 0), sn] []),
  st 5 (t 2) (t 30),
  mv 3 (k 2)] [30])
  (.ret))
  (.skip)))
 (.seq (.ops [la 31 5 (t 6),
 st 5 (t 2) (t 31),
 mv 3 (k 0)] [6, 31])
 (.ret)))))))
def r_msg_Get : List RRes := [.cell true 5 2, .tmp 3]
theorem fo_msg_Get {args : List Value} {M : Mem} {R : Value → Mem → Prop} (hn : args.length ≤ 32) (h : vfn Try.prog c_msg_Get r_msg_Get args M R) : CallsM Try.prog F.msg_Get args M R :=
  fn_ok (kf := k_msg_Get) Try.func48 (by kernel_rfl) (by kernel_rfl) hn (by kernel_rfl) h
/-- portage/msg.GetId -/
def k_msg_GetId (i : Nat) : List Nat := match i with | 0 => [3] | 1 => [9, 10] | 2 => [12] | 3 => [5, 13, 14, 15, 16, 17] | 4 => [7, 18, 19, 20, 21, 22] | 5 => [0, 4, 6, 23, 24, 25, 26, 27, 28, 29, 30, 31, 32, 33, 34, 35] | 6 => [36, 37] | 7 => [39] | 8 => [8, 40] | _ => []
def c_msg_GetId : RCode :=
 .seq (.ops [o 2 (.alloc 23 [(i 0), (i 0), (i 0), (i 0)]),
 mv 3 (k 0)] [3])
 (.seq (.seq (.ops [mv 9 (t 0),
 o 10 (.len (t 9)),
 o 11 (.ibin .neq (t 10) (k 6))] [9, 10])
 (.cond (t 11)
  (.seq (.ops [o 12 (.build [(i 0), (i 0), (i 0), (i 0)] []),
  st 4 (t 2) (t 12),
  mv 3 (k 2)] [12])
  (.ret))
  (.skip)))
 (.seq (.ops [mv 14 (t 0),
 ca 15 F.bits_Get [(t 14), (k 2), (k 2)],
 mv 13 (t 15),
 ex 16 (t 13) 0,
 ex 17 (t 13) 1,
 mv 4 (t 16),
 mv 5 (t 17)] [5, 13, 14, 15, 16, 17])
 (.seq (.ops [mv 19 (t 0),
 ca 20 F.bits_Get [(t 19), (k 4), (k 2)],
 mv 18 (t 20),
 ex 21 (t 18) 0,
 ex 22 (t 18) 1,
 mv 6 (t 21),
 mv 7 (t 22)] [7, 18, 19, 20, 21, 22])
 (.seq (.draw (.take (mv 23 (t 0)) (.take (o 24 (.iaddr 1 (t 23) (k 0))) (.take (l1 25 (t 24)) (.take (o 26 (.conv .i64 (t 25))) (.take (mv 27 (t 0)) (.take (o 28 (.iaddr 1 (t 27) (k 1))) (.take (l1 29 (t 28)) (.take (o 30 (.conv .i64 (t 29))) (.take (mv 31 (t 4)) (.take (o 32 (.conv .i64 (t 31))) (.take (mv 33 (t 6)) (.take (o 34 (.conv .i64 (t 33))) (.take (o 35 (.build [(i 0), (i 0), (i 0), (i 0)] [(0, 1, (t 26)), (1, 1, (t 30)), (2, 1, (t 32)), (3, 1, (t 34))])) (.alt (o 8 (.alloc 23 [(i 0), (i 0), (i 0), (i 0)])) false
  (.alt (st 4 (t 8) (t 35)) false
   (.done)
   (.none))
  (.none))))))))))))))) [0, 4, 6, 23, 24, 25, 26, 27, 28, 29, 30, 31, 32, 33, 34, 35])
 (.seq (.seq (.ops [la 36 4 (t 8),
 ca 37 F.msg_Check [(t 36)],
 o 38 (.ibin .neq (t 37) (k 0))] [36, 37])
 (.cond (t 38)
  (.seq (.ops [o 39 (.build [(i 0), (i 0), (i 0), (i 0)] []),
  st 4 (t 2) (t 39),
  mv 3 (k 2)] [39])
  (.ret))
  (.skip)))
 (.seq (.ops [la 40 4 (t 8),
 st 4 (t 2) (t 40),
 mv 3 (k 0)] [8, 40])
 (.ret)))))))
def r_msg_GetId : List RRes := [.cell true 4 2, .tmp 3]
theorem fo_msg_GetId {args : List Value} {M : Mem} {R : Value → Mem → Prop} (hn : args.length ≤ 41) (h : vfn Try.prog c_msg_GetId r_msg_GetId args M R) : CallsM Try.prog F.msg_GetId args M R :=
  fn_ok (kf := k_msg_GetId) Try.func49 (by kernel_rfl) (by kernel_rfl) hn (by kernel_rfl) h
/-- portage/portageref20.guess -/
def k_ref20_guess (i : Nat) : List Nat := match i with | 1 => [9, 10] | 2 => [1, 11] | 4 => [13, 14, 15] | 6 => [19, 20, 21, 22, 23, 24, 25, 26, 27, 28] | 5 => [17, 18] | 7 => [5, 29] | 8 => [30, 31] | 9 => [8, 33, 34, 35, 36, 37] | 10 => [7, 38, 39, 40] | 11 => [41, 42, 43, 44, 45, 46, 47, 48] | 12 => [0, 49, 50, 51, 52, 53, 54] | 13 => [5, 55] | _ => []
def c_ref20_guess : RCode :=
 .seq (.ops [o 4 (.alloc 29 [(i 0), (i 0), (i 0), (i 0), (i 0), (i 0), sn, sn])] [])
 (.seq (.ops [mv 9 (t 1),
 o 10 (.build [(i 0), (i 0), (i 0), (i 0), (i 0), (i 0), sn, sn] [(0, 1, (t 9))]),
 o 5 (.alloc 29 [(i 0), (i 0), (i 0), (i 0), (i 0), (i 0), sn, sn]),
 st 8 (t 5) (t 10)] [9, 10])
 (.seq (.seq (.ops [mv 11 (t 1),
 o 12 (.ibin .eql (t 11) (k 4))] [1, 11])
 (.cond (t 12)
  (.seq (.seq (.ops [mv 6 (k 1)] [])
  (.block 0 (.loop (.seq (.seq (.ops [mv 13 (t 6),
   mv 14 (t 0),
   o 15 (.len (t 14)),
   o 16 (.ibin .lss (t 13) (t 15))] [13, 14, 15])
   (.cond (t 16)
    (.skip)
    (.exit 0)))
   (.seq (.block 1 (.draw (.take (fa 19 7 (t 5)) (.take (l1 20 (t 19)) (.take (mv 21 (t 0)) (.take (mv 22 (t 6)) (.take (o 23 (.iaddr 1 (t 21) (t 22))) (.take (l1 24 (t 23)) (.take (o 25 (.conv .i64 (t 24))) (.alt (o 26 (.mkSl true 3 1 [(i 0)] [(0, 1, (t 25))])) false
    (.alt (o 27 (.app 3 1 8 [(i 0)] (t 20) (t 26))) false
     (.take (fa 28 7 (t 5)) (.alt (st 1 (t 28) (t 27)) false
      (.done)
      (.none)))
     (.none))
    (.none))))))))) [19, 20, 21, 22, 23, 24, 25, 26, 27, 28]))
   (.ops [mv 17 (t 6),
   ad 18 (t 17) (k 1),
   mv 6 (t 18)] [17, 18]))))))
  (.seq (.ops [la 29 8 (t 5),
  st 8 (t 4) (t 29)] [5, 29])
  (.ret)))
  (.skip)))
 (.seq (.seq (.ops [mv 30 (t 0),
 o 31 (.len (t 30)),
 o 32 (.ibin .geq (t 31) (k 9))] [30, 31])
 (.cond (t 32)
  (.seq (.ops [mv 34 (t 0),
  ca 35 F.ref01_Get [(t 34), (k 1), (k 2)],
  mv 33 (t 35),
  ex 36 (t 33) 0,
  ex 37 (t 33) 1,
  mv 7 (t 36),
  mv 8 (t 37)] [8, 33, 34, 35, 36, 37])
  (.seq (.ops [mv 38 (t 7),
  o 39 (.conv .i64 (t 38)),
  fa 40 1 (t 5),
  st 1 (t 40) (t 39)] [7, 38, 39, 40])
  (.seq (.ops [mv 42 (t 0),
  o 43 (.slx 1 (t 42) (some (k 3)) (some (k 9))),
  ca 44 F.ref13_GetId [(t 43)],
  mv 41 (t 44),
  ex 45 (t 41) 0,
  ex 46 (t 41) 1,
  fa 47 2 (t 5),
  fa 48 0 (t 47),
  st 4 (t 48) (t 45)] [41, 42, 43, 44, 45, 46, 47, 48])
  (.ops [o 49 (.mkSl false 5 0 [] []),
  mv 50 (t 0),
  o 51 (.slx 1 (t 50) (some (k 9)) none),
  o 52 (.app 5 1 1 [(u 0)] (t 49) (t 51)),
  fa 53 2 (t 5),
  fa 54 4 (t 53),
  st 1 (t 54) (t 52)] [0, 49, 50, 51, 52, 53, 54]))))
  (.skip)))
 (.seq (.ops [la 55 8 (t 5),
 st 8 (t 4) (t 55)] [5, 55])
 (.ret)))))
def r_ref20_guess : List RRes := [.cell true 8 4]
theorem fo_ref20_guess {args : List Value} {M : Mem} {R : Value → Mem → Prop} (hn : args.length ≤ 56) (h : vfn Try.prog c_ref20_guess r_ref20_guess args M R) : CallsM Try.prog F.ref20_guess args M R :=
  fn_ok (kf := k_ref20_guess) Try.func50 (by kernel_rfl) (by kernel_rfl) hn (by kernel_rfl) h
/-- portage/portageref13.Same -/
def k_ref13_Same (i : Nat) : List Nat := match i with | 0 => [0, 1, 4] | 1 => [2, 3, 5, 6, 7, 8, 9, 10, 11, 12, 13, 14, 15, 16, 17, 18] | _ => []
def c_ref13_Same : RCode :=
 .seq (.ops [o 2 (.box 26 (t 0)),
 o 3 (.box 26 (t 1)),
 mv 4 (kb false)] [0, 1, 4])
 (.seq (.ops [fa 5 0 (t 2),
 la 6 4 (t 5),
 fa 7 0 (t 3),
 la 8 4 (t 7),
 o 9 (.aeq .eql 4 (t 6) (t 8)),
 os 10 (.mov (t 9)),
 gt 10 11 (.faddr 4 (t 2)),
 gt 10 12 (.load false 1 (t 11)),
 gt 10 13 (.strOf (t 12)),
 gt 10 14 (.faddr 4 (t 3)),
 gt 10 15 (.load false 1 (t 14)),
 gt 10 16 (.strOf (t 15)),
 gt 10 17 (.strE .eql (t 13) (t 16)),
 o 18 (.pick (t 10) (t 17) (kb false)),
 mv 4 (t 18)] [2, 3, 5, 6, 7, 8, 9, 10, 11, 12, 13, 14, 15, 16, 17, 18])
 (.ret))
def r_ref13_Same : List RRes := [.tmp 4]
theorem fo_ref13_Same {args : List Value} {M : Mem} {R : Value → Mem → Prop} (hn : args.length ≤ 19) (h : vfn Try.prog c_ref13_Same r_ref13_Same args M R) : CallsM Try.prog F.ref13_Same args M R :=
  fn_ok (kf := k_ref13_Same) Try.func51 (by kernel_rfl) (by kernel_rfl) hn (by kernel_rfl) h
/-- portage/portageref20.Plan -/
def k_ref20_Plan (i : Nat) : List Nat := match i with | 0 => [0, 9] | 1 => [13] | 2 => [14, 15] | 3 => [4, 10, 17, 18] | 5 => [19, 20, 21] | 7 => [25, 26, 27, 28] | 8 => [29, 30, 31, 32, 33, 34, 35, 36, 37, 38, 39, 40, 41, 42, 43, 44, 45, 46, 47, 48, 49, 50] | 9 => [52, 53, 54, 55, 56, 57, 58, 59, 60, 61, 62, 63, 64] | 10 => [12, 65, 66, 67, 68, 69, 70, 71, 72, 73, 74, 75, 76, 77] | 11 => [78, 79, 80, 81] | 12 => [82, 83] | 13 => [85] | 6 => [23, 24] | 14 => [4, 10, 86, 87] | _ => []
def c_ref20_Plan : RCode :=
 .seq (.ops [o 4 (.box 65 (t 0)),
 o 8 (.alloc 65 [(i 0), (i 0), sn]),
 mv 9 (.const sn)] [0, 9])
 (.seq (.ops [o 13 (.mkSl false 46 0 [] []),
 mv 10 (t 13)] [13])
 (.seq (.seq (.ops [mv 14 (t 2),
 o 15 (.len (t 14)),
 o 16 (.ibin .neq (t 15) (k 64))] [14, 15])
 (.cond (t 16)
  (.seq (.ops [la 17 3 (t 4),
  mv 18 (t 10),
  st 3 (t 8) (t 17),
  mv 9 (t 18)] [4, 10, 17, 18])
  (.ret))
  (.skip)))
 (.seq (.seq (.ops [mv 11 (k 0)] [])
 (.block 0 (.loop (.seq (.seq (.ops [mv 19 (t 11),
  mv 20 (t 1),
  o 21 (.len (t 20)),
  o 22 (.ibin .lss (t 19) (t 21))] [19, 20, 21])
  (.cond (t 22)
   (.skip)
   (.exit 0)))
  (.seq (.block 1 (.seq (.ops [mv 25 (t 1),
  mv 26 (t 11),
  o 27 (.iaddr 5 (t 25) (t 26)),
  la 28 5 (t 27),
  o 12 (.alloc 26 [(i 0), (i 0), (i 0), (i 0), sn]),
  st 5 (t 12) (t 28)] [25, 26, 27, 28])
  (.seq (.seq (.ops [fa 29 0 (t 12),
  fa 30 1 (t 29),
  l1 31 (t 30),
  ca 32 F.ref18_Node [(t 31)],
  o 33 (.not (t 32)),
  os 34 (.mov (t 33)),
  gf 34 35 (.load true 3 (t 4)),
  gf 34 36 (.faddr 0 (t 12)),
  gf 34 37 (.load true 4 (t 36)),
  gf 34 38 (.call (fn F.ref20_Place) [(t 35), (t 37)]),
  gf 34 39 (.ibin .geq (t 38) (k 0)),
  o 40 (.pick (t 34) (kb true) (t 39)),
  os 41 (.mov (t 40)),
  gf 41 42 (.mov (t 3)),
  gf 41 43 (.mov (t 2)),
  gf 41 44 (.faddr 0 (t 12)),
  gf 41 45 (.faddr 1 (t 44)),
  gf 41 46 (.load false 1 (t 45)),
  gf 41 47 (.iaddr 1 (t 43) (t 46)),
  gf 41 48 (.load false 1 (t 47)),
  gf 41 49 (.call (fn F.ref18_Has) [(t 42), (t 48)]),
  gf 41 50 (.not (t 49)),
  o 51 (.pick (t 41) (kb true) (t 50))] [29, 30, 31, 32, 33, 34, 35, 36, 37, 38, 39, 40, 41, 42, 43, 44, 45, 46, 47, 48, 49, 50])
  (.cond (t 51)
   (.exit 1)
   (.skip)))
  (.seq (.draw (.take (la 52 3 (t 4)) (.take (fa 53 0 (t 12)) (.take (la 54 4 (t 53)) (.take (mv 55 (t 2)) (.take (fa 56 0 (t 12)) (.take (fa 57 1 (t 56)) (.take (l1 58 (t 57)) (.take (o 59 (.iaddr 1 (t 55) (t 58))) (.take (l1 60 (t 59)) (.take (fa 61 1 (t 4)) (.take (l1 62 (t 61)) (.take (o 63 (.build [(i 0), (i 0), (i 0), (i 0), (i 0), (i 0), (i 0), (i 0)] [(0, 4, (t 54)), (4, 1, (t 60)), (5, 1, (t 62))])) (.alt (ca 64 F.ref20_with [(t 52), (t 63)]) false
   (.alt (st 3 (t 4) (t 64)) false
    (.done)
    (.none))
   (.none)))))))))))))) [52, 53, 54, 55, 56, 57, 58, 59, 60, 61, 62, 63, 64])
  (.seq (.draw (.take (mv 65 (t 10)) (.take (mv 66 (t 2)) (.take (fa 67 0 (t 12)) (.take (fa 68 1 (t 67)) (.take (l1 69 (t 68)) (.take (o 70 (.iaddr 1 (t 66) (t 69))) (.take (l1 71 (t 70)) (.take (fa 72 1 (t 4)) (.take (l1 73 (t 72)) (.take (la 74 5 (t 12)) (.take (o 75 (.build [(i 0), (i 0), (i 0), (i 0), (i 0), (i 0), sn] [(0, 1, (t 71)), (1, 1, (t 73)), (2, 5, (t 74))])) (.alt (o 76 (.mkSl true 46 1 [(i 0), (i 0), (i 0), (i 0), (i 0), (i 0), sn] [(0, 7, (t 75))])) false
   (.alt (o 77 (.app 46 7 72 [(i 0), (i 0), (i 0), (i 0), (i 0), (i 0), sn] (t 65) (t 76))) false
    (.take (mv 10 (t 77)) (.done))
    (.none))
   (.none))))))))))))) [12, 65, 66, 67, 68, 69, 70, 71, 72, 73, 74, 75, 76, 77])
  (.seq (.ops [fa 78 1 (t 4),
  l1 79 (t 78),
  ad 80 (t 79) (k 1),
  fa 81 1 (t 4),
  st 1 (t 81) (t 80)] [78, 79, 80, 81])
  (.seq (.ops [fa 82 1 (t 4),
  l1 83 (t 82),
  o 84 (.ibin .gtr (t 83) (k 65535))] [82, 83])
  (.cond (t 84)
   (.ops [fa 85 1 (t 4),
   st 1 (t 85) (k 0)] [85])
   (.skip)))))))))
  (.ops [mv 23 (t 11),
  ad 24 (t 23) (k 1),
  mv 11 (t 24)] [23, 24]))))))
 (.seq (.ops [la 86 3 (t 4),
 mv 87 (t 10),
 st 3 (t 8) (t 86),
 mv 9 (t 87)] [4, 10, 86, 87])
 (.ret)))))
def r_ref20_Plan : List RRes := [.cell true 3 8, .tmp 9]
theorem fo_ref20_Plan {args : List Value} {M : Mem} {R : Value → Mem → Prop} (hn : args.length ≤ 88) (h : vfn Try.prog c_ref20_Plan r_ref20_Plan args M R) : CallsM Try.prog F.ref20_Plan args M R :=
  fn_ok (kf := k_ref20_Plan) Try.func52 (by kernel_rfl) (by kernel_rfl) hn (by kernel_rfl) h
/-- portage/portageref20.SameOffers -/
def k_ref20_SameOffers (i : Nat) : List Nat := match i with | 0 => [4] | 1 => [6, 7, 8, 9] | 4 => [11, 12, 13] | 6 => [17, 18, 19, 20, 21, 22, 23, 24, 25, 26, 27, 28, 29, 30, 31, 32, 33, 34, 35, 36, 37, 38, 39, 40, 41, 42, 43, 44, 45, 46, 47, 48, 49, 50, 51, 52, 53] | 5 => [15, 16] | _ => []
def c_ref20_SameOffers : RCode :=
 .seq (.ops [mv 4 (kb false)] [4])
 (.seq (.seq (.ops [mv 6 (t 0),
 o 7 (.len (t 6)),
 mv 8 (t 1),
 o 9 (.len (t 8)),
 o 10 (.ibin .neq (t 7) (t 9))] [6, 7, 8, 9])
 (.cond (t 10)
  (.seq (.ops [mv 4 (kb false)] [])
  (.ret))
  (.skip)))
 (.seq (.seq (.ops [mv 5 (k 0)] [])
 (.block 0 (.loop (.seq (.seq (.ops [mv 11 (t 5),
  mv 12 (t 0),
  o 13 (.len (t 12)),
  o 14 (.ibin .lss (t 11) (t 13))] [11, 12, 13])
  (.cond (t 14)
   (.skip)
   (.exit 0)))
  (.seq (.block 1 (.seq (.draw (.take (mv 17 (t 0)) (.take (mv 18 (t 5)) (.take (o 19 (.iaddr 7 (t 17) (t 18))) (.take (fa 20 0 (t 19)) (.take (l1 21 (t 20)) (.take (mv 22 (t 1)) (.take (mv 23 (t 5)) (.take (o 24 (.iaddr 7 (t 22) (t 23))) (.take (fa 25 0 (t 24)) (.take (l1 26 (t 25)) (.take (o 27 (.ibin .neq (t 21) (t 26))) (.take (os 28 (.mov (t 27))) (.take (gf 28 29 (.mov (t 0))) (.take (gf 28 30 (.mov (t 5))) (.take (gf 28 31 (.iaddr 7 (t 29) (t 30))) (.take (gf 28 32 (.faddr 1 (t 31))) (.take (gf 28 33 (.load false 1 (t 32))) (.take (gf 28 34 (.mov (t 1))) (.take (gf 28 35 (.mov (t 5))) (.take (gf 28 36 (.iaddr 7 (t 34) (t 35))) (.take (gf 28 37 (.faddr 1 (t 36))) (.take (gf 28 38 (.load false 1 (t 37))) (.take (gf 28 39 (.ibin .neq (t 33) (t 38))) (.take (o 40 (.pick (t 28) (kb true) (t 39))) (.take (os 41 (.mov (t 40))) (.take (gf 41 42 (.mov (t 0))) (.take (gf 41 43 (.mov (t 5))) (.take (gf 41 44 (.iaddr 7 (t 42) (t 43))) (.take (gf 41 45 (.faddr 2 (t 44))) (.take (gf 41 46 (.load true 5 (t 45))) (.take (gf 41 47 (.mov (t 1))) (.take (gf 41 48 (.mov (t 5))) (.take (gf 41 49 (.iaddr 7 (t 47) (t 48))) (.take (gf 41 50 (.faddr 2 (t 49))) (.take (gf 41 51 (.load true 5 (t 50))) (.alt (gf 41 52 (.call (fn F.ref13_Same) [(t 46), (t 51)])) false
   (.take (gf 41 53 (.not (t 52))) (.take (o 54 (.pick (t 41) (kb true) (t 53))) (.done)))
   (.none))))))))))))))))))))))))))))))))))))) [17, 18, 19, 20, 21, 22, 23, 24, 25, 26, 27, 28, 29, 30, 31, 32, 33, 34, 35, 36, 37, 38, 39, 40, 41, 42, 43, 44, 45, 46, 47, 48, 49, 50, 51, 52, 53])
  (.cond (t 54)
   (.seq (.ops [mv 4 (kb false)] [])
   (.ret))
   (.skip))))
  (.ops [mv 15 (t 5),
  ad 16 (t 15) (k 1),
  mv 5 (t 16)] [15, 16]))))))
 (.seq (.ops [mv 4 (kb true)] [])
 (.ret))))
def r_ref20_SameOffers : List RRes := [.tmp 4]
theorem fo_ref20_SameOffers {args : List Value} {M : Mem} {R : Value → Mem → Prop} (hn : args.length ≤ 55) (h : vfn Try.prog c_ref20_SameOffers r_ref20_SameOffers args M R) : CallsM Try.prog F.ref20_SameOffers args M R :=
  fn_ok (kf := k_ref20_SameOffers) Try.func53 (by kernel_rfl) (by kernel_rfl) hn (by kernel_rfl) h
/-- portage/portageref20.Tick -/
def k_ref20_Tick (i : Nat) : List Nat := match i with | 0 => [0] | 1 => [6] | 3 => [7, 8, 9, 10] | 5 => [14, 15, 16, 17, 18] | 6 => [19, 20] | 7 => [22, 23, 24, 25, 26, 27, 28, 29, 30, 31, 32] | 8 => [33, 34, 35, 36, 37, 38, 39, 40] | 9 => [5, 42, 43, 44, 45, 46, 47, 48, 49, 50, 51, 52, 53, 54] | 4 => [12, 13] | 10 => [1, 3, 55, 56, 57, 58, 59, 60] | _ => []
def c_ref20_Tick : RCode :=
 .seq (.ops [o 1 (.box 65 (t 0)),
 o 2 (.alloc 65 [(i 0), (i 0), sn])] [0])
 (.seq (.ops [o 6 (.mkSl false 106 0 [] []),
 mv 3 (t 6)] [6])
 (.seq (.seq (.ops [mv 4 (k 0)] [])
 (.block 0 (.loop (.seq (.seq (.ops [mv 7 (t 4),
  fa 8 2 (t 1),
  l1 9 (t 8),
  o 10 (.len (t 9)),
  o 11 (.ibin .lss (t 7) (t 10))] [7, 8, 9, 10])
  (.cond (t 11)
   (.skip)
   (.exit 0)))
  (.seq (.block 1 (.seq (.ops [fa 14 2 (t 1),
  l1 15 (t 14),
  mv 16 (t 4),
  o 17 (.iaddr 8 (t 15) (t 16)),
  la 18 8 (t 17),
  o 5 (.alloc 106 [(i 0), (i 0), (i 0), (i 0), (i 0), (i 0), (i 0), (i 0)]),
  st 8 (t 5) (t 18)] [14, 15, 16, 17, 18])
  (.seq (.seq (.ops [fa 19 7 (t 5),
  l1 20 (t 19),
  o 21 (.ibin .gtr (t 20) (k 1))] [19, 20])
  (.cond (t 21)
   (.ops [mv 22 (t 3),
   fa 23 0 (t 5),
   la 24 4 (t 23),
   fa 25 4 (t 5),
   l1 26 (t 25),
   fa 27 7 (t 5),
   l1 28 (t 27),
   o 29 (.ibin .sub (t 28) (k 1)),
   o 30 (.build [(i 0), (i 0), (i 0), (i 0), (i 0), (i 0), (i 0), (i 0)] [(0, 4, (t 24)), (4, 1, (t 26)), (7, 1, (t 29))]),
   o 31 (.mkSl true 106 1 [(i 0), (i 0), (i 0), (i 0), (i 0), (i 0), (i 0), (i 0)] [(0, 8, (t 30))]),
   o 32 (.app 106 8 64 [(i 0), (i 0), (i 0), (i 0), (i 0), (i 0), (i 0), (i 0)] (t 22) (t 31)),
   mv 3 (t 32)] [22, 23, 24, 25, 26, 27, 28, 29, 30, 31, 32])
   (.skip)))
  (.seq (.ops [fa 33 7 (t 5),
  l1 34 (t 33),
  o 35 (.ibin .eql (t 34) (k 0)),
  os 36 (.mov (t 35)),
  gt 36 37 (.faddr 6 (t 5)),
  gt 36 38 (.load false 1 (t 37)),
  gt 36 39 (.ibin .add (t 38) (k 1)),
  gt 36 40 (.ibin .lss (t 39) (k 64)),
  o 41 (.pick (t 36) (t 40) (kb false))] [33, 34, 35, 36, 37, 38, 39, 40])
  (.cond (t 41)
   (.ops [mv 42 (t 3),
   fa 43 0 (t 5),
   la 44 4 (t 43),
   fa 45 4 (t 5),
   l1 46 (t 45),
   fa 47 5 (t 5),
   l1 48 (t 47),
   fa 49 6 (t 5),
   l1 50 (t 49),
   ad 51 (t 50) (k 1),
   o 52 (.build [(i 0), (i 0), (i 0), (i 0), (i 0), (i 0), (i 0), (i 0)] [(0, 4, (t 44)), (4, 1, (t 46)), (5, 1, (t 48)), (6, 1, (t 51))]),
   o 53 (.mkSl true 106 1 [(i 0), (i 0), (i 0), (i 0), (i 0), (i 0), (i 0), (i 0)] [(0, 8, (t 52))]),
   o 54 (.app 106 8 64 [(i 0), (i 0), (i 0), (i 0), (i 0), (i 0), (i 0), (i 0)] (t 42) (t 53)),
   mv 3 (t 54)] [5, 42, 43, 44, 45, 46, 47, 48, 49, 50, 51, 52, 53, 54])
   (.skip))))))
  (.ops [mv 12 (t 4),
  ad 13 (t 12) (k 1),
  mv 4 (t 13)] [12, 13]))))))
 (.seq (.ops [fa 55 0 (t 1),
 l1 56 (t 55),
 fa 57 1 (t 1),
 l1 58 (t 57),
 mv 59 (t 3),
 o 60 (.build [(i 0), (i 0), sn] [(0, 1, (t 56)), (1, 1, (t 58)), (2, 1, (t 59))]),
 st 3 (t 2) (t 60)] [1, 3, 55, 56, 57, 58, 59, 60])
 (.ret))))
def r_ref20_Tick : List RRes := [.cell true 3 2]
theorem fo_ref20_Tick {args : List Value} {M : Mem} {R : Value → Mem → Prop} (hn : args.length ≤ 61) (h : vfn Try.prog c_ref20_Tick r_ref20_Tick args M R) : CallsM Try.prog F.ref20_Tick args M R :=
  fn_ok (kf := k_ref20_Tick) Try.func54 (by kernel_rfl) (by kernel_rfl) hn (by kernel_rfl) h
/-- portage/portageref20.Ack -/
def k_ref20_Ack (i : Nat) : List Nat := match i with | 0 => [0, 3, 9] | 1 => [1, 2, 10, 11, 12, 13, 14, 15, 16, 17, 18, 19, 20, 21, 22, 23, 24, 25] | 2 => [4, 27] | 3 => [4, 7, 28, 29, 30] | _ => []
def c_ref20_Ack : RCode :=
 .seq (.ops [o 4 (.box 65 (t 0)),
 o 7 (.box 23 (t 3)),
 o 8 (.alloc 65 [(i 0), (i 0), sn]),
 mv 9 (kb false)] [0, 3, 9])
 (.seq (.seq (.draw (.take (la 10 3 (t 4)) (.take (mv 11 (t 1)) (.take (la 12 4 (t 7)) (.alt (ca 13 F.ref20_To [(t 10), (t 11), (t 12)]) true
  (.take (o 14 (.not (t 13))) (.take (os 15 (.mov (t 14))) (.take (gf 15 16 (.faddr 2 (t 4))) (.take (gf 15 17 (.load false 1 (t 16))) (.take (gf 15 18 (.load true 3 (t 4))) (.take (gf 15 19 (.load true 4 (t 7))) (.take (gf 15 24 (.mov (t 2))) (.alt (gf 15 20 (.call (fn F.ref20_Place) [(t 18), (t 19)])) true
   (.take (gf 15 21 (.iaddr 8 (t 17) (t 20))) (.take (gf 15 22 (.faddr 5 (t 21))) (.take (gf 15 23 (.load false 1 (t 22))) (.take (gf 15 25 (.ibin .neq (t 23) (t 24))) (.take (o 26 (.pick (t 15) (kb true) (t 25))) (.done))))))
   (.none)))))))))
  (.none))))) [1, 2, 10, 11, 12, 13, 14, 15, 16, 17, 18, 19, 20, 21, 22, 23, 24, 25])
 (.cond (t 26)
  (.seq (.ops [la 27 3 (t 4),
  st 3 (t 8) (t 27),
  mv 9 (kb false)] [4, 27])
  (.ret))
  (.skip)))
 (.seq (.ops [la 28 3 (t 4),
 la 29 4 (t 7),
 ca 30 F.ref20_without [(t 28), (t 29)],
 st 3 (t 8) (t 30),
 mv 9 (kb true)] [4, 7, 28, 29, 30])
 (.ret)))
def r_ref20_Ack : List RRes := [.cell true 3 8, .tmp 9]
theorem fo_ref20_Ack {args : List Value} {M : Mem} {R : Value → Mem → Prop} (hn : args.length ≤ 31) (h : vfn Try.prog c_ref20_Ack r_ref20_Ack args M R) : CallsM Try.prog F.ref20_Ack args M R :=
  fn_ok (kf := k_ref20_Ack) Try.func55 (by kernel_rfl) (by kernel_rfl) hn (by kernel_rfl) h
/-- portage/portageref20.Refuse -/
def k_ref20_Refuse (i : Nat) : List Nat := match i with | 0 => [0, 3, 9] | 1 => [1, 2, 10, 11, 12, 13, 14, 15, 16, 17, 18, 19, 20, 21, 22, 23, 24, 25] | 2 => [4, 27] | 3 => [4, 7, 28, 29, 30, 31, 32, 33] | _ => []
def c_ref20_Refuse : RCode :=
 .seq (.ops [o 4 (.box 65 (t 0)),
 o 7 (.box 23 (t 3)),
 o 8 (.alloc 65 [(i 0), (i 0), sn]),
 mv 9 (kb false)] [0, 3, 9])
 (.seq (.seq (.draw (.take (la 10 3 (t 4)) (.take (mv 11 (t 1)) (.take (la 12 4 (t 7)) (.alt (ca 13 F.ref20_To [(t 10), (t 11), (t 12)]) true
  (.take (o 14 (.not (t 13))) (.take (os 15 (.mov (t 14))) (.take (gf 15 16 (.faddr 2 (t 4))) (.take (gf 15 17 (.load false 1 (t 16))) (.take (gf 15 18 (.load true 3 (t 4))) (.take (gf 15 19 (.load true 4 (t 7))) (.take (gf 15 24 (.mov (t 2))) (.alt (gf 15 20 (.call (fn F.ref20_Place) [(t 18), (t 19)])) true
   (.take (gf 15 21 (.iaddr 8 (t 17) (t 20))) (.take (gf 15 22 (.faddr 5 (t 21))) (.take (gf 15 23 (.load false 1 (t 22))) (.take (gf 15 25 (.ibin .neq (t 23) (t 24))) (.take (o 26 (.pick (t 15) (kb true) (t 25))) (.done))))))
   (.none)))))))))
  (.none))))) [1, 2, 10, 11, 12, 13, 14, 15, 16, 17, 18, 19, 20, 21, 22, 23, 24, 25])
 (.cond (t 26)
  (.seq (.ops [la 27 3 (t 4),
  st 3 (t 8) (t 27),
  mv 9 (kb false)] [4, 27])
  (.ret))
  (.skip)))
 (.seq (.ops [la 28 3 (t 4),
 la 29 4 (t 7),
 fa 30 0 (t 4),
 l1 31 (t 30),
 o 32 (.build [(i 0), (i 0), (i 0), (i 0), (i 0), (i 0), (i 0), (i 0)] [(0, 4, (t 29)), (4, 1, (k (-1))), (7, 1, (t 31))]),
 ca 33 F.ref20_with [(t 28), (t 32)],
 st 3 (t 8) (t 33),
 mv 9 (kb true)] [4, 7, 28, 29, 30, 31, 32, 33])
 (.ret)))
def r_ref20_Refuse : List RRes := [.cell true 3 8, .tmp 9]
theorem fo_ref20_Refuse {args : List Value} {M : Mem} {R : Value → Mem → Prop} (hn : args.length ≤ 34) (h : vfn Try.prog c_ref20_Refuse r_ref20_Refuse args M R) : CallsM Try.prog F.ref20_Refuse args M R :=
  fn_ok (kf := k_ref20_Refuse) Try.func56 (by kernel_rfl) (by kernel_rfl) hn (by kernel_rfl) h
/-- portage/portageref20.Back -/
def k_ref20_Back (i : Nat) : List Nat := match i with | 0 => [0, 1, 5] | 1 => [7, 8, 9] | 2 => [6, 10, 11, 12, 13, 14, 15, 16, 17, 18, 19] | 3 => [2, 21] | 4 => [2, 3, 22, 23, 24] | _ => []
def c_ref20_Back : RCode :=
 .seq (.ops [o 2 (.box 65 (t 0)),
 o 3 (.box 23 (t 1)),
 o 4 (.alloc 65 [(i 0), (i 0), sn]),
 mv 5 (kb false)] [0, 1, 5])
 (.seq (.ops [la 7 3 (t 2),
 la 8 4 (t 3),
 ca 9 F.ref20_Place [(t 7), (t 8)],
 mv 6 (t 9)] [7, 8, 9])
 (.seq (.seq (.ops [mv 10 (t 6),
 o 11 (.ibin .lss (t 10) (k 0)),
 os 12 (.mov (t 11)),
 gf 12 13 (.faddr 2 (t 2)),
 gf 12 14 (.load false 1 (t 13)),
 gf 12 15 (.mov (t 6)),
 gf 12 16 (.iaddr 8 (t 14) (t 15)),
 gf 12 17 (.faddr 7 (t 16)),
 gf 12 18 (.load false 1 (t 17)),
 gf 12 19 (.ibin .gtr (t 18) (k 0)),
 o 20 (.pick (t 12) (kb true) (t 19))] [6, 10, 11, 12, 13, 14, 15, 16, 17, 18, 19])
 (.cond (t 20)
  (.seq (.ops [la 21 3 (t 2),
  st 3 (t 4) (t 21),
  mv 5 (kb false)] [2, 21])
  (.ret))
  (.skip)))
 (.seq (.ops [la 22 3 (t 2),
 la 23 4 (t 3),
 ca 24 F.ref20_without [(t 22), (t 23)],
 st 3 (t 4) (t 24),
 mv 5 (kb true)] [2, 3, 22, 23, 24])
 (.ret))))
def r_ref20_Back : List RRes := [.cell true 3 4, .tmp 5]
theorem fo_ref20_Back {args : List Value} {M : Mem} {R : Value → Mem → Prop} (hn : args.length ≤ 25) (h : vfn Try.prog c_ref20_Back r_ref20_Back args M R) : CallsM Try.prog F.ref20_Back args M R :=
  fn_ok (kf := k_ref20_Back) Try.func57 (by kernel_rfl) (by kernel_rfl) hn (by kernel_rfl) h
/-- portage/portageref20.Reset -/
def k_ref20_Reset (i : Nat) : List Nat := match i with | 0 => [0, 5] | 1 => [1, 8, 9, 10] | 3 => [11, 12, 13] | 5 => [17, 18, 19, 20, 21, 22] | 4 => [15, 16] | 6 => [2, 6, 23, 24, 25] | _ => []
def c_ref20_Reset : RCode :=
 .seq (.ops [o 2 (.box 65 (t 0)),
 o 4 (.alloc 65 [(i 0), (i 0), sn]),
 mv 5 (k 0)] [0, 5])
 (.seq (.ops [la 8 3 (t 2),
 mv 9 (t 1),
 ca 10 F.ref20_Offered [(t 8), (t 9)],
 mv 6 (t 10)] [1, 8, 9, 10])
 (.seq (.seq (.ops [mv 7 (k 0)] [])
 (.block 0 (.loop (.seq (.seq (.ops [mv 11 (t 7),
  mv 12 (t 6),
  o 13 (.len (t 12)),
  o 14 (.ibin .lss (t 11) (t 13))] [11, 12, 13])
  (.cond (t 14)
   (.skip)
   (.exit 0)))
  (.seq (.block 1 (.draw (.take (la 17 3 (t 2)) (.take (mv 18 (t 6)) (.take (mv 19 (t 7)) (.take (o 20 (.iaddr 4 (t 18) (t 19))) (.take (la 21 4 (t 20)) (.alt (ca 22 F.ref20_without [(t 17), (t 21)]) false
   (.alt (st 3 (t 2) (t 22)) false
    (.done)
    (.none))
   (.none))))))) [17, 18, 19, 20, 21, 22]))
  (.ops [mv 15 (t 7),
  ad 16 (t 15) (k 1),
  mv 7 (t 16)] [15, 16]))))))
 (.seq (.ops [la 23 3 (t 2),
 mv 24 (t 6),
 o 25 (.len (t 24)),
 st 3 (t 4) (t 23),
 mv 5 (t 25)] [2, 6, 23, 24, 25])
 (.ret))))
def r_ref20_Reset : List RRes := [.cell true 3 4, .tmp 5]
theorem fo_ref20_Reset {args : List Value} {M : Mem} {R : Value → Mem → Prop} (hn : args.length ≤ 26) (h : vfn Try.prog c_ref20_Reset r_ref20_Reset args M R) : CallsM Try.prog F.ref20_Reset args M R :=
  fn_ok (kf := k_ref20_Reset) Try.func58 (by kernel_rfl) (by kernel_rfl) hn (by kernel_rfl) h
/-- portage/portageref20.Place -/
def k_ref20_Place (i : Nat) : List Nat := match i with | 0 => [0, 1, 4] | 2 => [6, 7, 8, 9] | 4 => [13, 14, 15, 16, 17, 18, 19] | 5 => [5, 21] | 3 => [11, 12] | _ => []
def c_ref20_Place : RCode :=
 .seq (.ops [o 2 (.box 65 (t 0)),
 o 3 (.box 23 (t 1)),
 mv 4 (k 0)] [0, 1, 4])
 (.seq (.seq (.ops [mv 5 (k 0)] [])
 (.block 0 (.loop (.seq (.seq (.ops [mv 6 (t 5),
  fa 7 2 (t 2),
  l1 8 (t 7),
  o 9 (.len (t 8)),
  o 10 (.ibin .lss (t 6) (t 9))] [6, 7, 8, 9])
  (.cond (t 10)
   (.skip)
   (.exit 0)))
  (.seq (.block 1 (.seq (.draw (.take (fa 13 2 (t 2)) (.take (l1 14 (t 13)) (.take (mv 15 (t 5)) (.take (o 16 (.iaddr 8 (t 14) (t 15))) (.take (fa 17 0 (t 16)) (.take (la 18 4 (t 17)) (.take (la 19 4 (t 3)) (.take (o 20 (.aeq .eql 4 (t 18) (t 19))) (.done))))))))) [13, 14, 15, 16, 17, 18, 19])
  (.cond (t 20)
   (.seq (.ops [mv 21 (t 5),
   mv 4 (t 21)] [5, 21])
   (.ret))
   (.skip))))
  (.ops [mv 11 (t 5),
  ad 12 (t 11) (k 1),
  mv 5 (t 12)] [11, 12]))))))
 (.seq (.ops [mv 4 (k (-1))] [])
 (.ret)))
def r_ref20_Place : List RRes := [.tmp 4]
theorem fo_ref20_Place {args : List Value} {M : Mem} {R : Value → Mem → Prop} (hn : args.length ≤ 22) (h : vfn Try.prog c_ref20_Place r_ref20_Place args M R) : CallsM Try.prog F.ref20_Place args M R :=
  fn_ok (kf := k_ref20_Place) Try.func59 (by kernel_rfl) (by kernel_rfl) hn (by kernel_rfl) h
/-- slices.SortFunc[[]portage/api.Id,portage/api.Id] -/
def k_slices_SortFunc_api_Id_api_Id (i : Nat) : List Nat := match i with | 0 => [5, 6] | 1 => [0, 1, 4, 7, 8, 9, 10, 11, 12, 13] | _ => []
def c_slices_SortFunc_api_Id_api_Id : RCode :=
 .seq (.ops [mv 5 (t 0),
 o 6 (.len (t 5)),
 mv 4 (t 6)] [5, 6])
 (.ops [mv 7 (t 0),
 mv 8 (t 4),
 mv 9 (t 4),
 o 10 (.conv .u64 (t 9)),
 ca 11 F.math_bits_Len [(t 10)],
 mv 12 (t 1),
 ca 13 F.slices_pdqsortCmpFunc_api_Id [(t 7), (k 0), (t 8), (t 11), (t 12)]] [0, 1, 4, 7, 8, 9, 10, 11, 12, 13])
def r_slices_SortFunc_api_Id_api_Id : List RRes := []
theorem fo_slices_SortFunc_api_Id_api_Id {args : List Value} {M : Mem} {R : Value → Mem → Prop} (hn : args.length ≤ 14) (h : vfn Try.prog c_slices_SortFunc_api_Id_api_Id r_slices_SortFunc_api_Id_api_Id args M R) : CallsM Try.prog F.slices_SortFunc_api_Id_api_Id args M R :=
  fn_ok (kf := k_slices_SortFunc_api_Id_api_Id) Try.func60 (by kernel_rfl) (by kernel_rfl) hn (by kernel_rfl) h
/-- (*portage/hop.Desk).Offered$1 -/
def k_hop_Desk_Offered_1 (i : Nat) : List Nat := match i with | 0 => [0, 1, 4] | 1 => [2, 3, 5, 6] | _ => []
def c_hop_Desk_Offered_1 : RCode :=
 .seq (.ops [o 2 (.box 23 (t 0)),
 o 3 (.box 23 (t 1)),
 mv 4 (k 0)] [0, 1, 4])
 (.seq (.seq (.ops [la 5 4 (t 2),
 la 6 4 (t 3),
 ca 7 F.msg_Less [(t 5), (t 6)]] [2, 3, 5, 6])
 (.cond (t 7)
  (.seq (.ops [mv 4 (k (-1))] [])
  (.ret))
  (.skip)))
 (.seq (.ops [mv 4 (k 1)] [])
 (.ret)))
def r_hop_Desk_Offered_1 : List RRes := [.tmp 4]
theorem fo_hop_Desk_Offered_1 {args : List Value} {M : Mem} {R : Value → Mem → Prop} (hn : args.length ≤ 8) (h : vfn Try.prog c_hop_Desk_Offered_1 r_hop_Desk_Offered_1 args M R) : CallsM Try.prog F.hop_Desk_Offered_1 args M R :=
  fn_ok (kf := k_hop_Desk_Offered_1) Try.func61 (by kernel_rfl) (by kernel_rfl) hn (by kernel_rfl) h
/-- portage/msg.Less -/
def k_msg_Less (i : Nat) : List Nat := match i with | 0 => [0, 1, 4] | 1 => [6, 7, 8, 9, 10] | 2 => [2, 3, 11, 12, 13, 14, 15] | 3 => [17, 18, 19, 20, 21] | 4 => [2, 3, 22, 23, 24, 25, 26] | 5 => [28, 29, 30, 31, 32] | 6 => [2, 3, 33, 34, 35, 36, 37] | 7 => [2, 3, 38, 39, 40, 41, 42] | _ => []
def c_msg_Less : RCode :=
 .seq (.ops [o 2 (.box 23 (t 0)),
 o 3 (.box 23 (t 1)),
 mv 4 (kb false)] [0, 1, 4])
 (.seq (.block 0 (.seq (.ops [fa 6 0 (t 2),
 l1 7 (t 6),
 fa 8 0 (t 3),
 l1 9 (t 8),
 o 10 (.ibin .neq (t 7) (t 9)),
 mv 5 (t 10)] [6, 7, 8, 9, 10])
 (.cond (t 5)
  (.seq (.ops [fa 11 0 (t 2),
  l1 12 (t 11),
  fa 13 0 (t 3),
  l1 14 (t 13),
  o 15 (.ibin .lss (t 12) (t 14)),
  mv 4 (t 15)] [2, 3, 11, 12, 13, 14, 15])
  (.ret))
  (.seq (.ops [fa 17 1 (t 2),
  l1 18 (t 17),
  fa 19 1 (t 3),
  l1 20 (t 19),
  o 21 (.ibin .neq (t 18) (t 20)),
  mv 16 (t 21)] [17, 18, 19, 20, 21])
  (.cond (t 16)
   (.seq (.ops [fa 22 1 (t 2),
   l1 23 (t 22),
   fa 24 1 (t 3),
   l1 25 (t 24),
   o 26 (.ibin .lss (t 23) (t 25)),
   mv 4 (t 26)] [2, 3, 22, 23, 24, 25, 26])
   (.ret))
   (.seq (.ops [fa 28 2 (t 2),
   l1 29 (t 28),
   fa 30 2 (t 3),
   l1 31 (t 30),
   o 32 (.ibin .neq (t 29) (t 31)),
   mv 27 (t 32)] [28, 29, 30, 31, 32])
   (.cond (t 27)
    (.seq (.ops [fa 33 2 (t 2),
    l1 34 (t 33),
    fa 35 2 (t 3),
    l1 36 (t 35),
    o 37 (.ibin .lss (t 34) (t 36)),
    mv 4 (t 37)] [2, 3, 33, 34, 35, 36, 37])
    (.ret))
    (.skip))))))))
 (.seq (.ops [fa 38 3 (t 2),
 l1 39 (t 38),
 fa 40 3 (t 3),
 l1 41 (t 40),
 o 42 (.ibin .lss (t 39) (t 41)),
 mv 4 (t 42)] [2, 3, 38, 39, 40, 41, 42])
 (.ret)))
def r_msg_Less : List RRes := [.tmp 4]
theorem fo_msg_Less {args : List Value} {M : Mem} {R : Value → Mem → Prop} (hn : args.length ≤ 43) (h : vfn Try.prog c_msg_Less r_msg_Less args M R) : CallsM Try.prog F.msg_Less args M R :=
  fn_ok (kf := k_msg_Less) Try.func62 (by kernel_rfl) (by kernel_rfl) hn (by kernel_rfl) h
/-- portage/msg.Check$1 -/
def k_msg_Check_1 (i : Nat) : List Nat := match i with | 0 => [6] | 1 => [0, 1, 2, 7, 8, 9, 10, 11, 12, 13, 14] | _ => []
def c_msg_Check_1 : RCode :=
 .seq (.ops [mv 6 (kb false)] [6])
 (.seq (.ops [mv 7 (t 0),
 mv 8 (t 1),
 o 9 (.ibin .geq (t 7) (t 8)),
 os 10 (.mov (t 9)),
 gt 10 11 (.mov (t 0)),
 gt 10 12 (.mov (t 2)),
 gt 10 13 (.ibin .leq (t 11) (t 12)),
 o 14 (.pick (t 10) (t 13) (kb false)),
 mv 6 (t 14)] [0, 1, 2, 7, 8, 9, 10, 11, 12, 13, 14])
 (.ret))
def r_msg_Check_1 : List RRes := [.tmp 6]
theorem fo_msg_Check_1 {args : List Value} {M : Mem} {R : Value → Mem → Prop} (hn : args.length ≤ 15) (h : vfn Try.prog c_msg_Check_1 r_msg_Check_1 args M R) : CallsM Try.prog F.msg_Check_1 args M R :=
  fn_ok (kf := k_msg_Check_1) Try.func63 (by kernel_rfl) (by kernel_rfl) hn (by kernel_rfl) h
/-- portage/portageref18.Right -/
def k_ref18_Right (i : Nat) : List Nat := match i with | 0 => [2] | 2 => [4, 5, 6] | 4 => [10, 11, 12, 13, 14, 15, 16, 17, 18, 19, 20] | 3 => [8, 9] | 6 => [0, 22, 23, 24] | _ => []
def c_ref18_Right : RCode :=
 .seq (.ops [mv 2 (kb false)] [2])
 (.seq (.seq (.ops [mv 3 (k 0)] [])
 (.block 0 (.loop (.seq (.seq (.ops [mv 4 (t 3),
  mv 5 (t 0),
  o 6 (.len (t 5)),
  o 7 (.ibin .lss (t 4) (t 6))] [4, 5, 6])
  (.cond (t 7)
   (.skip)
   (.exit 0)))
  (.seq (.block 1 (.seq (.ops [mv 10 (t 0),
  mv 11 (t 3),
  o 12 (.iaddr 1 (t 10) (t 11)),
  l1 13 (t 12),
  o 14 (.ibin .lss (t 13) (k 0)),
  os 15 (.mov (t 14)),
  gf 15 16 (.mov (t 0)),
  gf 15 17 (.mov (t 3)),
  gf 15 18 (.iaddr 1 (t 16) (t 17)),
  gf 15 19 (.load false 1 (t 18)),
  gf 15 20 (.ibin .gtr (t 19) (k 16)),
  o 21 (.pick (t 15) (kb true) (t 20))] [10, 11, 12, 13, 14, 15, 16, 17, 18, 19, 20])
  (.cond (t 21)
   (.seq (.ops [mv 2 (kb false)] [])
   (.ret))
   (.skip))))
  (.ops [mv 8 (t 3),
  ad 9 (t 8) (k 1),
  mv 3 (t 9)] [8, 9]))))))
 (.seq (.ops [mv 22 (t 0),
 o 23 (.len (t 22)),
 o 24 (.ibin .eql (t 23) (k 64)),
 mv 2 (t 24)] [0, 22, 23, 24])
 (.ret)))
def r_ref18_Right : List RRes := [.tmp 2]
theorem fo_ref18_Right {args : List Value} {M : Mem} {R : Value → Mem → Prop} (hn : args.length ≤ 25) (h : vfn Try.prog c_ref18_Right r_ref18_Right args M R) : CallsM Try.prog F.ref18_Right args M R :=
  fn_ok (kf := k_ref18_Right) Try.func64 (by kernel_rfl) (by kernel_rfl) hn (by kernel_rfl) h
/-- slices.Index[[]int,int] -/
def k_slices_Index_int_int (i : Nat) : List Nat := match i with | 0 => [4] | 1 => [6] | 3 => [10] | 4 => [11, 12, 13, 14, 15] | 5 => [5, 17] | 6 => [18] | _ => []
def c_slices_Index_int_int : RCode :=
 .seq (.ops [mv 4 (k 0)] [4])
 (.seq (.seq (.ops [mv 6 (t 0),
 o 7 (.len (t 6)),
 mv 8 (k 0)] [6])
 (.block 0 (.loop (.seq (.ops [o 9 (.ibin .lss (t 8) (t 7))] [])
  (.seq (.cond (t 9)
   (.skip)
   (.exit 0))
  (.seq (.block 1 (.seq (.ops [mv 10 (t 8),
  mv 5 (t 10)] [10])
  (.seq (.ops [mv 11 (t 1),
  mv 12 (t 0),
  mv 13 (t 5),
  o 14 (.iaddr 1 (t 12) (t 13)),
  l1 15 (t 14),
  o 16 (.ibin .eql (t 11) (t 15))] [11, 12, 13, 14, 15])
  (.cond (t 16)
   (.seq (.ops [mv 17 (t 5),
   mv 4 (t 17)] [5, 17])
   (.ret))
   (.skip)))))
  (.ops [ad 18 (t 8) (k 1),
  mv 8 (t 18)] [18])))))))
 (.seq (.ops [mv 4 (k (-1))] [])
 (.ret)))
def r_slices_Index_int_int : List RRes := [.tmp 4]
theorem fo_slices_Index_int_int {args : List Value} {M : Mem} {R : Value → Mem → Prop} (hn : args.length ≤ 19) (h : vfn Try.prog c_slices_Index_int_int r_slices_Index_int_int args M R) : CallsM Try.prog F.slices_Index_int_int args M R :=
  fn_ok (kf := k_slices_Index_int_int) Try.func65 (by kernel_rfl) (by kernel_rfl) hn (by kernel_rfl) h
/-- portage/portageref01.Get -/
def k_ref01_Get (i : Nat) : List Nat := match i with | 0 => [6, 7] | 1 => [10, 11, 12, 13, 14, 15, 16, 17, 18] | 3 => [20, 21, 22, 23, 24, 25, 26, 27, 28, 29, 30] | 7 => [32, 33] | 9 => [37, 38, 39, 40, 41, 42, 43, 44, 45, 46] | 8 => [35, 36] | 10 => [8, 47] | _ => []
def c_ref01_Get : RCode :=
 .seq (.ops [mv 6 (.const (.int .u64 0)),
 mv 7 (k 0)] [6, 7])
 (.seq (.seq (.ops [mv 10 (t 2),
 o 11 (.ibin .lss (t 10) (k 1)),
 os 12 (.mov (t 11)),
 gf 12 13 (.mov (t 2)),
 gf 12 14 (.ibin .gtr (t 13) (k 8)),
 o 15 (.pick (t 12) (kb true) (t 14)),
 os 16 (.mov (t 15)),
 gf 16 17 (.mov (t 1)),
 gf 16 18 (.ibin .lss (t 17) (k 0)),
 o 19 (.pick (t 16) (kb true) (t 18))] [10, 11, 12, 13, 14, 15, 16, 17, 18])
 (.cond (t 19)
  (.seq (.ops [mv 6 (.const (.int .u64 0)),
  mv 7 (k 1)] [])
  (.ret))
  (.skip)))
 (.seq (.seq (.ops [mv 20 (t 1),
 mv 21 (t 0),
 o 22 (.len (t 21)),
 o 23 (.ibin .gtr (t 20) (t 22)),
 os 24 (.mov (t 23)),
 gf 24 25 (.mov (t 2)),
 gf 24 26 (.mov (t 0)),
 gf 24 27 (.len (t 26)),
 gf 24 28 (.mov (t 1)),
 gf 24 29 (.ibin .sub (t 27) (t 28)),
 gf 24 30 (.ibin .gtr (t 25) (t 29)),
 o 31 (.pick (t 24) (kb true) (t 30))] [20, 21, 22, 23, 24, 25, 26, 27, 28, 29, 30])
 (.cond (t 31)
  (.seq (.ops [mv 6 (.const (.int .u64 0)),
  mv 7 (k 2)] [])
  (.ret))
  (.skip)))
 (.seq (.ops [mv 8 (.const (.int .u64 0))] [])
 (.seq (.seq (.ops [mv 9 (k 0)] [])
 (.block 0 (.loop (.seq (.seq (.ops [mv 32 (t 9),
  mv 33 (t 2),
  o 34 (.ibin .lss (t 32) (t 33))] [32, 33])
  (.cond (t 34)
   (.skip)
   (.exit 0)))
  (.seq (.block 1 (.ops [mv 37 (t 8),
  o 38 (.ibin .mul (.const (.int .u64 256)) (t 37)),
  mv 39 (t 0),
  mv 40 (t 1),
  mv 41 (t 9),
  ad 42 (t 40) (t 41),
  o 43 (.iaddr 1 (t 39) (t 42)),
  l1 44 (t 43),
  o 45 (.conv .u64 (t 44)),
  ad 46 (t 38) (t 45),
  mv 8 (t 46)] [37, 38, 39, 40, 41, 42, 43, 44, 45, 46]))
  (.ops [mv 35 (t 9),
  ad 36 (t 35) (k 1),
  mv 9 (t 36)] [35, 36]))))))
 (.seq (.ops [mv 47 (t 8),
 mv 6 (t 47),
 mv 7 (k 0)] [8, 47])
 (.ret))))))
def r_ref01_Get : List RRes := [.tmp 6, .tmp 7]
theorem fo_ref01_Get {args : List Value} {M : Mem} {R : Value → Mem → Prop} (hn : args.length ≤ 48) (h : vfn Try.prog c_ref01_Get r_ref01_Get args M R) : CallsM Try.prog F.ref01_Get args M R :=
  fn_ok (kf := k_ref01_Get) Try.func66 (by kernel_rfl) (by kernel_rfl) hn (by kernel_rfl) h
/-- portage/portageref13.GetId -/
def k_ref13_GetId (i : Nat) : List Nat := match i with | 0 => [3] | 1 => [9, 10] | 2 => [12] | 3 => [5, 13, 14, 15, 16, 17] | 4 => [7, 18, 19, 20, 21, 22] | 5 => [0, 4, 6, 23, 24, 25, 26, 27, 28, 29, 30, 31, 32, 33, 34, 35] | 6 => [36, 37] | 7 => [39] | 8 => [8, 40] | _ => []
def c_ref13_GetId : RCode :=
 .seq (.ops [o 2 (.alloc 23 [(i 0), (i 0), (i 0), (i 0)]),
 mv 3 (k 0)] [3])
 (.seq (.seq (.ops [mv 9 (t 0),
 o 10 (.len (t 9)),
 o 11 (.ibin .neq (t 10) (k 6))] [9, 10])
 (.cond (t 11)
  (.seq (.ops [o 12 (.build [(i 0), (i 0), (i 0), (i 0)] []),
  st 4 (t 2) (t 12),
  mv 3 (k 2)] [12])
  (.ret))
  (.skip)))
 (.seq (.ops [mv 14 (t 0),
 ca 15 F.ref01_Get [(t 14), (k 2), (k 2)],
 mv 13 (t 15),
 ex 16 (t 13) 0,
 ex 17 (t 13) 1,
 mv 4 (t 16),
 mv 5 (t 17)] [5, 13, 14, 15, 16, 17])
 (.seq (.ops [mv 19 (t 0),
 ca 20 F.ref01_Get [(t 19), (k 4), (k 2)],
 mv 18 (t 20),
 ex 21 (t 18) 0,
 ex 22 (t 18) 1,
 mv 6 (t 21),
 mv 7 (t 22)] [7, 18, 19, 20, 21, 22])
 (.seq (.draw (.take (mv 23 (t 0)) (.take (o 24 (.iaddr 1 (t 23) (k 0))) (.take (l1 25 (t 24)) (.take (o 26 (.conv .i64 (t 25))) (.take (mv 27 (t 0)) (.take (o 28 (.iaddr 1 (t 27) (k 1))) (.take (l1 29 (t 28)) (.take (o 30 (.conv .i64 (t 29))) (.take (mv 31 (t 4)) (.take (o 32 (.conv .i64 (t 31))) (.take (mv 33 (t 6)) (.take (o 34 (.conv .i64 (t 33))) (.take (o 35 (.build [(i 0), (i 0), (i 0), (i 0)] [(0, 1, (t 26)), (1, 1, (t 30)), (2, 1, (t 32)), (3, 1, (t 34))])) (.alt (o 8 (.alloc 23 [(i 0), (i 0), (i 0), (i 0)])) false
  (.alt (st 4 (t 8) (t 35)) false
   (.done)
   (.none))
  (.none))))))))))))))) [0, 4, 6, 23, 24, 25, 26, 27, 28, 29, 30, 31, 32, 33, 34, 35])
 (.seq (.seq (.ops [la 36 4 (t 8),
 ca 37 F.ref13_Check [(t 36)],
 o 38 (.ibin .neq (t 37) (k 0))] [36, 37])
 (.cond (t 38)
  (.seq (.ops [o 39 (.build [(i 0), (i 0), (i 0), (i 0)] []),
  st 4 (t 2) (t 39),
  mv 3 (k 2)] [39])
  (.ret))
  (.skip)))
 (.seq (.ops [la 40 4 (t 8),
 st 4 (t 2) (t 40),
 mv 3 (k 0)] [8, 40])
 (.ret)))))))
def r_ref13_GetId : List RRes := [.cell true 4 2, .tmp 3]
theorem fo_ref13_GetId {args : List Value} {M : Mem} {R : Value → Mem → Prop} (hn : args.length ≤ 41) (h : vfn Try.prog c_ref13_GetId r_ref13_GetId args M R) : CallsM Try.prog F.ref13_GetId args M R :=
  fn_ok (kf := k_ref13_GetId) Try.func67 (by kernel_rfl) (by kernel_rfl) hn (by kernel_rfl) h
/-- portage/portageref18.Node -/
def k_ref18_Node (i : Nat) : List Nat := match i with | 0 => [2] | 1 => [0, 3, 4, 5, 6, 7, 8] | _ => []
def c_ref18_Node : RCode :=
 .seq (.ops [mv 2 (kb false)] [2])
 (.seq (.ops [mv 3 (t 0),
 o 4 (.ibin .geq (t 3) (k 0)),
 os 5 (.mov (t 4)),
 gt 5 6 (.mov (t 0)),
 gt 5 7 (.ibin .leq (t 6) (k 63)),
 o 8 (.pick (t 5) (t 7) (kb false)),
 mv 2 (t 8)] [0, 3, 4, 5, 6, 7, 8])
 (.ret))
def r_ref18_Node : List RRes := [.tmp 2]
theorem fo_ref18_Node {args : List Value} {M : Mem} {R : Value → Mem → Prop} (hn : args.length ≤ 9) (h : vfn Try.prog c_ref18_Node r_ref18_Node args M R) : CallsM Try.prog F.ref18_Node args M R :=
  fn_ok (kf := k_ref18_Node) Try.func68 (by kernel_rfl) (by kernel_rfl) hn (by kernel_rfl) h
/-- portage/portageref18.Has -/
def k_ref18_Has (i : Nat) : List Nat := match i with | 0 => [4] | 2 => [6, 7, 8] | 4 => [12, 13, 14, 15, 16] | 3 => [10, 11] | _ => []
def c_ref18_Has : RCode :=
 .seq (.ops [mv 4 (kb false)] [4])
 (.seq (.seq (.ops [mv 5 (k 0)] [])
 (.block 0 (.loop (.seq (.seq (.ops [mv 6 (t 5),
  mv 7 (t 0),
  o 8 (.len (t 7)),
  o 9 (.ibin .lss (t 6) (t 8))] [6, 7, 8])
  (.cond (t 9)
   (.skip)
   (.exit 0)))
  (.seq (.block 1 (.seq (.ops [mv 12 (t 0),
  mv 13 (t 5),
  o 14 (.iaddr 1 (t 12) (t 13)),
  l1 15 (t 14),
  mv 16 (t 1),
  o 17 (.ibin .eql (t 15) (t 16))] [12, 13, 14, 15, 16])
  (.cond (t 17)
   (.seq (.ops [mv 4 (kb true)] [])
   (.ret))
   (.skip))))
  (.ops [mv 10 (t 5),
  ad 11 (t 10) (k 1),
  mv 5 (t 11)] [10, 11]))))))
 (.seq (.ops [mv 4 (kb false)] [])
 (.ret)))
def r_ref18_Has : List RRes := [.tmp 4]
theorem fo_ref18_Has {args : List Value} {M : Mem} {R : Value → Mem → Prop} (hn : args.length ≤ 18) (h : vfn Try.prog c_ref18_Has r_ref18_Has args M R) : CallsM Try.prog F.ref18_Has args M R :=
  fn_ok (kf := k_ref18_Has) Try.func69 (by kernel_rfl) (by kernel_rfl) hn (by kernel_rfl) h
/-- portage/portageref20.with -/
def k_ref20_with (i : Nat) : List Nat := match i with | 0 => [0, 1] | 1 => [8, 9, 10, 11] | 2 => [12] | 5 => [13, 14, 15, 16] | 7 => [20, 21, 22, 23, 24, 25, 26, 27, 28, 29, 30, 31] | 8 => [33, 34, 35, 36] | 10 => [37, 38, 39, 40, 41, 42, 43, 44] | 6 => [18, 19] | 11 => [6, 45] | 12 => [3, 47, 48, 49, 50] | 13 => [2, 5, 51, 52, 53, 54, 55, 56] | _ => []
def c_ref20_with : RCode :=
 .seq (.ops [o 2 (.box 65 (t 0)),
 o 3 (.box 106 (t 1)),
 o 4 (.alloc 65 [(i 0), (i 0), sn])] [0, 1])
 (.seq (.ops [la 8 3 (t 2),
 fa 9 0 (t 3),
 la 10 4 (t 9),
 ca 11 F.ref20_without [(t 8), (t 10)],
 st 3 (t 2) (t 11)] [8, 9, 10, 11])
 (.seq (.ops [o 12 (.mkSl false 106 0 [] []),
 mv 5 (t 12)] [12])
 (.seq (.ops [mv 6 (kb false)] [])
 (.seq (.seq (.ops [mv 7 (k 0)] [])
 (.block 0 (.loop (.seq (.seq (.ops [mv 13 (t 7),
  fa 14 2 (t 2),
  l1 15 (t 14),
  o 16 (.len (t 15)),
  o 17 (.ibin .lss (t 13) (t 16))] [13, 14, 15, 16])
  (.cond (t 17)
   (.skip)
   (.exit 0)))
  (.seq (.block 1 (.seq (.seq (.draw (.take (mv 20 (t 6)) (.take (o 21 (.not (t 20))) (.take (os 22 (.mov (t 21))) (.take (gt 22 23 (.faddr 0 (t 3))) (.take (gt 22 24 (.load true 4 (t 23))) (.take (gt 22 25 (.faddr 2 (t 2))) (.take (gt 22 26 (.load false 1 (t 25))) (.take (gt 22 27 (.mov (t 7))) (.take (gt 22 28 (.iaddr 8 (t 26) (t 27))) (.take (gt 22 29 (.faddr 0 (t 28))) (.take (gt 22 30 (.load true 4 (t 29))) (.alt (gt 22 31 (.call (fn F.ref13_Less) [(t 24), (t 30)])) false
   (.take (o 32 (.pick (t 22) (t 31) (kb false))) (.done))
   (.none))))))))))))) [20, 21, 22, 23, 24, 25, 26, 27, 28, 29, 30, 31])
  (.cond (t 32)
   (.seq (.ops [mv 33 (t 5),
   la 34 8 (t 3),
   o 35 (.mkSl true 106 1 [(i 0), (i 0), (i 0), (i 0), (i 0), (i 0), (i 0), (i 0)] [(0, 8, (t 34))]),
   o 36 (.app 106 8 64 [(i 0), (i 0), (i 0), (i 0), (i 0), (i 0), (i 0), (i 0)] (t 33) (t 35)),
   mv 5 (t 36)] [33, 34, 35, 36])
   (.ops [mv 6 (kb true)] []))
   (.skip)))
  (.ops [mv 37 (t 5),
  fa 38 2 (t 2),
  l1 39 (t 38),
  mv 40 (t 7),
  o 41 (.iaddr 8 (t 39) (t 40)),
  la 42 8 (t 41),
  o 43 (.mkSl true 106 1 [(i 0), (i 0), (i 0), (i 0), (i 0), (i 0), (i 0), (i 0)] [(0, 8, (t 42))]),
  o 44 (.app 106 8 64 [(i 0), (i 0), (i 0), (i 0), (i 0), (i 0), (i 0), (i 0)] (t 37) (t 43)),
  mv 5 (t 44)] [37, 38, 39, 40, 41, 42, 43, 44])))
  (.ops [mv 18 (t 7),
  ad 19 (t 18) (k 1),
  mv 7 (t 19)] [18, 19]))))))
 (.seq (.seq (.ops [mv 45 (t 6),
 o 46 (.not (t 45))] [6, 45])
 (.cond (t 46)
  (.ops [mv 47 (t 5),
  la 48 8 (t 3),
  o 49 (.mkSl true 106 1 [(i 0), (i 0), (i 0), (i 0), (i 0), (i 0), (i 0), (i 0)] [(0, 8, (t 48))]),
  o 50 (.app 106 8 64 [(i 0), (i 0), (i 0), (i 0), (i 0), (i 0), (i 0), (i 0)] (t 47) (t 49)),
  mv 5 (t 50)] [3, 47, 48, 49, 50])
  (.skip)))
 (.seq (.ops [fa 51 0 (t 2),
 l1 52 (t 51),
 fa 53 1 (t 2),
 l1 54 (t 53),
 mv 55 (t 5),
 o 56 (.build [(i 0), (i 0), sn] [(0, 1, (t 52)), (1, 1, (t 54)), (2, 1, (t 55))]),
 st 3 (t 4) (t 56)] [2, 5, 51, 52, 53, 54, 55, 56])
 (.ret)))))))
def r_ref20_with : List RRes := [.cell true 3 4]
theorem fo_ref20_with {args : List Value} {M : Mem} {R : Value → Mem → Prop} (hn : args.length ≤ 57) (h : vfn Try.prog c_ref20_with r_ref20_with args M R) : CallsM Try.prog F.ref20_with args M R :=
  fn_ok (kf := k_ref20_with) Try.func70 (by kernel_rfl) (by kernel_rfl) hn (by kernel_rfl) h
/-- portage/portageref20.To -/
def k_ref20_To (i : Nat) : List Nat := match i with | 0 => [0, 2, 6] | 1 => [5, 8, 9, 10] | 2 => [1, 3, 7, 11, 12, 13, 14, 15, 16, 17, 18, 19, 20, 21, 22, 23, 24, 25, 26, 27, 28, 29, 30, 31] | _ => []
def c_ref20_To : RCode :=
 .seq (.ops [o 3 (.box 65 (t 0)),
 o 5 (.box 23 (t 2)),
 mv 6 (kb false)] [0, 2, 6])
 (.seq (.ops [la 8 3 (t 3),
 la 9 4 (t 5),
 ca 10 F.ref20_Place [(t 8), (t 9)],
 mv 7 (t 10)] [5, 8, 9, 10])
 (.seq (.ops [mv 11 (t 7),
 o 12 (.ibin .geq (t 11) (k 0)),
 os 13 (.mov (t 12)),
 gt 13 14 (.faddr 2 (t 3)),
 gt 13 15 (.load false 1 (t 14)),
 gt 13 16 (.mov (t 7)),
 gt 13 17 (.iaddr 8 (t 15) (t 16)),
 gt 13 18 (.faddr 7 (t 17)),
 gt 13 19 (.load false 1 (t 18)),
 gt 13 20 (.ibin .eql (t 19) (k 0)),
 o 21 (.pick (t 13) (t 20) (kb false)),
 os 22 (.mov (t 21)),
 gt 22 23 (.faddr 2 (t 3)),
 gt 22 24 (.load false 1 (t 23)),
 gt 22 25 (.mov (t 7)),
 gt 22 26 (.iaddr 8 (t 24) (t 25)),
 gt 22 27 (.faddr 4 (t 26)),
 gt 22 28 (.load false 1 (t 27)),
 gt 22 29 (.mov (t 1)),
 gt 22 30 (.ibin .eql (t 28) (t 29)),
 o 31 (.pick (t 22) (t 30) (kb false)),
 mv 6 (t 31)] [1, 3, 7, 11, 12, 13, 14, 15, 16, 17, 18, 19, 20, 21, 22, 23, 24, 25, 26, 27, 28, 29, 30, 31])
 (.ret)))
def r_ref20_To : List RRes := [.tmp 6]
theorem fo_ref20_To {args : List Value} {M : Mem} {R : Value → Mem → Prop} (hn : args.length ≤ 32) (h : vfn Try.prog c_ref20_To r_ref20_To args M R) : CallsM Try.prog F.ref20_To args M R :=
  fn_ok (kf := k_ref20_To) Try.func71 (by kernel_rfl) (by kernel_rfl) hn (by kernel_rfl) h
/-- portage/portageref20.without -/
def k_ref20_without (i : Nat) : List Nat := match i with | 0 => [0, 1] | 1 => [7] | 3 => [8, 9, 10, 11] | 5 => [15, 16, 17, 18, 19, 20, 21] | 6 => [23, 24, 25, 26, 27, 28, 29, 30] | 4 => [13, 14] | 7 => [2, 5, 31, 32, 33, 34, 35, 36] | _ => []
def c_ref20_without : RCode :=
 .seq (.ops [o 2 (.box 65 (t 0)),
 o 3 (.box 23 (t 1)),
 o 4 (.alloc 65 [(i 0), (i 0), sn])] [0, 1])
 (.seq (.ops [o 7 (.mkSl false 106 0 [] []),
 mv 5 (t 7)] [7])
 (.seq (.seq (.ops [mv 6 (k 0)] [])
 (.block 0 (.loop (.seq (.seq (.ops [mv 8 (t 6),
  fa 9 2 (t 2),
  l1 10 (t 9),
  o 11 (.len (t 10)),
  o 12 (.ibin .lss (t 8) (t 11))] [8, 9, 10, 11])
  (.cond (t 12)
   (.skip)
   (.exit 0)))
  (.seq (.block 1 (.seq (.draw (.take (fa 15 2 (t 2)) (.take (l1 16 (t 15)) (.take (mv 17 (t 6)) (.take (o 18 (.iaddr 8 (t 16) (t 17))) (.take (fa 19 0 (t 18)) (.take (la 20 4 (t 19)) (.take (la 21 4 (t 3)) (.take (o 22 (.aeq .neq 4 (t 20) (t 21))) (.done))))))))) [15, 16, 17, 18, 19, 20, 21])
  (.cond (t 22)
   (.ops [mv 23 (t 5),
   fa 24 2 (t 2),
   l1 25 (t 24),
   mv 26 (t 6),
   o 27 (.iaddr 8 (t 25) (t 26)),
   la 28 8 (t 27),
   o 29 (.mkSl true 106 1 [(i 0), (i 0), (i 0), (i 0), (i 0), (i 0), (i 0), (i 0)] [(0, 8, (t 28))]),
   o 30 (.app 106 8 64 [(i 0), (i 0), (i 0), (i 0), (i 0), (i 0), (i 0), (i 0)] (t 23) (t 29)),
   mv 5 (t 30)] [23, 24, 25, 26, 27, 28, 29, 30])
   (.skip))))
  (.ops [mv 13 (t 6),
  ad 14 (t 13) (k 1),
  mv 6 (t 14)] [13, 14]))))))
 (.seq (.ops [fa 31 0 (t 2),
 l1 32 (t 31),
 fa 33 1 (t 2),
 l1 34 (t 33),
 mv 35 (t 5),
 o 36 (.build [(i 0), (i 0), sn] [(0, 1, (t 32)), (1, 1, (t 34)), (2, 1, (t 35))]),
 st 3 (t 4) (t 36)] [2, 5, 31, 32, 33, 34, 35, 36])
 (.ret))))
def r_ref20_without : List RRes := [.cell true 3 4]
theorem fo_ref20_without {args : List Value} {M : Mem} {R : Value → Mem → Prop} (hn : args.length ≤ 37) (h : vfn Try.prog c_ref20_without r_ref20_without args M R) : CallsM Try.prog F.ref20_without args M R :=
  fn_ok (kf := k_ref20_without) Try.func72 (by kernel_rfl) (by kernel_rfl) hn (by kernel_rfl) h
/-- slices.pdqsortCmpFunc[portage/api.Id] -/
def k_slices_pdqsortCmpFunc_api_Id (i : Nat) : List Nat := match i with | 2 => [21, 22, 23] | 3 => [24] | 4 => [0, 1, 2, 4, 26, 27, 28, 29, 30] | 5 => [31] | 6 => [0, 1, 2, 4, 33, 34, 35, 36, 37] | 7 => [38] | 8 => [40, 41, 42, 43, 44] | 9 => [45, 46] | 10 => [47, 48, 49, 50, 51, 52, 53, 54] | 11 => [55] | 12 => [57, 58, 59, 60, 61] | 13 => [62, 63, 64, 65, 66, 67] | 15 => [14, 68, 69, 70, 71, 72, 73, 74] | 16 => [76, 77, 78, 79] | 17 => [81, 82, 83, 84, 85, 86, 87, 88, 89, 90, 91, 92, 93, 94, 95, 96] | 18 => [1, 13, 98, 99, 100, 101, 102, 103] | 19 => [15, 104] | 20 => [13, 105, 106, 107, 108, 109, 110, 111, 112, 113] | 21 => [17, 114] | 22 => [115, 116, 117, 118, 119, 120] | 23 => [12, 121, 122] | 24 => [123, 124] | 25 => [18, 20, 126, 127, 128] | 26 => [1, 129, 130, 131, 132, 133, 134] | 27 => [16, 135, 136] | 28 => [19, 20, 137, 138, 139] | 29 => [2, 140, 141, 142, 143, 144, 145, 146] | 30 => [16, 147] | _ => []
def c_slices_pdqsortCmpFunc_api_Id : RCode :=
 .seq (.ops [mv 10 (kb true)] [])
 (.seq (.ops [mv 11 (kb true)] [])
 (.block 0 (.loop (.block 1 (.seq (.ops [mv 21 (t 2),
  mv 22 (t 1),
  o 23 (.ibin .sub (t 21) (t 22)),
  mv 12 (t 23)] [21, 22, 23])
  (.seq (.seq (.ops [mv 24 (t 12),
  o 25 (.ibin .leq (t 24) (k 12))] [24])
  (.cond (t 25)
   (.seq (.ops [mv 26 (t 0),
   mv 27 (t 1),
   mv 28 (t 2),
   mv 29 (t 4),
   ca 30 F.slices_insertionSortCmpFunc_api_Id [(t 26), (t 27), (t 28), (t 29)]] [0, 1, 2, 4, 26, 27, 28, 29, 30])
   (.ret))
   (.skip)))
  (.seq (.seq (.ops [mv 31 (t 3),
  o 32 (.ibin .eql (t 31) (k 0))] [31])
  (.cond (t 32)
   (.seq (.ops [mv 33 (t 0),
   mv 34 (t 1),
   mv 35 (t 2),
   mv 36 (t 4),
   ca 37 F.slices_heapSortCmpFunc_api_Id [(t 33), (t 34), (t 35), (t 36)]] [0, 1, 2, 4, 33, 34, 35, 36, 37])
   (.ret))
   (.skip)))
  (.seq (.seq (.ops [mv 38 (t 10),
  o 39 (.not (t 38))] [38])
  (.cond (t 39)
   (.seq (.ops [mv 40 (t 0),
   mv 41 (t 1),
   mv 42 (t 2),
   mv 43 (t 4),
   ca 44 F.slices_breakPatternsCmpFunc_api_Id [(t 40), (t 41), (t 42), (t 43)]] [40, 41, 42, 43, 44])
   (.ops [mv 45 (t 3),
   o 46 (.ibin .sub (t 45) (k 1)),
   mv 3 (t 46)] [45, 46]))
   (.skip)))
  (.seq (.ops [mv 48 (t 0),
  mv 49 (t 1),
  mv 50 (t 2),
  mv 51 (t 4),
  ca 52 F.slices_choosePivotCmpFunc_api_Id [(t 48), (t 49), (t 50), (t 51)],
  mv 47 (t 52),
  ex 53 (t 47) 0,
  ex 54 (t 47) 1,
  mv 13 (t 53),
  mv 14 (t 54)] [47, 48, 49, 50, 51, 52, 53, 54])
  (.seq (.seq (.ops [mv 55 (t 14),
  o 56 (.ibin .eql (t 55) (k 2))] [55])
  (.cond (t 56)
   (.seq (.ops [mv 57 (t 0),
   mv 58 (t 1),
   mv 59 (t 2),
   mv 60 (t 4),
   ca 61 F.slices_reverseRangeCmpFunc_api_Id [(t 57), (t 58), (t 59), (t 60)]] [57, 58, 59, 60, 61])
   (.seq (.ops [mv 62 (t 2),
   o 63 (.ibin .sub (t 62) (k 1)),
   mv 64 (t 13),
   mv 65 (t 1),
   o 66 (.ibin .sub (t 64) (t 65)),
   o 67 (.ibin .sub (t 63) (t 66)),
   mv 13 (t 67)] [62, 63, 64, 65, 66, 67])
   (.ops [mv 14 (k 1)] [])))
   (.skip)))
  (.seq (.seq (.ops [mv 68 (t 10),
  os 69 (.mov (t 68)),
  gt 69 70 (.mov (t 11)),
  o 71 (.pick (t 69) (t 70) (kb false)),
  os 72 (.mov (t 71)),
  gt 72 73 (.mov (t 14)),
  gt 72 74 (.ibin .eql (t 73) (k 1)),
  o 75 (.pick (t 72) (t 74) (kb false))] [14, 68, 69, 70, 71, 72, 73, 74])
  (.cond (t 75)
   (.seq (.ops [mv 76 (t 0),
   mv 77 (t 1),
   mv 78 (t 2),
   mv 79 (t 4),
   ca 80 F.slices_partialInsertionSortCmpFunc_api_Id [(t 76), (t 77), (t 78), (t 79)]] [76, 77, 78, 79])
   (.cond (t 80)
    (.ret)
    (.skip)))
   (.skip)))
  (.seq (.seq (.draw (.take (mv 81 (t 1)) (.take (o 82 (.ibin .gtr (t 81) (k 0))) (.take (os 83 (.mov (t 82))) (.take (gt 83 84 (.mov (t 4))) (.take (gt 83 85 (.mov (t 0))) (.take (gt 83 86 (.mov (t 1))) (.take (gt 83 87 (.ibin .sub (t 86) (k 1))) (.take (gt 83 88 (.iaddr 4 (t 85) (t 87))) (.take (gt 83 89 (.load true 4 (t 88))) (.take (gt 83 90 (.mov (t 0))) (.take (gt 83 91 (.mov (t 13))) (.take (gt 83 92 (.iaddr 4 (t 90) (t 91))) (.take (gt 83 93 (.load true 4 (t 92))) (.alt (gt 83 94 (.call (t 84) [(t 89), (t 93)])) false
   (.take (gt 83 95 (.ibin .lss (t 94) (k 0))) (.take (gt 83 96 (.not (t 95))) (.take (o 97 (.pick (t 83) (t 96) (kb false))) (.done))))
   (.none))))))))))))))) [81, 82, 83, 84, 85, 86, 87, 88, 89, 90, 91, 92, 93, 94, 95, 96])
  (.cond (t 97)
   (.seq (.ops [mv 98 (t 0),
   mv 99 (t 1),
   mv 100 (t 2),
   mv 101 (t 13),
   mv 102 (t 4),
   ca 103 F.slices_partitionEqualCmpFunc_api_Id [(t 98), (t 99), (t 100), (t 101), (t 102)],
   mv 15 (t 103)] [1, 13, 98, 99, 100, 101, 102, 103])
   (.seq (.ops [mv 104 (t 15),
   mv 1 (t 104)] [15, 104])
   (.exit 1)))
   (.skip)))
  (.seq (.ops [mv 106 (t 0),
  mv 107 (t 1),
  mv 108 (t 2),
  mv 109 (t 13),
  mv 110 (t 4),
  ca 111 F.slices_partitionCmpFunc_api_Id [(t 106), (t 107), (t 108), (t 109), (t 110)],
  mv 105 (t 111),
  ex 112 (t 105) 0,
  ex 113 (t 105) 1,
  mv 16 (t 112),
  mv 17 (t 113)] [13, 105, 106, 107, 108, 109, 110, 111, 112, 113])
  (.seq (.ops [mv 114 (t 17),
  mv 11 (t 114)] [17, 114])
  (.seq (.ops [mv 115 (t 16),
  mv 116 (t 1),
  o 117 (.ibin .sub (t 115) (t 116)),
  mv 118 (t 2),
  mv 119 (t 16),
  o 120 (.ibin .sub (t 118) (t 119)),
  mv 18 (t 117),
  mv 19 (t 120)] [115, 116, 117, 118, 119, 120])
  (.seq (.ops [mv 121 (t 12),
  o 122 (.ibin .quo (t 121) (k 8)),
  mv 20 (t 122)] [12, 121, 122])
  (.seq (.ops [mv 123 (t 18),
  mv 124 (t 19),
  o 125 (.ibin .lss (t 123) (t 124))] [123, 124])
  (.cond (t 125)
   (.seq (.ops [mv 126 (t 18),
   mv 127 (t 20),
   o 128 (.ibin .geq (t 126) (t 127)),
   mv 10 (t 128)] [18, 20, 126, 127, 128])
   (.seq (.ops [mv 129 (t 0),
   mv 130 (t 1),
   mv 131 (t 16),
   mv 132 (t 3),
   mv 133 (t 4),
   ca 134 F.slices_pdqsortCmpFunc_api_Id [(t 129), (t 130), (t 131), (t 132), (t 133)]] [1, 129, 130, 131, 132, 133, 134])
   (.ops [mv 135 (t 16),
   ad 136 (t 135) (k 1),
   mv 1 (t 136)] [16, 135, 136])))
   (.seq (.ops [mv 137 (t 19),
   mv 138 (t 20),
   o 139 (.ibin .geq (t 137) (t 138)),
   mv 10 (t 139)] [19, 20, 137, 138, 139])
   (.seq (.ops [mv 140 (t 0),
   mv 141 (t 16),
   ad 142 (t 141) (k 1),
   mv 143 (t 2),
   mv 144 (t 3),
   mv 145 (t 4),
   ca 146 F.slices_pdqsortCmpFunc_api_Id [(t 140), (t 142), (t 143), (t 144), (t 145)]] [2, 140, 141, 142, 143, 144, 145, 146])
   (.ops [mv 147 (t 16),
   mv 2 (t 147)] [16, 147])))))))))))))))))))))
def r_slices_pdqsortCmpFunc_api_Id : List RRes := []
theorem fo_slices_pdqsortCmpFunc_api_Id {args : List Value} {M : Mem} {R : Value → Mem → Prop} (hn : args.length ≤ 148) (h : vfn Try.prog c_slices_pdqsortCmpFunc_api_Id r_slices_pdqsortCmpFunc_api_Id args M R) : CallsM Try.prog F.slices_pdqsortCmpFunc_api_Id args M R :=
  fn_ok (kf := k_slices_pdqsortCmpFunc_api_Id) Try.func73 (by kernel_rfl) (by kernel_rfl) hn (by kernel_rfl) h
/-- math/bits.Len -/
def k_math_bits_Len (i : Nat) : List Nat := match i with | 0 => [2] | 1 => [0, 3, 4, 5] | 2 => [0, 6, 7] | _ => []
def c_math_bits_Len : RCode :=
 .seq (.ops [mv 2 (k 0)] [2])
 (.seq (.cond (kb false)
  (.seq (.ops [mv 3 (t 0),
  o 4 (.conv .u32 (t 3)),
  ca 5 F.math_bits_Len32 [(t 4)],
  mv 2 (t 5)] [0, 3, 4, 5])
  (.ret))
  (.skip))
 (.seq (.ops [mv 6 (t 0),
 ca 7 F.math_bits_Len64 [(t 6)],
 mv 2 (t 7)] [0, 6, 7])
 (.ret)))
def r_math_bits_Len : List RRes := [.tmp 2]
theorem fo_math_bits_Len {args : List Value} {M : Mem} {R : Value → Mem → Prop} (hn : args.length ≤ 8) (h : vfn Try.prog c_math_bits_Len r_math_bits_Len args M R) : CallsM Try.prog F.math_bits_Len args M R :=
  fn_ok (kf := k_math_bits_Len) Try.func74 (by kernel_rfl) (by kernel_rfl) hn (by kernel_rfl) h
/-- portage/portageref13.Less -/
def k_ref13_Less (i : Nat) : List Nat := match i with | 0 => [0, 1, 4] | 1 => [2, 8, 9] | 2 => [3, 10, 11] | 4 => [12] | 6 => [16, 17, 18, 19, 20, 21, 22, 23] | 7 => [5, 6, 7, 25, 26, 27, 28, 29, 30, 31, 32, 33] | 5 => [14, 15] | _ => []
def c_ref13_Less : RCode :=
 .seq (.ops [o 2 (.box 23 (t 0)),
 o 3 (.box 23 (t 1)),
 mv 4 (kb false)] [0, 1, 4])
 (.seq (.ops [la 8 4 (t 2),
 ca 9 F.ref13_Numbers [(t 8)],
 mv 5 (t 9)] [2, 8, 9])
 (.seq (.ops [la 10 4 (t 3),
 ca 11 F.ref13_Numbers [(t 10)],
 mv 6 (t 11)] [3, 10, 11])
 (.seq (.seq (.ops [mv 7 (k 0)] [])
 (.block 0 (.loop (.seq (.seq (.ops [mv 12 (t 7),
  o 13 (.ibin .lss (t 12) (k 4))] [12])
  (.cond (t 13)
   (.skip)
   (.exit 0)))
  (.seq (.block 1 (.seq (.draw (.take (mv 16 (t 5)) (.take (mv 17 (t 7)) (.take (o 18 (.iaddr 1 (t 16) (t 17))) (.take (l1 19 (t 18)) (.take (mv 20 (t 6)) (.take (mv 21 (t 7)) (.take (o 22 (.iaddr 1 (t 20) (t 21))) (.take (l1 23 (t 22)) (.take (o 24 (.ibin .neq (t 19) (t 23))) (.done)))))))))) [16, 17, 18, 19, 20, 21, 22, 23])
  (.cond (t 24)
   (.seq (.draw (.take (mv 25 (t 5)) (.take (mv 26 (t 7)) (.take (o 27 (.iaddr 1 (t 25) (t 26))) (.take (l1 28 (t 27)) (.take (mv 29 (t 6)) (.take (mv 30 (t 7)) (.take (o 31 (.iaddr 1 (t 29) (t 30))) (.take (l1 32 (t 31)) (.take (o 33 (.ibin .lss (t 28) (t 32))) (.take (mv 4 (t 33)) (.done))))))))))) [5, 6, 7, 25, 26, 27, 28, 29, 30, 31, 32, 33])
   (.ret))
   (.skip))))
  (.ops [mv 14 (t 7),
  ad 15 (t 14) (k 1),
  mv 7 (t 15)] [14, 15]))))))
 (.seq (.ops [mv 4 (kb false)] [])
 (.ret)))))
def r_ref13_Less : List RRes := [.tmp 4]
theorem fo_ref13_Less {args : List Value} {M : Mem} {R : Value → Mem → Prop} (hn : args.length ≤ 34) (h : vfn Try.prog c_ref13_Less r_ref13_Less args M R) : CallsM Try.prog F.ref13_Less args M R :=
  fn_ok (kf := k_ref13_Less) Try.func75 (by kernel_rfl) (by kernel_rfl) hn (by kernel_rfl) h
/-- slices.insertionSortCmpFunc[portage/api.Id] -/
def k_slices_insertionSortCmpFunc_api_Id (i : Nat) : List Nat := match i with | 0 => [10, 11] | 1 => [12, 13] | 3 => [17] | 4 => [18, 19, 20, 21, 22, 23, 24, 25, 26, 27, 28, 29, 30, 31, 32, 33] | 6 => [37, 38, 39, 40, 41, 42, 43, 44, 45, 46, 47, 48, 49, 50, 51, 52] | 5 => [35, 36] | 2 => [15, 16] | _ => []
def c_slices_insertionSortCmpFunc_api_Id : RCode :=
 .seq (.ops [mv 10 (t 1),
 ad 11 (t 10) (k 1),
 mv 8 (t 11)] [10, 11])
 (.block 0 (.loop (.seq (.seq (.ops [mv 12 (t 8),
  mv 13 (t 2),
  o 14 (.ibin .lss (t 12) (t 13))] [12, 13])
  (.cond (t 14)
   (.skip)
   (.exit 0)))
  (.seq (.block 1 (.seq (.ops [mv 17 (t 8),
  mv 9 (t 17)] [17])
  (.block 2 (.loop (.seq (.seq (.draw (.take (mv 18 (t 9)) (.take (mv 19 (t 1)) (.take (o 20 (.ibin .gtr (t 18) (t 19))) (.take (os 21 (.mov (t 20))) (.take (gt 21 22 (.mov (t 3))) (.take (gt 21 23 (.mov (t 0))) (.take (gt 21 24 (.mov (t 9))) (.take (gt 21 25 (.iaddr 4 (t 23) (t 24))) (.take (gt 21 26 (.load true 4 (t 25))) (.take (gt 21 27 (.mov (t 0))) (.take (gt 21 28 (.mov (t 9))) (.take (gt 21 29 (.ibin .sub (t 28) (k 1))) (.take (gt 21 30 (.iaddr 4 (t 27) (t 29))) (.take (gt 21 31 (.load true 4 (t 30))) (.alt (gt 21 32 (.call (t 22) [(t 26), (t 31)])) false
    (.take (gt 21 33 (.ibin .lss (t 32) (k 0))) (.take (o 34 (.pick (t 21) (t 33) (kb false))) (.done)))
    (.none)))))))))))))))) [18, 19, 20, 21, 22, 23, 24, 25, 26, 27, 28, 29, 30, 31, 32, 33])
   (.cond (t 34)
    (.skip)
    (.exit 2)))
   (.seq (.block 3 (.draw (.take (mv 37 (t 0)) (.take (mv 38 (t 9)) (.take (mv 39 (t 0)) (.take (mv 40 (t 9)) (.take (o 41 (.ibin .sub (t 40) (k 1))) (.take (mv 42 (t 0)) (.take (mv 43 (t 9)) (.take (o 44 (.ibin .sub (t 43) (k 1))) (.take (o 45 (.iaddr 4 (t 42) (t 44))) (.take (la 46 4 (t 45)) (.take (mv 47 (t 0)) (.take (mv 48 (t 9)) (.take (o 49 (.iaddr 4 (t 47) (t 48))) (.take (la 50 4 (t 49)) (.take (o 51 (.iaddr 4 (t 37) (t 38))) (.alt (st 4 (t 51) (t 46)) false
    (.take (o 52 (.iaddr 4 (t 39) (t 41))) (.alt (st 4 (t 52) (t 50)) false
     (.done)
     (.none)))
    (.none))))))))))))))))) [37, 38, 39, 40, 41, 42, 43, 44, 45, 46, 47, 48, 49, 50, 51, 52]))
   (.ops [mv 35 (t 9),
   o 36 (.ibin .sub (t 35) (k 1)),
   mv 9 (t 36)] [35, 36])))))))
  (.ops [mv 15 (t 8),
  ad 16 (t 15) (k 1),
  mv 8 (t 16)] [15, 16])))))
def r_slices_insertionSortCmpFunc_api_Id : List RRes := []
theorem fo_slices_insertionSortCmpFunc_api_Id {args : List Value} {M : Mem} {R : Value → Mem → Prop} (hn : args.length ≤ 53) (h : vfn Try.prog c_slices_insertionSortCmpFunc_api_Id r_slices_insertionSortCmpFunc_api_Id args M R) : CallsM Try.prog F.slices_insertionSortCmpFunc_api_Id args M R :=
  fn_ok (kf := k_slices_insertionSortCmpFunc_api_Id) Try.func76 (by kernel_rfl) (by kernel_rfl) hn (by kernel_rfl) h
/-- slices.heapSortCmpFunc[portage/api.Id] -/
def k_slices_heapSortCmpFunc_api_Id (i : Nat) : List Nat := match i with | 0 => [13] | 2 => [1, 2, 14, 15, 16] | 3 => [17, 18, 19] | 4 => [20] | 6 => [24, 25, 26, 27, 28, 29] | 5 => [22, 23] | 7 => [10, 30, 31] | 8 => [32] | 10 => [36, 37, 38, 39, 40, 41, 42, 43, 44, 45, 46, 47, 48, 49, 50, 51, 52, 53] | 11 => [54, 55, 56, 57, 58, 59] | 9 => [34, 35] | _ => []
def c_slices_heapSortCmpFunc_api_Id : RCode :=
 .seq (.ops [mv 13 (t 1),
 mv 8 (t 13)] [13])
 (.seq (.ops [mv 9 (k 0)] [])
 (.seq (.ops [mv 14 (t 2),
 mv 15 (t 1),
 o 16 (.ibin .sub (t 14) (t 15)),
 mv 10 (t 16)] [1, 2, 14, 15, 16])
 (.seq (.seq (.ops [mv 17 (t 10),
 o 18 (.ibin .sub (t 17) (k 1)),
 o 19 (.ibin .quo (t 18) (k 2)),
 mv 11 (t 19)] [17, 18, 19])
 (.block 0 (.loop (.seq (.seq (.ops [mv 20 (t 11),
  o 21 (.ibin .geq (t 20) (k 0))] [20])
  (.cond (t 21)
   (.skip)
   (.exit 0)))
  (.seq (.block 1 (.ops [mv 24 (t 0),
  mv 25 (t 11),
  mv 26 (t 10),
  mv 27 (t 8),
  mv 28 (t 3),
  ca 29 F.slices_siftDownCmpFunc_api_Id [(t 24), (t 25), (t 26), (t 27), (t 28)]] [24, 25, 26, 27, 28, 29]))
  (.ops [mv 22 (t 11),
  o 23 (.ibin .sub (t 22) (k 1)),
  mv 11 (t 23)] [22, 23]))))))
 (.seq (.ops [mv 30 (t 10),
 o 31 (.ibin .sub (t 30) (k 1)),
 mv 12 (t 31)] [10, 30, 31])
 (.block 2 (.loop (.seq (.seq (.ops [mv 32 (t 12),
  o 33 (.ibin .geq (t 32) (k 0))] [32])
  (.cond (t 33)
   (.skip)
   (.exit 2)))
  (.seq (.block 3 (.seq (.draw (.take (mv 36 (t 0)) (.take (mv 37 (t 8)) (.take (mv 38 (t 0)) (.take (mv 39 (t 8)) (.take (mv 40 (t 12)) (.take (ad 41 (t 39) (t 40)) (.take (mv 42 (t 0)) (.take (mv 43 (t 8)) (.take (mv 44 (t 12)) (.take (ad 45 (t 43) (t 44)) (.take (o 46 (.iaddr 4 (t 42) (t 45))) (.take (la 47 4 (t 46)) (.take (mv 48 (t 0)) (.take (mv 49 (t 8)) (.take (o 50 (.iaddr 4 (t 48) (t 49))) (.take (la 51 4 (t 50)) (.take (o 52 (.iaddr 4 (t 36) (t 37))) (.alt (st 4 (t 52) (t 47)) false
   (.take (o 53 (.iaddr 4 (t 38) (t 41))) (.alt (st 4 (t 53) (t 51)) false
    (.done)
    (.none)))
   (.none))))))))))))))))))) [36, 37, 38, 39, 40, 41, 42, 43, 44, 45, 46, 47, 48, 49, 50, 51, 52, 53])
  (.ops [mv 54 (t 0),
  mv 55 (t 9),
  mv 56 (t 12),
  mv 57 (t 8),
  mv 58 (t 3),
  ca 59 F.slices_siftDownCmpFunc_api_Id [(t 54), (t 55), (t 56), (t 57), (t 58)]] [54, 55, 56, 57, 58, 59])))
  (.ops [mv 34 (t 12),
  o 35 (.ibin .sub (t 34) (k 1)),
  mv 12 (t 35)] [34, 35])))))))))
def r_slices_heapSortCmpFunc_api_Id : List RRes := []
theorem fo_slices_heapSortCmpFunc_api_Id {args : List Value} {M : Mem} {R : Value → Mem → Prop} (hn : args.length ≤ 60) (h : vfn Try.prog c_slices_heapSortCmpFunc_api_Id r_slices_heapSortCmpFunc_api_Id args M R) : CallsM Try.prog F.slices_heapSortCmpFunc_api_Id args M R :=
  fn_ok (kf := k_slices_heapSortCmpFunc_api_Id) Try.func77 (by kernel_rfl) (by kernel_rfl) hn (by kernel_rfl) h
/-- slices.breakPatternsCmpFunc[portage/api.Id] -/
def k_slices_breakPatternsCmpFunc_api_Id (i : Nat) : List Nat := match i with | 0 => [2, 13, 14, 15] | 1 => [16] | 2 => [18, 19] | 3 => [20, 21] | 4 => [22, 23, 24, 25, 26, 27] | 5 => [28, 29, 30, 31, 32, 33, 34] | 7 => [38, 39, 40, 41, 42] | 8 => [43, 44] | 9 => [46, 47, 48] | 10 => [12, 49, 50, 51, 52, 53, 54, 55, 56, 57, 58, 59, 60, 61, 62, 63, 64, 65, 66] | 6 => [36, 37] | _ => []
def c_slices_breakPatternsCmpFunc_api_Id : RCode :=
 .seq (.ops [mv 13 (t 2),
 mv 14 (t 1),
 o 15 (.ibin .sub (t 13) (t 14)),
 mv 8 (t 15)] [2, 13, 14, 15])
 (.seq (.ops [mv 16 (t 8),
 o 17 (.ibin .geq (t 16) (k 8))] [16])
 (.cond (t 17)
  (.seq (.ops [mv 18 (t 8),
  o 19 (.conv .u64 (t 18)),
  o 9 (.alloc 132 [(.int .u64 0)]),
  st 1 (t 9) (t 19)] [18, 19])
  (.seq (.ops [mv 20 (t 8),
  ca 21 F.slices_nextPowerOfTwo [(t 20)],
  mv 10 (t 21)] [20, 21])
  (.seq (.ops [mv 22 (t 1),
  mv 23 (t 8),
  o 24 (.ibin .quo (t 23) (k 4)),
  o 25 (.ibin .mul (t 24) (k 2)),
  ad 26 (t 22) (t 25),
  o 27 (.ibin .sub (t 26) (k 1)),
  mv 11 (t 27)] [22, 23, 24, 25, 26, 27])
  (.block 0 (.loop (.seq (.seq (.ops [mv 28 (t 11),
   mv 29 (t 1),
   mv 30 (t 8),
   o 31 (.ibin .quo (t 30) (k 4)),
   o 32 (.ibin .mul (t 31) (k 2)),
   ad 33 (t 29) (t 32),
   ad 34 (t 33) (k 1),
   o 35 (.ibin .leq (t 28) (t 34))] [28, 29, 30, 31, 32, 33, 34])
   (.cond (t 35)
    (.skip)
    (.exit 0)))
   (.seq (.block 1 (.seq (.ops [ca 38 F.slices_xorshift_Next [(t 9)],
   mv 39 (t 10),
   o 40 (.ibin .sub (t 39) (.const (.int .u64 1))),
   o 41 (.ibin .and (t 38) (t 40)),
   o 42 (.conv .i64 (t 41)),
   mv 12 (t 42)] [38, 39, 40, 41, 42])
   (.seq (.seq (.ops [mv 43 (t 12),
   mv 44 (t 8),
   o 45 (.ibin .geq (t 43) (t 44))] [43, 44])
   (.cond (t 45)
    (.ops [mv 46 (t 12),
    mv 47 (t 8),
    o 48 (.ibin .sub (t 46) (t 47)),
    mv 12 (t 48)] [46, 47, 48])
    (.skip)))
   (.draw (.take (mv 49 (t 0)) (.take (mv 50 (t 11)) (.take (mv 51 (t 0)) (.take (mv 52 (t 1)) (.take (mv 53 (t 12)) (.take (ad 54 (t 52) (t 53)) (.take (mv 55 (t 0)) (.take (mv 56 (t 1)) (.take (mv 57 (t 12)) (.take (ad 58 (t 56) (t 57)) (.take (o 59 (.iaddr 4 (t 55) (t 58))) (.take (la 60 4 (t 59)) (.take (mv 61 (t 0)) (.take (mv 62 (t 11)) (.take (o 63 (.iaddr 4 (t 61) (t 62))) (.take (la 64 4 (t 63)) (.take (o 65 (.iaddr 4 (t 49) (t 50))) (.alt (st 4 (t 65) (t 60)) false
    (.take (o 66 (.iaddr 4 (t 51) (t 54))) (.alt (st 4 (t 66) (t 64)) false
     (.done)
     (.none)))
    (.none))))))))))))))))))) [12, 49, 50, 51, 52, 53, 54, 55, 56, 57, 58, 59, 60, 61, 62, 63, 64, 65, 66]))))
   (.ops [mv 36 (t 11),
   ad 37 (t 36) (k 1),
   mv 11 (t 37)] [36, 37]))))))))
  (.skip)))
def r_slices_breakPatternsCmpFunc_api_Id : List RRes := []
theorem fo_slices_breakPatternsCmpFunc_api_Id {args : List Value} {M : Mem} {R : Value → Mem → Prop} (hn : args.length ≤ 67) (h : vfn Try.prog c_slices_breakPatternsCmpFunc_api_Id r_slices_breakPatternsCmpFunc_api_Id args M R) : CallsM Try.prog F.slices_breakPatternsCmpFunc_api_Id args M R :=
  fn_ok (kf := k_slices_breakPatternsCmpFunc_api_Id) Try.func78 (by kernel_rfl) (by kernel_rfl) hn (by kernel_rfl) h
/-- slices.choosePivotCmpFunc[portage/api.Id] -/
def k_slices_choosePivotCmpFunc_api_Id (i : Nat) : List Nat := match i with | 0 => [8, 9] | 1 => [2, 15, 16, 17] | 3 => [18, 19, 20, 21, 22] | 4 => [23, 24, 25, 26, 27] | 5 => [1, 28, 29, 30, 31, 32] | 6 => [33] | 7 => [10, 35] | 8 => [37, 38, 39, 40] | 9 => [41, 42, 43, 44] | 10 => [45, 46, 47, 48] | 11 => [0, 3, 12, 14, 49, 50, 51, 52, 53, 54] | 12 => [11] | 14 => [58] | 15 => [13, 59] | 16 => [55, 61] | 17 => [13, 62] | 13 => [13, 56] | _ => []
def c_slices_choosePivotCmpFunc_api_Id : RCode :=
 .seq (.ops [mv 8 (k 0),
 mv 9 (k 0)] [8, 9])
 (.seq (.ops [mv 15 (t 2),
 mv 16 (t 1),
 o 17 (.ibin .sub (t 15) (t 16)),
 mv 10 (t 17)] [2, 15, 16, 17])
 (.seq (.ops [o 11 (.alloc 3 [(i 0)])] [])
 (.seq (.ops [mv 18 (t 1),
 mv 19 (t 10),
 o 20 (.ibin .quo (t 19) (k 4)),
 o 21 (.ibin .mul (t 20) (k 1)),
 ad 22 (t 18) (t 21),
 mv 12 (t 22)] [18, 19, 20, 21, 22])
 (.seq (.ops [mv 23 (t 1),
 mv 24 (t 10),
 o 25 (.ibin .quo (t 24) (k 4)),
 o 26 (.ibin .mul (t 25) (k 2)),
 ad 27 (t 23) (t 26),
 mv 13 (t 27)] [23, 24, 25, 26, 27])
 (.seq (.ops [mv 28 (t 1),
 mv 29 (t 10),
 o 30 (.ibin .quo (t 29) (k 4)),
 o 31 (.ibin .mul (t 30) (k 3)),
 ad 32 (t 28) (t 31),
 mv 14 (t 32)] [1, 28, 29, 30, 31, 32])
 (.seq (.seq (.ops [mv 33 (t 10),
 o 34 (.ibin .geq (t 33) (k 8))] [33])
 (.cond (t 34)
  (.seq (.seq (.ops [mv 35 (t 10),
  o 36 (.ibin .geq (t 35) (k 50))] [10, 35])
  (.cond (t 36)
   (.seq (.ops [mv 37 (t 0),
   mv 38 (t 12),
   mv 39 (t 3),
   ca 40 F.slices_medianAdjacentCmpFunc_api_Id [(t 37), (t 38), (t 11), (t 39)],
   mv 12 (t 40)] [37, 38, 39, 40])
   (.seq (.ops [mv 41 (t 0),
   mv 42 (t 13),
   mv 43 (t 3),
   ca 44 F.slices_medianAdjacentCmpFunc_api_Id [(t 41), (t 42), (t 11), (t 43)],
   mv 13 (t 44)] [41, 42, 43, 44])
   (.ops [mv 45 (t 0),
   mv 46 (t 14),
   mv 47 (t 3),
   ca 48 F.slices_medianAdjacentCmpFunc_api_Id [(t 45), (t 46), (t 11), (t 47)],
   mv 14 (t 48)] [45, 46, 47, 48])))
   (.skip)))
  (.ops [mv 49 (t 0),
  mv 50 (t 12),
  mv 51 (t 13),
  mv 52 (t 14),
  mv 53 (t 3),
  ca 54 F.slices_medianCmpFunc_api_Id [(t 49), (t 50), (t 51), (t 52), (t 11), (t 53)],
  mv 13 (t 54)] [0, 3, 12, 14, 49, 50, 51, 52, 53, 54]))
  (.skip)))
 (.seq (.ops [l1 55 (t 11)] [11])
 (.block 0 (.seq (.ops [o 58 (.ibin .eql (t 55) (k 0)),
 mv 57 (t 58)] [58])
 (.cond (t 57)
  (.seq (.ops [mv 59 (t 13),
  mv 8 (t 59),
  mv 9 (k 1)] [13, 59])
  (.ret))
  (.seq (.ops [o 61 (.ibin .eql (t 55) (k 12)),
  mv 60 (t 61)] [55, 61])
  (.cond (t 60)
   (.seq (.ops [mv 62 (t 13),
   mv 8 (t 62),
   mv 9 (k 2)] [13, 62])
   (.ret))
   (.seq (.ops [mv 56 (t 13),
   mv 8 (t 56),
   mv 9 (k 0)] [13, 56])
   (.ret))))))))))))))
def r_slices_choosePivotCmpFunc_api_Id : List RRes := [.tmp 8, .tmp 9]
theorem fo_slices_choosePivotCmpFunc_api_Id {args : List Value} {M : Mem} {R : Value → Mem → Prop} (hn : args.length ≤ 63) (h : vfn Try.prog c_slices_choosePivotCmpFunc_api_Id r_slices_choosePivotCmpFunc_api_Id args M R) : CallsM Try.prog F.slices_choosePivotCmpFunc_api_Id args M R :=
  fn_ok (kf := k_slices_choosePivotCmpFunc_api_Id) Try.func79 (by kernel_rfl) (by kernel_rfl) hn (by kernel_rfl) h
/-- slices.reverseRangeCmpFunc[portage/api.Id] -/
def k_slices_reverseRangeCmpFunc_api_Id (i : Nat) : List Nat := match i with | 0 => [1, 10] | 1 => [2, 11, 12] | 2 => [13, 14] | 3 => [16, 17, 18, 19, 20, 21, 22, 23, 24, 25, 26, 27, 28, 29] | 4 => [30, 31] | 5 => [32, 33] | _ => []
def c_slices_reverseRangeCmpFunc_api_Id : RCode :=
 .seq (.ops [mv 10 (t 1),
 mv 8 (t 10)] [1, 10])
 (.seq (.ops [mv 11 (t 2),
 o 12 (.ibin .sub (t 11) (k 1)),
 mv 9 (t 12)] [2, 11, 12])
 (.block 0 (.loop (.seq (.seq (.ops [mv 13 (t 8),
  mv 14 (t 9),
  o 15 (.ibin .lss (t 13) (t 14))] [13, 14])
  (.cond (t 15)
   (.skip)
   (.exit 0)))
  (.block 1 (.seq (.draw (.take (mv 16 (t 0)) (.take (mv 17 (t 8)) (.take (mv 18 (t 0)) (.take (mv 19 (t 9)) (.take (mv 20 (t 0)) (.take (mv 21 (t 9)) (.take (o 22 (.iaddr 4 (t 20) (t 21))) (.take (la 23 4 (t 22)) (.take (mv 24 (t 0)) (.take (mv 25 (t 8)) (.take (o 26 (.iaddr 4 (t 24) (t 25))) (.take (la 27 4 (t 26)) (.take (o 28 (.iaddr 4 (t 16) (t 17))) (.alt (st 4 (t 28) (t 23)) false
   (.take (o 29 (.iaddr 4 (t 18) (t 19))) (.alt (st 4 (t 29) (t 27)) false
    (.done)
    (.none)))
   (.none))))))))))))))) [16, 17, 18, 19, 20, 21, 22, 23, 24, 25, 26, 27, 28, 29])
  (.seq (.ops [mv 30 (t 8),
  ad 31 (t 30) (k 1),
  mv 8 (t 31)] [30, 31])
  (.ops [mv 32 (t 9),
  o 33 (.ibin .sub (t 32) (k 1)),
  mv 9 (t 33)] [32, 33]))))))))
def r_slices_reverseRangeCmpFunc_api_Id : List RRes := []
theorem fo_slices_reverseRangeCmpFunc_api_Id {args : List Value} {M : Mem} {R : Value → Mem → Prop} (hn : args.length ≤ 34) (h : vfn Try.prog c_slices_reverseRangeCmpFunc_api_Id r_slices_reverseRangeCmpFunc_api_Id args M R) : CallsM Try.prog F.slices_reverseRangeCmpFunc_api_Id args M R :=
  fn_ok (kf := k_slices_reverseRangeCmpFunc_api_Id) Try.func80 (by kernel_rfl) (by kernel_rfl) hn (by kernel_rfl) h
/-- slices.partialInsertionSortCmpFunc[portage/api.Id] -/
def k_slices_partialInsertionSortCmpFunc_api_Id (i : Nat) : List Nat := match i with | 0 => [8] | 1 => [13, 14] | 3 => [15] | 5 => [19, 20, 21, 22, 23, 24, 25, 26, 27, 28, 29, 30, 31, 32, 33, 34, 35] | 6 => [37, 38] | 7 => [39, 40] | 9 => [42, 43, 44] | 11 => [46, 47, 48, 49, 50, 51, 52, 53, 54, 55, 56, 57, 58, 59, 60, 61] | 12 => [62, 63, 64] | 13 => [66, 67] | 14 => [68] | 16 => [72, 73, 74, 75, 76, 77, 78, 79, 80, 81, 82, 83] | 17 => [85, 86, 87, 88, 89, 90, 91, 92, 93, 94, 95, 96, 97, 98, 99, 100] | 15 => [70, 71] | 18 => [101, 102, 103] | 19 => [105, 106] | 20 => [107, 108] | 22 => [112, 113, 114, 115, 116, 117, 118, 119, 120, 121, 122, 123] | 23 => [125, 126, 127, 128, 129, 130, 131, 132, 133, 134, 135, 136, 137, 138, 139, 140] | 21 => [110, 111] | 4 => [17, 18] | _ => []
def c_slices_partialInsertionSortCmpFunc_api_Id : RCode :=
 .seq (.ops [mv 8 (kb false)] [8])
 (.seq (.ops [mv 13 (t 1),
 ad 14 (t 13) (k 1),
 mv 9 (t 14)] [13, 14])
 (.seq (.seq (.ops [mv 10 (k 0)] [])
 (.block 0 (.loop (.seq (.seq (.ops [mv 15 (t 10),
  o 16 (.ibin .lss (t 15) (k 5))] [15])
  (.cond (t 16)
   (.skip)
   (.exit 0)))
  (.seq (.block 1 (.seq (.block 2 (.loop (.seq (.seq (.draw (.take (mv 19 (t 9)) (.take (mv 20 (t 2)) (.take (o 21 (.ibin .lss (t 19) (t 20))) (.take (os 22 (.mov (t 21))) (.take (gt 22 23 (.mov (t 3))) (.take (gt 22 24 (.mov (t 0))) (.take (gt 22 25 (.mov (t 9))) (.take (gt 22 26 (.iaddr 4 (t 24) (t 25))) (.take (gt 22 27 (.load true 4 (t 26))) (.take (gt 22 28 (.mov (t 0))) (.take (gt 22 29 (.mov (t 9))) (.take (gt 22 30 (.ibin .sub (t 29) (k 1))) (.take (gt 22 31 (.iaddr 4 (t 28) (t 30))) (.take (gt 22 32 (.load true 4 (t 31))) (.alt (gt 22 33 (.call (t 23) [(t 27), (t 32)])) false
    (.take (gt 22 34 (.ibin .lss (t 33) (k 0))) (.take (gt 22 35 (.not (t 34))) (.take (o 36 (.pick (t 22) (t 35) (kb false))) (.done))))
    (.none)))))))))))))))) [19, 20, 21, 22, 23, 24, 25, 26, 27, 28, 29, 30, 31, 32, 33, 34, 35])
   (.cond (t 36)
    (.skip)
    (.exit 2)))
   (.block 3 (.ops [mv 37 (t 9),
   ad 38 (t 37) (k 1),
   mv 9 (t 38)] [37, 38])))))
  (.seq (.seq (.ops [mv 39 (t 9),
  mv 40 (t 2),
  o 41 (.ibin .eql (t 39) (t 40))] [39, 40])
  (.cond (t 41)
   (.seq (.ops [mv 8 (kb true)] [])
   (.ret))
   (.skip)))
  (.seq (.seq (.ops [mv 42 (t 2),
  mv 43 (t 1),
  o 44 (.ibin .sub (t 42) (t 43)),
  o 45 (.ibin .lss (t 44) (k 50))] [42, 43, 44])
  (.cond (t 45)
   (.seq (.ops [mv 8 (kb false)] [])
   (.ret))
   (.skip)))
  (.seq (.draw (.take (mv 46 (t 0)) (.take (mv 47 (t 9)) (.take (mv 48 (t 0)) (.take (mv 49 (t 9)) (.take (o 50 (.ibin .sub (t 49) (k 1))) (.take (mv 51 (t 0)) (.take (mv 52 (t 9)) (.take (o 53 (.ibin .sub (t 52) (k 1))) (.take (o 54 (.iaddr 4 (t 51) (t 53))) (.take (la 55 4 (t 54)) (.take (mv 56 (t 0)) (.take (mv 57 (t 9)) (.take (o 58 (.iaddr 4 (t 56) (t 57))) (.take (la 59 4 (t 58)) (.take (o 60 (.iaddr 4 (t 46) (t 47))) (.alt (st 4 (t 60) (t 55)) false
   (.take (o 61 (.iaddr 4 (t 48) (t 50))) (.alt (st 4 (t 61) (t 59)) false
    (.done)
    (.none)))
   (.none))))))))))))))))) [46, 47, 48, 49, 50, 51, 52, 53, 54, 55, 56, 57, 58, 59, 60, 61])
  (.seq (.seq (.ops [mv 62 (t 9),
  mv 63 (t 1),
  o 64 (.ibin .sub (t 62) (t 63)),
  o 65 (.ibin .geq (t 64) (k 2))] [62, 63, 64])
  (.cond (t 65)
   (.seq (.ops [mv 66 (t 9),
   o 67 (.ibin .sub (t 66) (k 1)),
   mv 11 (t 67)] [66, 67])
   (.block 4 (.loop (.seq (.seq (.ops [mv 68 (t 11),
    o 69 (.ibin .geq (t 68) (k 1))] [68])
    (.cond (t 69)
     (.skip)
     (.exit 4)))
    (.seq (.block 5 (.seq (.seq (.draw (.take (mv 72 (t 3)) (.take (mv 73 (t 0)) (.take (mv 74 (t 11)) (.take (o 75 (.iaddr 4 (t 73) (t 74))) (.take (la 76 4 (t 75)) (.take (mv 77 (t 0)) (.take (mv 78 (t 11)) (.take (o 79 (.ibin .sub (t 78) (k 1))) (.take (o 80 (.iaddr 4 (t 77) (t 79))) (.take (la 81 4 (t 80)) (.alt (o 82 (.call (t 72) [(t 76), (t 81)])) false
     (.take (o 83 (.ibin .lss (t 82) (k 0))) (.take (o 84 (.not (t 83))) (.done)))
     (.none)))))))))))) [72, 73, 74, 75, 76, 77, 78, 79, 80, 81, 82, 83])
    (.cond (t 84)
     (.exit 4)
     (.skip)))
    (.draw (.take (mv 85 (t 0)) (.take (mv 86 (t 11)) (.take (mv 87 (t 0)) (.take (mv 88 (t 11)) (.take (o 89 (.ibin .sub (t 88) (k 1))) (.take (mv 90 (t 0)) (.take (mv 91 (t 11)) (.take (o 92 (.ibin .sub (t 91) (k 1))) (.take (o 93 (.iaddr 4 (t 90) (t 92))) (.take (la 94 4 (t 93)) (.take (mv 95 (t 0)) (.take (mv 96 (t 11)) (.take (o 97 (.iaddr 4 (t 95) (t 96))) (.take (la 98 4 (t 97)) (.take (o 99 (.iaddr 4 (t 85) (t 86))) (.alt (st 4 (t 99) (t 94)) false
     (.take (o 100 (.iaddr 4 (t 87) (t 89))) (.alt (st 4 (t 100) (t 98)) false
      (.done)
      (.none)))
     (.none))))))))))))))))) [85, 86, 87, 88, 89, 90, 91, 92, 93, 94, 95, 96, 97, 98, 99, 100])))
    (.ops [mv 70 (t 11),
    o 71 (.ibin .sub (t 70) (k 1)),
    mv 11 (t 71)] [70, 71]))))))
   (.skip)))
  (.seq (.ops [mv 101 (t 2),
  mv 102 (t 9),
  o 103 (.ibin .sub (t 101) (t 102)),
  o 104 (.ibin .geq (t 103) (k 2))] [101, 102, 103])
  (.cond (t 104)
   (.seq (.ops [mv 105 (t 9),
   ad 106 (t 105) (k 1),
   mv 12 (t 106)] [105, 106])
   (.block 6 (.loop (.seq (.seq (.ops [mv 107 (t 12),
    mv 108 (t 2),
    o 109 (.ibin .lss (t 107) (t 108))] [107, 108])
    (.cond (t 109)
     (.skip)
     (.exit 6)))
    (.seq (.block 7 (.seq (.seq (.draw (.take (mv 112 (t 3)) (.take (mv 113 (t 0)) (.take (mv 114 (t 12)) (.take (o 115 (.iaddr 4 (t 113) (t 114))) (.take (la 116 4 (t 115)) (.take (mv 117 (t 0)) (.take (mv 118 (t 12)) (.take (o 119 (.ibin .sub (t 118) (k 1))) (.take (o 120 (.iaddr 4 (t 117) (t 119))) (.take (la 121 4 (t 120)) (.alt (o 122 (.call (t 112) [(t 116), (t 121)])) false
     (.take (o 123 (.ibin .lss (t 122) (k 0))) (.take (o 124 (.not (t 123))) (.done)))
     (.none)))))))))))) [112, 113, 114, 115, 116, 117, 118, 119, 120, 121, 122, 123])
    (.cond (t 124)
     (.exit 6)
     (.skip)))
    (.draw (.take (mv 125 (t 0)) (.take (mv 126 (t 12)) (.take (mv 127 (t 0)) (.take (mv 128 (t 12)) (.take (o 129 (.ibin .sub (t 128) (k 1))) (.take (mv 130 (t 0)) (.take (mv 131 (t 12)) (.take (o 132 (.ibin .sub (t 131) (k 1))) (.take (o 133 (.iaddr 4 (t 130) (t 132))) (.take (la 134 4 (t 133)) (.take (mv 135 (t 0)) (.take (mv 136 (t 12)) (.take (o 137 (.iaddr 4 (t 135) (t 136))) (.take (la 138 4 (t 137)) (.take (o 139 (.iaddr 4 (t 125) (t 126))) (.alt (st 4 (t 139) (t 134)) false
     (.take (o 140 (.iaddr 4 (t 127) (t 129))) (.alt (st 4 (t 140) (t 138)) false
      (.done)
      (.none)))
     (.none))))))))))))))))) [125, 126, 127, 128, 129, 130, 131, 132, 133, 134, 135, 136, 137, 138, 139, 140])))
    (.ops [mv 110 (t 12),
    ad 111 (t 110) (k 1),
    mv 12 (t 111)] [110, 111]))))))
   (.skip)))))))))
  (.ops [mv 17 (t 10),
  ad 18 (t 17) (k 1),
  mv 10 (t 18)] [17, 18]))))))
 (.seq (.ops [mv 8 (kb false)] [])
 (.ret))))
def r_slices_partialInsertionSortCmpFunc_api_Id : List RRes := [.tmp 8]
theorem fo_slices_partialInsertionSortCmpFunc_api_Id {args : List Value} {M : Mem} {R : Value → Mem → Prop} (hn : args.length ≤ 141) (h : vfn Try.prog c_slices_partialInsertionSortCmpFunc_api_Id r_slices_partialInsertionSortCmpFunc_api_Id args M R) : CallsM Try.prog F.slices_partialInsertionSortCmpFunc_api_Id args M R :=
  fn_ok (kf := k_slices_partialInsertionSortCmpFunc_api_Id) Try.func81 (by kernel_rfl) (by kernel_rfl) hn (by kernel_rfl) h
/-- slices.partitionEqualCmpFunc[portage/api.Id] -/
def k_slices_partitionEqualCmpFunc_api_Id (i : Nat) : List Nat := match i with | 0 => [10] | 1 => [3, 13, 14, 15, 16, 17, 18, 19, 20, 21, 22, 23, 24, 25, 26] | 2 => [2, 27, 28, 29, 30] | 3 => [31, 32, 33, 34, 35, 36, 37, 38, 39, 40, 41, 42, 43, 44, 45, 46] | 4 => [48, 49] | 5 => [50, 51, 52, 53, 54, 55, 56, 57, 58, 59, 60, 61, 62, 63, 64] | 6 => [66, 67] | 7 => [68, 69] | 8 => [71, 72, 73, 74, 75, 76, 77, 78, 79, 80, 81, 82, 83, 84] | 9 => [85, 86] | 10 => [87, 88] | 11 => [11, 89] | _ => []
def c_slices_partitionEqualCmpFunc_api_Id : RCode :=
 .seq (.ops [mv 10 (k 0)] [10])
 (.seq (.draw (.take (mv 13 (t 0)) (.take (mv 14 (t 1)) (.take (mv 15 (t 0)) (.take (mv 16 (t 3)) (.take (mv 17 (t 0)) (.take (mv 18 (t 3)) (.take (o 19 (.iaddr 4 (t 17) (t 18))) (.take (la 20 4 (t 19)) (.take (mv 21 (t 0)) (.take (mv 22 (t 1)) (.take (o 23 (.iaddr 4 (t 21) (t 22))) (.take (la 24 4 (t 23)) (.take (o 25 (.iaddr 4 (t 13) (t 14))) (.alt (st 4 (t 25) (t 20)) false
  (.take (o 26 (.iaddr 4 (t 15) (t 16))) (.alt (st 4 (t 26) (t 24)) false
   (.done)
   (.none)))
  (.none))))))))))))))) [3, 13, 14, 15, 16, 17, 18, 19, 20, 21, 22, 23, 24, 25, 26])
 (.seq (.ops [mv 27 (t 1),
 ad 28 (t 27) (k 1),
 mv 29 (t 2),
 o 30 (.ibin .sub (t 29) (k 1)),
 mv 11 (t 28),
 mv 12 (t 30)] [2, 27, 28, 29, 30])
 (.seq (.block 0 (.loop (.block 1 (.seq (.block 2 (.loop (.seq (.seq (.draw (.take (mv 31 (t 11)) (.take (mv 32 (t 12)) (.take (o 33 (.ibin .leq (t 31) (t 32))) (.take (os 34 (.mov (t 33))) (.take (gt 34 35 (.mov (t 4))) (.take (gt 34 36 (.mov (t 0))) (.take (gt 34 37 (.mov (t 1))) (.take (gt 34 38 (.iaddr 4 (t 36) (t 37))) (.take (gt 34 39 (.load true 4 (t 38))) (.take (gt 34 40 (.mov (t 0))) (.take (gt 34 41 (.mov (t 11))) (.take (gt 34 42 (.iaddr 4 (t 40) (t 41))) (.take (gt 34 43 (.load true 4 (t 42))) (.alt (gt 34 44 (.call (t 35) [(t 39), (t 43)])) false
    (.take (gt 34 45 (.ibin .lss (t 44) (k 0))) (.take (gt 34 46 (.not (t 45))) (.take (o 47 (.pick (t 34) (t 46) (kb false))) (.done))))
    (.none))))))))))))))) [31, 32, 33, 34, 35, 36, 37, 38, 39, 40, 41, 42, 43, 44, 45, 46])
   (.cond (t 47)
    (.skip)
    (.exit 2)))
   (.block 3 (.ops [mv 48 (t 11),
   ad 49 (t 48) (k 1),
   mv 11 (t 49)] [48, 49])))))
  (.seq (.block 4 (.loop (.seq (.seq (.draw (.take (mv 50 (t 11)) (.take (mv 51 (t 12)) (.take (o 52 (.ibin .leq (t 50) (t 51))) (.take (os 53 (.mov (t 52))) (.take (gt 53 54 (.mov (t 4))) (.take (gt 53 55 (.mov (t 0))) (.take (gt 53 56 (.mov (t 1))) (.take (gt 53 57 (.iaddr 4 (t 55) (t 56))) (.take (gt 53 58 (.load true 4 (t 57))) (.take (gt 53 59 (.mov (t 0))) (.take (gt 53 60 (.mov (t 12))) (.take (gt 53 61 (.iaddr 4 (t 59) (t 60))) (.take (gt 53 62 (.load true 4 (t 61))) (.alt (gt 53 63 (.call (t 54) [(t 58), (t 62)])) false
    (.take (gt 53 64 (.ibin .lss (t 63) (k 0))) (.take (o 65 (.pick (t 53) (t 64) (kb false))) (.done)))
    (.none))))))))))))))) [50, 51, 52, 53, 54, 55, 56, 57, 58, 59, 60, 61, 62, 63, 64])
   (.cond (t 65)
    (.skip)
    (.exit 4)))
   (.block 5 (.ops [mv 66 (t 12),
   o 67 (.ibin .sub (t 66) (k 1)),
   mv 12 (t 67)] [66, 67])))))
  (.seq (.seq (.ops [mv 68 (t 11),
  mv 69 (t 12),
  o 70 (.ibin .gtr (t 68) (t 69))] [68, 69])
  (.cond (t 70)
   (.exit 0)
   (.skip)))
  (.seq (.draw (.take (mv 71 (t 0)) (.take (mv 72 (t 11)) (.take (mv 73 (t 0)) (.take (mv 74 (t 12)) (.take (mv 75 (t 0)) (.take (mv 76 (t 12)) (.take (o 77 (.iaddr 4 (t 75) (t 76))) (.take (la 78 4 (t 77)) (.take (mv 79 (t 0)) (.take (mv 80 (t 11)) (.take (o 81 (.iaddr 4 (t 79) (t 80))) (.take (la 82 4 (t 81)) (.take (o 83 (.iaddr 4 (t 71) (t 72))) (.alt (st 4 (t 83) (t 78)) false
   (.take (o 84 (.iaddr 4 (t 73) (t 74))) (.alt (st 4 (t 84) (t 82)) false
    (.done)
    (.none)))
   (.none))))))))))))))) [71, 72, 73, 74, 75, 76, 77, 78, 79, 80, 81, 82, 83, 84])
  (.seq (.ops [mv 85 (t 11),
  ad 86 (t 85) (k 1),
  mv 11 (t 86)] [85, 86])
  (.ops [mv 87 (t 12),
  o 88 (.ibin .sub (t 87) (k 1)),
  mv 12 (t 88)] [87, 88])))))))))
 (.seq (.ops [mv 89 (t 11),
 mv 10 (t 89)] [11, 89])
 (.ret)))))
def r_slices_partitionEqualCmpFunc_api_Id : List RRes := [.tmp 10]
theorem fo_slices_partitionEqualCmpFunc_api_Id {args : List Value} {M : Mem} {R : Value → Mem → Prop} (hn : args.length ≤ 90) (h : vfn Try.prog c_slices_partitionEqualCmpFunc_api_Id r_slices_partitionEqualCmpFunc_api_Id args M R) : CallsM Try.prog F.slices_partitionEqualCmpFunc_api_Id args M R :=
  fn_ok (kf := k_slices_partitionEqualCmpFunc_api_Id) Try.func82 (by kernel_rfl) (by kernel_rfl) hn (by kernel_rfl) h
/-- slices.partitionCmpFunc[portage/api.Id] -/
def k_slices_partitionCmpFunc_api_Id (i : Nat) : List Nat := match i with | 0 => [10, 11] | 1 => [3, 14, 15, 16, 17, 18, 19, 20, 21, 22, 23, 24, 25, 26, 27] | 2 => [2, 28, 29, 30, 31] | 3 => [32, 33, 34, 35, 36, 37, 38, 39, 40, 41, 42, 43, 44, 45, 46] | 4 => [48, 49] | 5 => [50, 51, 52, 53, 54, 55, 56, 57, 58, 59, 60, 61, 62, 63, 64, 65] | 6 => [67, 68] | 7 => [69, 70] | 8 => [0, 1, 72, 73, 74, 75, 76, 77, 78, 79, 80, 81, 82, 83, 84, 85] | 9 => [13, 86] | 10 => [87, 88, 89, 90, 91, 92, 93, 94, 95, 96, 97, 98, 99, 100] | 11 => [101, 102] | 12 => [103, 104] | 13 => [105, 106, 107, 108, 109, 110, 111, 112, 113, 114, 115, 116, 117, 118, 119] | 14 => [121, 122] | 15 => [123, 124, 125, 126, 127, 128, 129, 130, 131, 132, 133, 134, 135, 136, 137, 138] | 16 => [140, 141] | 17 => [142, 143] | 18 => [145, 146, 147, 148, 149, 150, 151, 152, 153, 154, 155, 156, 157, 158] | 19 => [159, 160] | 20 => [161, 162] | 21 => [0, 1, 163, 164, 165, 166, 167, 168, 169, 170, 171, 172, 173, 174, 175, 176] | 22 => [13, 177] | _ => []
def c_slices_partitionCmpFunc_api_Id : RCode :=
 .seq (.ops [mv 10 (k 0),
 mv 11 (kb false)] [10, 11])
 (.seq (.draw (.take (mv 14 (t 0)) (.take (mv 15 (t 1)) (.take (mv 16 (t 0)) (.take (mv 17 (t 3)) (.take (mv 18 (t 0)) (.take (mv 19 (t 3)) (.take (o 20 (.iaddr 4 (t 18) (t 19))) (.take (la 21 4 (t 20)) (.take (mv 22 (t 0)) (.take (mv 23 (t 1)) (.take (o 24 (.iaddr 4 (t 22) (t 23))) (.take (la 25 4 (t 24)) (.take (o 26 (.iaddr 4 (t 14) (t 15))) (.alt (st 4 (t 26) (t 21)) false
  (.take (o 27 (.iaddr 4 (t 16) (t 17))) (.alt (st 4 (t 27) (t 25)) false
   (.done)
   (.none)))
  (.none))))))))))))))) [3, 14, 15, 16, 17, 18, 19, 20, 21, 22, 23, 24, 25, 26, 27])
 (.seq (.ops [mv 28 (t 1),
 ad 29 (t 28) (k 1),
 mv 30 (t 2),
 o 31 (.ibin .sub (t 30) (k 1)),
 mv 12 (t 29),
 mv 13 (t 31)] [2, 28, 29, 30, 31])
 (.seq (.block 0 (.loop (.seq (.seq (.draw (.take (mv 32 (t 12)) (.take (mv 33 (t 13)) (.take (o 34 (.ibin .leq (t 32) (t 33))) (.take (os 35 (.mov (t 34))) (.take (gt 35 36 (.mov (t 4))) (.take (gt 35 37 (.mov (t 0))) (.take (gt 35 38 (.mov (t 12))) (.take (gt 35 39 (.iaddr 4 (t 37) (t 38))) (.take (gt 35 40 (.load true 4 (t 39))) (.take (gt 35 41 (.mov (t 0))) (.take (gt 35 42 (.mov (t 1))) (.take (gt 35 43 (.iaddr 4 (t 41) (t 42))) (.take (gt 35 44 (.load true 4 (t 43))) (.alt (gt 35 45 (.call (t 36) [(t 40), (t 44)])) false
   (.take (gt 35 46 (.ibin .lss (t 45) (k 0))) (.take (o 47 (.pick (t 35) (t 46) (kb false))) (.done)))
   (.none))))))))))))))) [32, 33, 34, 35, 36, 37, 38, 39, 40, 41, 42, 43, 44, 45, 46])
  (.cond (t 47)
   (.skip)
   (.exit 0)))
  (.block 1 (.ops [mv 48 (t 12),
  ad 49 (t 48) (k 1),
  mv 12 (t 49)] [48, 49])))))
 (.seq (.block 2 (.loop (.seq (.seq (.draw (.take (mv 50 (t 12)) (.take (mv 51 (t 13)) (.take (o 52 (.ibin .leq (t 50) (t 51))) (.take (os 53 (.mov (t 52))) (.take (gt 53 54 (.mov (t 4))) (.take (gt 53 55 (.mov (t 0))) (.take (gt 53 56 (.mov (t 13))) (.take (gt 53 57 (.iaddr 4 (t 55) (t 56))) (.take (gt 53 58 (.load true 4 (t 57))) (.take (gt 53 59 (.mov (t 0))) (.take (gt 53 60 (.mov (t 1))) (.take (gt 53 61 (.iaddr 4 (t 59) (t 60))) (.take (gt 53 62 (.load true 4 (t 61))) (.alt (gt 53 63 (.call (t 54) [(t 58), (t 62)])) false
   (.take (gt 53 64 (.ibin .lss (t 63) (k 0))) (.take (gt 53 65 (.not (t 64))) (.take (o 66 (.pick (t 53) (t 65) (kb false))) (.done))))
   (.none))))))))))))))) [50, 51, 52, 53, 54, 55, 56, 57, 58, 59, 60, 61, 62, 63, 64, 65])
  (.cond (t 66)
   (.skip)
   (.exit 2)))
  (.block 3 (.ops [mv 67 (t 13),
  o 68 (.ibin .sub (t 67) (k 1)),
  mv 13 (t 68)] [67, 68])))))
 (.seq (.seq (.ops [mv 69 (t 12),
 mv 70 (t 13),
 o 71 (.ibin .gtr (t 69) (t 70))] [69, 70])
 (.cond (t 71)
  (.seq (.draw (.take (mv 72 (t 0)) (.take (mv 73 (t 13)) (.take (mv 74 (t 0)) (.take (mv 75 (t 1)) (.take (mv 76 (t 0)) (.take (mv 77 (t 1)) (.take (o 78 (.iaddr 4 (t 76) (t 77))) (.take (la 79 4 (t 78)) (.take (mv 80 (t 0)) (.take (mv 81 (t 13)) (.take (o 82 (.iaddr 4 (t 80) (t 81))) (.take (la 83 4 (t 82)) (.take (o 84 (.iaddr 4 (t 72) (t 73))) (.alt (st 4 (t 84) (t 79)) false
   (.take (o 85 (.iaddr 4 (t 74) (t 75))) (.alt (st 4 (t 85) (t 83)) false
    (.done)
    (.none)))
   (.none))))))))))))))) [0, 1, 72, 73, 74, 75, 76, 77, 78, 79, 80, 81, 82, 83, 84, 85])
  (.seq (.ops [mv 86 (t 13),
  mv 10 (t 86),
  mv 11 (kb true)] [13, 86])
  (.ret)))
  (.skip)))
 (.seq (.draw (.take (mv 87 (t 0)) (.take (mv 88 (t 12)) (.take (mv 89 (t 0)) (.take (mv 90 (t 13)) (.take (mv 91 (t 0)) (.take (mv 92 (t 13)) (.take (o 93 (.iaddr 4 (t 91) (t 92))) (.take (la 94 4 (t 93)) (.take (mv 95 (t 0)) (.take (mv 96 (t 12)) (.take (o 97 (.iaddr 4 (t 95) (t 96))) (.take (la 98 4 (t 97)) (.take (o 99 (.iaddr 4 (t 87) (t 88))) (.alt (st 4 (t 99) (t 94)) false
  (.take (o 100 (.iaddr 4 (t 89) (t 90))) (.alt (st 4 (t 100) (t 98)) false
   (.done)
   (.none)))
  (.none))))))))))))))) [87, 88, 89, 90, 91, 92, 93, 94, 95, 96, 97, 98, 99, 100])
 (.seq (.ops [mv 101 (t 12),
 ad 102 (t 101) (k 1),
 mv 12 (t 102)] [101, 102])
 (.seq (.ops [mv 103 (t 13),
 o 104 (.ibin .sub (t 103) (k 1)),
 mv 13 (t 104)] [103, 104])
 (.seq (.block 4 (.loop (.block 5 (.seq (.block 6 (.loop (.seq (.seq (.draw (.take (mv 105 (t 12)) (.take (mv 106 (t 13)) (.take (o 107 (.ibin .leq (t 105) (t 106))) (.take (os 108 (.mov (t 107))) (.take (gt 108 109 (.mov (t 4))) (.take (gt 108 110 (.mov (t 0))) (.take (gt 108 111 (.mov (t 12))) (.take (gt 108 112 (.iaddr 4 (t 110) (t 111))) (.take (gt 108 113 (.load true 4 (t 112))) (.take (gt 108 114 (.mov (t 0))) (.take (gt 108 115 (.mov (t 1))) (.take (gt 108 116 (.iaddr 4 (t 114) (t 115))) (.take (gt 108 117 (.load true 4 (t 116))) (.alt (gt 108 118 (.call (t 109) [(t 113), (t 117)])) false
    (.take (gt 108 119 (.ibin .lss (t 118) (k 0))) (.take (o 120 (.pick (t 108) (t 119) (kb false))) (.done)))
    (.none))))))))))))))) [105, 106, 107, 108, 109, 110, 111, 112, 113, 114, 115, 116, 117, 118, 119])
   (.cond (t 120)
    (.skip)
    (.exit 6)))
   (.block 7 (.ops [mv 121 (t 12),
   ad 122 (t 121) (k 1),
   mv 12 (t 122)] [121, 122])))))
  (.seq (.block 8 (.loop (.seq (.seq (.draw (.take (mv 123 (t 12)) (.take (mv 124 (t 13)) (.take (o 125 (.ibin .leq (t 123) (t 124))) (.take (os 126 (.mov (t 125))) (.take (gt 126 127 (.mov (t 4))) (.take (gt 126 128 (.mov (t 0))) (.take (gt 126 129 (.mov (t 13))) (.take (gt 126 130 (.iaddr 4 (t 128) (t 129))) (.take (gt 126 131 (.load true 4 (t 130))) (.take (gt 126 132 (.mov (t 0))) (.take (gt 126 133 (.mov (t 1))) (.take (gt 126 134 (.iaddr 4 (t 132) (t 133))) (.take (gt 126 135 (.load true 4 (t 134))) (.alt (gt 126 136 (.call (t 127) [(t 131), (t 135)])) false
    (.take (gt 126 137 (.ibin .lss (t 136) (k 0))) (.take (gt 126 138 (.not (t 137))) (.take (o 139 (.pick (t 126) (t 138) (kb false))) (.done))))
    (.none))))))))))))))) [123, 124, 125, 126, 127, 128, 129, 130, 131, 132, 133, 134, 135, 136, 137, 138])
   (.cond (t 139)
    (.skip)
    (.exit 8)))
   (.block 9 (.ops [mv 140 (t 13),
   o 141 (.ibin .sub (t 140) (k 1)),
   mv 13 (t 141)] [140, 141])))))
  (.seq (.seq (.ops [mv 142 (t 12),
  mv 143 (t 13),
  o 144 (.ibin .gtr (t 142) (t 143))] [142, 143])
  (.cond (t 144)
   (.exit 4)
   (.skip)))
  (.seq (.draw (.take (mv 145 (t 0)) (.take (mv 146 (t 12)) (.take (mv 147 (t 0)) (.take (mv 148 (t 13)) (.take (mv 149 (t 0)) (.take (mv 150 (t 13)) (.take (o 151 (.iaddr 4 (t 149) (t 150))) (.take (la 152 4 (t 151)) (.take (mv 153 (t 0)) (.take (mv 154 (t 12)) (.take (o 155 (.iaddr 4 (t 153) (t 154))) (.take (la 156 4 (t 155)) (.take (o 157 (.iaddr 4 (t 145) (t 146))) (.alt (st 4 (t 157) (t 152)) false
   (.take (o 158 (.iaddr 4 (t 147) (t 148))) (.alt (st 4 (t 158) (t 156)) false
    (.done)
    (.none)))
   (.none))))))))))))))) [145, 146, 147, 148, 149, 150, 151, 152, 153, 154, 155, 156, 157, 158])
  (.seq (.ops [mv 159 (t 12),
  ad 160 (t 159) (k 1),
  mv 12 (t 160)] [159, 160])
  (.ops [mv 161 (t 13),
  o 162 (.ibin .sub (t 161) (k 1)),
  mv 13 (t 162)] [161, 162])))))))))
 (.seq (.draw (.take (mv 163 (t 0)) (.take (mv 164 (t 13)) (.take (mv 165 (t 0)) (.take (mv 166 (t 1)) (.take (mv 167 (t 0)) (.take (mv 168 (t 1)) (.take (o 169 (.iaddr 4 (t 167) (t 168))) (.take (la 170 4 (t 169)) (.take (mv 171 (t 0)) (.take (mv 172 (t 13)) (.take (o 173 (.iaddr 4 (t 171) (t 172))) (.take (la 174 4 (t 173)) (.take (o 175 (.iaddr 4 (t 163) (t 164))) (.alt (st 4 (t 175) (t 170)) false
  (.take (o 176 (.iaddr 4 (t 165) (t 166))) (.alt (st 4 (t 176) (t 174)) false
   (.done)
   (.none)))
  (.none))))))))))))))) [0, 1, 163, 164, 165, 166, 167, 168, 169, 170, 171, 172, 173, 174, 175, 176])
 (.seq (.ops [mv 177 (t 13),
 mv 10 (t 177),
 mv 11 (kb false)] [13, 177])
 (.ret))))))))))))
def r_slices_partitionCmpFunc_api_Id : List RRes := [.tmp 10, .tmp 11]
theorem fo_slices_partitionCmpFunc_api_Id {args : List Value} {M : Mem} {R : Value → Mem → Prop} (hn : args.length ≤ 178) (h : vfn Try.prog c_slices_partitionCmpFunc_api_Id r_slices_partitionCmpFunc_api_Id args M R) : CallsM Try.prog F.slices_partitionCmpFunc_api_Id args M R :=
  fn_ok (kf := k_slices_partitionCmpFunc_api_Id) Try.func83 (by kernel_rfl) (by kernel_rfl) hn (by kernel_rfl) h
/-- math/bits.Len32 -/
def k_math_bits_Len32 (i : Nat) : List Nat := match i with | 1 => [3] | 2 => [5, 6] | 4 => [7] | 5 => [9, 10] | 6 => [11, 12] | 7 => [0, 13, 14, 15, 16, 17, 18] | _ => []
def c_math_bits_Len32 : RCode :=
 .seq (.ops [mv 2 (k 0)] [])
 (.seq (.seq (.ops [mv 3 (t 0),
 o 4 (.ibin .geq (t 3) (.const (.int .u32 65536)))] [3])
 (.cond (t 4)
  (.seq (.ops [mv 5 (t 0),
  o 6 (.ibin .shr (t 5) (.const (.int .u64 16))),
  mv 0 (t 6)] [5, 6])
  (.ops [mv 2 (k 16)] []))
  (.skip)))
 (.seq (.seq (.ops [mv 7 (t 0),
 o 8 (.ibin .geq (t 7) (.const (.int .u32 256)))] [7])
 (.cond (t 8)
  (.seq (.ops [mv 9 (t 0),
  o 10 (.ibin .shr (t 9) (.const (.int .u64 8))),
  mv 0 (t 10)] [9, 10])
  (.ops [mv 11 (t 2),
  ad 12 (t 11) (k 8),
  mv 2 (t 12)] [11, 12]))
  (.skip)))
 (.seq (.ops [mv 13 (t 2),
 mv 14 (t 0),
 o 15 (.conv .u8 (t 14)),
 o 16 (.sidx (.const (.string ⟨#[0, 1, 2, 2, 3, 3, 3, 3, 4, 4, 4, 4, 4, 4, 4, 4, 5, 5, 5, 5, 5, 5, 5, 5, 5, 5, 5, 5, 5, 5, 5, 5, 6, 6, 6, 6, 6, 6, 6, 6, 6, 6, 6, 6, 6, 6, 6, 6, 6, 6, 6, 6, 6, 6, 6, 6, 6, 6, 6, 6, 6, 6, 6, 6, 7, 7, 7, 7, 7, 7, 7, 7, 7, 7, 7, 7, 7, 7, 7, 7, 7, 7, 7, 7, 7, 7, 7, 7, 7, 7, 7, 7, 7, 7, 7, 7, 7, 7, 7, 7, 7, 7, 7, 7, 7, 7, 7, 7, 7, 7, 7, 7, 7, 7, 7, 7, 7, 7, 7, 7, 7, 7, 7, 7, 7, 7, 7, 7, 8, 8, 8, 8, 8, 8, 8, 8, 8, 8, 8, 8, 8, 8, 8, 8, 8, 8, 8, 8, 8, 8, 8, 8, 8, 8, 8, 8, 8, 8, 8, 8, 8, 8, 8, 8, 8, 8, 8, 8, 8, 8, 8, 8, 8, 8, 8, 8, 8, 8, 8, 8, 8, 8, 8, 8, 8, 8, 8, 8, 8, 8, 8, 8, 8, 8, 8, 8, 8, 8, 8, 8, 8, 8, 8, 8, 8, 8, 8, 8, 8, 8, 8, 8, 8, 8, 8, 8, 8, 8, 8, 8, 8, 8, 8, 8, 8, 8, 8, 8, 8, 8, 8, 8, 8, 8, 8, 8, 8, 8, 8, 8, 8, 8, 8, 8, 8, 8, 8, 8, 8, 8, 8, 8, 8, 8, 8, 8]⟩)) (t 15)),
 o 17 (.conv .i64 (t 16)),
 ad 18 (t 13) (t 17),
 mv 2 (t 18)] [0, 13, 14, 15, 16, 17, 18])
 (.ret))))
def r_math_bits_Len32 : List RRes := [.tmp 2]
theorem fo_math_bits_Len32 {args : List Value} {M : Mem} {R : Value → Mem → Prop} (hn : args.length ≤ 19) (h : vfn Try.prog c_math_bits_Len32 r_math_bits_Len32 args M R) : CallsM Try.prog F.math_bits_Len32 args M R :=
  fn_ok (kf := k_math_bits_Len32) Try.func84 (by kernel_rfl) (by kernel_rfl) hn (by kernel_rfl) h
/-- math/bits.Len64 -/
def k_math_bits_Len64 (i : Nat) : List Nat := match i with | 1 => [3] | 2 => [5, 6] | 4 => [7] | 5 => [9, 10] | 6 => [11, 12] | 7 => [13] | 8 => [15, 16] | 9 => [17, 18] | 10 => [0, 19, 20, 21, 22, 23, 24] | _ => []
def c_math_bits_Len64 : RCode :=
 .seq (.ops [mv 2 (k 0)] [])
 (.seq (.seq (.ops [mv 3 (t 0),
 o 4 (.ibin .geq (t 3) (.const (.int .u64 4294967296)))] [3])
 (.cond (t 4)
  (.seq (.ops [mv 5 (t 0),
  o 6 (.ibin .shr (t 5) (.const (.int .u64 32))),
  mv 0 (t 6)] [5, 6])
  (.ops [mv 2 (k 32)] []))
  (.skip)))
 (.seq (.seq (.ops [mv 7 (t 0),
 o 8 (.ibin .geq (t 7) (.const (.int .u64 65536)))] [7])
 (.cond (t 8)
  (.seq (.ops [mv 9 (t 0),
  o 10 (.ibin .shr (t 9) (.const (.int .u64 16))),
  mv 0 (t 10)] [9, 10])
  (.ops [mv 11 (t 2),
  ad 12 (t 11) (k 16),
  mv 2 (t 12)] [11, 12]))
  (.skip)))
 (.seq (.seq (.ops [mv 13 (t 0),
 o 14 (.ibin .geq (t 13) (.const (.int .u64 256)))] [13])
 (.cond (t 14)
  (.seq (.ops [mv 15 (t 0),
  o 16 (.ibin .shr (t 15) (.const (.int .u64 8))),
  mv 0 (t 16)] [15, 16])
  (.ops [mv 17 (t 2),
  ad 18 (t 17) (k 8),
  mv 2 (t 18)] [17, 18]))
  (.skip)))
 (.seq (.ops [mv 19 (t 2),
 mv 20 (t 0),
 o 21 (.conv .u8 (t 20)),
 o 22 (.sidx (.const (.string ⟨#[0, 1, 2, 2, 3, 3, 3, 3, 4, 4, 4, 4, 4, 4, 4, 4, 5, 5, 5, 5, 5, 5, 5, 5, 5, 5, 5, 5, 5, 5, 5, 5, 6, 6, 6, 6, 6, 6, 6, 6, 6, 6, 6, 6, 6, 6, 6, 6, 6, 6, 6, 6, 6, 6, 6, 6, 6, 6, 6, 6, 6, 6, 6, 6, 7, 7, 7, 7, 7, 7, 7, 7, 7, 7, 7, 7, 7, 7, 7, 7, 7, 7, 7, 7, 7, 7, 7, 7, 7, 7, 7, 7, 7, 7, 7, 7, 7, 7, 7, 7, 7, 7, 7, 7, 7, 7, 7, 7, 7, 7, 7, 7, 7, 7, 7, 7, 7, 7, 7, 7, 7, 7, 7, 7, 7, 7, 7, 7, 8, 8, 8, 8, 8, 8, 8, 8, 8, 8, 8, 8, 8, 8, 8, 8, 8, 8, 8, 8, 8, 8, 8, 8, 8, 8, 8, 8, 8, 8, 8, 8, 8, 8, 8, 8, 8, 8, 8, 8, 8, 8, 8, 8, 8, 8, 8, 8, 8, 8, 8, 8, 8, 8, 8, 8, 8, 8, 8, 8, 8, 8, 8, 8, 8, 8, 8, 8, 8, 8, 8, 8, 8, 8, 8, 8, 8, 8, 8, 8, 8, 8, 8, 8, 8, 8, 8, 8, 8, 8, 8, 8, 8, 8, 8, 8, 8, 8, 8, 8, 8, 8, 8, 8, 8, 8, 8, 8, 8, 8, 8, 8, 8, 8, 8, 8, 8, 8, 8, 8, 8, 8, 8, 8, 8, 8, 8, 8]⟩)) (t 21)),
 o 23 (.conv .i64 (t 22)),
 ad 24 (t 19) (t 23),
 mv 2 (t 24)] [0, 19, 20, 21, 22, 23, 24])
 (.ret)))))
def r_math_bits_Len64 : List RRes := [.tmp 2]
theorem fo_math_bits_Len64 {args : List Value} {M : Mem} {R : Value → Mem → Prop} (hn : args.length ≤ 25) (h : vfn Try.prog c_math_bits_Len64 r_math_bits_Len64 args M R) : CallsM Try.prog F.math_bits_Len64 args M R :=
  fn_ok (kf := k_math_bits_Len64) Try.func85 (by kernel_rfl) (by kernel_rfl) hn (by kernel_rfl) h
/-- portage/portageref13.Numbers -/
def k_ref13_Numbers (i : Nat) : List Nat := match i with | 0 => [0, 2] | 1 => [1, 3, 4, 5, 6, 7, 8, 9, 10, 11] | _ => []
def c_ref13_Numbers : RCode :=
 .seq (.ops [o 1 (.box 23 (t 0)),
 mv 2 (.const sn)] [0, 2])
 (.seq (.ops [fa 3 0 (t 1),
 l1 4 (t 3),
 fa 5 1 (t 1),
 l1 6 (t 5),
 fa 7 2 (t 1),
 l1 8 (t 7),
 fa 9 3 (t 1),
 l1 10 (t 9),
 o 11 (.mkSl false 3 4 [(i 0), (i 0), (i 0), (i 0)] [(0, 1, (t 4)), (1, 1, (t 6)), (2, 1, (t 8)), (3, 1, (t 10))]),
 mv 2 (t 11)] [1, 3, 4, 5, 6, 7, 8, 9, 10, 11])
 (.ret))
def r_ref13_Numbers : List RRes := [.tmp 2]
theorem fo_ref13_Numbers {args : List Value} {M : Mem} {R : Value → Mem → Prop} (hn : args.length ≤ 12) (h : vfn Try.prog c_ref13_Numbers r_ref13_Numbers args M R) : CallsM Try.prog F.ref13_Numbers args M R :=
  fn_ok (kf := k_ref13_Numbers) Try.func86 (by kernel_rfl) (by kernel_rfl) hn (by kernel_rfl) h
/-- slices.siftDownCmpFunc[portage/api.Id] -/
def k_slices_siftDownCmpFunc_api_Id (i : Nat) : List Nat := match i with | 0 => [1, 12] | 1 => [13, 14, 15] | 2 => [16, 17] | 3 => [19, 20, 21, 22, 23, 24, 25, 26, 27, 28, 29, 30, 31, 32, 33, 34, 35, 36, 37, 38, 39] | 4 => [41, 42] | 5 => [43, 44, 45, 46, 47, 48, 49, 50, 51, 52, 53, 54, 55, 56, 57] | 6 => [10, 59, 60, 61, 62, 63, 64, 65, 66, 67, 68, 69, 70, 71, 72, 73, 74, 75, 76, 77, 78, 79, 80] | 7 => [11, 81] | _ => []
def c_slices_siftDownCmpFunc_api_Id : RCode :=
 .seq (.ops [mv 12 (t 1),
 mv 10 (t 12)] [1, 12])
 (.block 0 (.loop (.block 1 (.seq (.ops [mv 13 (t 10),
  o 14 (.ibin .mul (k 2) (t 13)),
  ad 15 (t 14) (k 1),
  mv 11 (t 15)] [13, 14, 15])
  (.seq (.seq (.ops [mv 16 (t 11),
  mv 17 (t 2),
  o 18 (.ibin .geq (t 16) (t 17))] [16, 17])
  (.cond (t 18)
   (.exit 0)
   (.skip)))
  (.seq (.seq (.draw (.take (mv 19 (t 11)) (.take (ad 20 (t 19) (k 1)) (.take (mv 21 (t 2)) (.take (o 22 (.ibin .lss (t 20) (t 21))) (.take (os 23 (.mov (t 22))) (.take (gt 23 24 (.mov (t 4))) (.take (gt 23 25 (.mov (t 0))) (.take (gt 23 26 (.mov (t 3))) (.take (gt 23 27 (.mov (t 11))) (.take (gt 23 28 (.ibin .add (t 26) (t 27))) (.take (gt 23 29 (.iaddr 4 (t 25) (t 28))) (.take (gt 23 30 (.load true 4 (t 29))) (.take (gt 23 31 (.mov (t 0))) (.take (gt 23 32 (.mov (t 3))) (.take (gt 23 33 (.mov (t 11))) (.take (gt 23 34 (.ibin .add (t 32) (t 33))) (.take (gt 23 35 (.ibin .add (t 34) (k 1))) (.take (gt 23 36 (.iaddr 4 (t 31) (t 35))) (.take (gt 23 37 (.load true 4 (t 36))) (.alt (gt 23 38 (.call (t 24) [(t 30), (t 37)])) false
   (.take (gt 23 39 (.ibin .lss (t 38) (k 0))) (.take (o 40 (.pick (t 23) (t 39) (kb false))) (.done)))
   (.none))))))))))))))))))))) [19, 20, 21, 22, 23, 24, 25, 26, 27, 28, 29, 30, 31, 32, 33, 34, 35, 36, 37, 38, 39])
  (.cond (t 40)
   (.ops [mv 41 (t 11),
   ad 42 (t 41) (k 1),
   mv 11 (t 42)] [41, 42])
   (.skip)))
  (.seq (.seq (.draw (.take (mv 43 (t 4)) (.take (mv 44 (t 0)) (.take (mv 45 (t 3)) (.take (mv 46 (t 10)) (.take (ad 47 (t 45) (t 46)) (.take (o 48 (.iaddr 4 (t 44) (t 47))) (.take (la 49 4 (t 48)) (.take (mv 50 (t 0)) (.take (mv 51 (t 3)) (.take (mv 52 (t 11)) (.take (ad 53 (t 51) (t 52)) (.take (o 54 (.iaddr 4 (t 50) (t 53))) (.take (la 55 4 (t 54)) (.alt (o 56 (.call (t 43) [(t 49), (t 55)])) false
   (.take (o 57 (.ibin .lss (t 56) (k 0))) (.take (o 58 (.not (t 57))) (.done)))
   (.none))))))))))))))) [43, 44, 45, 46, 47, 48, 49, 50, 51, 52, 53, 54, 55, 56, 57])
  (.cond (t 58)
   (.ret)
   (.skip)))
  (.seq (.draw (.take (mv 59 (t 0)) (.take (mv 60 (t 3)) (.take (mv 61 (t 10)) (.take (ad 62 (t 60) (t 61)) (.take (mv 63 (t 0)) (.take (mv 64 (t 3)) (.take (mv 65 (t 11)) (.take (ad 66 (t 64) (t 65)) (.take (mv 67 (t 0)) (.take (mv 68 (t 3)) (.take (mv 69 (t 11)) (.take (ad 70 (t 68) (t 69)) (.take (o 71 (.iaddr 4 (t 67) (t 70))) (.take (la 72 4 (t 71)) (.take (mv 73 (t 0)) (.take (mv 74 (t 3)) (.take (mv 75 (t 10)) (.take (ad 76 (t 74) (t 75)) (.take (o 77 (.iaddr 4 (t 73) (t 76))) (.take (la 78 4 (t 77)) (.take (o 79 (.iaddr 4 (t 59) (t 62))) (.alt (st 4 (t 79) (t 72)) false
   (.take (o 80 (.iaddr 4 (t 63) (t 66))) (.alt (st 4 (t 80) (t 78)) false
    (.done)
    (.none)))
   (.none))))))))))))))))))))))) [10, 59, 60, 61, 62, 63, 64, 65, 66, 67, 68, 69, 70, 71, 72, 73, 74, 75, 76, 77, 78, 79, 80])
  (.ops [mv 81 (t 11),
  mv 10 (t 81)] [11, 81])))))))))
def r_slices_siftDownCmpFunc_api_Id : List RRes := []
theorem fo_slices_siftDownCmpFunc_api_Id {args : List Value} {M : Mem} {R : Value → Mem → Prop} (hn : args.length ≤ 82) (h : vfn Try.prog c_slices_siftDownCmpFunc_api_Id r_slices_siftDownCmpFunc_api_Id args M R) : CallsM Try.prog F.slices_siftDownCmpFunc_api_Id args M R :=
  fn_ok (kf := k_slices_siftDownCmpFunc_api_Id) Try.func87 (by kernel_rfl) (by kernel_rfl) hn (by kernel_rfl) h
/-- slices.nextPowerOfTwo -/
def k_slices_nextPowerOfTwo (i : Nat) : List Nat := match i with | 0 => [2] | 1 => [0, 3, 4, 5, 6] | _ => []
def c_slices_nextPowerOfTwo : RCode :=
 .seq (.ops [mv 2 (.const (.int .u64 0))] [2])
 (.seq (.ops [mv 3 (t 0),
 o 4 (.conv .u64 (t 3)),
 ca 5 F.math_bits_Len [(t 4)],
 o 6 (.ibin .shl (.const (.int .u64 1)) (t 5)),
 mv 2 (t 6)] [0, 3, 4, 5, 6])
 (.ret))
def r_slices_nextPowerOfTwo : List RRes := [.tmp 2]
theorem fo_slices_nextPowerOfTwo {args : List Value} {M : Mem} {R : Value → Mem → Prop} (hn : args.length ≤ 7) (h : vfn Try.prog c_slices_nextPowerOfTwo r_slices_nextPowerOfTwo args M R) : CallsM Try.prog F.slices_nextPowerOfTwo args M R :=
  fn_ok (kf := k_slices_nextPowerOfTwo) Try.func88 (by kernel_rfl) (by kernel_rfl) hn (by kernel_rfl) h
/-- (*slices.xorshift).Next -/
def k_slices_xorshift_Next (i : Nat) : List Nat := match i with | 0 => [2] | 1 => [3, 4, 5, 6, 7, 8, 9, 10, 11] | 2 => [12, 13, 14, 15, 16, 17, 18, 19, 20] | 3 => [21, 22, 23, 24, 25, 26, 27, 28, 29] | 4 => [0, 30, 31, 32] | _ => []
def c_slices_xorshift_Next : RCode :=
 .seq (.ops [mv 2 (.const (.int .u64 0))] [2])
 (.seq (.draw (.take (mv 3 (t 0)) (.take (o 4 (.nilck (t 3))) (.take (l1 5 (t 4)) (.take (mv 6 (t 0)) (.take (o 7 (.nilck (t 6))) (.take (l1 8 (t 7)) (.take (o 9 (.ibin .shl (t 8) (.const (.int .u64 13)))) (.take (o 10 (.ibin .xor (t 5) (t 9))) (.take (o 11 (.nilck (t 3))) (.alt (st 1 (t 11) (t 10)) false
  (.done)
  (.none))))))))))) [3, 4, 5, 6, 7, 8, 9, 10, 11])
 (.seq (.draw (.take (mv 12 (t 0)) (.take (o 13 (.nilck (t 12))) (.take (l1 14 (t 13)) (.take (mv 15 (t 0)) (.take (o 16 (.nilck (t 15))) (.take (l1 17 (t 16)) (.take (o 18 (.ibin .shr (t 17) (.const (.int .u64 7)))) (.take (o 19 (.ibin .xor (t 14) (t 18))) (.take (o 20 (.nilck (t 12))) (.alt (st 1 (t 20) (t 19)) false
  (.done)
  (.none))))))))))) [12, 13, 14, 15, 16, 17, 18, 19, 20])
 (.seq (.draw (.take (mv 21 (t 0)) (.take (o 22 (.nilck (t 21))) (.take (l1 23 (t 22)) (.take (mv 24 (t 0)) (.take (o 25 (.nilck (t 24))) (.take (l1 26 (t 25)) (.take (o 27 (.ibin .shl (t 26) (.const (.int .u64 17)))) (.take (o 28 (.ibin .xor (t 23) (t 27))) (.take (o 29 (.nilck (t 21))) (.alt (st 1 (t 29) (t 28)) false
  (.done)
  (.none))))))))))) [21, 22, 23, 24, 25, 26, 27, 28, 29])
 (.seq (.ops [mv 30 (t 0),
 o 31 (.nilck (t 30)),
 l1 32 (t 31),
 mv 2 (t 32)] [0, 30, 31, 32])
 (.ret)))))
def r_slices_xorshift_Next : List RRes := [.tmp 2]
theorem fo_slices_xorshift_Next {args : List Value} {M : Mem} {R : Value → Mem → Prop} (hn : args.length ≤ 33) (h : vfn Try.prog c_slices_xorshift_Next r_slices_xorshift_Next args M R) : CallsM Try.prog F.slices_xorshift_Next args M R :=
  fn_ok (kf := k_slices_xorshift_Next) Try.func89 (by kernel_rfl) (by kernel_rfl) hn (by kernel_rfl) h
/-- slices.medianAdjacentCmpFunc[portage/api.Id] -/
def k_slices_medianAdjacentCmpFunc_api_Id (i : Nat) : List Nat := match i with | 0 => [8] | 1 => [0, 1, 2, 3, 9, 10, 11, 12, 13, 14, 15, 16, 17] | _ => []
def c_slices_medianAdjacentCmpFunc_api_Id : RCode :=
 .seq (.ops [mv 8 (k 0)] [8])
 (.seq (.ops [mv 9 (t 0),
 mv 10 (t 1),
 o 11 (.ibin .sub (t 10) (k 1)),
 mv 12 (t 1),
 mv 13 (t 1),
 ad 14 (t 13) (k 1),
 mv 15 (t 2),
 mv 16 (t 3),
 ca 17 F.slices_medianCmpFunc_api_Id [(t 9), (t 11), (t 12), (t 14), (t 15), (t 16)],
 mv 8 (t 17)] [0, 1, 2, 3, 9, 10, 11, 12, 13, 14, 15, 16, 17])
 (.ret))
def r_slices_medianAdjacentCmpFunc_api_Id : List RRes := [.tmp 8]
theorem fo_slices_medianAdjacentCmpFunc_api_Id {args : List Value} {M : Mem} {R : Value → Mem → Prop} (hn : args.length ≤ 18) (h : vfn Try.prog c_slices_medianAdjacentCmpFunc_api_Id r_slices_medianAdjacentCmpFunc_api_Id args M R) : CallsM Try.prog F.slices_medianAdjacentCmpFunc_api_Id args M R :=
  fn_ok (kf := k_slices_medianAdjacentCmpFunc_api_Id) Try.func90 (by kernel_rfl) (by kernel_rfl) hn (by kernel_rfl) h
/-- slices.medianCmpFunc[portage/api.Id] -/
def k_slices_medianCmpFunc_api_Id (i : Nat) : List Nat := match i with | 0 => [12] | 1 => [13, 14, 15, 16, 17, 18, 19, 20, 21] | 2 => [3, 22, 23, 24, 25, 26, 27, 28, 29, 30] | 3 => [0, 1, 4, 5, 31, 32, 33, 34, 35, 36, 37, 38, 39] | 4 => [2, 40] | _ => []
def c_slices_medianCmpFunc_api_Id : RCode :=
 .seq (.ops [mv 12 (k 0)] [12])
 (.seq (.ops [mv 14 (t 0),
 mv 15 (t 1),
 mv 16 (t 2),
 mv 17 (t 4),
 mv 18 (t 5),
 ca 19 F.slices_order2CmpFunc_api_Id [(t 14), (t 15), (t 16), (t 17), (t 18)],
 mv 13 (t 19),
 ex 20 (t 13) 0,
 ex 21 (t 13) 1,
 mv 1 (t 20),
 mv 2 (t 21)] [13, 14, 15, 16, 17, 18, 19, 20, 21])
 (.seq (.ops [mv 23 (t 0),
 mv 24 (t 2),
 mv 25 (t 3),
 mv 26 (t 4),
 mv 27 (t 5),
 ca 28 F.slices_order2CmpFunc_api_Id [(t 23), (t 24), (t 25), (t 26), (t 27)],
 mv 22 (t 28),
 ex 29 (t 22) 0,
 ex 30 (t 22) 1,
 mv 2 (t 29),
 mv 3 (t 30)] [3, 22, 23, 24, 25, 26, 27, 28, 29, 30])
 (.seq (.ops [mv 32 (t 0),
 mv 33 (t 1),
 mv 34 (t 2),
 mv 35 (t 4),
 mv 36 (t 5),
 ca 37 F.slices_order2CmpFunc_api_Id [(t 32), (t 33), (t 34), (t 35), (t 36)],
 mv 31 (t 37),
 ex 38 (t 31) 0,
 ex 39 (t 31) 1,
 mv 1 (t 38),
 mv 2 (t 39)] [0, 1, 4, 5, 31, 32, 33, 34, 35, 36, 37, 38, 39])
 (.seq (.ops [mv 40 (t 2),
 mv 12 (t 40)] [2, 40])
 (.ret)))))
def r_slices_medianCmpFunc_api_Id : List RRes := [.tmp 12]
theorem fo_slices_medianCmpFunc_api_Id {args : List Value} {M : Mem} {R : Value → Mem → Prop} (hn : args.length ≤ 41) (h : vfn Try.prog c_slices_medianCmpFunc_api_Id r_slices_medianCmpFunc_api_Id args M R) : CallsM Try.prog F.slices_medianCmpFunc_api_Id args M R :=
  fn_ok (kf := k_slices_medianCmpFunc_api_Id) Try.func91 (by kernel_rfl) (by kernel_rfl) hn (by kernel_rfl) h
/-- slices.order2CmpFunc[portage/api.Id] -/
def k_slices_order2CmpFunc_api_Id (i : Nat) : List Nat := match i with | 0 => [10, 11] | 1 => [0, 4, 12, 13, 14, 15, 16, 17, 18, 19, 20, 21] | 2 => [3, 23, 24, 25, 26, 27] | 3 => [1, 2, 28, 29] | 4 => [1, 2, 30, 31] | _ => []
def c_slices_order2CmpFunc_api_Id : RCode :=
 .seq (.ops [mv 10 (k 0),
 mv 11 (k 0)] [10, 11])
 (.seq (.seq (.draw (.take (mv 12 (t 4)) (.take (mv 13 (t 0)) (.take (mv 14 (t 2)) (.take (o 15 (.iaddr 4 (t 13) (t 14))) (.take (la 16 4 (t 15)) (.take (mv 17 (t 0)) (.take (mv 18 (t 1)) (.take (o 19 (.iaddr 4 (t 17) (t 18))) (.take (la 20 4 (t 19)) (.alt (o 21 (.call (t 12) [(t 16), (t 20)])) false
  (.take (o 22 (.ibin .lss (t 21) (k 0))) (.done))
  (.none))))))))))) [0, 4, 12, 13, 14, 15, 16, 17, 18, 19, 20, 21])
 (.cond (t 22)
  (.seq (.ops [mv 23 (t 3),
  o 24 (.nilck (t 23)),
  l1 25 (t 24),
  ad 26 (t 25) (k 1),
  o 27 (.nilck (t 23)),
  st 1 (t 27) (t 26)] [3, 23, 24, 25, 26, 27])
  (.seq (.ops [mv 28 (t 2),
  mv 29 (t 1),
  mv 10 (t 28),
  mv 11 (t 29)] [1, 2, 28, 29])
  (.ret)))
  (.skip)))
 (.seq (.ops [mv 30 (t 1),
 mv 31 (t 2),
 mv 10 (t 30),
 mv 11 (t 31)] [1, 2, 30, 31])
 (.ret)))
def r_slices_order2CmpFunc_api_Id : List RRes := [.tmp 10, .tmp 11]
theorem fo_slices_order2CmpFunc_api_Id {args : List Value} {M : Mem} {R : Value → Mem → Prop} (hn : args.length ≤ 32) (h : vfn Try.prog c_slices_order2CmpFunc_api_Id r_slices_order2CmpFunc_api_Id args M R) : CallsM Try.prog F.slices_order2CmpFunc_api_Id args M R :=
  fn_ok (kf := k_slices_order2CmpFunc_api_Id) Try.func92 (by kernel_rfl) (by kernel_rfl) hn (by kernel_rfl) h

end Go.Proofs.Ythlleljdahkgpaa
