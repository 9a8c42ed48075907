/- Part of this proof;laid by program. -/
import Derived.Test.YtdgikhhkgnjalaaGreatJ7
set_option linter.unusedVariables false
set_option linter.unusedSimpArgs false
namespace Go.Proofs.YtdgikhhkgnjalaaGreat
open Go.Vm Go.Vm.S
def ziu:RCode:=
 .seq (.ops [mv 10 (k 0),
 mv 11 (kb false)] [])
 (.seq (.draw (.take (mv 14 (t 0)) (.take (mv 15 (t 1)) (.take (mv 16 (t 0)) (.take (mv 17 (t 3)) (.take (mv 18 (t 0)) (.take (mv 19 (t 3)) (.take (o 20 (.iaddr 6 (t 18) (t 19))) (.take (la 21 6 (t 20)) (.take (mv 22 (t 0)) (.take (mv 23 (t 1)) (.take (o 24 (.iaddr 6 (t 22) (t 23))) (.take (la 25 6 (t 24)) (.take (o 26 (.iaddr 6 (t 14) (t 15))) (.alt (st 6 (t 26) (t 21)) false
 (.take (o 27 (.iaddr 6 (t 16) (t 17))) (.alt (st 6 (t 27) (t 25)) false
  (.done)
  (.none)))
 (.none))))))))))))))) [])
 (.seq (.ops [mv 28 (t 1),
 ad 29 (t 28) (k 1),
 mv 30 (t 2),
 o 31 (.ibin .sub (t 30) (k 1)),
 mv 12 (t 29),
 mv 13 (t 31)] [])
 (.seq (.block 0 (.loop (.seq (.seq (.draw (.take (mv 32 (t 12)) (.take (mv 33 (t 13)) (.take (o 34 (.ibin .leq (t 32) (t 33))) (.take (os 35 (.mov (t 34))) (.take (gt 35 36 (.mov (t 4))) (.take (gt 35 37 (.mov (t 0))) (.take (gt 35 38 (.mov (t 12))) (.take (gt 35 39 (.iaddr 6 (t 37) (t 38))) (.take (gt 35 40 (.load true 6 (t 39))) (.take (gt 35 41 (.mov (t 0))) (.take (gt 35 42 (.mov (t 1))) (.take (gt 35 43 (.iaddr 6 (t 41) (t 42))) (.take (gt 35 44 (.load true 6 (t 43))) (.alt (gt 35 45 (.call (t 36) [(t 40),(t 44)])) false
  (.take (gt 35 46 (.ibin .lss (t 45) (k 0))) (.take (o 47 (.pick (t 35) (t 46) (kb false))) (.done)))
  (.none))))))))))))))) [])
 (.cond (t 47)
  (.skip)
  (.exit 0)))
 (.block 1 (.ops [mv 48 (t 12),
 ad 49 (t 48) (k 1),
 mv 12 (t 49)] [])))))
 (.seq (.block 2 (.loop (.seq (.seq (.draw (.take (mv 50 (t 12)) (.take (mv 51 (t 13)) (.take (o 52 (.ibin .leq (t 50) (t 51))) (.take (os 53 (.mov (t 52))) (.take (gt 53 54 (.mov (t 4))) (.take (gt 53 55 (.mov (t 0))) (.take (gt 53 56 (.mov (t 13))) (.take (gt 53 57 (.iaddr 6 (t 55) (t 56))) (.take (gt 53 58 (.load true 6 (t 57))) (.take (gt 53 59 (.mov (t 0))) (.take (gt 53 60 (.mov (t 1))) (.take (gt 53 61 (.iaddr 6 (t 59) (t 60))) (.take (gt 53 62 (.load true 6 (t 61))) (.alt (gt 53 63 (.call (t 54) [(t 58),(t 62)])) false
  (.take (gt 53 64 (.ibin .lss (t 63) (k 0))) (.take (gt 53 65 (.not (t 64))) (.take (o 66 (.pick (t 53) (t 65) (kb false))) (.done))))
  (.none))))))))))))))) [])
 (.cond (t 66)
  (.skip)
  (.exit 2)))
 (.block 3 (.ops [mv 67 (t 13),
 o 68 (.ibin .sub (t 67) (k 1)),
 mv 13 (t 68)] [])))))
 (.seq (.seq (.ops [mv 69 (t 12),
 mv 70 (t 13),
 o 71 (.ibin .gtr (t 69) (t 70))] [])
 (.cond (t 71)
 (.seq (.draw (.take (mv 72 (t 0)) (.take (mv 73 (t 13)) (.take (mv 74 (t 0)) (.take (mv 75 (t 1)) (.take (mv 76 (t 0)) (.take (mv 77 (t 1)) (.take (o 78 (.iaddr 6 (t 76) (t 77))) (.take (la 79 6 (t 78)) (.take (mv 80 (t 0)) (.take (mv 81 (t 13)) (.take (o 82 (.iaddr 6 (t 80) (t 81))) (.take (la 83 6 (t 82)) (.take (o 84 (.iaddr 6 (t 72) (t 73))) (.alt (st 6 (t 84) (t 79)) false
  (.take (o 85 (.iaddr 6 (t 74) (t 75))) (.alt (st 6 (t 85) (t 83)) false
  (.done)
  (.none)))
  (.none))))))))))))))) [])
 (.seq (.ops [mv 86 (t 13),
 mv 10 (t 86),
 mv 11 (kb true)] [])
 (.ret)))
 (.skip)))
 (.seq (.draw (.take (mv 87 (t 0)) (.take (mv 88 (t 12)) (.take (mv 89 (t 0)) (.take (mv 90 (t 13)) (.take (mv 91 (t 0)) (.take (mv 92 (t 13)) (.take (o 93 (.iaddr 6 (t 91) (t 92))) (.take (la 94 6 (t 93)) (.take (mv 95 (t 0)) (.take (mv 96 (t 12)) (.take (o 97 (.iaddr 6 (t 95) (t 96))) (.take (la 98 6 (t 97)) (.take (o 99 (.iaddr 6 (t 87) (t 88))) (.alt (st 6 (t 99) (t 94)) false
 (.take (o 100 (.iaddr 6 (t 89) (t 90))) (.alt (st 6 (t 100) (t 98)) false
  (.done)
  (.none)))
 (.none))))))))))))))) [])
 (.seq (.ops [mv 101 (t 12),
 ad 102 (t 101) (k 1),
 mv 12 (t 102)] [])
 (.seq (.ops [mv 103 (t 13),
 o 104 (.ibin .sub (t 103) (k 1)),
 mv 13 (t 104)] [])
 (.seq (.block 4 (.loop (.block 5 (.seq (.block 6 (.loop (.seq (.seq (.draw (.take (mv 105 (t 12)) (.take (mv 106 (t 13)) (.take (o 107 (.ibin .leq (t 105) (t 106))) (.take (os 108 (.mov (t 107))) (.take (gt 108 109 (.mov (t 4))) (.take (gt 108 110 (.mov (t 0))) (.take (gt 108 111 (.mov (t 12))) (.take (gt 108 112 (.iaddr 6 (t 110) (t 111))) (.take (gt 108 113 (.load true 6 (t 112))) (.take (gt 108 114 (.mov (t 0))) (.take (gt 108 115 (.mov (t 1))) (.take (gt 108 116 (.iaddr 6 (t 114) (t 115))) (.take (gt 108 117 (.load true 6 (t 116))) (.alt (gt 108 118 (.call (t 109) [(t 113),(t 117)])) false
  (.take (gt 108 119 (.ibin .lss (t 118) (k 0))) (.take (o 120 (.pick (t 108) (t 119) (kb false))) (.done)))
  (.none))))))))))))))) [])
  (.cond (t 120)
  (.skip)
  (.exit 6)))
  (.block 7 (.ops [mv 121 (t 12),
  ad 122 (t 121) (k 1),
  mv 12 (t 122)] [])))))
 (.seq (.block 8 (.loop (.seq (.seq (.draw (.take (mv 123 (t 12)) (.take (mv 124 (t 13)) (.take (o 125 (.ibin .leq (t 123) (t 124))) (.take (os 126 (.mov (t 125))) (.take (gt 126 127 (.mov (t 4))) (.take (gt 126 128 (.mov (t 0))) (.take (gt 126 129 (.mov (t 13))) (.take (gt 126 130 (.iaddr 6 (t 128) (t 129))) (.take (gt 126 131 (.load true 6 (t 130))) (.take (gt 126 132 (.mov (t 0))) (.take (gt 126 133 (.mov (t 1))) (.take (gt 126 134 (.iaddr 6 (t 132) (t 133))) (.take (gt 126 135 (.load true 6 (t 134))) (.alt (gt 126 136 (.call (t 127) [(t 131),(t 135)])) false
  (.take (gt 126 137 (.ibin .lss (t 136) (k 0))) (.take (gt 126 138 (.not (t 137))) (.take (o 139 (.pick (t 126) (t 138) (kb false))) (.done))))
  (.none))))))))))))))) [])
  (.cond (t 139)
  (.skip)
  (.exit 8)))
  (.block 9 (.ops [mv 140 (t 13),
  o 141 (.ibin .sub (t 140) (k 1)),
  mv 13 (t 141)] [])))))
 (.seq (.seq (.ops [mv 142 (t 12),
 mv 143 (t 13),
 o 144 (.ibin .gtr (t 142) (t 143))] [])
 (.cond (t 144)
  (.exit 4)
  (.skip)))
 (.seq (.draw (.take (mv 145 (t 0)) (.take (mv 146 (t 12)) (.take (mv 147 (t 0)) (.take (mv 148 (t 13)) (.take (mv 149 (t 0)) (.take (mv 150 (t 13)) (.take (o 151 (.iaddr 6 (t 149) (t 150))) (.take (la 152 6 (t 151)) (.take (mv 153 (t 0)) (.take (mv 154 (t 12)) (.take (o 155 (.iaddr 6 (t 153) (t 154))) (.take (la 156 6 (t 155)) (.take (o 157 (.iaddr 6 (t 145) (t 146))) (.alt (st 6 (t 157) (t 152)) false
  (.take (o 158 (.iaddr 6 (t 147) (t 148))) (.alt (st 6 (t 158) (t 156)) false
  (.done)
  (.none)))
  (.none))))))))))))))) [])
 (.seq (.ops [mv 159 (t 12),
 ad 160 (t 159) (k 1),
 mv 12 (t 160)] [])
 (.ops [mv 161 (t 13),
 o 162 (.ibin .sub (t 161) (k 1)),
 mv 13 (t 162)] [])))))))))
 (.seq (.draw (.take (mv 163 (t 0)) (.take (mv 164 (t 13)) (.take (mv 165 (t 0)) (.take (mv 166 (t 1)) (.take (mv 167 (t 0)) (.take (mv 168 (t 1)) (.take (o 169 (.iaddr 6 (t 167) (t 168))) (.take (la 170 6 (t 169)) (.take (mv 171 (t 0)) (.take (mv 172 (t 13)) (.take (o 173 (.iaddr 6 (t 171) (t 172))) (.take (la 174 6 (t 173)) (.take (o 175 (.iaddr 6 (t 163) (t 164))) (.alt (st 6 (t 175) (t 170)) false
 (.take (o 176 (.iaddr 6 (t 165) (t 166))) (.alt (st 6 (t 176) (t 174)) false
  (.done)
  (.none)))
 (.none))))))))))))))) [])
 (.seq (.ops [mv 177 (t 13),
 mv 10 (t 177),
 mv 11 (kb false)] [])
 (.ret))))))))))))
def ziv:List zd:=[.tmp 10,.tmp 11]
def zO:RCode:=
 .seq (.ops [mv 10 (t 1),
 ad 11 (t 10) (k 1),
 mv 8 (t 11)] [])
 (.block 0 (.loop (.seq (.seq (.ops [mv 12 (t 8),
 mv 13 (t 2),
 o 14 (.ibin .lss (t 12) (t 13))] [])
 (.cond (t 14)
  (.skip)
  (.exit 0)))
 (.seq (.block 1 (.seq (.ops [mv 17 (t 8),
 mv 9 (t 17)] [])
 (.block 2 (.loop (.seq (.seq (.draw (.take (mv 18 (t 9)) (.take (mv 19 (t 1)) (.take (o 20 (.ibin .gtr (t 18) (t 19))) (.take (os 21 (.mov (t 20))) (.take (gt 21 22 (.mov (t 3))) (.take (gt 21 23 (.mov (t 0))) (.take (gt 21 24 (.mov (t 9))) (.take (gt 21 25 (.iaddr 4 (t 23) (t 24))) (.take (gt 21 26 (.load true 4 (t 25))) (.take (gt 21 27 (.mov (t 0))) (.take (gt 21 28 (.mov (t 9))) (.take (gt 21 29 (.ibin .sub (t 28) (k 1))) (.take (gt 21 30 (.iaddr 4 (t 27) (t 29))) (.take (gt 21 31 (.load true 4 (t 30))) (.alt (gt 21 32 (.call (t 22) [(t 26),(t 31)])) false
  (.take (gt 21 33 (.ibin .lss (t 32) (k 0))) (.take (o 34 (.pick (t 21) (t 33) (kb false))) (.done)))
  (.none)))))))))))))))) [])
  (.cond (t 34)
  (.skip)
  (.exit 2)))
  (.seq (.block 3 (.draw (.take (mv 37 (t 0)) (.take (mv 38 (t 9)) (.take (mv 39 (t 0)) (.take (mv 40 (t 9)) (.take (o 41 (.ibin .sub (t 40) (k 1))) (.take (mv 42 (t 0)) (.take (mv 43 (t 9)) (.take (o 44 (.ibin .sub (t 43) (k 1))) (.take (o 45 (.iaddr 4 (t 42) (t 44))) (.take (la 46 4 (t 45)) (.take (mv 47 (t 0)) (.take (mv 48 (t 9)) (.take (o 49 (.iaddr 4 (t 47) (t 48))) (.take (la 50 4 (t 49)) (.take (o 51 (.iaddr 4 (t 37) (t 38))) (.alt (st 4 (t 51) (t 46)) false
  (.take (o 52 (.iaddr 4 (t 39) (t 41))) (.alt (st 4 (t 52) (t 50)) false
   (.done)
   (.none)))
  (.none))))))))))))))))) []))
  (.ops [mv 35 (t 9),
  o 36 (.ibin .sub (t 35) (k 1)),
  mv 9 (t 36)] [])))))))
 (.ops [mv 15 (t 8),
 ad 16 (t 15) (k 1),
 mv 8 (t 16)] [])))))
def zP:List zd:=[]
theorem zhy {args:List Value} {M:Mem} {R:Value→Mem→Prop} (hn:args.length≤53) (h:zj Tryz.prog zO zP args M R):CallsM Tryz.prog F.zau args M R:=
 zf (kf:=fun _=>[]) Tryz.func300 (by kernel_rfl) (by kernel_rfl) hn (by kernel_rfl) h
def zku:RCode:=
 .seq (.ops [mv 13 (t 1),
 mv 8 (t 13)] [])
 (.seq (.ops [mv 9 (k 0)] [])
 (.seq (.ops [mv 14 (t 2),
 mv 15 (t 1),
 o 16 (.ibin .sub (t 14) (t 15)),
 mv 10 (t 16)] [])
 (.seq (.seq (.ops [mv 17 (t 10),
 o 18 (.ibin .sub (t 17) (k 1)),
 o 19 (.ibin .quo (t 18) (k 2)),
 mv 11 (t 19)] [])
 (.block 0 (.loop (.seq (.seq (.ops [mv 20 (t 11),
 o 21 (.ibin .geq (t 20) (k 0))] [])
 (.cond (t 21)
  (.skip)
  (.exit 0)))
 (.seq (.block 1 (.ops [mv 24 (t 0),
 mv 25 (t 11),
 mv 26 (t 10),
 mv 27 (t 8),
 mv 28 (t 3),
 ca 29 F.zcY [(t 24),(t 25),(t 26),(t 27),(t 28)]] []))
 (.ops [mv 22 (t 11),
 o 23 (.ibin .sub (t 22) (k 1)),
 mv 11 (t 23)] []))))))
 (.seq (.ops [mv 30 (t 10),
 o 31 (.ibin .sub (t 30) (k 1)),
 mv 12 (t 31)] [])
 (.block 2 (.loop (.seq (.seq (.ops [mv 32 (t 12),
 o 33 (.ibin .geq (t 32) (k 0))] [])
 (.cond (t 33)
  (.skip)
  (.exit 2)))
 (.seq (.block 3 (.seq (.draw (.take (mv 36 (t 0)) (.take (mv 37 (t 8)) (.take (mv 38 (t 0)) (.take (mv 39 (t 8)) (.take (mv 40 (t 12)) (.take (ad 41 (t 39) (t 40)) (.take (mv 42 (t 0)) (.take (mv 43 (t 8)) (.take (mv 44 (t 12)) (.take (ad 45 (t 43) (t 44)) (.take (o 46 (.iaddr 4 (t 42) (t 45))) (.take (la 47 4 (t 46)) (.take (mv 48 (t 0)) (.take (mv 49 (t 8)) (.take (o 50 (.iaddr 4 (t 48) (t 49))) (.take (la 51 4 (t 50)) (.take (o 52 (.iaddr 4 (t 36) (t 37))) (.alt (st 4 (t 52) (t 47)) false
  (.take (o 53 (.iaddr 4 (t 38) (t 41))) (.alt (st 4 (t 53) (t 51)) false
  (.done)
  (.none)))
  (.none))))))))))))))))))) [])
 (.ops [mv 54 (t 0),
 mv 55 (t 9),
 mv 56 (t 12),
 mv 57 (t 8),
 mv 58 (t 3),
 ca 59 F.zcY [(t 54),(t 55),(t 56),(t 57),(t 58)]] [])))
 (.ops [mv 34 (t 12),
 o 35 (.ibin .sub (t 34) (k 1)),
 mv 12 (t 35)] [])))))))))
def zkv:List zd:=[]
def zhS:RCode:=
 .seq (.ops [mv 13 (t 2),
 mv 14 (t 1),
 o 15 (.ibin .sub (t 13) (t 14)),
 mv 8 (t 15)] [])
 (.seq (.ops [mv 16 (t 8),
 o 17 (.ibin .geq (t 16) (k 8))] [])
 (.cond (t 17)
 (.seq (.ops [mv 18 (t 8),
 o 19 (.conv .u64 (t 18)),
 o 9 (.alloc 340 [(.int .u64 0)]),
 st 1 (t 9) (t 19)] [])
 (.seq (.ops [mv 20 (t 8),
 ca 21 F.zaP [(t 20)],
 mv 10 (t 21)] [])
 (.seq (.ops [mv 22 (t 1),
 mv 23 (t 8),
 o 24 (.ibin .quo (t 23) (k 4)),
 o 25 (.ibin .mul (t 24) (k 2)),
 ad 26 (t 22) (t 25),
 o 27 (.ibin .sub (t 26) (k 1)),
 mv 11 (t 27)] [])
 (.block 0 (.loop (.seq (.seq (.ops [mv 28 (t 11),
  mv 29 (t 1),
  mv 30 (t 8),
  o 31 (.ibin .quo (t 30) (k 4)),
  o 32 (.ibin .mul (t 31) (k 2)),
  ad 33 (t 29) (t 32),
  ad 34 (t 33) (k 1),
  o 35 (.ibin .leq (t 28) (t 34))] [])
  (.cond (t 35)
  (.skip)
  (.exit 0)))
  (.seq (.block 1 (.seq (.ops [ca 38 F.za2 [(t 9)],
  mv 39 (t 10),
  o 40 (.ibin .sub (t 39) (.const (.int .u64 1))),
  o 41 (.ibin .and (t 38) (t 40)),
  o 42 (.conv .i64 (t 41)),
  mv 12 (t 42)] [])
  (.seq (.seq (.ops [mv 43 (t 12),
  mv 44 (t 8),
  o 45 (.ibin .geq (t 43) (t 44))] [])
  (.cond (t 45)
  (.ops [mv 46 (t 12),
  mv 47 (t 8),
  o 48 (.ibin .sub (t 46) (t 47)),
  mv 12 (t 48)] [])
  (.skip)))
  (.draw (.take (mv 49 (t 0)) (.take (mv 50 (t 11)) (.take (mv 51 (t 0)) (.take (mv 52 (t 1)) (.take (mv 53 (t 12)) (.take (ad 54 (t 52) (t 53)) (.take (mv 55 (t 0)) (.take (mv 56 (t 1)) (.take (mv 57 (t 12)) (.take (ad 58 (t 56) (t 57)) (.take (o 59 (.iaddr 4 (t 55) (t 58))) (.take (la 60 4 (t 59)) (.take (mv 61 (t 0)) (.take (mv 62 (t 11)) (.take (o 63 (.iaddr 4 (t 61) (t 62))) (.take (la 64 4 (t 63)) (.take (o 65 (.iaddr 4 (t 49) (t 50))) (.alt (st 4 (t 65) (t 60)) false
  (.take (o 66 (.iaddr 4 (t 51) (t 54))) (.alt (st 4 (t 66) (t 64)) false
   (.done)
   (.none)))
  (.none))))))))))))))))))) []))))
  (.ops [mv 36 (t 11),
  ad 37 (t 36) (k 1),
  mv 11 (t 37)] []))))))))
 (.skip)))
def zhT:List zd:=[]
def ziV:RCode:=
 .seq (.ops [mv 8 (k 0),
 mv 9 (k 0)] [])
 (.seq (.ops [mv 15 (t 2),
 mv 16 (t 1),
 o 17 (.ibin .sub (t 15) (t 16)),
 mv 10 (t 17)] [])
 (.seq (.ops [o 11 (.alloc 3 [(i 0)])] [])
 (.seq (.ops [mv 18 (t 1),
 mv 19 (t 10),
 o 20 (.ibin .quo (t 19) (k 4)),
 o 21 (.ibin .mul (t 20) (k 1)),
 ad 22 (t 18) (t 21),
 mv 12 (t 22)] [])
 (.seq (.ops [mv 23 (t 1),
 mv 24 (t 10),
 o 25 (.ibin .quo (t 24) (k 4)),
 o 26 (.ibin .mul (t 25) (k 2)),
 ad 27 (t 23) (t 26),
 mv 13 (t 27)] [])
 (.seq (.ops [mv 28 (t 1),
 mv 29 (t 10),
 o 30 (.ibin .quo (t 29) (k 4)),
 o 31 (.ibin .mul (t 30) (k 3)),
 ad 32 (t 28) (t 31),
 mv 14 (t 32)] [])
 (.seq (.seq (.ops [mv 33 (t 10),
 o 34 (.ibin .geq (t 33) (k 8))] [])
 (.cond (t 34)
 (.seq (.seq (.ops [mv 35 (t 10),
 o 36 (.ibin .geq (t 35) (k 50))] [])
 (.cond (t 36)
  (.seq (.ops [mv 37 (t 0),
  mv 38 (t 12),
  mv 39 (t 3),
  ca 40 F.zaq [(t 37),(t 38),(t 11),(t 39)],
  mv 12 (t 40)] [])
  (.seq (.ops [mv 41 (t 0),
  mv 42 (t 13),
  mv 43 (t 3),
  ca 44 F.zaq [(t 41),(t 42),(t 11),(t 43)],
  mv 13 (t 44)] [])
  (.ops [mv 45 (t 0),
  mv 46 (t 14),
  mv 47 (t 3),
  ca 48 F.zaq [(t 45),(t 46),(t 11),(t 47)],
  mv 14 (t 48)] [])))
  (.skip)))
 (.ops [mv 49 (t 0),
 mv 50 (t 12),
 mv 51 (t 13),
 mv 52 (t 14),
 mv 53 (t 3),
 ca 54 F.zdV [(t 49),(t 50),(t 51),(t 52),(t 11),(t 53)],
 mv 13 (t 54)] []))
 (.skip)))
 (.seq (.ops [l1 55 (t 11)] [])
 (.block 0 (.seq (.ops [o 58 (.ibin .eql (t 55) (k 0)),
 mv 57 (t 58)] [])
 (.cond (t 57)
 (.seq (.ops [mv 59 (t 13),
 mv 8 (t 59),
 mv 9 (k 1)] [])
 (.ret))
 (.seq (.ops [o 61 (.ibin .eql (t 55) (k 12)),
 mv 60 (t 61)] [])
 (.cond (t 60)
  (.seq (.ops [mv 62 (t 13),
  mv 8 (t 62),
  mv 9 (k 2)] [])
  (.ret))
  (.seq (.ops [mv 56 (t 13),
  mv 8 (t 56),
  mv 9 (k 0)] [])
  (.ret))))))))))))))
def ziW:List zd:=[.tmp 8,.tmp 9]
def ziw:RCode:=
 .seq (.ops [mv 10 (t 1),
 mv 8 (t 10)] [])
 (.seq (.ops [mv 11 (t 2),
 o 12 (.ibin .sub (t 11) (k 1)),
 mv 9 (t 12)] [])
 (.block 0 (.loop (.seq (.seq (.ops [mv 13 (t 8),
 mv 14 (t 9),
 o 15 (.ibin .lss (t 13) (t 14))] [])
 (.cond (t 15)
  (.skip)
  (.exit 0)))
 (.block 1 (.seq (.draw (.take (mv 16 (t 0)) (.take (mv 17 (t 8)) (.take (mv 18 (t 0)) (.take (mv 19 (t 9)) (.take (mv 20 (t 0)) (.take (mv 21 (t 9)) (.take (o 22 (.iaddr 4 (t 20) (t 21))) (.take (la 23 4 (t 22)) (.take (mv 24 (t 0)) (.take (mv 25 (t 8)) (.take (o 26 (.iaddr 4 (t 24) (t 25))) (.take (la 27 4 (t 26)) (.take (o 28 (.iaddr 4 (t 16) (t 17))) (.alt (st 4 (t 28) (t 23)) false
  (.take (o 29 (.iaddr 4 (t 18) (t 19))) (.alt (st 4 (t 29) (t 27)) false
  (.done)
  (.none)))
  (.none))))))))))))))) [])
 (.seq (.ops [mv 30 (t 8),
 ad 31 (t 30) (k 1),
 mv 8 (t 31)] [])
 (.ops [mv 32 (t 9),
 o 33 (.ibin .sub (t 32) (k 1)),
 mv 9 (t 33)] []))))))))
def zix:List zd:=[]
def zeI:RCode:=
 .seq (.ops [mv 8 (kb false)] [])
 (.seq (.ops [mv 13 (t 1),
 ad 14 (t 13) (k 1),
 mv 9 (t 14)] [])
 (.seq (.seq (.ops [mv 10 (k 0)] [])
 (.block 0 (.loop (.seq (.seq (.ops [mv 15 (t 10),
 o 16 (.ibin .lss (t 15) (k 5))] [])
 (.cond (t 16)
  (.skip)
  (.exit 0)))
 (.seq (.block 1 (.seq (.block 2 (.loop (.seq (.seq (.draw (.take (mv 19 (t 9)) (.take (mv 20 (t 2)) (.take (o 21 (.ibin .lss (t 19) (t 20))) (.take (os 22 (.mov (t 21))) (.take (gt 22 23 (.mov (t 3))) (.take (gt 22 24 (.mov (t 0))) (.take (gt 22 25 (.mov (t 9))) (.take (gt 22 26 (.iaddr 4 (t 24) (t 25))) (.take (gt 22 27 (.load true 4 (t 26))) (.take (gt 22 28 (.mov (t 0))) (.take (gt 22 29 (.mov (t 9))) (.take (gt 22 30 (.ibin .sub (t 29) (k 1))) (.take (gt 22 31 (.iaddr 4 (t 28) (t 30))) (.take (gt 22 32 (.load true 4 (t 31))) (.alt (gt 22 33 (.call (t 23) [(t 27),(t 32)])) false
  (.take (gt 22 34 (.ibin .lss (t 33) (k 0))) (.take (gt 22 35 (.not (t 34))) (.take (o 36 (.pick (t 22) (t 35) (kb false))) (.done))))
  (.none)))))))))))))))) [])
  (.cond (t 36)
  (.skip)
  (.exit 2)))
  (.block 3 (.ops [mv 37 (t 9),
  ad 38 (t 37) (k 1),
  mv 9 (t 38)] [])))))
 (.seq (.seq (.ops [mv 39 (t 9),
 mv 40 (t 2),
 o 41 (.ibin .eql (t 39) (t 40))] [])
 (.cond (t 41)
  (.seq (.ops [mv 8 (kb true)] [])
  (.ret))
  (.skip)))
 (.seq (.seq (.ops [mv 42 (t 2),
 mv 43 (t 1),
 o 44 (.ibin .sub (t 42) (t 43)),
 o 45 (.ibin .lss (t 44) (k 50))] [])
 (.cond (t 45)
  (.seq (.ops [mv 8 (kb false)] [])
  (.ret))
  (.skip)))
 (.seq (.draw (.take (mv 46 (t 0)) (.take (mv 47 (t 9)) (.take (mv 48 (t 0)) (.take (mv 49 (t 9)) (.take (o 50 (.ibin .sub (t 49) (k 1))) (.take (mv 51 (t 0)) (.take (mv 52 (t 9)) (.take (o 53 (.ibin .sub (t 52) (k 1))) (.take (o 54 (.iaddr 4 (t 51) (t 53))) (.take (la 55 4 (t 54)) (.take (mv 56 (t 0)) (.take (mv 57 (t 9)) (.take (o 58 (.iaddr 4 (t 56) (t 57))) (.take (la 59 4 (t 58)) (.take (o 60 (.iaddr 4 (t 46) (t 47))) (.alt (st 4 (t 60) (t 55)) false
  (.take (o 61 (.iaddr 4 (t 48) (t 50))) (.alt (st 4 (t 61) (t 59)) false
  (.done)
  (.none)))
  (.none))))))))))))))))) [])
 (.seq (.seq (.ops [mv 62 (t 9),
 mv 63 (t 1),
 o 64 (.ibin .sub (t 62) (t 63)),
 o 65 (.ibin .geq (t 64) (k 2))] [])
 (.cond (t 65)
  (.seq (.ops [mv 66 (t 9),
  o 67 (.ibin .sub (t 66) (k 1)),
  mv 11 (t 67)] [])
  (.block 4 (.loop (.seq (.seq (.ops [mv 68 (t 11),
  o 69 (.ibin .geq (t 68) (k 1))] [])
  (.cond (t 69)
   (.skip)
   (.exit 4)))
  (.seq (.block 5 (.seq (.seq (.draw (.take (mv 72 (t 3)) (.take (mv 73 (t 0)) (.take (mv 74 (t 11)) (.take (o 75 (.iaddr 4 (t 73) (t 74))) (.take (la 76 4 (t 75)) (.take (mv 77 (t 0)) (.take (mv 78 (t 11)) (.take (o 79 (.ibin .sub (t 78) (k 1))) (.take (o 80 (.iaddr 4 (t 77) (t 79))) (.take (la 81 4 (t 80)) (.alt (o 82 (.call (t 72) [(t 76),(t 81)])) false
   (.take (o 83 (.ibin .lss (t 82) (k 0))) (.take (o 84 (.not (t 83))) (.done)))
   (.none)))))))))))) [])
  (.cond (t 84)
   (.exit 4)
   (.skip)))
  (.draw (.take (mv 85 (t 0)) (.take (mv 86 (t 11)) (.take (mv 87 (t 0)) (.take (mv 88 (t 11)) (.take (o 89 (.ibin .sub (t 88) (k 1))) (.take (mv 90 (t 0)) (.take (mv 91 (t 11)) (.take (o 92 (.ibin .sub (t 91) (k 1))) (.take (o 93 (.iaddr 4 (t 90) (t 92))) (.take (la 94 4 (t 93)) (.take (mv 95 (t 0)) (.take (mv 96 (t 11)) (.take (o 97 (.iaddr 4 (t 95) (t 96))) (.take (la 98 4 (t 97)) (.take (o 99 (.iaddr 4 (t 85) (t 86))) (.alt (st 4 (t 99) (t 94)) false
   (.take (o 100 (.iaddr 4 (t 87) (t 89))) (.alt (st 4 (t 100) (t 98)) false
   (.done)
   (.none)))
   (.none))))))))))))))))) [])))
  (.ops [mv 70 (t 11),
  o 71 (.ibin .sub (t 70) (k 1)),
  mv 11 (t 71)] []))))))
  (.skip)))
 (.seq (.ops [mv 101 (t 2),
 mv 102 (t 9),
 o 103 (.ibin .sub (t 101) (t 102)),
 o 104 (.ibin .geq (t 103) (k 2))] [])
 (.cond (t 104)
  (.seq (.ops [mv 105 (t 9),
  ad 106 (t 105) (k 1),
  mv 12 (t 106)] [])
  (.block 6 (.loop (.seq (.seq (.ops [mv 107 (t 12),
  mv 108 (t 2),
  o 109 (.ibin .lss (t 107) (t 108))] [])
  (.cond (t 109)
   (.skip)
   (.exit 6)))
  (.seq (.block 7 (.seq (.seq (.draw (.take (mv 112 (t 3)) (.take (mv 113 (t 0)) (.take (mv 114 (t 12)) (.take (o 115 (.iaddr 4 (t 113) (t 114))) (.take (la 116 4 (t 115)) (.take (mv 117 (t 0)) (.take (mv 118 (t 12)) (.take (o 119 (.ibin .sub (t 118) (k 1))) (.take (o 120 (.iaddr 4 (t 117) (t 119))) (.take (la 121 4 (t 120)) (.alt (o 122 (.call (t 112) [(t 116),(t 121)])) false
   (.take (o 123 (.ibin .lss (t 122) (k 0))) (.take (o 124 (.not (t 123))) (.done)))
   (.none)))))))))))) [])
  (.cond (t 124)
   (.exit 6)
   (.skip)))
  (.draw (.take (mv 125 (t 0)) (.take (mv 126 (t 12)) (.take (mv 127 (t 0)) (.take (mv 128 (t 12)) (.take (o 129 (.ibin .sub (t 128) (k 1))) (.take (mv 130 (t 0)) (.take (mv 131 (t 12)) (.take (o 132 (.ibin .sub (t 131) (k 1))) (.take (o 133 (.iaddr 4 (t 130) (t 132))) (.take (la 134 4 (t 133)) (.take (mv 135 (t 0)) (.take (mv 136 (t 12)) (.take (o 137 (.iaddr 4 (t 135) (t 136))) (.take (la 138 4 (t 137)) (.take (o 139 (.iaddr 4 (t 125) (t 126))) (.alt (st 4 (t 139) (t 134)) false
   (.take (o 140 (.iaddr 4 (t 127) (t 129))) (.alt (st 4 (t 140) (t 138)) false
   (.done)
   (.none)))
   (.none))))))))))))))))) [])))
  (.ops [mv 110 (t 12),
  ad 111 (t 110) (k 1),
  mv 12 (t 111)] []))))))
  (.skip)))))))))
 (.ops [mv 17 (t 10),
 ad 18 (t 17) (k 1),
 mv 10 (t 18)] []))))))
 (.seq (.ops [mv 8 (kb false)] [])
 (.ret))))
def zeJ:List zd:=[.tmp 8]
def zhz:RCode:=
 .seq (.ops [mv 10 (k 0)] [])
 (.seq (.draw (.take (mv 13 (t 0)) (.take (mv 14 (t 1)) (.take (mv 15 (t 0)) (.take (mv 16 (t 3)) (.take (mv 17 (t 0)) (.take (mv 18 (t 3)) (.take (o 19 (.iaddr 4 (t 17) (t 18))) (.take (la 20 4 (t 19)) (.take (mv 21 (t 0)) (.take (mv 22 (t 1)) (.take (o 23 (.iaddr 4 (t 21) (t 22))) (.take (la 24 4 (t 23)) (.take (o 25 (.iaddr 4 (t 13) (t 14))) (.alt (st 4 (t 25) (t 20)) false
 (.take (o 26 (.iaddr 4 (t 15) (t 16))) (.alt (st 4 (t 26) (t 24)) false
  (.done)
  (.none)))
 (.none))))))))))))))) [])
 (.seq (.ops [mv 27 (t 1),
 ad 28 (t 27) (k 1),
 mv 29 (t 2),
 o 30 (.ibin .sub (t 29) (k 1)),
 mv 11 (t 28),
 mv 12 (t 30)] [])
 (.seq (.block 0 (.loop (.block 1 (.seq (.block 2 (.loop (.seq (.seq (.draw (.take (mv 31 (t 11)) (.take (mv 32 (t 12)) (.take (o 33 (.ibin .leq (t 31) (t 32))) (.take (os 34 (.mov (t 33))) (.take (gt 34 35 (.mov (t 4))) (.take (gt 34 36 (.mov (t 0))) (.take (gt 34 37 (.mov (t 1))) (.take (gt 34 38 (.iaddr 4 (t 36) (t 37))) (.take (gt 34 39 (.load true 4 (t 38))) (.take (gt 34 40 (.mov (t 0))) (.take (gt 34 41 (.mov (t 11))) (.take (gt 34 42 (.iaddr 4 (t 40) (t 41))) (.take (gt 34 43 (.load true 4 (t 42))) (.alt (gt 34 44 (.call (t 35) [(t 39),(t 43)])) false
  (.take (gt 34 45 (.ibin .lss (t 44) (k 0))) (.take (gt 34 46 (.not (t 45))) (.take (o 47 (.pick (t 34) (t 46) (kb false))) (.done))))
  (.none))))))))))))))) [])
  (.cond (t 47)
  (.skip)
  (.exit 2)))
  (.block 3 (.ops [mv 48 (t 11),
  ad 49 (t 48) (k 1),
  mv 11 (t 49)] [])))))
 (.seq (.block 4 (.loop (.seq (.seq (.draw (.take (mv 50 (t 11)) (.take (mv 51 (t 12)) (.take (o 52 (.ibin .leq (t 50) (t 51))) (.take (os 53 (.mov (t 52))) (.take (gt 53 54 (.mov (t 4))) (.take (gt 53 55 (.mov (t 0))) (.take (gt 53 56 (.mov (t 1))) (.take (gt 53 57 (.iaddr 4 (t 55) (t 56))) (.take (gt 53 58 (.load true 4 (t 57))) (.take (gt 53 59 (.mov (t 0))) (.take (gt 53 60 (.mov (t 12))) (.take (gt 53 61 (.iaddr 4 (t 59) (t 60))) (.take (gt 53 62 (.load true 4 (t 61))) (.alt (gt 53 63 (.call (t 54) [(t 58),(t 62)])) false
  (.take (gt 53 64 (.ibin .lss (t 63) (k 0))) (.take (o 65 (.pick (t 53) (t 64) (kb false))) (.done)))
  (.none))))))))))))))) [])
  (.cond (t 65)
  (.skip)
  (.exit 4)))
  (.block 5 (.ops [mv 66 (t 12),
  o 67 (.ibin .sub (t 66) (k 1)),
  mv 12 (t 67)] [])))))
 (.seq (.seq (.ops [mv 68 (t 11),
 mv 69 (t 12),
 o 70 (.ibin .gtr (t 68) (t 69))] [])
 (.cond (t 70)
  (.exit 0)
  (.skip)))
 (.seq (.draw (.take (mv 71 (t 0)) (.take (mv 72 (t 11)) (.take (mv 73 (t 0)) (.take (mv 74 (t 12)) (.take (mv 75 (t 0)) (.take (mv 76 (t 12)) (.take (o 77 (.iaddr 4 (t 75) (t 76))) (.take (la 78 4 (t 77)) (.take (mv 79 (t 0)) (.take (mv 80 (t 11)) (.take (o 81 (.iaddr 4 (t 79) (t 80))) (.take (la 82 4 (t 81)) (.take (o 83 (.iaddr 4 (t 71) (t 72))) (.alt (st 4 (t 83) (t 78)) false
  (.take (o 84 (.iaddr 4 (t 73) (t 74))) (.alt (st 4 (t 84) (t 82)) false
  (.done)
  (.none)))
  (.none))))))))))))))) [])
 (.seq (.ops [mv 85 (t 11),
 ad 86 (t 85) (k 1),
 mv 11 (t 86)] [])
 (.ops [mv 87 (t 12),
 o 88 (.ibin .sub (t 87) (k 1)),
 mv 12 (t 88)] [])))))))))
 (.seq (.ops [mv 89 (t 11),
 mv 10 (t 89)] [])
 (.ret)))))
def zhA:List zd:=[.tmp 10]
def zj6:RCode:=
 .seq (.ops [mv 10 (k 0),
 mv 11 (kb false)] [])
 (.seq (.draw (.take (mv 14 (t 0)) (.take (mv 15 (t 1)) (.take (mv 16 (t 0)) (.take (mv 17 (t 3)) (.take (mv 18 (t 0)) (.take (mv 19 (t 3)) (.take (o 20 (.iaddr 4 (t 18) (t 19))) (.take (la 21 4 (t 20)) (.take (mv 22 (t 0)) (.take (mv 23 (t 1)) (.take (o 24 (.iaddr 4 (t 22) (t 23))) (.take (la 25 4 (t 24)) (.take (o 26 (.iaddr 4 (t 14) (t 15))) (.alt (st 4 (t 26) (t 21)) false
 (.take (o 27 (.iaddr 4 (t 16) (t 17))) (.alt (st 4 (t 27) (t 25)) false
  (.done)
  (.none)))
 (.none))))))))))))))) [])
 (.seq (.ops [mv 28 (t 1),
 ad 29 (t 28) (k 1),
 mv 30 (t 2),
 o 31 (.ibin .sub (t 30) (k 1)),
 mv 12 (t 29),
 mv 13 (t 31)] [])
 (.seq (.block 0 (.loop (.seq (.seq (.draw (.take (mv 32 (t 12)) (.take (mv 33 (t 13)) (.take (o 34 (.ibin .leq (t 32) (t 33))) (.take (os 35 (.mov (t 34))) (.take (gt 35 36 (.mov (t 4))) (.take (gt 35 37 (.mov (t 0))) (.take (gt 35 38 (.mov (t 12))) (.take (gt 35 39 (.iaddr 4 (t 37) (t 38))) (.take (gt 35 40 (.load true 4 (t 39))) (.take (gt 35 41 (.mov (t 0))) (.take (gt 35 42 (.mov (t 1))) (.take (gt 35 43 (.iaddr 4 (t 41) (t 42))) (.take (gt 35 44 (.load true 4 (t 43))) (.alt (gt 35 45 (.call (t 36) [(t 40),(t 44)])) false
  (.take (gt 35 46 (.ibin .lss (t 45) (k 0))) (.take (o 47 (.pick (t 35) (t 46) (kb false))) (.done)))
  (.none))))))))))))))) [])
 (.cond (t 47)
  (.skip)
  (.exit 0)))
 (.block 1 (.ops [mv 48 (t 12),
 ad 49 (t 48) (k 1),
 mv 12 (t 49)] [])))))
 (.seq (.block 2 (.loop (.seq (.seq (.draw (.take (mv 50 (t 12)) (.take (mv 51 (t 13)) (.take (o 52 (.ibin .leq (t 50) (t 51))) (.take (os 53 (.mov (t 52))) (.take (gt 53 54 (.mov (t 4))) (.take (gt 53 55 (.mov (t 0))) (.take (gt 53 56 (.mov (t 13))) (.take (gt 53 57 (.iaddr 4 (t 55) (t 56))) (.take (gt 53 58 (.load true 4 (t 57))) (.take (gt 53 59 (.mov (t 0))) (.take (gt 53 60 (.mov (t 1))) (.take (gt 53 61 (.iaddr 4 (t 59) (t 60))) (.take (gt 53 62 (.load true 4 (t 61))) (.alt (gt 53 63 (.call (t 54) [(t 58),(t 62)])) false
  (.take (gt 53 64 (.ibin .lss (t 63) (k 0))) (.take (gt 53 65 (.not (t 64))) (.take (o 66 (.pick (t 53) (t 65) (kb false))) (.done))))
  (.none))))))))))))))) [])
 (.cond (t 66)
  (.skip)
  (.exit 2)))
 (.block 3 (.ops [mv 67 (t 13),
 o 68 (.ibin .sub (t 67) (k 1)),
 mv 13 (t 68)] [])))))
 (.seq (.seq (.ops [mv 69 (t 12),
 mv 70 (t 13),
 o 71 (.ibin .gtr (t 69) (t 70))] [])
 (.cond (t 71)
 (.seq (.draw (.take (mv 72 (t 0)) (.take (mv 73 (t 13)) (.take (mv 74 (t 0)) (.take (mv 75 (t 1)) (.take (mv 76 (t 0)) (.take (mv 77 (t 1)) (.take (o 78 (.iaddr 4 (t 76) (t 77))) (.take (la 79 4 (t 78)) (.take (mv 80 (t 0)) (.take (mv 81 (t 13)) (.take (o 82 (.iaddr 4 (t 80) (t 81))) (.take (la 83 4 (t 82)) (.take (o 84 (.iaddr 4 (t 72) (t 73))) (.alt (st 4 (t 84) (t 79)) false
  (.take (o 85 (.iaddr 4 (t 74) (t 75))) (.alt (st 4 (t 85) (t 83)) false
  (.done)
  (.none)))
  (.none))))))))))))))) [])
 (.seq (.ops [mv 86 (t 13),
 mv 10 (t 86),
 mv 11 (kb true)] [])
 (.ret)))
 (.skip)))
 (.seq (.draw (.take (mv 87 (t 0)) (.take (mv 88 (t 12)) (.take (mv 89 (t 0)) (.take (mv 90 (t 13)) (.take (mv 91 (t 0)) (.take (mv 92 (t 13)) (.take (o 93 (.iaddr 4 (t 91) (t 92))) (.take (la 94 4 (t 93)) (.take (mv 95 (t 0)) (.take (mv 96 (t 12)) (.take (o 97 (.iaddr 4 (t 95) (t 96))) (.take (la 98 4 (t 97)) (.take (o 99 (.iaddr 4 (t 87) (t 88))) (.alt (st 4 (t 99) (t 94)) false
 (.take (o 100 (.iaddr 4 (t 89) (t 90))) (.alt (st 4 (t 100) (t 98)) false
  (.done)
  (.none)))
 (.none))))))))))))))) [])
 (.seq (.ops [mv 101 (t 12),
 ad 102 (t 101) (k 1),
 mv 12 (t 102)] [])
 (.seq (.ops [mv 103 (t 13),
 o 104 (.ibin .sub (t 103) (k 1)),
 mv 13 (t 104)] [])
 (.seq (.block 4 (.loop (.block 5 (.seq (.block 6 (.loop (.seq (.seq (.draw (.take (mv 105 (t 12)) (.take (mv 106 (t 13)) (.take (o 107 (.ibin .leq (t 105) (t 106))) (.take (os 108 (.mov (t 107))) (.take (gt 108 109 (.mov (t 4))) (.take (gt 108 110 (.mov (t 0))) (.take (gt 108 111 (.mov (t 12))) (.take (gt 108 112 (.iaddr 4 (t 110) (t 111))) (.take (gt 108 113 (.load true 4 (t 112))) (.take (gt 108 114 (.mov (t 0))) (.take (gt 108 115 (.mov (t 1))) (.take (gt 108 116 (.iaddr 4 (t 114) (t 115))) (.take (gt 108 117 (.load true 4 (t 116))) (.alt (gt 108 118 (.call (t 109) [(t 113),(t 117)])) false
  (.take (gt 108 119 (.ibin .lss (t 118) (k 0))) (.take (o 120 (.pick (t 108) (t 119) (kb false))) (.done)))
  (.none))))))))))))))) [])
  (.cond (t 120)
  (.skip)
  (.exit 6)))
  (.block 7 (.ops [mv 121 (t 12),
  ad 122 (t 121) (k 1),
  mv 12 (t 122)] [])))))
 (.seq (.block 8 (.loop (.seq (.seq (.draw (.take (mv 123 (t 12)) (.take (mv 124 (t 13)) (.take (o 125 (.ibin .leq (t 123) (t 124))) (.take (os 126 (.mov (t 125))) (.take (gt 126 127 (.mov (t 4))) (.take (gt 126 128 (.mov (t 0))) (.take (gt 126 129 (.mov (t 13))) (.take (gt 126 130 (.iaddr 4 (t 128) (t 129))) (.take (gt 126 131 (.load true 4 (t 130))) (.take (gt 126 132 (.mov (t 0))) (.take (gt 126 133 (.mov (t 1))) (.take (gt 126 134 (.iaddr 4 (t 132) (t 133))) (.take (gt 126 135 (.load true 4 (t 134))) (.alt (gt 126 136 (.call (t 127) [(t 131),(t 135)])) false
  (.take (gt 126 137 (.ibin .lss (t 136) (k 0))) (.take (gt 126 138 (.not (t 137))) (.take (o 139 (.pick (t 126) (t 138) (kb false))) (.done))))
  (.none))))))))))))))) [])
  (.cond (t 139)
  (.skip)
  (.exit 8)))
  (.block 9 (.ops [mv 140 (t 13),
  o 141 (.ibin .sub (t 140) (k 1)),
  mv 13 (t 141)] [])))))
 (.seq (.seq (.ops [mv 142 (t 12),
 mv 143 (t 13),
 o 144 (.ibin .gtr (t 142) (t 143))] [])
 (.cond (t 144)
  (.exit 4)
  (.skip)))
 (.seq (.draw (.take (mv 145 (t 0)) (.take (mv 146 (t 12)) (.take (mv 147 (t 0)) (.take (mv 148 (t 13)) (.take (mv 149 (t 0)) (.take (mv 150 (t 13)) (.take (o 151 (.iaddr 4 (t 149) (t 150))) (.take (la 152 4 (t 151)) (.take (mv 153 (t 0)) (.take (mv 154 (t 12)) (.take (o 155 (.iaddr 4 (t 153) (t 154))) (.take (la 156 4 (t 155)) (.take (o 157 (.iaddr 4 (t 145) (t 146))) (.alt (st 4 (t 157) (t 152)) false
  (.take (o 158 (.iaddr 4 (t 147) (t 148))) (.alt (st 4 (t 158) (t 156)) false
  (.done)
  (.none)))
  (.none))))))))))))))) [])
 (.seq (.ops [mv 159 (t 12),
 ad 160 (t 159) (k 1),
 mv 12 (t 160)] [])
 (.ops [mv 161 (t 13),
 o 162 (.ibin .sub (t 161) (k 1)),
 mv 13 (t 162)] [])))))))))
 (.seq (.draw (.take (mv 163 (t 0)) (.take (mv 164 (t 13)) (.take (mv 165 (t 0)) (.take (mv 166 (t 1)) (.take (mv 167 (t 0)) (.take (mv 168 (t 1)) (.take (o 169 (.iaddr 4 (t 167) (t 168))) (.take (la 170 4 (t 169)) (.take (mv 171 (t 0)) (.take (mv 172 (t 13)) (.take (o 173 (.iaddr 4 (t 171) (t 172))) (.take (la 174 4 (t 173)) (.take (o 175 (.iaddr 4 (t 163) (t 164))) (.alt (st 4 (t 175) (t 170)) false
 (.take (o 176 (.iaddr 4 (t 165) (t 166))) (.alt (st 4 (t 176) (t 174)) false
  (.done)
  (.none)))
 (.none))))))))))))))) [])
 (.seq (.ops [mv 177 (t 13),
 mv 10 (t 177),
 mv 11 (kb false)] [])
 (.ret))))))))))))
def zj7:List zd:=[.tmp 10,.tmp 11]
def zzs:RCode:=
 .seq (.ops [mv 2 (kb false)] [])
 (.seq (.ops [mv 3 (t 0),
 mv 4 (t 0),
 o 5 (.ibin .neq (t 3) (t 4)),
 mv 2 (t 5)] [])
 (.ret))
def zzt:List zd:=[.tmp 2]
def zdR:RCode:=
 .seq (.ops [mv 4 (k 0),
 mv 5 (k 0)] [])
 (.seq (.seq (.ops [mv 7 (t 0),
 o 8 (.pnil .eql (t 7) (.const (.pointer none)))] [])
 (.cond (t 8)
 (.seq (.ops [mv 4 (k 0),
 mv 5 (k 7)] [])
 (.ret))
 (.skip)))
 (.seq (.seq (.ops [mv 9 (t 1),
 o 10 (.ibin .lss (t 9) (k 0)),
 os 11 (.mov (t 10)),
 gf 11 12 (.mov (t 1)),
 gf 11 13 (.ibin .geq (t 12) (k 128)),
 o 14 (.pick (t 11) (kb true) (t 13))] [])
 (.cond (t 14)
 (.seq (.ops [mv 4 (k 0),
 mv 5 (k 1)] [])
 (.ret))
 (.skip)))
 (.seq (.ops [mv 15 (t 0),
 o 16 (.nilck (t 15)),
 fa 17 1 (t 16),
 l1 18 (t 17),
 mv 19 (t 1),
 ca 20 F.zdb [(t 18),(t 19)],
 mv 6 (t 20)] [])
 (.seq (.seq (.ops [mv 21 (t 6),
 mv 22 (t 0),
 o 23 (.nilck (t 22)),
 fa 24 3 (t 23),
 l1 25 (t 24),
 o 26 (.ibin .gtr (t 21) (t 25))] [])
 (.cond (t 26)
 (.seq (.ops [mv 4 (k 0),
 mv 5 (k 7)] [])
 (.ret))
 (.skip)))
 (.seq (.ops [mv 27 (t 0),
 o 28 (.nilck (t 27)),
 fa 29 2 (t 28),
 l1 30 (t 29),
 mv 31 (t 6),
 o 32 (.slx 1 (t 30) none (some (t 31))),
 e (.clr sn (t 32))] [])
 (.seq (.draw (.take (mv 33 (t 0)) (.take (mv 34 (t 0)) (.take (mv 35 (t 0)) (.take (mv 36 (t 0)) (.take (o 37 (.nilck (t 36))) (.take (fa 38 2 (t 37)) (.take (l1 39 (t 38)) (.take (mv 40 (t 6)) (.take (o 41 (.slx 1 (t 39) (some (t 40)) none)) (.take (mv 42 (t 0)) (.take (o 43 (.nilck (t 42))) (.take (fa 44 3 (t 43)) (.take (l1 45 (t 44)) (.take (mv 46 (t 6)) (.take (o 47 (.ibin .sub (t 45) (t 46))) (.take (mv 48 (t 1)) (.take (o 49 (.nilck (t 33))) (.take (fa 50 2 (t 49)) (.alt (st 1 (t 50) (t 41)) false
 (.take (o 51 (.nilck (t 34))) (.take (fa 52 3 (t 51)) (.alt (st 1 (t 52) (t 47)) false
  (.take (o 53 (.nilck (t 35))) (.take (fa 54 1 (t 53)) (.alt (st 1 (t 54) (t 48)) false
  (.done)
  (.none))))
  (.none))))
 (.none)))))))))))))))))))) [])
 (.seq (.ops [mv 55 (t 6),
 mv 4 (t 55),
 mv 5 (k 0)] [])
 (.ret))))))))
def zdS:List zd:=[.tmp 4,.tmp 5]
theorem zsi {args:List Value} {M:Mem} {R:Value→Mem→Prop} (hn:args.length≤56) (h:zj Tryz.prog zdR zdS args M R):CallsM Tryz.prog F.zhR args M R:=
 zf (kf:=fun _=>[]) Tryz.func309 (by kernel_rfl) (by kernel_rfl) hn (by kernel_rfl) h
def zcA:RCode:=
 .seq (.ops [mv 6 (k 0)] [])
 (.seq (.block 0 (.seq (.ops [mv 10 (t 0),
 o 11 (.pnil .eql (t 10) (.const (.pointer none))),
 mv 9 (t 11)] [])
 (.cond (t 9)
 (.seq (.ops [mv 6 (k 7)] [])
 (.ret))
 (.seq (.ops [mv 13 (t 1),
 o 14 (.ibin .lss (t 13) (k 0)),
 os 15 (.mov (t 14)),
 gf 15 16 (.mov (t 1)),
 gf 15 17 (.ibin .geq (t 16) (k 128)),
 o 18 (.pick (t 15) (kb true) (t 17)),
 mv 12 (t 18)] [])
 (.cond (t 12)
  (.seq (.ops [mv 6 (k 1)] [])
  (.ret))
  (.seq (.ops [mv 20 (t 2),
  o 21 (.len (t 20)),
  o 22 (.ibin .eql (t 21) (k 0)),
  mv 19 (t 22)] [])
  (.cond (t 19)
  (.seq (.ops [mv 6 (k 2)] [])
  (.ret))
  (.seq (.ops [mv 24 (t 2),
  o 25 (.len (t 24)),
  o 26 (.ibin .gtr (t 25) (k 121)),
  mv 23 (t 26)] [])
  (.cond (t 23)
   (.seq (.ops [mv 6 (k 3)] [])
   (.ret))
   (.seq (.draw (.take (mv 28 (t 0)) (.take (o 29 (.nilck (t 28))) (.take (fa 30 1 (t 29)) (.take (l1 31 (t 30)) (.take (mv 32 (t 0)) (.take (o 33 (.nilck (t 32))) (.take (fa 34 0 (t 33)) (.take (l1 35 (t 34)) (.take (mv 36 (t 1)) (.alt (ca 37 F.znd [(t 31),(t 35),(t 36)]) false
   (.take (o 38 (.not (t 37))) (.take (mv 27 (t 38)) (.done)))
   (.none))))))))))) [])
   (.cond (t 27)
   (.seq (.ops [mv 6 (k 7)] [])
   (.ret))
   (.skip))))))))))))
 (.seq (.seq (.ops [mv 40 (t 0),
 o 41 (.nilck (t 40)),
 fa 42 2 (t 41),
 l1 43 (t 42),
 mv 44 (t 1),
 o 45 (.mget .int true sn (t 43) (t 44)),
 mv 39 (t 45),
 ex 46 (t 39) 0,
 ex 47 (t 39) 1,
 mv 7 (t 46),
 mv 8 (t 47)] [])
 (.seq (.ops [mv 48 (t 8)] [])
 (.cond (t 48)
 (.seq (.ops [mv 6 (k 5)] [])
 (.ret))
 (.skip))))
 (.seq (.ops [mv 6 (k 0)] [])
 (.ret))))
def zcB:List zd:=[.tmp 6]
theorem zqP {args:List Value} {M:Mem} {R:Value→Mem→Prop} (hn:args.length≤49) (h:zj Tryz.prog zcA zcB args M R):CallsM Tryz.prog F.zfL args M R:=
 zf (kf:=fun _=>[]) Tryz.func310 (by kernel_rfl) (by kernel_rfl) hn (by kernel_rfl) h
def zk0:RCode:=
 .seq (.ops [mv 2 (k 0)] [])
 (.seq (.ops [mv 3 (t 0),
 ca 4 F.zC [(t 3)],
 ad 5 (t 4) (k 1),
 ca 6 F.zC [(t 5)],
 mv 2 (t 6)] [])
 (.ret))
def zk1:List zd:=[.tmp 2]
theorem zAs {args:List Value} {M:Mem} {R:Value→Mem→Prop} (hn:args.length≤7) (h:zj Tryz.prog zk0 zk1 args M R):CallsM Tryz.prog F.znT args M R:=
 zf (kf:=fun _=>[]) Tryz.func311 (by kernel_rfl) (by kernel_rfl) hn (by kernel_rfl) h
def zbI:RCode:=
 .seq (.ops [mv 2 (.const sn)] [])
 (.seq (.ops [mv 4 (t 0),
 ca 5 F.zgj [(t 4)],
 mv 3 (t 5)] [])
 (.seq (.seq (.ops [mv 6 (t 3),
 o 7 (.len (t 6)),
 o 8 (.ibin .eql (t 7) (k 0))] [])
 (.cond (t 8)
 (.seq (.ops [mv 2 (.const sn)] [])
 (.ret))
 (.skip)))
 (.seq (.draw (.take (mv 9 (t 0)) (.take (o 10 (.nilck (t 9))) (.take (fa 11 1 (t 10)) (.take (l1 12 (t 11)) (.take (mv 13 (t 3)) (.take (mv 14 (t 3)) (.take (o 15 (.len (t 14))) (.take (o 16 (.ibin .sub (t 15) (k 1))) (.take (o 17 (.iaddr 1 (t 13) (t 16))) (.take (l1 18 (t 17)) (.take (mv 19 (t 3)) (.alt (ca 20 F.zwS [(t 12),(t 18),(t 19)]) false
 (.take (mv 2 (t 20)) (.done))
 (.none))))))))))))) [])
 (.ret))))
def zbJ:List zd:=[.tmp 2]
theorem zps {args:List Value} {M:Mem} {R:Value→Mem→Prop} (hn:args.length≤21) (h:zj Tryz.prog zbI zbJ args M R):CallsM Tryz.prog F.zdZ args M R:=
 zf (kf:=fun _=>[]) Tryz.func312 (by kernel_rfl) (by kernel_rfl) hn (by kernel_rfl) h
def zay:RCode:=
 .seq (.ops [mv 10 (kb true)] [])
 (.seq (.ops [mv 11 (kb true)] [])
 (.block 0 (.loop (.block 1 (.seq (.ops [mv 21 (t 2),
 mv 22 (t 1),
 o 23 (.ibin .sub (t 21) (t 22)),
 mv 12 (t 23)] [])
 (.seq (.seq (.ops [mv 24 (t 12),
 o 25 (.ibin .leq (t 24) (k 12))] [])
 (.cond (t 25)
  (.seq (.ops [mv 26 (t 0),
  mv 27 (t 1),
  mv 28 (t 2),
  mv 29 (t 4),
  ca 30 F.zaL [(t 26),(t 27),(t 28),(t 29)]] [])
  (.ret))
  (.skip)))
 (.seq (.seq (.ops [mv 31 (t 3),
 o 32 (.ibin .eql (t 31) (k 0))] [])
 (.cond (t 32)
  (.seq (.ops [mv 33 (t 0),
  mv 34 (t 1),
  mv 35 (t 2),
  mv 36 (t 4),
  ca 37 F.zlB [(t 33),(t 34),(t 35),(t 36)]] [])
  (.ret))
  (.skip)))
 (.seq (.seq (.ops [mv 38 (t 10),
 o 39 (.not (t 38))] [])
 (.cond (t 39)
  (.seq (.ops [mv 40 (t 0),
  mv 41 (t 1),
  mv 42 (t 2),
  mv 43 (t 4),
  ca 44 F.ziO [(t 40),(t 41),(t 42),(t 43)]] [])
  (.ops [mv 45 (t 3),
  o 46 (.ibin .sub (t 45) (k 1)),
  mv 3 (t 46)] []))
  (.skip)))
 (.seq (.ops [mv 48 (t 0),
 mv 49 (t 1),
 mv 50 (t 2),
 mv 51 (t 4),
 ca 52 F.zj0 [(t 48),(t 49),(t 50),(t 51)],
 mv 47 (t 52),
 ex 53 (t 47) 0,
 ex 54 (t 47) 1,
 mv 13 (t 53),
 mv 14 (t 54)] [])
 (.seq (.seq (.ops [mv 55 (t 14),
 o 56 (.ibin .eql (t 55) (k 2))] [])
 (.cond (t 56)
  (.seq (.ops [mv 57 (t 0),
  mv 58 (t 1),
  mv 59 (t 2),
  mv 60 (t 4),
  ca 61 F.zjd [(t 57),(t 58),(t 59),(t 60)]] [])
  (.seq (.ops [mv 62 (t 2),
  o 63 (.ibin .sub (t 62) (k 1)),
  mv 64 (t 13),
  mv 65 (t 1),
  o 66 (.ibin .sub (t 64) (t 65)),
  o 67 (.ibin .sub (t 63) (t 66)),
  mv 13 (t 67)] [])
  (.ops [mv 14 (k 1)] [])))
  (.skip)))
 (.seq (.seq (.ops [mv 68 (t 10),
 os 69 (.mov (t 68)),
 gt 69 70 (.mov (t 11)),
 o 71 (.pick (t 69) (t 70) (kb false)),
 os 72 (.mov (t 71)),
 gt 72 73 (.mov (t 14)),
 gt 72 74 (.ibin .eql (t 73) (k 1)),
 o 75 (.pick (t 72) (t 74) (kb false))] [])
 (.cond (t 75)
  (.seq (.ops [mv 76 (t 0),
  mv 77 (t 1),
  mv 78 (t 2),
  mv 79 (t 4),
  ca 80 F.zeV [(t 76),(t 77),(t 78),(t 79)]] [])
  (.cond (t 80)
  (.ret)
  (.skip)))
  (.skip)))
 (.seq (.seq (.draw (.take (mv 81 (t 1)) (.take (o 82 (.ibin .gtr (t 81) (k 0))) (.take (os 83 (.mov (t 82))) (.take (gt 83 84 (.mov (t 4))) (.take (gt 83 85 (.mov (t 0))) (.take (gt 83 86 (.mov (t 1))) (.take (gt 83 87 (.ibin .sub (t 86) (k 1))) (.take (gt 83 88 (.iaddr 4 (t 85) (t 87))) (.take (gt 83 89 (.load true 4 (t 88))) (.take (gt 83 90 (.mov (t 0))) (.take (gt 83 91 (.mov (t 13))) (.take (gt 83 92 (.iaddr 4 (t 90) (t 91))) (.take (gt 83 93 (.load true 4 (t 92))) (.alt (gt 83 94 (.call (t 84) [(t 89),(t 93)])) false
  (.take (gt 83 95 (.ibin .lss (t 94) (k 0))) (.take (gt 83 96 (.not (t 95))) (.take (o 97 (.pick (t 83) (t 96) (kb false))) (.done))))
  (.none))))))))))))))) [])
 (.cond (t 97)
  (.seq (.ops [mv 98 (t 0),
  mv 99 (t 1),
  mv 100 (t 2),
  mv 101 (t 13),
  mv 102 (t 4),
  ca 103 F.zin [(t 98),(t 99),(t 100),(t 101),(t 102)],
  mv 15 (t 103)] [])
  (.seq (.ops [mv 104 (t 15),
  mv 1 (t 104)] [])
  (.exit 1)))
  (.skip)))
 (.seq (.ops [mv 106 (t 0),
 mv 107 (t 1),
 mv 108 (t 2),
 mv 109 (t 13),
 mv 110 (t 4),
 ca 111 F.zlf [(t 106),(t 107),(t 108),(t 109),(t 110)],
 mv 105 (t 111),
 ex 112 (t 105) 0,
 ex 113 (t 105) 1,
 mv 16 (t 112),
 mv 17 (t 113)] [])
 (.seq (.ops [mv 114 (t 17),
 mv 11 (t 114)] [])
 (.seq (.ops [mv 115 (t 16),
 mv 116 (t 1),
 o 117 (.ibin .sub (t 115) (t 116)),
 mv 118 (t 2),
 mv 119 (t 16),
 o 120 (.ibin .sub (t 118) (t 119)),
 mv 18 (t 117),
 mv 19 (t 120)] [])
 (.seq (.ops [mv 121 (t 12),
 o 122 (.ibin .quo (t 121) (k 8)),
 mv 20 (t 122)] [])
 (.seq (.ops [mv 123 (t 18),
 mv 124 (t 19),
 o 125 (.ibin .lss (t 123) (t 124))] [])
 (.cond (t 125)
  (.seq (.ops [mv 126 (t 18),
  mv 127 (t 20),
  o 128 (.ibin .geq (t 126) (t 127)),
  mv 10 (t 128)] [])
  (.seq (.ops [mv 129 (t 0),
  mv 130 (t 1),
  mv 131 (t 16),
  mv 132 (t 3),
  mv 133 (t 4),
  ca 134 F.zV [(t 129),(t 130),(t 131),(t 132),(t 133)]] [])
  (.ops [mv 135 (t 16),
  ad 136 (t 135) (k 1),
  mv 1 (t 136)] [])))
  (.seq (.ops [mv 137 (t 19),
  mv 138 (t 20),
  o 139 (.ibin .geq (t 137) (t 138)),
  mv 10 (t 139)] [])
  (.seq (.ops [mv 140 (t 0),
  mv 141 (t 16),
  ad 142 (t 141) (k 1),
  mv 143 (t 2),
  mv 144 (t 3),
  mv 145 (t 4),
  ca 146 F.zV [(t 140),(t 142),(t 143),(t 144),(t 145)]] [])
  (.ops [mv 147 (t 16),
  mv 2 (t 147)] [])))))))))))))))))))))
def zaz:List zd:=[]
theorem zlJ {args:List Value} {M:Mem} {R:Value→Mem→Prop} (hn:args.length≤148) (h:zj Tryz.prog zay zaz args M R):CallsM Tryz.prog F.zV args M R:=
 zf (kf:=fun _=>[]) Tryz.func313 (by kernel_rfl) (by kernel_rfl) hn (by kernel_rfl) h
def zoQ:RCode:=
 .seq (.ops [mv 4 (.const (.int .u16 0))] [])
 (.seq (.ops [mv 6 (t 0),
 mv 7 (t 1),
 o 8 (.conv .u16 (t 7)),
 o 9 (.ibin .xor (t 6) (t 8)),
 o 10 (.conv .u32 (t 9)),
 mv 5 (t 10)] [])
 (.seq (.seq (.ops [mv 11 (k 0)] [])
 (.block 0 (.loop (.seq (.ops [o 12 (.ibin .lss (t 11) (k 8))] [])
 (.seq (.cond (t 12)
  (.skip)
  (.exit 0))
 (.seq (.block 1 (.ops [mv 13 (t 5),
 ca 14 F.zof [(t 13),(.const (.int .u32 33800))],
 mv 5 (t 14)] []))
 (.ops [ad 15 (t 11) (k 1),
 mv 11 (t 15)] [])))))))
 (.seq (.ops [mv 16 (t 5),
 o 17 (.conv .u16 (t 16)),
 mv 4 (t 17)] [])
 (.ret))))
def zoR:List zd:=[.tmp 4]
theorem zDN {args:List Value} {M:Mem} {R:Value→Mem→Prop} (hn:args.length≤18) (h:zj Tryz.prog zoQ zoR args M R):CallsM Tryz.prog F.zrX args M R:=
 zf (kf:=fun _=>[]) Tryz.func314 (by kernel_rfl) (by kernel_rfl) hn (by kernel_rfl) h
def zm1:RCode:=
 .seq (.ops [mv 10 (t 1),
 mv 8 (t 10)] [])
 (.block 0 (.loop (.block 1 (.seq (.ops [mv 11 (t 8),
 o 12 (.ibin .mul (k 2) (t 11)),
 ad 13 (t 12) (k 1),
 mv 9 (t 13)] [])
 (.seq (.seq (.ops [mv 14 (t 9),
 mv 15 (t 2),
 o 16 (.ibin .geq (t 14) (t 15))] [])
 (.cond (t 16)
  (.exit 0)
  (.skip)))
 (.seq (.seq (.draw (.take (mv 17 (t 9)) (.take (ad 18 (t 17) (k 1)) (.take (mv 19 (t 2)) (.take (o 20 (.ibin .lss (t 18) (t 19))) (.take (os 21 (.mov (t 20))) (.take (gt 21 22 (.mov (t 0))) (.take (gt 21 23 (.mov (t 3))) (.take (gt 21 24 (.mov (t 9))) (.take (gt 21 25 (.ibin .add (t 23) (t 24))) (.take (gt 21 26 (.iaddr 1 (t 22) (t 25))) (.take (gt 21 27 (.load false 1 (t 26))) (.take (gt 21 28 (.mov (t 0))) (.take (gt 21 29 (.mov (t 3))) (.take (gt 21 30 (.mov (t 9))) (.take (gt 21 31 (.ibin .add (t 29) (t 30))) (.take (gt 21 32 (.ibin .add (t 31) (k 1))) (.take (gt 21 33 (.iaddr 1 (t 28) (t 32))) (.take (gt 21 34 (.load false 1 (t 33))) (.alt (gt 21 35 (.call (fn F.zF) [(t 27),(t 34)])) false
  (.take (o 36 (.pick (t 21) (t 35) (kb false))) (.done))
  (.none)))))))))))))))))))) [])
 (.cond (t 36)
  (.ops [mv 37 (t 9),
  ad 38 (t 37) (k 1),
  mv 9 (t 38)] [])
  (.skip)))
 (.seq (.seq (.draw (.take (mv 39 (t 0)) (.take (mv 40 (t 3)) (.take (mv 41 (t 8)) (.take (ad 42 (t 40) (t 41)) (.take (o 43 (.iaddr 1 (t 39) (t 42))) (.take (l1 44 (t 43)) (.take (mv 45 (t 0)) (.take (mv 46 (t 3)) (.take (mv 47 (t 9)) (.take (ad 48 (t 46) (t 47)) (.take (o 49 (.iaddr 1 (t 45) (t 48))) (.take (l1 50 (t 49)) (.alt (ca 51 F.zF [(t 44),(t 50)]) false
  (.take (o 52 (.not (t 51))) (.done))
  (.none)))))))))))))) [])
 (.cond (t 52)
  (.ret)
  (.skip)))
 (.seq (.draw (.take (mv 53 (t 0)) (.take (mv 54 (t 3)) (.take (mv 55 (t 8)) (.take (ad 56 (t 54) (t 55)) (.take (mv 57 (t 0)) (.take (mv 58 (t 3)) (.take (mv 59 (t 9)) (.take (ad 60 (t 58) (t 59)) (.take (mv 61 (t 0)) (.take (mv 62 (t 3)) (.take (mv 63 (t 9)) (.take (ad 64 (t 62) (t 63)) (.take (o 65 (.iaddr 1 (t 61) (t 64))) (.take (l1 66 (t 65)) (.take (mv 67 (t 0)) (.take (mv 68 (t 3)) (.take (mv 69 (t 8)) (.take (ad 70 (t 68) (t 69)) (.take (o 71 (.iaddr 1 (t 67) (t 70))) (.take (l1 72 (t 71)) (.take (o 73 (.iaddr 1 (t 53) (t 56))) (.alt (st 1 (t 73) (t 66)) false
  (.take (o 74 (.iaddr 1 (t 57) (t 60))) (.alt (st 1 (t 74) (t 72)) false
  (.done)
  (.none)))
  (.none))))))))))))))))))))))) [])
 (.ops [mv 75 (t 9),
 mv 8 (t 75)] [])))))))))
def zm2:List zd:=[]
def zj8:RCode:=
 .seq (.ops [mv 6 (k 0)] [])
 (.seq (.ops [mv 7 (t 0),
 mv 8 (t 1),
 o 9 (.ibin .sub (t 8) (k 1)),
 mv 10 (t 1),
 mv 11 (t 1),
 ad 12 (t 11) (k 1),
 mv 13 (t 2),
 ca 14 F.zhv [(t 7),(t 9),(t 10),(t 12),(t 13)],
 mv 6 (t 14)] [])
 (.ret))
def zj9:List zd:=[.tmp 6]
def znX:RCode:=
 .seq (.ops [mv 10 (k 0)] [])
 (.seq (.ops [mv 12 (t 0),
 mv 13 (t 1),
 mv 14 (t 2),
 mv 15 (t 4),
 ca 16 F.zcD [(t 12),(t 13),(t 14),(t 15)],
 mv 11 (t 16),
 ex 17 (t 11) 0,
 ex 18 (t 11) 1,
 mv 1 (t 17),
 mv 2 (t 18)] [])
 (.seq (.ops [mv 20 (t 0),
 mv 21 (t 2),
 mv 22 (t 3),
 mv 23 (t 4),
 ca 24 F.zcD [(t 20),(t 21),(t 22),(t 23)],
 mv 19 (t 24),
 ex 25 (t 19) 0,
 ex 26 (t 19) 1,
 mv 2 (t 25),
 mv 3 (t 26)] [])
 (.seq (.ops [mv 28 (t 0),
 mv 29 (t 1),
 mv 30 (t 2),
 mv 31 (t 4),
 ca 32 F.zcD [(t 28),(t 29),(t 30),(t 31)],
 mv 27 (t 32),
 ex 33 (t 27) 0,
 ex 34 (t 27) 1,
 mv 1 (t 33),
 mv 2 (t 34)] [])
 (.seq (.ops [mv 35 (t 2),
 mv 10 (t 35)] [])
 (.ret)))))
def znY:List zd:=[.tmp 10]
def zE1:RCode:=
 .seq (.ops [mv 4 (.const sn)] [])
 (.seq (.seq (.ops [mv 7 (t 1),
 o 8 (.len (t 7)),
 mv 9 (k 0)] [])
 (.block 0 (.loop (.seq (.ops [o 10 (.ibin .lss (t 9) (t 8))] [])
 (.seq (.cond (t 10)
  (.skip)
  (.exit 0))
 (.seq (.block 1 (.seq (.ops [o 11 (.iaddr 1 (t 7) (t 9)),
 l1 12 (t 11),
 mv 6 (t 12)] [])
 (.ops [mv 14 (t 0),
 mv 15 (t 6),
 o 16 (.conv .u64 (t 15)),
 ca 17 F.zbk [(t 14),(t 16),(k 2)],
 mv 13 (t 17),
 ex 18 (t 13) 0,
 ex 19 (t 13) 1,
 mv 0 (t 18)] [])))
 (.ops [ad 20 (t 9) (k 1),
 mv 9 (t 20)] [])))))))
 (.seq (.ops [mv 21 (t 0),
 mv 4 (t 21)] [])
 (.ret)))
def zE2:List zd:=[.tmp 4]
def zxH:RCode:=
 .seq (.ops [mv 4 (kb false)] [])
 (.seq (.ops [mv 5 (t 0),
 l1 6 (t 1),
 o 7 (.nilck (t 6)),
 fa 8 1 (t 7),
 l1 9 (t 8),
 o 10 (.ibin .geq (t 5) (t 9)),
 os 11 (.mov (t 10)),
 gt 11 12 (.mov (t 0)),
 gt 11 13 (.load false 1 (t 2)),
 gt 11 14 (.ibin .lss (t 12) (t 13)),
 o 15 (.pick (t 11) (t 14) (kb false)),
 mv 4 (t 15)] [])
 (.ret))
def zxI:List zd:=[.tmp 4]
def zmE:RCode:=
 .seq (.ops [mv 8 (k 0),
 mv 9 (k 0)] [])
 (.seq (.seq (.draw (.take (mv 10 (t 0)) (.take (mv 11 (t 2)) (.take (o 12 (.iaddr 1 (t 10) (t 11))) (.take (l1 13 (t 12)) (.take (mv 14 (t 0)) (.take (mv 15 (t 1)) (.take (o 16 (.iaddr 1 (t 14) (t 15))) (.take (l1 17 (t 16)) (.alt (ca 18 F.zx [(t 13),(t 17)]) false
 (.done)
 (.none)))))))))) [])
 (.cond (t 18)
 (.seq (.ops [mv 19 (t 3),
 o 20 (.nilck (t 19)),
 l1 21 (t 20),
 ad 22 (t 21) (k 1),
 o 23 (.nilck (t 19)),
 st 1 (t 23) (t 22)] [])
 (.seq (.ops [mv 24 (t 2),
 mv 25 (t 1),
 mv 8 (t 24),
 mv 9 (t 25)] [])
 (.ret)))
 (.skip)))
 (.seq (.ops [mv 26 (t 1),
 mv 27 (t 2),
 mv 8 (t 26),
 mv 9 (t 27)] [])
 (.ret)))
def zmF:List zd:=[.tmp 8,.tmp 9]
def zzu:RCode:=
 .seq (.ops [mv 3 (k 0)] [])
 (.block 0 (.loop (.block 1 (.seq (.ops [l1 7 (t 1),
 mv 8 (t 3),
 o 9 (.slx 1 (t 7) (some (t 8)) none),
 ca 10 F.zzU [(t 9)],
 mv 6 (t 10),
 ex 11 (t 6) 0,
 ex 12 (t 6) 1,
 mv 4 (t 11),
 mv 5 (t 12)] [])
 (.seq (.seq (.ops [mv 13 (t 5),
 o 14 (.ibin .eql (t 13) (k 0)),
 os 15 (.mov (t 14)),
 gf 15 16 (.mov (t 0)),
 gf 15 17 (.mov (t 3)),
 gf 15 18 (.mov (t 4)),
 gf 15 19 (.call (t 16) [(t 17),(t 18)]),
 gf 15 20 (.not (t 19)),
 o 21 (.pick (t 15) (kb true) (t 20))] [])
 (.cond (t 21)
  (.ret)
  (.skip)))
 (.ops [mv 22 (t 3),
 mv 23 (t 5),
 ad 24 (t 22) (t 23),
 mv 3 (t 24)] []))))))
def zzv:List zd:=[]
def zAt:RCode:=
 .seq (.ops [mv 2 (.const sn),
 mv 3 (k 0)] [])
 (.seq (.ops [mv 10 (t 0),
 ca 11 F.zbj [(t 10),(k 0),(k 4)],
 mv 9 (t 11),
 ex 12 (t 9) 0,
 ex 13 (t 9) 1,
 mv 4 (t 12),
 mv 5 (t 13)] [])
 (.seq (.ops [mv 15 (t 0),
 ca 16 F.zbj [(t 15),(k 4),(k 4)],
 mv 14 (t 16),
 ex 17 (t 14) 0,
 ex 18 (t 14) 1,
 mv 6 (t 17),
 mv 7 (t 18)] [])
 (.seq (.seq (.ops [mv 19 (t 5),
 o 20 (.ibin .neq (t 19) (k 0)),
 os 21 (.mov (t 20)),
 gf 21 22 (.mov (t 7)),
 gf 21 23 (.ibin .neq (t 22) (k 0)),
 o 24 (.pick (t 21) (kb true) (t 23)),
 os 25 (.mov (t 24)),
 gf 25 26 (.mov (t 4)),
 gf 25 27 (.ibin .eql (t 26) (.const (.int .u64 0))),
 o 28 (.pick (t 25) (kb true) (t 27)),
 os 29 (.mov (t 28)),
 gf 29 30 (.mov (t 4)),
 gf 29 31 (.ibin .gtr (t 30) (.const (.int .u64 65536))),
 o 32 (.pick (t 29) (kb true) (t 31)),
 os 33 (.mov (t 32)),
 gf 33 34 (.mov (t 0)),
 gf 33 35 (.len (t 34)),
 gf 33 36 (.ibin .sub (t 35) (k 8)),
 gf 33 37 (.conv .u64 (t 36)),
 gf 33 38 (.mov (t 4)),
 gf 33 39 (.ibin .lss (t 37) (t 38)),
 o 40 (.pick (t 33) (kb true) (t 39))] [])
 (.cond (t 40)
 (.seq (.ops [mv 2 (.const sn),
 mv 3 (k 0)] [])
 (.ret))
 (.skip)))
 (.seq (.ops [mv 41 (t 0),
 mv 42 (t 4),
 o 43 (.conv .i64 (t 42)),
 ad 44 (k 8) (t 43),
 o 45 (.slx 1 (t 41) (some (k 8)) (some (t 44))),
 mv 8 (t 45)] [])
 (.seq (.seq (.ops [mv 46 (t 0),
 o 47 (.slx 1 (t 46) none (some (k 4))),
 mv 48 (t 8),
 o 49 (.mkSl false 22 2 [sn,sn] [(0,1,(t 47)),(1,1,(t 48))]),
 ca 50 F.zlr [(t 49)],
 o 51 (.conv .u64 (t 50)),
 mv 52 (t 6),
 o 53 (.ibin .neq (t 51) (t 52))] [])
 (.cond (t 53)
 (.seq (.ops [mv 2 (.const sn),
 mv 3 (k 0)] [])
 (.ret))
 (.skip)))
 (.seq (.ops [o 54 (.mkSl false 5 0 [] []),
 mv 55 (t 8),
 o 56 (.app 5 1 1 [(u 0)] (t 54) (t 55)),
 mv 57 (t 4),
 o 58 (.conv .i64 (t 57)),
 ad 59 (k 8) (t 58),
 mv 2 (t 56),
 mv 3 (t 59)] [])
 (.ret)))))))
def zAu:List zd:=[.tmp 2,.tmp 3]
def zpL:RCode:=
 .seq (.ops [mv 4 (t 0),
 mv 5 (t 1),
 o 6 (.slx 1 (t 4) none (some (t 5))),
 ca 7 F.zac [(t 6)]] [])
 (.seq (.ops [mv 8 (t 0),
 mv 9 (t 1),
 o 10 (.slx 1 (t 8) (some (t 9)) none),
 ca 11 F.zac [(t 10)]] [])
 (.ops [mv 12 (t 0),
 ca 13 F.zac [(t 12)]] []))
def zpM:List zd:=[]
def ziX:RCode:=
 .seq (.ops [mv 12 (t 1),
 mv 10 (t 12)] [])
 (.block 0 (.loop (.block 1 (.seq (.ops [mv 13 (t 10),
 o 14 (.ibin .mul (k 2) (t 13)),
 ad 15 (t 14) (k 1),
 mv 11 (t 15)] [])
 (.seq (.seq (.ops [mv 16 (t 11),
 mv 17 (t 2),
 o 18 (.ibin .geq (t 16) (t 17))] [])
 (.cond (t 18)
  (.exit 0)
  (.skip)))
 (.seq (.seq (.draw (.take (mv 19 (t 11)) (.take (ad 20 (t 19) (k 1)) (.take (mv 21 (t 2)) (.take (o 22 (.ibin .lss (t 20) (t 21))) (.take (os 23 (.mov (t 22))) (.take (gt 23 24 (.mov (t 4))) (.take (gt 23 25 (.mov (t 0))) (.take (gt 23 26 (.mov (t 3))) (.take (gt 23 27 (.mov (t 11))) (.take (gt 23 28 (.ibin .add (t 26) (t 27))) (.take (gt 23 29 (.iaddr 6 (t 25) (t 28))) (.take (gt 23 30 (.load true 6 (t 29))) (.take (gt 23 31 (.mov (t 0))) (.take (gt 23 32 (.mov (t 3))) (.take (gt 23 33 (.mov (t 11))) (.take (gt 23 34 (.ibin .add (t 32) (t 33))) (.take (gt 23 35 (.ibin .add (t 34) (k 1))) (.take (gt 23 36 (.iaddr 6 (t 31) (t 35))) (.take (gt 23 37 (.load true 6 (t 36))) (.alt (gt 23 38 (.call (t 24) [(t 30),(t 37)])) false
  (.take (gt 23 39 (.ibin .lss (t 38) (k 0))) (.take (o 40 (.pick (t 23) (t 39) (kb false))) (.done)))
  (.none))))))))))))))))))))) [])
 (.cond (t 40)
  (.ops [mv 41 (t 11),
  ad 42 (t 41) (k 1),
  mv 11 (t 42)] [])
  (.skip)))
 (.seq (.seq (.draw (.take (mv 43 (t 4)) (.take (mv 44 (t 0)) (.take (mv 45 (t 3)) (.take (mv 46 (t 10)) (.take (ad 47 (t 45) (t 46)) (.take (o 48 (.iaddr 6 (t 44) (t 47))) (.take (la 49 6 (t 48)) (.take (mv 50 (t 0)) (.take (mv 51 (t 3)) (.take (mv 52 (t 11)) (.take (ad 53 (t 51) (t 52)) (.take (o 54 (.iaddr 6 (t 50) (t 53))) (.take (la 55 6 (t 54)) (.alt (o 56 (.call (t 43) [(t 49),(t 55)])) false
  (.take (o 57 (.ibin .lss (t 56) (k 0))) (.take (o 58 (.not (t 57))) (.done)))
  (.none))))))))))))))) [])
 (.cond (t 58)
  (.ret)
  (.skip)))
 (.seq (.draw (.take (mv 59 (t 0)) (.take (mv 60 (t 3)) (.take (mv 61 (t 10)) (.take (ad 62 (t 60) (t 61)) (.take (mv 63 (t 0)) (.take (mv 64 (t 3)) (.take (mv 65 (t 11)) (.take (ad 66 (t 64) (t 65)) (.take (mv 67 (t 0)) (.take (mv 68 (t 3)) (.take (mv 69 (t 11)) (.take (ad 70 (t 68) (t 69)) (.take (o 71 (.iaddr 6 (t 67) (t 70))) (.take (la 72 6 (t 71)) (.take (mv 73 (t 0)) (.take (mv 74 (t 3)) (.take (mv 75 (t 10)) (.take (ad 76 (t 74) (t 75)) (.take (o 77 (.iaddr 6 (t 73) (t 76))) (.take (la 78 6 (t 77)) (.take (o 79 (.iaddr 6 (t 59) (t 62))) (.alt (st 6 (t 79) (t 72)) false
  (.take (o 80 (.iaddr 6 (t 63) (t 66))) (.alt (st 6 (t 80) (t 78)) false
  (.done)
  (.none)))
  (.none))))))))))))))))))))))) [])
 (.ops [mv 81 (t 11),
 mv 10 (t 81)] [])))))))))
def ziY:List zd:=[]
def zfR:RCode:=
 .seq (.ops [mv 8 (k 0)] [])
 (.seq (.ops [mv 9 (t 0),
 mv 10 (t 1),
 o 11 (.ibin .sub (t 10) (k 1)),
 mv 12 (t 1),
 mv 13 (t 1),
 ad 14 (t 13) (k 1),
 mv 15 (t 2),
 mv 16 (t 3),
 ca 17 F.zcG [(t 9),(t 11),(t 12),(t 14),(t 15),(t 16)],
 mv 8 (t 17)] [])
 (.ret))
def zfS:List zd:=[.tmp 8]
def zka:RCode:=
 .seq (.ops [mv 12 (k 0)] [])
 (.seq (.ops [mv 14 (t 0),
 mv 15 (t 1),
 mv 16 (t 2),
 mv 17 (t 4),
 mv 18 (t 5),
 ca 19 F.zaV [(t 14),(t 15),(t 16),(t 17),(t 18)],
 mv 13 (t 19),
 ex 20 (t 13) 0,
 ex 21 (t 13) 1,
 mv 1 (t 20),
 mv 2 (t 21)] [])
 (.seq (.ops [mv 23 (t 0),
 mv 24 (t 2),
 mv 25 (t 3),
 mv 26 (t 4),
 mv 27 (t 5),
 ca 28 F.zaV [(t 23),(t 24),(t 25),(t 26),(t 27)],
 mv 22 (t 28),
 ex 29 (t 22) 0,
 ex 30 (t 22) 1,
 mv 2 (t 29),
 mv 3 (t 30)] [])
 (.seq (.ops [mv 32 (t 0),
 mv 33 (t 1),
 mv 34 (t 2),
 mv 35 (t 4),
 mv 36 (t 5),
 ca 37 F.zaV [(t 32),(t 33),(t 34),(t 35),(t 36)],
 mv 31 (t 37),
 ex 38 (t 31) 0,
 ex 39 (t 31) 1,
 mv 1 (t 38),
 mv 2 (t 39)] [])
 (.seq (.ops [mv 40 (t 2),
 mv 12 (t 40)] [])
 (.ret)))))
def zkb:List zd:=[.tmp 12]
def zkw:RCode:=
 .seq (.ops [mv 12 (t 1),
 mv 10 (t 12)] [])
 (.block 0 (.loop (.block 1 (.seq (.ops [mv 13 (t 10),
 o 14 (.ibin .mul (k 2) (t 13)),
 ad 15 (t 14) (k 1),
 mv 11 (t 15)] [])
 (.seq (.seq (.ops [mv 16 (t 11),
 mv 17 (t 2),
 o 18 (.ibin .geq (t 16) (t 17))] [])
 (.cond (t 18)
  (.exit 0)
  (.skip)))
 (.seq (.seq (.draw (.take (mv 19 (t 11)) (.take (ad 20 (t 19) (k 1)) (.take (mv 21 (t 2)) (.take (o 22 (.ibin .lss (t 20) (t 21))) (.take (os 23 (.mov (t 22))) (.take (gt 23 24 (.mov (t 4))) (.take (gt 23 25 (.mov (t 0))) (.take (gt 23 26 (.mov (t 3))) (.take (gt 23 27 (.mov (t 11))) (.take (gt 23 28 (.ibin .add (t 26) (t 27))) (.take (gt 23 29 (.iaddr 4 (t 25) (t 28))) (.take (gt 23 30 (.load true 4 (t 29))) (.take (gt 23 31 (.mov (t 0))) (.take (gt 23 32 (.mov (t 3))) (.take (gt 23 33 (.mov (t 11))) (.take (gt 23 34 (.ibin .add (t 32) (t 33))) (.take (gt 23 35 (.ibin .add (t 34) (k 1))) (.take (gt 23 36 (.iaddr 4 (t 31) (t 35))) (.take (gt 23 37 (.load true 4 (t 36))) (.alt (gt 23 38 (.call (t 24) [(t 30),(t 37)])) false
  (.take (gt 23 39 (.ibin .lss (t 38) (k 0))) (.take (o 40 (.pick (t 23) (t 39) (kb false))) (.done)))
  (.none))))))))))))))))))))) [])
 (.cond (t 40)
  (.ops [mv 41 (t 11),
  ad 42 (t 41) (k 1),
  mv 11 (t 42)] [])
  (.skip)))
 (.seq (.seq (.draw (.take (mv 43 (t 4)) (.take (mv 44 (t 0)) (.take (mv 45 (t 3)) (.take (mv 46 (t 10)) (.take (ad 47 (t 45) (t 46)) (.take (o 48 (.iaddr 4 (t 44) (t 47))) (.take (la 49 4 (t 48)) (.take (mv 50 (t 0)) (.take (mv 51 (t 3)) (.take (mv 52 (t 11)) (.take (ad 53 (t 51) (t 52)) (.take (o 54 (.iaddr 4 (t 50) (t 53))) (.take (la 55 4 (t 54)) (.alt (o 56 (.call (t 43) [(t 49),(t 55)])) false
  (.take (o 57 (.ibin .lss (t 56) (k 0))) (.take (o 58 (.not (t 57))) (.done)))
  (.none))))))))))))))) [])
 (.cond (t 58)
  (.ret)
  (.skip)))
 (.seq (.draw (.take (mv 59 (t 0)) (.take (mv 60 (t 3)) (.take (mv 61 (t 10)) (.take (ad 62 (t 60) (t 61)) (.take (mv 63 (t 0)) (.take (mv 64 (t 3)) (.take (mv 65 (t 11)) (.take (ad 66 (t 64) (t 65)) (.take (mv 67 (t 0)) (.take (mv 68 (t 3)) (.take (mv 69 (t 11)) (.take (ad 70 (t 68) (t 69)) (.take (o 71 (.iaddr 4 (t 67) (t 70))) (.take (la 72 4 (t 71)) (.take (mv 73 (t 0)) (.take (mv 74 (t 3)) (.take (mv 75 (t 10)) (.take (ad 76 (t 74) (t 75)) (.take (o 77 (.iaddr 4 (t 73) (t 76))) (.take (la 78 4 (t 77)) (.take (o 79 (.iaddr 4 (t 59) (t 62))) (.alt (st 4 (t 79) (t 72)) false
  (.take (o 80 (.iaddr 4 (t 63) (t 66))) (.alt (st 4 (t 80) (t 78)) false
  (.done)
  (.none)))
  (.none))))))))))))))))))))))) [])
 (.ops [mv 81 (t 11),
 mv 10 (t 81)] [])))))))))
def zkx:List zd:=[]
def zhB:RCode:=
 .seq (.ops [mv 8 (k 0)] [])
 (.seq (.ops [mv 9 (t 0),
 mv 10 (t 1),
 o 11 (.ibin .sub (t 10) (k 1)),
 mv 12 (t 1),
 mv 13 (t 1),
 ad 14 (t 13) (k 1),
 mv 15 (t 2),
 mv 16 (t 3),
 ca 17 F.zdV [(t 9),(t 11),(t 12),(t 14),(t 15),(t 16)],
 mv 8 (t 17)] [])
 (.ret))
def zhC:List zd:=[.tmp 8]
def zlK:RCode:=
 .seq (.ops [mv 12 (k 0)] [])
 (.seq (.ops [mv 14 (t 0),
 mv 15 (t 1),
 mv 16 (t 2),
 mv 17 (t 4),
 mv 18 (t 5),
 ca 19 F.zbg [(t 14),(t 15),(t 16),(t 17),(t 18)],
 mv 13 (t 19),
 ex 20 (t 13) 0,
 ex 21 (t 13) 1,
 mv 1 (t 20),
 mv 2 (t 21)] [])
 (.seq (.ops [mv 23 (t 0),
 mv 24 (t 2),
 mv 25 (t 3),
 mv 26 (t 4),
 mv 27 (t 5),
 ca 28 F.zbg [(t 23),(t 24),(t 25),(t 26),(t 27)],
 mv 22 (t 28),
 ex 29 (t 22) 0,
 ex 30 (t 22) 1,
 mv 2 (t 29),
 mv 3 (t 30)] [])
 (.seq (.ops [mv 32 (t 0),
 mv 33 (t 1),
 mv 34 (t 2),
 mv 35 (t 4),
 mv 36 (t 5),
 ca 37 F.zbg [(t 32),(t 33),(t 34),(t 35),(t 36)],
 mv 31 (t 37),
 ex 38 (t 31) 0,
 ex 39 (t 31) 1,
 mv 1 (t 38),
 mv 2 (t 39)] [])
 (.seq (.ops [mv 40 (t 2),
 mv 12 (t 40)] [])
 (.ret)))))
def zlL:List zd:=[.tmp 12]
def zcU:RCode:=
 .seq (.ops [mv 2 (.const sn)] [])
 (.seq (.seq (.ops [mv 5 (t 0),
 o 6 (.pnil .eql (t 5) (.const (.pointer none)))] [])
 (.cond (t 6)
 (.seq (.ops [mv 2 (.const sn)] [])
 (.ret))
 (.skip)))
 (.seq (.ops [mv 3 (.const sn)] [])
 (.seq (.seq (.ops [mv 7 (t 0),
 o 8 (.nilck (t 7)),
 fa 9 2 (t 8),
 l1 10 (t 9),
 o 11 (.mrange (t 10))] [])
 (.block 0 (.loop (.seq (.ops [o 12 (.mnext (t 11)),
 ex 13 (t 12) 0] [])
 (.seq (.cond (t 13)
  (.skip)
  (.exit 0))
 (.block 1 (.seq (.ops [o 14 (.mentry (t 11)),
 ex 15 (t 14) 0,
 mv 4 (t 15)] [])
 (.ops [mv 16 (t 3),
 mv 17 (t 4),
 o 18 (.mkSl true 3 1 [(i 0)] [(0,1,(t 17))]),
 o 19 (.app 3 1 8 [(i 0)] (t 16) (t 18)),
 mv 3 (t 19)] []))))))))
 (.seq (.ops [mv 20 (t 0),
 o 21 (.nilck (t 20)),
 fa 22 1 (t 21),
 l1 23 (t 22),
 mv 24 (t 3),
 ca 25 F.zkB [(t 23),(t 24)],
 mv 2 (t 25)] [])
 (.ret)))))
def zcV:List zd:=[.tmp 2]
theorem zri {args:List Value} {M:Mem} {R:Value→Mem→Prop} (hn:args.length≤26) (h:zj Tryz.prog zcU zcV args M R):CallsM Tryz.prog F.zgj args M R:=
 zf (kf:=fun _=>[]) Tryz.func330 (by kernel_rfl) (by kernel_rfl) hn (by kernel_rfl) h
def zxJ:RCode:=
 .seq (.ops [mv 6 (.const sn)] [])
 (.seq (.ops [mv 10 (t 2),
 ca 11 F.zcf [(t 10)],
 o 7 (.alloc 388 [(.bool false),(.bool false),(.bool false),(.bool false),(.bool false),(.bool false),(.bool false),(.bool false),(.bool false),(.bool false),(.bool false),(.bool false),(.bool false),(.bool false),(.bool false),(.bool false),(.bool false),(.bool false),(.bool false),(.bool false),(.bool false),(.bool false),(.bool false),(.bool false),(.bool false),(.bool false),(.bool false),(.bool false),(.bool false),(.bool false),(.bool false),(.bool false),(.bool false),(.bool false),(.bool false),(.bool false),(.bool false),(.bool false),(.bool false),(.bool false),(.bool false),(.bool false),(.bool false),(.bool false),(.bool false),(.bool false),(.bool false),(.bool false),(.bool false),(.bool false),(.bool false),(.bool false),(.bool false),(.bool false),(.bool false),(.bool false),(.bool false),(.bool false),(.bool false),(.bool false),(.bool false),(.bool false),(.bool false),(.bool false),(.bool false),(.bool false),(.bool false),(.bool false),(.bool false),(.bool false),(.bool false),(.bool false),(.bool false),(.bool false),(.bool false),(.bool false),(.bool false),(.bool false),(.bool false),(.bool false),(.bool false),(.bool false),(.bool false),(.bool false),(.bool false),(.bool false),(.bool false),(.bool false),(.bool false),(.bool false),(.bool false),(.bool false),(.bool false),(.bool false),(.bool false),(.bool false),(.bool false),(.bool false),(.bool false),(.bool false),(.bool false),(.bool false),(.bool false),(.bool false),(.bool false),(.bool false),(.bool false),(.bool false),(.bool false),(.bool false),(.bool false),(.bool false),(.bool false),(.bool false),(.bool false),(.bool false),(.bool false),(.bool false),(.bool false),(.bool false),(.bool false),(.bool false),(.bool false),(.bool false),(.bool false),(.bool false),(.bool false),(.bool false)]),
 st 128 (t 7) (t 11)] [])
 (.seq (.ops [o 8 (.alloc 87 [sn])] [])
 (.seq (.seq (.ops [mv 12 (t 0),
 mv 13 (t 0),
 mv 14 (t 1),
 ca 15 F.zdb [(t 13),(t 14)],
 ca 16 F.zcC [(t 12),(t 15)]] [])
 (.block 0 (.rfun ((t 16)) [17] (.ops [mv 9 (t 17)] [])
 (.block 1 (.seq (.ops [mv 18 (t 9),
 o 19 (.iaddrA 128 1 (t 7) (t 18)),
 l1 20 (t 19),
 o 21 (.not (t 20))] [])
 (.cond (t 21)
  (.ops [l1 22 (t 8),
  mv 23 (t 9),
  o 24 (.mkSl true 3 1 [(i 0)] [(0,1,(t 23))]),
  o 25 (.app 3 1 8 [(i 0)] (t 22) (t 24)),
  st 1 (t 8) (t 25)] [])
  (.skip)))))))
 (.seq (.ops [l1 26 (t 8),
 mv 6 (t 26)] [])
 (.ret)))))
def zxK:List zd:=[.tmp 6]
def zY:RCode:=
 .seq (.ops [mv 10 (t 1),
 ad 11 (t 10) (k 1),
 mv 8 (t 11)] [])
 (.block 0 (.loop (.seq (.seq (.ops [mv 12 (t 8),
 mv 13 (t 2),
 o 14 (.ibin .lss (t 12) (t 13))] [])
 (.cond (t 14)
  (.skip)
  (.exit 0)))
 (.seq (.block 1 (.seq (.ops [mv 17 (t 8),
 mv 9 (t 17)] [])
 (.block 2 (.loop (.seq (.seq (.draw (.take (mv 18 (t 9)) (.take (mv 19 (t 1)) (.take (o 20 (.ibin .gtr (t 18) (t 19))) (.take (os 21 (.mov (t 20))) (.take (gt 21 22 (.mov (t 3))) (.take (gt 21 23 (.mov (t 0))) (.take (gt 21 24 (.mov (t 9))) (.take (gt 21 25 (.iaddr 4 (t 23) (t 24))) (.take (gt 21 26 (.load true 4 (t 25))) (.take (gt 21 27 (.mov (t 0))) (.take (gt 21 28 (.mov (t 9))) (.take (gt 21 29 (.ibin .sub (t 28) (k 1))) (.take (gt 21 30 (.iaddr 4 (t 27) (t 29))) (.take (gt 21 31 (.load true 4 (t 30))) (.alt (gt 21 32 (.call (t 22) [(t 26),(t 31)])) false
  (.take (gt 21 33 (.ibin .lss (t 32) (k 0))) (.take (o 34 (.pick (t 21) (t 33) (kb false))) (.done)))
  (.none)))))))))))))))) [])
  (.cond (t 34)
  (.skip)
  (.exit 2)))
  (.seq (.block 3 (.draw (.take (mv 37 (t 0)) (.take (mv 38 (t 9)) (.take (mv 39 (t 0)) (.take (mv 40 (t 9)) (.take (o 41 (.ibin .sub (t 40) (k 1))) (.take (mv 42 (t 0)) (.take (mv 43 (t 9)) (.take (o 44 (.ibin .sub (t 43) (k 1))) (.take (o 45 (.iaddr 4 (t 42) (t 44))) (.take (la 46 4 (t 45)) (.take (mv 47 (t 0)) (.take (mv 48 (t 9)) (.take (o 49 (.iaddr 4 (t 47) (t 48))) (.take (la 50 4 (t 49)) (.take (o 51 (.iaddr 4 (t 37) (t 38))) (.alt (st 4 (t 51) (t 46)) false
  (.take (o 52 (.iaddr 4 (t 39) (t 41))) (.alt (st 4 (t 52) (t 50)) false
   (.done)
   (.none)))
  (.none))))))))))))))))) []))
  (.ops [mv 35 (t 9),
  o 36 (.ibin .sub (t 35) (k 1)),
  mv 9 (t 36)] [])))))))
 (.ops [mv 15 (t 8),
 ad 16 (t 15) (k 1),
 mv 8 (t 16)] [])))))
def zZ:List zd:=[]
theorem ziy {args:List Value} {M:Mem} {R:Value→Mem→Prop} (hn:args.length≤53) (h:zj Tryz.prog zY zZ args M R):CallsM Tryz.prog F.zaL args M R:=
 zf (kf:=fun _=>[]) Tryz.func332 (by kernel_rfl) (by kernel_rfl) hn (by kernel_rfl) h
def zlM:RCode:=
 .seq (.ops [mv 13 (t 1),
 mv 8 (t 13)] [])
 (.seq (.ops [mv 9 (k 0)] [])
 (.seq (.ops [mv 14 (t 2),
 mv 15 (t 1),
 o 16 (.ibin .sub (t 14) (t 15)),
 mv 10 (t 16)] [])
 (.seq (.seq (.ops [mv 17 (t 10),
 o 18 (.ibin .sub (t 17) (k 1)),
 o 19 (.ibin .quo (t 18) (k 2)),
 mv 11 (t 19)] [])
 (.block 0 (.loop (.seq (.seq (.ops [mv 20 (t 11),
 o 21 (.ibin .geq (t 20) (k 0))] [])
 (.cond (t 21)
  (.skip)
  (.exit 0)))
 (.seq (.block 1 (.ops [mv 24 (t 0),
 mv 25 (t 11),
 mv 26 (t 10),
 mv 27 (t 8),
 mv 28 (t 3),
 ca 29 F.zdW [(t 24),(t 25),(t 26),(t 27),(t 28)]] []))
 (.ops [mv 22 (t 11),
 o 23 (.ibin .sub (t 22) (k 1)),
 mv 11 (t 23)] []))))))
 (.seq (.ops [mv 30 (t 10),
 o 31 (.ibin .sub (t 30) (k 1)),
 mv 12 (t 31)] [])
 (.block 2 (.loop (.seq (.seq (.ops [mv 32 (t 12),
 o 33 (.ibin .geq (t 32) (k 0))] [])
 (.cond (t 33)
  (.skip)
  (.exit 2)))
 (.seq (.block 3 (.seq (.draw (.take (mv 36 (t 0)) (.take (mv 37 (t 8)) (.take (mv 38 (t 0)) (.take (mv 39 (t 8)) (.take (mv 40 (t 12)) (.take (ad 41 (t 39) (t 40)) (.take (mv 42 (t 0)) (.take (mv 43 (t 8)) (.take (mv 44 (t 12)) (.take (ad 45 (t 43) (t 44)) (.take (o 46 (.iaddr 4 (t 42) (t 45))) (.take (la 47 4 (t 46)) (.take (mv 48 (t 0)) (.take (mv 49 (t 8)) (.take (o 50 (.iaddr 4 (t 48) (t 49))) (.take (la 51 4 (t 50)) (.take (o 52 (.iaddr 4 (t 36) (t 37))) (.alt (st 4 (t 52) (t 47)) false
  (.take (o 53 (.iaddr 4 (t 38) (t 41))) (.alt (st 4 (t 53) (t 51)) false
  (.done)
  (.none)))
  (.none))))))))))))))))))) [])
 (.ops [mv 54 (t 0),
 mv 55 (t 9),
 mv 56 (t 12),
 mv 57 (t 8),
 mv 58 (t 3),
 ca 59 F.zdW [(t 54),(t 55),(t 56),(t 57),(t 58)]] [])))
 (.ops [mv 34 (t 12),
 o 35 (.ibin .sub (t 34) (k 1)),
 mv 12 (t 35)] [])))))))))
def zlN:List zd:=[]
def ziZ:RCode:=
 .seq (.ops [mv 13 (t 2),
 mv 14 (t 1),
 o 15 (.ibin .sub (t 13) (t 14)),
 mv 8 (t 15)] [])
 (.seq (.ops [mv 16 (t 8),
 o 17 (.ibin .geq (t 16) (k 8))] [])
 (.cond (t 17)
 (.seq (.ops [mv 18 (t 8),
 o 19 (.conv .u64 (t 18)),
 o 9 (.alloc 340 [(.int .u64 0)]),
 st 1 (t 9) (t 19)] [])
 (.seq (.ops [mv 20 (t 8),
 ca 21 F.zaP [(t 20)],
 mv 10 (t 21)] [])
 (.seq (.ops [mv 22 (t 1),
 mv 23 (t 8),
 o 24 (.ibin .quo (t 23) (k 4)),
 o 25 (.ibin .mul (t 24) (k 2)),
 ad 26 (t 22) (t 25),
 o 27 (.ibin .sub (t 26) (k 1)),
 mv 11 (t 27)] [])
 (.block 0 (.loop (.seq (.seq (.ops [mv 28 (t 11),
  mv 29 (t 1),
  mv 30 (t 8),
  o 31 (.ibin .quo (t 30) (k 4)),
  o 32 (.ibin .mul (t 31) (k 2)),
  ad 33 (t 29) (t 32),
  ad 34 (t 33) (k 1),
  o 35 (.ibin .leq (t 28) (t 34))] [])
  (.cond (t 35)
  (.skip)
  (.exit 0)))
  (.seq (.block 1 (.seq (.ops [ca 38 F.za2 [(t 9)],
  mv 39 (t 10),
  o 40 (.ibin .sub (t 39) (.const (.int .u64 1))),
  o 41 (.ibin .and (t 38) (t 40)),
  o 42 (.conv .i64 (t 41)),
  mv 12 (t 42)] [])
  (.seq (.seq (.ops [mv 43 (t 12),
  mv 44 (t 8),
  o 45 (.ibin .geq (t 43) (t 44))] [])
  (.cond (t 45)
  (.ops [mv 46 (t 12),
  mv 47 (t 8),
  o 48 (.ibin .sub (t 46) (t 47)),
  mv 12 (t 48)] [])
  (.skip)))
  (.draw (.take (mv 49 (t 0)) (.take (mv 50 (t 11)) (.take (mv 51 (t 0)) (.take (mv 52 (t 1)) (.take (mv 53 (t 12)) (.take (ad 54 (t 52) (t 53)) (.take (mv 55 (t 0)) (.take (mv 56 (t 1)) (.take (mv 57 (t 12)) (.take (ad 58 (t 56) (t 57)) (.take (o 59 (.iaddr 4 (t 55) (t 58))) (.take (la 60 4 (t 59)) (.take (mv 61 (t 0)) (.take (mv 62 (t 11)) (.take (o 63 (.iaddr 4 (t 61) (t 62))) (.take (la 64 4 (t 63)) (.take (o 65 (.iaddr 4 (t 49) (t 50))) (.alt (st 4 (t 65) (t 60)) false
  (.take (o 66 (.iaddr 4 (t 51) (t 54))) (.alt (st 4 (t 66) (t 64)) false
   (.done)
   (.none)))
  (.none))))))))))))))))))) []))))
  (.ops [mv 36 (t 11),
  ad 37 (t 36) (k 1),
  mv 11 (t 37)] []))))))))
 (.skip)))
def zi0:List zd:=[]
def zkc:RCode:=
 .seq (.ops [mv 8 (k 0),
 mv 9 (k 0)] [])
 (.seq (.ops [mv 15 (t 2),
 mv 16 (t 1),
 o 17 (.ibin .sub (t 15) (t 16)),
 mv 10 (t 17)] [])
 (.seq (.ops [o 11 (.alloc 3 [(i 0)])] [])
 (.seq (.ops [mv 18 (t 1),
 mv 19 (t 10),
 o 20 (.ibin .quo (t 19) (k 4)),
 o 21 (.ibin .mul (t 20) (k 1)),
 ad 22 (t 18) (t 21),
 mv 12 (t 22)] [])
 (.seq (.ops [mv 23 (t 1),
 mv 24 (t 10),
 o 25 (.ibin .quo (t 24) (k 4)),
 o 26 (.ibin .mul (t 25) (k 2)),
 ad 27 (t 23) (t 26),
 mv 13 (t 27)] [])
 (.seq (.ops [mv 28 (t 1),
 mv 29 (t 10),
 o 30 (.ibin .quo (t 29) (k 4)),
 o 31 (.ibin .mul (t 30) (k 3)),
 ad 32 (t 28) (t 31),
 mv 14 (t 32)] [])
 (.seq (.seq (.ops [mv 33 (t 10),
 o 34 (.ibin .geq (t 33) (k 8))] [])
 (.cond (t 34)
 (.seq (.seq (.ops [mv 35 (t 10),
 o 36 (.ibin .geq (t 35) (k 50))] [])
 (.cond (t 36)
  (.seq (.ops [mv 37 (t 0),
  mv 38 (t 12),
  mv 39 (t 3),
  ca 40 F.zaB [(t 37),(t 38),(t 11),(t 39)],
  mv 12 (t 40)] [])
  (.seq (.ops [mv 41 (t 0),
  mv 42 (t 13),
  mv 43 (t 3),
  ca 44 F.zaB [(t 41),(t 42),(t 11),(t 43)],
  mv 13 (t 44)] [])
  (.ops [mv 45 (t 0),
  mv 46 (t 14),
  mv 47 (t 3),
  ca 48 F.zaB [(t 45),(t 46),(t 11),(t 47)],
  mv 14 (t 48)] [])))
  (.skip)))
 (.ops [mv 49 (t 0),
 mv 50 (t 12),
 mv 51 (t 13),
 mv 52 (t 14),
 mv 53 (t 3),
 ca 54 F.zeT [(t 49),(t 50),(t 51),(t 52),(t 11),(t 53)],
 mv 13 (t 54)] []))
 (.skip)))
 (.seq (.ops [l1 55 (t 11)] [])
 (.block 0 (.seq (.ops [o 58 (.ibin .eql (t 55) (k 0)),
 mv 57 (t 58)] [])
 (.cond (t 57)
 (.seq (.ops [mv 59 (t 13),
 mv 8 (t 59),
 mv 9 (k 1)] [])
 (.ret))
 (.seq (.ops [o 61 (.ibin .eql (t 55) (k 12)),
 mv 60 (t 61)] [])
 (.cond (t 60)
  (.seq (.ops [mv 62 (t 13),
  mv 8 (t 62),
  mv 9 (k 2)] [])
  (.ret))
  (.seq (.ops [mv 56 (t 13),
  mv 8 (t 56),
  mv 9 (k 0)] [])
  (.ret))))))))))))))
def zkd:List zd:=[.tmp 8,.tmp 9]
def zjG:RCode:=
 .seq (.ops [mv 10 (t 1),
 mv 8 (t 10)] [])
 (.seq (.ops [mv 11 (t 2),
 o 12 (.ibin .sub (t 11) (k 1)),
 mv 9 (t 12)] [])
 (.block 0 (.loop (.seq (.seq (.ops [mv 13 (t 8),
 mv 14 (t 9),
 o 15 (.ibin .lss (t 13) (t 14))] [])
 (.cond (t 15)
  (.skip)
  (.exit 0)))
 (.block 1 (.seq (.draw (.take (mv 16 (t 0)) (.take (mv 17 (t 8)) (.take (mv 18 (t 0)) (.take (mv 19 (t 9)) (.take (mv 20 (t 0)) (.take (mv 21 (t 9)) (.take (o 22 (.iaddr 4 (t 20) (t 21))) (.take (la 23 4 (t 22)) (.take (mv 24 (t 0)) (.take (mv 25 (t 8)) (.take (o 26 (.iaddr 4 (t 24) (t 25))) (.take (la 27 4 (t 26)) (.take (o 28 (.iaddr 4 (t 16) (t 17))) (.alt (st 4 (t 28) (t 23)) false
  (.take (o 29 (.iaddr 4 (t 18) (t 19))) (.alt (st 4 (t 29) (t 27)) false
  (.done)
  (.none)))
  (.none))))))))))))))) [])
 (.seq (.ops [mv 30 (t 8),
 ad 31 (t 30) (k 1),
 mv 8 (t 31)] [])
 (.ops [mv 32 (t 9),
 o 33 (.ibin .sub (t 32) (k 1)),
 mv 9 (t 33)] []))))))))
def zjH:List zd:=[]
def zeY:RCode:=
 .seq (.ops [mv 8 (kb false)] [])
 (.seq (.ops [mv 13 (t 1),
 ad 14 (t 13) (k 1),
 mv 9 (t 14)] [])
 (.seq (.seq (.ops [mv 10 (k 0)] [])
 (.block 0 (.loop (.seq (.seq (.ops [mv 15 (t 10),
 o 16 (.ibin .lss (t 15) (k 5))] [])
 (.cond (t 16)
  (.skip)
  (.exit 0)))
 (.seq (.block 1 (.seq (.block 2 (.loop (.seq (.seq (.draw (.take (mv 19 (t 9)) (.take (mv 20 (t 2)) (.take (o 21 (.ibin .lss (t 19) (t 20))) (.take (os 22 (.mov (t 21))) (.take (gt 22 23 (.mov (t 3))) (.take (gt 22 24 (.mov (t 0))) (.take (gt 22 25 (.mov (t 9))) (.take (gt 22 26 (.iaddr 4 (t 24) (t 25))) (.take (gt 22 27 (.load true 4 (t 26))) (.take (gt 22 28 (.mov (t 0))) (.take (gt 22 29 (.mov (t 9))) (.take (gt 22 30 (.ibin .sub (t 29) (k 1))) (.take (gt 22 31 (.iaddr 4 (t 28) (t 30))) (.take (gt 22 32 (.load true 4 (t 31))) (.alt (gt 22 33 (.call (t 23) [(t 27),(t 32)])) false
  (.take (gt 22 34 (.ibin .lss (t 33) (k 0))) (.take (gt 22 35 (.not (t 34))) (.take (o 36 (.pick (t 22) (t 35) (kb false))) (.done))))
  (.none)))))))))))))))) [])
  (.cond (t 36)
  (.skip)
  (.exit 2)))
  (.block 3 (.ops [mv 37 (t 9),
  ad 38 (t 37) (k 1),
  mv 9 (t 38)] [])))))
 (.seq (.seq (.ops [mv 39 (t 9),
 mv 40 (t 2),
 o 41 (.ibin .eql (t 39) (t 40))] [])
 (.cond (t 41)
  (.seq (.ops [mv 8 (kb true)] [])
  (.ret))
  (.skip)))
 (.seq (.seq (.ops [mv 42 (t 2),
 mv 43 (t 1),
 o 44 (.ibin .sub (t 42) (t 43)),
 o 45 (.ibin .lss (t 44) (k 50))] [])
 (.cond (t 45)
  (.seq (.ops [mv 8 (kb false)] [])
  (.ret))
  (.skip)))
 (.seq (.draw (.take (mv 46 (t 0)) (.take (mv 47 (t 9)) (.take (mv 48 (t 0)) (.take (mv 49 (t 9)) (.take (o 50 (.ibin .sub (t 49) (k 1))) (.take (mv 51 (t 0)) (.take (mv 52 (t 9)) (.take (o 53 (.ibin .sub (t 52) (k 1))) (.take (o 54 (.iaddr 4 (t 51) (t 53))) (.take (la 55 4 (t 54)) (.take (mv 56 (t 0)) (.take (mv 57 (t 9)) (.take (o 58 (.iaddr 4 (t 56) (t 57))) (.take (la 59 4 (t 58)) (.take (o 60 (.iaddr 4 (t 46) (t 47))) (.alt (st 4 (t 60) (t 55)) false
  (.take (o 61 (.iaddr 4 (t 48) (t 50))) (.alt (st 4 (t 61) (t 59)) false
  (.done)
  (.none)))
  (.none))))))))))))))))) [])
 (.seq (.seq (.ops [mv 62 (t 9),
 mv 63 (t 1),
 o 64 (.ibin .sub (t 62) (t 63)),
 o 65 (.ibin .geq (t 64) (k 2))] [])
 (.cond (t 65)
  (.seq (.ops [mv 66 (t 9),
  o 67 (.ibin .sub (t 66) (k 1)),
  mv 11 (t 67)] [])
  (.block 4 (.loop (.seq (.seq (.ops [mv 68 (t 11),
  o 69 (.ibin .geq (t 68) (k 1))] [])
  (.cond (t 69)
   (.skip)
   (.exit 4)))
  (.seq (.block 5 (.seq (.seq (.draw (.take (mv 72 (t 3)) (.take (mv 73 (t 0)) (.take (mv 74 (t 11)) (.take (o 75 (.iaddr 4 (t 73) (t 74))) (.take (la 76 4 (t 75)) (.take (mv 77 (t 0)) (.take (mv 78 (t 11)) (.take (o 79 (.ibin .sub (t 78) (k 1))) (.take (o 80 (.iaddr 4 (t 77) (t 79))) (.take (la 81 4 (t 80)) (.alt (o 82 (.call (t 72) [(t 76),(t 81)])) false
   (.take (o 83 (.ibin .lss (t 82) (k 0))) (.take (o 84 (.not (t 83))) (.done)))
   (.none)))))))))))) [])
  (.cond (t 84)
   (.exit 4)
   (.skip)))
  (.draw (.take (mv 85 (t 0)) (.take (mv 86 (t 11)) (.take (mv 87 (t 0)) (.take (mv 88 (t 11)) (.take (o 89 (.ibin .sub (t 88) (k 1))) (.take (mv 90 (t 0)) (.take (mv 91 (t 11)) (.take (o 92 (.ibin .sub (t 91) (k 1))) (.take (o 93 (.iaddr 4 (t 90) (t 92))) (.take (la 94 4 (t 93)) (.take (mv 95 (t 0)) (.take (mv 96 (t 11)) (.take (o 97 (.iaddr 4 (t 95) (t 96))) (.take (la 98 4 (t 97)) (.take (o 99 (.iaddr 4 (t 85) (t 86))) (.alt (st 4 (t 99) (t 94)) false
   (.take (o 100 (.iaddr 4 (t 87) (t 89))) (.alt (st 4 (t 100) (t 98)) false
   (.done)
   (.none)))
   (.none))))))))))))))))) [])))
  (.ops [mv 70 (t 11),
  o 71 (.ibin .sub (t 70) (k 1)),
  mv 11 (t 71)] []))))))
  (.skip)))
 (.seq (.ops [mv 101 (t 2),
 mv 102 (t 9),
 o 103 (.ibin .sub (t 101) (t 102)),
 o 104 (.ibin .geq (t 103) (k 2))] [])
 (.cond (t 104)
  (.seq (.ops [mv 105 (t 9),
  ad 106 (t 105) (k 1),
  mv 12 (t 106)] [])
  (.block 6 (.loop (.seq (.seq (.ops [mv 107 (t 12),
  mv 108 (t 2),
  o 109 (.ibin .lss (t 107) (t 108))] [])
  (.cond (t 109)
   (.skip)
   (.exit 6)))
  (.seq (.block 7 (.seq (.seq (.draw (.take (mv 112 (t 3)) (.take (mv 113 (t 0)) (.take (mv 114 (t 12)) (.take (o 115 (.iaddr 4 (t 113) (t 114))) (.take (la 116 4 (t 115)) (.take (mv 117 (t 0)) (.take (mv 118 (t 12)) (.take (o 119 (.ibin .sub (t 118) (k 1))) (.take (o 120 (.iaddr 4 (t 117) (t 119))) (.take (la 121 4 (t 120)) (.alt (o 122 (.call (t 112) [(t 116),(t 121)])) false
   (.take (o 123 (.ibin .lss (t 122) (k 0))) (.take (o 124 (.not (t 123))) (.done)))
   (.none)))))))))))) [])
  (.cond (t 124)
   (.exit 6)
   (.skip)))
  (.draw (.take (mv 125 (t 0)) (.take (mv 126 (t 12)) (.take (mv 127 (t 0)) (.take (mv 128 (t 12)) (.take (o 129 (.ibin .sub (t 128) (k 1))) (.take (mv 130 (t 0)) (.take (mv 131 (t 12)) (.take (o 132 (.ibin .sub (t 131) (k 1))) (.take (o 133 (.iaddr 4 (t 130) (t 132))) (.take (la 134 4 (t 133)) (.take (mv 135 (t 0)) (.take (mv 136 (t 12)) (.take (o 137 (.iaddr 4 (t 135) (t 136))) (.take (la 138 4 (t 137)) (.take (o 139 (.iaddr 4 (t 125) (t 126))) (.alt (st 4 (t 139) (t 134)) false
   (.take (o 140 (.iaddr 4 (t 127) (t 129))) (.alt (st 4 (t 140) (t 138)) false
   (.done)
   (.none)))
   (.none))))))))))))))))) [])))
  (.ops [mv 110 (t 12),
  ad 111 (t 110) (k 1),
  mv 12 (t 111)] []))))))
  (.skip)))))))))
 (.ops [mv 17 (t 10),
 ad 18 (t 17) (k 1),
 mv 10 (t 18)] []))))))
 (.seq (.ops [mv 8 (kb false)] [])
 (.ret))))
def zeZ:List zd:=[.tmp 8]
def ziz:RCode:=
 .seq (.ops [mv 10 (k 0)] [])
 (.seq (.draw (.take (mv 13 (t 0)) (.take (mv 14 (t 1)) (.take (mv 15 (t 0)) (.take (mv 16 (t 3)) (.take (mv 17 (t 0)) (.take (mv 18 (t 3)) (.take (o 19 (.iaddr 4 (t 17) (t 18))) (.take (la 20 4 (t 19)) (.take (mv 21 (t 0)) (.take (mv 22 (t 1)) (.take (o 23 (.iaddr 4 (t 21) (t 22))) (.take (la 24 4 (t 23)) (.take (o 25 (.iaddr 4 (t 13) (t 14))) (.alt (st 4 (t 25) (t 20)) false
 (.take (o 26 (.iaddr 4 (t 15) (t 16))) (.alt (st 4 (t 26) (t 24)) false
  (.done)
  (.none)))
 (.none))))))))))))))) [])
 (.seq (.ops [mv 27 (t 1),
 ad 28 (t 27) (k 1),
 mv 29 (t 2),
 o 30 (.ibin .sub (t 29) (k 1)),
 mv 11 (t 28),
 mv 12 (t 30)] [])
 (.seq (.block 0 (.loop (.block 1 (.seq (.block 2 (.loop (.seq (.seq (.draw (.take (mv 31 (t 11)) (.take (mv 32 (t 12)) (.take (o 33 (.ibin .leq (t 31) (t 32))) (.take (os 34 (.mov (t 33))) (.take (gt 34 35 (.mov (t 4))) (.take (gt 34 36 (.mov (t 0))) (.take (gt 34 37 (.mov (t 1))) (.take (gt 34 38 (.iaddr 4 (t 36) (t 37))) (.take (gt 34 39 (.load true 4 (t 38))) (.take (gt 34 40 (.mov (t 0))) (.take (gt 34 41 (.mov (t 11))) (.take (gt 34 42 (.iaddr 4 (t 40) (t 41))) (.take (gt 34 43 (.load true 4 (t 42))) (.alt (gt 34 44 (.call (t 35) [(t 39),(t 43)])) false
  (.take (gt 34 45 (.ibin .lss (t 44) (k 0))) (.take (gt 34 46 (.not (t 45))) (.take (o 47 (.pick (t 34) (t 46) (kb false))) (.done))))
  (.none))))))))))))))) [])
  (.cond (t 47)
  (.skip)
  (.exit 2)))
  (.block 3 (.ops [mv 48 (t 11),
  ad 49 (t 48) (k 1),
  mv 11 (t 49)] [])))))
 (.seq (.block 4 (.loop (.seq (.seq (.draw (.take (mv 50 (t 11)) (.take (mv 51 (t 12)) (.take (o 52 (.ibin .leq (t 50) (t 51))) (.take (os 53 (.mov (t 52))) (.take (gt 53 54 (.mov (t 4))) (.take (gt 53 55 (.mov (t 0))) (.take (gt 53 56 (.mov (t 1))) (.take (gt 53 57 (.iaddr 4 (t 55) (t 56))) (.take (gt 53 58 (.load true 4 (t 57))) (.take (gt 53 59 (.mov (t 0))) (.take (gt 53 60 (.mov (t 12))) (.take (gt 53 61 (.iaddr 4 (t 59) (t 60))) (.take (gt 53 62 (.load true 4 (t 61))) (.alt (gt 53 63 (.call (t 54) [(t 58),(t 62)])) false
  (.take (gt 53 64 (.ibin .lss (t 63) (k 0))) (.take (o 65 (.pick (t 53) (t 64) (kb false))) (.done)))
  (.none))))))))))))))) [])
  (.cond (t 65)
  (.skip)
  (.exit 4)))
  (.block 5 (.ops [mv 66 (t 12),
  o 67 (.ibin .sub (t 66) (k 1)),
  mv 12 (t 67)] [])))))
 (.seq (.seq (.ops [mv 68 (t 11),
 mv 69 (t 12),
 o 70 (.ibin .gtr (t 68) (t 69))] [])
 (.cond (t 70)
  (.exit 0)
  (.skip)))
 (.seq (.draw (.take (mv 71 (t 0)) (.take (mv 72 (t 11)) (.take (mv 73 (t 0)) (.take (mv 74 (t 12)) (.take (mv 75 (t 0)) (.take (mv 76 (t 12)) (.take (o 77 (.iaddr 4 (t 75) (t 76))) (.take (la 78 4 (t 77)) (.take (mv 79 (t 0)) (.take (mv 80 (t 11)) (.take (o 81 (.iaddr 4 (t 79) (t 80))) (.take (la 82 4 (t 81)) (.take (o 83 (.iaddr 4 (t 71) (t 72))) (.alt (st 4 (t 83) (t 78)) false
  (.take (o 84 (.iaddr 4 (t 73) (t 74))) (.alt (st 4 (t 84) (t 82)) false
  (.done)
  (.none)))
  (.none))))))))))))))) [])
 (.seq (.ops [mv 85 (t 11),
 ad 86 (t 85) (k 1),
 mv 11 (t 86)] [])
 (.ops [mv 87 (t 12),
 o 88 (.ibin .sub (t 87) (k 1)),
 mv 12 (t 88)] [])))))))))
 (.seq (.ops [mv 89 (t 11),
 mv 10 (t 89)] [])
 (.ret)))))
def ziA:List zd:=[.tmp 10]
def zll:RCode:=
 .seq (.ops [mv 10 (k 0),
 mv 11 (kb false)] [])
 (.seq (.draw (.take (mv 14 (t 0)) (.take (mv 15 (t 1)) (.take (mv 16 (t 0)) (.take (mv 17 (t 3)) (.take (mv 18 (t 0)) (.take (mv 19 (t 3)) (.take (o 20 (.iaddr 4 (t 18) (t 19))) (.take (la 21 4 (t 20)) (.take (mv 22 (t 0)) (.take (mv 23 (t 1)) (.take (o 24 (.iaddr 4 (t 22) (t 23))) (.take (la 25 4 (t 24)) (.take (o 26 (.iaddr 4 (t 14) (t 15))) (.alt (st 4 (t 26) (t 21)) false
 (.take (o 27 (.iaddr 4 (t 16) (t 17))) (.alt (st 4 (t 27) (t 25)) false
  (.done)
  (.none)))
 (.none))))))))))))))) [])
 (.seq (.ops [mv 28 (t 1),
 ad 29 (t 28) (k 1),
 mv 30 (t 2),
 o 31 (.ibin .sub (t 30) (k 1)),
 mv 12 (t 29),
 mv 13 (t 31)] [])
 (.seq (.block 0 (.loop (.seq (.seq (.draw (.take (mv 32 (t 12)) (.take (mv 33 (t 13)) (.take (o 34 (.ibin .leq (t 32) (t 33))) (.take (os 35 (.mov (t 34))) (.take (gt 35 36 (.mov (t 4))) (.take (gt 35 37 (.mov (t 0))) (.take (gt 35 38 (.mov (t 12))) (.take (gt 35 39 (.iaddr 4 (t 37) (t 38))) (.take (gt 35 40 (.load true 4 (t 39))) (.take (gt 35 41 (.mov (t 0))) (.take (gt 35 42 (.mov (t 1))) (.take (gt 35 43 (.iaddr 4 (t 41) (t 42))) (.take (gt 35 44 (.load true 4 (t 43))) (.alt (gt 35 45 (.call (t 36) [(t 40),(t 44)])) false
  (.take (gt 35 46 (.ibin .lss (t 45) (k 0))) (.take (o 47 (.pick (t 35) (t 46) (kb false))) (.done)))
  (.none))))))))))))))) [])
 (.cond (t 47)
  (.skip)
  (.exit 0)))
 (.block 1 (.ops [mv 48 (t 12),
 ad 49 (t 48) (k 1),
 mv 12 (t 49)] [])))))
 (.seq (.block 2 (.loop (.seq (.seq (.draw (.take (mv 50 (t 12)) (.take (mv 51 (t 13)) (.take (o 52 (.ibin .leq (t 50) (t 51))) (.take (os 53 (.mov (t 52))) (.take (gt 53 54 (.mov (t 4))) (.take (gt 53 55 (.mov (t 0))) (.take (gt 53 56 (.mov (t 13))) (.take (gt 53 57 (.iaddr 4 (t 55) (t 56))) (.take (gt 53 58 (.load true 4 (t 57))) (.take (gt 53 59 (.mov (t 0))) (.take (gt 53 60 (.mov (t 1))) (.take (gt 53 61 (.iaddr 4 (t 59) (t 60))) (.take (gt 53 62 (.load true 4 (t 61))) (.alt (gt 53 63 (.call (t 54) [(t 58),(t 62)])) false
  (.take (gt 53 64 (.ibin .lss (t 63) (k 0))) (.take (gt 53 65 (.not (t 64))) (.take (o 66 (.pick (t 53) (t 65) (kb false))) (.done))))
  (.none))))))))))))))) [])
 (.cond (t 66)
  (.skip)
  (.exit 2)))
 (.block 3 (.ops [mv 67 (t 13),
 o 68 (.ibin .sub (t 67) (k 1)),
 mv 13 (t 68)] [])))))
 (.seq (.seq (.ops [mv 69 (t 12),
 mv 70 (t 13),
 o 71 (.ibin .gtr (t 69) (t 70))] [])
 (.cond (t 71)
 (.seq (.draw (.take (mv 72 (t 0)) (.take (mv 73 (t 13)) (.take (mv 74 (t 0)) (.take (mv 75 (t 1)) (.take (mv 76 (t 0)) (.take (mv 77 (t 1)) (.take (o 78 (.iaddr 4 (t 76) (t 77))) (.take (la 79 4 (t 78)) (.take (mv 80 (t 0)) (.take (mv 81 (t 13)) (.take (o 82 (.iaddr 4 (t 80) (t 81))) (.take (la 83 4 (t 82)) (.take (o 84 (.iaddr 4 (t 72) (t 73))) (.alt (st 4 (t 84) (t 79)) false
  (.take (o 85 (.iaddr 4 (t 74) (t 75))) (.alt (st 4 (t 85) (t 83)) false
  (.done)
  (.none)))
  (.none))))))))))))))) [])
 (.seq (.ops [mv 86 (t 13),
 mv 10 (t 86),
 mv 11 (kb true)] [])
 (.ret)))
 (.skip)))
 (.seq (.draw (.take (mv 87 (t 0)) (.take (mv 88 (t 12)) (.take (mv 89 (t 0)) (.take (mv 90 (t 13)) (.take (mv 91 (t 0)) (.take (mv 92 (t 13)) (.take (o 93 (.iaddr 4 (t 91) (t 92))) (.take (la 94 4 (t 93)) (.take (mv 95 (t 0)) (.take (mv 96 (t 12)) (.take (o 97 (.iaddr 4 (t 95) (t 96))) (.take (la 98 4 (t 97)) (.take (o 99 (.iaddr 4 (t 87) (t 88))) (.alt (st 4 (t 99) (t 94)) false
 (.take (o 100 (.iaddr 4 (t 89) (t 90))) (.alt (st 4 (t 100) (t 98)) false
  (.done)
  (.none)))
 (.none))))))))))))))) [])
 (.seq (.ops [mv 101 (t 12),
 ad 102 (t 101) (k 1),
 mv 12 (t 102)] [])
 (.seq (.ops [mv 103 (t 13),
 o 104 (.ibin .sub (t 103) (k 1)),
 mv 13 (t 104)] [])
 (.seq (.block 4 (.loop (.block 5 (.seq (.block 6 (.loop (.seq (.seq (.draw (.take (mv 105 (t 12)) (.take (mv 106 (t 13)) (.take (o 107 (.ibin .leq (t 105) (t 106))) (.take (os 108 (.mov (t 107))) (.take (gt 108 109 (.mov (t 4))) (.take (gt 108 110 (.mov (t 0))) (.take (gt 108 111 (.mov (t 12))) (.take (gt 108 112 (.iaddr 4 (t 110) (t 111))) (.take (gt 108 113 (.load true 4 (t 112))) (.take (gt 108 114 (.mov (t 0))) (.take (gt 108 115 (.mov (t 1))) (.take (gt 108 116 (.iaddr 4 (t 114) (t 115))) (.take (gt 108 117 (.load true 4 (t 116))) (.alt (gt 108 118 (.call (t 109) [(t 113),(t 117)])) false
  (.take (gt 108 119 (.ibin .lss (t 118) (k 0))) (.take (o 120 (.pick (t 108) (t 119) (kb false))) (.done)))
  (.none))))))))))))))) [])
  (.cond (t 120)
  (.skip)
  (.exit 6)))
  (.block 7 (.ops [mv 121 (t 12),
  ad 122 (t 121) (k 1),
  mv 12 (t 122)] [])))))
 (.seq (.block 8 (.loop (.seq (.seq (.draw (.take (mv 123 (t 12)) (.take (mv 124 (t 13)) (.take (o 125 (.ibin .leq (t 123) (t 124))) (.take (os 126 (.mov (t 125))) (.take (gt 126 127 (.mov (t 4))) (.take (gt 126 128 (.mov (t 0))) (.take (gt 126 129 (.mov (t 13))) (.take (gt 126 130 (.iaddr 4 (t 128) (t 129))) (.take (gt 126 131 (.load true 4 (t 130))) (.take (gt 126 132 (.mov (t 0))) (.take (gt 126 133 (.mov (t 1))) (.take (gt 126 134 (.iaddr 4 (t 132) (t 133))) (.take (gt 126 135 (.load true 4 (t 134))) (.alt (gt 126 136 (.call (t 127) [(t 131),(t 135)])) false
  (.take (gt 126 137 (.ibin .lss (t 136) (k 0))) (.take (gt 126 138 (.not (t 137))) (.take (o 139 (.pick (t 126) (t 138) (kb false))) (.done))))
  (.none))))))))))))))) [])
  (.cond (t 139)
  (.skip)
  (.exit 8)))
  (.block 9 (.ops [mv 140 (t 13),
  o 141 (.ibin .sub (t 140) (k 1)),
  mv 13 (t 141)] [])))))
 (.seq (.seq (.ops [mv 142 (t 12),
 mv 143 (t 13),
 o 144 (.ibin .gtr (t 142) (t 143))] [])
 (.cond (t 144)
  (.exit 4)
  (.skip)))
 (.seq (.draw (.take (mv 145 (t 0)) (.take (mv 146 (t 12)) (.take (mv 147 (t 0)) (.take (mv 148 (t 13)) (.take (mv 149 (t 0)) (.take (mv 150 (t 13)) (.take (o 151 (.iaddr 4 (t 149) (t 150))) (.take (la 152 4 (t 151)) (.take (mv 153 (t 0)) (.take (mv 154 (t 12)) (.take (o 155 (.iaddr 4 (t 153) (t 154))) (.take (la 156 4 (t 155)) (.take (o 157 (.iaddr 4 (t 145) (t 146))) (.alt (st 4 (t 157) (t 152)) false
  (.take (o 158 (.iaddr 4 (t 147) (t 148))) (.alt (st 4 (t 158) (t 156)) false
  (.done)
  (.none)))
  (.none))))))))))))))) [])
 (.seq (.ops [mv 159 (t 12),
 ad 160 (t 159) (k 1),
 mv 12 (t 160)] [])
 (.ops [mv 161 (t 13),
 o 162 (.ibin .sub (t 161) (k 1)),
 mv 13 (t 162)] [])))))))))
 (.seq (.draw (.take (mv 163 (t 0)) (.take (mv 164 (t 13)) (.take (mv 165 (t 0)) (.take (mv 166 (t 1)) (.take (mv 167 (t 0)) (.take (mv 168 (t 1)) (.take (o 169 (.iaddr 4 (t 167) (t 168))) (.take (la 170 4 (t 169)) (.take (mv 171 (t 0)) (.take (mv 172 (t 13)) (.take (o 173 (.iaddr 4 (t 171) (t 172))) (.take (la 174 4 (t 173)) (.take (o 175 (.iaddr 4 (t 163) (t 164))) (.alt (st 4 (t 175) (t 170)) false
 (.take (o 176 (.iaddr 4 (t 165) (t 166))) (.alt (st 4 (t 176) (t 174)) false
  (.done)
  (.none)))
 (.none))))))))))))))) [])
 (.seq (.ops [mv 177 (t 13),
 mv 10 (t 177),
 mv 11 (kb false)] [])
 (.ret))))))))))))
def zlm:List zd:=[.tmp 10,.tmp 11]
def znZ:RCode:=
 .seq (.ops [mv 8 (k 0),
 mv 9 (k 0)] [])
 (.seq (.seq (.draw (.take (mv 10 (t 0)) (.take (mv 11 (t 2)) (.take (o 12 (.iaddr 1 (t 10) (t 11))) (.take (l1 13 (t 12)) (.take (mv 14 (t 0)) (.take (mv 15 (t 1)) (.take (o 16 (.iaddr 1 (t 14) (t 15))) (.take (l1 17 (t 16)) (.alt (ca 18 F.zF [(t 13),(t 17)]) false
 (.done)
 (.none)))))))))) [])
 (.cond (t 18)
 (.seq (.ops [mv 19 (t 3),
 o 20 (.nilck (t 19)),
 l1 21 (t 20),
 ad 22 (t 21) (k 1),
 o 23 (.nilck (t 19)),
 st 1 (t 23) (t 22)] [])
 (.seq (.ops [mv 24 (t 2),
 mv 25 (t 1),
 mv 8 (t 24),
 mv 9 (t 25)] [])
 (.ret)))
 (.skip)))
 (.seq (.ops [mv 26 (t 1),
 mv 27 (t 2),
 mv 8 (t 26),
 mv 9 (t 27)] [])
 (.ret)))
def zn0:List zd:=[.tmp 8,.tmp 9]
def zke:RCode:=
 .seq (.ops [mv 10 (k 0),
 mv 11 (k 0)] [])
 (.seq (.seq (.draw (.take (mv 12 (t 4)) (.take (mv 13 (t 0)) (.take (mv 14 (t 2)) (.take (o 15 (.iaddr 6 (t 13) (t 14))) (.take (la 16 6 (t 15)) (.take (mv 17 (t 0)) (.take (mv 18 (t 1)) (.take (o 19 (.iaddr 6 (t 17) (t 18))) (.take (la 20 6 (t 19)) (.alt (o 21 (.call (t 12) [(t 16),(t 20)])) false
 (.take (o 22 (.ibin .lss (t 21) (k 0))) (.done))
 (.none))))))))))) [])
 (.cond (t 22)
 (.seq (.ops [mv 23 (t 3),
 o 24 (.nilck (t 23)),
 l1 25 (t 24),
 ad 26 (t 25) (k 1),
 o 27 (.nilck (t 23)),
 st 1 (t 27) (t 26)] [])
 (.seq (.ops [mv 28 (t 2),
 mv 29 (t 1),
 mv 10 (t 28),
 mv 11 (t 29)] [])
 (.ret)))
 (.skip)))
 (.seq (.ops [mv 30 (t 1),
 mv 31 (t 2),
 mv 10 (t 30),
 mv 11 (t 31)] [])
 (.ret)))
def zkf:List zd:=[.tmp 10,.tmp 11]
def zlO:RCode:=
 .seq (.ops [mv 10 (k 0),
 mv 11 (k 0)] [])
 (.seq (.seq (.draw (.take (mv 12 (t 4)) (.take (mv 13 (t 0)) (.take (mv 14 (t 2)) (.take (o 15 (.iaddr 4 (t 13) (t 14))) (.take (la 16 4 (t 15)) (.take (mv 17 (t 0)) (.take (mv 18 (t 1)) (.take (o 19 (.iaddr 4 (t 17) (t 18))) (.take (la 20 4 (t 19)) (.alt (o 21 (.call (t 12) [(t 16),(t 20)])) false
 (.take (o 22 (.ibin .lss (t 21) (k 0))) (.done))
 (.none))))))))))) [])
 (.cond (t 22)
 (.seq (.ops [mv 23 (t 3),
 o 24 (.nilck (t 23)),
 l1 25 (t 24),
 ad 26 (t 25) (k 1),
 o 27 (.nilck (t 23)),
 st 1 (t 27) (t 26)] [])
 (.seq (.ops [mv 28 (t 2),
 mv 29 (t 1),
 mv 10 (t 28),
 mv 11 (t 29)] [])
 (.ret)))
 (.skip)))
 (.seq (.ops [mv 30 (t 1),
 mv 31 (t 2),
 mv 10 (t 30),
 mv 11 (t 31)] [])
 (.ret)))
def zlP:List zd:=[.tmp 10,.tmp 11]
def zBD:RCode:=
 .seq (.ops [mv 4 (.const sn)] [])
 (.seq (.ops [mv 8 (t 1),
 ca 9 F.zcf [(t 8)],
 o 5 (.alloc 388 [(.bool false),(.bool false),(.bool false),(.bool false),(.bool false),(.bool false),(.bool false),(.bool false),(.bool false),(.bool false),(.bool false),(.bool false),(.bool false),(.bool false),(.bool false),(.bool false),(.bool false),(.bool false),(.bool false),(.bool false),(.bool false),(.bool false),(.bool false),(.bool false),(.bool false),(.bool false),(.bool false),(.bool false),(.bool false),(.bool false),(.bool false),(.bool false),(.bool false),(.bool false),(.bool false),(.bool false),(.bool false),(.bool false),(.bool false),(.bool false),(.bool false),(.bool false),(.bool false),(.bool false),(.bool false),(.bool false),(.bool false),(.bool false),(.bool false),(.bool false),(.bool false),(.bool false),(.bool false),(.bool false),(.bool false),(.bool false),(.bool false),(.bool false),(.bool false),(.bool false),(.bool false),(.bool false),(.bool false),(.bool false),(.bool false),(.bool false),(.bool false),(.bool false),(.bool false),(.bool false),(.bool false),(.bool false),(.bool false),(.bool false),(.bool false),(.bool false),(.bool false),(.bool false),(.bool false),(.bool false),(.bool false),(.bool false),(.bool false),(.bool false),(.bool false),(.bool false),(.bool false),(.bool false),(.bool false),(.bool false),(.bool false),(.bool false),(.bool false),(.bool false),(.bool false),(.bool false),(.bool false),(.bool false),(.bool false),(.bool false),(.bool false),(.bool false),(.bool false),(.bool false),(.bool false),(.bool false),(.bool false),(.bool false),(.bool false),(.bool false),(.bool false),(.bool false),(.bool false),(.bool false),(.bool false),(.bool false),(.bool false),(.bool false),(.bool false),(.bool false),(.bool false),(.bool false),(.bool false),(.bool false),(.bool false),(.bool false),(.bool false),(.bool false)]),
 st 128 (t 5) (t 9)] [])
 (.seq (.ops [o 6 (.alloc 87 [sn])] [])
 (.seq (.seq (.ops [mv 10 (t 0),
 ca 11 F.zcC [(t 10),(k 128)]] [])
 (.block 0 (.rfun ((t 11)) [12] (.ops [mv 7 (t 12)] [])
 (.block 1 (.seq (.ops [mv 13 (t 7),
 o 14 (.iaddrA 128 1 (t 5) (t 13)),
 l1 15 (t 14)] [])
 (.cond (t 15)
  (.ops [l1 16 (t 6),
  mv 17 (t 7),
  o 18 (.mkSl true 3 1 [(i 0)] [(0,1,(t 17))]),
  o 19 (.app 3 1 8 [(i 0)] (t 16) (t 18)),
  st 1 (t 6) (t 19)] [])
  (.skip)))))))
 (.seq (.ops [l1 20 (t 6),
 mv 4 (t 20)] [])
 (.ret)))))
def zBE:List zd:=[.tmp 4]
def zms:RCode:=
 .seq (.ops [o 2 (.alloc 388 [(.bool false),(.bool false),(.bool false),(.bool false),(.bool false),(.bool false),(.bool false),(.bool false),(.bool false),(.bool false),(.bool false),(.bool false),(.bool false),(.bool false),(.bool false),(.bool false),(.bool false),(.bool false),(.bool false),(.bool false),(.bool false),(.bool false),(.bool false),(.bool false),(.bool false),(.bool false),(.bool false),(.bool false),(.bool false),(.bool false),(.bool false),(.bool false),(.bool false),(.bool false),(.bool false),(.bool false),(.bool false),(.bool false),(.bool false),(.bool false),(.bool false),(.bool false),(.bool false),(.bool false),(.bool false),(.bool false),(.bool false),(.bool false),(.bool false),(.bool false),(.bool false),(.bool false),(.bool false),(.bool false),(.bool false),(.bool false),(.bool false),(.bool false),(.bool false),(.bool false),(.bool false),(.bool false),(.bool false),(.bool false),(.bool false),(.bool false),(.bool false),(.bool false),(.bool false),(.bool false),(.bool false),(.bool false),(.bool false),(.bool false),(.bool false),(.bool false),(.bool false),(.bool false),(.bool false),(.bool false),(.bool false),(.bool false),(.bool false),(.bool false),(.bool false),(.bool false),(.bool false),(.bool false),(.bool false),(.bool false),(.bool false),(.bool false),(.bool false),(.bool false),(.bool false),(.bool false),(.bool false),(.bool false),(.bool false),(.bool false),(.bool false),(.bool false),(.bool false),(.bool false),(.bool false),(.bool false),(.bool false),(.bool false),(.bool false),(.bool false),(.bool false),(.bool false),(.bool false),(.bool false),(.bool false),(.bool false),(.bool false),(.bool false),(.bool false),(.bool false),(.bool false),(.bool false),(.bool false),(.bool false),(.bool false),(.bool false),(.bool false),(.bool false)])] [])
 (.seq (.ops [o 3 (.alloc 388 [(.bool false),(.bool false),(.bool false),(.bool false),(.bool false),(.bool false),(.bool false),(.bool false),(.bool false),(.bool false),(.bool false),(.bool false),(.bool false),(.bool false),(.bool false),(.bool false),(.bool false),(.bool false),(.bool false),(.bool false),(.bool false),(.bool false),(.bool false),(.bool false),(.bool false),(.bool false),(.bool false),(.bool false),(.bool false),(.bool false),(.bool false),(.bool false),(.bool false),(.bool false),(.bool false),(.bool false),(.bool false),(.bool false),(.bool false),(.bool false),(.bool false),(.bool false),(.bool false),(.bool false),(.bool false),(.bool false),(.bool false),(.bool false),(.bool false),(.bool false),(.bool false),(.bool false),(.bool false),(.bool false),(.bool false),(.bool false),(.bool false),(.bool false),(.bool false),(.bool false),(.bool false),(.bool false),(.bool false),(.bool false),(.bool false),(.bool false),(.bool false),(.bool false),(.bool false),(.bool false),(.bool false),(.bool false),(.bool false),(.bool false),(.bool false),(.bool false),(.bool false),(.bool false),(.bool false),(.bool false),(.bool false),(.bool false),(.bool false),(.bool false),(.bool false),(.bool false),(.bool false),(.bool false),(.bool false),(.bool false),(.bool false),(.bool false),(.bool false),(.bool false),(.bool false),(.bool false),(.bool false),(.bool false),(.bool false),(.bool false),(.bool false),(.bool false),(.bool false),(.bool false),(.bool false),(.bool false),(.bool false),(.bool false),(.bool false),(.bool false),(.bool false),(.bool false),(.bool false),(.bool false),(.bool false),(.bool false),(.bool false),(.bool false),(.bool false),(.bool false),(.bool false),(.bool false),(.bool false),(.bool false),(.bool false),(.bool false),(.bool false),(.bool false)])] [])
 (.seq (.seq (.ops [mv 6 (t 0),
 o 7 (.len (t 6)),
 mv 8 (k 0)] [])
 (.block 0 (.loop (.seq (.ops [o 9 (.ibin .lss (t 8) (t 7))] [])
 (.seq (.cond (t 9)
  (.skip)
  (.exit 0))
 (.seq (.block 1 (.seq (.ops [o 10 (.iaddr 1 (t 6) (t 8)),
 l1 11 (t 10),
 mv 5 (t 11)] [])
 (.ops [mv 12 (t 5),
 ca 13 F.zC [(t 12)],
 o 14 (.iaddrA 128 1 (t 3) (t 13)),
 st 1 (t 14) (kb true)] [])))
 (.ops [ad 15 (t 8) (k 1),
 mv 8 (t 15)] [])))))))
 (.seq (.ops [la 16 128 (t 3),
 st 128 (t 2) (t 16)] [])
 (.ret))))
def zmt:List zd:=[.cell true 128 2]
theorem zBF {args:List Value} {M:Mem} {R:Value→Mem→Prop} (hn:args.length≤17) (h:zj Tryz.prog zms zmt args M R):CallsM Tryz.prog F.zcf args M R:=
 zf (kf:=fun _=>[]) Tryz.func344 (by kernel_rfl) (by kernel_rfl) hn (by kernel_rfl) h
def zlQ:RCode:=
 .seq (.ops [mv 12 (t 1),
 mv 10 (t 12)] [])
 (.block 0 (.loop (.block 1 (.seq (.ops [mv 13 (t 10),
 o 14 (.ibin .mul (k 2) (t 13)),
 ad 15 (t 14) (k 1),
 mv 11 (t 15)] [])
 (.seq (.seq (.ops [mv 16 (t 11),
 mv 17 (t 2),
 o 18 (.ibin .geq (t 16) (t 17))] [])
 (.cond (t 18)
  (.exit 0)
  (.skip)))
 (.seq (.seq (.draw (.take (mv 19 (t 11)) (.take (ad 20 (t 19) (k 1)) (.take (mv 21 (t 2)) (.take (o 22 (.ibin .lss (t 20) (t 21))) (.take (os 23 (.mov (t 22))) (.take (gt 23 24 (.mov (t 4))) (.take (gt 23 25 (.mov (t 0))) (.take (gt 23 26 (.mov (t 3))) (.take (gt 23 27 (.mov (t 11))) (.take (gt 23 28 (.ibin .add (t 26) (t 27))) (.take (gt 23 29 (.iaddr 4 (t 25) (t 28))) (.take (gt 23 30 (.load true 4 (t 29))) (.take (gt 23 31 (.mov (t 0))) (.take (gt 23 32 (.mov (t 3))) (.take (gt 23 33 (.mov (t 11))) (.take (gt 23 34 (.ibin .add (t 32) (t 33))) (.take (gt 23 35 (.ibin .add (t 34) (k 1))) (.take (gt 23 36 (.iaddr 4 (t 31) (t 35))) (.take (gt 23 37 (.load true 4 (t 36))) (.alt (gt 23 38 (.call (t 24) [(t 30),(t 37)])) false
  (.take (gt 23 39 (.ibin .lss (t 38) (k 0))) (.take (o 40 (.pick (t 23) (t 39) (kb false))) (.done)))
  (.none))))))))))))))))))))) [])
 (.cond (t 40)
  (.ops [mv 41 (t 11),
  ad 42 (t 41) (k 1),
  mv 11 (t 42)] [])
  (.skip)))
 (.seq (.seq (.draw (.take (mv 43 (t 4)) (.take (mv 44 (t 0)) (.take (mv 45 (t 3)) (.take (mv 46 (t 10)) (.take (ad 47 (t 45) (t 46)) (.take (o 48 (.iaddr 4 (t 44) (t 47))) (.take (la 49 4 (t 48)) (.take (mv 50 (t 0)) (.take (mv 51 (t 3)) (.take (mv 52 (t 11)) (.take (ad 53 (t 51) (t 52)) (.take (o 54 (.iaddr 4 (t 50) (t 53))) (.take (la 55 4 (t 54)) (.alt (o 56 (.call (t 43) [(t 49),(t 55)])) false
  (.take (o 57 (.ibin .lss (t 56) (k 0))) (.take (o 58 (.not (t 57))) (.done)))
  (.none))))))))))))))) [])
 (.cond (t 58)
  (.ret)
  (.skip)))
 (.seq (.draw (.take (mv 59 (t 0)) (.take (mv 60 (t 3)) (.take (mv 61 (t 10)) (.take (ad 62 (t 60) (t 61)) (.take (mv 63 (t 0)) (.take (mv 64 (t 3)) (.take (mv 65 (t 11)) (.take (ad 66 (t 64) (t 65)) (.take (mv 67 (t 0)) (.take (mv 68 (t 3)) (.take (mv 69 (t 11)) (.take (ad 70 (t 68) (t 69)) (.take (o 71 (.iaddr 4 (t 67) (t 70))) (.take (la 72 4 (t 71)) (.take (mv 73 (t 0)) (.take (mv 74 (t 3)) (.take (mv 75 (t 10)) (.take (ad 76 (t 74) (t 75)) (.take (o 77 (.iaddr 4 (t 73) (t 76))) (.take (la 78 4 (t 77)) (.take (o 79 (.iaddr 4 (t 59) (t 62))) (.alt (st 4 (t 79) (t 72)) false
  (.take (o 80 (.iaddr 4 (t 63) (t 66))) (.alt (st 4 (t 80) (t 78)) false
  (.done)
  (.none)))
  (.none))))))))))))))))))))))) [])
 (.ops [mv 81 (t 11),
 mv 10 (t 81)] [])))))))))
def zlR:List zd:=[]
def ziB:RCode:=
 .seq (.ops [mv 8 (k 0)] [])
 (.seq (.ops [mv 9 (t 0),
 mv 10 (t 1),
 o 11 (.ibin .sub (t 10) (k 1)),
 mv 12 (t 1),
 mv 13 (t 1),
 ad 14 (t 13) (k 1),
 mv 15 (t 2),
 mv 16 (t 3),
 ca 17 F.zeT [(t 9),(t 11),(t 12),(t 14),(t 15),(t 16)],
 mv 8 (t 17)] [])
 (.ret))
def ziC:List zd:=[.tmp 8]
def zmG:RCode:=
 .seq (.ops [mv 12 (k 0)] [])
 (.seq (.ops [mv 14 (t 0),
 mv 15 (t 1),
 mv 16 (t 2),
 mv 17 (t 4),
 mv 18 (t 5),
 ca 19 F.zby [(t 14),(t 15),(t 16),(t 17),(t 18)],
 mv 13 (t 19),
 ex 20 (t 13) 0,
 ex 21 (t 13) 1,
 mv 1 (t 20),
 mv 2 (t 21)] [])
 (.seq (.ops [mv 23 (t 0),
 mv 24 (t 2),
 mv 25 (t 3),
 mv 26 (t 4),
 mv 27 (t 5),
 ca 28 F.zby [(t 23),(t 24),(t 25),(t 26),(t 27)],
 mv 22 (t 28),
 ex 29 (t 22) 0,
 ex 30 (t 22) 1,
 mv 2 (t 29),
 mv 3 (t 30)] [])
 (.seq (.ops [mv 32 (t 0),
 mv 33 (t 1),
 mv 34 (t 2),
 mv 35 (t 4),
 mv 36 (t 5),
 ca 37 F.zby [(t 32),(t 33),(t 34),(t 35),(t 36)],
 mv 31 (t 37),
 ex 38 (t 31) 0,
 ex 39 (t 31) 1,
 mv 1 (t 38),
 mv 2 (t 39)] [])
 (.seq (.ops [mv 40 (t 2),
 mv 12 (t 40)] [])
 (.ret)))))
def zmH:List zd:=[.tmp 12]
def zmI:RCode:=
 .seq (.ops [mv 10 (k 0),
 mv 11 (k 0)] [])
 (.seq (.seq (.draw (.take (mv 12 (t 4)) (.take (mv 13 (t 0)) (.take (mv 14 (t 2)) (.take (o 15 (.iaddr 4 (t 13) (t 14))) (.take (la 16 4 (t 15)) (.take (mv 17 (t 0)) (.take (mv 18 (t 1)) (.take (o 19 (.iaddr 4 (t 17) (t 18))) (.take (la 20 4 (t 19)) (.alt (o 21 (.call (t 12) [(t 16),(t 20)])) false
 (.take (o 22 (.ibin .lss (t 21) (k 0))) (.done))
 (.none))))))))))) [])
 (.cond (t 22)
 (.seq (.ops [mv 23 (t 3),
 o 24 (.nilck (t 23)),
 l1 25 (t 24),
 ad 26 (t 25) (k 1),
 o 27 (.nilck (t 23)),
 st 1 (t 27) (t 26)] [])
 (.seq (.ops [mv 28 (t 2),
 mv 29 (t 1),
 mv 10 (t 28),
 mv 11 (t 29)] [])
 (.ret)))
 (.skip)))
 (.seq (.ops [mv 30 (t 1),
 mv 31 (t 2),
 mv 10 (t 30),
 mv 11 (t 31)] [])
 (.ret)))
def zmJ:List zd:=[.tmp 10,.tmp 11]
end Go.Proofs.YtdgikhhkgnjalaaGreat
