/- Part of this proof;laid by program. -/
import Derived.Test.YtdogcflaekkdkaaGreatJ6
set_option linter.unusedVariables false
set_option linter.unusedSimpArgs false
namespace Go.Proofs.YtdogcflaekkdkaaGreat
open Go.Vm Go.Vm.S
def zw9:RCode:=
 .seq (.ops [mv 6 (.const sn)] [])
 (.seq (.ops [mv 10 (t 2),
 ca 11 F.zcx [(t 10)],
 o 7 (.alloc 370 [(.bool false),(.bool false),(.bool false),(.bool false),(.bool false),(.bool false),(.bool false),(.bool false),(.bool false),(.bool false),(.bool false),(.bool false),(.bool false),(.bool false),(.bool false),(.bool false),(.bool false),(.bool false),(.bool false),(.bool false),(.bool false),(.bool false),(.bool false),(.bool false),(.bool false),(.bool false),(.bool false),(.bool false),(.bool false),(.bool false),(.bool false),(.bool false),(.bool false),(.bool false),(.bool false),(.bool false),(.bool false),(.bool false),(.bool false),(.bool false),(.bool false),(.bool false),(.bool false),(.bool false),(.bool false),(.bool false),(.bool false),(.bool false),(.bool false),(.bool false),(.bool false),(.bool false),(.bool false),(.bool false),(.bool false),(.bool false),(.bool false),(.bool false),(.bool false),(.bool false),(.bool false),(.bool false),(.bool false),(.bool false),(.bool false),(.bool false),(.bool false),(.bool false),(.bool false),(.bool false),(.bool false),(.bool false),(.bool false),(.bool false),(.bool false),(.bool false),(.bool false),(.bool false),(.bool false),(.bool false),(.bool false),(.bool false),(.bool false),(.bool false),(.bool false),(.bool false),(.bool false),(.bool false),(.bool false),(.bool false),(.bool false),(.bool false),(.bool false),(.bool false),(.bool false),(.bool false),(.bool false),(.bool false),(.bool false),(.bool false),(.bool false),(.bool false),(.bool false),(.bool false),(.bool false),(.bool false),(.bool false),(.bool false),(.bool false),(.bool false),(.bool false),(.bool false),(.bool false),(.bool false),(.bool false),(.bool false),(.bool false),(.bool false),(.bool false),(.bool false),(.bool false),(.bool false),(.bool false),(.bool false),(.bool false),(.bool false),(.bool false),(.bool false)]),
 st 128 (t 7) (t 11)] [])
 (.seq (.ops [o 8 (.alloc 84 [sn])] [])
 (.seq (.seq (.ops [mv 12 (t 0),
 mv 13 (t 0),
 mv 14 (t 1),
 ca 15 F.zdC [(t 13),(t 14)],
 ca 16 F.zc2 [(t 12),(t 15)]] [])
 (.block 0 (.rfun ((t 16)) [17] (.ops [mv 9 (t 17)] [])
 (.block 1 (.seq (.ops [mv 18 (t 9),
 o 19 (.iaddrA 128 1 (t 7) (t 18)),
 l1 20 (t 19),
 o 21 (.not (t 20))] [])
 (.cond (t 21)
  (.ops [l1 22 (t 8),
  mv 23 (t 9),
  o 24 (.mkSl true 3 1 [(i 0)] [(0,1,(t 23))]),
  o 25 (.app 3 1 8 [(i 0)] (t 22) (t 24)),
  st 1 (t 8) (t 25)] [])
  (.skip)))))))
 (.seq (.ops [l1 26 (t 8),
 mv 6 (t 26)] [])
 (.ret)))))
def zxa:List zd:=[.tmp 6]
def zoe:RCode:=
 .seq (.ops [mv 8 (k 0),
 mv 9 (k 0)] [])
 (.seq (.seq (.draw (.take (mv 10 (t 0)) (.take (mv 11 (t 2)) (.take (o 12 (.iaddr 1 (t 10) (t 11))) (.take (l1 13 (t 12)) (.take (mv 14 (t 0)) (.take (mv 15 (t 1)) (.take (o 16 (.iaddr 1 (t 14) (t 15))) (.take (l1 17 (t 16)) (.alt (ca 18 F.zK [(t 13),(t 17)]) false
 (.done)
 (.none)))))))))) [])
 (.cond (t 18)
 (.seq (.ops [mv 19 (t 3),
 o 20 (.nilck (t 19)),
 l1 21 (t 20),
 ad 22 (t 21) (k 1),
 o 23 (.nilck (t 19)),
 st 1 (t 23) (t 22)] [])
 (.seq (.ops [mv 24 (t 2),
 mv 25 (t 1),
 mv 8 (t 24),
 mv 9 (t 25)] [])
 (.ret)))
 (.skip)))
 (.seq (.ops [mv 26 (t 1),
 mv 27 (t 2),
 mv 8 (t 26),
 mv 9 (t 27)] [])
 (.ret)))
def zof:List zd:=[.tmp 8,.tmp 9]
def zaM:RCode:=
 .seq (.ops [mv 8 (kb true)] [])
 (.seq (.ops [mv 9 (kb true)] [])
 (.block 0 (.loop (.block 1 (.seq (.ops [mv 19 (t 2),
 mv 20 (t 1),
 o 21 (.ibin .sub (t 19) (t 20)),
 mv 10 (t 21)] [])
 (.seq (.seq (.ops [mv 22 (t 10),
 o 23 (.ibin .leq (t 22) (k 12))] [])
 (.cond (t 23)
  (.seq (.ops [mv 24 (t 0),
  mv 25 (t 1),
  mv 26 (t 2),
  ca 27 F.zaX [(t 24),(t 25),(t 26)]] [])
  (.ret))
  (.skip)))
 (.seq (.seq (.ops [mv 28 (t 3),
 o 29 (.ibin .eql (t 28) (k 0))] [])
 (.cond (t 29)
  (.seq (.ops [mv 30 (t 0),
  mv 31 (t 1),
  mv 32 (t 2),
  ca 33 F.zlF [(t 30),(t 31),(t 32)]] [])
  (.ret))
  (.skip)))
 (.seq (.seq (.ops [mv 34 (t 8),
 o 35 (.not (t 34))] [])
 (.cond (t 35)
  (.seq (.ops [mv 36 (t 0),
  mv 37 (t 1),
  mv 38 (t 2),
  ca 39 F.ziI [(t 36),(t 37),(t 38)]] [])
  (.ops [mv 40 (t 3),
  o 41 (.ibin .sub (t 40) (k 1)),
  mv 3 (t 41)] []))
  (.skip)))
 (.seq (.ops [mv 43 (t 0),
 mv 44 (t 1),
 mv 45 (t 2),
 ca 46 F.zj0 [(t 43),(t 44),(t 45)],
 mv 42 (t 46),
 ex 47 (t 42) 0,
 ex 48 (t 42) 1,
 mv 11 (t 47),
 mv 12 (t 48)] [])
 (.seq (.seq (.ops [mv 49 (t 12),
 o 50 (.ibin .eql (t 49) (k 2))] [])
 (.cond (t 50)
  (.seq (.ops [mv 51 (t 0),
  mv 52 (t 1),
  mv 53 (t 2),
  ca 54 F.zjd [(t 51),(t 52),(t 53)]] [])
  (.seq (.ops [mv 55 (t 2),
  o 56 (.ibin .sub (t 55) (k 1)),
  mv 57 (t 11),
  mv 58 (t 1),
  o 59 (.ibin .sub (t 57) (t 58)),
  o 60 (.ibin .sub (t 56) (t 59)),
  mv 11 (t 60)] [])
  (.ops [mv 12 (k 1)] [])))
  (.skip)))
 (.seq (.seq (.ops [mv 61 (t 8),
 os 62 (.mov (t 61)),
 gt 62 63 (.mov (t 9)),
 o 64 (.pick (t 62) (t 63) (kb false)),
 os 65 (.mov (t 64)),
 gt 65 66 (.mov (t 12)),
 gt 65 67 (.ibin .eql (t 66) (k 1)),
 o 68 (.pick (t 65) (t 67) (kb false))] [])
 (.cond (t 68)
  (.seq (.ops [mv 69 (t 0),
  mv 70 (t 1),
  mv 71 (t 2),
  ca 72 F.zfg [(t 69),(t 70),(t 71)]] [])
  (.cond (t 72)
  (.ret)
  (.skip)))
  (.skip)))
 (.seq (.seq (.draw (.take (mv 73 (t 1)) (.take (o 74 (.ibin .gtr (t 73) (k 0))) (.take (os 75 (.mov (t 74))) (.take (gt 75 76 (.mov (t 0))) (.take (gt 75 77 (.mov (t 1))) (.take (gt 75 78 (.ibin .sub (t 77) (k 1))) (.take (gt 75 79 (.iaddr 1 (t 76) (t 78))) (.take (gt 75 80 (.load false 1 (t 79))) (.take (gt 75 81 (.mov (t 0))) (.take (gt 75 82 (.mov (t 11))) (.take (gt 75 83 (.iaddr 1 (t 81) (t 82))) (.take (gt 75 84 (.load false 1 (t 83))) (.alt (gt 75 85 (.call (fn F.zC) [(t 80),(t 84)])) false
  (.take (gt 75 86 (.not (t 85))) (.take (o 87 (.pick (t 75) (t 86) (kb false))) (.done)))
  (.none)))))))))))))) [])
 (.cond (t 87)
  (.seq (.ops [mv 88 (t 0),
  mv 89 (t 1),
  mv 90 (t 2),
  mv 91 (t 11),
  ca 92 F.zik [(t 88),(t 89),(t 90),(t 91)],
  mv 13 (t 92)] [])
  (.seq (.ops [mv 93 (t 13),
  mv 1 (t 93)] [])
  (.exit 1)))
  (.skip)))
 (.seq (.ops [mv 95 (t 0),
 mv 96 (t 1),
 mv 97 (t 2),
 mv 98 (t 11),
 ca 99 F.zlk [(t 95),(t 96),(t 97),(t 98)],
 mv 94 (t 99),
 ex 100 (t 94) 0,
 ex 101 (t 94) 1,
 mv 14 (t 100),
 mv 15 (t 101)] [])
 (.seq (.ops [mv 102 (t 15),
 mv 9 (t 102)] [])
 (.seq (.ops [mv 103 (t 14),
 mv 104 (t 1),
 o 105 (.ibin .sub (t 103) (t 104)),
 mv 106 (t 2),
 mv 107 (t 14),
 o 108 (.ibin .sub (t 106) (t 107)),
 mv 16 (t 105),
 mv 17 (t 108)] [])
 (.seq (.ops [mv 109 (t 10),
 o 110 (.ibin .quo (t 109) (k 8)),
 mv 18 (t 110)] [])
 (.seq (.ops [mv 111 (t 16),
 mv 112 (t 17),
 o 113 (.ibin .lss (t 111) (t 112))] [])
 (.cond (t 113)
  (.seq (.ops [mv 114 (t 16),
  mv 115 (t 18),
  o 116 (.ibin .geq (t 114) (t 115)),
  mv 8 (t 116)] [])
  (.seq (.ops [mv 117 (t 0),
  mv 118 (t 1),
  mv 119 (t 14),
  mv 120 (t 3),
  ca 121 F.zad [(t 117),(t 118),(t 119),(t 120)]] [])
  (.ops [mv 122 (t 14),
  ad 123 (t 122) (k 1),
  mv 1 (t 123)] [])))
  (.seq (.ops [mv 124 (t 17),
  mv 125 (t 18),
  o 126 (.ibin .geq (t 124) (t 125)),
  mv 8 (t 126)] [])
  (.seq (.ops [mv 127 (t 0),
  mv 128 (t 14),
  ad 129 (t 128) (k 1),
  mv 130 (t 2),
  mv 131 (t 3),
  ca 132 F.zad [(t 127),(t 129),(t 130),(t 131)]] [])
  (.ops [mv 133 (t 14),
  mv 2 (t 133)] [])))))))))))))))))))))
def zaN:List zd:=[]
theorem zlM {args:List Value} {M:Mem} {R:Value→Mem→Prop} (hn:args.length≤134) (h:zi Tryz.prog zaM zaN args M R):CallsM Tryz.prog F.zad args M R:=
 zf (kf:=fun _=>[]) Tryz.func301 (by kernel_rfl) (by kernel_rfl) hn (by kernel_rfl) h
def zBf:RCode:=
 .seq (.ops [o 1 (.box 30 (t 0)),
 mv 2 (.const .nilFunc)] [])
 (.seq (.ops [o 3 (.mkfn F.zxW [(t 1)]),
 mv 2 (t 3)] [])
 (.ret))
def zBg:List zd:=[.tmp 2]
def zpU:RCode:=
 .seq (.ops [mv 4 (t 0),
 mv 5 (t 1),
 o 6 (.slx 1 (t 4) none (some (t 5))),
 ca 7 F.zas [(t 6)]] [])
 (.seq (.ops [mv 8 (t 0),
 mv 9 (t 1),
 o 10 (.slx 1 (t 8) (some (t 9)) none),
 ca 11 F.zas [(t 10)]] [])
 (.ops [mv 12 (t 0),
 ca 13 F.zas [(t 12)]] []))
def zpV:List zd:=[]
def zlN:RCode:=
 .seq (.ops [mv 12 (t 1),
 mv 10 (t 12)] [])
 (.block 0 (.loop (.block 1 (.seq (.ops [mv 13 (t 10),
 o 14 (.ibin .mul (k 2) (t 13)),
 ad 15 (t 14) (k 1),
 mv 11 (t 15)] [])
 (.seq (.seq (.ops [mv 16 (t 11),
 mv 17 (t 2),
 o 18 (.ibin .geq (t 16) (t 17))] [])
 (.cond (t 18)
  (.exit 0)
  (.skip)))
 (.seq (.seq (.draw (.take (mv 19 (t 11)) (.take (ad 20 (t 19) (k 1)) (.take (mv 21 (t 2)) (.take (o 22 (.ibin .lss (t 20) (t 21))) (.take (os 23 (.mov (t 22))) (.take (gt 23 24 (.mov (t 4))) (.take (gt 23 25 (.mov (t 0))) (.take (gt 23 26 (.mov (t 3))) (.take (gt 23 27 (.mov (t 11))) (.take (gt 23 28 (.ibin .add (t 26) (t 27))) (.take (gt 23 29 (.iaddr 4 (t 25) (t 28))) (.take (gt 23 30 (.load true 4 (t 29))) (.take (gt 23 31 (.mov (t 0))) (.take (gt 23 32 (.mov (t 3))) (.take (gt 23 33 (.mov (t 11))) (.take (gt 23 34 (.ibin .add (t 32) (t 33))) (.take (gt 23 35 (.ibin .add (t 34) (k 1))) (.take (gt 23 36 (.iaddr 4 (t 31) (t 35))) (.take (gt 23 37 (.load true 4 (t 36))) (.alt (gt 23 38 (.call (t 24) [(t 30),(t 37)])) false
  (.take (gt 23 39 (.ibin .lss (t 38) (k 0))) (.take (o 40 (.pick (t 23) (t 39) (kb false))) (.done)))
  (.none))))))))))))))))))))) [])
 (.cond (t 40)
  (.ops [mv 41 (t 11),
  ad 42 (t 41) (k 1),
  mv 11 (t 42)] [])
  (.skip)))
 (.seq (.seq (.draw (.take (mv 43 (t 4)) (.take (mv 44 (t 0)) (.take (mv 45 (t 3)) (.take (mv 46 (t 10)) (.take (ad 47 (t 45) (t 46)) (.take (o 48 (.iaddr 4 (t 44) (t 47))) (.take (la 49 4 (t 48)) (.take (mv 50 (t 0)) (.take (mv 51 (t 3)) (.take (mv 52 (t 11)) (.take (ad 53 (t 51) (t 52)) (.take (o 54 (.iaddr 4 (t 50) (t 53))) (.take (la 55 4 (t 54)) (.alt (o 56 (.call (t 43) [(t 49),(t 55)])) false
  (.take (o 57 (.ibin .lss (t 56) (k 0))) (.take (o 58 (.not (t 57))) (.done)))
  (.none))))))))))))))) [])
 (.cond (t 58)
  (.ret)
  (.skip)))
 (.seq (.draw (.take (mv 59 (t 0)) (.take (mv 60 (t 3)) (.take (mv 61 (t 10)) (.take (ad 62 (t 60) (t 61)) (.take (mv 63 (t 0)) (.take (mv 64 (t 3)) (.take (mv 65 (t 11)) (.take (ad 66 (t 64) (t 65)) (.take (mv 67 (t 0)) (.take (mv 68 (t 3)) (.take (mv 69 (t 11)) (.take (ad 70 (t 68) (t 69)) (.take (o 71 (.iaddr 4 (t 67) (t 70))) (.take (la 72 4 (t 71)) (.take (mv 73 (t 0)) (.take (mv 74 (t 3)) (.take (mv 75 (t 10)) (.take (ad 76 (t 74) (t 75)) (.take (o 77 (.iaddr 4 (t 73) (t 76))) (.take (la 78 4 (t 77)) (.take (o 79 (.iaddr 4 (t 59) (t 62))) (.alt (st 4 (t 79) (t 72)) false
  (.take (o 80 (.iaddr 4 (t 63) (t 66))) (.alt (st 4 (t 80) (t 78)) false
  (.done)
  (.none)))
  (.none))))))))))))))))))))))) [])
 (.ops [mv 81 (t 11),
 mv 10 (t 81)] [])))))))))
def zlO:List zd:=[]
def ziu:RCode:=
 .seq (.ops [mv 8 (k 0)] [])
 (.seq (.ops [mv 9 (t 0),
 mv 10 (t 1),
 o 11 (.ibin .sub (t 10) (k 1)),
 mv 12 (t 1),
 mv 13 (t 1),
 ad 14 (t 13) (k 1),
 mv 15 (t 2),
 mv 16 (t 3),
 ca 17 F.zfd [(t 9),(t 11),(t 12),(t 14),(t 15),(t 16)],
 mv 8 (t 17)] [])
 (.ret))
def ziv:List zd:=[.tmp 8]
def zmN:RCode:=
 .seq (.ops [mv 12 (k 0)] [])
 (.seq (.ops [mv 14 (t 0),
 mv 15 (t 1),
 mv 16 (t 2),
 mv 17 (t 4),
 mv 18 (t 5),
 ca 19 F.zbK [(t 14),(t 15),(t 16),(t 17),(t 18)],
 mv 13 (t 19),
 ex 20 (t 13) 0,
 ex 21 (t 13) 1,
 mv 1 (t 20),
 mv 2 (t 21)] [])
 (.seq (.ops [mv 23 (t 0),
 mv 24 (t 2),
 mv 25 (t 3),
 mv 26 (t 4),
 mv 27 (t 5),
 ca 28 F.zbK [(t 23),(t 24),(t 25),(t 26),(t 27)],
 mv 22 (t 28),
 ex 29 (t 22) 0,
 ex 30 (t 22) 1,
 mv 2 (t 29),
 mv 3 (t 30)] [])
 (.seq (.ops [mv 32 (t 0),
 mv 33 (t 1),
 mv 34 (t 2),
 mv 35 (t 4),
 mv 36 (t 5),
 ca 37 F.zbK [(t 32),(t 33),(t 34),(t 35),(t 36)],
 mv 31 (t 37),
 ex 38 (t 31) 0,
 ex 39 (t 31) 1,
 mv 1 (t 38),
 mv 2 (t 39)] [])
 (.seq (.ops [mv 40 (t 2),
 mv 12 (t 40)] [])
 (.ret)))))
def zmO:List zd:=[.tmp 12]
def zC9:RCode:=
 .seq (.ops [mv 6 (.const (.int .u32 0))] [])
 (.seq (.ops [mv 9 (t 0),
 mv 10 (t 1),
 o 11 (.conv .u32 (t 10)),
 o 12 (.ibin .xor (t 9) (t 11)),
 mv 0 (t 12)] [])
 (.seq (.seq (.ops [mv 7 (k 0)] [])
 (.block 0 (.loop (.seq (.seq (.ops [mv 13 (t 7),
 o 14 (.ibin .lss (t 13) (k 8))] [])
 (.cond (t 14)
  (.skip)
  (.exit 0)))
 (.seq (.block 1 (.seq (.ops [mv 17 (t 0),
 o 18 (.ibin .rem (t 17) (.const (.int .u32 2))),
 mv 8 (t 18)] [])
 (.seq (.ops [mv 19 (t 0),
 o 20 (.ibin .quo (t 19) (.const (.int .u32 2))),
 mv 0 (t 20)] [])
 (.seq (.ops [mv 21 (t 8),
 o 22 (.ibin .eql (t 21) (.const (.int .u32 1)))] [])
 (.cond (t 22)
  (.ops [mv 23 (t 0),
  mv 24 (t 2),
  o 25 (.ibin .xor (t 23) (t 24)),
  mv 0 (t 25)] [])
  (.skip))))))
 (.ops [mv 15 (t 7),
 ad 16 (t 15) (k 1),
 mv 7 (t 16)] []))))))
 (.seq (.ops [mv 26 (t 0),
 mv 6 (t 26)] [])
 (.ret))))
def zDa:List zd:=[.tmp 6]
def ziU:RCode:=
 .seq (.ops [mv 12 (t 1),
 mv 10 (t 12)] [])
 (.block 0 (.loop (.block 1 (.seq (.ops [mv 13 (t 10),
 o 14 (.ibin .mul (k 2) (t 13)),
 ad 15 (t 14) (k 1),
 mv 11 (t 15)] [])
 (.seq (.seq (.ops [mv 16 (t 11),
 mv 17 (t 2),
 o 18 (.ibin .geq (t 16) (t 17))] [])
 (.cond (t 18)
  (.exit 0)
  (.skip)))
 (.seq (.seq (.draw (.take (mv 19 (t 11)) (.take (ad 20 (t 19) (k 1)) (.take (mv 21 (t 2)) (.take (o 22 (.ibin .lss (t 20) (t 21))) (.take (os 23 (.mov (t 22))) (.take (gt 23 24 (.mov (t 4))) (.take (gt 23 25 (.mov (t 0))) (.take (gt 23 26 (.mov (t 3))) (.take (gt 23 27 (.mov (t 11))) (.take (gt 23 28 (.ibin .add (t 26) (t 27))) (.take (gt 23 29 (.iaddr 6 (t 25) (t 28))) (.take (gt 23 30 (.load true 6 (t 29))) (.take (gt 23 31 (.mov (t 0))) (.take (gt 23 32 (.mov (t 3))) (.take (gt 23 33 (.mov (t 11))) (.take (gt 23 34 (.ibin .add (t 32) (t 33))) (.take (gt 23 35 (.ibin .add (t 34) (k 1))) (.take (gt 23 36 (.iaddr 6 (t 31) (t 35))) (.take (gt 23 37 (.load true 6 (t 36))) (.alt (gt 23 38 (.call (t 24) [(t 30),(t 37)])) false
  (.take (gt 23 39 (.ibin .lss (t 38) (k 0))) (.take (o 40 (.pick (t 23) (t 39) (kb false))) (.done)))
  (.none))))))))))))))))))))) [])
 (.cond (t 40)
  (.ops [mv 41 (t 11),
  ad 42 (t 41) (k 1),
  mv 11 (t 42)] [])
  (.skip)))
 (.seq (.seq (.draw (.take (mv 43 (t 4)) (.take (mv 44 (t 0)) (.take (mv 45 (t 3)) (.take (mv 46 (t 10)) (.take (ad 47 (t 45) (t 46)) (.take (o 48 (.iaddr 6 (t 44) (t 47))) (.take (la 49 6 (t 48)) (.take (mv 50 (t 0)) (.take (mv 51 (t 3)) (.take (mv 52 (t 11)) (.take (ad 53 (t 51) (t 52)) (.take (o 54 (.iaddr 6 (t 50) (t 53))) (.take (la 55 6 (t 54)) (.alt (o 56 (.call (t 43) [(t 49),(t 55)])) false
  (.take (o 57 (.ibin .lss (t 56) (k 0))) (.take (o 58 (.not (t 57))) (.done)))
  (.none))))))))))))))) [])
 (.cond (t 58)
  (.ret)
  (.skip)))
 (.seq (.draw (.take (mv 59 (t 0)) (.take (mv 60 (t 3)) (.take (mv 61 (t 10)) (.take (ad 62 (t 60) (t 61)) (.take (mv 63 (t 0)) (.take (mv 64 (t 3)) (.take (mv 65 (t 11)) (.take (ad 66 (t 64) (t 65)) (.take (mv 67 (t 0)) (.take (mv 68 (t 3)) (.take (mv 69 (t 11)) (.take (ad 70 (t 68) (t 69)) (.take (o 71 (.iaddr 6 (t 67) (t 70))) (.take (la 72 6 (t 71)) (.take (mv 73 (t 0)) (.take (mv 74 (t 3)) (.take (mv 75 (t 10)) (.take (ad 76 (t 74) (t 75)) (.take (o 77 (.iaddr 6 (t 73) (t 76))) (.take (la 78 6 (t 77)) (.take (o 79 (.iaddr 6 (t 59) (t 62))) (.alt (st 6 (t 79) (t 72)) false
  (.take (o 80 (.iaddr 6 (t 63) (t 66))) (.alt (st 6 (t 80) (t 78)) false
  (.done)
  (.none)))
  (.none))))))))))))))))))))))) [])
 (.ops [mv 81 (t 11),
 mv 10 (t 81)] [])))))))))
def ziV:List zd:=[]
def zgd:RCode:=
 .seq (.ops [mv 8 (k 0)] [])
 (.seq (.ops [mv 9 (t 0),
 mv 10 (t 1),
 o 11 (.ibin .sub (t 10) (k 1)),
 mv 12 (t 1),
 mv 13 (t 1),
 ad 14 (t 13) (k 1),
 mv 15 (t 2),
 mv 16 (t 3),
 ca 17 F.zc9 [(t 9),(t 11),(t 12),(t 14),(t 15),(t 16)],
 mv 8 (t 17)] [])
 (.ret))
def zge:List zd:=[.tmp 8]
def zka:RCode:=
 .seq (.ops [mv 12 (k 0)] [])
 (.seq (.ops [mv 14 (t 0),
 mv 15 (t 1),
 mv 16 (t 2),
 mv 17 (t 4),
 mv 18 (t 5),
 ca 19 F.za7 [(t 14),(t 15),(t 16),(t 17),(t 18)],
 mv 13 (t 19),
 ex 20 (t 13) 0,
 ex 21 (t 13) 1,
 mv 1 (t 20),
 mv 2 (t 21)] [])
 (.seq (.ops [mv 23 (t 0),
 mv 24 (t 2),
 mv 25 (t 3),
 mv 26 (t 4),
 mv 27 (t 5),
 ca 28 F.za7 [(t 23),(t 24),(t 25),(t 26),(t 27)],
 mv 22 (t 28),
 ex 29 (t 22) 0,
 ex 30 (t 22) 1,
 mv 2 (t 29),
 mv 3 (t 30)] [])
 (.seq (.ops [mv 32 (t 0),
 mv 33 (t 1),
 mv 34 (t 2),
 mv 35 (t 4),
 mv 36 (t 5),
 ca 37 F.za7 [(t 32),(t 33),(t 34),(t 35),(t 36)],
 mv 31 (t 37),
 ex 38 (t 31) 0,
 ex 39 (t 31) 1,
 mv 1 (t 38),
 mv 2 (t 39)] [])
 (.seq (.ops [mv 40 (t 2),
 mv 12 (t 40)] [])
 (.ret)))))
def zkb:List zd:=[.tmp 12]
def zkA:RCode:=
 .seq (.ops [mv 12 (t 1),
 mv 10 (t 12)] [])
 (.block 0 (.loop (.block 1 (.seq (.ops [mv 13 (t 10),
 o 14 (.ibin .mul (k 2) (t 13)),
 ad 15 (t 14) (k 1),
 mv 11 (t 15)] [])
 (.seq (.seq (.ops [mv 16 (t 11),
 mv 17 (t 2),
 o 18 (.ibin .geq (t 16) (t 17))] [])
 (.cond (t 18)
  (.exit 0)
  (.skip)))
 (.seq (.seq (.draw (.take (mv 19 (t 11)) (.take (ad 20 (t 19) (k 1)) (.take (mv 21 (t 2)) (.take (o 22 (.ibin .lss (t 20) (t 21))) (.take (os 23 (.mov (t 22))) (.take (gt 23 24 (.mov (t 4))) (.take (gt 23 25 (.mov (t 0))) (.take (gt 23 26 (.mov (t 3))) (.take (gt 23 27 (.mov (t 11))) (.take (gt 23 28 (.ibin .add (t 26) (t 27))) (.take (gt 23 29 (.iaddr 4 (t 25) (t 28))) (.take (gt 23 30 (.load true 4 (t 29))) (.take (gt 23 31 (.mov (t 0))) (.take (gt 23 32 (.mov (t 3))) (.take (gt 23 33 (.mov (t 11))) (.take (gt 23 34 (.ibin .add (t 32) (t 33))) (.take (gt 23 35 (.ibin .add (t 34) (k 1))) (.take (gt 23 36 (.iaddr 4 (t 31) (t 35))) (.take (gt 23 37 (.load true 4 (t 36))) (.alt (gt 23 38 (.call (t 24) [(t 30),(t 37)])) false
  (.take (gt 23 39 (.ibin .lss (t 38) (k 0))) (.take (o 40 (.pick (t 23) (t 39) (kb false))) (.done)))
  (.none))))))))))))))))))))) [])
 (.cond (t 40)
  (.ops [mv 41 (t 11),
  ad 42 (t 41) (k 1),
  mv 11 (t 42)] [])
  (.skip)))
 (.seq (.seq (.draw (.take (mv 43 (t 4)) (.take (mv 44 (t 0)) (.take (mv 45 (t 3)) (.take (mv 46 (t 10)) (.take (ad 47 (t 45) (t 46)) (.take (o 48 (.iaddr 4 (t 44) (t 47))) (.take (la 49 4 (t 48)) (.take (mv 50 (t 0)) (.take (mv 51 (t 3)) (.take (mv 52 (t 11)) (.take (ad 53 (t 51) (t 52)) (.take (o 54 (.iaddr 4 (t 50) (t 53))) (.take (la 55 4 (t 54)) (.alt (o 56 (.call (t 43) [(t 49),(t 55)])) false
  (.take (o 57 (.ibin .lss (t 56) (k 0))) (.take (o 58 (.not (t 57))) (.done)))
  (.none))))))))))))))) [])
 (.cond (t 58)
  (.ret)
  (.skip)))
 (.seq (.draw (.take (mv 59 (t 0)) (.take (mv 60 (t 3)) (.take (mv 61 (t 10)) (.take (ad 62 (t 60) (t 61)) (.take (mv 63 (t 0)) (.take (mv 64 (t 3)) (.take (mv 65 (t 11)) (.take (ad 66 (t 64) (t 65)) (.take (mv 67 (t 0)) (.take (mv 68 (t 3)) (.take (mv 69 (t 11)) (.take (ad 70 (t 68) (t 69)) (.take (o 71 (.iaddr 4 (t 67) (t 70))) (.take (la 72 4 (t 71)) (.take (mv 73 (t 0)) (.take (mv 74 (t 3)) (.take (mv 75 (t 10)) (.take (ad 76 (t 74) (t 75)) (.take (o 77 (.iaddr 4 (t 73) (t 76))) (.take (la 78 4 (t 77)) (.take (o 79 (.iaddr 4 (t 59) (t 62))) (.alt (st 4 (t 79) (t 72)) false
  (.take (o 80 (.iaddr 4 (t 63) (t 66))) (.alt (st 4 (t 80) (t 78)) false
  (.done)
  (.none)))
  (.none))))))))))))))))))))))) [])
 (.ops [mv 81 (t 11),
 mv 10 (t 81)] [])))))))))
def zkB:List zd:=[]
def zhD:RCode:=
 .seq (.ops [mv 8 (k 0)] [])
 (.seq (.ops [mv 9 (t 0),
 mv 10 (t 1),
 o 11 (.ibin .sub (t 10) (k 1)),
 mv 12 (t 1),
 mv 13 (t 1),
 ad 14 (t 13) (k 1),
 mv 15 (t 2),
 mv 16 (t 3),
 ca 17 F.zep [(t 9),(t 11),(t 12),(t 14),(t 15),(t 16)],
 mv 8 (t 17)] [])
 (.ret))
def zhE:List zd:=[.tmp 8]
def zlP:RCode:=
 .seq (.ops [mv 12 (k 0)] [])
 (.seq (.ops [mv 14 (t 0),
 mv 15 (t 1),
 mv 16 (t 2),
 mv 17 (t 4),
 mv 18 (t 5),
 ca 19 F.zbt [(t 14),(t 15),(t 16),(t 17),(t 18)],
 mv 13 (t 19),
 ex 20 (t 13) 0,
 ex 21 (t 13) 1,
 mv 1 (t 20),
 mv 2 (t 21)] [])
 (.seq (.ops [mv 23 (t 0),
 mv 24 (t 2),
 mv 25 (t 3),
 mv 26 (t 4),
 mv 27 (t 5),
 ca 28 F.zbt [(t 23),(t 24),(t 25),(t 26),(t 27)],
 mv 22 (t 28),
 ex 29 (t 22) 0,
 ex 30 (t 22) 1,
 mv 2 (t 29),
 mv 3 (t 30)] [])
 (.seq (.ops [mv 32 (t 0),
 mv 33 (t 1),
 mv 34 (t 2),
 mv 35 (t 4),
 mv 36 (t 5),
 ca 37 F.zbt [(t 32),(t 33),(t 34),(t 35),(t 36)],
 mv 31 (t 37),
 ex 38 (t 31) 0,
 ex 39 (t 31) 1,
 mv 1 (t 38),
 mv 2 (t 39)] [])
 (.seq (.ops [mv 40 (t 2),
 mv 12 (t 40)] [])
 (.ret)))))
def zlQ:List zd:=[.tmp 12]
def zBh:RCode:=
 .seq (.ops [mv 4 (.const sn)] [])
 (.seq (.ops [mv 8 (t 1),
 ca 9 F.zcx [(t 8)],
 o 5 (.alloc 370 [(.bool false),(.bool false),(.bool false),(.bool false),(.bool false),(.bool false),(.bool false),(.bool false),(.bool false),(.bool false),(.bool false),(.bool false),(.bool false),(.bool false),(.bool false),(.bool false),(.bool false),(.bool false),(.bool false),(.bool false),(.bool false),(.bool false),(.bool false),(.bool false),(.bool false),(.bool false),(.bool false),(.bool false),(.bool false),(.bool false),(.bool false),(.bool false),(.bool false),(.bool false),(.bool false),(.bool false),(.bool false),(.bool false),(.bool false),(.bool false),(.bool false),(.bool false),(.bool false),(.bool false),(.bool false),(.bool false),(.bool false),(.bool false),(.bool false),(.bool false),(.bool false),(.bool false),(.bool false),(.bool false),(.bool false),(.bool false),(.bool false),(.bool false),(.bool false),(.bool false),(.bool false),(.bool false),(.bool false),(.bool false),(.bool false),(.bool false),(.bool false),(.bool false),(.bool false),(.bool false),(.bool false),(.bool false),(.bool false),(.bool false),(.bool false),(.bool false),(.bool false),(.bool false),(.bool false),(.bool false),(.bool false),(.bool false),(.bool false),(.bool false),(.bool false),(.bool false),(.bool false),(.bool false),(.bool false),(.bool false),(.bool false),(.bool false),(.bool false),(.bool false),(.bool false),(.bool false),(.bool false),(.bool false),(.bool false),(.bool false),(.bool false),(.bool false),(.bool false),(.bool false),(.bool false),(.bool false),(.bool false),(.bool false),(.bool false),(.bool false),(.bool false),(.bool false),(.bool false),(.bool false),(.bool false),(.bool false),(.bool false),(.bool false),(.bool false),(.bool false),(.bool false),(.bool false),(.bool false),(.bool false),(.bool false),(.bool false),(.bool false),(.bool false)]),
 st 128 (t 5) (t 9)] [])
 (.seq (.ops [o 6 (.alloc 84 [sn])] [])
 (.seq (.seq (.ops [mv 10 (t 0),
 ca 11 F.zc2 [(t 10),(k 128)]] [])
 (.block 0 (.rfun ((t 11)) [12] (.ops [mv 7 (t 12)] [])
 (.block 1 (.seq (.ops [mv 13 (t 7),
 o 14 (.iaddrA 128 1 (t 5) (t 13)),
 l1 15 (t 14)] [])
 (.cond (t 15)
  (.ops [l1 16 (t 6),
  mv 17 (t 7),
  o 18 (.mkSl true 3 1 [(i 0)] [(0,1,(t 17))]),
  o 19 (.app 3 1 8 [(i 0)] (t 16) (t 18)),
  st 1 (t 6) (t 19)] [])
  (.skip)))))))
 (.seq (.ops [l1 20 (t 6),
 mv 4 (t 20)] [])
 (.ret)))))
def zBi:List zd:=[.tmp 4]
def zmF:RCode:=
 .seq (.ops [o 2 (.alloc 370 [(.bool false),(.bool false),(.bool false),(.bool false),(.bool false),(.bool false),(.bool false),(.bool false),(.bool false),(.bool false),(.bool false),(.bool false),(.bool false),(.bool false),(.bool false),(.bool false),(.bool false),(.bool false),(.bool false),(.bool false),(.bool false),(.bool false),(.bool false),(.bool false),(.bool false),(.bool false),(.bool false),(.bool false),(.bool false),(.bool false),(.bool false),(.bool false),(.bool false),(.bool false),(.bool false),(.bool false),(.bool false),(.bool false),(.bool false),(.bool false),(.bool false),(.bool false),(.bool false),(.bool false),(.bool false),(.bool false),(.bool false),(.bool false),(.bool false),(.bool false),(.bool false),(.bool false),(.bool false),(.bool false),(.bool false),(.bool false),(.bool false),(.bool false),(.bool false),(.bool false),(.bool false),(.bool false),(.bool false),(.bool false),(.bool false),(.bool false),(.bool false),(.bool false),(.bool false),(.bool false),(.bool false),(.bool false),(.bool false),(.bool false),(.bool false),(.bool false),(.bool false),(.bool false),(.bool false),(.bool false),(.bool false),(.bool false),(.bool false),(.bool false),(.bool false),(.bool false),(.bool false),(.bool false),(.bool false),(.bool false),(.bool false),(.bool false),(.bool false),(.bool false),(.bool false),(.bool false),(.bool false),(.bool false),(.bool false),(.bool false),(.bool false),(.bool false),(.bool false),(.bool false),(.bool false),(.bool false),(.bool false),(.bool false),(.bool false),(.bool false),(.bool false),(.bool false),(.bool false),(.bool false),(.bool false),(.bool false),(.bool false),(.bool false),(.bool false),(.bool false),(.bool false),(.bool false),(.bool false),(.bool false),(.bool false),(.bool false),(.bool false),(.bool false)])] [])
 (.seq (.ops [o 3 (.alloc 370 [(.bool false),(.bool false),(.bool false),(.bool false),(.bool false),(.bool false),(.bool false),(.bool false),(.bool false),(.bool false),(.bool false),(.bool false),(.bool false),(.bool false),(.bool false),(.bool false),(.bool false),(.bool false),(.bool false),(.bool false),(.bool false),(.bool false),(.bool false),(.bool false),(.bool false),(.bool false),(.bool false),(.bool false),(.bool false),(.bool false),(.bool false),(.bool false),(.bool false),(.bool false),(.bool false),(.bool false),(.bool false),(.bool false),(.bool false),(.bool false),(.bool false),(.bool false),(.bool false),(.bool false),(.bool false),(.bool false),(.bool false),(.bool false),(.bool false),(.bool false),(.bool false),(.bool false),(.bool false),(.bool false),(.bool false),(.bool false),(.bool false),(.bool false),(.bool false),(.bool false),(.bool false),(.bool false),(.bool false),(.bool false),(.bool false),(.bool false),(.bool false),(.bool false),(.bool false),(.bool false),(.bool false),(.bool false),(.bool false),(.bool false),(.bool false),(.bool false),(.bool false),(.bool false),(.bool false),(.bool false),(.bool false),(.bool false),(.bool false),(.bool false),(.bool false),(.bool false),(.bool false),(.bool false),(.bool false),(.bool false),(.bool false),(.bool false),(.bool false),(.bool false),(.bool false),(.bool false),(.bool false),(.bool false),(.bool false),(.bool false),(.bool false),(.bool false),(.bool false),(.bool false),(.bool false),(.bool false),(.bool false),(.bool false),(.bool false),(.bool false),(.bool false),(.bool false),(.bool false),(.bool false),(.bool false),(.bool false),(.bool false),(.bool false),(.bool false),(.bool false),(.bool false),(.bool false),(.bool false),(.bool false),(.bool false),(.bool false),(.bool false),(.bool false)])] [])
 (.seq (.seq (.ops [mv 6 (t 0),
 o 7 (.len (t 6)),
 mv 8 (k 0)] [])
 (.block 0 (.loop (.seq (.ops [o 9 (.ibin .lss (t 8) (t 7))] [])
 (.seq (.cond (t 9)
  (.skip)
  (.exit 0))
 (.seq (.block 1 (.seq (.ops [o 10 (.iaddr 1 (t 6) (t 8)),
 l1 11 (t 10),
 mv 5 (t 11)] [])
 (.ops [mv 12 (t 5),
 ca 13 F.zF [(t 12)],
 o 14 (.iaddrA 128 1 (t 3) (t 13)),
 st 1 (t 14) (kb true)] [])))
 (.ops [ad 15 (t 8) (k 1),
 mv 8 (t 15)] [])))))))
 (.seq (.ops [la 16 128 (t 3),
 st 128 (t 2) (t 16)] [])
 (.ret))))
def zmG:List zd:=[.cell true 128 2]
theorem zBj {args:List Value} {M:Mem} {R:Value→Mem→Prop} (hn:args.length≤17) (h:zi Tryz.prog zmF zmG args M R):CallsM Tryz.prog F.zcx args M R:=
 zf (kf:=fun _=>[]) Tryz.func315 (by kernel_rfl) (by kernel_rfl) hn (by kernel_rfl) h
def zag:RCode:=
 .seq (.ops [mv 8 (t 1),
 ad 9 (t 8) (k 1),
 mv 6 (t 9)] [])
 (.block 0 (.loop (.seq (.seq (.ops [mv 10 (t 6),
 mv 11 (t 2),
 o 12 (.ibin .lss (t 10) (t 11))] [])
 (.cond (t 12)
  (.skip)
  (.exit 0)))
 (.seq (.block 1 (.seq (.ops [mv 15 (t 6),
 mv 7 (t 15)] [])
 (.block 2 (.loop (.seq (.seq (.draw (.take (mv 16 (t 7)) (.take (mv 17 (t 1)) (.take (o 18 (.ibin .gtr (t 16) (t 17))) (.take (os 19 (.mov (t 18))) (.take (gt 19 20 (.mov (t 0))) (.take (gt 19 21 (.mov (t 7))) (.take (gt 19 22 (.iaddr 1 (t 20) (t 21))) (.take (gt 19 23 (.load false 1 (t 22))) (.take (gt 19 24 (.mov (t 0))) (.take (gt 19 25 (.mov (t 7))) (.take (gt 19 26 (.ibin .sub (t 25) (k 1))) (.take (gt 19 27 (.iaddr 1 (t 24) (t 26))) (.take (gt 19 28 (.load false 1 (t 27))) (.alt (gt 19 29 (.call (fn F.zC) [(t 23),(t 28)])) false
  (.take (o 30 (.pick (t 19) (t 29) (kb false))) (.done))
  (.none))))))))))))))) [])
  (.cond (t 30)
  (.skip)
  (.exit 2)))
  (.seq (.block 3 (.draw (.take (mv 33 (t 0)) (.take (mv 34 (t 7)) (.take (mv 35 (t 0)) (.take (mv 36 (t 7)) (.take (o 37 (.ibin .sub (t 36) (k 1))) (.take (mv 38 (t 0)) (.take (mv 39 (t 7)) (.take (o 40 (.ibin .sub (t 39) (k 1))) (.take (o 41 (.iaddr 1 (t 38) (t 40))) (.take (l1 42 (t 41)) (.take (mv 43 (t 0)) (.take (mv 44 (t 7)) (.take (o 45 (.iaddr 1 (t 43) (t 44))) (.take (l1 46 (t 45)) (.take (o 47 (.iaddr 1 (t 33) (t 34))) (.alt (st 1 (t 47) (t 42)) false
  (.take (o 48 (.iaddr 1 (t 35) (t 37))) (.alt (st 1 (t 48) (t 46)) false
   (.done)
   (.none)))
  (.none))))))))))))))))) []))
  (.ops [mv 31 (t 7),
  o 32 (.ibin .sub (t 31) (k 1)),
  mv 7 (t 32)] [])))))))
 (.ops [mv 13 (t 6),
 ad 14 (t 13) (k 1),
 mv 6 (t 14)] [])))))
def zah:List zd:=[]
theorem ziw {args:List Value} {M:Mem} {R:Value→Mem→Prop} (hn:args.length≤49) (h:zi Tryz.prog zag zah args M R):CallsM Tryz.prog F.zaX args M R:=
 zf (kf:=fun _=>[]) Tryz.func316 (by kernel_rfl) (by kernel_rfl) hn (by kernel_rfl) h
def zlR:RCode:=
 .seq (.ops [mv 11 (t 1),
 mv 6 (t 11)] [])
 (.seq (.ops [mv 7 (k 0)] [])
 (.seq (.ops [mv 12 (t 2),
 mv 13 (t 1),
 o 14 (.ibin .sub (t 12) (t 13)),
 mv 8 (t 14)] [])
 (.seq (.seq (.ops [mv 15 (t 8),
 o 16 (.ibin .sub (t 15) (k 1)),
 o 17 (.ibin .quo (t 16) (k 2)),
 mv 9 (t 17)] [])
 (.block 0 (.loop (.seq (.seq (.ops [mv 18 (t 9),
 o 19 (.ibin .geq (t 18) (k 0))] [])
 (.cond (t 19)
  (.skip)
  (.exit 0)))
 (.seq (.block 1 (.ops [mv 22 (t 0),
 mv 23 (t 9),
 mv 24 (t 8),
 mv 25 (t 6),
 ca 26 F.zeq [(t 22),(t 23),(t 24),(t 25)]] []))
 (.ops [mv 20 (t 9),
 o 21 (.ibin .sub (t 20) (k 1)),
 mv 9 (t 21)] []))))))
 (.seq (.ops [mv 27 (t 8),
 o 28 (.ibin .sub (t 27) (k 1)),
 mv 10 (t 28)] [])
 (.block 2 (.loop (.seq (.seq (.ops [mv 29 (t 10),
 o 30 (.ibin .geq (t 29) (k 0))] [])
 (.cond (t 30)
  (.skip)
  (.exit 2)))
 (.seq (.block 3 (.seq (.draw (.take (mv 33 (t 0)) (.take (mv 34 (t 6)) (.take (mv 35 (t 0)) (.take (mv 36 (t 6)) (.take (mv 37 (t 10)) (.take (ad 38 (t 36) (t 37)) (.take (mv 39 (t 0)) (.take (mv 40 (t 6)) (.take (mv 41 (t 10)) (.take (ad 42 (t 40) (t 41)) (.take (o 43 (.iaddr 1 (t 39) (t 42))) (.take (l1 44 (t 43)) (.take (mv 45 (t 0)) (.take (mv 46 (t 6)) (.take (o 47 (.iaddr 1 (t 45) (t 46))) (.take (l1 48 (t 47)) (.take (o 49 (.iaddr 1 (t 33) (t 34))) (.alt (st 1 (t 49) (t 44)) false
  (.take (o 50 (.iaddr 1 (t 35) (t 38))) (.alt (st 1 (t 50) (t 48)) false
  (.done)
  (.none)))
  (.none))))))))))))))))))) [])
 (.ops [mv 51 (t 0),
 mv 52 (t 7),
 mv 53 (t 10),
 mv 54 (t 6),
 ca 55 F.zeq [(t 51),(t 52),(t 53),(t 54)]] [])))
 (.ops [mv 31 (t 10),
 o 32 (.ibin .sub (t 31) (k 1)),
 mv 10 (t 32)] [])))))))))
def zlS:List zd:=[]
def ziW:RCode:=
 .seq (.ops [mv 11 (t 2),
 mv 12 (t 1),
 o 13 (.ibin .sub (t 11) (t 12)),
 mv 6 (t 13)] [])
 (.seq (.ops [mv 14 (t 6),
 o 15 (.ibin .geq (t 14) (k 8))] [])
 (.cond (t 15)
 (.seq (.ops [mv 16 (t 6),
 o 17 (.conv .u64 (t 16)),
 o 7 (.alloc 325 [(.int .u64 0)]),
 st 1 (t 7) (t 17)] [])
 (.seq (.ops [mv 18 (t 6),
 ca 19 F.za4 [(t 18)],
 mv 8 (t 19)] [])
 (.seq (.ops [mv 20 (t 1),
 mv 21 (t 6),
 o 22 (.ibin .quo (t 21) (k 4)),
 o 23 (.ibin .mul (t 22) (k 2)),
 ad 24 (t 20) (t 23),
 o 25 (.ibin .sub (t 24) (k 1)),
 mv 9 (t 25)] [])
 (.block 0 (.loop (.seq (.seq (.ops [mv 26 (t 9),
  mv 27 (t 1),
  mv 28 (t 6),
  o 29 (.ibin .quo (t 28) (k 4)),
  o 30 (.ibin .mul (t 29) (k 2)),
  ad 31 (t 27) (t 30),
  ad 32 (t 31) (k 1),
  o 33 (.ibin .leq (t 26) (t 32))] [])
  (.cond (t 33)
  (.skip)
  (.exit 0)))
  (.seq (.block 1 (.seq (.ops [ca 36 F.zbg [(t 7)],
  mv 37 (t 8),
  o 38 (.ibin .sub (t 37) (.const (.int .u64 1))),
  o 39 (.ibin .and (t 36) (t 38)),
  o 40 (.conv .i64 (t 39)),
  mv 10 (t 40)] [])
  (.seq (.seq (.ops [mv 41 (t 10),
  mv 42 (t 6),
  o 43 (.ibin .geq (t 41) (t 42))] [])
  (.cond (t 43)
  (.ops [mv 44 (t 10),
  mv 45 (t 6),
  o 46 (.ibin .sub (t 44) (t 45)),
  mv 10 (t 46)] [])
  (.skip)))
  (.draw (.take (mv 47 (t 0)) (.take (mv 48 (t 9)) (.take (mv 49 (t 0)) (.take (mv 50 (t 1)) (.take (mv 51 (t 10)) (.take (ad 52 (t 50) (t 51)) (.take (mv 53 (t 0)) (.take (mv 54 (t 1)) (.take (mv 55 (t 10)) (.take (ad 56 (t 54) (t 55)) (.take (o 57 (.iaddr 1 (t 53) (t 56))) (.take (l1 58 (t 57)) (.take (mv 59 (t 0)) (.take (mv 60 (t 9)) (.take (o 61 (.iaddr 1 (t 59) (t 60))) (.take (l1 62 (t 61)) (.take (o 63 (.iaddr 1 (t 47) (t 48))) (.alt (st 1 (t 63) (t 58)) false
  (.take (o 64 (.iaddr 1 (t 49) (t 52))) (.alt (st 1 (t 64) (t 62)) false
   (.done)
   (.none)))
  (.none))))))))))))))))))) []))))
  (.ops [mv 34 (t 9),
  ad 35 (t 34) (k 1),
  mv 9 (t 35)] []))))))))
 (.skip)))
def ziX:List zd:=[]
def zkc:RCode:=
 .seq (.ops [mv 6 (k 0),
 mv 7 (k 0)] [])
 (.seq (.ops [mv 13 (t 2),
 mv 14 (t 1),
 o 15 (.ibin .sub (t 13) (t 14)),
 mv 8 (t 15)] [])
 (.seq (.ops [o 9 (.alloc 3 [(i 0)])] [])
 (.seq (.ops [mv 16 (t 1),
 mv 17 (t 8),
 o 18 (.ibin .quo (t 17) (k 4)),
 o 19 (.ibin .mul (t 18) (k 1)),
 ad 20 (t 16) (t 19),
 mv 10 (t 20)] [])
 (.seq (.ops [mv 21 (t 1),
 mv 22 (t 8),
 o 23 (.ibin .quo (t 22) (k 4)),
 o 24 (.ibin .mul (t 23) (k 2)),
 ad 25 (t 21) (t 24),
 mv 11 (t 25)] [])
 (.seq (.ops [mv 26 (t 1),
 mv 27 (t 8),
 o 28 (.ibin .quo (t 27) (k 4)),
 o 29 (.ibin .mul (t 28) (k 3)),
 ad 30 (t 26) (t 29),
 mv 12 (t 30)] [])
 (.seq (.seq (.ops [mv 31 (t 8),
 o 32 (.ibin .geq (t 31) (k 8))] [])
 (.cond (t 32)
 (.seq (.seq (.ops [mv 33 (t 8),
 o 34 (.ibin .geq (t 33) (k 50))] [])
 (.cond (t 34)
  (.seq (.ops [mv 35 (t 0),
  mv 36 (t 10),
  ca 37 F.zaP [(t 35),(t 36),(t 9)],
  mv 10 (t 37)] [])
  (.seq (.ops [mv 38 (t 0),
  mv 39 (t 11),
  ca 40 F.zaP [(t 38),(t 39),(t 9)],
  mv 11 (t 40)] [])
  (.ops [mv 41 (t 0),
  mv 42 (t 12),
  ca 43 F.zaP [(t 41),(t 42),(t 9)],
  mv 12 (t 43)] [])))
  (.skip)))
 (.ops [mv 44 (t 0),
 mv 45 (t 10),
 mv 46 (t 11),
 mv 47 (t 12),
 ca 48 F.zfe [(t 44),(t 45),(t 46),(t 47),(t 9)],
 mv 11 (t 48)] []))
 (.skip)))
 (.seq (.ops [l1 49 (t 9)] [])
 (.block 0 (.seq (.ops [o 52 (.ibin .eql (t 49) (k 0)),
 mv 51 (t 52)] [])
 (.cond (t 51)
 (.seq (.ops [mv 53 (t 11),
 mv 6 (t 53),
 mv 7 (k 1)] [])
 (.ret))
 (.seq (.ops [o 55 (.ibin .eql (t 49) (k 12)),
 mv 54 (t 55)] [])
 (.cond (t 54)
  (.seq (.ops [mv 56 (t 11),
  mv 6 (t 56),
  mv 7 (k 2)] [])
  (.ret))
  (.seq (.ops [mv 50 (t 11),
  mv 6 (t 50),
  mv 7 (k 0)] [])
  (.ret))))))))))))))
def zkd:List zd:=[.tmp 6,.tmp 7]
def zjL:RCode:=
 .seq (.ops [mv 8 (t 1),
 mv 6 (t 8)] [])
 (.seq (.ops [mv 9 (t 2),
 o 10 (.ibin .sub (t 9) (k 1)),
 mv 7 (t 10)] [])
 (.block 0 (.loop (.seq (.seq (.ops [mv 11 (t 6),
 mv 12 (t 7),
 o 13 (.ibin .lss (t 11) (t 12))] [])
 (.cond (t 13)
  (.skip)
  (.exit 0)))
 (.block 1 (.seq (.draw (.take (mv 14 (t 0)) (.take (mv 15 (t 6)) (.take (mv 16 (t 0)) (.take (mv 17 (t 7)) (.take (mv 18 (t 0)) (.take (mv 19 (t 7)) (.take (o 20 (.iaddr 1 (t 18) (t 19))) (.take (l1 21 (t 20)) (.take (mv 22 (t 0)) (.take (mv 23 (t 6)) (.take (o 24 (.iaddr 1 (t 22) (t 23))) (.take (l1 25 (t 24)) (.take (o 26 (.iaddr 1 (t 14) (t 15))) (.alt (st 1 (t 26) (t 21)) false
  (.take (o 27 (.iaddr 1 (t 16) (t 17))) (.alt (st 1 (t 27) (t 25)) false
  (.done)
  (.none)))
  (.none))))))))))))))) [])
 (.seq (.ops [mv 28 (t 6),
 ad 29 (t 28) (k 1),
 mv 6 (t 29)] [])
 (.ops [mv 30 (t 7),
 o 31 (.ibin .sub (t 30) (k 1)),
 mv 7 (t 31)] []))))))))
def zjM:List zd:=[]
def zfj:RCode:=
 .seq (.ops [mv 6 (kb false)] [])
 (.seq (.ops [mv 11 (t 1),
 ad 12 (t 11) (k 1),
 mv 7 (t 12)] [])
 (.seq (.seq (.ops [mv 8 (k 0)] [])
 (.block 0 (.loop (.seq (.seq (.ops [mv 13 (t 8),
 o 14 (.ibin .lss (t 13) (k 5))] [])
 (.cond (t 14)
  (.skip)
  (.exit 0)))
 (.seq (.block 1 (.seq (.block 2 (.loop (.seq (.seq (.draw (.take (mv 17 (t 7)) (.take (mv 18 (t 2)) (.take (o 19 (.ibin .lss (t 17) (t 18))) (.take (os 20 (.mov (t 19))) (.take (gt 20 21 (.mov (t 0))) (.take (gt 20 22 (.mov (t 7))) (.take (gt 20 23 (.iaddr 1 (t 21) (t 22))) (.take (gt 20 24 (.load false 1 (t 23))) (.take (gt 20 25 (.mov (t 0))) (.take (gt 20 26 (.mov (t 7))) (.take (gt 20 27 (.ibin .sub (t 26) (k 1))) (.take (gt 20 28 (.iaddr 1 (t 25) (t 27))) (.take (gt 20 29 (.load false 1 (t 28))) (.alt (gt 20 30 (.call (fn F.zC) [(t 24),(t 29)])) false
  (.take (gt 20 31 (.not (t 30))) (.take (o 32 (.pick (t 20) (t 31) (kb false))) (.done)))
  (.none))))))))))))))) [])
  (.cond (t 32)
  (.skip)
  (.exit 2)))
  (.block 3 (.ops [mv 33 (t 7),
  ad 34 (t 33) (k 1),
  mv 7 (t 34)] [])))))
 (.seq (.seq (.ops [mv 35 (t 7),
 mv 36 (t 2),
 o 37 (.ibin .eql (t 35) (t 36))] [])
 (.cond (t 37)
  (.seq (.ops [mv 6 (kb true)] [])
  (.ret))
  (.skip)))
 (.seq (.seq (.ops [mv 38 (t 2),
 mv 39 (t 1),
 o 40 (.ibin .sub (t 38) (t 39)),
 o 41 (.ibin .lss (t 40) (k 50))] [])
 (.cond (t 41)
  (.seq (.ops [mv 6 (kb false)] [])
  (.ret))
  (.skip)))
 (.seq (.draw (.take (mv 42 (t 0)) (.take (mv 43 (t 7)) (.take (mv 44 (t 0)) (.take (mv 45 (t 7)) (.take (o 46 (.ibin .sub (t 45) (k 1))) (.take (mv 47 (t 0)) (.take (mv 48 (t 7)) (.take (o 49 (.ibin .sub (t 48) (k 1))) (.take (o 50 (.iaddr 1 (t 47) (t 49))) (.take (l1 51 (t 50)) (.take (mv 52 (t 0)) (.take (mv 53 (t 7)) (.take (o 54 (.iaddr 1 (t 52) (t 53))) (.take (l1 55 (t 54)) (.take (o 56 (.iaddr 1 (t 42) (t 43))) (.alt (st 1 (t 56) (t 51)) false
  (.take (o 57 (.iaddr 1 (t 44) (t 46))) (.alt (st 1 (t 57) (t 55)) false
  (.done)
  (.none)))
  (.none))))))))))))))))) [])
 (.seq (.seq (.ops [mv 58 (t 7),
 mv 59 (t 1),
 o 60 (.ibin .sub (t 58) (t 59)),
 o 61 (.ibin .geq (t 60) (k 2))] [])
 (.cond (t 61)
  (.seq (.ops [mv 62 (t 7),
  o 63 (.ibin .sub (t 62) (k 1)),
  mv 9 (t 63)] [])
  (.block 4 (.loop (.seq (.seq (.ops [mv 64 (t 9),
  o 65 (.ibin .geq (t 64) (k 1))] [])
  (.cond (t 65)
   (.skip)
   (.exit 4)))
  (.seq (.block 5 (.seq (.seq (.draw (.take (mv 68 (t 0)) (.take (mv 69 (t 9)) (.take (o 70 (.iaddr 1 (t 68) (t 69))) (.take (l1 71 (t 70)) (.take (mv 72 (t 0)) (.take (mv 73 (t 9)) (.take (o 74 (.ibin .sub (t 73) (k 1))) (.take (o 75 (.iaddr 1 (t 72) (t 74))) (.take (l1 76 (t 75)) (.alt (ca 77 F.zC [(t 71),(t 76)]) false
   (.take (o 78 (.not (t 77))) (.done))
   (.none))))))))))) [])
  (.cond (t 78)
   (.exit 4)
   (.skip)))
  (.draw (.take (mv 79 (t 0)) (.take (mv 80 (t 9)) (.take (mv 81 (t 0)) (.take (mv 82 (t 9)) (.take (o 83 (.ibin .sub (t 82) (k 1))) (.take (mv 84 (t 0)) (.take (mv 85 (t 9)) (.take (o 86 (.ibin .sub (t 85) (k 1))) (.take (o 87 (.iaddr 1 (t 84) (t 86))) (.take (l1 88 (t 87)) (.take (mv 89 (t 0)) (.take (mv 90 (t 9)) (.take (o 91 (.iaddr 1 (t 89) (t 90))) (.take (l1 92 (t 91)) (.take (o 93 (.iaddr 1 (t 79) (t 80))) (.alt (st 1 (t 93) (t 88)) false
   (.take (o 94 (.iaddr 1 (t 81) (t 83))) (.alt (st 1 (t 94) (t 92)) false
   (.done)
   (.none)))
   (.none))))))))))))))))) [])))
  (.ops [mv 66 (t 9),
  o 67 (.ibin .sub (t 66) (k 1)),
  mv 9 (t 67)] []))))))
  (.skip)))
 (.seq (.ops [mv 95 (t 2),
 mv 96 (t 7),
 o 97 (.ibin .sub (t 95) (t 96)),
 o 98 (.ibin .geq (t 97) (k 2))] [])
 (.cond (t 98)
  (.seq (.ops [mv 99 (t 7),
  ad 100 (t 99) (k 1),
  mv 10 (t 100)] [])
  (.block 6 (.loop (.seq (.seq (.ops [mv 101 (t 10),
  mv 102 (t 2),
  o 103 (.ibin .lss (t 101) (t 102))] [])
  (.cond (t 103)
   (.skip)
   (.exit 6)))
  (.seq (.block 7 (.seq (.seq (.draw (.take (mv 106 (t 0)) (.take (mv 107 (t 10)) (.take (o 108 (.iaddr 1 (t 106) (t 107))) (.take (l1 109 (t 108)) (.take (mv 110 (t 0)) (.take (mv 111 (t 10)) (.take (o 112 (.ibin .sub (t 111) (k 1))) (.take (o 113 (.iaddr 1 (t 110) (t 112))) (.take (l1 114 (t 113)) (.alt (ca 115 F.zC [(t 109),(t 114)]) false
   (.take (o 116 (.not (t 115))) (.done))
   (.none))))))))))) [])
  (.cond (t 116)
   (.exit 6)
   (.skip)))
  (.draw (.take (mv 117 (t 0)) (.take (mv 118 (t 10)) (.take (mv 119 (t 0)) (.take (mv 120 (t 10)) (.take (o 121 (.ibin .sub (t 120) (k 1))) (.take (mv 122 (t 0)) (.take (mv 123 (t 10)) (.take (o 124 (.ibin .sub (t 123) (k 1))) (.take (o 125 (.iaddr 1 (t 122) (t 124))) (.take (l1 126 (t 125)) (.take (mv 127 (t 0)) (.take (mv 128 (t 10)) (.take (o 129 (.iaddr 1 (t 127) (t 128))) (.take (l1 130 (t 129)) (.take (o 131 (.iaddr 1 (t 117) (t 118))) (.alt (st 1 (t 131) (t 126)) false
   (.take (o 132 (.iaddr 1 (t 119) (t 121))) (.alt (st 1 (t 132) (t 130)) false
   (.done)
   (.none)))
   (.none))))))))))))))))) [])))
  (.ops [mv 104 (t 10),
  ad 105 (t 104) (k 1),
  mv 10 (t 105)] []))))))
  (.skip)))))))))
 (.ops [mv 15 (t 8),
 ad 16 (t 15) (k 1),
 mv 8 (t 16)] []))))))
 (.seq (.ops [mv 6 (kb false)] [])
 (.ret))))
def zfk:List zd:=[.tmp 6]
def zvB:RCode:=
 .seq (.ops [mv 4 (kb false)] [])
 (.seq (.ops [mv 5 (t 0),
 ca 6 F.znR [(t 5)],
 os 7 (.mov (t 6)),
 gt 7 8 (.mov (t 1)),
 gt 7 9 (.call (fn F.znR) [(t 8)]),
 gt 7 10 (.not (t 9)),
 o 11 (.pick (t 7) (t 10) (kb false)),
 os 12 (.mov (t 11)),
 gf 12 13 (.mov (t 0)),
 gf 12 14 (.mov (t 1)),
 gf 12 15 (.strE .lss (t 13) (t 14)),
 o 16 (.pick (t 12) (kb true) (t 15)),
 mv 4 (t 16)] [])
 (.ret))
def zvC:List zd:=[.tmp 4]
def zix:RCode:=
 .seq (.ops [mv 8 (k 0)] [])
 (.seq (.draw (.take (mv 11 (t 0)) (.take (mv 12 (t 1)) (.take (mv 13 (t 0)) (.take (mv 14 (t 3)) (.take (mv 15 (t 0)) (.take (mv 16 (t 3)) (.take (o 17 (.iaddr 1 (t 15) (t 16))) (.take (l1 18 (t 17)) (.take (mv 19 (t 0)) (.take (mv 20 (t 1)) (.take (o 21 (.iaddr 1 (t 19) (t 20))) (.take (l1 22 (t 21)) (.take (o 23 (.iaddr 1 (t 11) (t 12))) (.alt (st 1 (t 23) (t 18)) false
 (.take (o 24 (.iaddr 1 (t 13) (t 14))) (.alt (st 1 (t 24) (t 22)) false
  (.done)
  (.none)))
 (.none))))))))))))))) [])
 (.seq (.ops [mv 25 (t 1),
 ad 26 (t 25) (k 1),
 mv 27 (t 2),
 o 28 (.ibin .sub (t 27) (k 1)),
 mv 9 (t 26),
 mv 10 (t 28)] [])
 (.seq (.block 0 (.loop (.block 1 (.seq (.block 2 (.loop (.seq (.seq (.draw (.take (mv 29 (t 9)) (.take (mv 30 (t 10)) (.take (o 31 (.ibin .leq (t 29) (t 30))) (.take (os 32 (.mov (t 31))) (.take (gt 32 33 (.mov (t 0))) (.take (gt 32 34 (.mov (t 1))) (.take (gt 32 35 (.iaddr 1 (t 33) (t 34))) (.take (gt 32 36 (.load false 1 (t 35))) (.take (gt 32 37 (.mov (t 0))) (.take (gt 32 38 (.mov (t 9))) (.take (gt 32 39 (.iaddr 1 (t 37) (t 38))) (.take (gt 32 40 (.load false 1 (t 39))) (.alt (gt 32 41 (.call (fn F.zC) [(t 36),(t 40)])) false
  (.take (gt 32 42 (.not (t 41))) (.take (o 43 (.pick (t 32) (t 42) (kb false))) (.done)))
  (.none)))))))))))))) [])
  (.cond (t 43)
  (.skip)
  (.exit 2)))
  (.block 3 (.ops [mv 44 (t 9),
  ad 45 (t 44) (k 1),
  mv 9 (t 45)] [])))))
 (.seq (.block 4 (.loop (.seq (.seq (.draw (.take (mv 46 (t 9)) (.take (mv 47 (t 10)) (.take (o 48 (.ibin .leq (t 46) (t 47))) (.take (os 49 (.mov (t 48))) (.take (gt 49 50 (.mov (t 0))) (.take (gt 49 51 (.mov (t 1))) (.take (gt 49 52 (.iaddr 1 (t 50) (t 51))) (.take (gt 49 53 (.load false 1 (t 52))) (.take (gt 49 54 (.mov (t 0))) (.take (gt 49 55 (.mov (t 10))) (.take (gt 49 56 (.iaddr 1 (t 54) (t 55))) (.take (gt 49 57 (.load false 1 (t 56))) (.alt (gt 49 58 (.call (fn F.zC) [(t 53),(t 57)])) false
  (.take (o 59 (.pick (t 49) (t 58) (kb false))) (.done))
  (.none)))))))))))))) [])
  (.cond (t 59)
  (.skip)
  (.exit 4)))
  (.block 5 (.ops [mv 60 (t 10),
  o 61 (.ibin .sub (t 60) (k 1)),
  mv 10 (t 61)] [])))))
 (.seq (.seq (.ops [mv 62 (t 9),
 mv 63 (t 10),
 o 64 (.ibin .gtr (t 62) (t 63))] [])
 (.cond (t 64)
  (.exit 0)
  (.skip)))
 (.seq (.draw (.take (mv 65 (t 0)) (.take (mv 66 (t 9)) (.take (mv 67 (t 0)) (.take (mv 68 (t 10)) (.take (mv 69 (t 0)) (.take (mv 70 (t 10)) (.take (o 71 (.iaddr 1 (t 69) (t 70))) (.take (l1 72 (t 71)) (.take (mv 73 (t 0)) (.take (mv 74 (t 9)) (.take (o 75 (.iaddr 1 (t 73) (t 74))) (.take (l1 76 (t 75)) (.take (o 77 (.iaddr 1 (t 65) (t 66))) (.alt (st 1 (t 77) (t 72)) false
  (.take (o 78 (.iaddr 1 (t 67) (t 68))) (.alt (st 1 (t 78) (t 76)) false
  (.done)
  (.none)))
  (.none))))))))))))))) [])
 (.seq (.ops [mv 79 (t 9),
 ad 80 (t 79) (k 1),
 mv 9 (t 80)] [])
 (.ops [mv 81 (t 10),
 o 82 (.ibin .sub (t 81) (k 1)),
 mv 10 (t 82)] [])))))))))
 (.seq (.ops [mv 83 (t 9),
 mv 8 (t 83)] [])
 (.ret)))))
def ziy:List zd:=[.tmp 8]
def zlr:RCode:=
 .seq (.ops [mv 8 (k 0),
 mv 9 (kb false)] [])
 (.seq (.draw (.take (mv 12 (t 0)) (.take (mv 13 (t 1)) (.take (mv 14 (t 0)) (.take (mv 15 (t 3)) (.take (mv 16 (t 0)) (.take (mv 17 (t 3)) (.take (o 18 (.iaddr 1 (t 16) (t 17))) (.take (l1 19 (t 18)) (.take (mv 20 (t 0)) (.take (mv 21 (t 1)) (.take (o 22 (.iaddr 1 (t 20) (t 21))) (.take (l1 23 (t 22)) (.take (o 24 (.iaddr 1 (t 12) (t 13))) (.alt (st 1 (t 24) (t 19)) false
 (.take (o 25 (.iaddr 1 (t 14) (t 15))) (.alt (st 1 (t 25) (t 23)) false
  (.done)
  (.none)))
 (.none))))))))))))))) [])
 (.seq (.ops [mv 26 (t 1),
 ad 27 (t 26) (k 1),
 mv 28 (t 2),
 o 29 (.ibin .sub (t 28) (k 1)),
 mv 10 (t 27),
 mv 11 (t 29)] [])
 (.seq (.block 0 (.loop (.seq (.seq (.draw (.take (mv 30 (t 10)) (.take (mv 31 (t 11)) (.take (o 32 (.ibin .leq (t 30) (t 31))) (.take (os 33 (.mov (t 32))) (.take (gt 33 34 (.mov (t 0))) (.take (gt 33 35 (.mov (t 10))) (.take (gt 33 36 (.iaddr 1 (t 34) (t 35))) (.take (gt 33 37 (.load false 1 (t 36))) (.take (gt 33 38 (.mov (t 0))) (.take (gt 33 39 (.mov (t 1))) (.take (gt 33 40 (.iaddr 1 (t 38) (t 39))) (.take (gt 33 41 (.load false 1 (t 40))) (.alt (gt 33 42 (.call (fn F.zC) [(t 37),(t 41)])) false
  (.take (o 43 (.pick (t 33) (t 42) (kb false))) (.done))
  (.none)))))))))))))) [])
 (.cond (t 43)
  (.skip)
  (.exit 0)))
 (.block 1 (.ops [mv 44 (t 10),
 ad 45 (t 44) (k 1),
 mv 10 (t 45)] [])))))
 (.seq (.block 2 (.loop (.seq (.seq (.draw (.take (mv 46 (t 10)) (.take (mv 47 (t 11)) (.take (o 48 (.ibin .leq (t 46) (t 47))) (.take (os 49 (.mov (t 48))) (.take (gt 49 50 (.mov (t 0))) (.take (gt 49 51 (.mov (t 11))) (.take (gt 49 52 (.iaddr 1 (t 50) (t 51))) (.take (gt 49 53 (.load false 1 (t 52))) (.take (gt 49 54 (.mov (t 0))) (.take (gt 49 55 (.mov (t 1))) (.take (gt 49 56 (.iaddr 1 (t 54) (t 55))) (.take (gt 49 57 (.load false 1 (t 56))) (.alt (gt 49 58 (.call (fn F.zC) [(t 53),(t 57)])) false
  (.take (gt 49 59 (.not (t 58))) (.take (o 60 (.pick (t 49) (t 59) (kb false))) (.done)))
  (.none)))))))))))))) [])
 (.cond (t 60)
  (.skip)
  (.exit 2)))
 (.block 3 (.ops [mv 61 (t 11),
 o 62 (.ibin .sub (t 61) (k 1)),
 mv 11 (t 62)] [])))))
 (.seq (.seq (.ops [mv 63 (t 10),
 mv 64 (t 11),
 o 65 (.ibin .gtr (t 63) (t 64))] [])
 (.cond (t 65)
 (.seq (.draw (.take (mv 66 (t 0)) (.take (mv 67 (t 11)) (.take (mv 68 (t 0)) (.take (mv 69 (t 1)) (.take (mv 70 (t 0)) (.take (mv 71 (t 1)) (.take (o 72 (.iaddr 1 (t 70) (t 71))) (.take (l1 73 (t 72)) (.take (mv 74 (t 0)) (.take (mv 75 (t 11)) (.take (o 76 (.iaddr 1 (t 74) (t 75))) (.take (l1 77 (t 76)) (.take (o 78 (.iaddr 1 (t 66) (t 67))) (.alt (st 1 (t 78) (t 73)) false
  (.take (o 79 (.iaddr 1 (t 68) (t 69))) (.alt (st 1 (t 79) (t 77)) false
  (.done)
  (.none)))
  (.none))))))))))))))) [])
 (.seq (.ops [mv 80 (t 11),
 mv 8 (t 80),
 mv 9 (kb true)] [])
 (.ret)))
 (.skip)))
 (.seq (.draw (.take (mv 81 (t 0)) (.take (mv 82 (t 10)) (.take (mv 83 (t 0)) (.take (mv 84 (t 11)) (.take (mv 85 (t 0)) (.take (mv 86 (t 11)) (.take (o 87 (.iaddr 1 (t 85) (t 86))) (.take (l1 88 (t 87)) (.take (mv 89 (t 0)) (.take (mv 90 (t 10)) (.take (o 91 (.iaddr 1 (t 89) (t 90))) (.take (l1 92 (t 91)) (.take (o 93 (.iaddr 1 (t 81) (t 82))) (.alt (st 1 (t 93) (t 88)) false
 (.take (o 94 (.iaddr 1 (t 83) (t 84))) (.alt (st 1 (t 94) (t 92)) false
  (.done)
  (.none)))
 (.none))))))))))))))) [])
 (.seq (.ops [mv 95 (t 10),
 ad 96 (t 95) (k 1),
 mv 10 (t 96)] [])
 (.seq (.ops [mv 97 (t 11),
 o 98 (.ibin .sub (t 97) (k 1)),
 mv 11 (t 98)] [])
 (.seq (.block 4 (.loop (.block 5 (.seq (.block 6 (.loop (.seq (.seq (.draw (.take (mv 99 (t 10)) (.take (mv 100 (t 11)) (.take (o 101 (.ibin .leq (t 99) (t 100))) (.take (os 102 (.mov (t 101))) (.take (gt 102 103 (.mov (t 0))) (.take (gt 102 104 (.mov (t 10))) (.take (gt 102 105 (.iaddr 1 (t 103) (t 104))) (.take (gt 102 106 (.load false 1 (t 105))) (.take (gt 102 107 (.mov (t 0))) (.take (gt 102 108 (.mov (t 1))) (.take (gt 102 109 (.iaddr 1 (t 107) (t 108))) (.take (gt 102 110 (.load false 1 (t 109))) (.alt (gt 102 111 (.call (fn F.zC) [(t 106),(t 110)])) false
  (.take (o 112 (.pick (t 102) (t 111) (kb false))) (.done))
  (.none)))))))))))))) [])
  (.cond (t 112)
  (.skip)
  (.exit 6)))
  (.block 7 (.ops [mv 113 (t 10),
  ad 114 (t 113) (k 1),
  mv 10 (t 114)] [])))))
 (.seq (.block 8 (.loop (.seq (.seq (.draw (.take (mv 115 (t 10)) (.take (mv 116 (t 11)) (.take (o 117 (.ibin .leq (t 115) (t 116))) (.take (os 118 (.mov (t 117))) (.take (gt 118 119 (.mov (t 0))) (.take (gt 118 120 (.mov (t 11))) (.take (gt 118 121 (.iaddr 1 (t 119) (t 120))) (.take (gt 118 122 (.load false 1 (t 121))) (.take (gt 118 123 (.mov (t 0))) (.take (gt 118 124 (.mov (t 1))) (.take (gt 118 125 (.iaddr 1 (t 123) (t 124))) (.take (gt 118 126 (.load false 1 (t 125))) (.alt (gt 118 127 (.call (fn F.zC) [(t 122),(t 126)])) false
  (.take (gt 118 128 (.not (t 127))) (.take (o 129 (.pick (t 118) (t 128) (kb false))) (.done)))
  (.none)))))))))))))) [])
  (.cond (t 129)
  (.skip)
  (.exit 8)))
  (.block 9 (.ops [mv 130 (t 11),
  o 131 (.ibin .sub (t 130) (k 1)),
  mv 11 (t 131)] [])))))
 (.seq (.seq (.ops [mv 132 (t 10),
 mv 133 (t 11),
 o 134 (.ibin .gtr (t 132) (t 133))] [])
 (.cond (t 134)
  (.exit 4)
  (.skip)))
 (.seq (.draw (.take (mv 135 (t 0)) (.take (mv 136 (t 10)) (.take (mv 137 (t 0)) (.take (mv 138 (t 11)) (.take (mv 139 (t 0)) (.take (mv 140 (t 11)) (.take (o 141 (.iaddr 1 (t 139) (t 140))) (.take (l1 142 (t 141)) (.take (mv 143 (t 0)) (.take (mv 144 (t 10)) (.take (o 145 (.iaddr 1 (t 143) (t 144))) (.take (l1 146 (t 145)) (.take (o 147 (.iaddr 1 (t 135) (t 136))) (.alt (st 1 (t 147) (t 142)) false
  (.take (o 148 (.iaddr 1 (t 137) (t 138))) (.alt (st 1 (t 148) (t 146)) false
  (.done)
  (.none)))
  (.none))))))))))))))) [])
 (.seq (.ops [mv 149 (t 10),
 ad 150 (t 149) (k 1),
 mv 10 (t 150)] [])
 (.ops [mv 151 (t 11),
 o 152 (.ibin .sub (t 151) (k 1)),
 mv 11 (t 152)] [])))))))))
 (.seq (.draw (.take (mv 153 (t 0)) (.take (mv 154 (t 11)) (.take (mv 155 (t 0)) (.take (mv 156 (t 1)) (.take (mv 157 (t 0)) (.take (mv 158 (t 1)) (.take (o 159 (.iaddr 1 (t 157) (t 158))) (.take (l1 160 (t 159)) (.take (mv 161 (t 0)) (.take (mv 162 (t 11)) (.take (o 163 (.iaddr 1 (t 161) (t 162))) (.take (l1 164 (t 163)) (.take (o 165 (.iaddr 1 (t 153) (t 154))) (.alt (st 1 (t 165) (t 160)) false
 (.take (o 166 (.iaddr 1 (t 155) (t 156))) (.alt (st 1 (t 166) (t 164)) false
  (.done)
  (.none)))
 (.none))))))))))))))) [])
 (.seq (.ops [mv 167 (t 11),
 mv 8 (t 167),
 mv 9 (kb false)] [])
 (.ret))))))))))))
def zls:List zd:=[.tmp 8,.tmp 9]
def zyO:RCode:=
 .seq (.ops [mv 3 (k 0)] [])
 (.block 0 (.loop (.block 1 (.seq (.ops [l1 7 (t 1),
 mv 8 (t 3),
 o 9 (.slx 1 (t 7) (some (t 8)) none),
 ca 10 F.zy7 [(t 9)],
 mv 6 (t 10),
 ex 11 (t 6) 0,
 ex 12 (t 6) 1,
 mv 4 (t 11),
 mv 5 (t 12)] [])
 (.seq (.seq (.ops [mv 13 (t 5),
 o 14 (.ibin .eql (t 13) (k 0)),
 os 15 (.mov (t 14)),
 gf 15 16 (.mov (t 0)),
 gf 15 17 (.mov (t 3)),
 gf 15 18 (.mov (t 4)),
 gf 15 19 (.call (t 16) [(t 17),(t 18)]),
 gf 15 20 (.not (t 19)),
 o 21 (.pick (t 15) (kb true) (t 20))] [])
 (.cond (t 21)
  (.ret)
  (.skip)))
 (.ops [mv 22 (t 3),
 mv 23 (t 5),
 ad 24 (t 22) (t 23),
 mv 3 (t 24)] []))))))
def zyP:List zd:=[]
def zzR:RCode:=
 .seq (.ops [mv 2 (.const sn),
 mv 3 (k 0)] [])
 (.seq (.ops [mv 10 (t 0),
 ca 11 F.zbw [(t 10),(k 0),(k 4)],
 mv 9 (t 11),
 ex 12 (t 9) 0,
 ex 13 (t 9) 1,
 mv 4 (t 12),
 mv 5 (t 13)] [])
 (.seq (.ops [mv 15 (t 0),
 ca 16 F.zbw [(t 15),(k 4),(k 4)],
 mv 14 (t 16),
 ex 17 (t 14) 0,
 ex 18 (t 14) 1,
 mv 6 (t 17),
 mv 7 (t 18)] [])
 (.seq (.seq (.ops [mv 19 (t 5),
 o 20 (.ibin .neq (t 19) (k 0)),
 os 21 (.mov (t 20)),
 gf 21 22 (.mov (t 7)),
 gf 21 23 (.ibin .neq (t 22) (k 0)),
 o 24 (.pick (t 21) (kb true) (t 23)),
 os 25 (.mov (t 24)),
 gf 25 26 (.mov (t 4)),
 gf 25 27 (.ibin .eql (t 26) (.const (.int .u64 0))),
 o 28 (.pick (t 25) (kb true) (t 27)),
 os 29 (.mov (t 28)),
 gf 29 30 (.mov (t 4)),
 gf 29 31 (.ibin .gtr (t 30) (.const (.int .u64 65536))),
 o 32 (.pick (t 29) (kb true) (t 31)),
 os 33 (.mov (t 32)),
 gf 33 34 (.mov (t 0)),
 gf 33 35 (.len (t 34)),
 gf 33 36 (.ibin .sub (t 35) (k 8)),
 gf 33 37 (.conv .u64 (t 36)),
 gf 33 38 (.mov (t 4)),
 gf 33 39 (.ibin .lss (t 37) (t 38)),
 o 40 (.pick (t 33) (kb true) (t 39))] [])
 (.cond (t 40)
 (.seq (.ops [mv 2 (.const sn),
 mv 3 (k 0)] [])
 (.ret))
 (.skip)))
 (.seq (.ops [mv 41 (t 0),
 mv 42 (t 4),
 o 43 (.conv .i64 (t 42)),
 ad 44 (k 8) (t 43),
 o 45 (.slx 1 (t 41) (some (k 8)) (some (t 44))),
 mv 8 (t 45)] [])
 (.seq (.seq (.ops [mv 46 (t 0),
 o 47 (.slx 1 (t 46) none (some (k 4))),
 mv 48 (t 8),
 o 49 (.mkSl false 30 2 [sn,sn] [(0,1,(t 47)),(1,1,(t 48))]),
 ca 50 F.zlx [(t 49)],
 o 51 (.conv .u64 (t 50)),
 mv 52 (t 6),
 o 53 (.ibin .neq (t 51) (t 52))] [])
 (.cond (t 53)
 (.seq (.ops [mv 2 (.const sn),
 mv 3 (k 0)] [])
 (.ret))
 (.skip)))
 (.seq (.ops [o 54 (.mkSl false 5 0 [] []),
 mv 55 (t 8),
 o 56 (.app 5 1 1 [(u 0)] (t 54) (t 55)),
 mv 57 (t 4),
 o 58 (.conv .i64 (t 57)),
 ad 59 (k 8) (t 58),
 mv 2 (t 56),
 mv 3 (t 59)] [])
 (.ret)))))))
def zzS:List zd:=[.tmp 2,.tmp 3]
def zmP:RCode:=
 .seq (.ops [mv 10 (k 0),
 mv 11 (k 0)] [])
 (.seq (.seq (.draw (.take (mv 12 (t 4)) (.take (mv 13 (t 0)) (.take (mv 14 (t 2)) (.take (o 15 (.iaddr 4 (t 13) (t 14))) (.take (la 16 4 (t 15)) (.take (mv 17 (t 0)) (.take (mv 18 (t 1)) (.take (o 19 (.iaddr 4 (t 17) (t 18))) (.take (la 20 4 (t 19)) (.alt (o 21 (.call (t 12) [(t 16),(t 20)])) false
 (.take (o 22 (.ibin .lss (t 21) (k 0))) (.done))
 (.none))))))))))) [])
 (.cond (t 22)
 (.seq (.ops [mv 23 (t 3),
 o 24 (.nilck (t 23)),
 l1 25 (t 24),
 ad 26 (t 25) (k 1),
 o 27 (.nilck (t 23)),
 st 1 (t 27) (t 26)] [])
 (.seq (.ops [mv 28 (t 2),
 mv 29 (t 1),
 mv 10 (t 28),
 mv 11 (t 29)] [])
 (.ret)))
 (.skip)))
 (.seq (.ops [mv 30 (t 1),
 mv 31 (t 2),
 mv 10 (t 30),
 mv 11 (t 31)] [])
 (.ret)))
def zmQ:List zd:=[.tmp 10,.tmp 11]
def zke:RCode:=
 .seq (.ops [mv 10 (k 0),
 mv 11 (k 0)] [])
 (.seq (.seq (.draw (.take (mv 12 (t 4)) (.take (mv 13 (t 0)) (.take (mv 14 (t 2)) (.take (o 15 (.iaddr 6 (t 13) (t 14))) (.take (la 16 6 (t 15)) (.take (mv 17 (t 0)) (.take (mv 18 (t 1)) (.take (o 19 (.iaddr 6 (t 17) (t 18))) (.take (la 20 6 (t 19)) (.alt (o 21 (.call (t 12) [(t 16),(t 20)])) false
 (.take (o 22 (.ibin .lss (t 21) (k 0))) (.done))
 (.none))))))))))) [])
 (.cond (t 22)
 (.seq (.ops [mv 23 (t 3),
 o 24 (.nilck (t 23)),
 l1 25 (t 24),
 ad 26 (t 25) (k 1),
 o 27 (.nilck (t 23)),
 st 1 (t 27) (t 26)] [])
 (.seq (.ops [mv 28 (t 2),
 mv 29 (t 1),
 mv 10 (t 28),
 mv 11 (t 29)] [])
 (.ret)))
 (.skip)))
 (.seq (.ops [mv 30 (t 1),
 mv 31 (t 2),
 mv 10 (t 30),
 mv 11 (t 31)] [])
 (.ret)))
def zkf:List zd:=[.tmp 10,.tmp 11]
def zlT:RCode:=
 .seq (.ops [mv 10 (k 0),
 mv 11 (k 0)] [])
 (.seq (.seq (.draw (.take (mv 12 (t 4)) (.take (mv 13 (t 0)) (.take (mv 14 (t 2)) (.take (o 15 (.iaddr 4 (t 13) (t 14))) (.take (la 16 4 (t 15)) (.take (mv 17 (t 0)) (.take (mv 18 (t 1)) (.take (o 19 (.iaddr 4 (t 17) (t 18))) (.take (la 20 4 (t 19)) (.alt (o 21 (.call (t 12) [(t 16),(t 20)])) false
 (.take (o 22 (.ibin .lss (t 21) (k 0))) (.done))
 (.none))))))))))) [])
 (.cond (t 22)
 (.seq (.ops [mv 23 (t 3),
 o 24 (.nilck (t 23)),
 l1 25 (t 24),
 ad 26 (t 25) (k 1),
 o 27 (.nilck (t 23)),
 st 1 (t 27) (t 26)] [])
 (.seq (.ops [mv 28 (t 2),
 mv 29 (t 1),
 mv 10 (t 28),
 mv 11 (t 29)] [])
 (.ret)))
 (.skip)))
 (.seq (.ops [mv 30 (t 1),
 mv 31 (t 2),
 mv 10 (t 30),
 mv 11 (t 31)] [])
 (.ret)))
def zlU:List zd:=[.tmp 10,.tmp 11]
def zlV:RCode:=
 .seq (.ops [mv 10 (t 1),
 mv 8 (t 10)] [])
 (.block 0 (.loop (.block 1 (.seq (.ops [mv 11 (t 8),
 o 12 (.ibin .mul (k 2) (t 11)),
 ad 13 (t 12) (k 1),
 mv 9 (t 13)] [])
 (.seq (.seq (.ops [mv 14 (t 9),
 mv 15 (t 2),
 o 16 (.ibin .geq (t 14) (t 15))] [])
 (.cond (t 16)
  (.exit 0)
  (.skip)))
 (.seq (.seq (.draw (.take (mv 17 (t 9)) (.take (ad 18 (t 17) (k 1)) (.take (mv 19 (t 2)) (.take (o 20 (.ibin .lss (t 18) (t 19))) (.take (os 21 (.mov (t 20))) (.take (gt 21 22 (.mov (t 0))) (.take (gt 21 23 (.mov (t 3))) (.take (gt 21 24 (.mov (t 9))) (.take (gt 21 25 (.ibin .add (t 23) (t 24))) (.take (gt 21 26 (.iaddr 1 (t 22) (t 25))) (.take (gt 21 27 (.load false 1 (t 26))) (.take (gt 21 28 (.mov (t 0))) (.take (gt 21 29 (.mov (t 3))) (.take (gt 21 30 (.mov (t 9))) (.take (gt 21 31 (.ibin .add (t 29) (t 30))) (.take (gt 21 32 (.ibin .add (t 31) (k 1))) (.take (gt 21 33 (.iaddr 1 (t 28) (t 32))) (.take (gt 21 34 (.load false 1 (t 33))) (.alt (gt 21 35 (.call (fn F.zC) [(t 27),(t 34)])) false
  (.take (o 36 (.pick (t 21) (t 35) (kb false))) (.done))
  (.none)))))))))))))))))))) [])
 (.cond (t 36)
  (.ops [mv 37 (t 9),
  ad 38 (t 37) (k 1),
  mv 9 (t 38)] [])
  (.skip)))
 (.seq (.seq (.draw (.take (mv 39 (t 0)) (.take (mv 40 (t 3)) (.take (mv 41 (t 8)) (.take (ad 42 (t 40) (t 41)) (.take (o 43 (.iaddr 1 (t 39) (t 42))) (.take (l1 44 (t 43)) (.take (mv 45 (t 0)) (.take (mv 46 (t 3)) (.take (mv 47 (t 9)) (.take (ad 48 (t 46) (t 47)) (.take (o 49 (.iaddr 1 (t 45) (t 48))) (.take (l1 50 (t 49)) (.alt (ca 51 F.zC [(t 44),(t 50)]) false
  (.take (o 52 (.not (t 51))) (.done))
  (.none)))))))))))))) [])
 (.cond (t 52)
  (.ret)
  (.skip)))
 (.seq (.draw (.take (mv 53 (t 0)) (.take (mv 54 (t 3)) (.take (mv 55 (t 8)) (.take (ad 56 (t 54) (t 55)) (.take (mv 57 (t 0)) (.take (mv 58 (t 3)) (.take (mv 59 (t 9)) (.take (ad 60 (t 58) (t 59)) (.take (mv 61 (t 0)) (.take (mv 62 (t 3)) (.take (mv 63 (t 9)) (.take (ad 64 (t 62) (t 63)) (.take (o 65 (.iaddr 1 (t 61) (t 64))) (.take (l1 66 (t 65)) (.take (mv 67 (t 0)) (.take (mv 68 (t 3)) (.take (mv 69 (t 8)) (.take (ad 70 (t 68) (t 69)) (.take (o 71 (.iaddr 1 (t 67) (t 70))) (.take (l1 72 (t 71)) (.take (o 73 (.iaddr 1 (t 53) (t 56))) (.alt (st 1 (t 73) (t 66)) false
  (.take (o 74 (.iaddr 1 (t 57) (t 60))) (.alt (st 1 (t 74) (t 72)) false
  (.done)
  (.none)))
  (.none))))))))))))))))))))))) [])
 (.ops [mv 75 (t 9),
 mv 8 (t 75)] [])))))))))
def zlW:List zd:=[]
def ziz:RCode:=
 .seq (.ops [mv 6 (k 0)] [])
 (.seq (.ops [mv 7 (t 0),
 mv 8 (t 1),
 o 9 (.ibin .sub (t 8) (k 1)),
 mv 10 (t 1),
 mv 11 (t 1),
 ad 12 (t 11) (k 1),
 mv 13 (t 2),
 ca 14 F.zfe [(t 7),(t 9),(t 10),(t 12),(t 13)],
 mv 6 (t 14)] [])
 (.ret))
def ziA:List zd:=[.tmp 6]
def zmR:RCode:=
 .seq (.ops [mv 10 (k 0)] [])
 (.seq (.ops [mv 12 (t 0),
 mv 13 (t 1),
 mv 14 (t 2),
 mv 15 (t 4),
 ca 16 F.zbL [(t 12),(t 13),(t 14),(t 15)],
 mv 11 (t 16),
 ex 17 (t 11) 0,
 ex 18 (t 11) 1,
 mv 1 (t 17),
 mv 2 (t 18)] [])
 (.seq (.ops [mv 20 (t 0),
 mv 21 (t 2),
 mv 22 (t 3),
 mv 23 (t 4),
 ca 24 F.zbL [(t 20),(t 21),(t 22),(t 23)],
 mv 19 (t 24),
 ex 25 (t 19) 0,
 ex 26 (t 19) 1,
 mv 2 (t 25),
 mv 3 (t 26)] [])
 (.seq (.ops [mv 28 (t 0),
 mv 29 (t 1),
 mv 30 (t 2),
 mv 31 (t 4),
 ca 32 F.zbL [(t 28),(t 29),(t 30),(t 31)],
 mv 27 (t 32),
 ex 33 (t 27) 0,
 ex 34 (t 27) 1,
 mv 1 (t 33),
 mv 2 (t 34)] [])
 (.seq (.ops [mv 35 (t 2),
 mv 10 (t 35)] [])
 (.ret)))))
def zmS:List zd:=[.tmp 10]
def zuv:RCode:=
 .seq (.ops [mv 2 (kb false)] [])
 (.seq (.ops [mv 3 (t 0),
 mv 4 (t 0),
 o 5 (.strE .neq (t 3) (t 4)),
 mv 2 (t 5)] [])
 (.ret))
def zuw:List zd:=[.tmp 2]
def zmT:RCode:=
 .seq (.ops [mv 8 (k 0),
 mv 9 (k 0)] [])
 (.seq (.seq (.draw (.take (mv 10 (t 0)) (.take (mv 11 (t 2)) (.take (o 12 (.iaddr 1 (t 10) (t 11))) (.take (l1 13 (t 12)) (.take (mv 14 (t 0)) (.take (mv 15 (t 1)) (.take (o 16 (.iaddr 1 (t 14) (t 15))) (.take (l1 17 (t 16)) (.alt (ca 18 F.zC [(t 13),(t 17)]) false
 (.done)
 (.none)))))))))) [])
 (.cond (t 18)
 (.seq (.ops [mv 19 (t 3),
 o 20 (.nilck (t 19)),
 l1 21 (t 20),
 ad 22 (t 21) (k 1),
 o 23 (.nilck (t 19)),
 st 1 (t 23) (t 22)] [])
 (.seq (.ops [mv 24 (t 2),
 mv 25 (t 1),
 mv 8 (t 24),
 mv 9 (t 25)] [])
 (.ret)))
 (.skip)))
 (.seq (.ops [mv 26 (t 1),
 mv 27 (t 2),
 mv 8 (t 26),
 mv 9 (t 27)] [])
 (.ret)))
def zmU:List zd:=[.tmp 8,.tmp 9]
end Go.Proofs.YtdogcflaekkdkaaGreat
