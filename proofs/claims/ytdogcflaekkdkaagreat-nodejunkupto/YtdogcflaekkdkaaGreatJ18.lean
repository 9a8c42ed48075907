/- Part of this proof;laid by program. -/
import Derived.Test.YtdogcflaekkdkaaGreatJ6
set_option linter.unusedVariables false
set_option linter.unusedSimpArgs false
namespace Go.Proofs.YtdogcflaekkdkaaGreat
open Go.Vm Go.Vm.S
def zsd:RCode:=
 .seq (.ops [o 1 (.box 25 (t 0)),
 mv 2 (kb false)] [])
 (.seq (.draw (.take (la 3 10 (t 1)) (.take (la 5 10 (t 1)) (.alt (ca 4 F.zl5 [(t 3)]) true
 (.alt (ca 6 F.zAr [(t 5)]) false
  (.take (o 7 (.ibin .eql (t 4) (t 6))) (.take (os 8 (.mov (t 7))) (.alt (gt 8 9 (.call (fn F.za0) [])) false
  (.take (o 10 (.pick (t 8) (t 9) (kb false))) (.take (mv 2 (t 10)) (.done)))
  (.none))))
  (.none))
 (.none)))) [])
 (.ret))
def zse:List zd:=[.tmp 2]
def zwI:RCode:=
 .seq (.ops [mv 4 (kb false)] [])
 (.seq (.ops [ca 14 F.zc0 [],
 ca 15 F.zf0 [(t 14)],
 mv 13 (t 15),
 ex 16 (t 13) 0,
 ex 17 (t 13) 1,
 ex 18 (t 13) 2,
 mv 5 (t 16),
 mv 6 (t 17),
 mv 7 (t 18)] [])
 (.seq (.seq (.ops [mv 19 (t 7),
 o 20 (.not (t 19))] [])
 (.cond (t 20)
 (.seq (.ops [mv 4 (kb false)] [])
 (.ret))
 (.skip)))
 (.seq (.ops [mv 21 (t 5),
 mv 22 (t 6),
 ca 23 F.zdt [(t 21),(t 22),(k 6)]] [])
 (.seq (.ops [mv 24 (t 5),
 o 25 (.mkSl false 5 1 [(u 0)] [(0,1,(.const (u 120)))]),
 o 26 (.strish (t 25)),
 ca 27 F.zaV [(t 24),(k 1),(t 26)]] [])
 (.seq (.ops [mv 28 (t 5),
 ca 29 F.zZ [(t 28),(k 1)]] [])
 (.seq (.ops [o 31 (.build [(.bool false),sn,(i 0),(i 0),(i 0),(i 0),(i 0)] []),
 mv 32 (t 0),
 ca 33 F.zl6 [(t 31),(t 32)],
 mv 30 (t 33),
 ex 34 (t 30) 0,
 ex 35 (t 30) 1,
 o 8 (.alloc 44 [(.bool false),sn,(i 0),(i 0),(i 0),(i 0),(i 0)]),
 st 7 (t 8) (t 34),
 mv 9 (t 35)] [])
 (.seq (.seq (.ops [mv 36 (t 9),
 o 37 (.len (t 36)),
 o 38 (.ibin .gtr (t 37) (k 0)),
 os 39 (.mov (t 38)),
 gf 39 40 (.mov (t 0)),
 gf 39 41 (.len (t 40)),
 gf 39 42 (.ibin .gtr (t 41) (k 3000)),
 o 43 (.pick (t 39) (kb true) (t 42))] [])
 (.cond (t 43)
 (.seq (.ops [ca 44 F.za0 [],
 mv 4 (t 44)] [])
 (.ret))
 (.skip)))
 (.seq (.ops [mv 45 (t 5),
 ca 46 F.z6 [(t 45)],
 o 10 (.alloc 52 [(i 0),(i 0),sn,sn,sn]),
 st 5 (t 10) (t 46)] [])
 (.seq (.ops [mv 47 (t 5),
 mv 48 (t 1),
 mv 49 (t 0),
 ca 50 F.zJ [(t 47),(t 48),(t 49)],
 mv 11 (t 50)] [])
 (.seq (.ops [mv 12 (k 0)] [])
 (.seq (.seq (.ops [mv 51 (t 1),
 o 52 (.ibin .neq (t 51) (k 1))] [])
 (.cond (t 52)
 (.ops [mv 12 (k 4)] [])
 (.skip)))
 (.seq (.draw (.take (mv 53 (t 11)) (.take (mv 54 (t 12)) (.take (o 55 (.ibin .eql (t 53) (t 54))) (.take (os 56 (.mov (t 55))) (.take (gt 56 57 (.mov (t 5))) (.take (gt 56 59 (.load true 5 (t 10))) (.alt (gt 56 58 (.call (fn F.z6) [(t 57)])) true
 (.alt (gt 56 60 (.call (fn F.zbI) [(t 58),(t 59)])) false
  (.take (o 61 (.pick (t 56) (t 60) (kb false))) (.take (os 62 (.mov (t 61))) (.take (gt 62 63 (.mov (t 5))) (.alt (gt 62 64 (.call (fn F.zZ) [(t 63),(k 1)])) false
  (.take (gt 62 65 (.len (t 64))) (.take (gt 62 66 (.ibin .eql (t 65) (k 0))) (.take (o 67 (.pick (t 62) (t 66) (kb false))) (.take (os 68 (.mov (t 67))) (.take (gt 68 69 (.mov (t 5))) (.alt (gt 68 70 (.call (fn F.zaq) [(t 69)])) false
   (.take (gt 68 71 (.len (t 70))) (.take (gt 68 72 (.ibin .eql (t 71) (k 0))) (.take (o 73 (.pick (t 68) (t 72) (kb false))) (.take (os 74 (.mov (t 73))) (.take (gt 74 75 (.mov (t 5))) (.alt (gt 74 76 (.call (fn F.zdu) [(t 75),(k 1)])) true
   (.take (o 77 (.pick (t 74) (t 76) (kb false))) (.take (os 78 (.mov (t 77))) (.take (gt 78 79 (.mov (t 5))) (.alt (gt 78 80 (.call (fn F.zcC) [(t 79)])) true
    (.take (gt 78 81 (.ibin .eql (t 80) (k 0))) (.take (o 82 (.pick (t 78) (t 81) (kb false))) (.take (os 83 (.mov (t 82))) (.alt (gt 83 84 (.call (fn F.za0) [])) true
    (.take (o 85 (.pick (t 83) (t 84) (kb false))) (.take (mv 4 (t 85)) (.done)))
    (.none)))))
    (.none)))))
   (.none)))))))
   (.none)))))))
  (.none)))))
  (.none))
 (.none)))))))) [])
 (.ret)))))))))))))
def zwJ:List zd:=[.tmp 4]
def zyj:RCode:=
 .seq (.ops [o 1 (.box 61 (t 0)),
 mv 2 (kb false)] [])
 (.seq (.ops [mv 3 (.const (.pointer none))] [])
 (.seq (.ops [mv 7 (t 3),
 fa 8 1 (t 1),
 l1 9 (t 8),
 fa 10 3 (t 1),
 l1 11 (t 10),
 ca 12 F.zaV [(t 7),(t 9),(t 11)],
 mv 6 (t 12),
 ex 13 (t 6) 0,
 ex 14 (t 6) 1,
 o 4 (.alloc 37 [(i 0),(i 0),(i 0),(i 0)]),
 st 4 (t 4) (t 13),
 mv 5 (t 14)] [])
 (.seq (.ops [la 15 4 (t 4),
 o 16 (.build [(i 0),(i 0),(i 0),(i 0)] []),
 o 17 (.aeq .eql 4 (t 15) (t 16)),
 os 18 (.mov (t 17)),
 gt 18 19 (.mov (t 5)),
 gt 18 20 (.ibin .eql (t 19) (k 7)),
 o 21 (.pick (t 18) (t 20) (kb false)),
 os 22 (.mov (t 21)),
 gt 22 23 (.mov (t 3)),
 gt 22 24 (.call (fn F.zj) [(t 23)]),
 gt 22 25 (.ibin .eql (t 24) (k 7)),
 o 26 (.pick (t 22) (t 25) (kb false)),
 os 27 (.mov (t 26)),
 gt 27 28 (.mov (t 3)),
 gt 27 29 (.faddr 1 (t 1)),
 gt 27 30 (.load false 1 (t 29)),
 gt 27 31 (.faddr 3 (t 1)),
 gt 27 32 (.load false 1 (t 31)),
 gt 27 33 (.call (fn F.zJ) [(t 28),(t 30),(t 32)]),
 gt 27 34 (.ibin .eql (t 33) (k 7)),
 o 35 (.pick (t 27) (t 34) (kb false)),
 os 36 (.mov (t 35)),
 gt 36 37 (.mov (t 3)),
 gt 36 38 (.call (fn F.zsI) [(t 37)]),
 gt 36 39 (.ibin .eql (t 38) (k 7)),
 o 40 (.pick (t 36) (t 39) (kb false)),
 os 41 (.mov (t 40)),
 gt 41 42 (.mov (t 3)),
 gt 41 43 (.faddr 1 (t 1)),
 gt 41 44 (.load false 1 (t 43)),
 gt 41 45 (.faddr 2 (t 1)),
 gt 41 46 (.load false 1 (t 45)),
 gt 41 47 (.call (fn F.zuZ) [(t 42),(t 44),(t 46)]),
 gt 41 48 (.ibin .eql (t 47) (k 7)),
 o 49 (.pick (t 41) (t 48) (kb false)),
 os 50 (.mov (t 49)),
 gt 50 51 (.mov (t 3)),
 gt 50 52 (.faddr 1 (t 1)),
 gt 50 53 (.load false 1 (t 52)),
 gt 50 54 (.call (fn F.zZ) [(t 51),(t 53)]),
 gt 50 55 (.len (t 54)),
 gt 50 56 (.ibin .eql (t 55) (k 0)),
 o 57 (.pick (t 50) (t 56) (kb false)),
 os 58 (.mov (t 57)),
 gt 58 59 (.mov (t 3)),
 gt 58 60 (.call (fn F.zaq) [(t 59)]),
 gt 58 61 (.len (t 60)),
 gt 58 62 (.ibin .eql (t 61) (k 0)),
 o 63 (.pick (t 58) (t 62) (kb false)),
 os 64 (.mov (t 63)),
 gt 64 65 (.mov (t 3)),
 gt 64 66 (.call (fn F.z6) [(t 65)]),
 gt 64 67 (.build [(i 0),(i 0),sn,sn,sn] []),
 gt 64 68 (.call (fn F.zbI) [(t 66),(t 67)]),
 o 69 (.pick (t 64) (t 68) (kb false)),
 os 70 (.mov (t 69)),
 gt 70 71 (.mov (t 3)),
 gt 70 72 (.faddr 1 (t 1)),
 gt 70 73 (.load false 1 (t 72)),
 gt 70 74 (.call (fn F.zdu) [(t 71),(t 73)]),
 gt 70 75 (.not (t 74)),
 o 76 (.pick (t 70) (t 75) (kb false)),
 os 77 (.mov (t 76)),
 gt 77 78 (.mov (t 3)),
 gt 77 79 (.faddr 1 (t 1)),
 gt 77 80 (.load false 1 (t 79)),
 gt 77 81 (.call (fn F.zwj) [(t 78),(t 80)]),
 gt 77 82 (.ibin .eql (t 81) (k 16)),
 o 83 (.pick (t 77) (t 82) (kb false)),
 os 84 (.mov (t 83)),
 gt 84 85 (.mov (t 3)),
 gt 84 86 (.call (fn F.zcC) [(t 85)]),
 gt 84 87 (.ibin .eql (t 86) (k 0)),
 o 88 (.pick (t 84) (t 87) (kb false)),
 os 89 (.mov (t 88)),
 gt 89 90 (.mov (t 3)),
 gt 89 91 (.call (fn F.zwk) [(t 90)]),
 o 92 (.pick (t 89) (t 91) (kb false)),
 os 93 (.mov (t 92)),
 gt 93 94 (.call (fn F.za0) []),
 o 95 (.pick (t 93) (t 94) (kb false)),
 mv 2 (t 95)] [])
 (.ret))))
def zyk:List zd:=[.tmp 2]
def zmm:RCode:=
 .seq (.ops [o 1 (.box 25 (t 0)),
 mv 2 (k 0)] [])
 (.seq (.seq (.ops [fa 6 0 (t 1),
 la 7 3 (t 6),
 ca 8 F.zkk [(k 0),(t 7)],
 mv 5 (t 8),
 ex 9 (t 5) 0,
 ex 10 (t 5) 1,
 mv 3 (t 9),
 mv 4 (t 10)] [])
 (.seq (.ops [mv 11 (t 4),
 o 12 (.ibin .neq (t 11) (k 0))] [])
 (.cond (t 12)
 (.seq (.ops [mv 13 (t 4),
 mv 2 (t 13)] [])
 (.ret))
 (.skip))))
 (.seq (.seq (.ops [fa 14 3 (t 1),
 l1 15 (t 14),
 ca 16 F.zeC [(t 15),(k 1),(k 1048576)],
 o 17 (.not (t 16)),
 os 18 (.mov (t 17)),
 gf 18 19 (.faddr 4 (t 1)),
 gf 18 20 (.load false 1 (t 19)),
 gf 18 21 (.call (fn F.zeC) [(t 20),(k 16),(k 1048576)]),
 gf 18 22 (.not (t 21)),
 o 23 (.pick (t 18) (kb true) (t 22)),
 os 24 (.mov (t 23)),
 gf 24 25 (.faddr 5 (t 1)),
 gf 24 26 (.load false 1 (t 25)),
 gf 24 27 (.call (fn F.zeC) [(t 26),(k 1),(k 63)]),
 gf 24 28 (.not (t 27)),
 o 29 (.pick (t 24) (kb true) (t 28)),
 os 30 (.mov (t 29)),
 gf 30 31 (.faddr 6 (t 1)),
 gf 30 32 (.load false 1 (t 31)),
 gf 30 33 (.call (fn F.zeC) [(t 32),(k 1),(k 64)]),
 gf 30 34 (.not (t 33)),
 o 35 (.pick (t 30) (kb true) (t 34)),
 os 36 (.mov (t 35)),
 gf 36 37 (.faddr 7 (t 1)),
 gf 36 38 (.load false 1 (t 37)),
 gf 36 39 (.call (fn F.zeC) [(t 38),(k 1),(k 64)]),
 gf 36 40 (.not (t 39)),
 o 41 (.pick (t 36) (kb true) (t 40)),
 os 42 (.mov (t 41)),
 gf 42 43 (.faddr 8 (t 1)),
 gf 42 44 (.load false 1 (t 43)),
 gf 42 45 (.call (fn F.zeC) [(t 44),(k 1),(k 64)]),
 gf 42 46 (.not (t 45)),
 o 47 (.pick (t 42) (kb true) (t 46)),
 os 48 (.mov (t 47)),
 gf 48 49 (.faddr 9 (t 1)),
 gf 48 50 (.load false 1 (t 49)),
 gf 48 51 (.call (fn F.zeC) [(t 50),(k 0),(k 64)]),
 gf 48 52 (.not (t 51)),
 o 53 (.pick (t 48) (kb true) (t 52))] [])
 (.cond (t 53)
 (.seq (.ops [mv 2 (k 1)] [])
 (.ret))
 (.skip)))
 (.seq (.ops [mv 2 (k 0)] [])
 (.ret))))
def zmn:List zd:=[.tmp 2]
theorem zAQ {args:List Value} {M:Mem} {R:Value→Mem→Prop} (hn:args.length≤54) (h:zi Tryz.prog zmm zmn args M R):CallsM Tryz.prog F.zl5 args M R:=
 zf (kf:=fun _=>[]) Tryz.func6 (by kernel_rfl) (by kernel_rfl) hn (by kernel_rfl) h
def zAR:RCode:=
 .seq (.ops [o 1 (.box 25 (t 0)),
 mv 2 (k 0)] [])
 (.seq (.ops [fa 6 0 (t 1),
 la 7 3 (t 6),
 ca 8 F.zDy [(k 0),(t 7)],
 mv 5 (t 8),
 ex 9 (t 5) 0,
 ex 10 (t 5) 1,
 o 3 (.alloc 74 [(i 0),(i 0),(i 0),(i 0),(i 0),sn,sn,(i 0),sn]),
 st 9 (t 3) (t 9),
 mv 4 (t 10)] [])
 (.seq (.seq (.ops [mv 11 (t 4),
 o 12 (.ibin .neq (t 11) (k 0)),
 os 13 (.mov (t 12)),
 gf 13 14 (.faddr 3 (t 1)),
 gf 13 15 (.load false 1 (t 14)),
 gf 13 16 (.call (fn F.zb3) [(t 15),(k 1),(k 1048576)]),
 gf 13 17 (.not (t 16)),
 o 18 (.pick (t 13) (kb true) (t 17)),
 os 19 (.mov (t 18)),
 gf 19 20 (.faddr 4 (t 1)),
 gf 19 21 (.load false 1 (t 20)),
 gf 19 22 (.call (fn F.zb3) [(t 21),(k 16),(k 1048576)]),
 gf 19 23 (.not (t 22)),
 o 24 (.pick (t 19) (kb true) (t 23)),
 os 25 (.mov (t 24)),
 gf 25 26 (.faddr 5 (t 1)),
 gf 25 27 (.load false 1 (t 26)),
 gf 25 28 (.call (fn F.zb3) [(t 27),(k 1),(k 63)]),
 gf 25 29 (.not (t 28)),
 o 30 (.pick (t 25) (kb true) (t 29)),
 os 31 (.mov (t 30)),
 gf 31 32 (.faddr 6 (t 1)),
 gf 31 33 (.load false 1 (t 32)),
 gf 31 34 (.call (fn F.zb3) [(t 33),(k 1),(k 64)]),
 gf 31 35 (.not (t 34)),
 o 36 (.pick (t 31) (kb true) (t 35)),
 os 37 (.mov (t 36)),
 gf 37 38 (.faddr 7 (t 1)),
 gf 37 39 (.load false 1 (t 38)),
 gf 37 40 (.call (fn F.zb3) [(t 39),(k 1),(k 64)]),
 gf 37 41 (.not (t 40)),
 o 42 (.pick (t 37) (kb true) (t 41)),
 os 43 (.mov (t 42)),
 gf 43 44 (.faddr 8 (t 1)),
 gf 43 45 (.load false 1 (t 44)),
 gf 43 46 (.call (fn F.zb3) [(t 45),(k 1),(k 64)]),
 gf 43 47 (.not (t 46)),
 o 48 (.pick (t 43) (kb true) (t 47)),
 os 49 (.mov (t 48)),
 gf 49 50 (.faddr 9 (t 1)),
 gf 49 51 (.load false 1 (t 50)),
 gf 49 52 (.call (fn F.zb3) [(t 51),(k 0),(k 64)]),
 gf 49 53 (.not (t 52)),
 o 54 (.pick (t 49) (kb true) (t 53))] [])
 (.cond (t 54)
 (.seq (.ops [mv 2 (k 1)] [])
 (.ret))
 (.skip)))
 (.seq (.ops [mv 2 (k 0)] [])
 (.ret))))
def zAS:List zd:=[.tmp 2]
def zkJ:RCode:=
 .seq (.ops [mv 0 (kb false)] [])
 (.seq (.ops [ca 8 F.zc0 [],
 ca 9 F.zf0 [(t 8)],
 mv 7 (t 9),
 ex 10 (t 7) 0,
 ex 11 (t 7) 1,
 ex 12 (t 7) 2,
 mv 1 (t 10),
 mv 2 (t 11),
 mv 3 (t 12)] [])
 (.seq (.seq (.ops [mv 13 (t 3),
 o 14 (.not (t 13))] [])
 (.cond (t 14)
 (.seq (.ops [mv 0 (kb false)] [])
 (.ret))
 (.skip)))
 (.seq (.ops [mv 16 (t 1),
 o 17 (.mkSl false 5 1 [(u 0)] [(0,1,(.const (u 120)))]),
 o 18 (.strish (t 17)),
 ca 19 F.zaV [(t 16),(k 1),(t 18)],
 mv 15 (t 19),
 ex 20 (t 15) 0,
 ex 21 (t 15) 1,
 o 4 (.alloc 37 [(i 0),(i 0),(i 0),(i 0)]),
 st 4 (t 4) (t 20),
 mv 5 (t 21)] [])
 (.seq (.ops [mv 22 (t 1),
 mv 23 (t 2),
 ca 24 F.zdt [(t 22),(t 23),(k 12)]] [])
 (.seq (.ops [mv 25 (t 2),
 ca 26 F.zaq [(t 25)],
 mv 6 (t 26)] [])
 (.seq (.ops [mv 27 (t 5),
 o 28 (.ibin .eql (t 27) (k 0)),
 os 29 (.mov (t 28)),
 gt 29 30 (.mov (t 6)),
 gt 29 31 (.len (t 30)),
 gt 29 32 (.ibin .eql (t 31) (k 1)),
 o 33 (.pick (t 29) (t 32) (kb false)),
 os 34 (.mov (t 33)),
 gt 34 35 (.mov (t 6)),
 gt 34 36 (.iaddr 5 (t 35) (k 0)),
 gt 34 37 (.faddr 4 (t 36)),
 gt 34 38 (.load false 1 (t 37)),
 gt 34 39 (.strOf (t 38)),
 gt 34 40 (.strE .eql (t 39) (.const (.string ⟨#[120]⟩))),
 o 41 (.pick (t 34) (t 40) (kb false)),
 os 42 (.mov (t 41)),
 gt 42 43 (.mov (t 1)),
 gt 42 44 (.call (fn F.z6) [(t 43)]),
 gt 42 45 (.field false 3 1 (t 44)),
 gt 42 46 (.len (t 45)),
 gt 42 47 (.ibin .eql (t 46) (k 0)),
 o 48 (.pick (t 42) (t 47) (kb false)),
 mv 0 (t 48)] [])
 (.ret)))))))
def zkK:List zd:=[.tmp 0]
theorem zzr {args:List Value} {M:Mem} {R:Value→Mem→Prop} (hn:args.length≤49) (h:zi Tryz.prog zkJ zkK args M R):CallsM Tryz.prog F.za0 args M R:=
 zf (kf:=fun _=>[]) Tryz.func8 (by kernel_rfl) (by kernel_rfl) hn (by kernel_rfl) h
def zmo:RCode:=
 .seq (.ops [o 1 (.box 25 (t 0)),
 mv 2 (.const (.pointer none)),
 mv 3 (.const (.pointer none)),
 mv 4 (kb false)] [])
 (.seq (.ops [fa 14 3 (t 1),
 l1 15 (t 14),
 ca 16 F.zoo [(t 15)],
 mv 13 (t 16),
 ex 17 (t 13) 0,
 ex 18 (t 13) 1,
 mv 5 (t 17),
 mv 6 (t 18)] [])
 (.seq (.ops [fa 20 3 (t 1),
 l1 21 (t 20),
 ca 22 F.zoo [(t 21)],
 mv 19 (t 22),
 ex 23 (t 19) 0,
 ex 24 (t 19) 1,
 mv 7 (t 23),
 mv 8 (t 24)] [])
 (.seq (.seq (.ops [mv 25 (t 6),
 o 26 (.ibin .neq (t 25) (k 0)),
 os 27 (.mov (t 26)),
 gf 27 28 (.mov (t 8)),
 gf 27 29 (.ibin .neq (t 28) (k 0)),
 o 30 (.pick (t 27) (kb true) (t 29)),
 os 31 (.mov (t 30)),
 gf 31 32 (.mov (t 5)),
 gf 31 33 (.pnil .eql (t 32) (.const (.pointer none))),
 o 34 (.pick (t 31) (kb true) (t 33)),
 os 35 (.mov (t 34)),
 gf 35 36 (.mov (t 7)),
 gf 35 37 (.pnil .eql (t 36) (.const (.pointer none))),
 o 38 (.pick (t 35) (kb true) (t 37))] [])
 (.cond (t 38)
 (.seq (.ops [mv 2 (.const (.pointer none)),
 mv 3 (.const (.pointer none)),
 mv 4 (kb false)] [])
 (.ret))
 (.skip)))
 (.seq (.ops [o 40 (.mkSl false 3 1 [(i 0)] [(0,1,(k 1))]),
 mv 41 (t 5),
 la 42 10 (t 1),
 ca 43 F.zop [(k 0),(t 40),(t 41),(t 42)],
 mv 39 (t 43),
 ex 44 (t 39) 0,
 ex 45 (t 39) 1,
 mv 9 (t 44),
 mv 10 (t 45)] [])
 (.seq (.ops [o 47 (.mkSl false 3 1 [(i 0)] [(0,1,(k 0))]),
 mv 48 (t 7),
 la 49 10 (t 1),
 ca 50 F.zop [(k 1),(t 47),(t 48),(t 49)],
 mv 46 (t 50),
 ex 51 (t 46) 0,
 ex 52 (t 46) 1,
 mv 11 (t 51),
 mv 12 (t 52)] [])
 (.seq (.ops [mv 53 (t 9),
 mv 54 (t 11),
 mv 55 (t 10),
 o 56 (.ibin .eql (t 55) (k 0)),
 os 57 (.mov (t 56)),
 gt 57 58 (.mov (t 12)),
 gt 57 59 (.ibin .eql (t 58) (k 0)),
 o 60 (.pick (t 57) (t 59) (kb false)),
 os 61 (.mov (t 60)),
 gt 61 62 (.mov (t 9)),
 gt 61 63 (.pnil .neq (t 62) (.const (.pointer none))),
 o 64 (.pick (t 61) (t 63) (kb false)),
 os 65 (.mov (t 64)),
 gt 65 66 (.mov (t 11)),
 gt 65 67 (.pnil .neq (t 66) (.const (.pointer none))),
 o 68 (.pick (t 65) (t 67) (kb false)),
 mv 2 (t 53),
 mv 3 (t 54),
 mv 4 (t 68)] [])
 (.ret)))))))
def zmp:List zd:=[.tmp 2,.tmp 3,.tmp 4]
theorem zAT {args:List Value} {M:Mem} {R:Value→Mem→Prop} (hn:args.length≤69) (h:zi Tryz.prog zmo zmp args M R):CallsM Tryz.prog F.zf0 args M R:=
 zf (kf:=fun _=>[]) Tryz.func9 (by kernel_rfl) (by kernel_rfl) hn (by kernel_rfl) h
def zkL:RCode:=
 .seq (.ops [o 0 (.alloc 25 [(i 0),(i 0),(i 0),(i 0),(i 0),(i 0),(i 0),(i 0),(i 0),(i 0)])] [])
 (.seq (.ops [o 1 (.build [(i 0),(i 0),(i 0)] [(0,1,(k 50)),(1,1,(k 2000)),(2,1,(k 50))]),
 o 2 (.build [(i 0),(i 0),(i 0),(i 0),(i 0),(i 0),(i 0),(i 0),(i 0),(i 0)] [(0,3,(t 1)),(3,1,(k 100000)),(4,1,(k 200)),(5,1,(k 4)),(6,1,(k 3)),(7,1,(k 3)),(8,1,(k 3))]),
 st 10 (t 0) (t 2)] [])
 (.ret))
def zkM:List zd:=[.cell true 10 0]
theorem zzs {args:List Value} {M:Mem} {R:Value→Mem→Prop} (hn:args.length≤3) (h:zi Tryz.prog zkL zkM args M R):CallsM Tryz.prog F.zc0 args M R:=
 zf (kf:=fun _=>[]) Tryz.func10 (by kernel_rfl) (by kernel_rfl) hn (by kernel_rfl) h
def zjf:RCode:=
 .seq (.ops [mv 6 (k 0)] [])
 (.block 0 (.loop (.seq (.seq (.ops [mv 8 (t 6),
 mv 9 (t 2),
 o 10 (.ibin .lss (t 8) (t 9))] [])
 (.cond (t 10)
  (.skip)
  (.exit 0)))
 (.seq (.block 1 (.seq (.ops [mv 13 (t 0),
 ca 14 F.zj [(t 13)]] [])
 (.seq (.ops [mv 15 (t 1),
 ca 16 F.zj [(t 15)]] [])
 (.seq (.ops [mv 7 (k 0)] [])
 (.block 2 (.loop (.seq (.seq (.ops [mv 17 (t 7),
  o 18 (.ibin .lss (t 17) (k 3))] [])
  (.cond (t 18)
  (.skip)
  (.exit 2)))
  (.seq (.block 3 (.ops [mv 21 (t 0),
  mv 22 (t 1),
  ca 23 F.zh [(t 21),(t 22)]] []))
  (.ops [mv 19 (t 7),
  ad 20 (t 19) (k 1),
  mv 7 (t 20)] [])))))))))
 (.ops [mv 11 (t 6),
 ad 12 (t 11) (k 1),
 mv 6 (t 12)] [])))))
def zjg:List zd:=[]
theorem zyl {args:List Value} {M:Mem} {R:Value→Mem→Prop} (hn:args.length≤24) (h:zi Tryz.prog zjf zjg args M R):CallsM Tryz.prog F.zdt args M R:=
 zf (kf:=fun _=>[]) Tryz.func11 (by kernel_rfl) (by kernel_rfl) hn (by kernel_rfl) h
def zeJ:RCode:=
 .seq (.ops [o 6 (.alloc 37 [(i 0),(i 0),(i 0),(i 0)]),
 mv 7 (k 0)] [])
 (.seq (.seq (.ops [mv 11 (t 0),
 ca 12 F.zM [(t 11)],
 mv 8 (t 12)] [])
 (.seq (.ops [mv 13 (t 8),
 o 14 (.ibin .neq (t 13) (k 0))] [])
 (.cond (t 14)
 (.seq (.ops [o 15 (.build [(i 0),(i 0),(i 0),(i 0)] []),
 mv 16 (t 8),
 st 4 (t 6) (t 15),
 mv 7 (t 16)] [])
 (.ret))
 (.skip))))
 (.seq (.ops [mv 18 (t 0),
 o 19 (.nilck (t 18)),
 fa 20 11 (t 19),
 l1 21 (t 20),
 mv 22 (t 1),
 mv 23 (t 2),
 ca 24 F.zdx [(t 21),(t 22),(t 23)],
 mv 17 (t 24),
 ex 25 (t 17) 0,
 ex 26 (t 17) 1,
 o 9 (.alloc 37 [(i 0),(i 0),(i 0),(i 0)]),
 st 4 (t 9) (t 25),
 mv 10 (t 26)] [])
 (.seq (.ops [mv 27 (t 0),
 ca 28 F.z7 [(t 27)]] [])
 (.seq (.ops [la 29 4 (t 9),
 mv 30 (t 10),
 st 4 (t 6) (t 29),
 mv 7 (t 30)] [])
 (.ret)))))
def zeK:List zd:=[.cell true 4 6,.tmp 7]
theorem zsV {args:List Value} {M:Mem} {R:Value→Mem→Prop} (hn:args.length≤31) (h:zi Tryz.prog zeJ zeK args M R):CallsM Tryz.prog F.zaV args M R:=
 zf (kf:=fun _=>[]) Tryz.func12 (by kernel_rfl) (by kernel_rfl) hn (by kernel_rfl) h
def zgE:RCode:=
 .seq (.ops [mv 4 (.const sn)] [])
 (.seq (.seq (.ops [mv 6 (t 0),
 o 7 (.pnil .eql (t 6) (.const (.pointer none))),
 os 8 (.mov (t 7)),
 gf 8 9 (.mov (t 0)),
 gf 8 10 (.nilck (t 9)),
 gf 8 11 (.faddr 12 (t 10)),
 gf 8 12 (.load false 1 (t 11)),
 gf 8 13 (.mov (t 1)),
 gf 8 14 (.mget .int false (.pointer none) (t 12) (t 13)),
 gf 8 15 (.pnil .eql (t 14) (.const (.pointer none))),
 o 16 (.pick (t 8) (kb true) (t 15))] [])
 (.cond (t 16)
 (.seq (.ops [mv 4 (.const sn)] [])
 (.ret))
 (.skip)))
 (.seq (.ops [mv 17 (t 0),
 o 18 (.nilck (t 17)),
 fa 19 12 (t 18),
 l1 20 (t 19),
 mv 21 (t 1),
 o 22 (.mget .int false (.pointer none) (t 20) (t 21)),
 o 23 (.nilck (t 22)),
 fa 24 3 (t 23),
 l1 25 (t 24),
 mv 5 (t 25)] [])
 (.seq (.ops [mv 26 (t 0),
 o 27 (.nilck (t 26)),
 fa 28 12 (t 27),
 l1 29 (t 28),
 mv 30 (t 1),
 o 31 (.mget .int false (.pointer none) (t 29) (t 30)),
 o 32 (.nilck (t 31)),
 fa 33 3 (t 32),
 st 1 (t 33) (.const sn)] [])
 (.seq (.ops [mv 34 (t 5),
 mv 4 (t 34)] [])
 (.ret)))))
def zgF:List zd:=[.tmp 4]
theorem zu6 {args:List Value} {M:Mem} {R:Value→Mem→Prop} (hn:args.length≤35) (h:zi Tryz.prog zgE zgF args M R):CallsM Tryz.prog F.zZ args M R:=
 zf (kf:=fun _=>[]) Tryz.func13 (by kernel_rfl) (by kernel_rfl) hn (by kernel_rfl) h
def zCM:RCode:=
 .seq (.ops [o 2 (.box 44 (t 0)),
 o 4 (.alloc 44 [(.bool false),sn,(i 0),(i 0),(i 0),(i 0),(i 0)]),
 mv 5 (.const sn)] [])
 (.seq (.ops [o 10 (.mkSl false 30 0 [] []),
 mv 6 (t 10)] [])
 (.seq (.seq (.ops [mv 7 (k 0)] [])
 (.block 0 (.loop (.seq (.seq (.ops [mv 11 (t 7),
 mv 12 (t 1),
 o 13 (.len (t 12)),
 o 14 (.ibin .lss (t 11) (t 13))] [])
 (.cond (t 14)
  (.skip)
  (.exit 0)))
 (.seq (.block 1 (.seq (.draw (.take (la 18 7 (t 2)) (.take (mv 19 (t 1)) (.take (mv 20 (t 7)) (.take (o 21 (.iaddr 1 (t 19) (t 20))) (.take (l1 22 (t 21)) (.alt (ca 23 F.zf1 [(t 18),(t 22)]) false
  (.take (mv 17 (t 23)) (.take (ex 24 (t 17) 0) (.take (ex 25 (t 17) 1) (.alt (o 8 (.alloc 44 [(.bool false),sn,(i 0),(i 0),(i 0),(i 0),(i 0)])) false
  (.alt (st 7 (t 8) (t 24)) false
   (.take (mv 9 (t 25)) (.done))
   (.none))
  (.none)))))
  (.alt (o 8 (.alloc 44 [(.bool false),sn,(i 0),(i 0),(i 0),(i 0),(i 0)])) false
  (.alt (ca 23 F.zf1 [(t 18),(t 22)]) false
   (.take (mv 17 (t 23)) (.take (ex 24 (t 17) 0) (.take (ex 25 (t 17) 1) (.alt (st 7 (t 8) (t 24)) false
   (.take (mv 9 (t 25)) (.done))
   (.none)))))
   (.none))
  (.none)))))))) [])
 (.seq (.ops [la 26 7 (t 8),
 st 7 (t 2) (t 26)] [])
 (.seq (.ops [mv 27 (t 9),
 o 28 (.len (t 27)),
 o 29 (.ibin .gtr (t 28) (k 0))] [])
 (.cond (t 29)
  (.ops [mv 30 (t 6),
  mv 31 (t 9),
  o 32 (.mkSl true 30 1 [sn] [(0,1,(t 31))]),
  o 33 (.app 30 1 24 [sn] (t 30) (t 32)),
  mv 6 (t 33)] [])
  (.skip))))))
 (.ops [mv 15 (t 7),
 ad 16 (t 15) (k 1),
 mv 7 (t 16)] []))))))
 (.seq (.ops [la 34 7 (t 2),
 mv 35 (t 6),
 st 7 (t 4) (t 34),
 mv 5 (t 35)] [])
 (.ret))))
def zCN:List zd:=[.cell true 7 4,.tmp 5]
def zfo:RCode:=
 .seq (.ops [o 2 (.alloc 52 [(i 0),(i 0),sn,sn,sn])] [])
 (.seq (.seq (.ops [mv 3 (t 0),
 o 4 (.pnil .eql (t 3) (.const (.pointer none)))] [])
 (.cond (t 4)
 (.seq (.ops [o 5 (.build [(i 0),(i 0),sn,sn,sn] []),
 st 5 (t 2) (t 5)] [])
 (.ret))
 (.skip)))
 (.seq (.ops [mv 6 (t 0),
 o 7 (.nilck (t 6)),
 fa 8 11 (t 7),
 l1 9 (t 8),
 ca 10 F.zbO [(t 9)],
 st 5 (t 2) (t 10)] [])
 (.ret)))
def zfp:List zd:=[.cell true 5 2]
theorem zt1 {args:List Value} {M:Mem} {R:Value→Mem→Prop} (hn:args.length≤11) (h:zi Tryz.prog zfo zfp args M R):CallsM Tryz.prog F.z6 args M R:=
 zf (kf:=fun _=>[]) Tryz.func15 (by kernel_rfl) (by kernel_rfl) hn (by kernel_rfl) h
def zdS:RCode:=
 .seq (.ops [mv 6 (k 0)] [])
 (.seq (.seq (.ops [mv 15 (t 0),
 ca 16 F.zM [(t 15)],
 mv 7 (t 16)] [])
 (.seq (.ops [mv 17 (t 7),
 o 18 (.ibin .neq (t 17) (k 0))] [])
 (.cond (t 18)
 (.seq (.ops [mv 19 (t 7),
 mv 6 (t 19)] [])
 (.ret))
 (.skip))))
 (.seq (.ops [mv 20 (t 0),
 o 21 (.nilck (t 20)),
 fa 22 12 (t 21),
 l1 23 (t 22),
 mv 24 (t 1),
 o 25 (.mget .int false (.pointer none) (t 23) (t 24)),
 mv 8 (t 25)] [])
 (.seq (.seq (.ops [mv 26 (t 8),
 o 27 (.pnil .eql (t 26) (.const (.pointer none)))] [])
 (.cond (t 27)
 (.seq (.ops [mv 6 (k 4)] [])
 (.ret))
 (.skip)))
 (.seq (.seq (.ops [mv 28 (t 8),
 o 29 (.nilck (t 28)),
 fa 30 1 (t 29),
 l1 31 (t 30),
 mv 32 (t 2),
 ca 33 F.zbd [(t 31),(t 32)],
 o 34 (.len (t 33)),
 mv 35 (k 0)] [])
 (.block 0 (.loop (.seq (.ops [o 36 (.ibin .lss (t 35) (t 34))] [])
 (.seq (.cond (t 36)
  (.skip)
  (.exit 0))
 (.seq (.block 1 (.seq (.ops [o 37 (.iaddr 1 (t 33) (t 35)),
 l1 38 (t 37),
 mv 10 (t 38)] [])
 (.seq (.ops [mv 40 (t 10),
 ca 41 F.zkF [(t 40)],
 mv 39 (t 41),
 ex 42 (t 39) 0,
 ex 43 (t 39) 1,
 o 11 (.alloc 101 [(i 0),(i 0),(i 0),(.bool false),(i 0),(i 0),sn]),
 st 7 (t 11) (t 42),
 mv 12 (t 43)] [])
 (.seq (.seq (.ops [mv 44 (t 12),
 o 45 (.ibin .neq (t 44) (k 0))] [])
 (.cond (t 45)
  (.seq (.ops [mv 46 (t 0),
  o 47 (.nilck (t 46)),
  fa 48 17 (t 47),
  l1 49 (t 48),
  ad 50 (t 49) (k 1),
  o 51 (.nilck (t 46)),
  fa 52 17 (t 51),
  st 1 (t 52) (t 50)] [])
  (.exit 1))
  (.skip)))
 (.seq (.draw (.take (mv 53 (t 8)) (.take (o 54 (.nilck (t 53))) (.take (fa 55 0 (t 54)) (.take (l1 56 (t 55)) (.take (la 57 7 (t 11)) (.alt (ca 58 F.zdN [(t 56),(t 57)]) false
  (.done)
  (.none))))))) [])
 (.seq (.ops [mv 59 (t 8),
 o 60 (.nilck (t 59)),
 fa 61 0 (t 60),
 l1 62 (t 61),
 ca 63 F.zi6 [(t 62)],
 o 64 (.len (t 63)),
 mv 65 (k 0)] [])
 (.block 2 (.loop (.seq (.ops [o 66 (.ibin .lss (t 65) (t 64))] [])
  (.seq (.cond (t 66)
  (.skip)
  (.exit 2))
  (.seq (.block 3 (.seq (.ops [o 67 (.iaddr 1 (t 63) (t 65)),
  l1 68 (t 67),
  mv 14 (t 68)] [])
  (.seq (.ops [mv 69 (t 0),
  o 70 (.nilck (t 69)),
  fa 71 11 (t 70),
  l1 72 (t 71),
  ca 73 F.zO [(t 72)],
  o 74 (.not (t 73))] [])
  (.cond (t 74)
  (.ops [mv 75 (t 0),
  mv 76 (t 1),
  mv 77 (t 14),
  ca 78 F.zgr [(t 75),(t 76),(t 77)]] [])
  (.skip)))))
  (.ops [ad 79 (t 65) (k 1),
  mv 65 (t 79)] []))))))))))))
 (.ops [ad 80 (t 35) (k 1),
 mv 35 (t 80)] [])))))))
 (.seq (.ops [mv 81 (t 0),
 ca 82 F.z7 [(t 81)]] [])
 (.seq (.ops [mv 83 (t 0),
 ca 84 F.zM [(t 83)],
 mv 6 (t 84)] [])
 (.ret)))))))
def zdT:List zd:=[.tmp 6]
theorem zsf {args:List Value} {M:Mem} {R:Value→Mem→Prop} (hn:args.length≤85) (h:zi Tryz.prog zdS zdT args M R):CallsM Tryz.prog F.zJ args M R:=
 zf (kf:=fun _=>[]) Tryz.func16 (by kernel_rfl) (by kernel_rfl) hn (by kernel_rfl) h
def zfq:RCode:=
 .seq (.ops [o 2 (.box 52 (t 0)),
 o 3 (.box 52 (t 1)),
 mv 4 (kb false)] [])
 (.seq (.seq (.ops [fa 6 0 (t 2),
 l1 7 (t 6),
 fa 8 0 (t 3),
 l1 9 (t 8),
 o 10 (.ibin .neq (t 7) (t 9)),
 os 11 (.mov (t 10)),
 gf 11 12 (.faddr 1 (t 2)),
 gf 11 13 (.load false 1 (t 12)),
 gf 11 14 (.faddr 1 (t 3)),
 gf 11 15 (.load false 1 (t 14)),
 gf 11 16 (.ibin .neq (t 13) (t 15)),
 o 17 (.pick (t 11) (kb true) (t 16)),
 os 18 (.mov (t 17)),
 gf 18 19 (.faddr 2 (t 2)),
 gf 18 20 (.load false 1 (t 19)),
 gf 18 21 (.len (t 20)),
 gf 18 22 (.faddr 2 (t 3)),
 gf 18 23 (.load false 1 (t 22)),
 gf 18 24 (.len (t 23)),
 gf 18 25 (.ibin .neq (t 21) (t 24)),
 o 26 (.pick (t 18) (kb true) (t 25))] [])
 (.cond (t 26)
 (.seq (.ops [mv 4 (kb false)] [])
 (.ret))
 (.skip)))
 (.seq (.seq (.ops [mv 5 (k 0)] [])
 (.block 0 (.loop (.seq (.seq (.ops [mv 27 (t 5),
 fa 28 2 (t 2),
 l1 29 (t 28),
 o 30 (.len (t 29)),
 o 31 (.ibin .lss (t 27) (t 30))] [])
 (.cond (t 31)
  (.skip)
  (.exit 0)))
 (.seq (.block 1 (.seq (.draw (.take (fa 34 2 (t 2)) (.take (l1 35 (t 34)) (.take (mv 36 (t 5)) (.take (o 37 (.iaddr 2 (t 35) (t 36))) (.take (la 38 2 (t 37)) (.take (fa 39 2 (t 3)) (.take (l1 40 (t 39)) (.take (mv 41 (t 5)) (.take (o 42 (.iaddr 2 (t 40) (t 41))) (.take (la 43 2 (t 42)) (.take (o 44 (.aeq .neq 2 (t 38) (t 43))) (.done)))))))))))) [])
 (.cond (t 44)
  (.seq (.ops [mv 4 (kb false)] [])
  (.ret))
  (.skip))))
 (.ops [mv 32 (t 5),
 ad 33 (t 32) (k 1),
 mv 5 (t 33)] []))))))
 (.seq (.ops [fa 45 3 (t 2),
 l1 46 (t 45),
 fa 47 3 (t 3),
 l1 48 (t 47),
 ca 49 F.zl7 [(t 46),(t 48)],
 os 50 (.mov (t 49)),
 gt 50 51 (.faddr 4 (t 2)),
 gt 50 52 (.load false 1 (t 51)),
 gt 50 53 (.faddr 4 (t 3)),
 gt 50 54 (.load false 1 (t 53)),
 gt 50 55 (.call (fn F.zjQ) [(t 52),(t 54)]),
 o 56 (.pick (t 50) (t 55) (kb false)),
 mv 4 (t 56)] [])
 (.ret))))
def zfr:List zd:=[.tmp 4]
theorem zt2 {args:List Value} {M:Mem} {R:Value→Mem→Prop} (hn:args.length≤57) (h:zi Tryz.prog zfq zfr args M R):CallsM Tryz.prog F.zbI args M R:=
 zf (kf:=fun _=>[]) Tryz.func17 (by kernel_rfl) (by kernel_rfl) hn (by kernel_rfl) h
def zcH:RCode:=
 .seq (.ops [mv 2 (.const sn)] [])
 (.seq (.seq (.ops [mv 4 (t 0),
 o 5 (.pnil .eql (t 4) (.const (.pointer none)))] [])
 (.cond (t 5)
 (.seq (.ops [mv 2 (.const sn)] [])
 (.ret))
 (.skip)))
 (.seq (.ops [mv 6 (t 0),
 o 7 (.nilck (t 6)),
 fa 8 15 (t 7),
 l1 9 (t 8),
 mv 3 (t 9)] [])
 (.seq (.ops [mv 10 (t 0),
 o 11 (.nilck (t 10)),
 fa 12 15 (t 11),
 st 1 (t 12) (.const sn)] [])
 (.seq (.ops [mv 13 (t 3),
 mv 2 (t 13)] [])
 (.ret)))))
def zcI:List zd:=[.tmp 2]
theorem zqI {args:List Value} {M:Mem} {R:Value→Mem→Prop} (hn:args.length≤14) (h:zi Tryz.prog zcH zcI args M R):CallsM Tryz.prog F.zaq args M R:=
 zf (kf:=fun _=>[]) Tryz.func18 (by kernel_rfl) (by kernel_rfl) hn (by kernel_rfl) h
def zjh:RCode:=
 .seq (.ops [mv 4 (kb false)] [])
 (.seq (.ops [mv 5 (t 0),
 o 6 (.pnil .neq (t 5) (.const (.pointer none))),
 os 7 (.mov (t 6)),
 gt 7 8 (.mov (t 0)),
 gt 7 9 (.nilck (t 8)),
 gt 7 10 (.faddr 12 (t 9)),
 gt 7 11 (.load false 1 (t 10)),
 gt 7 12 (.mov (t 1)),
 gt 7 13 (.mget .int false (.pointer none) (t 11) (t 12)),
 gt 7 14 (.pnil .neq (t 13) (.const (.pointer none))),
 o 15 (.pick (t 7) (t 14) (kb false)),
 os 16 (.mov (t 15)),
 gt 16 17 (.mov (t 0)),
 gt 16 18 (.nilck (t 17)),
 gt 16 19 (.faddr 12 (t 18)),
 gt 16 20 (.load false 1 (t 19)),
 gt 16 21 (.mov (t 1)),
 gt 16 22 (.mget .int false (.pointer none) (t 20) (t 21)),
 gt 16 23 (.nilck (t 22)),
 gt 16 24 (.faddr 0 (t 23)),
 gt 16 25 (.load false 1 (t 24)),
 gt 16 26 (.call (fn F.zb4) [(t 25)]),
 o 27 (.pick (t 16) (t 26) (kb false)),
 mv 4 (t 27)] [])
 (.ret))
def zji:List zd:=[.tmp 4]
theorem zym {args:List Value} {M:Mem} {R:Value→Mem→Prop} (hn:args.length≤28) (h:zi Tryz.prog zjh zji args M R):CallsM Tryz.prog F.zdu args M R:=
 zf (kf:=fun _=>[]) Tryz.func19 (by kernel_rfl) (by kernel_rfl) hn (by kernel_rfl) h
def zhX:RCode:=
 .seq (.ops [mv 2 (k 0)] [])
 (.seq (.seq (.ops [mv 3 (t 0),
 o 4 (.pnil .eql (t 3) (.const (.pointer none)))] [])
 (.cond (t 4)
 (.seq (.ops [mv 2 (k 0)] [])
 (.ret))
 (.skip)))
 (.seq (.ops [mv 5 (t 0),
 o 6 (.nilck (t 5)),
 fa 7 17 (t 6),
 l1 8 (t 7),
 mv 2 (t 8)] [])
 (.ret)))
def zhY:List zd:=[.tmp 2]
theorem zwK {args:List Value} {M:Mem} {R:Value→Mem→Prop} (hn:args.length≤9) (h:zi Tryz.prog zhX zhY args M R):CallsM Tryz.prog F.zcC args M R:=
 zf (kf:=fun _=>[]) Tryz.func20 (by kernel_rfl) (by kernel_rfl) hn (by kernel_rfl) h
def zgG:RCode:=
 .seq (.ops [mv 2 (k 0)] [])
 (.seq (.seq (.ops [mv 8 (t 0),
 ca 9 F.zM [(t 8)],
 mv 3 (t 9)] [])
 (.seq (.ops [mv 10 (t 3),
 o 11 (.ibin .neq (t 10) (k 0))] [])
 (.cond (t 11)
 (.seq (.ops [mv 12 (t 3),
 mv 2 (t 12)] [])
 (.ret))
 (.skip))))
 (.seq (.ops [mv 13 (t 0),
 o 14 (.nilck (t 13)),
 fa 15 16 (t 14),
 l1 16 (t 15),
 ad 17 (t 16) (k 1),
 o 18 (.nilck (t 13)),
 fa 19 16 (t 18),
 st 1 (t 19) (t 17)] [])
 (.seq (.ops [mv 20 (t 0),
 o 21 (.nilck (t 20)),
 fa 22 13 (t 21),
 l1 23 (t 22),
 ca 24 F.zhJ [(t 23)]] [])
 (.seq (.seq (.ops [mv 25 (t 0),
 ca 26 F.zb5 [(t 25)],
 o 27 (.len (t 26)),
 mv 28 (k 0)] [])
 (.block 0 (.loop (.seq (.ops [o 29 (.ibin .lss (t 28) (t 27))] [])
 (.seq (.cond (t 29)
  (.skip)
  (.exit 0))
 (.seq (.block 1 (.seq (.ops [o 30 (.iaddr 1 (t 26) (t 28)),
 l1 31 (t 30),
 mv 5 (t 31)] [])
 (.ops [mv 32 (t 0),
 o 33 (.nilck (t 32)),
 fa 34 12 (t 33),
 l1 35 (t 34),
 mv 36 (t 5),
 o 37 (.mget .int false (.pointer none) (t 35) (t 36)),
 o 38 (.nilck (t 37)),
 fa 39 0 (t 38),
 l1 40 (t 39),
 ca 41 F.zlc [(t 40)]] [])))
 (.ops [ad 42 (t 28) (k 1),
 mv 28 (t 42)] [])))))))
 (.seq (.ops [mv 43 (t 0),
 o 44 (.nilck (t 43)),
 fa 45 14 (t 44),
 l1 46 (t 45),
 ca 47 F.zl8 [(t 46)]] [])
 (.seq (.seq (.draw (.take (mv 48 (t 0)) (.take (o 49 (.nilck (t 48))) (.take (fa 50 16 (t 49)) (.take (l1 51 (t 50)) (.take (mv 52 (t 0)) (.take (o 53 (.nilck (t 52))) (.take (fa 54 1 (t 53)) (.take (fa 55 6 (t 54)) (.take (l1 56 (t 55)) (.take (o 57 (.ibin .rem (t 51) (t 56))) (.take (o 58 (.ibin .eql (t 57) (k 0))) (.done)))))))))))) [])
 (.cond (t 58)
 (.seq (.ops [mv 59 (t 0),
 ca 60 F.zb5 [(t 59)],
 o 61 (.len (t 60)),
 mv 62 (k 0)] [])
 (.block 2 (.loop (.seq (.ops [o 63 (.ibin .lss (t 62) (t 61))] [])
  (.seq (.cond (t 63)
  (.skip)
  (.exit 2))
  (.seq (.block 3 (.seq (.ops [o 64 (.iaddr 1 (t 60) (t 62)),
  l1 65 (t 64),
  mv 7 (t 65)] [])
  (.seq (.ops [mv 66 (t 0),
  o 67 (.nilck (t 66)),
  fa 68 12 (t 67),
  l1 69 (t 68),
  mv 70 (t 7),
  o 71 (.mget .int false (.pointer none) (t 69) (t 70)),
  o 72 (.nilck (t 71)),
  fa 73 0 (t 72),
  l1 74 (t 73),
  ca 75 F.zb4 [(t 74)]] [])
  (.cond (t 75)
  (.ops [mv 76 (t 0),
  mv 77 (t 7),
  mv 78 (t 0),
  o 79 (.nilck (t 78)),
  fa 80 13 (t 79),
  l1 81 (t 80),
  mv 82 (t 7),
  ca 83 F.zf2 [(t 81),(t 82)],
  o 84 (.build [(i 0),(i 0),(i 0),(i 0),(i 0),(i 0),sn,sn] [(0,1,(k 4)),(7,1,(t 83))]),
  ca 85 F.zdy [(t 76),(t 77),(t 84)]] [])
  (.skip)))))
  (.ops [ad 86 (t 62) (k 1),
  mv 62 (t 86)] [])))))))
 (.skip)))
 (.seq (.ops [mv 87 (t 0),
 ca 88 F.z7 [(t 87)]] [])
 (.seq (.ops [mv 2 (k 0)] [])
 (.ret)))))))))
def zgH:List zd:=[.tmp 2]
theorem zu7 {args:List Value} {M:Mem} {R:Value→Mem→Prop} (hn:args.length≤89) (h:zi Tryz.prog zgG zgH args M R):CallsM Tryz.prog F.zj args M R:=
 zf (kf:=fun _=>[]) Tryz.func21 (by kernel_rfl) (by kernel_rfl) hn (by kernel_rfl) h
def zsW:RCode:=
 .seq (.ops [mv 2 (k 0)] [])
 (.seq (.seq (.ops [mv 5 (t 0),
 ca 6 F.zM [(t 5)],
 mv 3 (t 6)] [])
 (.seq (.ops [mv 7 (t 3),
 o 8 (.ibin .neq (t 7) (k 0))] [])
 (.cond (t 8)
 (.seq (.ops [mv 9 (t 3),
 mv 2 (t 9)] [])
 (.ret))
 (.skip))))
 (.seq (.ops [mv 10 (t 0),
 o 11 (.nilck (t 10)),
 fa 12 11 (t 11),
 l1 13 (t 12),
 ca 14 F.zoq [(t 13)],
 mv 4 (t 14)] [])
 (.seq (.ops [mv 15 (t 0),
 ca 16 F.z7 [(t 15)]] [])
 (.seq (.ops [mv 17 (t 4),
 mv 2 (t 17)] [])
 (.ret)))))
def zsX:List zd:=[.tmp 2]
def zu8:RCode:=
 .seq (.ops [mv 6 (k 0)] [])
 (.seq (.seq (.ops [mv 9 (t 0),
 ca 10 F.zM [(t 9)],
 mv 7 (t 10)] [])
 (.seq (.ops [mv 11 (t 7),
 o 12 (.ibin .neq (t 11) (k 0))] [])
 (.cond (t 12)
 (.seq (.ops [mv 13 (t 7),
 mv 6 (t 13)] [])
 (.ret))
 (.skip))))
 (.seq (.ops [mv 14 (t 0),
 o 15 (.nilck (t 14)),
 fa 16 13 (t 15),
 l1 17 (t 16),
 mv 18 (t 1),
 mv 19 (t 2),
 ca 20 F.ztD [(t 17),(t 18),(t 19)],
 mv 8 (t 20)] [])
 (.seq (.ops [mv 21 (t 0),
 ca 22 F.z7 [(t 21)]] [])
 (.seq (.ops [mv 23 (t 8),
 mv 6 (t 23)] [])
 (.ret)))))
def zu9:List zd:=[.tmp 6]
def zwL:RCode:=
 .seq (.ops [mv 4 (k 0)] [])
 (.seq (.seq (.ops [mv 5 (t 0),
 o 6 (.pnil .eql (t 5) (.const (.pointer none)))] [])
 (.cond (t 6)
 (.seq (.ops [mv 4 (k 16)] [])
 (.ret))
 (.skip)))
 (.seq (.ops [mv 7 (t 0),
 o 8 (.nilck (t 7)),
 fa 9 13 (t 8),
 l1 10 (t 9),
 mv 11 (t 1),
 ca 12 F.zbZ [(t 10),(t 11)],
 mv 4 (t 12)] [])
 (.ret)))
def zwM:List zd:=[.tmp 4]
def zwN:RCode:=
 .seq (.ops [mv 2 (kb false)] [])
 (.seq (.ops [mv 3 (t 0),
 o 4 (.pnil .eql (t 3) (.const (.pointer none))),
 os 5 (.mov (t 4)),
 gf 5 6 (.mov (t 0)),
 gf 5 7 (.nilck (t 6)),
 gf 5 8 (.faddr 11 (t 7)),
 gf 5 9 (.load false 1 (t 8)),
 gf 5 10 (.call (fn F.zO) [(t 9)]),
 o 11 (.pick (t 5) (kb true) (t 10)),
 mv 2 (t 11)] [])
 (.ret))
def zwO:List zd:=[.tmp 2]
def znw:RCode:=
 .seq (.ops [o 3 (.box 23 (t 1)),
 mv 4 (.const (.pointer none)),
 mv 5 (k 0)] [])
 (.seq (.seq (.ops [mv 8 (t 0),
 ca 9 F.zdc [(t 8),(k 63)],
 o 10 (.not (t 9)),
 os 11 (.mov (t 10)),
 gf 11 12 (.faddr 0 (t 3)),
 gf 11 13 (.load false 1 (t 12)),
 gf 11 14 (.call (fn F.zdc) [(t 13),(k 256)]),
 gf 11 15 (.not (t 14)),
 o 16 (.pick (t 11) (kb true) (t 15)),
 os 17 (.mov (t 16)),
 gf 17 18 (.faddr 1 (t 3)),
 gf 17 19 (.load false 1 (t 18)),
 gf 17 20 (.call (fn F.zdc) [(t 19),(k 1048576)]),
 gf 17 21 (.not (t 20)),
 o 22 (.pick (t 17) (kb true) (t 21)),
 os 23 (.mov (t 22)),
 gf 23 24 (.faddr 2 (t 3)),
 gf 23 25 (.load false 1 (t 24)),
 gf 23 26 (.call (fn F.zdc) [(t 25),(k 256)]),
 gf 23 27 (.not (t 26)),
 o 28 (.pick (t 23) (kb true) (t 27))] [])
 (.cond (t 28)
 (.seq (.ops [mv 4 (.const (.pointer none)),
 mv 5 (k 1)] [])
 (.ret))
 (.skip)))
 (.seq (.ops [fa 30 2 (t 3),
 l1 31 (t 30),
 ca 32 F.zor [(t 31)],
 mv 29 (t 32),
 ex 33 (t 29) 0,
 ex 34 (t 29) 1,
 mv 6 (t 33),
 mv 7 (t 34)] [])
 (.seq (.ops [mv 35 (t 0),
 la 36 3 (t 3),
 o 37 (.mkMap),
 mv 38 (t 6),
 o 39 (.build [(i 0),(i 0),(i 0),(i 0),(i 0),(i 0),(i 0),(i 0),(i 0),(i 0),(i 0),(i 0),(i 0),(i 0),(i 0),(i 0),(i 0),(i 0),(i 0),(i 0),(i 0),(i 0),(i 0),(i 0),(i 0),(i 0),(i 0),(i 0),(i 0),(i 0),(i 0),(i 0),(i 0),(i 0),(i 0),(i 0),(i 0),(i 0),(i 0),(i 0),(i 0),(i 0),(i 0),(i 0),(i 0),(i 0),(i 0),(i 0),(i 0),(i 0),(i 0),(i 0),(i 0),(i 0),(i 0),(i 0),(i 0),(i 0),(i 0),(i 0),(i 0),(i 0),(i 0),(i 0),(i 0),(i 0),(i 0),(i 0),(i 0),(.map none),(i 0),(i 0),(.pointer none)] [(0,1,(t 35)),(1,3,(t 36)),(69,1,(t 37)),(72,1,(t 38))]),
 o 40 (.box 123 (t 39)),
 mv 4 (t 40),
 mv 5 (k 0)] [])
 (.ret))))
def znx:List zd:=[.tmp 4,.tmp 5]
theorem zCO {args:List Value} {M:Mem} {R:Value→Mem→Prop} (hn:args.length≤41) (h:zi Tryz.prog znw znx args M R):CallsM Tryz.prog F.zkk args M R:=
 zf (kf:=fun _=>[]) Tryz.func26 (by kernel_rfl) (by kernel_rfl) hn (by kernel_rfl) h
def zqd:RCode:=
 .seq (.ops [mv 6 (kb false)] [])
 (.seq (.ops [mv 7 (t 0),
 mv 8 (t 1),
 o 9 (.ibin .geq (t 7) (t 8)),
 os 10 (.mov (t 9)),
 gt 10 11 (.mov (t 0)),
 gt 10 12 (.mov (t 2)),
 gt 10 13 (.ibin .leq (t 11) (t 12)),
 o 14 (.pick (t 10) (t 13) (kb false)),
 mv 6 (t 14)] [])
 (.ret))
def zqe:List zd:=[.tmp 6]
theorem zFP {args:List Value} {M:Mem} {R:Value→Mem→Prop} (hn:args.length≤15) (h:zi Tryz.prog zqd zqe args M R):CallsM Tryz.prog F.zeC args M R:=
 zf (kf:=fun _=>[]) Tryz.func27 (by kernel_rfl) (by kernel_rfl) hn (by kernel_rfl) h
def zDP:RCode:=
 .seq (.ops [o 3 (.box 23 (t 1)),
 o 4 (.alloc 74 [(i 0),(i 0),(i 0),(i 0),(i 0),sn,sn,(i 0),sn]),
 mv 5 (k 0)] [])
 (.seq (.seq (.ops [mv 6 (t 0),
 ca 7 F.zi7 [(t 6),(k 63)],
 o 8 (.not (t 7)),
 os 9 (.mov (t 8)),
 gf 9 10 (.faddr 0 (t 3)),
 gf 9 11 (.load false 1 (t 10)),
 gf 9 12 (.call (fn F.zi7) [(t 11),(k 256)]),
 gf 9 13 (.not (t 12)),
 o 14 (.pick (t 9) (kb true) (t 13)),
 os 15 (.mov (t 14)),
 gf 15 16 (.faddr 1 (t 3)),
 gf 15 17 (.load false 1 (t 16)),
 gf 15 18 (.call (fn F.zi7) [(t 17),(k 1048576)]),
 gf 15 19 (.not (t 18)),
 o 20 (.pick (t 15) (kb true) (t 19)),
 os 21 (.mov (t 20)),
 gf 21 22 (.faddr 2 (t 3)),
 gf 21 23 (.load false 1 (t 22)),
 gf 21 24 (.call (fn F.zi7) [(t 23),(k 256)]),
 gf 21 25 (.not (t 24)),
 o 26 (.pick (t 21) (kb true) (t 25))] [])
 (.cond (t 26)
 (.seq (.ops [o 27 (.build [(i 0),(i 0),(i 0),(i 0),(i 0),sn,sn,(i 0),sn] []),
 st 9 (t 4) (t 27),
 mv 5 (k 1)] [])
 (.ret))
 (.skip)))
 (.seq (.ops [mv 28 (t 0),
 la 29 3 (t 3),
 fa 30 2 (t 3),
 l1 31 (t 30),
 o 32 (.build [(i 0),sn] [(0,1,(t 31))]),
 o 33 (.build [(i 0),(i 0),(i 0),(i 0),(i 0),sn,sn,(i 0),sn] [(0,1,(t 28)),(1,3,(t 29)),(7,2,(t 32))]),
 st 9 (t 4) (t 33),
 mv 5 (k 0)] [])
 (.ret)))
def zDQ:List zd:=[.cell true 9 4,.tmp 5]
def zzt:RCode:=
 .seq (.ops [mv 6 (kb false)] [])
 (.seq (.ops [mv 7 (t 0),
 mv 8 (t 1),
 o 9 (.ibin .geq (t 7) (t 8)),
 os 10 (.mov (t 9)),
 gt 10 11 (.mov (t 0)),
 gt 10 12 (.mov (t 2)),
 gt 10 13 (.ibin .leq (t 11) (t 12)),
 o 14 (.pick (t 10) (t 13) (kb false)),
 mv 6 (t 14)] [])
 (.ret))
def zzu:List zd:=[.tmp 6]
def zou:RCode:=
 .seq (.ops [mv 2 (.const (.pointer none)),
 mv 3 (k 0)] [])
 (.seq (.seq (.ops [mv 4 (t 0),
 o 5 (.ibin .lss (t 4) (k 1)),
 os 6 (.mov (t 5)),
 gf 6 7 (.mov (t 0)),
 gf 6 8 (.ibin .gtr (t 7) (k 1048576)),
 o 9 (.pick (t 6) (kb true) (t 8))] [])
 (.cond (t 9)
 (.seq (.ops [mv 2 (.const (.pointer none)),
 mv 3 (k 1)] [])
 (.ret))
 (.skip)))
 (.seq (.ops [mv 10 (t 0),
 o 11 (.mkMap),
 o 12 (.build [(i 0),(.map none),(i 0),(.bool false)] [(0,1,(t 10)),(1,1,(t 11)),(2,1,(k (-1)))]),
 o 13 (.box 126 (t 12)),
 mv 2 (t 13),
 mv 3 (k 0)] [])
 (.ret)))
def zov:List zd:=[.tmp 2,.tmp 3]
theorem zDR {args:List Value} {M:Mem} {R:Value→Mem→Prop} (hn:args.length≤14) (h:zi Tryz.prog zou zov args M R):CallsM Tryz.prog F.zoo args M R:=
 zf (kf:=fun _=>[]) Tryz.func30 (by kernel_rfl) (by kernel_rfl) hn (by kernel_rfl) h
def zow:RCode:=
 .seq (.ops [o 7 (.box 25 (t 3)),
 mv 8 (.const (.pointer none)),
 mv 9 (k 0)] [])
 (.seq (.ops [mv 23 (t 0),
 mv 24 (t 1),
 ca 25 F.zpk [(t 23),(t 24),(k 64)],
 mv 22 (t 25),
 ex 26 (t 22) 0,
 ex 27 (t 22) 1,
 mv 10 (t 26),
 mv 11 (t 27)] [])
 (.seq (.seq (.ops [mv 28 (t 11),
 o 29 (.ibin .neq (t 28) (k 0))] [])
 (.cond (t 29)
 (.seq (.ops [mv 30 (t 11),
 mv 8 (.const (.pointer none)),
 mv 9 (t 30)] [])
 (.ret))
 (.skip)))
 (.seq (.seq (.ops [la 31 10 (t 7),
 ca 32 F.zl5 [(t 31)],
 mv 12 (t 32)] [])
 (.seq (.ops [mv 33 (t 12),
 o 34 (.ibin .neq (t 33) (k 0))] [])
 (.cond (t 34)
 (.seq (.ops [mv 35 (t 12),
 mv 8 (.const (.pointer none)),
 mv 9 (t 35)] [])
 (.ret))
 (.skip))))
 (.seq (.ops [mv 37 (t 2),
 mv 38 (t 0),
 fa 39 0 (t 7),
 la 40 3 (t 39),
 fa 41 4 (t 7),
 l1 42 (t 41),
 ca 43 F.zm1 [(t 37),(t 38),(t 40),(t 42)],
 mv 36 (t 43),
 ex 44 (t 36) 0,
 ex 45 (t 36) 1,
 mv 13 (t 44),
 mv 11 (t 45)] [])
 (.seq (.seq (.ops [mv 46 (t 11),
 o 47 (.ibin .neq (t 46) (k 0))] [])
 (.cond (t 47)
 (.seq (.ops [mv 48 (t 11),
 mv 8 (.const (.pointer none)),
 mv 9 (t 48)] [])
 (.ret))
 (.skip)))
 (.seq (.ops [fa 50 8 (t 7),
 l1 51 (t 50),
 ca 52 F.ztE [(t 51)],
 mv 49 (t 52),
 ex 53 (t 49) 0,
 ex 54 (t 49) 1,
 mv 14 (t 53),
 mv 15 (t 54)] [])
 (.seq (.ops [mv 55 (t 0),
 la 56 10 (t 7),
 mv 57 (t 13),
 o 58 (.mkMap),
 mv 59 (t 10),
 mv 60 (t 14),
 o 61 (.build [(i 0),(i 0),(i 0),(i 0),(i 0),(i 0),(i 0),(i 0),(i 0),(i 0),(i 0),(.pointer none),(.map none),(.pointer none),(.pointer none),sn,(i 0),(i 0)] [(0,1,(t 55)),(1,10,(t 56)),(11,1,(t 57)),(12,1,(t 58)),(13,1,(t 59)),(14,1,(t 60))]),
 o 62 (.box 91 (t 61)),
 mv 16 (t 62)] [])
 (.seq (.ops [mv 63 (t 13),
 ca 64 F.zbO [(t 63)],
 o 65 (.field false 1 1 (t 64)),
 o 66 (.ibin .mul (k 512) (t 65)),
 o 67 (.ibin .rem (t 66) (k 65536)),
 mv 17 (t 67)] [])
 (.seq (.seq (.ops [mv 68 (t 1),
 o 69 (.len (t 68)),
 mv 70 (k 0)] [])
 (.block 0 (.loop (.seq (.ops [o 71 (.ibin .lss (t 70) (t 69))] [])
 (.seq (.cond (t 71)
  (.skip)
  (.exit 0))
 (.seq (.block 1 (.seq (.ops [o 72 (.iaddr 1 (t 68) (t 70)),
 l1 73 (t 72),
 mv 19 (t 73)] [])
 (.seq (.ops [mv 75 (t 17),
 fa 76 5 (t 7),
 l1 77 (t 76),
 fa 78 6 (t 7),
 l1 79 (t 78),
 fa 80 7 (t 7),
 l1 81 (t 80),
 ca 82 F.zrW [(t 75),(t 77),(t 79),(t 81)],
 mv 74 (t 82),
 ex 83 (t 74) 0,
 ex 84 (t 74) 1,
 mv 20 (t 83),
 mv 21 (t 84)] [])
 (.draw (.take (mv 85 (t 16)) (.take (o 86 (.nilck (t 85))) (.take (fa 87 12 (t 86)) (.take (l1 88 (t 87)) (.take (mv 89 (t 19)) (.take (mv 90 (t 20)) (.alt (ca 91 F.zrX []) true
  (.take (o 92 (.build [(.pointer none),(.pointer none),(i 0),sn] [(0,1,(t 90)),(1,1,(t 91))])) (.alt (o 93 (.box 96 (t 92))) false
  (.alt (e (.mset .int (t 88) (t 89) (t 93))) false
   (.done)
   (.none))
  (.none)))
  (.none)))))))) []))))
 (.ops [ad 94 (t 70) (k 1),
 mv 70 (t 94)] [])))))))
 (.seq (.ops [mv 95 (t 16),
 ca 96 F.z7 [(t 95)]] [])
 (.seq (.ops [mv 97 (t 16),
 mv 8 (t 97),
 mv 9 (k 0)] [])
 (.ret))))))))))))
def zox:List zd:=[.tmp 8,.tmp 9]
theorem zDS {args:List Value} {M:Mem} {R:Value→Mem→Prop} (hn:args.length≤98) (h:zi Tryz.prog zow zox args M R):CallsM Tryz.prog F.zop args M R:=
 zf (kf:=fun _=>[]) Tryz.func31 (by kernel_rfl) (by kernel_rfl) hn (by kernel_rfl) h
def zkN:RCode:=
 .seq (.ops [mv 6 (t 0),
 ca 7 F.zZ [(t 6),(k 1)],
 mv 4 (t 7)] [])
 (.seq (.ops [mv 8 (t 1),
 ca 9 F.zZ [(t 8),(k 0)],
 mv 5 (t 9)] [])
 (.seq (.ops [mv 10 (t 1),
 mv 11 (t 4),
 ca 12 F.zJ [(t 10),(k 0),(t 11)]] [])
 (.ops [mv 13 (t 0),
 mv 14 (t 5),
 ca 15 F.zJ [(t 13),(k 1),(t 14)]] [])))
def zkO:List zd:=[]
theorem zzv {args:List Value} {M:Mem} {R:Value→Mem→Prop} (hn:args.length≤16) (h:zi Tryz.prog zkN zkO args M R):CallsM Tryz.prog F.zh args M R:=
 zf (kf:=fun _=>[]) Tryz.func32 (by kernel_rfl) (by kernel_rfl) hn (by kernel_rfl) h
def zfs:RCode:=
 .seq (.ops [mv 2 (k 0)] [])
 (.seq (.seq (.ops [mv 3 (t 0),
 o 4 (.pnil .eql (t 3) (.const (.pointer none)))] [])
 (.cond (t 4)
 (.seq (.ops [mv 2 (k 7)] [])
 (.ret))
 (.skip)))
 (.seq (.seq (.ops [mv 5 (t 0),
 o 6 (.nilck (t 5)),
 fa 7 11 (t 6),
 l1 8 (t 7),
 ca 9 F.zO [(t 8)]] [])
 (.cond (t 9)
 (.seq (.ops [mv 2 (k 9)] [])
 (.ret))
 (.skip)))
 (.seq (.ops [mv 2 (k 0)] [])
 (.ret))))
def zft:List zd:=[.tmp 2]
theorem zt3 {args:List Value} {M:Mem} {R:Value→Mem→Prop} (hn:args.length≤10) (h:zi Tryz.prog zfs zft args M R):CallsM Tryz.prog F.zM args M R:=
 zf (kf:=fun _=>[]) Tryz.func33 (by kernel_rfl) (by kernel_rfl) hn (by kernel_rfl) h
def zbz:RCode:=
 .seq (.ops [o 6 (.alloc 37 [(i 0),(i 0),(i 0),(i 0)]),
 mv 7 (k 0)] [])
 (.seq (.seq (.ops [mv 11 (t 0),
 ca 12 F.za3 [(t 11)],
 mv 8 (t 12)] [])
 (.seq (.ops [mv 13 (t 8),
 o 14 (.ibin .neq (t 13) (k 0))] [])
 (.cond (t 14)
 (.seq (.ops [o 15 (.build [(i 0),(i 0),(i 0),(i 0)] []),
 mv 16 (t 8),
 st 4 (t 6) (t 15),
 mv 7 (t 16)] [])
 (.ret))
 (.skip))))
 (.seq (.ops [mv 18 (t 0),
 o 19 (.nilck (t 18)),
 fa 20 0 (t 19),
 fa 21 0 (t 20),
 l1 22 (t 21),
 mv 23 (t 1),
 ca 24 F.zhK [(t 22),(t 23)],
 mv 17 (t 24),
 ex 25 (t 17) 0,
 ex 26 (t 17) 1,
 o 9 (.alloc 37 [(i 0),(i 0),(i 0),(i 0)]),
 st 4 (t 9) (t 25),
 mv 10 (t 26)] [])
 (.seq (.seq (.ops [mv 27 (t 10),
 o 28 (.ibin .eql (t 27) (k 0)),
 os 29 (.mov (t 28)),
 gt 29 30 (.mov (t 0)),
 gt 29 31 (.nilck (t 30)),
 gt 29 32 (.faddr 5 (t 31)),
 gt 29 33 (.load false 1 (t 32)),
 o 34 (.pick (t 29) (t 33) (kb false))] [])
 (.cond (t 34)
 (.ops [mv 10 (k 10)] [])
 (.skip)))
 (.seq (.seq (.ops [mv 35 (t 10),
 o 36 (.ibin .eql (t 35) (k 0))] [])
 (.cond (t 36)
 (.ops [mv 37 (t 0),
 la 38 4 (t 9),
 mv 39 (t 2),
 o 40 (.build [(i 0),(i 0),(i 0),(i 0),sn] [(0,4,(t 38)),(4,1,(t 39))]),
 o 41 (.build [(i 0),(i 0),(i 0),(i 0),(i 0),sn] [(0,1,(k 2)),(1,5,(t 40))]),
 ca 42 F.zar [(t 37),(t 41),(kb true)],
 mv 10 (t 42)] [])
 (.skip)))
 (.seq (.seq (.ops [mv 43 (t 10),
 o 44 (.ibin .neq (t 43) (k 0))] [])
 (.cond (t 44)
 (.seq (.ops [o 45 (.build [(i 0),(i 0),(i 0),(i 0)] []),
 mv 46 (t 10),
 st 4 (t 6) (t 45),
 mv 7 (t 46)] [])
 (.ret))
 (.skip)))
 (.seq (.ops [la 47 4 (t 9),
 st 4 (t 6) (t 47),
 mv 7 (k 0)] [])
 (.ret)))))))
def zbA:List zd:=[.cell true 4 6,.tmp 7]
theorem zoy {args:List Value} {M:Mem} {R:Value→Mem→Prop} (hn:args.length≤48) (h:zi Tryz.prog zbz zbA args M R):CallsM Tryz.prog F.zdx args M R:=
 zf (kf:=fun _=>[]) Tryz.func34 (by kernel_rfl) (by kernel_rfl) hn (by kernel_rfl) h
def zfu:RCode:=
 .seq (.ops [mv 2 (.const sn)] [])
 (.seq (.seq (.ops [mv 15 (t 0),
 ca 16 F.zb5 [(t 15)],
 o 17 (.len (t 16)),
 mv 18 (k 0)] [])
 (.block 0 (.loop (.seq (.ops [o 19 (.ibin .lss (t 18) (t 17))] [])
 (.seq (.cond (t 19)
  (.skip)
  (.exit 0))
 (.seq (.block 1 (.seq (.ops [o 20 (.iaddr 1 (t 16) (t 18)),
 l1 21 (t 20),
 mv 4 (t 21)] [])
 (.seq (.ops [mv 22 (t 0),
 o 23 (.nilck (t 22)),
 fa 24 12 (t 23),
 l1 25 (t 24),
 mv 26 (t 4),
 o 27 (.mget .int false (.pointer none) (t 25) (t 26)),
 mv 5 (t 27)] [])
 (.seq (.seq (.draw (.take (mv 28 (t 5)) (.take (o 29 (.nilck (t 28))) (.take (fa 30 0 (t 29)) (.take (l1 31 (t 30)) (.take (mv 33 (t 5)) (.take (o 34 (.nilck (t 33))) (.take (fa 35 2 (t 34)) (.take (l1 36 (t 35)) (.alt (ca 32 F.zeD [(t 31)]) true
  (.take (o 37 (.ibin .neq (t 32) (t 36))) (.done))
  (.none)))))))))) [])
 (.cond (t 37)
  (.seq (.ops [mv 38 (t 5),
  mv 39 (t 5),
  o 40 (.nilck (t 39)),
  fa 41 0 (t 40),
  l1 42 (t 41),
  ca 43 F.zeD [(t 42)],
  o 44 (.nilck (t 38)),
  fa 45 2 (t 44),
  st 1 (t 45) (t 43)] [])
  (.ops [mv 46 (t 0),
  o 47 (.nilck (t 46)),
  fa 48 14 (t 47),
  l1 49 (t 48),
  mv 50 (t 4),
  ca 51 F.zld [(t 49),(t 50)]] []))
  (.skip)))
 (.seq (.ops [mv 52 (t 5),
 o 53 (.nilck (t 52)),
 fa 54 0 (t 53),
 l1 55 (t 54),
 ca 56 F.zb4 [(t 55)]] [])
 (.cond (t 56)
  (.ops [mv 57 (t 2),
  mv 58 (t 4),
  o 59 (.mkSl true 3 1 [(i 0)] [(0,1,(t 58))]),
  o 60 (.app 3 1 8 [(i 0)] (t 57) (t 59)),
  mv 2 (t 60)] [])
  (.skip)))))))
 (.ops [ad 61 (t 18) (k 1),
 mv 18 (t 61)] [])))))))
 (.seq (.seq (.ops [mv 62 (t 0),
 o 63 (.nilck (t 62)),
 fa 64 11 (t 63),
 l1 65 (t 64),
 ca 66 F.zO [(t 65)],
 o 67 (.not (t 66))] [])
 (.cond (t 67)
 (.ops [mv 68 (t 0),
 mv 69 (t 2),
 ca 70 F.zjR [(t 68),(t 69)]] [])
 (.skip)))
 (.seq (.ops [mv 71 (t 0),
 ca 72 F.zb5 [(t 71)],
 o 73 (.len (t 72)),
 mv 74 (k 0)] [])
 (.block 2 (.loop (.seq (.ops [o 75 (.ibin .lss (t 74) (t 73))] [])
 (.seq (.cond (t 75)
  (.skip)
  (.exit 2))
 (.seq (.block 3 (.seq (.ops [o 76 (.iaddr 1 (t 72) (t 74)),
 l1 77 (t 76),
 mv 7 (t 77)] [])
 (.seq (.ops [mv 78 (t 0),
 o 79 (.nilck (t 78)),
 fa 80 12 (t 79),
 l1 81 (t 80),
 mv 82 (t 7),
 o 83 (.mget .int false (.pointer none) (t 81) (t 82)),
 mv 8 (t 83)] [])
 (.seq (.ops [mv 84 (t 8),
 o 85 (.nilck (t 84)),
 fa 86 0 (t 85),
 l1 87 (t 86),
 ca 88 F.zl9 [(t 87)],
 o 89 (.len (t 88)),
 mv 90 (k 0)] [])
 (.block 4 (.loop (.seq (.ops [o 91 (.ibin .lss (t 90) (t 89))] [])
  (.seq (.cond (t 91)
  (.skip)
  (.exit 4))
  (.seq (.block 5 (.seq (.ops [o 92 (.iaddr 7 (t 88) (t 90)),
  la 93 7 (t 92),
  o 10 (.alloc 101 [(i 0),(i 0),(i 0),(.bool false),(i 0),(i 0),sn]),
  st 7 (t 10) (t 93)] [])
  (.seq (.ops [la 95 7 (t 10),
  ca 96 F.zn2 [(t 95)],
  mv 94 (t 96),
  ex 97 (t 94) 0,
  ex 98 (t 94) 1,
  mv 11 (t 97),
  mv 12 (t 98)] [])
  (.seq (.ops [mv 100 (t 11),
  ca 101 F.zn3 [(t 100)],
  mv 99 (t 101),
  ex 102 (t 99) 0,
  ex 103 (t 99) 1,
  mv 13 (t 102),
  mv 14 (t 103)] [])
  (.ops [mv 104 (t 8),
  mv 105 (t 8),
  o 106 (.nilck (t 105)),
  fa 107 3 (t 106),
  l1 108 (t 107),
  mv 109 (t 13),
  o 110 (.app 5 1 1 [(u 0)] (t 108) (t 109)),
  o 111 (.nilck (t 104)),
  fa 112 3 (t 111),
  st 1 (t 112) (t 110)] [])))))
  (.ops [ad 113 (t 90) (k 1),
  mv 90 (t 113)] []))))))))))
 (.ops [ad 114 (t 74) (k 1),
 mv 74 (t 114)] [])))))))))
def zfv:List zd:=[]
theorem zt4 {args:List Value} {M:Mem} {R:Value→Mem→Prop} (hn:args.length≤115) (h:zi Tryz.prog zfu zfv args M R):CallsM Tryz.prog F.z7 args M R:=
 zf (kf:=fun _=>[]) Tryz.func35 (by kernel_rfl) (by kernel_rfl) hn (by kernel_rfl) h
def zCP:RCode:=
 .seq (.ops [o 2 (.box 44 (t 0)),
 o 4 (.alloc 44 [(.bool false),sn,(i 0),(i 0),(i 0),(i 0),(i 0)]),
 mv 5 (.const sn)] [])
 (.seq (.seq (.ops [mv 9 (t 1),
 o 10 (.ibin .eql (t 9) (.const (u 126)))] [])
 (.cond (t 10)
 (.seq (.seq (.ops [fa 11 0 (t 2),
 l1 12 (t 11),
 os 13 (.mov (t 12)),
 gf 13 14 (.faddr 1 (t 2)),
 gf 13 15 (.load false 1 (t 14)),
 gf 13 16 (.len (t 15)),
 gf 13 17 (.ibin .eql (t 16) (k 0)),
 o 18 (.pick (t 13) (kb true) (t 17))] [])
 (.cond (t 18)
  (.seq (.ops [fa 19 2 (t 2),
  la 20 5 (t 19),
  o 21 (.build [(.bool false),sn,(i 0),(i 0),(i 0),(i 0),(i 0)] [(2,5,(t 20))]),
  st 7 (t 4) (t 21),
  mv 5 (.const sn)] [])
  (.ret))
  (.skip)))
 (.seq (.ops [fa 23 1 (t 2),
 l1 24 (t 23),
 ca 25 F.zma [(t 24)],
 mv 22 (t 25),
 ex 26 (t 22) 0,
 ex 27 (t 22) 1,
 mv 6 (t 26),
 mv 7 (t 27)] [])
 (.seq (.ops [fa 28 2 (t 2),
 la 29 5 (t 28),
 mv 30 (t 6),
 ca 31 F.zev [(t 29),(t 30)],
 o 32 (.build [(.bool false),sn,(i 0),(i 0),(i 0),(i 0),(i 0)] [(2,5,(t 31))]),
 mv 33 (t 7),
 st 7 (t 4) (t 32),
 mv 5 (t 33)] [])
 (.ret))))
 (.skip)))
 (.seq (.seq (.ops [fa 34 0 (t 2),
 l1 35 (t 34)] [])
 (.cond (t 35)
 (.seq (.ops [la 36 7 (t 2),
 st 7 (t 4) (t 36),
 mv 5 (.const sn)] [])
 (.ret))
 (.skip)))
 (.seq (.seq (.ops [fa 37 1 (t 2),
 l1 38 (t 37),
 o 39 (.len (t 38)),
 o 40 (.ibin .geq (t 39) (k 260))] [])
 (.cond (t 40)
 (.seq (.ops [fa 41 2 (t 2),
 la 42 5 (t 41),
 ca 43 F.zev [(t 42),(k 4)],
 o 44 (.build [(.bool false),sn,(i 0),(i 0),(i 0),(i 0),(i 0)] [(0,1,(kb true)),(2,5,(t 43))]),
 st 7 (t 4) (t 44),
 mv 5 (.const sn)] [])
 (.ret))
 (.skip)))
 (.seq (.ops [o 45 (.mkSl false 5 0 [] []),
 fa 46 1 (t 2),
 l1 47 (t 46),
 o 48 (.app 5 1 1 [(u 0)] (t 45) (t 47)),
 mv 8 (t 48)] [])
 (.seq (.draw (.take (mv 49 (t 8)) (.take (mv 50 (t 1)) (.take (fa 53 2 (t 2)) (.take (la 54 5 (t 53)) (.alt (o 51 (.mkSl true 5 1 [(u 0)] [(0,1,(t 50))])) false
 (.alt (o 52 (.app 5 1 1 [(u 0)] (t 49) (t 51))) true
  (.take (o 55 (.build [(.bool false),sn,(i 0),(i 0),(i 0),(i 0),(i 0)] [(1,1,(t 52)),(2,5,(t 54))])) (.alt (st 7 (t 4) (t 55)) false
  (.take (mv 5 (.const sn)) (.done))
  (.none)))
  (.none))
 (.none)))))) [])
 (.ret))))))
def zCQ:List zd:=[.cell true 7 4,.tmp 5]
def zbP:RCode:=
 .seq (.ops [o 2 (.alloc 52 [(i 0),(i 0),sn,sn,sn])] [])
 (.seq (.seq (.ops [mv 3 (t 0),
 o 4 (.pnil .eql (t 3) (.const (.pointer none)))] [])
 (.cond (t 4)
 (.seq (.ops [o 5 (.build [(i 0),(i 0),sn,sn,sn] []),
 st 5 (t 2) (t 5)] [])
 (.ret))
 (.skip)))
 (.seq (.ops [mv 6 (t 0),
 o 7 (.nilck (t 6)),
 fa 8 0 (t 7),
 fa 9 0 (t 8),
 l1 10 (t 9),
 ca 11 F.zdO [(t 10)],
 st 5 (t 2) (t 11)] [])
 (.ret)))
def zbQ:List zd:=[.cell true 5 2]
theorem zpu {args:List Value} {M:Mem} {R:Value→Mem→Prop} (hn:args.length≤12) (h:zi Tryz.prog zbP zbQ args M R):CallsM Tryz.prog F.zbO args M R:=
 zf (kf:=fun _=>[]) Tryz.func37 (by kernel_rfl) (by kernel_rfl) hn (by kernel_rfl) h
def zdU:RCode:=
 .seq (.ops [mv 4 (.const sn)] [])
 (.seq (.seq (.ops [mv 9 (t 0),
 o 10 (.pnil .eql (t 9) (.const (.pointer none)))] [])
 (.cond (t 10)
 (.seq (.ops [mv 4 (.const sn)] [])
 (.ret))
 (.skip)))
 (.seq (.ops [mv 11 (t 0),
 o 12 (.mval F.zbe (t 11)),
 mv 5 (t 12)] [])
 (.seq (.seq (.ops [mv 13 (t 1),
 o 14 (.len (t 13)),
 mv 15 (k 0)] [])
 (.block 0 (.loop (.seq (.ops [o 16 (.ibin .lss (t 15) (t 14))] [])
 (.seq (.cond (t 16)
  (.skip)
  (.exit 0))
 (.seq (.block 1 (.seq (.ops [o 17 (.iaddr 1 (t 13) (t 15)),
 l1 18 (t 17),
 mv 7 (t 18)] [])
 (.ops [mv 19 (t 5),
 mv 20 (t 7),
 o 21 (.call (t 19) [(t 20)])] [])))
 (.ops [ad 22 (t 15) (k 1),
 mv 15 (t 22)] [])))))))
 (.seq (.ops [mv 23 (t 0),
 o 24 (.nilck (t 23)),
 fa 25 7 (t 24),
 l1 26 (t 25),
 mv 8 (t 26)] [])
 (.seq (.ops [mv 27 (t 0),
 o 28 (.nilck (t 27)),
 fa 29 7 (t 28),
 st 1 (t 29) (.const sn)] [])
 (.seq (.ops [mv 30 (t 8),
 mv 4 (t 30)] [])
 (.ret)))))))
def zdV:List zd:=[.tmp 4]
theorem zsg {args:List Value} {M:Mem} {R:Value→Mem→Prop} (hn:args.length≤31) (h:zi Tryz.prog zdU zdV args M R):CallsM Tryz.prog F.zbd args M R:=
 zf (kf:=fun _=>[]) Tryz.func38 (by kernel_rfl) (by kernel_rfl) hn (by kernel_rfl) h
def zkP:RCode:=
 .seq (.ops [o 2 (.alloc 101 [(i 0),(i 0),(i 0),(.bool false),(i 0),(i 0),sn]),
 mv 3 (k 0)] [])
 (.seq (.seq (.ops [mv 12 (t 0),
 o 13 (.len (t 12)),
 o 14 (.ibin .lss (t 13) (k 6)),
 os 15 (.mov (t 14)),
 gf 15 16 (.mov (t 0)),
 gf 15 17 (.iaddr 1 (t 16) (k 0)),
 gf 15 18 (.load false 1 (t 17)),
 gf 15 19 (.ibin .neq (t 18) (.const (u 3))),
 o 20 (.pick (t 15) (kb true) (t 19))] [])
 (.cond (t 20)
 (.seq (.ops [o 21 (.build [(i 0),(i 0),(i 0),(.bool false),(i 0),(i 0),sn] []),
 st 7 (t 2) (t 21),
 mv 3 (k 2)] [])
 (.ret))
 (.skip)))
 (.seq (.ops [mv 23 (t 0),
 o 24 (.iaddr 1 (t 23) (k 1)),
 l1 25 (t 24),
 ca 26 F.zm2 [(t 25)],
 mv 22 (t 26),
 ex 27 (t 22) 0,
 ex 28 (t 22) 1,
 mv 4 (t 27),
 mv 5 (t 28)] [])
 (.seq (.ops [mv 29 (t 4),
 o 30 (.build [(i 0),(i 0),(i 0),(.bool false),(i 0),(i 0),sn] [(0,1,(t 29))]),
 o 6 (.alloc 101 [(i 0),(i 0),(i 0),(.bool false),(i 0),(i 0),sn]),
 st 7 (t 6) (t 30)] [])
 (.seq (.ops [mv 7 (k 2)] [])
 (.seq (.seq (.ops [mv 31 (t 5)] [])
 (.cond (t 31)
 (.seq (.ops [mv 7 (k 3)] [])
 (.seq (.draw (.take (mv 32 (t 0)) (.take (o 33 (.iaddr 1 (t 32) (k 2))) (.take (l1 34 (t 33)) (.take (o 35 (.ibin .shr (t 34) (.const (.int .u64 1)))) (.take (o 36 (.conv .i64 (t 35))) (.take (mv 37 (t 0)) (.take (o 38 (.iaddr 1 (t 37) (k 2))) (.take (l1 39 (t 38)) (.take (o 40 (.ibin .and (t 39) (.const (u 1)))) (.take (o 41 (.ibin .eql (t 40) (.const (u 1)))) (.take (fa 42 2 (t 6)) (.alt (st 1 (t 42) (t 36)) true
  (.take (fa 43 3 (t 6)) (.alt (st 1 (t 43) (t 41)) false
  (.done)
  (.none)))
  (.none))))))))))))) [])
 (.seq (.ops [mv 44 (t 4),
 o 45 (.ibin .eql (t 44) (k 1))] [])
 (.cond (t 45)
  (.ops [mv 46 (t 0),
  o 47 (.iaddr 1 (t 46) (k 1)),
  l1 48 (t 47),
  o 49 (.ibin .shr (t 48) (.const (.int .u64 1))),
  o 50 (.conv .i64 (t 49)),
  fa 51 1 (t 6),
  st 1 (t 51) (t 50)] [])
  (.skip)))))
 (.ops [mv 52 (t 0),
 o 53 (.iaddr 1 (t 52) (k 1)),
 l1 54 (t 53),
 o 55 (.ibin .and (t 54) (.const (u 16))),
 o 56 (.ibin .neq (t 55) (.const (u 0))),
 fa 57 3 (t 6),
 st 1 (t 57) (t 56)] [])))
 (.seq (.ops [mv 59 (t 0),
 mv 60 (t 7),
 ca 61 F.zbw [(t 59),(t 60),(k 2)],
 mv 58 (t 61),
 ex 62 (t 58) 0,
 ex 63 (t 58) 1,
 mv 8 (t 62),
 mv 9 (t 63)] [])
 (.seq (.ops [mv 65 (t 0),
 mv 66 (t 7),
 ad 67 (t 66) (k 2),
 ca 68 F.zbw [(t 65),(t 67),(k 2)],
 mv 64 (t 68),
 ex 69 (t 64) 0,
 ex 70 (t 64) 1,
 mv 10 (t 69),
 mv 11 (t 70)] [])
 (.seq (.seq (.ops [mv 71 (t 9),
 o 72 (.ibin .neq (t 71) (k 0)),
 os 73 (.mov (t 72)),
 gf 73 74 (.mov (t 11)),
 gf 73 75 (.ibin .neq (t 74) (k 0)),
 o 76 (.pick (t 73) (kb true) (t 75))] [])
 (.cond (t 76)
 (.seq (.ops [o 77 (.build [(i 0),(i 0),(i 0),(.bool false),(i 0),(i 0),sn] []),
 st 7 (t 2) (t 77),
 mv 3 (k 2)] [])
 (.ret))
 (.skip)))
 (.seq (.ops [mv 78 (t 8),
 o 79 (.conv .i64 (t 78)),
 mv 80 (t 10),
 o 81 (.conv .i64 (t 80)),
 fa 82 4 (t 6),
 st 1 (t 82) (t 79),
 fa 83 5 (t 6),
 st 1 (t 83) (t 81)] [])
 (.seq (.ops [o 84 (.mkSl false 5 0 [] []),
 mv 85 (t 0),
 mv 86 (t 7),
 ad 87 (t 86) (k 4),
 o 88 (.slx 1 (t 85) (some (t 87)) none),
 o 89 (.app 5 1 1 [(u 0)] (t 84) (t 88)),
 fa 90 6 (t 6),
 st 1 (t 90) (t 89)] [])
 (.seq (.seq (.ops [la 91 7 (t 6),
 ca 92 F.zeE [(t 91)],
 o 93 (.ibin .neq (t 92) (k 0))] [])
 (.cond (t 93)
 (.seq (.ops [o 94 (.build [(i 0),(i 0),(i 0),(.bool false),(i 0),(i 0),sn] []),
 st 7 (t 2) (t 94),
 mv 3 (k 2)] [])
 (.ret))
 (.skip)))
 (.seq (.ops [la 95 7 (t 6),
 st 7 (t 2) (t 95),
 mv 3 (k 0)] [])
 (.ret)))))))))))))
def zkQ:List zd:=[.cell true 7 2,.tmp 3]
theorem zzw {args:List Value} {M:Mem} {R:Value→Mem→Prop} (hn:args.length≤96) (h:zi Tryz.prog zkP zkQ args M R):CallsM Tryz.prog F.zkF args M R:=
 zf (kf:=fun _=>[]) Tryz.func39 (by kernel_rfl) (by kernel_rfl) hn (by kernel_rfl) h
def zdW:RCode:=
 .seq (.ops [o 3 (.box 101 (t 1)),
 mv 4 (k 0)] [])
 (.seq (.seq (.ops [mv 6 (t 0),
 o 7 (.pnil .eql (t 6) (.const (.pointer none)))] [])
 (.cond (t 7)
 (.seq (.ops [mv 4 (k 7)] [])
 (.ret))
 (.skip)))
 (.seq (.seq (.ops [la 8 7 (t 3),
 ca 9 F.zeE [(t 8)],
 mv 5 (t 9)] [])
 (.seq (.ops [mv 10 (t 5),
 o 11 (.ibin .neq (t 10) (k 0))] [])
 (.cond (t 11)
 (.seq (.ops [mv 12 (t 5),
 mv 4 (t 12)] [])
 (.ret))
 (.skip))))
 (.seq (.block 0 (.seq (.ops [fa 14 0 (t 3),
 l1 15 (t 14),
 o 16 (.ibin .eql (t 15) (k 5)),
 mv 13 (t 16)] [])
 (.cond (t 13)
 (.ops [mv 17 (t 0),
 la 18 7 (t 3),
 ca 19 F.zjS [(t 17),(t 18)]] [])
 (.seq (.ops [fa 21 0 (t 3),
 l1 22 (t 21),
 o 23 (.ibin .eql (t 22) (k 6)),
 mv 20 (t 23)] [])
 (.cond (t 20)
  (.ops [mv 24 (t 0),
  la 25 7 (t 3),
  ca 26 F.zm3 [(t 24),(t 25)]] [])
  (.seq (.ops [fa 28 0 (t 3),
  l1 29 (t 28),
  o 30 (.ibin .eql (t 29) (k 7)),
  mv 27 (t 30)] [])
  (.cond (t 27)
  (.ops [mv 31 (t 0),
  la 32 7 (t 3),
  ca 33 F.zy5 [(t 31),(t 32)]] [])
  (.seq (.draw (.take (fa 35 4 (t 3)) (.take (l1 36 (t 35)) (.take (mv 37 (t 0)) (.take (o 38 (.nilck (t 37))) (.take (fa 39 1 (t 38)) (.take (l1 40 (t 39)) (.take (o 41 (.ibin .eql (t 36) (t 40))) (.take (os 42 (.mov (t 41))) (.take (gt 42 43 (.faddr 5 (t 3))) (.take (gt 42 44 (.load false 1 (t 43))) (.take (gt 42 45 (.mov (t 0))) (.take (gt 42 46 (.nilck (t 45))) (.take (gt 42 47 (.faddr 0 (t 46))) (.take (gt 42 48 (.load false 1 (t 47))) (.take (gt 42 49 (.ibin .eql (t 44) (t 48))) (.take (o 50 (.pick (t 42) (t 49) (kb false))) (.take (mv 34 (t 50)) (.done)))))))))))))))))) [])
  (.cond (t 34)
   (.ops [mv 51 (t 0),
   la 52 7 (t 3),
   ca 53 F.zle [(t 51),(t 52)]] [])
   (.seq (.ops [mv 55 (t 0),
   o 56 (.nilck (t 55)),
   fa 57 2 (t 56),
   l1 58 (t 57),
   o 59 (.not (t 58)),
   mv 54 (t 59)] [])
   (.cond (t 54)
   (.ops [mv 60 (t 0),
   fa 61 4 (t 3),
   l1 62 (t 61),
   o 63 (.build [(i 0),(i 0),(i 0),(.bool false),(i 0),(i 0),sn] [(0,1,(k 7)),(5,1,(t 62))]),
   ca 64 F.zaz [(t 60),(t 63)]] [])
   (.skip))))))))))))
 (.seq (.ops [mv 4 (k 0)] [])
 (.ret)))))
def zdX:List zd:=[.tmp 4]
theorem zsh {args:List Value} {M:Mem} {R:Value→Mem→Prop} (hn:args.length≤65) (h:zi Tryz.prog zdW zdX args M R):CallsM Tryz.prog F.zdN args M R:=
 zf (kf:=fun _=>[]) Tryz.func40 (by kernel_rfl) (by kernel_rfl) hn (by kernel_rfl) h
def zjj:RCode:=
 .seq (.ops [mv 2 (.const sn)] [])
 (.seq (.seq (.ops [mv 4 (t 0),
 o 5 (.pnil .eql (t 4) (.const (.pointer none)))] [])
 (.cond (t 5)
 (.seq (.ops [mv 2 (.const sn)] [])
 (.ret))
 (.skip)))
 (.seq (.ops [mv 6 (t 0),
 o 7 (.nilck (t 6)),
 fa 8 14 (t 7),
 l1 9 (t 8),
 mv 3 (t 9)] [])
 (.seq (.ops [mv 10 (t 0),
 o 11 (.nilck (t 10)),
 fa 12 14 (t 11),
 st 1 (t 12) (.const sn)] [])
 (.seq (.ops [mv 13 (t 3),
 mv 2 (t 13)] [])
 (.ret)))))
def zjk:List zd:=[.tmp 2]
theorem zyn {args:List Value} {M:Mem} {R:Value→Mem→Prop} (hn:args.length≤14) (h:zi Tryz.prog zjj zjk args M R):CallsM Tryz.prog F.zi6 args M R:=
 zf (kf:=fun _=>[]) Tryz.func41 (by kernel_rfl) (by kernel_rfl) hn (by kernel_rfl) h
def zbB:RCode:=
 .seq (.ops [mv 2 (kb false)] [])
 (.seq (.ops [mv 3 (t 0),
 o 4 (.pnil .eql (t 3) (.const (.pointer none))),
 os 5 (.mov (t 4)),
 gf 5 6 (.mov (t 0)),
 gf 5 7 (.nilck (t 6)),
 gf 5 8 (.faddr 4 (t 7)),
 gf 5 9 (.load false 1 (t 8)),
 o 10 (.pick (t 5) (kb true) (t 9)),
 mv 2 (t 10)] [])
 (.ret))
def zbC:List zd:=[.tmp 2]
theorem zoz {args:List Value} {M:Mem} {R:Value→Mem→Prop} (hn:args.length≤11) (h:zi Tryz.prog zbB zbC args M R):CallsM Tryz.prog F.zO args M R:=
 zf (kf:=fun _=>[]) Tryz.func42 (by kernel_rfl) (by kernel_rfl) hn (by kernel_rfl) h
def zgI:RCode:=
 .seq (.ops [mv 9 (t 2),
 ca 10 F.ztF [(t 9)],
 mv 8 (t 10),
 ex 11 (t 8) 0,
 ex 12 (t 8) 1,
 o 6 (.alloc 115 [(i 0),(i 0),(i 0),(i 0),(i 0),(i 0),sn,sn]),
 st 8 (t 6) (t 11),
 mv 7 (t 12)] [])
 (.seq (.seq (.ops [mv 13 (t 7),
 o 14 (.ibin .neq (t 13) (k 0))] [])
 (.cond (t 14)
 (.seq (.ops [mv 15 (t 0),
 o 16 (.nilck (t 15)),
 fa 17 17 (t 16),
 l1 18 (t 17),
 ad 19 (t 18) (k 1),
 o 20 (.nilck (t 15)),
 fa 21 17 (t 20),
 st 1 (t 21) (t 19)] [])
 (.ret))
 (.skip)))
 (.seq (.ops [fa 22 0 (t 6),
 l1 23 (t 22)] [])
 (.block 0 (.seq (.ops [o 33 (.ibin .eql (t 23) (k 1)),
 mv 32 (t 33)] [])
 (.cond (t 32)
 (.ops [mv 34 (t 0),
 mv 35 (t 1),
 la 36 8 (t 6),
 ca 37 F.zhL [(t 34),(t 35),(t 36)]] [])
 (.seq (.ops [o 39 (.ibin .eql (t 23) (k 2)),
 mv 38 (t 39)] [])
 (.cond (t 38)
  (.seq (.draw (.take (mv 40 (t 0)) (.take (o 41 (.nilck (t 40))) (.take (fa 42 14 (t 41)) (.take (l1 43 (t 42)) (.take (mv 44 (t 1)) (.take (fa 45 1 (t 6)) (.take (l1 46 (t 45)) (.take (fa 47 2 (t 6)) (.take (fa 48 0 (t 47)) (.take (la 49 4 (t 48)) (.alt (ca 50 F.zm4 [(t 43),(t 44),(t 46),(t 49)]) false
  (.done)
  (.none)))))))))))) [])
  (.cond (t 50)
  (.draw (.take (mv 51 (t 0)) (.take (o 52 (.nilck (t 51))) (.take (fa 53 11 (t 52)) (.take (l1 54 (t 53)) (.take (fa 55 2 (t 6)) (.take (fa 56 0 (t 55)) (.take (la 57 4 (t 56)) (.alt (ca 58 F.zdd [(t 54),(t 57)]) false
   (.done)
   (.none))))))))) [])
  (.skip)))
  (.seq (.ops [o 60 (.ibin .eql (t 23) (k 3)),
  mv 59 (t 60)] [])
  (.cond (t 59)
  (.draw (.take (mv 61 (t 0)) (.take (o 62 (.nilck (t 61))) (.take (fa 63 14 (t 62)) (.take (l1 64 (t 63)) (.take (mv 65 (t 1)) (.take (fa 66 1 (t 6)) (.take (l1 67 (t 66)) (.take (fa 68 2 (t 6)) (.take (fa 69 0 (t 68)) (.take (la 70 4 (t 69)) (.alt (ca 71 F.zu0 [(t 64),(t 65),(t 67),(t 70)]) false
   (.done)
   (.none)))))))))))) [])
  (.draw (.take (mv 24 (t 0)) (.take (o 25 (.nilck (t 24))) (.take (fa 26 13 (t 25)) (.take (l1 27 (t 26)) (.take (mv 28 (t 1)) (.take (fa 29 7 (t 6)) (.take (l1 30 (t 29)) (.alt (ca 31 F.zhM [(t 27),(t 28),(t 30)]) false
   (.done)
   (.none))))))))) []))))))))))
def zgJ:List zd:=[]
theorem zva {args:List Value} {M:Mem} {R:Value→Mem→Prop} (hn:args.length≤72) (h:zi Tryz.prog zgI zgJ args M R):CallsM Tryz.prog F.zgr args M R:=
 zf (kf:=fun _=>[]) Tryz.func43 (by kernel_rfl) (by kernel_rfl) hn (by kernel_rfl) h
def zhZ:RCode:=
 .seq (.ops [mv 4 (kb false)] [])
 (.seq (.seq (.ops [mv 6 (t 0),
 o 7 (.len (t 6)),
 mv 8 (t 1),
 o 9 (.len (t 8)),
 o 10 (.ibin .neq (t 7) (t 9))] [])
 (.cond (t 10)
 (.seq (.ops [mv 4 (kb false)] [])
 (.ret))
 (.skip)))
 (.seq (.seq (.ops [mv 5 (k 0)] [])
 (.block 0 (.loop (.seq (.seq (.ops [mv 11 (t 5),
 mv 12 (t 0),
 o 13 (.len (t 12)),
 o 14 (.ibin .lss (t 11) (t 13))] [])
 (.cond (t 14)
  (.skip)
  (.exit 0)))
 (.seq (.block 1 (.seq (.draw (.take (mv 17 (t 0)) (.take (mv 18 (t 5)) (.take (o 19 (.iaddr 5 (t 17) (t 18))) (.take (la 20 5 (t 19)) (.take (mv 21 (t 1)) (.take (mv 22 (t 5)) (.take (o 23 (.iaddr 5 (t 21) (t 22))) (.take (la 24 5 (t 23)) (.alt (ca 25 F.zpl [(t 20),(t 24)]) false
  (.take (o 26 (.not (t 25))) (.done))
  (.none)))))))))) [])
 (.cond (t 26)
  (.seq (.ops [mv 4 (kb false)] [])
  (.ret))
  (.skip))))
 (.ops [mv 15 (t 5),
 ad 16 (t 15) (k 1),
 mv 5 (t 16)] []))))))
 (.seq (.ops [mv 4 (kb true)] [])
 (.ret))))
def zh0:List zd:=[.tmp 4]
theorem zwP {args:List Value} {M:Mem} {R:Value→Mem→Prop} (hn:args.length≤27) (h:zi Tryz.prog zhZ zh0 args M R):CallsM Tryz.prog F.zl7 args M R:=
 zf (kf:=fun _=>[]) Tryz.func44 (by kernel_rfl) (by kernel_rfl) hn (by kernel_rfl) h
def zfw:RCode:=
 .seq (.ops [mv 4 (kb false)] [])
 (.seq (.seq (.ops [mv 7 (t 0),
 o 8 (.len (t 7)),
 mv 9 (t 1),
 o 10 (.len (t 9)),
 o 11 (.ibin .neq (t 8) (t 10))] [])
 (.cond (t 11)
 (.seq (.ops [mv 4 (kb false)] [])
 (.ret))
 (.skip)))
 (.seq (.seq (.ops [mv 5 (k 0)] [])
 (.block 0 (.loop (.seq (.seq (.ops [mv 12 (t 5),
 mv 13 (t 0),
 o 14 (.len (t 13)),
 o 15 (.ibin .lss (t 12) (t 14))] [])
 (.cond (t 15)
  (.skip)
  (.exit 0)))
 (.seq (.block 1 (.seq (.seq (.draw (.take (mv 18 (t 0)) (.take (mv 19 (t 5)) (.take (o 20 (.iaddr 4 (t 18) (t 19))) (.take (fa 21 0 (t 20)) (.take (l1 22 (t 21)) (.take (mv 23 (t 1)) (.take (mv 24 (t 5)) (.take (o 25 (.iaddr 4 (t 23) (t 24))) (.take (fa 26 0 (t 25)) (.take (l1 27 (t 26)) (.take (o 28 (.ibin .neq (t 22) (t 27))) (.take (os 29 (.mov (t 28))) (.take (gf 29 30 (.mov (t 0))) (.take (gf 29 31 (.mov (t 5))) (.take (gf 29 32 (.iaddr 4 (t 30) (t 31))) (.take (gf 29 33 (.faddr 1 (t 32))) (.take (gf 29 34 (.load false 1 (t 33))) (.take (gf 29 35 (.mov (t 1))) (.take (gf 29 36 (.mov (t 5))) (.take (gf 29 37 (.iaddr 4 (t 35) (t 36))) (.take (gf 29 38 (.faddr 1 (t 37))) (.take (gf 29 39 (.load false 1 (t 38))) (.take (gf 29 40 (.ibin .neq (t 34) (t 39))) (.take (o 41 (.pick (t 29) (kb true) (t 40))) (.take (os 42 (.mov (t 41))) (.take (gf 42 43 (.mov (t 0))) (.take (gf 42 44 (.mov (t 5))) (.take (gf 42 45 (.iaddr 4 (t 43) (t 44))) (.take (gf 42 46 (.faddr 2 (t 45))) (.take (gf 42 47 (.load false 1 (t 46))) (.take (gf 42 48 (.mov (t 1))) (.take (gf 42 49 (.mov (t 5))) (.take (gf 42 50 (.iaddr 4 (t 48) (t 49))) (.take (gf 42 51 (.faddr 2 (t 50))) (.take (gf 42 52 (.load false 1 (t 51))) (.take (gf 42 53 (.ibin .neq (t 47) (t 52))) (.take (o 54 (.pick (t 42) (kb true) (t 53))) (.take (os 55 (.mov (t 54))) (.take (gf 55 56 (.mov (t 0))) (.take (gf 55 57 (.mov (t 5))) (.take (gf 55 58 (.iaddr 4 (t 56) (t 57))) (.take (gf 55 59 (.faddr 3 (t 58))) (.take (gf 55 60 (.load false 1 (t 59))) (.take (gf 55 61 (.len (t 60))) (.take (gf 55 62 (.mov (t 1))) (.take (gf 55 63 (.mov (t 5))) (.take (gf 55 64 (.iaddr 4 (t 62) (t 63))) (.take (gf 55 65 (.faddr 3 (t 64))) (.take (gf 55 66 (.load false 1 (t 65))) (.take (gf 55 67 (.len (t 66))) (.take (gf 55 68 (.ibin .neq (t 61) (t 67))) (.take (o 69 (.pick (t 55) (kb true) (t 68))) (.done))))))))))))))))))))))))))))))))))))))))))))))))))))) [])
 (.cond (t 69)
  (.seq (.ops [mv 4 (kb false)] [])
  (.ret))
  (.skip)))
 (.seq (.ops [mv 6 (k 0)] [])
 (.block 2 (.loop (.seq (.seq (.ops [mv 70 (t 6),
  mv 71 (t 0),
  mv 72 (t 5),
  o 73 (.iaddr 4 (t 71) (t 72)),
  fa 74 3 (t 73),
  l1 75 (t 74),
  o 76 (.len (t 75)),
  o 77 (.ibin .lss (t 70) (t 76))] [])
  (.cond (t 77)
  (.skip)
  (.exit 2)))
  (.seq (.block 3 (.seq (.draw (.take (mv 80 (t 0)) (.take (mv 81 (t 5)) (.take (o 82 (.iaddr 4 (t 80) (t 81))) (.take (fa 83 3 (t 82)) (.take (l1 84 (t 83)) (.take (mv 85 (t 6)) (.take (o 86 (.iaddr 1 (t 84) (t 85))) (.take (l1 87 (t 86)) (.take (mv 88 (t 1)) (.take (mv 89 (t 5)) (.take (o 90 (.iaddr 4 (t 88) (t 89))) (.take (fa 91 3 (t 90)) (.take (l1 92 (t 91)) (.take (mv 93 (t 6)) (.take (o 94 (.iaddr 1 (t 92) (t 93))) (.take (l1 95 (t 94)) (.take (o 96 (.ibin .neq (t 87) (t 95))) (.done)))))))))))))))))) [])
  (.cond (t 96)
  (.seq (.ops [mv 4 (kb false)] [])
  (.ret))
  (.skip))))
  (.ops [mv 78 (t 6),
  ad 79 (t 78) (k 1),
  mv 6 (t 79)] []))))))))
 (.ops [mv 16 (t 5),
 ad 17 (t 16) (k 1),
 mv 5 (t 17)] []))))))
 (.seq (.ops [mv 4 (kb true)] [])
 (.ret))))
def zfx:List zd:=[.tmp 4]
theorem zt5 {args:List Value} {M:Mem} {R:Value→Mem→Prop} (hn:args.length≤97) (h:zi Tryz.prog zfw zfx args M R):CallsM Tryz.prog F.zjQ args M R:=
 zf (kf:=fun _=>[]) Tryz.func45 (by kernel_rfl) (by kernel_rfl) hn (by kernel_rfl) h
def zjl:RCode:=
 .seq (.ops [mv 2 (kb false)] [])
 (.seq (.ops [mv 3 (t 0),
 o 4 (.pnil .neq (t 3) (.const (.pointer none))),
 os 5 (.mov (t 4)),
 gt 5 6 (.mov (t 0)),
 gt 5 7 (.nilck (t 6)),
 gt 5 8 (.faddr 2 (t 7)),
 gt 5 9 (.load false 1 (t 8)),
 o 10 (.pick (t 5) (t 9) (kb false)),
 mv 2 (t 10)] [])
 (.ret))
def zjm:List zd:=[.tmp 2]
theorem zyo {args:List Value} {M:Mem} {R:Value→Mem→Prop} (hn:args.length≤11) (h:zi Tryz.prog zjl zjm args M R):CallsM Tryz.prog F.zb4 args M R:=
 zf (kf:=fun _=>[]) Tryz.func46 (by kernel_rfl) (by kernel_rfl) hn (by kernel_rfl) h
def zdY:RCode:=
 .seq (.ops [mv 2 (k 0)] [])
 (.seq (.seq (.ops [mv 6 (t 0),
 o 7 (.pnil .eql (t 6) (.const (.pointer none)))] [])
 (.cond (t 7)
 (.seq (.ops [mv 2 (k 7)] [])
 (.ret))
 (.skip)))
 (.seq (.seq (.ops [mv 8 (t 0),
 ca 9 F.zgs [(t 8)],
 o 10 (.len (t 9)),
 mv 11 (k 0)] [])
 (.block 0 (.loop (.seq (.ops [o 12 (.ibin .lss (t 11) (t 10))] [])
 (.seq (.cond (t 12)
  (.skip)
  (.exit 0))
 (.seq (.block 1 (.seq (.ops [o 13 (.iaddr 1 (t 9) (t 11)),
 l1 14 (t 13),
 mv 4 (t 14)] [])
 (.seq (.ops [mv 15 (t 0),
 o 16 (.nilck (t 15)),
 fa 17 4 (t 16),
 l1 18 (t 17),
 mv 19 (t 4),
 o 20 (.mget .int false (.agg #[(i 0),(i 0),(i 0),(i 0),(i 0),(i 0),(i 0),(i 0),(i 0),(i 0),(i 0),(i 0),(i 0),(i 0),(i 0),(i 0),(i 0),(i 0),(i 0),(i 0),(i 0),(i 0),(i 0),(i 0),(i 0),(i 0),(i 0),(i 0),(i 0),(i 0),(i 0),(i 0),(i 0),(i 0),(i 0),(i 0),(i 0),(i 0),(i 0),(i 0),(i 0),(i 0),(i 0),(i 0),(i 0),(i 0),(i 0),(i 0),(i 0),(i 0),(i 0),(i 0),(i 0),(i 0),(i 0),(i 0),(i 0),(i 0),(i 0),(i 0),(i 0),(i 0),(i 0),(i 0),(i 0)]) (t 18) (t 19)),
 o 5 (.alloc 178 [(i 0),(i 0),(i 0),(i 0),(i 0),(i 0),(i 0),(i 0),(i 0),(i 0),(i 0),(i 0),(i 0),(i 0),(i 0),(i 0),(i 0),(i 0),(i 0),(i 0),(i 0),(i 0),(i 0),(i 0),(i 0),(i 0),(i 0),(i 0),(i 0),(i 0),(i 0),(i 0),(i 0),(i 0),(i 0),(i 0),(i 0),(i 0),(i 0),(i 0),(i 0),(i 0),(i 0),(i 0),(i 0),(i 0),(i 0),(i 0),(i 0),(i 0),(i 0),(i 0),(i 0),(i 0),(i 0),(i 0),(i 0),(i 0),(i 0),(i 0),(i 0),(i 0),(i 0),(i 0),(i 0)]),
 st 65 (t 5) (t 20)] [])
 (.seq (.ops [fa 21 64 (t 5),
 l1 22 (t 21),
 o 23 (.ibin .sub (t 22) (k 1)),
 fa 24 64 (t 5),
 st 1 (t 24) (t 23)] [])
 (.seq (.draw (.take (mv 25 (t 0)) (.take (o 26 (.nilck (t 25))) (.take (fa 27 4 (t 26)) (.take (l1 28 (t 27)) (.take (mv 29 (t 4)) (.take (la 30 65 (t 5)) (.alt (e (.mset .int (t 28) (t 29) (t 30))) false
  (.done)
  (.none)))))))) [])
 (.seq (.ops [fa 31 64 (t 5),
 l1 32 (t 31),
 o 33 (.ibin .eql (t 32) (k 0))] [])
 (.cond (t 33)
  (.ops [mv 34 (t 0),
  o 35 (.nilck (t 34)),
  fa 36 4 (t 35),
  l1 37 (t 36),
  mv 38 (t 4),
  e (.mdel .int (t 37) (t 38))] [])
  (.skip))))))))
 (.ops [ad 39 (t 11) (k 1),
 mv 11 (t 39)] [])))))))
 (.seq (.ops [mv 2 (k 0)] [])
 (.ret))))
def zdZ:List zd:=[.tmp 2]
theorem zsi {args:List Value} {M:Mem} {R:Value→Mem→Prop} (hn:args.length≤40) (h:zi Tryz.prog zdY zdZ args M R):CallsM Tryz.prog F.zhJ args M R:=
 zf (kf:=fun _=>[]) Tryz.func47 (by kernel_rfl) (by kernel_rfl) hn (by kernel_rfl) h
def zgK:RCode:=
 .seq (.ops [mv 2 (.const sn)] [])
 (.seq (.ops [mv 3 (.const sn)] [])
 (.seq (.seq (.ops [mv 5 (t 0),
 o 6 (.nilck (t 5)),
 fa 7 12 (t 6),
 l1 8 (t 7),
 o 9 (.mrange (t 8))] [])
 (.block 0 (.loop (.seq (.ops [o 10 (.mnext (t 9)),
 ex 11 (t 10) 0] [])
 (.seq (.cond (t 11)
  (.skip)
  (.exit 0))
 (.block 1 (.seq (.ops [o 12 (.mentry (t 9)),
 ex 13 (t 12) 0,
 mv 4 (t 13)] [])
 (.ops [mv 14 (t 3),
 mv 15 (t 4),
 o 16 (.mkSl true 3 1 [(i 0)] [(0,1,(t 15))]),
 o 17 (.app 3 1 8 [(i 0)] (t 14) (t 16)),
 mv 3 (t 17)] []))))))))
 (.seq (.ops [mv 18 (t 3),
 ca 19 F.zcD [(t 18)]] [])
 (.seq (.ops [mv 20 (t 3),
 mv 2 (t 20)] [])
 (.ret)))))
def zgL:List zd:=[.tmp 2]
theorem zvb {args:List Value} {M:Mem} {R:Value→Mem→Prop} (hn:args.length≤21) (h:zi Tryz.prog zgK zgL args M R):CallsM Tryz.prog F.zb5 args M R:=
 zf (kf:=fun _=>[]) Tryz.func48 (by kernel_rfl) (by kernel_rfl) hn (by kernel_rfl) h
def zgM:RCode:=
 .seq (.ops [mv 2 (k 0)] [])
 (.seq (.seq (.ops [mv 6 (t 0),
 o 7 (.pnil .eql (t 6) (.const (.pointer none)))] [])
 (.cond (t 7)
 (.seq (.ops [mv 2 (k 7)] [])
 (.ret))
 (.skip)))
 (.seq (.seq (.ops [mv 8 (t 0),
 o 9 (.nilck (t 8)),
 fa 10 6 (t 9),
 l1 11 (t 10),
 o 12 (.ibin .eql (t 11) (k 0))] [])
 (.cond (t 12)
 (.seq (.ops [mv 2 (k 0)] [])
 (.ret))
 (.skip)))
 (.seq (.seq (.ops [mv 13 (t 0),
 o 14 (.nilck (t 13)),
 fa 15 6 (t 14),
 l1 16 (t 15),
 o 17 (.ibin .sub (t 16) (k 1)),
 o 18 (.nilck (t 13)),
 fa 19 6 (t 18),
 st 1 (t 19) (t 17)] [])
 (.seq (.ops [mv 20 (t 0),
 o 21 (.nilck (t 20)),
 fa 22 6 (t 21),
 l1 23 (t 22),
 o 24 (.ibin .gtr (t 23) (k 0))] [])
 (.cond (t 24)
 (.seq (.ops [mv 2 (k 0)] [])
 (.ret))
 (.skip))))
 (.seq (.ops [mv 25 (t 0),
 o 26 (.nilck (t 25)),
 fa 27 11 (t 26),
 l1 28 (t 27),
 ca 29 F.zaR [(t 28)],
 mv 3 (t 29)] [])
 (.seq (.block 0 (.seq (.ops [mv 31 (t 0),
 o 32 (.nilck (t 31)),
 fa 33 2 (t 32),
 l1 34 (t 33),
 o 35 (.not (t 34)),
 mv 30 (t 35)] [])
 (.cond (t 30)
 (.ops [mv 36 (t 0),
 ca 37 F.zc5 [(t 36),(kb true)]] [])
 (.seq (.draw (.take (mv 39 (t 3)) (.take (o 40 (.len (t 39))) (.take (o 41 (.ibin .gtr (t 40) (k 0))) (.take (os 42 (.mov (t 41))) (.take (gt 42 43 (.mov (t 0))) (.take (gt 42 44 (.nilck (t 43))) (.take (gt 42 45 (.faddr 7 (t 44))) (.take (gt 42 46 (.load false 1 (t 45))) (.take (gt 42 47 (.mov (t 0))) (.take (gt 42 48 (.nilck (t 47))) (.take (gt 42 49 (.faddr 5 (t 48))) (.take (gt 42 50 (.load false 1 (t 49))) (.take (gt 42 51 (.ibin .eql (t 46) (t 50))) (.take (o 52 (.pick (t 42) (t 51) (kb false))) (.take (mv 38 (t 52)) (.done)))))))))))))))) [])
 (.cond (t 38)
  (.ops [mv 53 (t 0),
  ca 54 F.zpm [(t 53)]] [])
  (.seq (.ops [mv 56 (t 3),
  o 57 (.len (t 56)),
  o 58 (.ibin .gtr (t 57) (k 0)),
  mv 55 (t 58)] [])
  (.cond (t 55)
  (.seq (.ops [mv 59 (t 0),
  o 60 (.nilck (t 59)),
  fa 61 7 (t 60),
  l1 62 (t 61),
  ad 63 (t 62) (k 1),
  o 64 (.nilck (t 59)),
  fa 65 7 (t 64),
  st 1 (t 65) (t 63)] [])
  (.seq (.draw (.take (mv 67 (t 0)) (.take (o 68 (.nilck (t 67))) (.take (fa 69 11 (t 68)) (.take (l1 70 (t 69)) (.take (mv 71 (t 3)) (.take (o 72 (.iaddr 1 (t 71) (k 0))) (.take (l1 73 (t 72)) (.alt (ca 74 F.zlw [(t 70),(t 73)]) false
   (.take (mv 66 (t 74)) (.take (ex 75 (t 66) 0) (.take (ex 76 (t 66) 1) (.take (mv 4 (t 75)) (.take (mv 5 (t 76)) (.done))))))
   (.none))))))))) [])
  (.seq (.ops [mv 77 (t 0),
  mv 78 (t 3),
  o 79 (.iaddr 1 (t 78) (k 0)),
  l1 80 (t 79),
  mv 81 (t 4),
  ca 82 F.zdz [(t 77),(t 80),(t 81),(kb true)]] [])
  (.ops [mv 83 (t 0),
  mv 84 (t 0),
  o 85 (.nilck (t 84)),
  fa 86 4 (t 85),
  l1 87 (t 86),
  o 88 (.nilck (t 83)),
  fa 89 6 (t 88),
  st 1 (t 89) (t 87)] []))))
  (.seq (.ops [mv 91 (t 0),
  o 92 (.nilck (t 91)),
  fa 93 9 (t 92),
  l1 94 (t 93),
  os 95 (.mov (t 94)),
  gt 95 96 (.mov (t 0)),
  gt 95 97 (.nilck (t 96)),
  gt 95 98 (.faddr 11 (t 97)),
  gt 95 99 (.load false 1 (t 98)),
  gt 95 100 (.call (fn F.zmW) [(t 99)]),
  gt 95 101 (.ibin .gtr (t 100) (k 0)),
  o 102 (.pick (t 95) (t 101) (kb false)),
  mv 90 (t 102)] [])
  (.cond (t 90)
   (.seq (.draw (.take (mv 103 (t 0)) (.take (mv 104 (t 0)) (.take (o 105 (.nilck (t 104))) (.take (fa 106 12 (t 105)) (.take (l1 107 (t 106)) (.take (mv 109 (t 0)) (.take (o 110 (.nilck (t 109))) (.take (fa 111 1 (t 110)) (.take (l1 112 (t 111)) (.alt (ca 108 F.zbj [(t 107)]) true
   (.take (o 113 (.build [(i 0),(i 0),(i 0),(.bool false),(i 0),(i 0),sn] [(0,1,(k 2)),(2,1,(t 108)),(3,1,(kb true)),(5,1,(t 112))])) (.alt (ca 114 F.zaz [(t 103),(t 113)]) false
    (.done)
    (.none)))
   (.none))))))))))) [])
   (.ops [mv 115 (t 0),
   mv 116 (t 0),
   o 117 (.nilck (t 116)),
   fa 118 4 (t 117),
   l1 119 (t 118),
   o 120 (.nilck (t 115)),
   fa 121 6 (t 120),
   st 1 (t 121) (t 119)] []))
   (.skip))))))))))
 (.seq (.ops [mv 2 (k 0)] [])
 (.ret)))))))
def zgN:List zd:=[.tmp 2]
theorem zvc {args:List Value} {M:Mem} {R:Value→Mem→Prop} (hn:args.length≤122) (h:zi Tryz.prog zgM zgN args M R):CallsM Tryz.prog F.zlc args M R:=
 zf (kf:=fun _=>[]) Tryz.func49 (by kernel_rfl) (by kernel_rfl) hn (by kernel_rfl) h
def zh1:RCode:=
 .seq (.ops [mv 2 (k 0)] [])
 (.seq (.seq (.ops [mv 5 (t 0),
 o 6 (.pnil .eql (t 5) (.const (.pointer none)))] [])
 (.cond (t 6)
 (.seq (.ops [mv 2 (k 7)] [])
 (.ret))
 (.skip)))
 (.seq (.seq (.ops [mv 7 (t 0),
 o 8 (.nilck (t 7)),
 fa 9 2 (t 8),
 l1 10 (t 9),
 o 11 (.mrange (t 10))] [])
 (.block 0 (.loop (.seq (.ops [o 12 (.mnext (t 11)),
 ex 13 (t 12) 0] [])
 (.seq (.cond (t 13)
  (.skip)
  (.exit 0))
 (.block 1 (.seq (.ops [o 14 (.mentry (t 11)),
 ex 15 (t 14) 0,
 ex 16 (t 14) 1,
 o 3 (.alloc 37 [(i 0),(i 0),(i 0),(i 0)]),
 o 4 (.alloc 190 [(i 0),(i 0),(i 0),(i 0)]),
 st 4 (t 3) (t 15),
 st 4 (t 4) (t 16)] [])
 (.seq (.seq (.ops [fa 17 3 (t 4),
 l1 18 (t 17),
 o 19 (.ibin .gtr (t 18) (k 0))] [])
 (.cond (t 19)
  (.ops [fa 20 3 (t 4),
  l1 21 (t 20),
  o 22 (.ibin .sub (t 21) (k 1)),
  fa 23 3 (t 4),
  st 1 (t 23) (t 22)] [])
  (.ops [fa 24 2 (t 4),
  l1 25 (t 24),
  ad 26 (t 25) (k 1),
  fa 27 2 (t 4),
  st 1 (t 27) (t 26)] [])))
 (.seq (.draw (.take (mv 28 (t 0)) (.take (o 29 (.nilck (t 28))) (.take (fa 30 2 (t 29)) (.take (l1 31 (t 30)) (.take (la 32 4 (t 3)) (.take (la 33 4 (t 4)) (.alt (e (.mset (.agg 4) (t 31) (t 32) (t 33))) false
  (.done)
  (.none)))))))) [])
 (.seq (.ops [fa 34 3 (t 4),
 l1 35 (t 34),
 o 36 (.ibin .eql (t 35) (k 0)),
 os 37 (.mov (t 36)),
 gt 37 38 (.faddr 2 (t 4)),
 gt 37 39 (.load false 1 (t 38)),
 gt 37 40 (.ibin .eql (t 39) (k 0)),
 ⟨(some 41),.mov (t 40),some (37,true),true⟩,
 gf 41 42 (.faddr 2 (t 4)),
 gf 41 43 (.load false 1 (t 42)),
 gf 41 44 (.ibin .eql (t 43) (k 64)),
 gt 37 45 (.pick (t 41) (kb true) (t 44)),
 o 46 (.pick (t 37) (t 45) (kb false))] [])
 (.cond (t 46)
  (.draw (.take (mv 47 (t 0)) (.take (o 48 (.nilck (t 47))) (.take (fa 49 2 (t 48)) (.take (l1 50 (t 49)) (.take (la 51 4 (t 3)) (.alt (e (.mdel (.agg 4) (t 50) (t 51))) false
  (.done)
  (.none))))))) [])
  (.skip))))))))))))
 (.seq (.ops [mv 2 (k 0)] [])
 (.ret))))
def zh2:List zd:=[.tmp 2]
theorem zwQ {args:List Value} {M:Mem} {R:Value→Mem→Prop} (hn:args.length≤52) (h:zi Tryz.prog zh1 zh2 args M R):CallsM Tryz.prog F.zl8 args M R:=
 zf (kf:=fun _=>[]) Tryz.func50 (by kernel_rfl) (by kernel_rfl) hn (by kernel_rfl) h
def zgO:RCode:=
 .seq (.ops [o 5 (.box 115 (t 2)),
 mv 6 (k 0)] [])
 (.seq (.ops [la 10 8 (t 5),
 ca 11 F.ztG [(t 10)],
 mv 9 (t 11),
 ex 12 (t 9) 0,
 ex 13 (t 9) 1,
 mv 7 (t 12),
 mv 8 (t 13)] [])
 (.seq (.seq (.ops [mv 14 (t 8),
 o 15 (.ibin .neq (t 14) (k 0))] [])
 (.cond (t 15)
 (.seq (.ops [mv 16 (t 8),
 mv 6 (t 16)] [])
 (.ret))
 (.skip)))
 (.seq (.ops [mv 17 (t 0),
 o 18 (.nilck (t 17)),
 fa 19 12 (t 18),
 l1 20 (t 19),
 mv 21 (t 1),
 o 22 (.mget .int false (.pointer none) (t 20) (t 21)),
 o 23 (.nilck (t 22)),
 fa 24 0 (t 23),
 l1 25 (t 24),
 mv 26 (t 7),
 ca 27 F.zlf [(t 25),(t 26)],
 mv 6 (t 27)] [])
 (.ret))))
def zgP:List zd:=[.tmp 6]
theorem zvd {args:List Value} {M:Mem} {R:Value→Mem→Prop} (hn:args.length≤28) (h:zi Tryz.prog zgO zgP args M R):CallsM Tryz.prog F.zdy args M R:=
 zf (kf:=fun _=>[]) Tryz.func51 (by kernel_rfl) (by kernel_rfl) hn (by kernel_rfl) h
def zcJ:RCode:=
 .seq (.ops [mv 4 (.const sn)] [])
 (.seq (.seq (.ops [mv 9 (t 0),
 o 10 (.pnil .eql (t 9) (.const (.pointer none))),
 os 11 (.mov (t 10)),
 gf 11 12 (.mov (t 0)),
 gf 11 13 (.mov (t 1)),
 gf 11 14 (.call (fn F.zb0) [(t 12),(t 13)]),
 gf 11 15 (.not (t 14)),
 o 16 (.pick (t 11) (kb true) (t 15))] [])
 (.cond (t 16)
 (.seq (.ops [mv 4 (.const sn)] [])
 (.ret))
 (.skip)))
 (.seq (.ops [o 17 (.mkSlN 3 8 [(i 0)] (k 64) (k 64)),
 mv 5 (t 17)] [])
 (.seq (.seq (.ops [mv 18 (t 5),
 o 19 (.len (t 18)),
 mv 20 (k 0)] [])
 (.block 0 (.loop (.seq (.ops [o 21 (.ibin .lss (t 20) (t 19))] [])
 (.seq (.cond (t 21)
  (.skip)
  (.exit 0))
 (.seq (.block 1 (.seq (.ops [mv 22 (t 20),
 mv 6 (t 22)] [])
 (.seq (.ops [mv 23 (t 5),
 mv 24 (t 6),
 mv 25 (t 0),
 mv 26 (t 6),
 ca 27 F.zbZ [(t 25),(t 26)],
 o 28 (.iaddr 1 (t 23) (t 24)),
 st 1 (t 28) (t 27)] [])
 (.seq (.ops [mv 30 (t 0),
 mv 31 (t 6),
 ca 32 F.zdP [(t 30),(t 31)],
 mv 29 (t 32),
 ex 33 (t 29) 0,
 ex 34 (t 29) 1,
 mv 7 (t 33),
 mv 8 (t 34)] [])
 (.seq (.ops [mv 35 (t 8),
 os 36 (.mov (t 35)),
 gt 36 37 (.mov (t 7)),
 gt 36 38 (.mov (t 1)),
 gt 36 39 (.ibin .eql (t 37) (t 38)),
 o 40 (.pick (t 36) (t 39) (kb false))] [])
 (.cond (t 40)
  (.ops [mv 41 (t 5),
  mv 42 (t 6),
  o 43 (.iaddr 1 (t 41) (t 42)),
  st 1 (t 43) (k 16)] [])
  (.skip)))))))
 (.ops [ad 44 (t 20) (k 1),
 mv 20 (t 44)] [])))))))
 (.seq (.ops [mv 45 (t 5),
 mv 4 (t 45)] [])
 (.ret)))))
def zcK:List zd:=[.tmp 4]
theorem zqJ {args:List Value} {M:Mem} {R:Value→Mem→Prop} (hn:args.length≤46) (h:zi Tryz.prog zcJ zcK args M R):CallsM Tryz.prog F.zf2 args M R:=
 zf (kf:=fun _=>[]) Tryz.func52 (by kernel_rfl) (by kernel_rfl) hn (by kernel_rfl) h
def zoA:RCode:=
 .seq (.ops [mv 2 (k 0)] [])
 (.seq (.seq (.ops [mv 7 (t 0),
 ca 8 F.za3 [(t 7)],
 mv 3 (t 8)] [])
 (.seq (.ops [mv 9 (t 3),
 o 10 (.ibin .neq (t 9) (k 0))] [])
 (.cond (t 10)
 (.seq (.ops [mv 11 (t 3),
 mv 2 (t 11)] [])
 (.ret))
 (.skip))))
 (.seq (.ops [mv 13 (t 0),
 o 14 (.nilck (t 13)),
 fa 15 2 (t 14),
 l1 16 (t 15),
 ca 17 F.zp5 [(t 16)],
 mv 12 (t 17),
 ex 18 (t 12) 0,
 ex 19 (t 12) 1,
 mv 4 (t 18),
 mv 5 (t 19)] [])
 (.seq (.seq (.ops [mv 20 (t 5),
 o 21 (.ibin .neq (t 20) (k 0)),
 os 22 (.mov (t 21)),
 gf 22 23 (.mov (t 4)),
 gf 22 24 (.mov (t 0)),
 gf 22 25 (.nilck (t 24)),
 gf 22 26 (.faddr 3 (t 25)),
 gf 22 27 (.load false 1 (t 26)),
 gf 22 28 (.ibin .eql (t 23) (t 27)),
 o 29 (.pick (t 22) (kb true) (t 28))] [])
 (.cond (t 29)
 (.seq (.ops [mv 30 (t 0),
 mv 31 (t 5),
 ca 32 F.zak [(t 30),(t 31)],
 mv 2 (t 32)] [])
 (.ret))
 (.skip)))
 (.seq (.seq (.ops [mv 33 (t 0),
 mv 34 (t 0),
 ca 35 F.zrd [(t 34)],
 ca 36 F.zak [(t 33),(t 35)],
 mv 6 (t 36)] [])
 (.seq (.ops [mv 37 (t 6),
 o 38 (.ibin .neq (t 37) (k 0))] [])
 (.cond (t 38)
 (.seq (.ops [mv 39 (t 6),
 mv 2 (t 39)] [])
 (.ret))
 (.skip))))
 (.seq (.ops [mv 40 (t 0),
 mv 41 (t 0),
 mv 42 (t 4),
 ca 43 F.zqD [(t 41),(t 42)],
 ca 44 F.zak [(t 40),(t 43)],
 mv 2 (t 44)] [])
 (.ret))))))
def zoB:List zd:=[.tmp 2]
def zt6:RCode:=
 .seq (.ops [mv 6 (k 0)] [])
 (.seq (.block 0 (.seq (.ops [mv 8 (t 0),
 o 9 (.pnil .eql (t 8) (.const (.pointer none))),
 mv 7 (t 9)] [])
 (.cond (t 7)
 (.seq (.ops [mv 6 (k 7)] [])
 (.ret))
 (.seq (.ops [mv 11 (t 1),
 ca 12 F.zc1 [(t 11)],
 o 13 (.not (t 12)),
 mv 10 (t 13)] [])
 (.cond (t 10)
  (.seq (.ops [mv 6 (k 1)] [])
  (.ret))
  (.seq (.ops [mv 15 (t 1),
  mv 16 (t 0),
  o 17 (.nilck (t 16)),
  fa 18 0 (t 17),
  l1 19 (t 18),
  o 20 (.ibin .eql (t 15) (t 19)),
  mv 14 (t 20)] [])
  (.cond (t 14)
  (.seq (.ops [mv 6 (k 2)] [])
  (.ret))
  (.seq (.ops [mv 22 (t 2),
  o 23 (.ibin .eql (t 22) (k (-1))),
  mv 21 (t 23)] [])
  (.cond (t 21)
   (.seq (.ops [mv 24 (t 0),
   o 25 (.nilck (t 24)),
   fa 26 3 (t 25),
   l1 27 (t 26),
   mv 28 (t 1),
   e (.mdel .int (t 27) (t 28))] [])
   (.seq (.ops [mv 6 (k 0)] [])
   (.ret)))
   (.seq (.ops [mv 30 (t 0),
   mv 31 (t 2),
   ca 32 F.zb0 [(t 30),(t 31)],
   o 33 (.not (t 32)),
   mv 29 (t 33)] [])
   (.cond (t 29)
   (.seq (.ops [mv 6 (k 4)] [])
   (.ret))
   (.skip))))))))))))
 (.seq (.ops [mv 34 (t 0),
 o 35 (.nilck (t 34)),
 fa 36 3 (t 35),
 l1 37 (t 36),
 mv 38 (t 1),
 mv 39 (t 2),
 e (.mset .int (t 37) (t 38) (t 39))] [])
 (.seq (.ops [mv 6 (k 0)] [])
 (.ret))))
def zt7:List zd:=[.tmp 6]
def zd0:RCode:=
 .seq (.ops [mv 4 (k 0)] [])
 (.seq (.seq (.ops [mv 9 (t 0),
 o 10 (.pnil .eql (t 9) (.const (.pointer none))),
 os 11 (.mov (t 10)),
 gf 11 12 (.mov (t 1)),
 gf 11 13 (.call (fn F.zc1) [(t 12)]),
 gf 11 14 (.not (t 13)),
 o 15 (.pick (t 11) (kb true) (t 14))] [])
 (.cond (t 15)
 (.seq (.ops [mv 4 (k 16)] [])
 (.ret))
 (.skip)))
 (.seq (.seq (.ops [mv 16 (t 1),
 mv 17 (t 0),
 o 18 (.nilck (t 17)),
 fa 19 0 (t 18),
 l1 20 (t 19),
 o 21 (.ibin .eql (t 16) (t 20))] [])
 (.cond (t 21)
 (.seq (.ops [mv 4 (k 0)] [])
 (.ret))
 (.skip)))
 (.seq (.seq (.ops [mv 23 (t 0),
 o 24 (.nilck (t 23)),
 fa 25 3 (t 24),
 l1 26 (t 25),
 mv 27 (t 1),
 o 28 (.mget .int true (i 0) (t 26) (t 27)),
 mv 22 (t 28),
 ex 29 (t 22) 0,
 ex 30 (t 22) 1,
 mv 5 (t 29),
 mv 6 (t 30)] [])
 (.seq (.ops [mv 31 (t 6)] [])
 (.cond (t 31)
 (.seq (.ops [mv 32 (t 0),
 mv 33 (t 1),
 mv 34 (t 5),
 ca 35 F.zb1 [(t 32),(t 33),(t 34)],
 mv 4 (t 35)] [])
 (.ret))
 (.skip))))
 (.seq (.ops [mv 7 (k 16)] [])
 (.seq (.seq (.ops [mv 36 (t 0),
 o 37 (.nilck (t 36)),
 fa 38 4 (t 37),
 l1 39 (t 38),
 o 40 (.mrange (t 39))] [])
 (.block 0 (.loop (.seq (.ops [o 41 (.mnext (t 40)),
 ex 42 (t 41) 0] [])
 (.seq (.cond (t 42)
  (.skip)
  (.exit 0))
 (.block 1 (.seq (.ops [o 43 (.mentry (t 40)),
 ex 44 (t 43) 0,
 mv 8 (t 44)] [])
 (.ops [mv 45 (t 7),
 mv 46 (t 0),
 mv 47 (t 1),
 mv 48 (t 8),
 ca 49 F.zb1 [(t 46),(t 47),(t 48)],
 o 50 (.imm false (t 45) (t 49)),
 mv 7 (t 50)] []))))))))
 (.seq (.ops [mv 51 (t 7),
 mv 4 (t 51)] [])
 (.ret)))))))
def zd1:List zd:=[.tmp 4]
theorem zsj {args:List Value} {M:Mem} {R:Value→Mem→Prop} (hn:args.length≤52) (h:zi Tryz.prog zd0 zd1 args M R):CallsM Tryz.prog F.zbZ args M R:=
 zf (kf:=fun _=>[]) Tryz.func55 (by kernel_rfl) (by kernel_rfl) hn (by kernel_rfl) h
def zoC:RCode:=
 .seq (.ops [mv 4 (kb false)] [])
 (.seq (.ops [mv 5 (t 0),
 o 6 (.ibin .geq (t 5) (k 0)),
 os 7 (.mov (t 6)),
 gt 7 8 (.mov (t 0)),
 gt 7 9 (.mov (t 1)),
 gt 7 10 (.ibin .leq (t 8) (t 9)),
 o 11 (.pick (t 7) (t 10) (kb false)),
 mv 4 (t 11)] [])
 (.ret))
def zoD:List zd:=[.tmp 4]
theorem zDT {args:List Value} {M:Mem} {R:Value→Mem→Prop} (hn:args.length≤12) (h:zi Tryz.prog zoC zoD args M R):CallsM Tryz.prog F.zdc args M R:=
 zf (kf:=fun _=>[]) Tryz.func56 (by kernel_rfl) (by kernel_rfl) hn (by kernel_rfl) h
def zoE:RCode:=
 .seq (.ops [mv 2 (.const (.pointer none)),
 mv 3 (k 0)] [])
 (.seq (.seq (.ops [mv 4 (t 0),
 o 5 (.ibin .lss (t 4) (k 0)),
 os 6 (.mov (t 5)),
 gf 6 7 (.mov (t 0)),
 gf 6 8 (.ibin .gtr (t 7) (k 256)),
 o 9 (.pick (t 6) (kb true) (t 8))] [])
 (.cond (t 9)
 (.seq (.ops [mv 2 (.const (.pointer none)),
 mv 3 (k 1)] [])
 (.ret))
 (.skip)))
 (.seq (.ops [mv 10 (t 0),
 o 11 (.mkMap),
 o 12 (.build [(i 0),(.map none)] [(0,1,(t 10)),(1,1,(t 11))]),
 o 13 (.box 201 (t 12)),
 mv 2 (t 13),
 mv 3 (k 0)] [])
 (.ret)))
def zoF:List zd:=[.tmp 2,.tmp 3]
theorem zDU {args:List Value} {M:Mem} {R:Value→Mem→Prop} (hn:args.length≤14) (h:zi Tryz.prog zoE zoF args M R):CallsM Tryz.prog F.zor args M R:=
 zf (kf:=fun _=>[]) Tryz.func57 (by kernel_rfl) (by kernel_rfl) hn (by kernel_rfl) h
def zzx:RCode:=
 .seq (.ops [mv 4 (kb false)] [])
 (.seq (.ops [mv 5 (t 0),
 o 6 (.ibin .geq (t 5) (k 0)),
 os 7 (.mov (t 6)),
 gt 7 8 (.mov (t 0)),
 gt 7 9 (.mov (t 1)),
 gt 7 10 (.ibin .leq (t 8) (t 9)),
 o 11 (.pick (t 7) (t 10) (kb false)),
 mv 4 (t 11)] [])
 (.ret))
def zzy:List zd:=[.tmp 4]
def zmq:RCode:=
 .seq (.ops [mv 6 (.const (.pointer none)),
 mv 7 (k 0)] [])
 (.seq (.seq (.ops [mv 11 (t 0),
 ca 12 F.zc1 [(t 11)],
 o 13 (.not (t 12)),
 os 14 (.mov (t 13)),
 gf 14 15 (.mov (t 2)),
 gf 14 16 (.ibin .lss (t 15) (k 1)),
 o 17 (.pick (t 14) (kb true) (t 16)),
 os 18 (.mov (t 17)),
 gf 18 19 (.mov (t 2)),
 gf 18 20 (.ibin .gtr (t 19) (k 64)),
 o 21 (.pick (t 18) (kb true) (t 20))] [])
 (.cond (t 21)
 (.seq (.ops [mv 6 (.const (.pointer none)),
 mv 7 (k 1)] [])
 (.ret))
 (.skip)))
 (.seq (.ops [mv 8 (k (-1))] [])
 (.seq (.seq (.ops [mv 22 (t 1),
 o 23 (.len (t 22)),
 mv 24 (k 0)] [])
 (.block 0 (.loop (.seq (.ops [o 25 (.ibin .lss (t 24) (t 23))] [])
 (.seq (.cond (t 25)
  (.skip)
  (.exit 0))
 (.seq (.block 1 (.seq (.ops [o 26 (.iaddr 1 (t 22) (t 24)),
 l1 27 (t 26),
 mv 10 (t 27)] [])
 (.seq (.seq (.ops [mv 28 (t 10),
 ca 29 F.zc1 [(t 28)],
 o 30 (.not (t 29)),
 os 31 (.mov (t 30)),
 gf 31 32 (.mov (t 10)),
 gf 31 33 (.mov (t 0)),
 gf 31 34 (.ibin .eql (t 32) (t 33)),
 o 35 (.pick (t 31) (kb true) (t 34)),
 os 36 (.mov (t 35)),
 gf 36 37 (.mov (t 10)),
 gf 36 38 (.mov (t 8)),
 gf 36 39 (.ibin .leq (t 37) (t 38)),
 o 40 (.pick (t 36) (kb true) (t 39))] [])
 (.cond (t 40)
  (.seq (.ops [mv 6 (.const (.pointer none)),
  mv 7 (k 2)] [])
  (.ret))
  (.skip)))
 (.ops [mv 41 (t 10),
 mv 8 (t 41)] []))))
 (.ops [ad 42 (t 24) (k 1),
 mv 24 (t 42)] [])))))))
 (.seq (.ops [mv 43 (t 0),
 mv 44 (t 2),
 o 45 (.mkSl false 3 0 [] []),
 mv 46 (t 1),
 o 47 (.app 3 1 8 [(i 0)] (t 45) (t 46)),
 o 48 (.mkMap),
 o 49 (.mkMap),
 o 50 (.build [(i 0),(i 0),sn,(.map none),(.map none)] [(0,1,(t 43)),(1,1,(t 44)),(2,1,(t 47)),(3,1,(t 48)),(4,1,(t 49))]),
 o 51 (.box 182 (t 50)),
 mv 6 (t 51),
 mv 7 (k 0)] [])
 (.ret)))))
def zmr:List zd:=[.tmp 6,.tmp 7]
theorem zAU {args:List Value} {M:Mem} {R:Value→Mem→Prop} (hn:args.length≤52) (h:zi Tryz.prog zmq zmr args M R):CallsM Tryz.prog F.zpk args M R:=
 zf (kf:=fun _=>[]) Tryz.func59 (by kernel_rfl) (by kernel_rfl) hn (by kernel_rfl) h
def zjn:RCode:=
 .seq (.ops [o 6 (.box 23 (t 2)),
 mv 8 (.const (.pointer none)),
 mv 9 (k 0)] [])
 (.seq (.seq (.ops [mv 17 (t 0),
 o 18 (.pnil .eql (t 17) (.const (.pointer none)))] [])
 (.cond (t 18)
 (.seq (.ops [mv 8 (.const (.pointer none)),
 mv 9 (k 7)] [])
 (.ret))
 (.skip)))
 (.seq (.ops [mv 20 (t 1),
 la 21 3 (t 6),
 ca 22 F.zkk [(t 20),(t 21)],
 mv 19 (t 22),
 ex 23 (t 19) 0,
 ex 24 (t 19) 1,
 mv 10 (t 23),
 mv 11 (t 24)] [])
 (.seq (.block 0 (.seq (.ops [mv 26 (t 11),
 o 27 (.ibin .neq (t 26) (k 0)),
 mv 25 (t 27)] [])
 (.cond (t 25)
 (.seq (.ops [mv 28 (t 11),
 mv 8 (.const (.pointer none)),
 mv 9 (t 28)] [])
 (.ret))
 (.seq (.ops [mv 30 (t 3),
 o 31 (.ibin .lss (t 30) (k 16)),
 os 32 (.mov (t 31)),
 gf 32 33 (.mov (t 3)),
 gf 32 34 (.ibin .gtr (t 33) (k 1048576)),
 o 35 (.pick (t 32) (kb true) (t 34)),
 mv 29 (t 35)] [])
 (.cond (t 29)
  (.seq (.ops [mv 8 (.const (.pointer none)),
  mv 9 (k 1)] [])
  (.ret))
  (.seq (.ops [mv 37 (t 0),
  ca 38 F.zb6 [(t 37)],
  mv 36 (t 38)] [])
  (.cond (t 36)
  (.seq (.ops [mv 8 (.const (.pointer none)),
  mv 9 (k 9)] [])
  (.ret))
  (.skip))))))))
 (.seq (.ops [mv 39 (t 10),
 o 40 (.build [(.pointer none)] [(0,1,(t 39))]),
 mv 41 (t 0),
 o 42 (.build [(.pointer none),(.pointer none),(.pointer none),(i 0),(.bool false),(.bool false)] [(0,1,(t 40)),(1,1,(t 41))]),
 o 43 (.box 141 (t 42)),
 mv 12 (t 43)] [])
 (.seq (.seq (.ops [mv 44 (t 12),
 ca 45 F.zer [(t 44)],
 mv 13 (t 45)] [])
 (.seq (.ops [mv 46 (t 13),
 o 47 (.ibin .neq (t 46) (k 0))] [])
 (.cond (t 47)
 (.seq (.ops [mv 48 (t 13),
 mv 8 (.const (.pointer none)),
 mv 9 (t 48)] [])
 (.ret))
 (.skip))))
 (.seq (.seq (.ops [mv 49 (t 12),
 mv 50 (t 1),
 la 51 3 (t 6),
 ca 52 F.ze8 [(t 49),(t 50),(t 51)],
 mv 14 (t 52)] [])
 (.seq (.ops [mv 53 (t 14),
 o 54 (.ibin .neq (t 53) (k 0))] [])
 (.cond (t 54)
 (.seq (.ops [mv 55 (t 14),
 mv 8 (.const (.pointer none)),
 mv 9 (t 55)] [])
 (.ret))
 (.skip))))
 (.seq (.seq (.ops [mv 56 (t 12),
 mv 57 (t 3),
 ca 58 F.zdA [(t 56),(t 57)],
 mv 15 (t 58)] [])
 (.seq (.ops [mv 59 (t 15),
 o 60 (.ibin .neq (t 59) (k 0))] [])
 (.cond (t 60)
 (.seq (.ops [mv 61 (t 15),
 mv 8 (.const (.pointer none)),
 mv 9 (t 61)] [])
 (.ret))
 (.skip))))
 (.seq (.seq (.ops [mv 62 (t 12),
 ca 63 F.ze9 [(t 62)],
 mv 16 (t 63)] [])
 (.seq (.ops [mv 64 (t 16),
 o 65 (.ibin .neq (t 64) (k 0))] [])
 (.cond (t 65)
 (.seq (.ops [mv 66 (t 16),
 mv 8 (.const (.pointer none)),
 mv 9 (t 66)] [])
 (.ret))
 (.skip))))
 (.seq (.ops [mv 67 (t 12),
 mv 8 (t 67),
 mv 9 (k 0)] [])
 (.ret))))))))))
def zjo:List zd:=[.tmp 8,.tmp 9]
theorem zyp {args:List Value} {M:Mem} {R:Value→Mem→Prop} (hn:args.length≤68) (h:zi Tryz.prog zjn zjo args M R):CallsM Tryz.prog F.zm1 args M R:=
 zf (kf:=fun _=>[]) Tryz.func60 (by kernel_rfl) (by kernel_rfl) hn (by kernel_rfl) h
def zqf:RCode:=
 .seq (.ops [mv 2 (.const (.pointer none)),
 mv 3 (k 0)] [])
 (.seq (.seq (.ops [mv 4 (t 0),
 o 5 (.ibin .lss (t 4) (k 1)),
 os 6 (.mov (t 5)),
 gf 6 7 (.mov (t 0)),
 gf 6 8 (.ibin .gtr (t 7) (k 64)),
 o 9 (.pick (t 6) (kb true) (t 8))] [])
 (.cond (t 9)
 (.seq (.ops [mv 2 (.const (.pointer none)),
 mv 3 (k 1)] [])
 (.ret))
 (.skip)))
 (.seq (.ops [mv 10 (t 0),
 o 11 (.mkMap),
 o 12 (.build [(i 0),(i 0),(.map none)] [(0,1,(t 10)),(2,1,(t 11))]),
 o 13 (.box 188 (t 12)),
 mv 2 (t 13),
 mv 3 (k 0)] [])
 (.ret)))
def zqg:List zd:=[.tmp 2,.tmp 3]
theorem zFQ {args:List Value} {M:Mem} {R:Value→Mem→Prop} (hn:args.length≤14) (h:zi Tryz.prog zqf zqg args M R):CallsM Tryz.prog F.ztE args M R:=
 zf (kf:=fun _=>[]) Tryz.func61 (by kernel_rfl) (by kernel_rfl) hn (by kernel_rfl) h
def zoG:RCode:=
 .seq (.ops [mv 8 (.const (.pointer none)),
 mv 9 (k 0)] [])
 (.seq (.seq (.ops [mv 15 (t 0),
 o 16 (.ibin .lss (t 15) (k 0)),
 os 17 (.mov (t 16)),
 gf 17 18 (.mov (t 0)),
 gf 17 19 (.ibin .gtr (t 18) (k 65535)),
 o 20 (.pick (t 17) (kb true) (t 19)),
 os 21 (.mov (t 20)),
 gf 21 22 (.mov (t 2)),
 gf 21 23 (.ibin .lss (t 22) (k 1)),
 o 24 (.pick (t 21) (kb true) (t 23)),
 os 25 (.mov (t 24)),
 gf 25 26 (.mov (t 2)),
 gf 25 27 (.ibin .gtr (t 26) (k 64)),
 o 28 (.pick (t 25) (kb true) (t 27)),
 os 29 (.mov (t 28)),
 gf 29 30 (.mov (t 3)),
 gf 29 31 (.ibin .lss (t 30) (k 1)),
 o 32 (.pick (t 29) (kb true) (t 31)),
 os 33 (.mov (t 32)),
 gf 33 34 (.mov (t 3)),
 gf 33 35 (.ibin .gtr (t 34) (k 64)),
 o 36 (.pick (t 33) (kb true) (t 35))] [])
 (.cond (t 36)
 (.seq (.ops [mv 8 (.const (.pointer none)),
 mv 9 (k 1)] [])
 (.ret))
 (.skip)))
 (.seq (.ops [mv 38 (t 1),
 ca 39 F.zpn [(t 38)],
 mv 37 (t 39),
 ex 40 (t 37) 0,
 ex 41 (t 37) 1,
 mv 10 (t 40),
 mv 11 (t 41)] [])
 (.seq (.seq (.ops [mv 42 (t 11),
 o 43 (.ibin .neq (t 42) (k 0))] [])
 (.cond (t 43)
 (.seq (.ops [mv 44 (t 11),
 mv 8 (.const (.pointer none)),
 mv 9 (t 44)] [])
 (.ret))
 (.skip)))
 (.seq (.ops [mv 46 (t 1),
 ca 47 F.zrY [(t 46)],
 mv 45 (t 47),
 ex 48 (t 45) 0,
 ex 49 (t 45) 1,
 mv 12 (t 48),
 mv 13 (t 49)] [])
 (.seq (.ops [mv 50 (t 0),
 mv 51 (t 1),
 mv 52 (t 2),
 mv 53 (t 3),
 mv 54 (t 10),
 mv 55 (t 12),
 o 56 (.build [(i 0),(i 0),(.bool false),(i 0),(i 0),(i 0),(i 0),(i 0),(i 0),(.bool false),(.bool false),(.pointer none),(.pointer none),sn,sn] [(0,1,(t 50)),(1,1,(k (-1))),(3,1,(t 51)),(4,1,(t 52)),(5,1,(t 53)),(11,1,(t 54)),(12,1,(t 55))]),
 o 57 (.box 167 (t 56)),
 mv 14 (t 57)] [])
 (.seq (.ops [mv 58 (t 14),
 ca 59 F.zc5 [(t 58),(kb false)]] [])
 (.seq (.ops [mv 60 (t 14),
 mv 8 (t 60),
 mv 9 (k 0)] [])
 (.ret))))))))
def zoH:List zd:=[.tmp 8,.tmp 9]
theorem zDV {args:List Value} {M:Mem} {R:Value→Mem→Prop} (hn:args.length≤61) (h:zi Tryz.prog zoG zoH args M R):CallsM Tryz.prog F.zrW args M R:=
 zf (kf:=fun _=>[]) Tryz.func62 (by kernel_rfl) (by kernel_rfl) hn (by kernel_rfl) h
def zoI:RCode:=
 .seq (.ops [mv 0 (.const (.pointer none))] [])
 (.seq (.ops [o 1 (.build [(.bool false),sn,(i 0),(i 0),(i 0),(i 0),(i 0),sn] [(0,1,(kb true))]),
 o 2 (.box 156 (t 1)),
 mv 0 (t 2)] [])
 (.ret))
def zoJ:List zd:=[.tmp 0]
theorem zDW {args:List Value} {M:Mem} {R:Value→Mem→Prop} (hn:args.length≤3) (h:zi Tryz.prog zoI zoJ args M R):CallsM Tryz.prog F.zrX args M R:=
 zf (kf:=fun _=>[]) Tryz.func63 (by kernel_rfl) (by kernel_rfl) hn (by kernel_rfl) h
def zbR:RCode:=
 .seq (.ops [mv 2 (k 0)] [])
 (.seq (.seq (.ops [mv 3 (t 0),
 o 4 (.pnil .eql (t 3) (.const (.pointer none))),
 os 5 (.mov (t 4)),
 gf 5 6 (.mov (t 0)),
 gf 5 7 (.nilck (t 6)),
 gf 5 8 (.faddr 4 (t 7)),
 gf 5 9 (.load false 1 (t 8)),
 o 10 (.pick (t 5) (kb true) (t 9))] [])
 (.cond (t 10)
 (.seq (.ops [mv 2 (k 7)] [])
 (.ret))
 (.skip)))
 (.seq (.ops [mv 2 (k 0)] [])
 (.ret)))
def zbS:List zd:=[.tmp 2]
theorem zpv {args:List Value} {M:Mem} {R:Value→Mem→Prop} (hn:args.length≤11) (h:zi Tryz.prog zbR zbS args M R):CallsM Tryz.prog F.za3 args M R:=
 zf (kf:=fun _=>[]) Tryz.func64 (by kernel_rfl) (by kernel_rfl) hn (by kernel_rfl) h
def zd2:RCode:=
 .seq (.ops [o 4 (.alloc 37 [(i 0),(i 0),(i 0),(i 0)]),
 mv 5 (k 0)] [])
 (.seq (.block 0 (.seq (.ops [mv 7 (t 0),
 o 8 (.pnil .eql (t 7) (.const (.pointer none))),
 os 9 (.mov (t 8)),
 gf 9 10 (.mov (t 0)),
 gf 9 11 (.nilck (t 10)),
 gf 9 12 (.faddr 4 (t 11)),
 gf 9 13 (.load false 1 (t 12)),
 gf 9 14 (.ibin .eql (t 13) (k 0)),
 o 15 (.pick (t 9) (kb true) (t 14)),
 mv 6 (t 15)] [])
 (.cond (t 6)
 (.seq (.ops [o 16 (.build [(i 0),(i 0),(i 0),(i 0)] []),
 st 4 (t 4) (t 16),
 mv 5 (k 7)] [])
 (.ret))
 (.seq (.ops [mv 18 (t 1),
 ca 19 F.zdc [(t 18),(k 63)],
 o 20 (.not (t 19)),
 mv 17 (t 20)] [])
 (.cond (t 17)
  (.seq (.ops [o 21 (.build [(i 0),(i 0),(i 0),(i 0)] []),
  st 4 (t 4) (t 21),
  mv 5 (k 1)] [])
  (.ret))
  (.seq (.ops [mv 23 (t 1),
  mv 24 (t 0),
  o 25 (.nilck (t 24)),
  fa 26 0 (t 25),
  l1 27 (t 26),
  o 28 (.ibin .eql (t 23) (t 27)),
  mv 22 (t 28)] [])
  (.cond (t 22)
  (.seq (.ops [o 29 (.build [(i 0),(i 0),(i 0),(i 0)] []),
  st 4 (t 4) (t 29),
  mv 5 (k 2)] [])
  (.ret))
  (.seq (.ops [mv 31 (t 0),
  mv 32 (t 1),
  o 33 (.nilck (t 31)),
  fa 34 5 (t 33),
  o 35 (.iaddrA 64 1 (t 34) (t 32)),
  l1 36 (t 35),
  o 37 (.ibin .eql (t 36) (k 65535)),
  mv 30 (t 37)] [])
  (.cond (t 30)
   (.seq (.ops [o 38 (.build [(i 0),(i 0),(i 0),(i 0)] []),
   st 4 (t 4) (t 38),
   mv 5 (k 10)] [])
   (.ret))
   (.skip))))))))))
 (.seq (.draw (.take (mv 39 (t 0)) (.take (o 40 (.nilck (t 39))) (.take (fa 41 0 (t 40)) (.take (l1 42 (t 41)) (.take (mv 43 (t 1)) (.take (mv 44 (t 0)) (.take (o 45 (.nilck (t 44))) (.take (fa 46 4 (t 45)) (.take (l1 47 (t 46)) (.take (mv 48 (t 0)) (.take (mv 49 (t 1)) (.take (o 50 (.nilck (t 48))) (.take (fa 51 5 (t 50)) (.take (o 52 (.iaddrA 64 1 (t 51) (t 49))) (.take (l1 53 (t 52)) (.take (ad 54 (t 53) (k 1)) (.take (o 55 (.build [(i 0),(i 0),(i 0),(i 0)] [(0,1,(t 42)),(1,1,(t 43)),(2,1,(t 47)),(3,1,(t 54))])) (.alt (st 4 (t 4) (t 55)) false
 (.take (mv 5 (k 0)) (.done))
 (.none))))))))))))))))))) [])
 (.ret)))
def zd3:List zd:=[.cell true 4 4,.tmp 5]
theorem zsk {args:List Value} {M:Mem} {R:Value→Mem→Prop} (hn:args.length≤56) (h:zi Tryz.prog zd2 zd3 args M R):CallsM Tryz.prog F.zhK args M R:=
 zf (kf:=fun _=>[]) Tryz.func65 (by kernel_rfl) (by kernel_rfl) hn (by kernel_rfl) h
def zcL:RCode:=
 .seq (.ops [o 4 (.box 144 (t 1)),
 mv 6 (k 0)] [])
 (.seq (.seq (.ops [mv 13 (t 0),
 ca 14 F.za3 [(t 13)],
 mv 7 (t 14)] [])
 (.seq (.ops [mv 15 (t 7),
 o 16 (.ibin .neq (t 15) (k 0))] [])
 (.cond (t 16)
 (.seq (.ops [mv 17 (t 7),
 mv 6 (t 17)] [])
 (.ret))
 (.skip))))
 (.seq (.seq (.draw (.take (mv 18 (t 0)) (.take (o 19 (.nilck (t 18))) (.take (fa 20 0 (t 19)) (.take (fa 21 0 (t 20)) (.take (l1 22 (t 21)) (.take (la 23 6 (t 4)) (.alt (ca 24 F.zfm [(t 22),(t 23)]) false
 (.take (mv 8 (t 24)) (.done))
 (.none)))))))) [])
 (.seq (.ops [mv 25 (t 8),
 o 26 (.ibin .neq (t 25) (k 0))] [])
 (.cond (t 26)
 (.seq (.ops [mv 27 (t 8),
 mv 6 (t 27)] [])
 (.ret))
 (.skip))))
 (.seq (.ops [la 29 6 (t 4),
 ca 30 F.zn4 [(t 29)],
 mv 28 (t 30),
 ex 31 (t 28) 0,
 ex 32 (t 28) 1,
 mv 9 (t 31),
 mv 10 (t 32)] [])
 (.seq (.seq (.ops [mv 33 (t 10),
 o 34 (.ibin .neq (t 33) (k 0))] [])
 (.cond (t 34)
 (.seq (.ops [mv 35 (t 10),
 mv 6 (t 35)] [])
 (.ret))
 (.skip)))
 (.seq (.seq (.ops [mv 36 (t 0),
 mv 37 (t 0),
 o 38 (.nilck (t 37)),
 fa 39 2 (t 38),
 l1 40 (t 39),
 mv 41 (t 9),
 ca 42 F.zlg [(t 40),(t 41)],
 ca 43 F.zak [(t 36),(t 42)],
 mv 11 (t 43)] [])
 (.seq (.ops [mv 44 (t 11),
 o 45 (.ibin .neq (t 44) (k 0))] [])
 (.cond (t 45)
 (.seq (.ops [mv 46 (t 11),
 mv 6 (t 46)] [])
 (.ret))
 (.skip))))
 (.seq (.seq (.ops [mv 47 (t 2)] [])
 (.cond (t 47)
 (.seq (.ops [mv 48 (t 0),
 mv 49 (t 0),
 o 50 (.nilck (t 49)),
 fa 51 2 (t 50),
 l1 52 (t 51),
 ca 53 F.zi8 [(t 52)],
 ca 54 F.zak [(t 48),(t 53)],
 mv 12 (t 54)] [])
 (.seq (.ops [mv 55 (t 12),
 o 56 (.ibin .neq (t 55) (k 0))] [])
 (.cond (t 56)
  (.seq (.ops [mv 57 (t 12),
  mv 6 (t 57)] [])
  (.ret))
  (.skip))))
 (.skip)))
 (.seq (.draw (.take (mv 58 (t 0)) (.take (o 59 (.nilck (t 58))) (.take (fa 60 0 (t 59)) (.take (fa 61 0 (t 60)) (.take (l1 62 (t 61)) (.take (la 63 6 (t 4)) (.alt (ca 64 F.zb2 [(t 62),(t 63)]) false
 (.take (mv 6 (t 64)) (.done))
 (.none)))))))) [])
 (.ret))))))))
def zcM:List zd:=[.tmp 6]
theorem zqK {args:List Value} {M:Mem} {R:Value→Mem→Prop} (hn:args.length≤65) (h:zi Tryz.prog zcL zcM args M R):CallsM Tryz.prog F.zar args M R:=
 zf (kf:=fun _=>[]) Tryz.func66 (by kernel_rfl) (by kernel_rfl) hn (by kernel_rfl) h
def zeL:RCode:=
 .seq (.ops [mv 2 (k 0)] [])
 (.seq (.seq (.ops [mv 3 (t 0),
 o 4 (.pnil .eql (t 3) (.const (.pointer none)))] [])
 (.cond (t 4)
 (.seq (.ops [mv 2 (k 0)] [])
 (.ret))
 (.skip)))
 (.seq (.ops [mv 5 (t 0),
 o 6 (.nilck (t 5)),
 fa 7 8 (t 6),
 l1 8 (t 7),
 mv 2 (t 8)] [])
 (.ret)))
def zeM:List zd:=[.tmp 2]
theorem zsY {args:List Value} {M:Mem} {R:Value→Mem→Prop} (hn:args.length≤9) (h:zi Tryz.prog zeL zeM args M R):CallsM Tryz.prog F.zeD args M R:=
 zf (kf:=fun _=>[]) Tryz.func67 (by kernel_rfl) (by kernel_rfl) hn (by kernel_rfl) h
def zgQ:RCode:=
 .seq (.ops [mv 4 (k 0)] [])
 (.seq (.ops [mv 8 (t 0),
 mv 9 (t 1),
 ca 10 F.ziB [(t 8),(t 9)],
 mv 5 (t 10)] [])
 (.seq (.seq (.ops [mv 11 (t 5),
 o 12 (.len (t 11)),
 mv 13 (k 0)] [])
 (.block 0 (.loop (.seq (.ops [o 14 (.ibin .lss (t 13) (t 12))] [])
 (.seq (.cond (t 14)
  (.skip)
  (.exit 0))
 (.seq (.block 1 (.seq (.ops [o 15 (.iaddr 4 (t 11) (t 13)),
 la 16 4 (t 15),
 o 7 (.alloc 37 [(i 0),(i 0),(i 0),(i 0)]),
 st 4 (t 7) (t 16)] [])
 (.draw (.take (mv 17 (t 0)) (.take (o 18 (.nilck (t 17))) (.take (fa 19 2 (t 18)) (.take (l1 20 (t 19)) (.take (la 21 4 (t 7)) (.alt (e (.mdel (.agg 4) (t 20) (t 21))) false
  (.done)
  (.none))))))) [])))
 (.ops [ad 22 (t 13) (k 1),
 mv 13 (t 22)] [])))))))
 (.seq (.ops [mv 23 (t 5),
 o 24 (.len (t 23)),
 mv 4 (t 24)] [])
 (.ret))))
def zgR:List zd:=[.tmp 4]
theorem zve {args:List Value} {M:Mem} {R:Value→Mem→Prop} (hn:args.length≤25) (h:zi Tryz.prog zgQ zgR args M R):CallsM Tryz.prog F.zld args M R:=
 zf (kf:=fun _=>[]) Tryz.func68 (by kernel_rfl) (by kernel_rfl) hn (by kernel_rfl) h
def zfy:RCode:=
 .seq (.ops [mv 13 (t 0),
 o 14 (.nilck (t 13)),
 fa 15 11 (t 14),
 l1 16 (t 15),
 ca 17 F.zfa [(t 16)],
 mv 4 (t 17)] [])
 (.seq (.seq (.ops [mv 18 (t 4),
 o 19 (.len (t 18)),
 o 20 (.ibin .eql (t 19) (k 0))] [])
 (.cond (t 20)
 (.ret)
 (.skip)))
 (.seq (.ops [o 21 (.mkSlN 3 8 [(i 0)] (k 64) (k 64)),
 mv 5 (t 21)] [])
 (.seq (.seq (.ops [mv 22 (t 5),
 o 23 (.len (t 22)),
 mv 24 (k 0)] [])
 (.block 0 (.loop (.seq (.ops [o 25 (.ibin .lss (t 24) (t 23))] [])
 (.seq (.cond (t 25)
  (.skip)
  (.exit 0))
 (.seq (.block 1 (.seq (.ops [mv 26 (t 24),
 mv 6 (t 26)] [])
 (.ops [mv 27 (t 5),
 mv 28 (t 6),
 o 29 (.iaddr 1 (t 27) (t 28)),
 st 1 (t 29) (k (-1))] [])))
 (.ops [ad 30 (t 24) (k 1),
 mv 24 (t 30)] [])))))))
 (.seq (.seq (.ops [mv 31 (t 4),
 o 32 (.len (t 31)),
 mv 33 (k 0)] [])
 (.block 2 (.loop (.seq (.ops [o 34 (.ibin .lss (t 33) (t 32))] [])
 (.seq (.cond (t 34)
  (.skip)
  (.exit 2))
 (.seq (.block 3 (.seq (.ops [o 35 (.iaddr 5 (t 31) (t 33)),
 la 36 5 (t 35),
 o 8 (.alloc 78 [(i 0),(i 0),(i 0),(i 0),sn]),
 st 5 (t 8) (t 36)] [])
 (.seq (.draw (.take (mv 38 (t 0)) (.take (o 39 (.nilck (t 38))) (.take (fa 40 13 (t 39)) (.take (l1 41 (t 40)) (.take (fa 42 0 (t 8)) (.take (fa 43 1 (t 42)) (.take (l1 44 (t 43)) (.alt (ca 45 F.zdP [(t 41),(t 44)]) false
  (.take (mv 37 (t 45)) (.take (ex 46 (t 37) 0) (.take (ex 47 (t 37) 1) (.take (mv 9 (t 46)) (.take (mv 10 (t 47)) (.done))))))
  (.none))))))))) [])
 (.seq (.ops [mv 48 (t 10)] [])
 (.cond (t 48)
  (.ops [mv 49 (t 5),
  fa 50 0 (t 8),
  fa 51 1 (t 50),
  l1 52 (t 51),
  mv 53 (t 9),
  o 54 (.iaddr 1 (t 49) (t 52)),
  st 1 (t 54) (t 53)] [])
  (.skip))))))
 (.ops [ad 55 (t 33) (k 1),
 mv 33 (t 55)] [])))))))
 (.seq (.ops [mv 56 (t 0),
 o 57 (.nilck (t 56)),
 fa 58 14 (t 57),
 l1 59 (t 58),
 mv 60 (t 4),
 mv 61 (t 5),
 mv 62 (t 1),
 ca 63 F.zmb [(t 59),(t 60),(t 61),(t 62)],
 o 64 (.len (t 63)),
 mv 65 (k 0)] [])
 (.block 4 (.loop (.seq (.ops [o 66 (.ibin .lss (t 65) (t 64))] [])
 (.seq (.cond (t 66)
  (.skip)
  (.exit 4))
 (.seq (.block 5 (.seq (.ops [o 67 (.iaddr 7 (t 63) (t 65)),
 la 68 7 (t 67),
 o 12 (.alloc 214 [(i 0),(i 0),(i 0),(i 0),(i 0),(i 0),sn]),
 st 7 (t 12) (t 68)] [])
 (.seq (.ops [mv 69 (t 0),
 fa 70 0 (t 12),
 l1 71 (t 70),
 fa 72 1 (t 12),
 l1 73 (t 72),
 fa 74 2 (t 12),
 la 75 5 (t 74),
 o 76 (.build [(i 0),(i 0),(i 0),(i 0),(i 0),(i 0),sn,sn] [(0,1,(k 1)),(1,1,(t 73)),(2,5,(t 75))]),
 ca 77 F.zdy [(t 69),(t 71),(t 76)],
 o 78 (.ibin .neq (t 77) (k 0))] [])
 (.cond (t 78)
  (.draw (.take (mv 79 (t 0)) (.take (o 80 (.nilck (t 79))) (.take (fa 81 14 (t 80)) (.take (l1 82 (t 81)) (.take (fa 83 2 (t 12)) (.take (fa 84 0 (t 83)) (.take (la 85 4 (t 84)) (.alt (ca 86 F.zxU [(t 82),(t 85)]) false
  (.done)
  (.none))))))))) [])
  (.skip)))))
 (.ops [ad 87 (t 65) (k 1),
 mv 65 (t 87)] [])))))))))))
def zfz:List zd:=[]
theorem zt8 {args:List Value} {M:Mem} {R:Value→Mem→Prop} (hn:args.length≤88) (h:zi Tryz.prog zfy zfz args M R):CallsM Tryz.prog F.zjR args M R:=
 zf (kf:=fun _=>[]) Tryz.func69 (by kernel_rfl) (by kernel_rfl) hn (by kernel_rfl) h
def zh3:RCode:=
 .seq (.ops [mv 2 (.const sn)] [])
 (.seq (.seq (.ops [mv 4 (t 0),
 o 5 (.pnil .eql (t 4) (.const (.pointer none)))] [])
 (.cond (t 5)
 (.seq (.ops [mv 2 (.const sn)] [])
 (.ret))
 (.skip)))
 (.seq (.ops [mv 6 (t 0),
 o 7 (.nilck (t 6)),
 fa 8 13 (t 7),
 l1 9 (t 8),
 mv 3 (t 9)] [])
 (.seq (.ops [mv 10 (t 0),
 o 11 (.nilck (t 10)),
 fa 12 13 (t 11),
 st 1 (t 12) (.const sn)] [])
 (.seq (.ops [mv 13 (t 3),
 mv 2 (t 13)] [])
 (.ret)))))
def zh4:List zd:=[.tmp 2]
theorem zwR {args:List Value} {M:Mem} {R:Value→Mem→Prop} (hn:args.length≤14) (h:zi Tryz.prog zh3 zh4 args M R):CallsM Tryz.prog F.zl9 args M R:=
 zf (kf:=fun _=>[]) Tryz.func70 (by kernel_rfl) (by kernel_rfl) hn (by kernel_rfl) h
def zkR:RCode:=
 .seq (.ops [o 1 (.box 101 (t 0)),
 mv 2 (.const sn),
 mv 3 (k 0)] [])
 (.seq (.seq (.ops [la 7 7 (t 1),
 ca 8 F.zeE [(t 7)],
 mv 4 (t 8)] [])
 (.seq (.ops [mv 9 (t 4),
 o 10 (.ibin .neq (t 9) (k 0))] [])
 (.cond (t 10)
 (.seq (.ops [mv 11 (t 4),
 mv 2 (.const sn),
 mv 3 (t 11)] [])
 (.ret))
 (.skip))))
 (.seq (.ops [o 12 (.mkSl false 5 1 [(u 0)] [(0,1,(.const (u 3)))]),
 mv 5 (t 12)] [])
 (.seq (.draw (.take (fa 13 2 (t 1)) (.take (l1 14 (t 13)) (.take (o 15 (.conv .u8 (t 14))) (.take (o 16 (.ibin .shl (t 15) (.const (.int .u64 1)))) (.take (fa 17 3 (t 1)) (.take (l1 18 (t 17)) (.alt (ca 19 F.zew [(t 18)]) true
 (.take (o 20 (.ibin .or (t 16) (t 19))) (.take (mv 6 (t 20)) (.done)))
 (.none)))))))) [])
 (.seq (.seq (.ops [fa 21 0 (t 1),
 l1 22 (t 21)] [])
 (.block 0 (.seq (.ops [o 32 (.ibin .eql (t 22) (k 1)),
 mv 31 (t 32)] [])
 (.cond (t 31)
 (.ops [mv 33 (t 5),
 fa 34 1 (t 1),
 l1 35 (t 34),
 o 36 (.conv .u8 (t 35)),
 o 37 (.ibin .shl (t 36) (.const (.int .u64 1))),
 mv 38 (t 6),
 o 39 (.mkSl true 5 2 [(u 0),(u 0)] [(0,1,(t 37)),(1,1,(t 38))]),
 o 40 (.app 5 1 1 [(u 0)] (t 33) (t 39)),
 mv 5 (t 40)] [])
 (.seq (.seq (.ops [o 42 (.ibin .eql (t 22) (k 2)),
 mv 41 (t 42)] [])
 (.cond (t 41)
  (.skip)
  (.ops [o 43 (.ibin .eql (t 22) (k 3)),
  mv 41 (t 43)] [])))
 (.cond (t 41)
  (.ops [mv 44 (t 5),
  fa 45 0 (t 1),
  l1 46 (t 45),
  o 47 (.ibin .sub (t 46) (k 2)),
  o 48 (.conv .u8 (t 47)),
  o 49 (.ibin .shl (t 48) (.const (.int .u64 2))),
  o 50 (.ibin .or (.const (u 1)) (t 49)),
  mv 51 (t 6),
  o 52 (.mkSl true 5 2 [(u 0),(u 0)] [(0,1,(t 50)),(1,1,(t 51))]),
  o 53 (.app 5 1 1 [(u 0)] (t 44) (t 52)),
  mv 5 (t 53)] [])
  (.seq (.ops [o 55 (.ibin .eql (t 22) (k 4)),
  mv 54 (t 55)] [])
  (.cond (t 54)
  (.ops [mv 56 (t 5),
  mv 57 (t 6),
  o 58 (.mkSl true 5 2 [(u 0),(u 0)] [(0,1,(.const (u 13))),(1,1,(t 57))]),
  o 59 (.app 5 1 1 [(u 0)] (t 56) (t 58)),
  mv 5 (t 59)] [])
  (.seq (.ops [o 61 (.ibin .eql (t 22) (k 5)),
  mv 60 (t 61)] [])
  (.cond (t 60)
   (.ops [mv 62 (t 5),
   fa 63 3 (t 1),
   l1 64 (t 63),
   ca 65 F.zew [(t 64)],
   o 66 (.ibin .mul (.const (u 16)) (t 65)),
   o 67 (.ibin .or (.const (u 111)) (t 66)),
   o 68 (.mkSl true 5 1 [(u 0)] [(0,1,(t 67))]),
   o 69 (.app 5 1 1 [(u 0)] (t 62) (t 68)),
   mv 5 (t 69)] [])
   (.seq (.ops [o 71 (.ibin .eql (t 22) (k 6)),
   mv 70 (t 71)] [])
   (.cond (t 70)
   (.ops [mv 72 (t 5),
   fa 73 3 (t 1),
   l1 74 (t 73),
   ca 75 F.zew [(t 74)],
   o 76 (.ibin .mul (.const (u 16)) (t 75)),
   o 77 (.ibin .or (.const (u 99)) (t 76)),
   o 78 (.mkSl true 5 1 [(u 0)] [(0,1,(t 77))]),
   o 79 (.app 5 1 1 [(u 0)] (t 72) (t 78)),
   mv 5 (t 79)] [])
   (.ops [mv 23 (t 5),
   fa 24 3 (t 1),
   l1 25 (t 24),
   ca 26 F.zew [(t 25)],
   o 27 (.ibin .mul (.const (u 16)) (t 26)),
   o 28 (.ibin .or (.const (u 15)) (t 27)),
   o 29 (.mkSl true 5 1 [(u 0)] [(0,1,(t 28))]),
   o 30 (.app 5 1 1 [(u 0)] (t 23) (t 29)),
   mv 5 (t 30)] [])))))))))))))
 (.seq (.ops [mv 81 (t 5),
 fa 82 4 (t 1),
 l1 83 (t 82),
 o 84 (.conv .u64 (t 83)),
 ca 85 F.zbx [(t 81),(t 84),(k 2)],
 mv 80 (t 85),
 ex 86 (t 80) 0,
 ex 87 (t 80) 1,
 mv 5 (t 86)] [])
 (.seq (.ops [mv 89 (t 5),
 fa 90 5 (t 1),
 l1 91 (t 90),
 o 92 (.conv .u64 (t 91)),
 ca 93 F.zbx [(t 89),(t 92),(k 2)],
 mv 88 (t 93),
 ex 94 (t 88) 0,
 ex 95 (t 88) 1,
 mv 5 (t 94)] [])
 (.seq (.ops [mv 96 (t 5),
 fa 97 6 (t 1),
 l1 98 (t 97),
 o 99 (.app 5 1 1 [(u 0)] (t 96) (t 98)),
 mv 2 (t 99),
 mv 3 (k 0)] [])
 (.ret))))))))
def zkS:List zd:=[.tmp 2,.tmp 3]
theorem zzz {args:List Value} {M:Mem} {R:Value→Mem→Prop} (hn:args.length≤100) (h:zi Tryz.prog zkR zkS args M R):CallsM Tryz.prog F.zn2 args M R:=
 zf (kf:=fun _=>[]) Tryz.func71 (by kernel_rfl) (by kernel_rfl) hn (by kernel_rfl) h
def zkT:RCode:=
 .seq (.ops [mv 2 (.const sn),
 mv 3 (k 0)] [])
 (.seq (.seq (.ops [mv 5 (t 0),
 o 6 (.len (t 5)),
 o 7 (.ibin .eql (t 6) (k 0))] [])
 (.cond (t 7)
 (.seq (.ops [mv 2 (.const sn),
 mv 3 (k 2)] [])
 (.ret))
 (.skip)))
 (.seq (.seq (.ops [mv 8 (t 0),
 o 9 (.len (t 8)),
 o 10 (.ibin .gtr (t 9) (k 128))] [])
 (.cond (t 10)
 (.seq (.ops [mv 2 (.const sn),
 mv 3 (k 3)] [])
 (.ret))
 (.skip)))
 (.seq (.ops [o 11 (.mkSl false 5 1 [(u 0)] [(0,1,(.const (u 126)))]),
 mv 12 (t 0),
 ca 13 F.ztH [(t 12)],
 ca 14 F.zn5 [(t 13)],
 o 15 (.app 5 1 1 [(u 0)] (t 11) (t 14)),
 mv 4 (t 15)] [])
 (.seq (.ops [mv 16 (t 4),
 o 17 (.mkSl true 5 1 [(u 0)] [(0,1,(.const (u 126)))]),
 o 18 (.app 5 1 1 [(u 0)] (t 16) (t 17)),
 mv 2 (t 18),
 mv 3 (k 0)] [])
 (.ret)))))
def zkU:List zd:=[.tmp 2,.tmp 3]
theorem zzA {args:List Value} {M:Mem} {R:Value→Mem→Prop} (hn:args.length≤19) (h:zi Tryz.prog zkT zkU args M R):CallsM Tryz.prog F.zn3 args M R:=
 zf (kf:=fun _=>[]) Tryz.func72 (by kernel_rfl) (by kernel_rfl) hn (by kernel_rfl) h
def zCR:RCode:=
 .seq (.ops [mv 2 (k 0),
 mv 3 (.const sn)] [])
 (.seq (.ops [mv 7 (t 0),
 ca 8 F.zhS [(t 7)],
 mv 6 (t 8),
 ex 9 (t 6) 0,
 ex 10 (t 6) 1,
 mv 4 (t 9),
 mv 5 (t 10)] [])
 (.seq (.seq (.ops [mv 11 (t 5),
 o 12 (.ibin .neq (t 11) (k 0))] [])
 (.cond (t 12)
 (.seq (.ops [mv 2 (k 1),
 mv 3 (.const sn)] [])
 (.ret))
 (.skip)))
 (.seq (.seq (.ops [mv 13 (t 4),
 o 14 (.len (t 13)),
 o 15 (.ibin .lss (t 14) (k 3))] [])
 (.cond (t 15)
 (.seq (.ops [mv 2 (k 2),
 mv 3 (.const sn)] [])
 (.ret))
 (.skip)))
 (.seq (.seq (.ops [mv 16 (t 4),
 ca 17 F.zkG [(t 16)],
 o 18 (.not (t 17))] [])
 (.cond (t 18)
 (.seq (.ops [mv 2 (k 3),
 mv 3 (.const sn)] [])
 (.ret))
 (.skip)))
 (.seq (.seq (.ops [mv 19 (t 4),
 o 20 (.len (t 19)),
 o 21 (.ibin .sub (t 20) (k 2)),
 o 22 (.ibin .gtr (t 21) (k 128))] [])
 (.cond (t 22)
 (.seq (.ops [mv 2 (k 4),
 mv 3 (.const sn)] [])
 (.ret))
 (.skip)))
 (.seq (.draw (.take (mv 23 (t 4)) (.take (mv 24 (t 4)) (.take (o 25 (.len (t 24))) (.take (o 26 (.ibin .sub (t 25) (k 2))) (.take (o 27 (.slx 1 (t 23) none (some (t 26)))) (.take (mv 2 (k 0)) (.take (mv 3 (t 27)) (.done)))))))) [])
 (.ret)))))))
def zCS:List zd:=[.tmp 2,.tmp 3]
def zAV:RCode:=
 .seq (.ops [o 2 (.box 42 (t 0)),
 o 4 (.alloc 42 [(i 0),(i 0),(i 0),(i 0),(i 0)])] [])
 (.seq (.seq (.ops [mv 5 (t 1)] [])
 (.block 0 (.seq (.ops [o 7 (.ibin .eql (t 5) (k 0)),
 mv 6 (t 7)] [])
 (.cond (t 6)
 (.ops [fa 8 0 (t 2),
 l1 9 (t 8),
 ad 10 (t 9) (k 1),
 fa 11 0 (t 2),
 st 1 (t 11) (t 10)] [])
 (.seq (.ops [o 13 (.ibin .eql (t 5) (k 1)),
 mv 12 (t 13)] [])
 (.cond (t 12)
  (.ops [fa 14 4 (t 2),
  l1 15 (t 14),
  ad 16 (t 15) (k 1),
  fa 17 4 (t 2),
  st 1 (t 17) (t 16)] [])
  (.seq (.ops [o 19 (.ibin .eql (t 5) (k 2)),
  mv 18 (t 19)] [])
  (.cond (t 18)
  (.ops [fa 20 2 (t 2),
  l1 21 (t 20),
  ad 22 (t 21) (k 1),
  fa 23 2 (t 2),
  st 1 (t 23) (t 22)] [])
  (.seq (.ops [o 25 (.ibin .eql (t 5) (k 3)),
  mv 24 (t 25)] [])
  (.cond (t 24)
   (.ops [fa 26 1 (t 2),
   l1 27 (t 26),
   ad 28 (t 27) (k 1),
   fa 29 1 (t 2),
   st 1 (t 29) (t 28)] [])
   (.seq (.ops [o 31 (.ibin .eql (t 5) (k 4)),
   mv 30 (t 31)] [])
   (.cond (t 30)
   (.ops [fa 32 3 (t 2),
   l1 33 (t 32),
   ad 34 (t 33) (k 1),
   fa 35 3 (t 2),
   st 1 (t 35) (t 34)] [])
   (.skip)))))))))))))
 (.seq (.ops [la 36 5 (t 2),
 st 5 (t 4) (t 36)] [])
 (.ret)))
def zAW:List zd:=[.cell true 5 4]
def zd4:RCode:=
 .seq (.ops [o 2 (.alloc 52 [(i 0),(i 0),sn,sn,sn])] [])
 (.seq (.seq (.ops [mv 6 (t 0),
 o 7 (.pnil .eql (t 6) (.const (.pointer none)))] [])
 (.cond (t 7)
 (.seq (.ops [o 8 (.build [(i 0),(i 0),sn,sn,sn] []),
 st 5 (t 2) (t 8)] [])
 (.ret))
 (.skip)))
 (.seq (.draw (.take (mv 9 (t 0)) (.take (o 10 (.nilck (t 9))) (.take (fa 11 0 (t 10)) (.take (l1 12 (t 11)) (.take (mv 13 (t 0)) (.take (o 14 (.nilck (t 13))) (.take (fa 15 4 (t 14)) (.take (l1 16 (t 15)) (.take (mv 17 (t 0)) (.take (mv 19 (t 0)) (.take (o 20 (.nilck (t 19))) (.take (fa 21 72 (t 20)) (.take (l1 22 (t 21)) (.alt (ca 18 F.zcs [(t 17)]) true
 (.alt (ca 23 F.zdB [(t 22)]) true
  (.take (o 24 (.build [(i 0),(i 0),sn,sn,sn] [(0,1,(t 12)),(1,1,(t 16)),(3,1,(t 18)),(4,1,(t 23))])) (.alt (o 3 (.alloc 52 [(i 0),(i 0),sn,sn,sn])) false
  (.alt (st 5 (t 3) (t 24)) false
   (.done)
   (.none))
  (.none)))
  (.alt (o 3 (.alloc 52 [(i 0),(i 0),sn,sn,sn])) false
  (.alt (ca 23 F.zdB [(t 22)]) true
   (.take (o 24 (.build [(i 0),(i 0),sn,sn,sn] [(0,1,(t 12)),(1,1,(t 16)),(3,1,(t 18)),(4,1,(t 23))])) (.alt (st 5 (t 3) (t 24)) false
   (.done)
   (.none)))
   (.none))
  (.none)))
 (.alt (o 3 (.alloc 52 [(i 0),(i 0),sn,sn,sn])) false
  (.alt (ca 18 F.zcs [(t 17)]) true
  (.alt (ca 23 F.zdB [(t 22)]) true
   (.take (o 24 (.build [(i 0),(i 0),sn,sn,sn] [(0,1,(t 12)),(1,1,(t 16)),(3,1,(t 18)),(4,1,(t 23))])) (.alt (st 5 (t 3) (t 24)) false
   (.done)
   (.none)))
   (.none))
  (.none))
  (.none)))))))))))))))) [])
 (.seq (.seq (.ops [mv 25 (t 0),
 o 26 (.nilck (t 25)),
 fa 27 5 (t 26),
 la 28 64 (t 27),
 mv 29 (k 0)] [])
 (.block 0 (.loop (.seq (.ops [o 30 (.ibin .lss (t 29) (k 64))] [])
 (.seq (.cond (t 30)
  (.skip)
  (.exit 0))
 (.seq (.block 1 (.seq (.ops [mv 31 (t 29),
 o 32 (.aidx false 64 1 (t 28) (t 29)),
 mv 4 (t 31),
 mv 5 (t 32)] [])
 (.seq (.ops [mv 33 (t 5),
 o 34 (.ibin .gtr (t 33) (k 0))] [])
 (.cond (t 34)
  (.ops [fa 35 2 (t 3),
  l1 36 (t 35),
  mv 37 (t 4),
  mv 38 (t 5),
  o 39 (.build [(i 0),(i 0)] [(0,1,(t 37)),(1,1,(t 38))]),
  o 40 (.mkSl true 108 1 [(i 0),(i 0)] [(0,2,(t 39))]),
  o 41 (.app 108 2 16 [(i 0),(i 0)] (t 36) (t 40)),
  fa 42 2 (t 3),
  st 1 (t 42) (t 41)] [])
  (.skip)))))
 (.ops [ad 43 (t 29) (k 1),
 mv 29 (t 43)] [])))))))
 (.seq (.ops [la 44 5 (t 3),
 st 5 (t 2) (t 44)] [])
 (.ret)))))
def zd5:List zd:=[.cell true 5 2]
theorem zsl {args:List Value} {M:Mem} {R:Value→Mem→Prop} (hn:args.length≤45) (h:zi Tryz.prog zd4 zd5 args M R):CallsM Tryz.prog F.zdO args M R:=
 zf (kf:=fun _=>[]) Tryz.func75 (by kernel_rfl) (by kernel_rfl) hn (by kernel_rfl) h
def zd6:RCode:=
 .block 0 (.seq (.ops [mv 15 (t 1),
 o 16 (.ibin .eql (t 15) (.const (u 126))),
 mv 14 (t 16)] [])
 (.cond (t 14)
 (.seq (.seq (.ops [mv 17 (t 0),
 o 18 (.nilck (t 17)),
 fa 19 0 (t 18),
 l1 20 (t 19),
 o 21 (.not (t 20)),
 os 22 (.mov (t 21)),
 gt 22 23 (.mov (t 0)),
 gt 22 24 (.nilck (t 23)),
 gt 22 25 (.faddr 1 (t 24)),
 gt 22 26 (.load false 1 (t 25)),
 gt 22 27 (.len (t 26)),
 gt 22 28 (.ibin .gtr (t 27) (k 0)),
 o 29 (.pick (t 22) (t 28) (kb false))] [])
 (.cond (t 29)
  (.ops [mv 30 (t 0),
  ca 31 F.zbk [(t 30)]] [])
  (.skip)))
 (.ops [mv 32 (t 0),
 mv 33 (t 0),
 o 34 (.nilck (t 32)),
 fa 35 0 (t 34),
 st 1 (t 35) (kb false),
 o 36 (.nilck (t 33)),
 fa 37 1 (t 36),
 st 1 (t 37) (.const sn)] []))
 (.seq (.ops [mv 39 (t 0),
 o 40 (.nilck (t 39)),
 fa 41 0 (t 40),
 l1 42 (t 41),
 mv 38 (t 42)] [])
 (.cond (t 38)
  (.skip)
  (.seq (.ops [mv 44 (t 0),
  o 45 (.nilck (t 44)),
  fa 46 1 (t 45),
  l1 47 (t 46),
  o 48 (.len (t 47)),
  o 49 (.ibin .eql (t 48) (k 260)),
  mv 43 (t 49)] [])
  (.cond (t 43)
  (.seq (.ops [mv 50 (t 0),
  o 51 (.nilck (t 50)),
  fa 52 2 (t 51),
  fa 53 3 (t 52),
  l1 54 (t 53),
  ad 55 (t 54) (k 1),
  o 56 (.nilck (t 50)),
  fa 57 2 (t 56),
  fa 58 3 (t 57),
  st 1 (t 58) (t 55)] [])
  (.ops [mv 59 (t 0),
  mv 60 (t 0),
  o 61 (.nilck (t 59)),
  fa 62 0 (t 61),
  st 1 (t 62) (kb true),
  o 63 (.nilck (t 60)),
  fa 64 1 (t 63),
  st 1 (t 64) (.const sn)] []))
  (.ops [mv 4 (t 0),
  mv 5 (t 0),
  o 6 (.nilck (t 5)),
  fa 7 1 (t 6),
  l1 8 (t 7),
  mv 9 (t 1),
  o 10 (.mkSl true 5 1 [(u 0)] [(0,1,(t 9))]),
  o 11 (.app 5 1 1 [(u 0)] (t 8) (t 10)),
  o 12 (.nilck (t 4)),
  fa 13 1 (t 12),
  st 1 (t 13) (t 11)] [])))))))
def zd7:List zd:=[]
theorem zsm {args:List Value} {M:Mem} {R:Value→Mem→Prop} (hn:args.length≤65) (h:zi Tryz.prog zd6 zd7 args M R):CallsM Tryz.prog F.zbe args M R:=
 zf (kf:=fun _=>[]) Tryz.func76 (by kernel_rfl) (by kernel_rfl) hn (by kernel_rfl) h
def zjp:RCode:=
 .seq (.ops [mv 2 (k 0),
 mv 3 (kb false)] [])
 (.seq (.block 0 (.seq (.ops [mv 5 (t 0),
 o 6 (.ibin .and (t 5) (.const (u 1))),
 o 7 (.ibin .eql (t 6) (.const (u 0))),
 mv 4 (t 7)] [])
 (.cond (t 4)
 (.seq (.ops [mv 2 (k 1),
 mv 3 (kb true)] [])
 (.ret))
 (.seq (.ops [mv 9 (t 0),
 o 10 (.ibin .eql (t 9) (.const (u 1))),
 mv 8 (t 10)] [])
 (.cond (t 8)
  (.seq (.ops [mv 2 (k 2),
  mv 3 (kb true)] [])
  (.ret))
  (.seq (.ops [mv 12 (t 0),
  o 13 (.ibin .eql (t 12) (.const (u 5))),
  mv 11 (t 13)] [])
  (.cond (t 11)
  (.seq (.ops [mv 2 (k 3),
  mv 3 (kb true)] [])
  (.ret))
  (.seq (.ops [mv 15 (t 0),
  o 16 (.ibin .eql (t 15) (.const (u 13))),
  mv 14 (t 16)] [])
  (.cond (t 14)
   (.seq (.ops [mv 2 (k 4),
   mv 3 (kb true)] [])
   (.ret))
   (.seq (.ops [mv 18 (t 0),
   o 19 (.ibin .andNot (t 18) (.const (u 16))),
   o 20 (.ibin .eql (t 19) (.const (u 111))),
   mv 17 (t 20)] [])
   (.cond (t 17)
   (.seq (.ops [mv 2 (k 5),
   mv 3 (kb false)] [])
   (.ret))
   (.seq (.ops [mv 22 (t 0),
   o 23 (.ibin .andNot (t 22) (.const (u 16))),
   o 24 (.ibin .eql (t 23) (.const (u 99))),
   mv 21 (t 24)] [])
   (.cond (t 21)
    (.seq (.ops [mv 2 (k 6),
    mv 3 (kb false)] [])
    (.ret))
    (.seq (.ops [mv 26 (t 0),
    o 27 (.ibin .andNot (t 26) (.const (u 16))),
    o 28 (.ibin .eql (t 27) (.const (u 15))),
    mv 25 (t 28)] [])
    (.cond (t 25)
    (.seq (.ops [mv 2 (k 7),
    mv 3 (kb false)] [])
    (.ret))
    (.skip))))))))))))))))
 (.seq (.ops [mv 2 (k 0),
 mv 3 (kb false)] [])
 (.ret)))
def zjq:List zd:=[.tmp 2,.tmp 3]
theorem zyq {args:List Value} {M:Mem} {R:Value→Mem→Prop} (hn:args.length≤29) (h:zi Tryz.prog zjp zjq args M R):CallsM Tryz.prog F.zm2 args M R:=
 zf (kf:=fun _=>[]) Tryz.func77 (by kernel_rfl) (by kernel_rfl) hn (by kernel_rfl) h
def zoK:RCode:=
 .seq (.ops [mv 6 (.const (.int .u64 0)),
 mv 7 (k 0)] [])
 (.seq (.seq (.ops [mv 11 (t 2),
 o 12 (.ibin .lss (t 11) (k 1)),
 os 13 (.mov (t 12)),
 gf 13 14 (.mov (t 2)),
 gf 13 15 (.ibin .gtr (t 14) (k 8)),
 o 16 (.pick (t 13) (kb true) (t 15)),
 os 17 (.mov (t 16)),
 gf 17 18 (.mov (t 1)),
 gf 17 19 (.ibin .lss (t 18) (k 0)),
 o 20 (.pick (t 17) (kb true) (t 19))] [])
 (.cond (t 20)
 (.seq (.ops [mv 6 (.const (.int .u64 0)),
 mv 7 (k 1)] [])
 (.ret))
 (.skip)))
 (.seq (.seq (.ops [mv 21 (t 1),
 mv 22 (t 0),
 o 23 (.len (t 22)),
 o 24 (.ibin .gtr (t 21) (t 23)),
 os 25 (.mov (t 24)),
 gf 25 26 (.mov (t 0)),
 gf 25 27 (.len (t 26)),
 gf 25 28 (.mov (t 1)),
 gf 25 29 (.ibin .sub (t 27) (t 28)),
 gf 25 30 (.mov (t 2)),
 gf 25 31 (.ibin .lss (t 29) (t 30)),
 o 32 (.pick (t 25) (kb true) (t 31))] [])
 (.cond (t 32)
 (.seq (.ops [mv 6 (.const (.int .u64 0)),
 mv 7 (k 2)] [])
 (.ret))
 (.skip)))
 (.seq (.ops [mv 8 (.const (.int .u64 0))] [])
 (.seq (.seq (.ops [mv 33 (t 0),
 mv 34 (t 1),
 mv 35 (t 1),
 mv 36 (t 2),
 ad 37 (t 35) (t 36),
 o 38 (.slx 1 (t 33) (some (t 34)) (some (t 37))),
 o 39 (.len (t 38)),
 mv 40 (k 0)] [])
 (.block 0 (.loop (.seq (.ops [o 41 (.ibin .lss (t 40) (t 39))] [])
 (.seq (.cond (t 41)
  (.skip)
  (.exit 0))
 (.seq (.block 1 (.seq (.ops [o 42 (.iaddr 1 (t 38) (t 40)),
 l1 43 (t 42),
 mv 10 (t 43)] [])
 (.ops [mv 44 (t 8),
 o 45 (.ibin .shl (t 44) (.const (.int .u64 8))),
 mv 46 (t 10),
 o 47 (.conv .u64 (t 46)),
 o 48 (.ibin .or (t 45) (t 47)),
 mv 8 (t 48)] [])))
 (.ops [ad 49 (t 40) (k 1),
 mv 40 (t 49)] [])))))))
 (.seq (.ops [mv 50 (t 8),
 mv 6 (t 50),
 mv 7 (k 0)] [])
 (.ret))))))
def zoL:List zd:=[.tmp 6,.tmp 7]
theorem zDX {args:List Value} {M:Mem} {R:Value→Mem→Prop} (hn:args.length≤51) (h:zi Tryz.prog zoK zoL args M R):CallsM Tryz.prog F.zbw args M R:=
 zf (kf:=fun _=>[]) Tryz.func78 (by kernel_rfl) (by kernel_rfl) hn (by kernel_rfl) h
def zh5:RCode:=
 .seq (.ops [o 1 (.box 101 (t 0)),
 mv 2 (k 0)] [])
 (.seq (.ops [fa 9 0 (t 1),
 l1 10 (t 9),
 ca 11 F.ziC [(t 10)],
 mv 8 (t 11),
 ex 12 (t 8) 0,
 ex 13 (t 8) 1,
 ex 14 (t 8) 2,
 ex 15 (t 8) 3,
 mv 3 (t 12),
 mv 4 (t 13),
 mv 5 (t 14),
 mv 6 (t 15)] [])
 (.seq (.ops [mv 7 (fn F.zjT)] [])
 (.seq (.block 0 (.seq (.ops [fa 17 0 (t 1),
 l1 18 (t 17),
 o 19 (.ibin .lss (t 18) (k 1)),
 os 20 (.mov (t 19)),
 gf 20 21 (.faddr 0 (t 1)),
 gf 20 22 (.load false 1 (t 21)),
 gf 20 23 (.ibin .gtr (t 22) (k 7)),
 o 24 (.pick (t 20) (kb true) (t 23)),
 mv 16 (t 24)] [])
 (.cond (t 16)
 (.seq (.ops [mv 2 (k 1)] [])
 (.ret))
 (.seq (.ops [mv 26 (t 7),
 fa 27 1 (t 1),
 l1 28 (t 27),
 o 29 (.call (t 26) [(t 28),(k 127)]),
 o 30 (.not (t 29)),
 os 31 (.mov (t 30)),
 gf 31 32 (.mov (t 7)),
 gf 31 33 (.faddr 2 (t 1)),
 gf 31 34 (.load false 1 (t 33)),
 gf 31 35 (.call (t 32) [(t 34),(k 127)]),
 gf 31 36 (.not (t 35)),
 o 37 (.pick (t 31) (kb true) (t 36)),
 os 38 (.mov (t 37)),
 gf 38 39 (.mov (t 7)),
 gf 38 40 (.faddr 4 (t 1)),
 gf 38 41 (.load false 1 (t 40)),
 gf 38 42 (.call (t 39) [(t 41),(k 65535)]),
 gf 38 43 (.not (t 42)),
 o 44 (.pick (t 38) (kb true) (t 43)),
 os 45 (.mov (t 44)),
 gf 45 46 (.mov (t 7)),
 gf 45 47 (.faddr 5 (t 1)),
 gf 45 48 (.load false 1 (t 47)),
 gf 45 49 (.call (t 46) [(t 48),(k 65535)]),
 gf 45 50 (.not (t 49)),
 o 51 (.pick (t 45) (kb true) (t 50)),
 mv 25 (t 51)] [])
 (.cond (t 25)
  (.seq (.ops [mv 2 (k 1)] [])
  (.ret))
  (.seq (.ops [mv 53 (t 3),
  o 54 (.not (t 53)),
  os 55 (.mov (t 54)),
  gt 55 56 (.faddr 1 (t 1)),
  gt 55 57 (.load false 1 (t 56)),
  gt 55 58 (.ibin .neq (t 57) (k 0)),
  o 59 (.pick (t 55) (t 58) (kb false)),
  os 60 (.mov (t 59)),
  gf 60 61 (.mov (t 4)),
  gf 60 62 (.not (t 61)),
  ⟨(some 63),.mov (t 62),some (60,false),true⟩,
  gt 63 64 (.faddr 2 (t 1)),
  gt 63 65 (.load false 1 (t 64)),
  gt 63 66 (.ibin .neq (t 65) (k 0)),
  gf 60 67 (.pick (t 63) (t 66) (kb false)),
  o 68 (.pick (t 60) (kb true) (t 67)),
  os 69 (.mov (t 68)),
  gf 69 70 (.mov (t 5)),
  gf 69 71 (.not (t 70)),
  ⟨(some 72),.mov (t 71),some (69,false),true⟩,
  gt 72 73 (.faddr 5 (t 1)),
  gt 72 74 (.load false 1 (t 73)),
  gt 72 75 (.ibin .neq (t 74) (k 0)),
  gf 69 76 (.pick (t 72) (t 75) (kb false)),
  o 77 (.pick (t 69) (kb true) (t 76)),
  os 78 (.mov (t 77)),
  gf 78 79 (.mov (t 6)),
  gf 78 80 (.faddr 6 (t 1)),
  gf 78 81 (.load false 1 (t 80)),
  gf 78 82 (.len (t 81)),
  gf 78 83 (.ibin .gtr (t 82) (k 0)),
  gf 78 84 (.bbin .neq (t 79) (t 83)),
  o 85 (.pick (t 78) (kb true) (t 84)),
  mv 52 (t 85)] [])
  (.cond (t 52)
  (.seq (.ops [mv 2 (k 2)] [])
  (.ret))
  (.seq (.ops [fa 87 6 (t 1),
  l1 88 (t 87),
  o 89 (.len (t 88)),
  o 90 (.ibin .gtr (t 89) (k 121)),
  mv 86 (t 90)] [])
  (.cond (t 86)
   (.seq (.ops [mv 2 (k 3)] [])
   (.ret))
   (.skip))))))))))
 (.seq (.ops [mv 2 (k 0)] [])
 (.ret)))))
def zh6:List zd:=[.tmp 2]
theorem zwS {args:List Value} {M:Mem} {R:Value→Mem→Prop} (hn:args.length≤91) (h:zi Tryz.prog zh5 zh6 args M R):CallsM Tryz.prog F.zeE args M R:=
 zf (kf:=fun _=>[]) Tryz.func79 (by kernel_rfl) (by kernel_rfl) hn (by kernel_rfl) h
def zfA:RCode:=
 .seq (.ops [o 3 (.box 101 (t 1))] [])
 (.seq (.seq (.draw (.take (fa 5 4 (t 3)) (.take (l1 6 (t 5)) (.take (mv 7 (t 0)) (.take (o 8 (.nilck (t 7))) (.take (fa 9 1 (t 8)) (.take (l1 10 (t 9)) (.take (o 11 (.ibin .neq (t 6) (t 10))) (.done)))))))) [])
 (.cond (t 11)
 (.seq (.ops [mv 12 (t 0),
 o 13 (.nilck (t 12)),
 fa 14 6 (t 13),
 l1 15 (t 14),
 mv 4 (t 15)] [])
 (.seq (.ops [mv 16 (t 0),
 fa 17 4 (t 3),
 l1 18 (t 17),
 o 19 (.nilck (t 16)),
 fa 20 1 (t 19),
 st 1 (t 20) (t 18)] [])
 (.seq (.ops [mv 21 (t 0),
 ca 22 F.zc6 [(t 21)]] [])
 (.seq (.ops [mv 23 (t 0),
 o 24 (.nilck (t 23)),
 fa 25 2 (t 24),
 l1 26 (t 25),
 o 27 (.not (t 26))] [])
 (.cond (t 27)
  (.ops [mv 28 (t 0),
  mv 29 (t 4),
  o 30 (.nilck (t 28)),
  fa 31 6 (t 30),
  st 1 (t 31) (t 29)] [])
  (.skip))))))
 (.skip)))
 (.draw (.take (mv 32 (t 0)) (.take (fa 33 3 (t 3)) (.take (l1 34 (t 33)) (.take (mv 35 (t 0)) (.take (o 36 (.nilck (t 35))) (.take (fa 37 1 (t 36)) (.take (l1 38 (t 37)) (.take (o 39 (.build [(i 0),(i 0),(i 0),(.bool false),(i 0),(i 0),sn] [(0,1,(k 6)),(3,1,(t 34)),(5,1,(t 38))])) (.alt (ca 40 F.zaz [(t 32),(t 39)]) false
 (.done)
 (.none)))))))))) []))
def zfB:List zd:=[]
theorem zt9 {args:List Value} {M:Mem} {R:Value→Mem→Prop} (hn:args.length≤41) (h:zi Tryz.prog zfA zfB args M R):CallsM Tryz.prog F.zjS args M R:=
 zf (kf:=fun _=>[]) Tryz.func80 (by kernel_rfl) (by kernel_rfl) hn (by kernel_rfl) h
def zjr:RCode:=
 .seq (.ops [o 3 (.box 101 (t 1))] [])
 (.seq (.seq (.draw (.take (fa 4 5 (t 3)) (.take (l1 5 (t 4)) (.take (mv 6 (t 0)) (.take (o 7 (.nilck (t 6))) (.take (fa 8 0 (t 7)) (.take (l1 9 (t 8)) (.take (o 10 (.ibin .neq (t 5) (t 9))) (.take (os 11 (.mov (t 10))) (.take (gf 11 12 (.mov (t 0))) (.take (gf 11 13 (.nilck (t 12))) (.take (gf 11 14 (.faddr 2 (t 13))) (.take (gf 11 15 (.load false 1 (t 14))) (.take (o 16 (.pick (t 11) (kb true) (t 15))) (.done)))))))))))))) [])
 (.cond (t 16)
 (.ret)
 (.skip)))
 (.seq (.seq (.draw (.take (fa 17 4 (t 3)) (.take (l1 18 (t 17)) (.take (mv 19 (t 0)) (.take (o 20 (.nilck (t 19))) (.take (fa 21 1 (t 20)) (.take (l1 22 (t 21)) (.take (o 23 (.ibin .neq (t 18) (t 22))) (.done)))))))) [])
 (.cond (t 23)
 (.seq (.ops [mv 24 (t 0),
 fa 25 4 (t 3),
 l1 26 (t 25),
 o 27 (.nilck (t 24)),
 fa 28 1 (t 27),
 st 1 (t 28) (t 26)] [])
 (.ops [mv 29 (t 0),
 ca 30 F.zc6 [(t 29)]] []))
 (.skip)))
 (.ops [mv 31 (t 0),
 ca 32 F.zfn [(t 31)]] [])))
def zjs:List zd:=[]
theorem zyr {args:List Value} {M:Mem} {R:Value→Mem→Prop} (hn:args.length≤33) (h:zi Tryz.prog zjr zjs args M R):CallsM Tryz.prog F.zm3 args M R:=
 zf (kf:=fun _=>[]) Tryz.func81 (by kernel_rfl) (by kernel_rfl) hn (by kernel_rfl) h
def zzB:RCode:=
 .seq (.ops [o 3 (.box 101 (t 1))] [])
 (.seq (.draw (.take (mv 4 (t 0)) (.take (o 5 (.nilck (t 4))) (.take (fa 6 2 (t 5)) (.take (l1 7 (t 6)) (.take (os 8 (.mov (t 7))) (.take (gt 8 9 (.faddr 5 (t 3))) (.take (gt 8 10 (.load false 1 (t 9))) (.take (gt 8 11 (.mov (t 0))) (.take (gt 8 12 (.nilck (t 11))) (.take (gt 8 13 (.faddr 0 (t 12))) (.take (gt 8 14 (.load false 1 (t 13))) (.take (gt 8 15 (.ibin .eql (t 10) (t 14))) (.take (o 16 (.pick (t 8) (t 15) (kb false))) (.take (os 17 (.mov (t 16))) (.take (gt 17 18 (.faddr 4 (t 3))) (.take (gt 17 19 (.load false 1 (t 18))) (.take (gt 17 20 (.mov (t 0))) (.take (gt 17 21 (.nilck (t 20))) (.take (gt 17 22 (.faddr 1 (t 21))) (.take (gt 17 23 (.load false 1 (t 22))) (.take (gt 17 24 (.ibin .neq (t 19) (t 23))) (.take (o 25 (.pick (t 17) (t 24) (kb false))) (.done))))))))))))))))))))))) [])
 (.cond (t 25)
 (.ops [mv 26 (t 0),
 ca 27 F.zpm [(t 26)]] [])
 (.skip)))
def zzC:List zd:=[]
def zgS:RCode:=
 .seq (.ops [o 3 (.box 101 (t 1))] [])
 (.seq (.seq (.ops [mv 4 (t 0),
 o 5 (.nilck (t 4)),
 fa 6 2 (t 5),
 l1 7 (t 6),
 o 8 (.not (t 7))] [])
 (.cond (t 8)
 (.ops [mv 9 (t 0),
 ca 10 F.zfn [(t 9)]] [])
 (.skip)))
 (.seq (.ops [fa 11 0 (t 3),
 l1 12 (t 11)] [])
 (.block 0 (.seq (.ops [o 17 (.ibin .eql (t 12) (k 1)),
 mv 16 (t 17)] [])
 (.cond (t 16)
 (.ops [mv 18 (t 0),
 la 19 7 (t 3),
 ca 20 F.zjU [(t 18),(t 19)]] [])
 (.seq (.ops [o 22 (.ibin .eql (t 12) (k 4)),
 mv 21 (t 22)] [])
 (.cond (t 21)
  (.ops [mv 23 (t 0),
  la 24 7 (t 3),
  ca 25 F.zu1 [(t 23),(t 24)]] [])
  (.ops [mv 13 (t 0),
  la 14 7 (t 3),
  ca 15 F.zjV [(t 13),(t 14)]] []))))))))
def zgT:List zd:=[]
theorem zvf {args:List Value} {M:Mem} {R:Value→Mem→Prop} (hn:args.length≤26) (h:zi Tryz.prog zgS zgT args M R):CallsM Tryz.prog F.zle args M R:=
 zf (kf:=fun _=>[]) Tryz.func83 (by kernel_rfl) (by kernel_rfl) hn (by kernel_rfl) h
def zgU:RCode:=
 .seq (.ops [o 3 (.box 101 (t 1))] [])
 (.seq (.ops [mv 4 (t 0),
 o 5 (.nilck (t 4)),
 fa 6 0 (t 5),
 l1 7 (t 6),
 fa 8 4 (t 3),
 st 1 (t 8) (t 7)] [])
 (.draw (.take (mv 9 (t 0)) (.take (mv 10 (t 0)) (.take (o 11 (.nilck (t 10))) (.take (fa 12 13 (t 11)) (.take (l1 13 (t 12)) (.take (la 14 7 (t 3)) (.alt (o 15 (.mkSl true 101 1 [(i 0),(i 0),(i 0),(.bool false),(i 0),(i 0),sn] [(0,7,(t 14))])) false
 (.alt (o 16 (.app 101 7 72 [(i 0),(i 0),(i 0),(.bool false),(i 0),(i 0),sn] (t 13) (t 15))) false
  (.take (o 17 (.nilck (t 9))) (.take (fa 18 13 (t 17)) (.alt (st 1 (t 18) (t 16)) false
  (.done)
  (.none))))
  (.none))
 (.none)))))))) []))
def zgV:List zd:=[]
theorem zvg {args:List Value} {M:Mem} {R:Value→Mem→Prop} (hn:args.length≤19) (h:zi Tryz.prog zgU zgV args M R):CallsM Tryz.prog F.zaz args M R:=
 zf (kf:=fun _=>[]) Tryz.func84 (by kernel_rfl) (by kernel_rfl) hn (by kernel_rfl) h
def zqh:RCode:=
 .seq (.ops [o 2 (.alloc 115 [(i 0),(i 0),(i 0),(i 0),(i 0),(i 0),sn,sn]),
 mv 3 (k 0)] [])
 (.seq (.seq (.ops [mv 9 (t 0),
 o 10 (.len (t 9)),
 o 11 (.ibin .eql (t 10) (k 0))] [])
 (.cond (t 11)
 (.seq (.ops [o 12 (.build [(i 0),(i 0),(i 0),(i 0),(i 0),(i 0),sn,sn] []),
 st 8 (t 2) (t 12),
 mv 3 (k 2)] [])
 (.ret))
 (.skip)))
 (.seq (.ops [mv 13 (t 0),
 o 14 (.iaddr 1 (t 13) (k 0)),
 l1 15 (t 14),
 o 16 (.conv .i64 (t 15)),
 o 17 (.build [(i 0),(i 0),(i 0),(i 0),(i 0),(i 0),sn,sn] [(0,1,(t 16))]),
 o 4 (.alloc 115 [(i 0),(i 0),(i 0),(i 0),(i 0),(i 0),sn,sn]),
 st 8 (t 4) (t 17)] [])
 (.seq (.ops [mv 19 (t 0),
 ca 20 F.zbw [(t 19),(k 1),(k 2)],
 mv 18 (t 20),
 ex 21 (t 18) 0,
 ex 22 (t 18) 1,
 mv 5 (t 21),
 mv 6 (t 22)] [])
 (.seq (.block 0 (.seq (.ops [fa 35 0 (t 4),
 l1 36 (t 35),
 o 37 (.ibin .eql (t 36) (k 4)),
 mv 34 (t 37)] [])
 (.cond (t 34)
 (.seq (.seq (.ops [mv 38 (t 0),
 o 39 (.slx 1 (t 38) (some (k 1)) none),
 o 40 (.len (t 39)),
 mv 41 (k 0)] [])
 (.block 1 (.loop (.seq (.ops [o 42 (.ibin .lss (t 41) (t 40))] [])
  (.seq (.cond (t 42)
  (.skip)
  (.exit 1))
  (.seq (.block 2 (.seq (.ops [o 43 (.iaddr 1 (t 39) (t 41)),
  l1 44 (t 43),
  mv 8 (t 44)] [])
  (.ops [fa 45 7 (t 4),
  l1 46 (t 45),
  mv 47 (t 8),
  o 48 (.conv .i64 (t 47)),
  o 49 (.mkSl true 3 1 [(i 0)] [(0,1,(t 48))]),
  o 50 (.app 3 1 8 [(i 0)] (t 46) (t 49)),
  fa 51 7 (t 4),
  st 1 (t 51) (t 50)] [])))
  (.ops [ad 52 (t 41) (k 1),
  mv 41 (t 52)] [])))))))
 (.ops [mv 6 (k 0)] []))
 (.seq (.ops [mv 54 (t 6),
 o 55 (.ibin .neq (t 54) (k 0)),
 mv 53 (t 55)] [])
 (.cond (t 53)
  (.skip)
  (.seq (.ops [fa 57 0 (t 4),
  l1 58 (t 57),
  o 59 (.ibin .eql (t 58) (k 1)),
  mv 56 (t 59)] [])
  (.cond (t 56)
  (.seq (.ops [mv 60 (t 5),
  o 61 (.conv .i64 (t 60)),
  fa 62 1 (t 4),
  st 1 (t 62) (t 61)] [])
  (.ops [mv 64 (t 0),
  o 65 (.slx 1 (t 64) (some (k 3)) none),
  ca 66 F.znP [(t 65)],
  mv 63 (t 66),
  ex 67 (t 63) 0,
  ex 68 (t 63) 1,
  fa 69 2 (t 4),
  st 5 (t 69) (t 67),
  mv 6 (t 68)] []))
  (.seq (.ops [mv 23 (t 5),
  o 24 (.conv .i64 (t 23)),
  fa 25 1 (t 4),
  st 1 (t 25) (t 24)] [])
  (.ops [mv 27 (t 0),
  o 28 (.slx 1 (t 27) (some (k 3)) none),
  ca 29 F.zkl [(t 28)],
  mv 26 (t 29),
  ex 30 (t 26) 0,
  ex 31 (t 26) 1,
  fa 32 2 (t 4),
  fa 33 0 (t 32),
  st 4 (t 33) (t 30),
  mv 6 (t 31)] [])))))))))
 (.seq (.seq (.ops [mv 70 (t 6),
 o 71 (.ibin .neq (t 70) (k 0)),
 os 72 (.mov (t 71)),
 gf 72 73 (.load true 8 (t 4)),
 gf 72 74 (.call (fn F.znr) [(t 73)]),
 gf 72 75 (.ibin .neq (t 74) (k 0)),
 o 76 (.pick (t 72) (kb true) (t 75))] [])
 (.cond (t 76)
 (.seq (.ops [o 77 (.build [(i 0),(i 0),(i 0),(i 0),(i 0),(i 0),sn,sn] []),
 st 8 (t 2) (t 77),
 mv 3 (k 2)] [])
 (.ret))
 (.skip)))
 (.seq (.ops [la 78 8 (t 4),
 st 8 (t 2) (t 78),
 mv 3 (k 0)] [])
 (.ret)))))))
def zqi:List zd:=[.cell true 8 2,.tmp 3]
theorem zFR {args:List Value} {M:Mem} {R:Value→Mem→Prop} (hn:args.length≤79) (h:zi Tryz.prog zqh zqi args M R):CallsM Tryz.prog F.ztF args M R:=
 zf (kf:=fun _=>[]) Tryz.func85 (by kernel_rfl) (by kernel_rfl) hn (by kernel_rfl) h
def zd8:RCode:=
 .seq (.ops [o 5 (.box 115 (t 2))] [])
 (.seq (.ops [fa 11 2 (t 5),
 fa 12 0 (t 11),
 la 13 4 (t 12),
 o 6 (.alloc 37 [(i 0),(i 0),(i 0),(i 0)]),
 st 4 (t 6) (t 13)] [])
 (.seq (.ops [mv 7 (k 0)] [])
 (.seq (.seq (.draw (.take (fa 14 1 (t 6)) (.take (l1 15 (t 14)) (.take (mv 16 (t 0)) (.take (o 17 (.nilck (t 16))) (.take (fa 18 0 (t 17)) (.take (l1 19 (t 18)) (.take (o 20 (.ibin .eql (t 15) (t 19))) (.done)))))))) [])
 (.cond (t 20)
 (.seq (.draw (.take (mv 21 (t 0)) (.take (o 22 (.nilck (t 21))) (.take (fa 23 11 (t 22)) (.take (l1 24 (t 23)) (.take (la 25 4 (t 6)) (.alt (ca 26 F.zfb [(t 24),(t 25)]) false
  (.take (o 27 (.not (t 26))) (.done))
  (.none))))))) [])
 (.cond (t 27)
  (.seq (.draw (.take (mv 28 (t 0)) (.take (o 29 (.nilck (t 28))) (.take (fa 30 11 (t 29)) (.take (l1 31 (t 30)) (.take (la 32 4 (t 6)) (.alt (ca 33 F.zde [(t 31),(t 32)]) false
  (.take (mv 7 (t 33)) (.done))
  (.none))))))) [])
  (.seq (.seq (.ops [mv 34 (t 7),
  o 35 (.ibin .eql (t 34) (k 0))] [])
  (.cond (t 35)
  (.draw (.take (mv 36 (t 0)) (.take (mv 37 (t 0)) (.take (o 38 (.nilck (t 37))) (.take (fa 39 15 (t 38)) (.take (l1 40 (t 39)) (.take (fa 41 2 (t 5)) (.take (la 42 5 (t 41)) (.alt (o 43 (.mkSl true 78 1 [(i 0),(i 0),(i 0),(i 0),sn] [(0,5,(t 42))])) false
   (.alt (o 44 (.app 78 5 56 [(i 0),(i 0),(i 0),(i 0),sn] (t 40) (t 43))) false
   (.take (o 45 (.nilck (t 36))) (.take (fa 46 15 (t 45)) (.alt (st 1 (t 46) (t 44)) false
    (.done)
    (.none))))
   (.none))
   (.none))))))))) [])
  (.skip)))
  (.seq (.ops [mv 47 (t 7),
  o 48 (.ibin .eql (t 47) (k 5))] [])
  (.cond (t 48)
  (.ops [mv 7 (k 0)] [])
  (.skip)))))
  (.skip)))
 (.seq (.draw (.take (mv 50 (t 0)) (.take (o 51 (.nilck (t 50))) (.take (fa 52 11 (t 51)) (.take (l1 53 (t 52)) (.take (la 54 4 (t 6)) (.alt (ca 55 F.zkm [(t 53),(t 54)]) false
  (.take (mv 49 (t 55)) (.take (ex 56 (t 49) 0) (.take (ex 57 (t 49) 1) (.alt (o 8 (.alloc 78 [(i 0),(i 0),(i 0),(i 0),sn])) false
  (.alt (st 5 (t 8) (t 56)) false
   (.take (mv 9 (t 57)) (.done))
   (.none))
  (.none)))))
  (.alt (o 8 (.alloc 78 [(i 0),(i 0),(i 0),(i 0),sn])) false
  (.alt (ca 55 F.zkm [(t 53),(t 54)]) false
   (.take (mv 49 (t 55)) (.take (ex 56 (t 49) 0) (.take (ex 57 (t 49) 1) (.alt (st 5 (t 8) (t 56)) false
   (.take (mv 9 (t 57)) (.done))
   (.none)))))
   (.none))
  (.none)))))))) [])
 (.seq (.ops [mv 58 (t 9),
 o 59 (.not (t 58))] [])
 (.cond (t 59)
  (.draw (.take (mv 60 (t 0)) (.take (o 61 (.nilck (t 60))) (.take (fa 62 11 (t 61)) (.take (l1 63 (t 62)) (.take (fa 64 2 (t 5)) (.take (la 65 5 (t 64)) (.alt (ca 66 F.zqE [(t 63),(t 65)]) false
  (.take (mv 7 (t 66)) (.done))
  (.none)))))))) [])
  (.seq (.draw (.take (mv 67 (t 0)) (.take (o 68 (.nilck (t 67))) (.take (fa 69 14 (t 68)) (.take (l1 70 (t 69)) (.take (la 71 4 (t 6)) (.alt (ca 72 F.zsF [(t 70),(t 71)]) false
  (.done)
  (.none))))))) [])
  (.cond (t 72)
  (.ops [mv 7 (k 7)] [])
  (.skip))))))))
 (.seq (.seq (.ops [mv 73 (t 0),
 o 74 (.nilck (t 73)),
 fa 75 11 (t 74),
 l1 76 (t 75),
 ca 77 F.zO [(t 76)]] [])
 (.cond (t 77)
 (.ret)
 (.skip)))
 (.seq (.ops [mv 10 (k 2)] [])
 (.seq (.seq (.ops [mv 78 (t 7),
 o 79 (.ibin .neq (t 78) (k 0))] [])
 (.cond (t 79)
 (.ops [mv 10 (k 3)] [])
 (.skip)))
 (.ops [mv 80 (t 0),
 mv 81 (t 1),
 mv 82 (t 10),
 fa 83 1 (t 5),
 l1 84 (t 83),
 la 85 4 (t 6),
 o 86 (.build [(i 0),(i 0),(i 0),(i 0),sn] [(0,4,(t 85))]),
 o 87 (.build [(i 0),(i 0),(i 0),(i 0),(i 0),(i 0),sn,sn] [(0,1,(t 82)),(1,1,(t 84)),(2,5,(t 86))]),
 ca 88 F.zdy [(t 80),(t 81),(t 87)]] [])))))))
def zd9:List zd:=[]
theorem zsn {args:List Value} {M:Mem} {R:Value→Mem→Prop} (hn:args.length≤89) (h:zi Tryz.prog zd8 zd9 args M R):CallsM Tryz.prog F.zhL args M R:=
 zf (kf:=fun _=>[]) Tryz.func86 (by kernel_rfl) (by kernel_rfl) hn (by kernel_rfl) h
def zjt:RCode:=
 .seq (.ops [o 7 (.box 37 (t 3)),
 mv 8 (kb false)] [])
 (.seq (.draw (.take (mv 10 (t 0)) (.take (mv 11 (t 1)) (.take (la 12 4 (t 7)) (.alt (ca 13 F.zhr [(t 10),(t 11),(t 12)]) true
 (.take (os 14 (.mov (t 13))) (.take (gt 14 15 (.mov (t 0))) (.take (gt 14 16 (.nilck (t 15))) (.take (gt 14 17 (.faddr 2 (t 16))) (.take (gt 14 18 (.load false 1 (t 17))) (.take (gt 14 19 (.load true 4 (t 7))) (.take (gt 14 20 (.mget (.agg 4) false (.agg #[(i 0),(i 0),(i 0),(i 0)]) (t 18) (t 19))) (.take (gt 14 21 (.field false 1 1 (t 20))) (.take (gt 14 22 (.mov (t 2))) (.take (gt 14 23 (.ibin .eql (t 21) (t 22))) (.take (o 24 (.pick (t 14) (t 23) (kb false))) (.take (mv 9 (t 24)) (.done)))))))))))))
 (.none))))) [])
 (.seq (.seq (.ops [mv 25 (t 9)] [])
 (.cond (t 25)
 (.draw (.take (mv 26 (t 0)) (.take (o 27 (.nilck (t 26))) (.take (fa 28 2 (t 27)) (.take (l1 29 (t 28)) (.take (la 30 4 (t 7)) (.alt (e (.mdel (.agg 4) (t 29) (t 30))) false
  (.done)
  (.none))))))) [])
 (.skip)))
 (.seq (.ops [mv 31 (t 9),
 mv 8 (t 31)] [])
 (.ret))))
def zju:List zd:=[.tmp 8]
theorem zys {args:List Value} {M:Mem} {R:Value→Mem→Prop} (hn:args.length≤32) (h:zi Tryz.prog zjt zju args M R):CallsM Tryz.prog F.zm4 args M R:=
 zf (kf:=fun _=>[]) Tryz.func87 (by kernel_rfl) (by kernel_rfl) hn (by kernel_rfl) h
def zbm:RCode:=
 .seq (.ops [o 3 (.box 37 (t 1)),
 mv 4 (k 0)] [])
 (.seq (.ops [mv 5 (t 0),
 la 6 4 (t 3),
 o 7 (.build [(i 0),(i 0),(i 0),(i 0),sn] [(0,4,(t 6))]),
 o 8 (.build [(i 0),(i 0),(i 0),(i 0),(i 0),sn] [(0,1,(k 3)),(1,5,(t 7))]),
 ca 9 F.zar [(t 5),(t 8),(kb false)],
 mv 4 (t 9)] [])
 (.ret))
def zbn:List zd:=[.tmp 4]
theorem zn9 {args:List Value} {M:Mem} {R:Value→Mem→Prop} (hn:args.length≤10) (h:zi Tryz.prog zbm zbn args M R):CallsM Tryz.prog F.zdd args M R:=
 zf (kf:=fun _=>[]) Tryz.func88 (by kernel_rfl) (by kernel_rfl) hn (by kernel_rfl) h
def zvh:RCode:=
 .seq (.ops [o 7 (.box 37 (t 3)),
 mv 8 (kb false)] [])
 (.seq (.draw (.take (mv 10 (t 0)) (.take (mv 11 (t 1)) (.take (la 12 4 (t 7)) (.alt (ca 13 F.zhr [(t 10),(t 11),(t 12)]) true
 (.take (os 14 (.mov (t 13))) (.take (gt 14 15 (.mov (t 0))) (.take (gt 14 16 (.nilck (t 15))) (.take (gt 14 17 (.faddr 2 (t 16))) (.take (gt 14 18 (.load false 1 (t 17))) (.take (gt 14 19 (.load true 4 (t 7))) (.take (gt 14 20 (.mget (.agg 4) false (.agg #[(i 0),(i 0),(i 0),(i 0)]) (t 18) (t 19))) (.take (gt 14 21 (.field false 1 1 (t 20))) (.take (gt 14 22 (.mov (t 2))) (.take (gt 14 23 (.ibin .eql (t 21) (t 22))) (.take (o 24 (.pick (t 14) (t 23) (kb false))) (.take (mv 9 (t 24)) (.done)))))))))))))
 (.none))))) [])
 (.seq (.seq (.ops [mv 25 (t 9)] [])
 (.cond (t 25)
 (.draw (.take (mv 26 (t 0)) (.take (o 27 (.nilck (t 26))) (.take (fa 28 2 (t 27)) (.take (l1 29 (t 28)) (.take (la 30 4 (t 7)) (.take (mv 31 (t 0)) (.take (o 32 (.nilck (t 31))) (.take (fa 33 0 (t 32)) (.take (l1 34 (t 33)) (.take (o 35 (.build [(i 0),(i 0),(i 0),(i 0)] [(0,1,(k (-1))),(3,1,(t 34))])) (.alt (e (.mset (.agg 4) (t 29) (t 30) (t 35))) false
  (.done)
  (.none)))))))))))) [])
 (.skip)))
 (.seq (.ops [mv 36 (t 9),
 mv 8 (t 36)] [])
 (.ret))))
def zvi:List zd:=[.tmp 8]
def zea:RCode:=
 .seq (.ops [mv 6 (k 0)] [])
 (.seq (.block 0 (.seq (.ops [mv 11 (t 0),
 o 12 (.pnil .eql (t 11) (.const (.pointer none))),
 mv 10 (t 12)] [])
 (.cond (t 10)
 (.seq (.ops [mv 6 (k 7)] [])
 (.ret))
 (.seq (.ops [mv 14 (t 0),
 mv 15 (t 1),
 ca 16 F.zb0 [(t 14),(t 15)],
 o 17 (.not (t 16)),
 mv 13 (t 17)] [])
 (.cond (t 13)
  (.seq (.ops [mv 6 (k 4)] [])
  (.ret))
  (.seq (.ops [mv 19 (t 2),
  o 20 (.len (t 19)),
  o 21 (.ibin .neq (t 20) (k 64)),
  mv 18 (t 21)] [])
  (.cond (t 18)
  (.seq (.ops [mv 6 (k 2)] [])
  (.ret))
  (.skip))))))))
 (.seq (.ops [mv 22 (t 0),
 o 23 (.nilck (t 22)),
 fa 24 1 (t 23),
 l1 25 (t 24),
 o 26 (.build [(i 0),(i 0),(i 0),(i 0),(i 0),(i 0),(i 0),(i 0),(i 0),(i 0),(i 0),(i 0),(i 0),(i 0),(i 0),(i 0),(i 0),(i 0),(i 0),(i 0),(i 0),(i 0),(i 0),(i 0),(i 0),(i 0),(i 0),(i 0),(i 0),(i 0),(i 0),(i 0),(i 0),(i 0),(i 0),(i 0),(i 0),(i 0),(i 0),(i 0),(i 0),(i 0),(i 0),(i 0),(i 0),(i 0),(i 0),(i 0),(i 0),(i 0),(i 0),(i 0),(i 0),(i 0),(i 0),(i 0),(i 0),(i 0),(i 0),(i 0),(i 0),(i 0),(i 0),(i 0),(i 0)] [(64,1,(t 25))]),
 o 7 (.alloc 178 [(i 0),(i 0),(i 0),(i 0),(i 0),(i 0),(i 0),(i 0),(i 0),(i 0),(i 0),(i 0),(i 0),(i 0),(i 0),(i 0),(i 0),(i 0),(i 0),(i 0),(i 0),(i 0),(i 0),(i 0),(i 0),(i 0),(i 0),(i 0),(i 0),(i 0),(i 0),(i 0),(i 0),(i 0),(i 0),(i 0),(i 0),(i 0),(i 0),(i 0),(i 0),(i 0),(i 0),(i 0),(i 0),(i 0),(i 0),(i 0),(i 0),(i 0),(i 0),(i 0),(i 0),(i 0),(i 0),(i 0),(i 0),(i 0),(i 0),(i 0),(i 0),(i 0),(i 0),(i 0),(i 0)]),
 st 65 (t 7) (t 26)] [])
 (.seq (.seq (.ops [mv 27 (t 2),
 o 28 (.len (t 27)),
 mv 29 (k 0)] [])
 (.block 1 (.loop (.seq (.ops [o 30 (.ibin .lss (t 29) (t 28))] [])
 (.seq (.cond (t 30)
  (.skip)
  (.exit 1))
 (.seq (.block 2 (.seq (.ops [mv 31 (t 29),
 o 32 (.iaddr 1 (t 27) (t 29)),
 l1 33 (t 32),
 mv 8 (t 31),
 mv 9 (t 33)] [])
 (.seq (.seq (.ops [mv 34 (t 9),
 o 35 (.ibin .lss (t 34) (k 0)),
 os 36 (.mov (t 35)),
 gf 36 37 (.mov (t 9)),
 gf 36 38 (.ibin .gtr (t 37) (k 16)),
 o 39 (.pick (t 36) (kb true) (t 38))] [])
 (.cond (t 39)
  (.seq (.ops [mv 6 (k 2)] [])
  (.ret))
  (.skip)))
 (.ops [mv 40 (t 8),
 mv 41 (t 9),
 fa 42 0 (t 7),
 o 43 (.iaddrA 64 1 (t 42) (t 40)),
 st 1 (t 43) (t 41)] []))))
 (.ops [ad 44 (t 29) (k 1),
 mv 29 (t 44)] [])))))))
 (.seq (.draw (.take (mv 45 (t 0)) (.take (o 46 (.nilck (t 45))) (.take (fa 47 4 (t 46)) (.take (l1 48 (t 47)) (.take (mv 49 (t 1)) (.take (la 50 65 (t 7)) (.alt (e (.mset .int (t 48) (t 49) (t 50))) false
 (.done)
 (.none)))))))) [])
 (.seq (.ops [mv 6 (k 0)] [])
 (.ret))))))
def zeb:List zd:=[.tmp 6]
theorem zso {args:List Value} {M:Mem} {R:Value→Mem→Prop} (hn:args.length≤51) (h:zi Tryz.prog zea zeb args M R):CallsM Tryz.prog F.zhM args M R:=
 zf (kf:=fun _=>[]) Tryz.func90 (by kernel_rfl) (by kernel_rfl) hn (by kernel_rfl) h
def zms:RCode:=
 .seq (.ops [o 2 (.box 78 (t 0)),
 o 3 (.box 78 (t 1)),
 mv 4 (kb false)] [])
 (.seq (.ops [fa 5 0 (t 2),
 la 6 4 (t 5),
 fa 7 0 (t 3),
 la 8 4 (t 7),
 o 9 (.aeq .eql 4 (t 6) (t 8)),
 os 10 (.mov (t 9)),
 gt 10 11 (.faddr 4 (t 2)),
 gt 10 12 (.load false 1 (t 11)),
 gt 10 13 (.strOf (t 12)),
 gt 10 14 (.faddr 4 (t 3)),
 gt 10 15 (.load false 1 (t 14)),
 gt 10 16 (.strOf (t 15)),
 gt 10 17 (.strE .eql (t 13) (t 16)),
 o 18 (.pick (t 10) (t 17) (kb false)),
 mv 4 (t 18)] [])
 (.ret))
def zmt:List zd:=[.tmp 4]
theorem zAX {args:List Value} {M:Mem} {R:Value→Mem→Prop} (hn:args.length≤19) (h:zi Tryz.prog zms zmt args M R):CallsM Tryz.prog F.zpl args M R:=
 zf (kf:=fun _=>[]) Tryz.func91 (by kernel_rfl) (by kernel_rfl) hn (by kernel_rfl) h
def zdi:RCode:=
 .seq (.ops [mv 2 (.const sn)] [])
 (.seq (.seq (.ops [mv 5 (t 0),
 o 6 (.pnil .eql (t 5) (.const (.pointer none)))] [])
 (.cond (t 6)
 (.seq (.ops [mv 2 (.const sn)] [])
 (.ret))
 (.skip)))
 (.seq (.ops [mv 3 (.const sn)] [])
 (.seq (.seq (.ops [mv 7 (t 0),
 o 8 (.nilck (t 7)),
 fa 9 4 (t 8),
 l1 10 (t 9),
 o 11 (.mrange (t 10))] [])
 (.block 0 (.loop (.seq (.ops [o 12 (.mnext (t 11)),
 ex 13 (t 12) 0] [])
 (.seq (.cond (t 13)
  (.skip)
  (.exit 0))
 (.block 1 (.seq (.ops [o 14 (.mentry (t 11)),
 ex 15 (t 14) 0,
 mv 4 (t 15)] [])
 (.ops [mv 16 (t 3),
 mv 17 (t 4),
 o 18 (.mkSl true 3 1 [(i 0)] [(0,1,(t 17))]),
 o 19 (.app 3 1 8 [(i 0)] (t 16) (t 18)),
 mv 3 (t 19)] []))))))))
 (.seq (.ops [mv 20 (t 3),
 ca 21 F.zcD [(t 20)]] [])
 (.seq (.ops [mv 22 (t 3),
 mv 2 (t 22)] [])
 (.ret))))))
def zdj:List zd:=[.tmp 2]
theorem zrq {args:List Value} {M:Mem} {R:Value→Mem→Prop} (hn:args.length≤23) (h:zi Tryz.prog zdi zdj args M R):CallsM Tryz.prog F.zgs args M R:=
 zf (kf:=fun _=>[]) Tryz.func92 (by kernel_rfl) (by kernel_rfl) hn (by kernel_rfl) h
def zcN:RCode:=
 .seq (.ops [mv 3 (t 0),
 o 4 (.len (t 3)),
 mv 2 (t 4)] [])
 (.ops [mv 5 (t 0),
 mv 6 (t 2),
 mv 7 (t 2),
 o 8 (.conv .u64 (t 7)),
 ca 9 F.za8 [(t 8)],
 ca 10 F.zay [(t 5),(k 0),(t 6),(t 9)]] [])
def zcO:List zd:=[]
theorem zqL {args:List Value} {M:Mem} {R:Value→Mem→Prop} (hn:args.length≤11) (h:zi Tryz.prog zcN zcO args M R):CallsM Tryz.prog F.zcD args M R:=
 zf (kf:=fun _=>[]) Tryz.func93 (by kernel_rfl) (by kernel_rfl) hn (by kernel_rfl) h
def zrr:RCode:=
 .seq (.ops [mv 2 (.const sn)] [])
 (.seq (.seq (.ops [mv 5 (t 0),
 o 6 (.pnil .eql (t 5) (.const (.pointer none)))] [])
 (.cond (t 6)
 (.seq (.ops [mv 2 (.const sn)] [])
 (.ret))
 (.skip)))
 (.seq (.ops [o 3 (.alloc 84 [sn])] [])
 (.seq (.seq (.draw (.take (mv 7 (t 0)) (.take (o 8 (.nilck (t 7))) (.take (fa 9 1 (t 8)) (.take (l1 10 (t 9)) (.take (mv 11 (t 0)) (.take (o 12 (.nilck (t 11))) (.take (fa 13 3 (t 12)) (.take (l1 14 (t 13)) (.alt (ca 15 F.zc2 [(t 10),(t 14)]) false
 (.done)
 (.none)))))))))) [])
 (.block 0 (.rfun ((t 15)) [16] (.ops [mv 4 (t 16)] [])
 (.block 1 (.ops [l1 17 (t 3),
 mv 18 (t 4),
 o 19 (.mkSl true 3 1 [(i 0)] [(0,1,(t 18))]),
 o 20 (.app 3 1 8 [(i 0)] (t 17) (t 19)),
 st 1 (t 3) (t 20)] [])))))
 (.seq (.ops [l1 21 (t 3),
 mv 2 (t 21)] [])
 (.ret)))))
def zrs:List zd:=[.tmp 2]
def zfC:RCode:=
 .seq (.ops [mv 4 (t 0),
 mv 5 (t 1),
 o 6 (.build [(i 0),(i 0),(i 0),(.bool false),(i 0),(i 0),sn] [(0,1,(k 5)),(3,1,(t 5))]),
 ca 7 F.zaz [(t 4),(t 6)]] [])
 (.ops [mv 8 (t 0),
 mv 9 (t 0),
 o 10 (.nilck (t 9)),
 fa 11 4 (t 10),
 l1 12 (t 11),
 o 13 (.nilck (t 8)),
 fa 14 6 (t 13),
 st 1 (t 14) (t 12)] [])
def zfD:List zd:=[]
theorem zua {args:List Value} {M:Mem} {R:Value→Mem→Prop} (hn:args.length≤15) (h:zi Tryz.prog zfC zfD args M R):CallsM Tryz.prog F.zc5 args M R:=
 zf (kf:=fun _=>[]) Tryz.func95 (by kernel_rfl) (by kernel_rfl) hn (by kernel_rfl) h
def zwT:RCode:=
 .seq (.ops [mv 2 (t 0),
 mv 3 (t 0),
 o 4 (.nilck (t 3)),
 fa 5 0 (t 4),
 l1 6 (t 5),
 ad 7 (t 6) (k 1),
 o 8 (.ibin .rem (t 7) (k 65536)),
 o 9 (.nilck (t 2)),
 fa 10 0 (t 9),
 st 1 (t 10) (t 8)] [])
 (.seq (.ops [mv 11 (t 0),
 mv 12 (t 0),
 o 13 (.nilck (t 11)),
 fa 14 2 (t 13),
 st 1 (t 14) (kb false),
 o 15 (.nilck (t 12)),
 fa 16 1 (t 15),
 st 1 (t 16) (k (-1))] [])
 (.seq (.ops [mv 17 (t 0),
 ca 18 F.zc6 [(t 17)]] [])
 (.ops [mv 19 (t 0),
 ca 20 F.zc5 [(t 19),(kb false)]] [])))
def zwU:List zd:=[]
def zrt:RCode:=
 .seq (.ops [mv 4 (.const sn),
 mv 5 (k 0)] [])
 (.seq (.seq (.ops [mv 6 (t 0),
 o 7 (.pnil .eql (t 6) (.const (.pointer none)))] [])
 (.cond (t 7)
 (.seq (.ops [mv 4 (.const sn),
 mv 5 (k 7)] [])
 (.ret))
 (.skip)))
 (.seq (.seq (.ops [mv 8 (t 1),
 o 9 (.ibin .lss (t 8) (k 0)),
 os 10 (.mov (t 9)),
 gf 10 11 (.mov (t 1)),
 gf 10 12 (.ibin .geq (t 11) (k 128)),
 o 13 (.pick (t 10) (kb true) (t 12))] [])
 (.cond (t 13)
 (.seq (.ops [mv 4 (.const sn),
 mv 5 (k 1)] [])
 (.ret))
 (.skip)))
 (.seq (.seq (.draw (.take (mv 14 (t 0)) (.take (o 15 (.nilck (t 14))) (.take (fa 16 1 (t 15)) (.take (l1 17 (t 16)) (.take (mv 18 (t 0)) (.take (o 19 (.nilck (t 18))) (.take (fa 20 3 (t 19)) (.take (l1 21 (t 20)) (.take (mv 22 (t 1)) (.alt (ca 23 F.zns [(t 17),(t 21),(t 22)]) false
 (.take (o 24 (.not (t 23))) (.done))
 (.none))))))))))) [])
 (.cond (t 24)
 (.seq (.ops [mv 4 (.const sn),
 mv 5 (k 4)] [])
 (.ret))
 (.skip)))
 (.seq (.draw (.take (mv 26 (t 0)) (.take (o 27 (.nilck (t 26))) (.take (fa 28 2 (t 27)) (.take (l1 29 (t 28)) (.take (mv 30 (t 0)) (.take (o 31 (.nilck (t 30))) (.take (fa 32 1 (t 31)) (.take (l1 33 (t 32)) (.take (mv 34 (t 1)) (.alt (o 25 (.mkSl false 5 0 [] [])) false
 (.alt (ca 35 F.zdC [(t 33),(t 34)]) true
  (.take (o 36 (.iaddr 1 (t 29) (t 35))) (.take (l1 37 (t 36)) (.alt (o 38 (.app 5 1 1 [(u 0)] (t 25) (t 37))) false
  (.take (mv 4 (t 38)) (.take (mv 5 (k 0)) (.done)))
  (.none))))
  (.none))
 (.alt (ca 35 F.zdC [(t 33),(t 34)]) true
  (.take (o 36 (.iaddr 1 (t 29) (t 35))) (.take (l1 37 (t 36)) (.alt (o 25 (.mkSl false 5 0 [] [])) false
  (.alt (o 38 (.app 5 1 1 [(u 0)] (t 25) (t 37))) false
   (.take (mv 4 (t 38)) (.take (mv 5 (k 0)) (.done)))
   (.none))
  (.none))))
  (.none)))))))))))) [])
 (.ret)))))
def zru:List zd:=[.tmp 4,.tmp 5]
def zgW:RCode:=
 .draw (.take (mv 8 (t 0)) (.take (mv 9 (t 1)) (.take (mv 10 (t 0)) (.take (o 11 (.nilck (t 10))) (.take (fa 12 12 (t 11)) (.take (l1 13 (t 12)) (.take (mv 15 (t 3)) (.take (mv 16 (t 0)) (.take (o 17 (.nilck (t 16))) (.take (fa 18 1 (t 17)) (.take (l1 19 (t 18)) (.take (mv 20 (t 2)) (.alt (ca 14 F.zbj [(t 13)]) true
 (.take (o 21 (.build [(i 0),(i 0),(i 0),(.bool false),(i 0),(i 0),sn] [(0,1,(k 1)),(1,1,(t 9)),(2,1,(t 14)),(3,1,(t 15)),(5,1,(t 19)),(6,1,(t 20))])) (.alt (ca 22 F.zaz [(t 8),(t 21)]) false
  (.done)
  (.none)))
 (.none)))))))))))))) []
def zgX:List zd:=[]
theorem zvj {args:List Value} {M:Mem} {R:Value→Mem→Prop} (hn:args.length≤23) (h:zi Tryz.prog zgW zgX args M R):CallsM Tryz.prog F.zdz args M R:=
 zf (kf:=fun _=>[]) Tryz.func98 (by kernel_rfl) (by kernel_rfl) hn (by kernel_rfl) h
def zsZ:RCode:=
 .seq (.ops [mv 2 (k 0)] [])
 (.seq (.seq (.ops [mv 3 (t 0),
 o 4 (.pnil .eql (t 3) (.const (.pointer none)))] [])
 (.cond (t 4)
 (.seq (.ops [mv 2 (k 0)] [])
 (.ret))
 (.skip)))
 (.seq (.ops [mv 5 (t 0),
 o 6 (.nilck (t 5)),
 fa 7 2 (t 6),
 l1 8 (t 7),
 o 9 (.len (t 8)),
 mv 2 (t 9)] [])
 (.ret)))
def zs0:List zd:=[.tmp 2]
def zcP:RCode:=
 .seq (.ops [mv 2 (k 0)] [])
 (.seq (.seq (.ops [mv 3 (t 0),
 o 4 (.pnil .eql (t 3) (.const (.pointer none)))] [])
 (.cond (t 4)
 (.seq (.ops [mv 2 (k 0)] [])
 (.ret))
 (.skip)))
 (.seq (.ops [mv 5 (t 0),
 o 6 (.nilck (t 5)),
 fa 7 1 (t 6),
 l1 8 (t 7),
 mv 2 (t 8)] [])
 (.ret)))
def zcQ:List zd:=[.tmp 2]
theorem zqM {args:List Value} {M:Mem} {R:Value→Mem→Prop} (hn:args.length≤9) (h:zi Tryz.prog zcP zcQ args M R):CallsM Tryz.prog F.zbj args M R:=
 zf (kf:=fun _=>[]) Tryz.func100 (by kernel_rfl) (by kernel_rfl) hn (by kernel_rfl) h
def zqj:RCode:=
 .seq (.ops [o 1 (.box 115 (t 0)),
 mv 2 (.const sn),
 mv 3 (k 0)] [])
 (.seq (.seq (.ops [la 10 8 (t 1),
 ca 11 F.znr [(t 10)],
 mv 4 (t 11)] [])
 (.seq (.ops [mv 12 (t 4),
 o 13 (.ibin .neq (t 12) (k 0))] [])
 (.cond (t 13)
 (.seq (.ops [mv 14 (t 4),
 mv 2 (.const sn),
 mv 3 (t 14)] [])
 (.ret))
 (.skip))))
 (.seq (.ops [fa 15 0 (t 1),
 l1 16 (t 15),
 o 17 (.conv .u8 (t 16)),
 o 18 (.mkSl false 5 1 [(u 0)] [(0,1,(t 17))]),
 mv 5 (t 18)] [])
 (.seq (.seq (.ops [fa 19 0 (t 1),
 l1 20 (t 19),
 o 21 (.ibin .eql (t 20) (k 4))] [])
 (.cond (t 21)
 (.seq (.seq (.ops [fa 22 7 (t 1),
 l1 23 (t 22),
 o 24 (.len (t 23)),
 mv 25 (k 0)] [])
 (.block 0 (.loop (.seq (.ops [o 26 (.ibin .lss (t 25) (t 24))] [])
  (.seq (.cond (t 26)
  (.skip)
  (.exit 0))
  (.seq (.block 1 (.seq (.ops [o 27 (.iaddr 1 (t 23) (t 25)),
  l1 28 (t 27),
  mv 7 (t 28)] [])
  (.ops [mv 29 (t 5),
  mv 30 (t 7),
  o 31 (.conv .u8 (t 30)),
  o 32 (.mkSl true 5 1 [(u 0)] [(0,1,(t 31))]),
  o 33 (.app 5 1 1 [(u 0)] (t 29) (t 32)),
  mv 5 (t 33)] [])))
  (.ops [ad 34 (t 25) (k 1),
  mv 25 (t 34)] [])))))))
 (.seq (.ops [mv 35 (t 5),
 mv 2 (t 35),
 mv 3 (k 0)] [])
 (.ret)))
 (.skip)))
 (.seq (.ops [mv 37 (t 5),
 fa 38 1 (t 1),
 l1 39 (t 38),
 o 40 (.conv .u64 (t 39)),
 ca 41 F.zbx [(t 37),(t 40),(k 2)],
 mv 36 (t 41),
 ex 42 (t 36) 0,
 ex 43 (t 36) 1,
 mv 5 (t 42)] [])
 (.seq (.ops [fa 45 2 (t 1),
 fa 46 0 (t 45),
 la 47 4 (t 46),
 ca 48 F.zkn [(t 47)],
 mv 44 (t 48),
 ex 49 (t 44) 0,
 ex 50 (t 44) 1,
 mv 8 (t 49),
 mv 9 (t 50)] [])
 (.seq (.draw (.take (mv 51 (t 5)) (.take (mv 52 (t 8)) (.take (fa 54 2 (t 1)) (.take (fa 55 4 (t 54)) (.take (l1 56 (t 55)) (.alt (o 53 (.app 5 1 1 [(u 0)] (t 51) (t 52))) true
 (.alt (o 57 (.app 5 1 1 [(u 0)] (t 53) (t 56))) false
  (.take (mv 2 (t 57)) (.take (mv 3 (k 0)) (.done)))
  (.none))
 (.none))))))) [])
 (.ret)))))))
def zqk:List zd:=[.tmp 2,.tmp 3]
theorem zFS {args:List Value} {M:Mem} {R:Value→Mem→Prop} (hn:args.length≤58) (h:zi Tryz.prog zqj zqk args M R):CallsM Tryz.prog F.ztG args M R:=
 zf (kf:=fun _=>[]) Tryz.func101 (by kernel_rfl) (by kernel_rfl) hn (by kernel_rfl) h
def zgY:RCode:=
 .seq (.ops [mv 4 (k 0)] [])
 (.seq (.seq (.ops [mv 6 (t 0),
 o 7 (.pnil .eql (t 6) (.const (.pointer none))),
 os 8 (.mov (t 7)),
 gf 8 9 (.mov (t 0)),
 gf 8 10 (.nilck (t 9)),
 gf 8 11 (.faddr 2 (t 10)),
 gf 8 12 (.load false 1 (t 11)),
 gf 8 13 (.not (t 12)),
 o 14 (.pick (t 8) (kb true) (t 13))] [])
 (.cond (t 14)
 (.seq (.ops [mv 4 (k 7)] [])
 (.ret))
 (.skip)))
 (.seq (.seq (.ops [mv 15 (t 0),
 o 16 (.nilck (t 15)),
 fa 17 11 (t 16),
 l1 18 (t 17),
 mv 19 (t 1),
 ca 20 F.zgt [(t 18),(t 19)],
 mv 5 (t 20)] [])
 (.seq (.ops [mv 21 (t 5),
 o 22 (.ibin .neq (t 21) (k 0))] [])
 (.cond (t 22)
 (.seq (.ops [mv 23 (t 5),
 mv 4 (t 23)] [])
 (.ret))
 (.skip))))
 (.seq (.ops [mv 24 (t 0),
 ca 25 F.zdD [(t 24)]] [])
 (.seq (.ops [mv 4 (k 0)] [])
 (.ret)))))
def zgZ:List zd:=[.tmp 4]
theorem zvk {args:List Value} {M:Mem} {R:Value→Mem→Prop} (hn:args.length≤26) (h:zi Tryz.prog zgY zgZ args M R):CallsM Tryz.prog F.zlf args M R:=
 zf (kf:=fun _=>[]) Tryz.func102 (by kernel_rfl) (by kernel_rfl) hn (by kernel_rfl) h
def zec:RCode:=
 .seq (.ops [mv 4 (kb false)] [])
 (.seq (.ops [mv 5 (t 0),
 o 6 (.nilck (t 5)),
 fa 7 2 (t 6),
 l1 8 (t 7),
 mv 9 (t 1),
 ca 10 F.zaJ [(t 8),(t 9)],
 mv 4 (t 10)] [])
 (.ret))
def zed:List zd:=[.tmp 4]
theorem zsp {args:List Value} {M:Mem} {R:Value→Mem→Prop} (hn:args.length≤11) (h:zi Tryz.prog zec zed args M R):CallsM Tryz.prog F.zb0 args M R:=
 zf (kf:=fun _=>[]) Tryz.func103 (by kernel_rfl) (by kernel_rfl) hn (by kernel_rfl) h
def zee:RCode:=
 .seq (.ops [mv 4 (k 0),
 mv 5 (kb false)] [])
 (.seq (.seq (.ops [mv 11 (t 0),
 o 12 (.pnil .eql (t 11) (.const (.pointer none))),
 os 13 (.mov (t 12)),
 gf 13 14 (.mov (t 1)),
 gf 13 15 (.call (fn F.zc1) [(t 14)]),
 gf 13 16 (.not (t 15)),
 o 17 (.pick (t 13) (kb true) (t 16)),
 os 18 (.mov (t 17)),
 gf 18 19 (.mov (t 1)),
 gf 18 20 (.mov (t 0)),
 gf 18 21 (.nilck (t 20)),
 gf 18 22 (.faddr 0 (t 21)),
 gf 18 23 (.load false 1 (t 22)),
 gf 18 24 (.ibin .eql (t 19) (t 23)),
 o 25 (.pick (t 18) (kb true) (t 24))] [])
 (.cond (t 25)
 (.seq (.ops [mv 4 (k 0),
 mv 5 (kb false)] [])
 (.ret))
 (.skip)))
 (.seq (.seq (.ops [mv 27 (t 0),
 o 28 (.nilck (t 27)),
 fa 29 3 (t 28),
 l1 30 (t 29),
 mv 31 (t 1),
 o 32 (.mget .int true (i 0) (t 30) (t 31)),
 mv 26 (t 32),
 ex 33 (t 26) 0,
 ex 34 (t 26) 1,
 mv 6 (t 33),
 mv 7 (t 34)] [])
 (.seq (.ops [mv 35 (t 7)] [])
 (.cond (t 35)
 (.seq (.ops [mv 36 (t 6),
 mv 4 (t 36),
 mv 5 (kb true)] [])
 (.ret))
 (.skip))))
 (.seq (.ops [mv 37 (t 0),
 mv 38 (t 1),
 ca 39 F.zbZ [(t 37),(t 38)],
 mv 8 (t 39)] [])
 (.seq (.seq (.ops [mv 40 (t 0),
 o 41 (.nilck (t 40)),
 fa 42 2 (t 41),
 l1 43 (t 42),
 o 44 (.len (t 43)),
 mv 45 (k 0)] [])
 (.block 0 (.loop (.seq (.ops [o 46 (.ibin .lss (t 45) (t 44))] [])
 (.seq (.cond (t 46)
  (.skip)
  (.exit 0))
 (.seq (.block 1 (.seq (.ops [o 47 (.iaddr 1 (t 43) (t 45)),
 l1 48 (t 47),
 mv 10 (t 48)] [])
 (.seq (.ops [mv 49 (t 8),
 o 50 (.ibin .lss (t 49) (k 16)),
 os 51 (.mov (t 50)),
 gt 51 52 (.mov (t 0)),
 gt 51 53 (.mov (t 1)),
 gt 51 54 (.mov (t 10)),
 gt 51 55 (.call (fn F.zb1) [(t 52),(t 53),(t 54)]),
 gt 51 56 (.mov (t 8)),
 gt 51 57 (.ibin .eql (t 55) (t 56)),
 o 58 (.pick (t 51) (t 57) (kb false))] [])
 (.cond (t 58)
  (.seq (.ops [mv 59 (t 10),
  mv 4 (t 59),
  mv 5 (kb true)] [])
  (.ret))
  (.skip)))))
 (.ops [ad 60 (t 45) (k 1),
 mv 45 (t 60)] [])))))))
 (.seq (.ops [mv 4 (k 0),
 mv 5 (kb false)] [])
 (.ret))))))
def zef:List zd:=[.tmp 4,.tmp 5]
theorem zsq {args:List Value} {M:Mem} {R:Value→Mem→Prop} (hn:args.length≤61) (h:zi Tryz.prog zee zef args M R):CallsM Tryz.prog F.zdP args M R:=
 zf (kf:=fun _=>[]) Tryz.func104 (by kernel_rfl) (by kernel_rfl) hn (by kernel_rfl) h
def zyt:RCode:=
 .seq (.ops [mv 2 (k 0),
 mv 3 (k 0)] [])
 (.seq (.seq (.ops [mv 5 (t 0),
 ca 6 F.zi8 [(t 5)],
 mv 4 (t 6)] [])
 (.seq (.ops [mv 7 (t 4),
 o 8 (.ibin .neq (t 7) (k 0))] [])
 (.cond (t 8)
 (.seq (.ops [mv 9 (t 4),
 mv 2 (k 0),
 mv 3 (t 9)] [])
 (.ret))
 (.skip))))
 (.seq (.seq (.ops [mv 10 (t 0),
 mv 11 (t 0),
 o 12 (.nilck (t 11)),
 fa 13 2 (t 12),
 l1 14 (t 13),
 ca 15 F.zdE [(t 10),(t 14)],
 o 16 (.ibin .eql (t 15) (k 0))] [])
 (.cond (t 16)
 (.seq (.ops [mv 17 (t 0),
 o 18 (.nilck (t 17)),
 fa 19 2 (t 18),
 l1 20 (t 19),
 mv 2 (t 20),
 mv 3 (k 0)] [])
 (.ret))
 (.skip)))
 (.seq (.seq (.ops [mv 21 (t 0),
 o 22 (.nilck (t 21)),
 fa 23 2 (t 22),
 l1 24 (t 23),
 o 25 (.ibin .eql (t 24) (k 99999))] [])
 (.cond (t 25)
 (.seq (.ops [mv 2 (k 0),
 mv 3 (k 1)] [])
 (.ret))
 (.skip)))
 (.seq (.ops [mv 26 (t 0),
 o 27 (.nilck (t 26)),
 fa 28 2 (t 27),
 l1 29 (t 28),
 ad 30 (t 29) (k 1),
 o 31 (.nilck (t 26)),
 fa 32 2 (t 31),
 st 1 (t 32) (t 30)] [])
 (.seq (.ops [mv 33 (t 0),
 o 34 (.nilck (t 33)),
 fa 35 2 (t 34),
 l1 36 (t 35),
 mv 2 (t 36),
 mv 3 (k 0)] [])
 (.ret))))))
def zyu:List zd:=[.tmp 2,.tmp 3]
def zce:RCode:=
 .seq (.ops [mv 4 (k 0)] [])
 (.seq (.ops [mv 5 (t 0),
 mv 6 (t 0),
 o 7 (.nilck (t 6)),
 fa 8 4 (t 7),
 l1 9 (t 8),
 os 10 (.mov (t 9)),
 gf 10 11 (.mov (t 1)),
 gf 10 12 (.ibin .eql (t 11) (k 9)),
 o 13 (.pick (t 10) (kb true) (t 12)),
 o 14 (.nilck (t 5)),
 fa 15 4 (t 14),
 st 1 (t 15) (t 13)] [])
 (.seq (.ops [mv 16 (t 1),
 mv 4 (t 16)] [])
 (.ret)))
def zcf:List zd:=[.tmp 4]
theorem zpM {args:List Value} {M:Mem} {R:Value→Mem→Prop} (hn:args.length≤17) (h:zi Tryz.prog zce zcf args M R):CallsM Tryz.prog F.zak args M R:=
 zf (kf:=fun _=>[]) Tryz.func106 (by kernel_rfl) (by kernel_rfl) hn (by kernel_rfl) h
def zrv:RCode:=
 .seq (.ops [mv 2 (k 0)] [])
 (.seq (.ops [mv 7 (t 0),
 o 8 (.nilck (t 7)),
 fa 9 0 (t 8),
 fa 10 0 (t 9),
 l1 11 (t 10),
 ca 12 F.zdO [(t 11)],
 ca 13 F.zE4 [(t 12)],
 mv 6 (t 13),
 ex 14 (t 6) 0,
 ex 15 (t 6) 1,
 mv 3 (t 14),
 mv 4 (t 15)] [])
 (.seq (.seq (.ops [mv 16 (t 4),
 o 17 (.ibin .neq (t 16) (k 0))] [])
 (.cond (t 17)
 (.seq (.ops [mv 18 (t 4),
 mv 2 (t 18)] [])
 (.ret))
 (.skip)))
 (.seq (.ops [mv 19 (t 0),
 o 20 (.nilck (t 19)),
 fa 21 1 (t 20),
 l1 22 (t 21),
 mv 23 (t 3),
 ca 24 F.zeF [(t 22),(.const (.string ⟨#[116]⟩)),(t 23)],
 mv 4 (t 24)] [])
 (.seq (.seq (.ops [mv 25 (t 4),
 o 26 (.ibin .eql (t 25) (k 6)),
 os 27 (.mov (t 26)),
 gt 27 28 (.mov (t 0)),
 gt 27 29 (.call (fn F.zcE) [(t 28),(.const (.string ⟨#[116]⟩))]),
 o 30 (.pick (t 27) (t 29) (kb false))] [])
 (.cond (t 30)
 (.seq (.ops [mv 31 (t 0),
 o 32 (.nilck (t 31)),
 fa 33 1 (t 32),
 l1 34 (t 33),
 ca 35 F.zct [(t 34),(.const (.string ⟨#[116]⟩))],
 mv 5 (t 35)] [])
 (.seq (.ops [mv 36 (t 5),
 o 37 (.ibin .neq (t 36) (k 0))] [])
 (.cond (t 37)
  (.seq (.ops [mv 38 (t 5),
  mv 2 (t 38)] [])
  (.ret))
  (.skip))))
 (.skip)))
 (.seq (.ops [mv 39 (t 4),
 mv 2 (t 39)] [])
 (.ret))))))
def zrw:List zd:=[.tmp 2]
def zqN:RCode:=
 .seq (.ops [mv 4 (k 0)] [])
 (.seq (.seq (.ops [mv 9 (t 0),
 o 10 (.nilck (t 9)),
 fa 11 1 (t 10),
 l1 12 (t 11),
 ca 13 F.zgu [(t 12),(.const (.string ⟨#[116]⟩))],
 mv 5 (t 13)] [])
 (.seq (.ops [mv 14 (t 5),
 o 15 (.ibin .neq (t 14) (k 0))] [])
 (.cond (t 15)
 (.seq (.ops [mv 16 (t 5),
 mv 4 (t 16)] [])
 (.ret))
 (.skip))))
 (.seq (.seq (.draw (.take (mv 17 (t 0)) (.take (o 18 (.nilck (t 17))) (.take (fa 19 1 (t 18)) (.take (l1 20 (t 19)) (.take (mv 21 (t 1)) (.alt (ca 22 F.zf3 [(t 21)]) true
 (.alt (ca 23 F.ztI [(t 20),(.const (.string ⟨#[116]⟩)),(t 22)]) false
  (.take (mv 6 (t 23)) (.done))
  (.none))
 (.none))))))) [])
 (.seq (.ops [mv 24 (t 6),
 o 25 (.ibin .neq (t 24) (k 0))] [])
 (.cond (t 25)
 (.seq (.ops [mv 26 (t 6),
 mv 4 (t 26)] [])
 (.ret))
 (.skip))))
 (.seq (.ops [mv 27 (t 0),
 o 28 (.nilck (t 27)),
 fa 29 3 (t 28),
 l1 30 (t 29),
 mv 7 (t 30)] [])
 (.seq (.ops [mv 31 (t 0),
 mv 32 (t 1),
 o 33 (.nilck (t 31)),
 fa 34 3 (t 33),
 st 1 (t 34) (t 32)] [])
 (.seq (.seq (.ops [mv 35 (t 7),
 o 36 (.ibin .gtr (t 35) (k 0))] [])
 (.cond (t 36)
 (.seq (.draw (.take (mv 37 (t 0)) (.take (o 38 (.nilck (t 37))) (.take (fa 39 1 (t 38)) (.take (l1 40 (t 39)) (.take (mv 41 (t 7)) (.alt (ca 42 F.zf3 [(t 41)]) true
  (.alt (ca 43 F.zct [(t 40),(t 42)]) false
  (.take (mv 8 (t 43)) (.done))
  (.none))
  (.none))))))) [])
 (.seq (.ops [mv 44 (t 8),
 o 45 (.ibin .neq (t 44) (k 0))] [])
 (.cond (t 45)
  (.seq (.ops [mv 46 (t 8),
  mv 4 (t 46)] [])
  (.ret))
  (.skip))))
 (.skip)))
 (.seq (.ops [mv 47 (t 0),
 o 48 (.nilck (t 47)),
 fa 49 2 (t 48),
 l1 50 (t 49),
 mv 51 (t 1),
 ca 52 F.zy6 [(t 50),(t 51)],
 mv 4 (t 52)] [])
 (.ret)))))))
def zqO:List zd:=[.tmp 4]
def zkV:RCode:=
 .seq (.ops [mv 2 (kb false)] [])
 (.seq (.ops [mv 3 (t 0),
 o 4 (.ibin .geq (t 3) (k 0)),
 os 5 (.mov (t 4)),
 gt 5 6 (.mov (t 0)),
 gt 5 7 (.ibin .lss (t 6) (k 64)),
 o 8 (.pick (t 5) (t 7) (kb false)),
 mv 2 (t 8)] [])
 (.ret))
def zkW:List zd:=[.tmp 2]
theorem zzD {args:List Value} {M:Mem} {R:Value→Mem→Prop} (hn:args.length≤9) (h:zi Tryz.prog zkV zkW args M R):CallsM Tryz.prog F.zc1 args M R:=
 zf (kf:=fun _=>[]) Tryz.func109 (by kernel_rfl) (by kernel_rfl) hn (by kernel_rfl) h
def zeg:RCode:=
 .seq (.ops [mv 6 (k 0)] [])
 (.seq (.ops [mv 10 (t 0),
 o 11 (.nilck (t 10)),
 fa 12 4 (t 11),
 l1 13 (t 12),
 mv 14 (t 2),
 o 15 (.mget .int true (.agg #[(i 0),(i 0),(i 0),(i 0),(i 0),(i 0),(i 0),(i 0),(i 0),(i 0),(i 0),(i 0),(i 0),(i 0),(i 0),(i 0),(i 0),(i 0),(i 0),(i 0),(i 0),(i 0),(i 0),(i 0),(i 0),(i 0),(i 0),(i 0),(i 0),(i 0),(i 0),(i 0),(i 0),(i 0),(i 0),(i 0),(i 0),(i 0),(i 0),(i 0),(i 0),(i 0),(i 0),(i 0),(i 0),(i 0),(i 0),(i 0),(i 0),(i 0),(i 0),(i 0),(i 0),(i 0),(i 0),(i 0),(i 0),(i 0),(i 0),(i 0),(i 0),(i 0),(i 0),(i 0),(i 0)]) (t 13) (t 14)),
 mv 9 (t 15),
 ex 16 (t 9) 0,
 ex 17 (t 9) 1,
 o 7 (.alloc 178 [(i 0),(i 0),(i 0),(i 0),(i 0),(i 0),(i 0),(i 0),(i 0),(i 0),(i 0),(i 0),(i 0),(i 0),(i 0),(i 0),(i 0),(i 0),(i 0),(i 0),(i 0),(i 0),(i 0),(i 0),(i 0),(i 0),(i 0),(i 0),(i 0),(i 0),(i 0),(i 0),(i 0),(i 0),(i 0),(i 0),(i 0),(i 0),(i 0),(i 0),(i 0),(i 0),(i 0),(i 0),(i 0),(i 0),(i 0),(i 0),(i 0),(i 0),(i 0),(i 0),(i 0),(i 0),(i 0),(i 0),(i 0),(i 0),(i 0),(i 0),(i 0),(i 0),(i 0),(i 0),(i 0)]),
 st 65 (t 7) (t 16),
 mv 8 (t 17)] [])
 (.seq (.seq (.ops [mv 18 (t 8),
 o 19 (.not (t 18))] [])
 (.cond (t 19)
 (.seq (.ops [mv 6 (k 16)] [])
 (.ret))
 (.skip)))
 (.seq (.ops [mv 20 (t 1),
 fa 21 0 (t 7),
 o 22 (.iaddrA 64 1 (t 21) (t 20)),
 l1 23 (t 22),
 ad 24 (t 23) (k 1),
 o 25 (.imm false (k 16) (t 24)),
 mv 6 (t 25)] [])
 (.ret))))
def zeh:List zd:=[.tmp 6]
theorem zsr {args:List Value} {M:Mem} {R:Value→Mem→Prop} (hn:args.length≤26) (h:zi Tryz.prog zeg zeh args M R):CallsM Tryz.prog F.zb1 args M R:=
 zf (kf:=fun _=>[]) Tryz.func110 (by kernel_rfl) (by kernel_rfl) hn (by kernel_rfl) h
def zg0:RCode:=
 .seq (.ops [mv 2 (kb false)] [])
 (.seq (.ops [mv 3 (t 0),
 o 4 (.pnil .neq (t 3) (.const (.pointer none))),
 os 5 (.mov (t 4)),
 gt 5 6 (.mov (t 0)),
 gt 5 7 (.nilck (t 6)),
 gt 5 8 (.faddr 3 (t 7)),
 gt 5 9 (.load false 1 (t 8)),
 o 10 (.pick (t 5) (t 9) (kb false)),
 mv 2 (t 10)] [])
 (.ret))
def zg1:List zd:=[.tmp 2]
theorem zvl {args:List Value} {M:Mem} {R:Value→Mem→Prop} (hn:args.length≤11) (h:zi Tryz.prog zg0 zg1 args M R):CallsM Tryz.prog F.zb6 args M R:=
 zf (kf:=fun _=>[]) Tryz.func111 (by kernel_rfl) (by kernel_rfl) hn (by kernel_rfl) h
def zbT:RCode:=
 .seq (.ops [mv 2 (k 0)] [])
 (.seq (.seq (.ops [mv 3 (t 0),
 ca 4 F.zcE [(t 3),(.const (.string ⟨#[116]⟩))]] [])
 (.cond (t 4)
 (.seq (.ops [mv 5 (t 0),
 o 6 (.nilck (t 5)),
 fa 7 1 (t 6),
 l1 8 (t 7),
 ca 9 F.zct [(t 8),(.const (.string ⟨#[116]⟩))],
 mv 2 (t 9)] [])
 (.ret))
 (.skip)))
 (.seq (.ops [mv 2 (k 0)] [])
 (.ret)))
def zbU:List zd:=[.tmp 2]
theorem zpw {args:List Value} {M:Mem} {R:Value→Mem→Prop} (hn:args.length≤10) (h:zi Tryz.prog zbT zbU args M R):CallsM Tryz.prog F.zer args M R:=
 zf (kf:=fun _=>[]) Tryz.func112 (by kernel_rfl) (by kernel_rfl) hn (by kernel_rfl) h
def zcg:RCode:=
 .seq (.ops [o 5 (.box 23 (t 2)),
 mv 6 (k 0)] [])
 (.seq (.ops [mv 15 (t 0),
 ca 16 F.zes [(t 15)],
 mv 7 (t 16)] [])
 (.seq (.seq (.ops [mv 17 (t 7),
 o 18 (.len (t 17)),
 o 19 (.ibin .eql (t 18) (k 0))] [])
 (.cond (t 19)
 (.seq (.ops [mv 6 (k 0)] [])
 (.ret))
 (.skip)))
 (.seq (.ops [mv 20 (t 0),
 mv 21 (t 7),
 mv 22 (t 7),
 o 23 (.len (t 22)),
 o 24 (.ibin .sub (t 23) (k 1)),
 o 25 (.iaddr 1 (t 21) (t 24)),
 l1 26 (t 25),
 o 27 (.nilck (t 20)),
 fa 28 3 (t 27),
 st 1 (t 28) (t 26)] [])
 (.seq (.draw (.take (mv 30 (t 0)) (.take (o 31 (.nilck (t 30))) (.take (fa 32 1 (t 31)) (.take (l1 33 (t 32)) (.take (mv 34 (t 0)) (.take (o 35 (.nilck (t 34))) (.take (fa 36 3 (t 35)) (.take (l1 37 (t 36)) (.alt (ca 38 F.zf3 [(t 37)]) true
 (.alt (ca 39 F.zdF [(t 33),(t 38)]) false
  (.take (mv 29 (t 39)) (.take (ex 40 (t 29) 0) (.take (ex 41 (t 29) 1) (.take (mv 8 (t 40)) (.take (mv 9 (t 41)) (.done))))))
  (.none))
 (.none)))))))))) [])
 (.seq (.seq (.ops [mv 42 (t 9),
 o 43 (.ibin .neq (t 42) (k 0))] [])
 (.cond (t 43)
 (.seq (.ops [mv 44 (t 9),
 mv 6 (t 44)] [])
 (.ret))
 (.skip)))
 (.seq (.seq (.ops [mv 45 (t 7),
 mv 46 (t 7),
 o 47 (.len (t 46)),
 o 48 (.ibin .sub (t 47) (k 1)),
 o 49 (.slx 1 (t 45) none (some (t 48))),
 o 50 (.len (t 49)),
 mv 51 (k 0)] [])
 (.block 0 (.loop (.seq (.ops [o 52 (.ibin .lss (t 51) (t 50))] [])
 (.seq (.cond (t 52)
  (.skip)
  (.exit 0))
 (.seq (.block 1 (.seq (.ops [o 53 (.iaddr 1 (t 49) (t 51)),
 l1 54 (t 53),
 mv 11 (t 54)] [])
 (.seq (.draw (.take (mv 55 (t 0)) (.take (o 56 (.nilck (t 55))) (.take (fa 57 1 (t 56)) (.take (l1 58 (t 57)) (.take (mv 59 (t 11)) (.alt (ca 60 F.zf3 [(t 59)]) true
  (.alt (ca 61 F.zct [(t 58),(t 60)]) false
  (.take (mv 12 (t 61)) (.done))
  (.none))
  (.none))))))) [])
 (.seq (.ops [mv 62 (t 12),
 o 63 (.ibin .neq (t 62) (k 0))] [])
 (.cond (t 63)
  (.seq (.ops [mv 64 (t 12),
  mv 6 (t 64)] [])
  (.ret))
  (.skip))))))
 (.ops [ad 65 (t 51) (k 1),
 mv 51 (t 65)] [])))))))
 (.seq (.ops [mv 67 (t 8),
 ca 68 F.zE5 [(t 67)],
 mv 66 (t 68),
 ex 69 (t 66) 0,
 ex 70 (t 66) 1,
 o 13 (.alloc 52 [(i 0),(i 0),sn,sn,sn]),
 st 5 (t 13) (t 69),
 mv 9 (t 70)] [])
 (.seq (.seq (.ops [mv 71 (t 9),
 o 72 (.ibin .neq (t 71) (k 0)),
 os 73 (.mov (t 72)),
 gf 73 74 (.faddr 0 (t 13)),
 gf 73 75 (.load false 1 (t 74)),
 gf 73 76 (.mov (t 1)),
 gf 73 77 (.ibin .neq (t 75) (t 76)),
 o 78 (.pick (t 73) (kb true) (t 77))] [])
 (.cond (t 78)
 (.seq (.ops [mv 6 (k 2)] [])
 (.ret))
 (.skip)))
 (.seq (.ops [la 80 3 (t 5),
 la 81 5 (t 13),
 ca 82 F.ztJ [(t 80),(t 81)],
 mv 79 (t 82),
 ex 83 (t 79) 0,
 ex 84 (t 79) 1,
 mv 14 (t 83),
 mv 9 (t 84)] [])
 (.seq (.seq (.ops [mv 85 (t 9),
 o 86 (.ibin .neq (t 85) (k 0))] [])
 (.cond (t 86)
 (.seq (.ops [mv 6 (k 6)] [])
 (.ret))
 (.skip)))
 (.seq (.ops [mv 87 (t 0),
 mv 88 (t 14),
 o 89 (.build [(.pointer none)] [(0,1,(t 88))]),
 o 90 (.nilck (t 87)),
 fa 91 0 (t 90),
 st 1 (t 91) (t 89)] [])
 (.seq (.ops [mv 6 (k 0)] [])
 (.ret)))))))))))))
def zch:List zd:=[.tmp 6]
theorem zpN {args:List Value} {M:Mem} {R:Value→Mem→Prop} (hn:args.length≤92) (h:zi Tryz.prog zcg zch args M R):CallsM Tryz.prog F.ze8 args M R:=
 zf (kf:=fun _=>[]) Tryz.func113 (by kernel_rfl) (by kernel_rfl) hn (by kernel_rfl) h
def zbD:RCode:=
 .seq (.ops [mv 4 (k 0)] [])
 (.seq (.draw (.take (mv 13 (t 0)) (.take (o 14 (.nilck (t 13))) (.take (fa 15 1 (t 14)) (.take (l1 16 (t 15)) (.take (mv 17 (t 0)) (.take (o 18 (.nilck (t 17))) (.take (fa 19 3 (t 18)) (.take (l1 20 (t 19)) (.take (o 21 (.imm true (t 20) (k 1))) (.take (mv 22 (t 1)) (.alt (ca 23 F.zrZ [(t 16),(t 21),(t 22)]) false
 (.take (mv 12 (t 23)) (.take (ex 24 (t 12) 0) (.take (ex 25 (t 12) 1) (.take (ex 26 (t 12) 2) (.take (mv 5 (t 24)) (.take (mv 6 (t 25)) (.take (mv 7 (t 26)) (.done))))))))
 (.none)))))))))))) [])
 (.seq (.seq (.ops [mv 27 (t 7),
 o 28 (.ibin .neq (t 27) (k 0))] [])
 (.cond (t 28)
 (.seq (.ops [mv 29 (t 7),
 mv 4 (t 29)] [])
 (.ret))
 (.skip)))
 (.seq (.ops [mv 30 (t 0),
 mv 31 (t 5),
 o 32 (.nilck (t 30)),
 fa 33 2 (t 32),
 st 1 (t 33) (t 31)] [])
 (.seq (.seq (.ops [mv 34 (t 6),
 o 35 (.len (t 34)),
 mv 36 (k 0)] [])
 (.block 0 (.loop (.seq (.ops [o 37 (.ibin .lss (t 36) (t 35))] [])
 (.seq (.cond (t 37)
  (.skip)
  (.exit 0))
 (.seq (.block 1 (.seq (.ops [o 38 (.iaddr 1 (t 34) (t 36)),
 l1 39 (t 38),
 mv 9 (t 39)] [])
 (.seq (.ops [mv 41 (t 9),
 ca 42 F.zAs [(t 41)],
 mv 40 (t 42),
 ex 43 (t 40) 0,
 ex 44 (t 40) 1,
 o 10 (.alloc 144 [(i 0),(i 0),(i 0),(i 0),(i 0),sn]),
 st 6 (t 10) (t 43),
 mv 11 (t 44)] [])
 (.seq (.draw (.take (mv 45 (t 11)) (.take (o 46 (.ibin .neq (t 45) (k 0))) (.take (os 47 (.mov (t 46))) (.take (gf 47 48 (.mov (t 0))) (.take (gf 47 49 (.nilck (t 48))) (.take (gf 47 50 (.faddr 0 (t 49))) (.take (gf 47 51 (.faddr 0 (t 50))) (.take (gf 47 52 (.load false 1 (t 51))) (.take (gf 47 53 (.load true 6 (t 10))) (.alt (gf 47 54 (.call (fn F.zb2) [(t 52),(t 53)])) false
  (.take (gf 47 55 (.ibin .neq (t 54) (k 0))) (.take (o 56 (.pick (t 47) (kb true) (t 55))) (.done)))
  (.none))))))))))) [])
 (.cond (t 56)
  (.seq (.ops [mv 4 (k 2)] [])
  (.ret))
  (.skip))))))
 (.ops [ad 57 (t 36) (k 1),
 mv 36 (t 57)] [])))))))
 (.seq (.ops [mv 4 (k 0)] [])
 (.ret))))))
def zbE:List zd:=[.tmp 4]
theorem zoM {args:List Value} {M:Mem} {R:Value→Mem→Prop} (hn:args.length≤58) (h:zi Tryz.prog zbD zbE args M R):CallsM Tryz.prog F.zdA args M R:=
 zf (kf:=fun _=>[]) Tryz.func114 (by kernel_rfl) (by kernel_rfl) hn (by kernel_rfl) h
def zci:RCode:=
 .seq (.ops [mv 2 (k 0)] [])
 (.seq (.ops [mv 4 (t 0),
 o 5 (.build [(i 0),(i 0),(i 0),(i 0),(i 0),sn] [(0,1,(k 1))]),
 ca 6 F.zar [(t 4),(t 5),(kb true)],
 mv 3 (t 6)] [])
 (.seq (.seq (.ops [mv 7 (t 3),
 o 8 (.ibin .eql (t 7) (k 10))] [])
 (.cond (t 8)
 (.seq (.ops [mv 9 (t 0),
 o 10 (.nilck (t 9)),
 fa 11 5 (t 10),
 st 1 (t 11) (kb true)] [])
 (.seq (.ops [mv 2 (k 0)] [])
 (.ret)))
 (.skip)))
 (.seq (.ops [mv 12 (t 3),
 mv 2 (t 12)] [])
 (.ret))))
def zcj:List zd:=[.tmp 2]
theorem zpO {args:List Value} {M:Mem} {R:Value→Mem→Prop} (hn:args.length≤13) (h:zi Tryz.prog zci zcj args M R):CallsM Tryz.prog F.ze9 args M R:=
 zf (kf:=fun _=>[]) Tryz.func115 (by kernel_rfl) (by kernel_rfl) hn (by kernel_rfl) h
def zmu:RCode:=
 .seq (.ops [mv 2 (.const (.pointer none)),
 mv 3 (k 0)] [])
 (.seq (.seq (.ops [mv 4 (t 0),
 o 5 (.ibin .lss (t 4) (k 1)),
 os 6 (.mov (t 5)),
 gf 6 7 (.mov (t 0)),
 gf 6 8 (.ibin .gtr (t 7) (k 63)),
 o 9 (.pick (t 6) (kb true) (t 8))] [])
 (.cond (t 9)
 (.seq (.ops [mv 2 (.const (.pointer none)),
 mv 3 (k 1)] [])
 (.ret))
 (.skip)))
 (.seq (.ops [mv 10 (t 0),
 o 11 (.build [(i 0),(i 0),sn,(i 0)] [(0,1,(t 10))]),
 o 12 (.box 237 (t 11)),
 mv 2 (t 12),
 mv 3 (k 0)] [])
 (.ret)))
def zmv:List zd:=[.tmp 2,.tmp 3]
theorem zAY {args:List Value} {M:Mem} {R:Value→Mem→Prop} (hn:args.length≤13) (h:zi Tryz.prog zmu zmv args M R):CallsM Tryz.prog F.zpn args M R:=
 zf (kf:=fun _=>[]) Tryz.func116 (by kernel_rfl) (by kernel_rfl) hn (by kernel_rfl) h
def zoN:RCode:=
 .seq (.ops [mv 2 (.const (.pointer none)),
 mv 3 (k 0)] [])
 (.seq (.seq (.ops [mv 5 (t 0),
 o 6 (.ibin .lss (t 5) (k 1)),
 os 7 (.mov (t 6)),
 gf 7 8 (.mov (t 0)),
 gf 7 9 (.ibin .gtr (t 8) (k 63)),
 o 10 (.pick (t 7) (kb true) (t 9))] [])
 (.cond (t 10)
 (.seq (.ops [mv 2 (.const (.pointer none)),
 mv 3 (k 1)] [])
 (.ret))
 (.skip)))
 (.seq (.ops [mv 11 (t 0),
 o 12 (.build [(i 0),(i 0),(.map none),(.map none)] [(0,1,(t 11))]),
 o 13 (.box 240 (t 12)),
 mv 4 (t 13)] [])
 (.seq (.ops [mv 14 (t 4),
 ca 15 F.zcF [(t 14)]] [])
 (.seq (.ops [mv 16 (t 4),
 mv 2 (t 16),
 mv 3 (k 0)] [])
 (.ret)))))
def zoO:List zd:=[.tmp 2,.tmp 3]
theorem zDY {args:List Value} {M:Mem} {R:Value→Mem→Prop} (hn:args.length≤17) (h:zi Tryz.prog zoN zoO args M R):CallsM Tryz.prog F.zrY args M R:=
 zf (kf:=fun _=>[]) Tryz.func117 (by kernel_rfl) (by kernel_rfl) hn (by kernel_rfl) h
def zfE:RCode:=
 .seq (.ops [o 3 (.box 144 (t 1)),
 mv 4 (k 0)] [])
 (.seq (.seq (.ops [mv 9 (t 0),
 o 10 (.pnil .eql (t 9) (.const (.pointer none)))] [])
 (.cond (t 10)
 (.seq (.ops [mv 4 (k 7)] [])
 (.ret))
 (.skip)))
 (.seq (.seq (.ops [la 11 6 (t 3),
 ca 12 F.zmc [(t 11)],
 mv 5 (t 12)] [])
 (.seq (.ops [mv 13 (t 5),
 o 14 (.ibin .neq (t 13) (k 0))] [])
 (.cond (t 14)
 (.seq (.ops [mv 15 (t 5),
 mv 4 (t 15)] [])
 (.ret))
 (.skip))))
 (.seq (.ops [fa 16 1 (t 3),
 fa 17 0 (t 16),
 la 18 4 (t 17),
 o 6 (.alloc 37 [(i 0),(i 0),(i 0),(i 0)]),
 st 4 (t 6) (t 18)] [])
 (.seq (.draw (.take (mv 20 (t 0)) (.take (o 21 (.nilck (t 20))) (.take (fa 22 69 (t 21)) (.take (l1 23 (t 22)) (.take (la 24 4 (t 6)) (.take (o 25 (.mget (.agg 4) true (.agg #[(i 0),(i 0),(i 0),(i 0),sn,(i 0)]) (t 23) (t 24))) (.take (mv 19 (t 25)) (.take (ex 26 (t 19) 0) (.take (ex 27 (t 19) 1) (.alt (o 7 (.alloc 261 [(i 0),(i 0),(i 0),(i 0),sn,(i 0)])) false
 (.alt (st 6 (t 7) (t 26)) false
  (.take (mv 8 (t 27)) (.done))
  (.none))
 (.none))))))))))) [])
 (.seq (.block 0 (.seq (.ops [fa 29 0 (t 3),
 l1 30 (t 29),
 o 31 (.ibin .eql (t 30) (k 1)),
 os 32 (.mov (t 31)),
 gt 32 33 (.mov (t 0)),
 gt 32 34 (.nilck (t 33)),
 gt 32 35 (.faddr 4 (t 34)),
 gt 32 36 (.load false 1 (t 35)),
 gt 32 37 (.ibin .eql (t 36) (k 65535)),
 o 38 (.pick (t 32) (t 37) (kb false)),
 mv 28 (t 38)] [])
 (.cond (t 28)
 (.seq (.ops [mv 4 (k 10)] [])
 (.ret))
 (.seq (.seq (.draw (.take (fa 40 0 (t 3)) (.take (l1 41 (t 40)) (.take (o 42 (.ibin .eql (t 41) (k 2))) (.take (os 43 (.mov (t 42))) (.take (gt 43 44 (.faddr 1 (t 6))) (.take (gt 43 45 (.load false 1 (t 44))) (.take (gt 43 46 (.mov (t 0))) (.take (gt 43 47 (.nilck (t 46))) (.take (gt 43 48 (.faddr 0 (t 47))) (.take (gt 43 49 (.load false 1 (t 48))) (.take (gt 43 50 (.ibin .eql (t 45) (t 49))) (.take (⟨(some 51),.mov (t 50),some (43,true),true⟩) (.take (gf 51 52 (.faddr 0 (t 6))) (.take (gf 51 53 (.load false 1 (t 52))) (.take (gf 51 54 (.mov (t 0))) (.take (gf 51 55 (.nilck (t 54))) (.take (gf 51 56 (.faddr 0 (t 55))) (.take (gf 51 57 (.load false 1 (t 56))) (.take (gf 51 58 (.ibin .eql (t 53) (t 57))) (.take (⟨(some 59),.mov (t 58),some (51,false),true⟩) (.take (gt 59 60 (.faddr 2 (t 6))) (.take (gt 59 61 (.load false 1 (t 60))) (.take (gt 59 62 (.mov (t 0))) (.take (gt 59 63 (.nilck (t 62))) (.take (gt 59 64 (.faddr 4 (t 63))) (.take (gt 59 65 (.load false 1 (t 64))) (.take (gt 59 66 (.ibin .gtr (t 61) (t 65))) (.take (gf 51 67 (.pick (t 59) (t 66) (kb false))) (.take (gt 43 68 (.pick (t 51) (kb true) (t 67))) (.take (o 69 (.pick (t 43) (t 68) (kb false))) (.take (mv 39 (t 69)) (.done)))))))))))))))))))))))))))))))) [])
 (.cond (t 39)
  (.skip)
  (.draw (.take (fa 70 0 (t 3)) (.take (l1 71 (t 70)) (.take (o 72 (.ibin .eql (t 71) (k 4))) (.take (os 73 (.mov (t 72))) (.take (gt 73 74 (.faddr 1 (t 6))) (.take (gt 73 75 (.load false 1 (t 74))) (.take (gt 73 76 (.mov (t 0))) (.take (gt 73 77 (.nilck (t 76))) (.take (gt 73 78 (.faddr 0 (t 77))) (.take (gt 73 79 (.load false 1 (t 78))) (.take (gt 73 80 (.ibin .neq (t 75) (t 79))) (.take (o 81 (.pick (t 73) (t 80) (kb false))) (.take (mv 39 (t 81)) (.done)))))))))))))) [])))
 (.cond (t 39)
  (.seq (.ops [mv 4 (k 2)] [])
  (.ret))
  (.seq (.ops [fa 83 0 (t 3),
  l1 84 (t 83),
  o 85 (.ibin .eql (t 84) (k 2)),
  os 86 (.mov (t 85)),
  gt 86 87 (.mov (t 8)),
  o 88 (.pick (t 86) (t 87) (kb false)),
  mv 82 (t 88)] [])
  (.cond (t 82)
  (.seq (.ops [mv 4 (k 5)] [])
  (.ret))
  (.seq (.draw (.take (fa 90 0 (t 3)) (.take (l1 91 (t 90)) (.take (o 92 (.ibin .eql (t 91) (k 2))) (.take (os 93 (.mov (t 92))) (.take (gt 93 94 (.mov (t 0))) (.take (gt 93 95 (.nilck (t 94))) (.take (gt 93 96 (.faddr 69 (t 95))) (.take (gt 93 97 (.load false 1 (t 96))) (.take (gt 93 98 (.mlen (t 97))) (.take (gt 93 99 (.mov (t 0))) (.take (gt 93 100 (.nilck (t 99))) (.take (gt 93 101 (.faddr 1 (t 100))) (.take (gt 93 102 (.faddr 0 (t 101))) (.take (gt 93 103 (.load false 1 (t 102))) (.take (gt 93 104 (.ibin .geq (t 98) (t 103))) (.take (⟨(some 105),.mov (t 104),some (93,true),true⟩) (.take (gf 105 106 (.faddr 1 (t 3))) (.take (gf 105 107 (.faddr 4 (t 106))) (.take (gf 105 108 (.load false 1 (t 107))) (.take (gf 105 109 (.len (t 108))) (.take (gf 105 110 (.mov (t 0))) (.take (gf 105 111 (.nilck (t 110))) (.take (gf 105 112 (.faddr 1 (t 111))) (.take (gf 105 113 (.faddr 1 (t 112))) (.take (gf 105 114 (.load false 1 (t 113))) (.take (gf 105 115 (.mov (t 0))) (.take (gf 105 116 (.nilck (t 115))) (.take (gf 105 117 (.faddr 71 (t 116))) (.take (gf 105 118 (.load false 1 (t 117))) (.take (gf 105 119 (.ibin .sub (t 114) (t 118))) (.take (gf 105 120 (.ibin .gtr (t 109) (t 119))) (.take (gt 93 121 (.pick (t 105) (kb true) (t 120))) (.take (o 122 (.pick (t 93) (t 121) (kb false))) (.take (mv 89 (t 122)) (.done))))))))))))))))))))))))))))))))))) [])
  (.cond (t 89)
   (.seq (.ops [mv 4 (k 6)] [])
   (.ret))
   (.seq (.ops [fa 124 0 (t 3),
   l1 125 (t 124),
   o 126 (.ibin .eql (t 125) (k 3)),
   os 127 (.mov (t 126)),
   gt 127 128 (.mov (t 8)),
   gt 127 129 (.not (t 128)),
   o 130 (.pick (t 127) (t 129) (kb false)),
   mv 123 (t 130)] [])
   (.cond (t 123)
   (.seq (.ops [mv 4 (k 4)] [])
   (.ret))
   (.seq (.ops [fa 132 0 (t 3),
   l1 133 (t 132),
   o 134 (.ibin .eql (t 133) (k 4)),
   mv 131 (t 134)] [])
   (.cond (t 131)
    (.seq (.draw (.take (mv 135 (t 0)) (.take (o 136 (.nilck (t 135))) (.take (fa 137 72 (t 136)) (.take (l1 138 (t 137)) (.take (la 139 4 (t 6)) (.alt (ca 140 F.zi9 [(t 138),(t 139)]) false
    (.take (mv 4 (t 140)) (.done))
    (.none))))))) [])
    (.ret))
    (.skip))))))))))))))
 (.seq (.ops [mv 4 (k 0)] [])
 (.ret)))))))
def zfF:List zd:=[.tmp 4]
theorem zub {args:List Value} {M:Mem} {R:Value→Mem→Prop} (hn:args.length≤141) (h:zi Tryz.prog zfE zfF args M R):CallsM Tryz.prog F.zfm args M R:=
 zf (kf:=fun _=>[]) Tryz.func118 (by kernel_rfl) (by kernel_rfl) hn (by kernel_rfl) h
def zkX:RCode:=
 .seq (.ops [o 1 (.box 144 (t 0)),
 mv 2 (.const sn),
 mv 3 (k 0)] [])
 (.seq (.seq (.ops [la 6 6 (t 1),
 ca 7 F.zmc [(t 6)],
 mv 4 (t 7)] [])
 (.seq (.ops [mv 8 (t 4),
 o 9 (.ibin .neq (t 8) (k 0))] [])
 (.cond (t 9)
 (.seq (.ops [mv 10 (t 4),
 mv 2 (.const sn),
 mv 3 (t 10)] [])
 (.ret))
 (.skip))))
 (.seq (.ops [mv 5 (.const sn)] [])
 (.seq (.seq (.ops [fa 11 0 (t 1),
 l1 12 (t 11)] [])
 (.block 0 (.seq (.ops [o 14 (.ibin .eql (t 12) (k 2)),
 mv 13 (t 14)] [])
 (.cond (t 13)
 (.ops [fa 16 1 (t 1),
 la 17 5 (t 16),
 ca 18 F.zp6 [(t 17)],
 mv 15 (t 18),
 ex 19 (t 15) 0,
 ex 20 (t 15) 1,
 mv 5 (t 19)] [])
 (.seq (.seq (.ops [o 22 (.ibin .eql (t 12) (k 3)),
 mv 21 (t 22)] [])
 (.cond (t 21)
  (.skip)
  (.ops [o 23 (.ibin .eql (t 12) (k 4)),
  mv 21 (t 23)] [])))
 (.cond (t 21)
  (.ops [fa 25 1 (t 1),
  fa 26 0 (t 25),
  la 27 4 (t 26),
  ca 28 F.zkn [(t 27)],
  mv 24 (t 28),
  ex 29 (t 24) 0,
  ex 30 (t 24) 1,
  mv 5 (t 29)] [])
  (.skip)))))))
 (.seq (.ops [fa 31 0 (t 1),
 l1 32 (t 31),
 o 33 (.conv .u8 (t 32)),
 o 34 (.mkSl false 5 1 [(u 0)] [(0,1,(t 33))]),
 mv 35 (t 5),
 o 36 (.app 5 1 1 [(u 0)] (t 34) (t 35)),
 mv 2 (t 36),
 mv 3 (k 0)] [])
 (.ret)))))
def zkY:List zd:=[.tmp 2,.tmp 3]
theorem zzE {args:List Value} {M:Mem} {R:Value→Mem→Prop} (hn:args.length≤37) (h:zi Tryz.prog zkX zkY args M R):CallsM Tryz.prog F.zn4 args M R:=
 zf (kf:=fun _=>[]) Tryz.func119 (by kernel_rfl) (by kernel_rfl) hn (by kernel_rfl) h
def zg2:RCode:=
 .seq (.ops [mv 4 (k 0)] [])
 (.seq (.seq (.ops [mv 11 (t 0),
 ca 12 F.zeG [(t 11)],
 mv 5 (t 12)] [])
 (.seq (.ops [mv 13 (t 5),
 o 14 (.ibin .neq (t 13) (k 0))] [])
 (.cond (t 14)
 (.seq (.ops [mv 15 (t 5),
 mv 4 (t 15)] [])
 (.ret))
 (.skip))))
 (.seq (.ops [mv 17 (t 1),
 ca 18 F.zpo [(t 17)],
 mv 16 (t 18),
 ex 19 (t 16) 0,
 ex 20 (t 16) 1,
 mv 6 (t 19),
 mv 7 (t 20)] [])
 (.seq (.seq (.ops [mv 21 (t 7),
 o 22 (.ibin .neq (t 21) (k 0))] [])
 (.cond (t 22)
 (.seq (.ops [mv 23 (t 7),
 mv 4 (t 23)] [])
 (.ret))
 (.skip)))
 (.seq (.seq (.ops [mv 24 (t 0),
 o 25 (.nilck (t 24)),
 fa 26 0 (t 25),
 l1 27 (t 26),
 ca 28 F.zb6 [(t 27)]] [])
 (.cond (t 28)
 (.seq (.ops [mv 29 (t 0),
 ca 30 F.zb7 [(t 29),(k 9)],
 mv 4 (t 30)] [])
 (.ret))
 (.skip)))
 (.seq (.seq (.ops [mv 31 (t 0),
 mv 32 (t 0),
 o 33 (.nilck (t 32)),
 fa 34 2 (t 33),
 l1 35 (t 34),
 ca 36 F.zdE [(t 31),(t 35)],
 mv 8 (t 36)] [])
 (.seq (.ops [mv 37 (t 8),
 o 38 (.ibin .gtr (t 37) (k 0)),
 os 39 (.mov (t 38)),
 gt 39 40 (.mov (t 6)),
 gt 39 41 (.len (t 40)),
 gt 39 42 (.mov (t 0)),
 gt 39 43 (.nilck (t 42)),
 gt 39 44 (.faddr 3 (t 43)),
 gt 39 45 (.load false 1 (t 44)),
 gt 39 46 (.mov (t 8)),
 gt 39 47 (.ibin .sub (t 45) (t 46)),
 gt 39 48 (.ibin .gtr (t 41) (t 47)),
 o 49 (.pick (t 39) (t 48) (kb false))] [])
 (.cond (t 49)
 (.seq (.ops [mv 51 (t 0),
 ca 52 F.zp5 [(t 51)],
 mv 50 (t 52),
 ex 53 (t 50) 0,
 ex 54 (t 50) 1,
 mv 9 (t 53),
 mv 10 (t 54)] [])
 (.seq (.ops [mv 55 (t 10),
 o 56 (.ibin .neq (t 55) (k 0))] [])
 (.cond (t 56)
  (.seq (.ops [mv 57 (t 10),
  mv 4 (t 57)] [])
  (.ret))
  (.skip))))
 (.skip))))
 (.seq (.draw (.take (mv 58 (t 0)) (.take (mv 59 (t 0)) (.take (o 60 (.nilck (t 59))) (.take (fa 61 0 (t 60)) (.take (l1 62 (t 61)) (.take (mv 63 (t 0)) (.take (o 64 (.nilck (t 63))) (.take (fa 65 2 (t 64)) (.take (l1 66 (t 65)) (.take (mv 68 (t 6)) (.alt (ca 67 F.zbi [(t 66)]) true
 (.alt (ca 69 F.zeF [(t 62),(t 67),(t 68)]) false
  (.alt (ca 70 F.zb7 [(t 58),(t 69)]) false
  (.take (mv 4 (t 70)) (.done))
  (.none))
  (.none))
 (.none)))))))))))) [])
 (.ret)))))))
def zg3:List zd:=[.tmp 4]
theorem zvm {args:List Value} {M:Mem} {R:Value→Mem→Prop} (hn:args.length≤71) (h:zi Tryz.prog zg2 zg3 args M R):CallsM Tryz.prog F.zlg args M R:=
 zf (kf:=fun _=>[]) Tryz.func120 (by kernel_rfl) (by kernel_rfl) hn (by kernel_rfl) h
def zjv:RCode:=
 .seq (.ops [mv 2 (k 0)] [])
 (.seq (.seq (.ops [mv 4 (t 0),
 ca 5 F.zeG [(t 4)],
 mv 3 (t 5)] [])
 (.seq (.ops [mv 6 (t 3),
 o 7 (.ibin .neq (t 6) (k 0))] [])
 (.cond (t 7)
 (.seq (.ops [mv 8 (t 3),
 mv 2 (t 8)] [])
 (.ret))
 (.skip))))
 (.seq (.seq (.ops [mv 9 (t 0),
 o 10 (.nilck (t 9)),
 fa 11 0 (t 10),
 l1 12 (t 11),
 ca 13 F.zb6 [(t 12)]] [])
 (.cond (t 13)
 (.seq (.ops [mv 14 (t 0),
 ca 15 F.zb7 [(t 14),(k 9)],
 mv 2 (t 15)] [])
 (.ret))
 (.skip)))
 (.seq (.seq (.draw (.take (mv 16 (t 0)) (.take (mv 17 (t 0)) (.take (o 18 (.nilck (t 17))) (.take (fa 19 2 (t 18)) (.take (l1 20 (t 19)) (.take (mv 22 (t 0)) (.take (o 23 (.nilck (t 22))) (.take (fa 24 0 (t 23)) (.take (l1 25 (t 24)) (.take (mv 26 (t 0)) (.take (o 27 (.nilck (t 26))) (.take (fa 28 2 (t 27)) (.take (l1 29 (t 28)) (.alt (ca 21 F.zdE [(t 16),(t 20)]) true
 (.alt (ca 30 F.zbi [(t 29)]) true
  (.alt (ca 31 F.zgv [(t 25),(t 30)]) false
  (.take (o 32 (.ibin .eql (t 21) (t 31))) (.done))
  (.none))
  (.none))
 (.none))))))))))))))) [])
 (.cond (t 32)
 (.seq (.ops [mv 2 (k 0)] [])
 (.ret))
 (.skip)))
 (.seq (.draw (.take (mv 33 (t 0)) (.take (mv 34 (t 0)) (.take (o 35 (.nilck (t 34))) (.take (fa 36 0 (t 35)) (.take (l1 37 (t 36)) (.take (mv 38 (t 0)) (.take (o 39 (.nilck (t 38))) (.take (fa 40 2 (t 39)) (.take (l1 41 (t 40)) (.alt (ca 42 F.zbi [(t 41)]) true
 (.alt (ca 43 F.zgu [(t 37),(t 42)]) false
  (.alt (ca 44 F.zb7 [(t 33),(t 43)]) false
  (.take (mv 2 (t 44)) (.done))
  (.none))
  (.none))
 (.none))))))))))) [])
 (.ret)))))
def zjw:List zd:=[.tmp 2]
theorem zyv {args:List Value} {M:Mem} {R:Value→Mem→Prop} (hn:args.length≤45) (h:zi Tryz.prog zjv zjw args M R):CallsM Tryz.prog F.zi8 args M R:=
 zf (kf:=fun _=>[]) Tryz.func121 (by kernel_rfl) (by kernel_rfl) hn (by kernel_rfl) h
def zei:RCode:=
 .seq (.ops [o 3 (.box 144 (t 1)),
 mv 4 (k 0)] [])
 (.seq (.seq (.ops [mv 7 (t 0),
 la 8 6 (t 3),
 ca 9 F.zfm [(t 7),(t 8)],
 mv 5 (t 9)] [])
 (.seq (.ops [mv 10 (t 5),
 o 11 (.ibin .neq (t 10) (k 0))] [])
 (.cond (t 11)
 (.seq (.ops [mv 12 (t 5),
 mv 4 (t 12)] [])
 (.ret))
 (.skip))))
 (.seq (.ops [fa 13 1 (t 3),
 fa 14 0 (t 13),
 la 15 4 (t 14),
 o 6 (.alloc 37 [(i 0),(i 0),(i 0),(i 0)]),
 st 4 (t 6) (t 15)] [])
 (.seq (.seq (.ops [fa 16 0 (t 3),
 l1 17 (t 16)] [])
 (.block 0 (.seq (.ops [o 25 (.ibin .eql (t 17) (k 1)),
 mv 24 (t 25)] [])
 (.cond (t 24)
 (.seq (.ops [mv 26 (t 0),
 o 27 (.nilck (t 26)),
 fa 28 4 (t 27),
 l1 29 (t 28),
 ad 30 (t 29) (k 1),
 o 31 (.nilck (t 26)),
 fa 32 4 (t 31),
 st 1 (t 32) (t 30)] [])
 (.ops [mv 33 (t 0),
 o 34 (.build [(i 0),(i 0),(i 0),(i 0),(i 0),(i 0),(i 0),(i 0),(i 0),(i 0),(i 0),(i 0),(i 0),(i 0),(i 0),(i 0),(i 0),(i 0),(i 0),(i 0),(i 0),(i 0),(i 0),(i 0),(i 0),(i 0),(i 0),(i 0),(i 0),(i 0),(i 0),(i 0),(i 0),(i 0),(i 0),(i 0),(i 0),(i 0),(i 0),(i 0),(i 0),(i 0),(i 0),(i 0),(i 0),(i 0),(i 0),(i 0),(i 0),(i 0),(i 0),(i 0),(i 0),(i 0),(i 0),(i 0),(i 0),(i 0),(i 0),(i 0),(i 0),(i 0),(i 0),(i 0)] []),
 o 35 (.nilck (t 33)),
 fa 36 5 (t 35),
 st 64 (t 36) (t 34)] []))
 (.seq (.ops [o 38 (.ibin .eql (t 17) (k 2)),
 mv 37 (t 38)] [])
 (.cond (t 37)
  (.seq (.draw (.take (mv 39 (t 0)) (.take (o 40 (.nilck (t 39))) (.take (fa 41 69 (t 40)) (.take (l1 42 (t 41)) (.take (la 43 4 (t 6)) (.take (la 44 4 (t 6)) (.take (fa 46 1 (t 3)) (.take (fa 47 4 (t 46)) (.take (l1 48 (t 47)) (.take (mv 51 (t 0)) (.take (o 52 (.nilck (t 51))) (.take (fa 53 70 (t 52)) (.take (l1 54 (t 53)) (.alt (o 45 (.mkSl false 5 0 [] [])) false
  (.alt (o 49 (.app 5 1 1 [(u 0)] (t 45) (t 48))) true
   (.take (o 50 (.build [(i 0),(i 0),(i 0),(i 0),sn] [(0,4,(t 44)),(4,1,(t 49))])) (.take (o 55 (.build [(i 0),(i 0),(i 0),(i 0),sn,(i 0)] [(0,5,(t 50)),(5,1,(t 54))])) (.alt (e (.mset (.agg 4) (t 42) (t 43) (t 55))) false
   (.done)
   (.none))))
   (.none))
  (.none))))))))))))))) [])
  (.seq (.ops [mv 56 (t 0),
  o 57 (.nilck (t 56)),
  fa 58 70 (t 57),
  l1 59 (t 58),
  ad 60 (t 59) (k 1),
  o 61 (.nilck (t 56)),
  fa 62 70 (t 61),
  st 1 (t 62) (t 60)] [])
  (.seq (.draw (.take (mv 63 (t 0)) (.take (o 64 (.nilck (t 63))) (.take (fa 65 71 (t 64)) (.take (l1 66 (t 65)) (.take (fa 67 1 (t 3)) (.take (fa 68 4 (t 67)) (.take (l1 69 (t 68)) (.take (o 70 (.len (t 69))) (.take (ad 71 (t 66) (t 70)) (.take (o 72 (.nilck (t 63))) (.take (fa 73 71 (t 72)) (.alt (st 1 (t 73) (t 71)) false
  (.done)
  (.none))))))))))))) [])
  (.seq (.draw (.take (fa 74 0 (t 6)) (.take (l1 75 (t 74)) (.take (mv 76 (t 0)) (.take (o 77 (.nilck (t 76))) (.take (fa 78 0 (t 77)) (.take (l1 79 (t 78)) (.take (o 80 (.ibin .eql (t 75) (t 79))) (.take (os 81 (.mov (t 80))) (.take (gt 81 82 (.faddr 2 (t 6))) (.take (gt 81 83 (.load false 1 (t 82))) (.take (gt 81 84 (.mov (t 0))) (.take (gt 81 85 (.nilck (t 84))) (.take (gt 81 86 (.faddr 4 (t 85))) (.take (gt 81 87 (.load false 1 (t 86))) (.take (gt 81 88 (.ibin .eql (t 83) (t 87))) (.take (o 89 (.pick (t 81) (t 88) (kb false))) (.done))))))))))))))))) [])
  (.cond (t 89)
  (.draw (.take (mv 90 (t 0)) (.take (fa 91 1 (t 6)) (.take (l1 92 (t 91)) (.take (mv 93 (t 0)) (.take (fa 94 1 (t 6)) (.take (l1 95 (t 94)) (.take (o 96 (.nilck (t 93))) (.take (fa 97 5 (t 96)) (.take (o 98 (.iaddrA 64 1 (t 97) (t 95))) (.take (l1 99 (t 98)) (.take (fa 100 3 (t 6)) (.take (l1 101 (t 100)) (.take (o 102 (.imm true (t 99) (t 101))) (.take (o 103 (.nilck (t 90))) (.take (fa 104 5 (t 103)) (.take (o 105 (.iaddrA 64 1 (t 104) (t 92))) (.alt (st 1 (t 105) (t 102)) false
   (.done)
   (.none)))))))))))))))))) [])
  (.skip))))))
  (.seq (.ops [o 107 (.ibin .eql (t 17) (k 3)),
  mv 106 (t 107)] [])
  (.cond (t 106)
  (.seq (.draw (.take (mv 108 (t 0)) (.take (o 109 (.nilck (t 108))) (.take (fa 110 71 (t 109)) (.take (l1 111 (t 110)) (.take (mv 112 (t 0)) (.take (o 113 (.nilck (t 112))) (.take (fa 114 69 (t 113)) (.take (l1 115 (t 114)) (.take (la 116 4 (t 6)) (.take (o 117 (.mget (.agg 4) false (.agg #[(i 0),(i 0),(i 0),(i 0),sn,(i 0)]) (t 115) (t 116))) (.take (o 118 (.field true 0 5 (t 117))) (.take (o 119 (.field false 4 1 (t 118))) (.take (o 120 (.len (t 119))) (.take (o 121 (.ibin .sub (t 111) (t 120))) (.take (o 122 (.nilck (t 108))) (.take (fa 123 71 (t 122)) (.alt (st 1 (t 123) (t 121)) false
   (.done)
   (.none)))))))))))))))))) [])
  (.draw (.take (mv 124 (t 0)) (.take (o 125 (.nilck (t 124))) (.take (fa 126 69 (t 125)) (.take (l1 127 (t 126)) (.take (la 128 4 (t 6)) (.alt (e (.mdel (.agg 4) (t 127) (t 128))) false
   (.done)
   (.none))))))) []))
  (.draw (.take (mv 18 (t 0)) (.take (o 19 (.nilck (t 18))) (.take (fa 20 72 (t 19)) (.take (l1 21 (t 20)) (.take (la 22 4 (t 6)) (.alt (ca 23 F.zm5 [(t 21),(t 22)]) false
   (.done)
   (.none))))))) [])))))))))
 (.seq (.ops [mv 4 (k 0)] [])
 (.ret)))))
def zej:List zd:=[.tmp 4]
theorem zss {args:List Value} {M:Mem} {R:Value→Mem→Prop} (hn:args.length≤129) (h:zi Tryz.prog zei zej args M R):CallsM Tryz.prog F.zb2 args M R:=
 zf (kf:=fun _=>[]) Tryz.func122 (by kernel_rfl) (by kernel_rfl) hn (by kernel_rfl) h
def zeN:RCode:=
 .seq (.ops [mv 4 (.const sn)] [])
 (.seq (.seq (.ops [mv 7 (t 0),
 o 8 (.pnil .eql (t 7) (.const (.pointer none)))] [])
 (.cond (t 8)
 (.seq (.ops [mv 4 (.const sn)] [])
 (.ret))
 (.skip)))
 (.seq (.ops [mv 5 (.const sn)] [])
 (.seq (.seq (.ops [mv 9 (t 0),
 o 10 (.nilck (t 9)),
 fa 11 2 (t 10),
 l1 12 (t 11),
 o 13 (.mrange (t 12))] [])
 (.block 0 (.loop (.seq (.ops [o 14 (.mnext (t 13)),
 ex 15 (t 14) 0] [])
 (.seq (.cond (t 15)
  (.skip)
  (.exit 0))
 (.block 1 (.seq (.ops [o 16 (.mentry (t 13)),
 ex 17 (t 16) 0,
 o 6 (.alloc 37 [(i 0),(i 0),(i 0),(i 0)]),
 st 4 (t 6) (t 17)] [])
 (.seq (.ops [mv 18 (t 0),
 mv 19 (t 1),
 la 20 4 (t 6),
 ca 21 F.zhr [(t 18),(t 19),(t 20)]] [])
 (.cond (t 21)
  (.ops [mv 22 (t 5),
  la 23 4 (t 6),
  o 24 (.mkSl true 37 1 [(i 0),(i 0),(i 0),(i 0)] [(0,4,(t 23))]),
  o 25 (.app 37 4 32 [(i 0),(i 0),(i 0),(i 0)] (t 22) (t 24)),
  mv 5 (t 25)] [])
  (.skip))))))))))
 (.seq (.ops [mv 26 (t 5),
 ca 27 F.zbs [(t 26),(fn F.zr0)]] [])
 (.seq (.ops [mv 28 (t 5),
 mv 4 (t 28)] [])
 (.ret))))))
def zeO:List zd:=[.tmp 4]
theorem zs1 {args:List Value} {M:Mem} {R:Value→Mem→Prop} (hn:args.length≤29) (h:zi Tryz.prog zeN zeO args M R):CallsM Tryz.prog F.ziB args M R:=
 zf (kf:=fun _=>[]) Tryz.func123 (by kernel_rfl) (by kernel_rfl) hn (by kernel_rfl) h
def zck:RCode:=
 .seq (.ops [mv 2 (.const sn)] [])
 (.seq (.seq (.ops [mv 3 (t 0),
 o 4 (.pnil .eql (t 3) (.const (.pointer none)))] [])
 (.cond (t 4)
 (.seq (.ops [mv 2 (.const sn)] [])
 (.ret))
 (.skip)))
 (.seq (.ops [mv 5 (t 0),
 o 6 (.nilck (t 5)),
 fa 7 0 (t 6),
 fa 8 0 (t 7),
 l1 9 (t 8),
 ca 10 F.zcs [(t 9)],
 mv 2 (t 10)] [])
 (.ret)))
def zcl:List zd:=[.tmp 2]
theorem zpP {args:List Value} {M:Mem} {R:Value→Mem→Prop} (hn:args.length≤11) (h:zi Tryz.prog zck zcl args M R):CallsM Tryz.prog F.zfa args M R:=
 zf (kf:=fun _=>[]) Tryz.func124 (by kernel_rfl) (by kernel_rfl) hn (by kernel_rfl) h
def zh7:RCode:=
 .seq (.ops [mv 8 (.const sn)] [])
 (.seq (.seq (.ops [mv 15 (t 0),
 o 16 (.pnil .eql (t 15) (.const (.pointer none))),
 os 17 (.mov (t 16)),
 gf 17 18 (.mov (t 2)),
 gf 17 19 (.len (t 18)),
 gf 17 20 (.ibin .neq (t 19) (k 64)),
 o 21 (.pick (t 17) (kb true) (t 20))] [])
 (.cond (t 21)
 (.seq (.ops [mv 8 (.const sn)] [])
 (.ret))
 (.skip)))
 (.seq (.ops [mv 9 (.const sn)] [])
 (.seq (.seq (.ops [mv 22 (t 1),
 o 23 (.len (t 22)),
 mv 24 (k 0)] [])
 (.block 0 (.loop (.seq (.ops [o 25 (.ibin .lss (t 24) (t 23))] [])
 (.seq (.cond (t 25)
  (.skip)
  (.exit 0))
 (.seq (.block 1 (.seq (.ops [o 26 (.iaddr 5 (t 22) (t 24)),
 la 27 5 (t 26),
 o 11 (.alloc 78 [(i 0),(i 0),(i 0),(i 0),sn]),
 st 5 (t 11) (t 27)] [])
 (.seq (.seq (.ops [fa 28 0 (t 11),
 fa 29 1 (t 28),
 l1 30 (t 29),
 o 31 (.ibin .lss (t 30) (k 0)),
 os 32 (.mov (t 31)),
 gf 32 33 (.faddr 0 (t 11)),
 gf 32 34 (.faddr 1 (t 33)),
 gf 32 35 (.load false 1 (t 34)),
 gf 32 36 (.ibin .geq (t 35) (k 64)),
 o 37 (.pick (t 32) (kb true) (t 36)),
 os 38 (.mov (t 37)),
 gf 38 39 (.mov (t 3)),
 gf 38 40 (.mov (t 2)),
 gf 38 41 (.faddr 0 (t 11)),
 gf 38 42 (.faddr 1 (t 41)),
 gf 38 43 (.load false 1 (t 42)),
 gf 38 44 (.iaddr 1 (t 40) (t 43)),
 gf 38 45 (.load false 1 (t 44)),
 gf 38 46 (.call (fn F.zaJ) [(t 39),(t 45)]),
 gf 38 47 (.not (t 46)),
 o 48 (.pick (t 38) (kb true) (t 47))] [])
 (.cond (t 48)
  (.exit 1)
  (.skip)))
 (.seq (.seq (.draw (.take (mv 50 (t 0)) (.take (o 51 (.nilck (t 50))) (.take (fa 52 2 (t 51)) (.take (l1 53 (t 52)) (.take (fa 54 0 (t 11)) (.take (la 55 4 (t 54)) (.take (o 56 (.mget (.agg 4) true (.agg #[(i 0),(i 0),(i 0),(i 0)]) (t 53) (t 55))) (.take (mv 49 (t 56)) (.take (ex 57 (t 49) 0) (.take (ex 58 (t 49) 1) (.alt (o 12 (.alloc 190 [(i 0),(i 0),(i 0),(i 0)])) false
  (.alt (st 4 (t 12) (t 57)) false
  (.take (mv 13 (t 58)) (.done))
  (.none))
  (.none)))))))))))) [])
 (.seq (.ops [mv 59 (t 13)] [])
 (.cond (t 59)
  (.exit 1)
  (.skip))))
 (.seq (.ops [mv 60 (t 2),
 fa 61 0 (t 11),
 fa 62 1 (t 61),
 l1 63 (t 62),
 o 64 (.iaddr 1 (t 60) (t 63)),
 l1 65 (t 64),
 mv 14 (t 65)] [])
 (.seq (.draw (.take (mv 66 (t 0)) (.take (o 67 (.nilck (t 66))) (.take (fa 68 2 (t 67)) (.take (l1 69 (t 68)) (.take (fa 70 0 (t 11)) (.take (la 71 4 (t 70)) (.take (mv 72 (t 14)) (.take (mv 73 (t 0)) (.take (o 74 (.nilck (t 73))) (.take (fa 75 1 (t 74)) (.take (l1 76 (t 75)) (.take (o 77 (.build [(i 0),(i 0),(i 0),(i 0)] [(0,1,(t 72)),(1,1,(t 76))])) (.alt (e (.mset (.agg 4) (t 69) (t 71) (t 77))) false
  (.done)
  (.none)))))))))))))) [])
 (.seq (.draw (.take (mv 78 (t 9)) (.take (mv 79 (t 14)) (.take (mv 80 (t 0)) (.take (o 81 (.nilck (t 80))) (.take (fa 82 1 (t 81)) (.take (l1 83 (t 82)) (.take (fa 84 0 (t 11)) (.take (la 85 4 (t 84)) (.take (fa 87 4 (t 11)) (.take (l1 88 (t 87)) (.alt (o 86 (.mkSl false 5 0 [] [])) false
  (.alt (o 89 (.app 5 1 1 [(u 0)] (t 86) (t 88))) true
  (.take (o 90 (.build [(i 0),(i 0),(i 0),(i 0),sn] [(0,4,(t 85)),(4,1,(t 89))])) (.take (o 91 (.build [(i 0),(i 0),(i 0),(i 0),(i 0),(i 0),sn] [(0,1,(t 79)),(1,1,(t 83)),(2,5,(t 90))])) (.alt (o 92 (.mkSl true 214 1 [(i 0),(i 0),(i 0),(i 0),(i 0),(i 0),sn] [(0,7,(t 91))])) false
   (.alt (o 93 (.app 214 7 72 [(i 0),(i 0),(i 0),(i 0),(i 0),(i 0),sn] (t 78) (t 92))) false
   (.take (mv 9 (t 93)) (.done))
   (.none))
   (.none))))
  (.none))
  (.none)))))))))))) [])
 (.ops [mv 94 (t 0),
 mv 95 (t 0),
 o 96 (.nilck (t 95)),
 fa 97 1 (t 96),
 l1 98 (t 97),
 ad 99 (t 98) (k 1),
 o 100 (.ibin .rem (t 99) (k 65536)),
 o 101 (.nilck (t 94)),
 fa 102 1 (t 101),
 st 1 (t 102) (t 100)] []))))))))
 (.ops [ad 103 (t 24) (k 1),
 mv 24 (t 103)] [])))))))
 (.seq (.ops [mv 104 (t 9),
 mv 8 (t 104)] [])
 (.ret)))))
def zh8:List zd:=[.tmp 8]
theorem zwV {args:List Value} {M:Mem} {R:Value→Mem→Prop} (hn:args.length≤105) (h:zi Tryz.prog zh7 zh8 args M R):CallsM Tryz.prog F.zmb args M R:=
 zf (kf:=fun _=>[]) Tryz.func125 (by kernel_rfl) (by kernel_rfl) hn (by kernel_rfl) h
def zyw:RCode:=
 .seq (.ops [o 3 (.box 37 (t 1)),
 mv 4 (kb false)] [])
 (.seq (.ops [mv 6 (t 0),
 la 7 4 (t 3),
 ca 8 F.zsF [(t 6),(t 7)],
 mv 5 (t 8)] [])
 (.seq (.seq (.ops [mv 9 (t 5)] [])
 (.cond (t 9)
 (.draw (.take (mv 10 (t 0)) (.take (o 11 (.nilck (t 10))) (.take (fa 12 2 (t 11)) (.take (l1 13 (t 12)) (.take (la 14 4 (t 3)) (.alt (e (.mdel (.agg 4) (t 13) (t 14))) false
  (.done)
  (.none))))))) [])
 (.skip)))
 (.seq (.ops [mv 15 (t 5),
 mv 4 (t 15)] [])
 (.ret))))
def zyx:List zd:=[.tmp 4]
def zkZ:RCode:=
 .seq (.ops [mv 2 (.const (u 0))] [])
 (.seq (.seq (.ops [mv 3 (t 0)] [])
 (.cond (t 3)
 (.seq (.ops [mv 2 (.const (u 1))] [])
 (.ret))
 (.skip)))
 (.seq (.ops [mv 2 (.const (u 0))] [])
 (.ret)))
def zk0:List zd:=[.tmp 2]
theorem zzF {args:List Value} {M:Mem} {R:Value→Mem→Prop} (hn:args.length≤4) (h:zi Tryz.prog zkZ zk0 args M R):CallsM Tryz.prog F.zew args M R:=
 zf (kf:=fun _=>[]) Tryz.func127 (by kernel_rfl) (by kernel_rfl) hn (by kernel_rfl) h
def zoP:RCode:=
 .seq (.ops [mv 6 (.const sn),
 mv 7 (k 0)] [])
 (.scope (.seq (.seq (.ops [mv 10 (t 2),
 o 11 (.ibin .lss (t 10) (k 1)),
 os 12 (.mov (t 11)),
 gf 12 13 (.mov (t 2)),
 gf 12 14 (.ibin .gtr (t 13) (k 8)),
 o 15 (.pick (t 12) (kb true) (t 14))] [])
 (.cond (t 15)
 (.seq (.ops [mv 6 (.const sn),
 mv 7 (k 1)] [])
 (.ret))
 (.skip)))
 (.seq (.seq (.ops [mv 16 (t 2),
 o 17 (.ibin .lss (t 16) (k 8)),
 os 18 (.mov (t 17)),
 gt 18 19 (.mov (t 1)),
 gt 18 20 (.mov (t 2)),
 gt 18 21 (.ibin .mul (k 8) (t 20)),
 gt 18 22 (.ibin .shr (t 19) (t 21)),
 gt 18 23 (.ibin .neq (t 22) (.const (.int .u64 0))),
 o 24 (.pick (t 18) (t 23) (kb false))] [])
 (.cond (t 24)
 (.seq (.ops [mv 6 (.const sn),
 mv 7 (k 3)] [])
 (.ret))
 (.skip)))
 (.seq (.ops [o 25 (.mkSl false 5 0 [] []),
 mv 26 (t 0),
 o 27 (.app 5 1 1 [(u 0)] (t 25) (t 26)),
 mv 8 (t 27)] [])
 (.seq (.ops [mv 28 (t 2),
 o 29 (.ibin .mul (k 8) (t 28)),
 mv 9 (t 29)] [])
 (.seq (.skip)
 (.seq (.block 0 (.loop (.block 1 (.seq (.ops [mv 30 (t 9),
 o 31 (.ibin .sub (t 30) (k 8)),
 mv 9 (t 31)] [])
 (.seq (.ops [mv 32 (t 8),
 mv 33 (t 1),
 mv 34 (t 9),
 o 35 (.ibin .shr (t 33) (t 34)),
 o 36 (.conv .u8 (t 35)),
 o 37 (.mkSl true 5 1 [(u 0)] [(0,1,(t 36))]),
 o 38 (.app 5 1 1 [(u 0)] (t 32) (t 37)),
 mv 8 (t 38)] [])
 (.seq (.ops [mv 39 (t 9)] [])
 (.block 2 (.seq (.ops [o 41 (.ibin .eql (t 39) (k 0)),
 mv 40 (t 41)] [])
 (.cond (t 40)
  (.exit 0)
  (.skip))))))))))
 (.seq (.ops [mv 42 (t 8),
 mv 6 (t 42),
 mv 7 (k 0)] [])
 (.ret)))))))))
def zoQ:List zd:=[.tmp 6,.tmp 7]
theorem zDZ {args:List Value} {M:Mem} {R:Value→Mem→Prop} (hn:args.length≤43) (h:zi Tryz.prog zoP zoQ args M R):CallsM Tryz.prog F.zbx args M R:=
 zf (kf:=fun _=>[]) Tryz.func128 (by kernel_rfl) (by kernel_rfl) hn (by kernel_rfl) h
def zk1:RCode:=
 .seq (.ops [mv 2 (.const sn)] [])
 (.seq (.ops [mv 7 (t 0),
 o 8 (.len (t 7)),
 o 9 (.mkSlC 5 1 [(u 0)] (k 0) (t 8)),
 mv 3 (t 9)] [])
 (.seq (.seq (.ops [mv 10 (t 0),
 o 11 (.len (t 10)),
 mv 12 (k 0)] [])
 (.block 0 (.loop (.seq (.ops [o 13 (.ibin .lss (t 12) (t 11))] [])
 (.seq (.cond (t 13)
  (.skip)
  (.exit 0))
 (.seq (.block 1 (.seq (.ops [o 14 (.iaddr 1 (t 10) (t 12)),
 l1 15 (t 14),
 mv 5 (t 15)] [])
 (.seq (.ops [mv 6 (.const (u 0))] [])
 (.seq (.ops [mv 16 (t 5)] [])
 (.block 2 (.seq (.block 4 (.seq (.block 3 (.seq (.seq (.seq (.ops [o 18 (.ibin .eql (t 16) (.const (u 126))),
 mv 17 (t 18)] [])
 (.cond (t 17)
  (.skip)
  (.ops [o 19 (.ibin .eql (t 16) (.const (u 125))),
  mv 17 (t 19)] [])))
 (.cond (t 17)
  (.exit 3)
  (.skip)))
 (.exit 4)))
 (.seq (.ops [mv 20 (t 3),
 o 21 (.mkSl true 5 1 [(u 0)] [(0,1,(.const (u 125)))]),
 o 22 (.app 5 1 1 [(u 0)] (t 20) (t 21)),
 mv 3 (t 22)] [])
 (.ops [mv 6 (.const (u 32))] []))))
 (.seq (.ops [mv 23 (t 3),
 mv 24 (t 5),
 mv 25 (t 6),
 o 26 (.ibin .xor (t 24) (t 25)),
 o 27 (.mkSl true 5 1 [(u 0)] [(0,1,(t 26))]),
 o 28 (.app 5 1 1 [(u 0)] (t 23) (t 27)),
 mv 3 (t 28)] [])
 (.exit 2))))))))
 (.ops [ad 29 (t 12) (k 1),
 mv 12 (t 29)] [])))))))
 (.seq (.ops [mv 30 (t 3),
 mv 2 (t 30)] [])
 (.ret))))
def zk2:List zd:=[.tmp 2]
theorem zzG {args:List Value} {M:Mem} {R:Value→Mem→Prop} (hn:args.length≤31) (h:zi Tryz.prog zk1 zk2 args M R):CallsM Tryz.prog F.zn5 args M R:=
 zf (kf:=fun _=>[]) Tryz.func129 (by kernel_rfl) (by kernel_rfl) hn (by kernel_rfl) h
def zql:RCode:=
 .seq (.ops [mv 2 (.const sn)] [])
 (.seq (.ops [mv 4 (t 0),
 o 5 (.mkSl false 30 1 [sn] [(0,1,(t 4))]),
 ca 6 F.ziD [(t 5)],
 mv 3 (t 6)] [])
 (.seq (.ops [o 7 (.mkSl false 5 0 [] []),
 mv 8 (t 0),
 o 9 (.app 5 1 1 [(u 0)] (t 7) (t 8)),
 mv 10 (t 3),
 o 11 (.conv .u8 (t 10)),
 mv 12 (t 3),
 o 13 (.ibin .shr (t 12) (.const (.int .u64 8))),
 o 14 (.conv .u8 (t 13)),
 o 15 (.mkSl true 5 2 [(u 0),(u 0)] [(0,1,(t 11)),(1,1,(t 14))]),
 o 16 (.app 5 1 1 [(u 0)] (t 9) (t 15)),
 mv 2 (t 16)] [])
 (.ret)))
def zqm:List zd:=[.tmp 2]
theorem zFT {args:List Value} {M:Mem} {R:Value→Mem→Prop} (hn:args.length≤17) (h:zi Tryz.prog zql zqm args M R):CallsM Tryz.prog F.ztH args M R:=
 zf (kf:=fun _=>[]) Tryz.func130 (by kernel_rfl) (by kernel_rfl) hn (by kernel_rfl) h
def zyy:RCode:=
 .seq (.ops [mv 2 (.const sn),
 mv 3 (k 0)] [])
 (.seq (.ops [o 6 (.mkSl false 5 0 [] []),
 mv 4 (t 6)] [])
 (.seq (.seq (.ops [mv 5 (k 0)] [])
 (.block 0 (.loop (.seq (.seq (.ops [mv 7 (t 5),
 mv 8 (t 0),
 o 9 (.len (t 8)),
 o 10 (.ibin .lss (t 7) (t 9))] [])
 (.cond (t 10)
  (.skip)
  (.exit 0)))
 (.seq (.block 1 (.seq (.seq (.ops [mv 13 (t 0),
 mv 14 (t 5),
 o 15 (.iaddr 1 (t 13) (t 14)),
 l1 16 (t 15),
 o 17 (.ibin .eql (t 16) (.const (u 126)))] [])
 (.cond (t 17)
  (.seq (.ops [mv 2 (.const sn),
  mv 3 (k 2)] [])
  (.ret))
  (.skip)))
 (.seq (.seq (.ops [mv 18 (t 0),
 mv 19 (t 5),
 o 20 (.iaddr 1 (t 18) (t 19)),
 l1 21 (t 20),
 o 22 (.ibin .neq (t 21) (.const (u 125)))] [])
 (.cond (t 22)
  (.seq (.ops [mv 23 (t 4),
  mv 24 (t 0),
  mv 25 (t 5),
  o 26 (.iaddr 1 (t 24) (t 25)),
  l1 27 (t 26),
  o 28 (.mkSl true 5 1 [(u 0)] [(0,1,(t 27))]),
  o 29 (.app 5 1 1 [(u 0)] (t 23) (t 28)),
  mv 4 (t 29)] [])
  (.exit 1))
  (.skip)))
 (.seq (.seq (.ops [mv 30 (t 5),
 ad 31 (t 30) (k 1),
 mv 32 (t 0),
 o 33 (.len (t 32)),
 o 34 (.ibin .geq (t 31) (t 33)),
 os 35 (.mov (t 34)),
 gf 35 36 (.mov (t 0)),
 gf 35 37 (.mov (t 5)),
 gf 35 38 (.ibin .add (t 37) (k 1)),
 gf 35 39 (.iaddr 1 (t 36) (t 38)),
 gf 35 40 (.load false 1 (t 39)),
 gf 35 41 (.ibin .neq (t 40) (.const (u 94))),
 ⟨(some 42),.mov (t 41),some (35,false),true⟩,
 gt 42 43 (.mov (t 0)),
 gt 42 44 (.mov (t 5)),
 gt 42 45 (.ibin .add (t 44) (k 1)),
 gt 42 46 (.iaddr 1 (t 43) (t 45)),
 gt 42 47 (.load false 1 (t 46)),
 gt 42 48 (.ibin .neq (t 47) (.const (u 93))),
 gf 35 49 (.pick (t 42) (t 48) (kb false)),
 o 50 (.pick (t 35) (kb true) (t 49))] [])
 (.cond (t 50)
  (.seq (.ops [mv 2 (.const sn),
  mv 3 (k 2)] [])
  (.ret))
  (.skip)))
 (.seq (.ops [mv 51 (t 4),
 mv 52 (t 0),
 mv 53 (t 5),
 ad 54 (t 53) (k 1),
 o 55 (.iaddr 1 (t 52) (t 54)),
 l1 56 (t 55),
 o 57 (.ibin .xor (t 56) (.const (u 32))),
 o 58 (.mkSl true 5 1 [(u 0)] [(0,1,(t 57))]),
 o 59 (.app 5 1 1 [(u 0)] (t 51) (t 58)),
 mv 4 (t 59)] [])
 (.ops [mv 60 (t 5),
 ad 61 (t 60) (k 1),
 mv 5 (t 61)] []))))))
 (.ops [mv 11 (t 5),
 ad 12 (t 11) (k 1),
 mv 5 (t 12)] []))))))
 (.seq (.ops [mv 62 (t 4),
 mv 2 (t 62),
 mv 3 (k 0)] [])
 (.ret))))
def zyz:List zd:=[.tmp 2,.tmp 3]
def zAZ:RCode:=
 .seq (.ops [mv 2 (kb false)] [])
 (.seq (.draw (.take (mv 3 (t 0)) (.take (o 4 (.len (t 3))) (.take (o 5 (.ibin .geq (t 4) (k 2))) (.take (os 6 (.mov (t 5))) (.take (gt 6 7 (.mov (t 0))) (.take (gt 6 8 (.mov (t 0))) (.take (gt 6 9 (.len (t 8))) (.take (gt 6 10 (.ibin .sub (t 9) (k 2))) (.take (gt 6 11 (.slx 1 (t 7) none (some (t 10)))) (.take (gt 6 14 (.mov (t 0))) (.take (gt 6 15 (.strOf (t 14))) (.alt (gt 6 12 (.call (fn F.znt) [(t 11)])) true
 (.take (gt 6 13 (.strOf (t 12))) (.take (gt 6 16 (.strE .eql (t 13) (t 15))) (.take (o 17 (.pick (t 6) (t 16) (kb false))) (.take (mv 2 (t 17)) (.done)))))
 (.none))))))))))))) [])
 (.ret))
def zA0:List zd:=[.tmp 2]
def zeP:RCode:=
 .seq (.ops [mv 2 (.const sn)] [])
 (.seq (.seq (.ops [mv 9 (t 0),
 o 10 (.pnil .eql (t 9) (.const (.pointer none)))] [])
 (.cond (t 10)
 (.seq (.ops [mv 2 (.const sn)] [])
 (.ret))
 (.skip)))
 (.seq (.ops [mv 3 (.const sn)] [])
 (.seq (.seq (.ops [mv 11 (t 0),
 o 12 (.nilck (t 11)),
 fa 13 69 (t 12),
 l1 14 (t 13),
 o 15 (.mrange (t 14))] [])
 (.block 0 (.loop (.seq (.ops [o 16 (.mnext (t 15)),
 ex 17 (t 16) 0] [])
 (.seq (.cond (t 17)
  (.skip)
  (.exit 0))
 (.block 1 (.seq (.ops [o 18 (.mentry (t 15)),
 ex 19 (t 18) 1,
 o 5 (.alloc 261 [(i 0),(i 0),(i 0),(i 0),sn,(i 0)]),
 st 6 (t 5) (t 19)] [])
 (.ops [mv 20 (t 3),
 la 21 6 (t 5),
 o 22 (.mkSl true 261 1 [(i 0),(i 0),(i 0),(i 0),sn,(i 0)] [(0,6,(t 21))]),
 o 23 (.app 261 6 64 [(i 0),(i 0),(i 0),(i 0),sn,(i 0)] (t 20) (t 22)),
 mv 3 (t 23)] []))))))))
 (.seq (.ops [mv 24 (t 3),
 ca 25 F.zaw [(t 24),(fn F.zr1)]] [])
 (.seq (.ops [mv 6 (.const sn)] [])
 (.seq (.seq (.ops [mv 26 (t 3),
 o 27 (.len (t 26)),
 mv 28 (k 0)] [])
 (.block 2 (.loop (.seq (.ops [o 29 (.ibin .lss (t 28) (t 27))] [])
 (.seq (.cond (t 29)
  (.skip)
  (.exit 2))
 (.seq (.block 3 (.seq (.ops [o 30 (.iaddr 6 (t 26) (t 28)),
 la 31 6 (t 30),
 o 8 (.alloc 261 [(i 0),(i 0),(i 0),(i 0),sn,(i 0)]),
 st 6 (t 8) (t 31)] [])
 (.draw (.take (mv 32 (t 6)) (.take (fa 33 0 (t 8)) (.take (fa 34 0 (t 33)) (.take (la 35 4 (t 34)) (.take (fa 37 0 (t 8)) (.take (fa 38 4 (t 37)) (.take (l1 39 (t 38)) (.alt (o 36 (.mkSl false 5 0 [] [])) false
  (.alt (o 40 (.app 5 1 1 [(u 0)] (t 36) (t 39))) true
  (.take (o 41 (.build [(i 0),(i 0),(i 0),(i 0),sn] [(0,4,(t 35)),(4,1,(t 40))])) (.alt (o 42 (.mkSl true 78 1 [(i 0),(i 0),(i 0),(i 0),sn] [(0,5,(t 41))])) false
   (.alt (o 43 (.app 78 5 56 [(i 0),(i 0),(i 0),(i 0),sn] (t 32) (t 42))) false
   (.take (mv 6 (t 43)) (.done))
   (.none))
   (.none)))
  (.none))
  (.none))))))))) [])))
 (.ops [ad 44 (t 28) (k 1),
 mv 28 (t 44)] [])))))))
 (.seq (.ops [mv 45 (t 6),
 mv 2 (t 45)] [])
 (.ret))))))))
def zeQ:List zd:=[.tmp 2]
theorem zs2 {args:List Value} {M:Mem} {R:Value→Mem→Prop} (hn:args.length≤46) (h:zi Tryz.prog zeP zeQ args M R):CallsM Tryz.prog F.zcs args M R:=
 zf (kf:=fun _=>[]) Tryz.func133 (by kernel_rfl) (by kernel_rfl) hn (by kernel_rfl) h
def zg4:RCode:=
 .seq (.ops [mv 2 (.const sn)] [])
 (.seq (.seq (.ops [mv 6 (t 0),
 o 7 (.pnil .eql (t 6) (.const (.pointer none)))] [])
 (.cond (t 7)
 (.seq (.ops [mv 2 (.const sn)] [])
 (.ret))
 (.skip)))
 (.seq (.ops [mv 3 (.const sn)] [])
 (.seq (.seq (.ops [mv 8 (t 0),
 o 9 (.nilck (t 8)),
 fa 10 1 (t 9),
 l1 11 (t 10),
 o 12 (.mrange (t 11))] [])
 (.block 0 (.loop (.seq (.ops [o 13 (.mnext (t 12)),
 ex 14 (t 13) 0] [])
 (.seq (.cond (t 14)
  (.skip)
  (.exit 0))
 (.block 1 (.seq (.ops [o 15 (.mentry (t 12)),
 ex 16 (t 15) 0,
 ex 17 (t 15) 1,
 o 4 (.alloc 274 [(i 0),(i 0)]),
 st 2 (t 4) (t 16),
 mv 5 (t 17)] [])
 (.draw (.take (mv 18 (t 3)) (.take (o 19 (.iaddrA 2 1 (t 4) (k 0))) (.take (l1 20 (t 19)) (.take (o 21 (.iaddrA 2 1 (t 4) (k 1))) (.take (l1 22 (t 21)) (.take (mv 23 (t 5)) (.take (o 24 (.nilck (t 23))) (.take (fa 25 0 (t 24)) (.take (l1 26 (t 25)) (.take (mv 28 (t 5)) (.take (o 29 (.nilck (t 28))) (.take (fa 30 1 (t 29)) (.take (l1 31 (t 30)) (.alt (o 27 (.mkSl false 3 0 [] [])) false
  (.alt (o 32 (.app 3 1 8 [(i 0)] (t 27) (t 31))) true
  (.take (o 33 (.build [(i 0),(i 0),(i 0),sn] [(0,1,(t 20)),(1,1,(t 22)),(2,1,(t 26)),(3,1,(t 32))])) (.alt (o 34 (.mkSl true 176 1 [(i 0),(i 0),(i 0),sn] [(0,4,(t 33))])) false
   (.alt (o 35 (.app 176 4 48 [(i 0),(i 0),(i 0),sn] (t 18) (t 34))) false
   (.take (mv 3 (t 35)) (.done))
   (.none))
   (.none)))
  (.none))
  (.none))))))))))))))) []))))))))
 (.seq (.ops [mv 36 (t 3),
 ca 37 F.za1 [(t 36),(fn F.ztK)]] [])
 (.seq (.ops [mv 38 (t 3),
 mv 2 (t 38)] [])
 (.ret))))))
def zg5:List zd:=[.tmp 2]
theorem zvn {args:List Value} {M:Mem} {R:Value→Mem→Prop} (hn:args.length≤39) (h:zi Tryz.prog zg4 zg5 args M R):CallsM Tryz.prog F.zdB args M R:=
 zf (kf:=fun _=>[]) Tryz.func134 (by kernel_rfl) (by kernel_rfl) hn (by kernel_rfl) h
def zeR:RCode:=
 .scope (.seq (.ops [mv 5 (t 0),
 o 6 (.nilck (t 5)),
 fa 7 1 (t 6),
 l1 8 (t 7),
 ca 9 F.zcG [(t 8)],
 mv 4 (t 9),
 ex 10 (t 4) 0,
 ex 11 (t 4) 1,
 mv 2 (t 10),
 mv 3 (t 11)] [])
 (.seq (.skip)
 (.block 0 (.loop (.block 1 (.seq (.block 2 (.seq (.ops [mv 13 (t 3),
 o 14 (.ibin .neq (t 13) (k 0)),
 mv 12 (t 14)] [])
 (.cond (t 12)
  (.seq (.ops [mv 15 (t 0),
  o 16 (.nilck (t 15)),
  fa 17 2 (t 16),
  fa 18 4 (t 17),
  l1 19 (t 18),
  ad 20 (t 19) (k 1),
  o 21 (.nilck (t 15)),
  fa 22 2 (t 21),
  fa 23 4 (t 22),
  st 1 (t 23) (t 20)] [])
  (.exit 0))
  (.seq (.ops [mv 25 (t 2),
  o 26 (.len (t 25)),
  o 27 (.ibin .lss (t 26) (k 3)),
  mv 24 (t 27)] [])
  (.cond (t 24)
  (.seq (.ops [mv 28 (t 0),
  o 29 (.nilck (t 28)),
  fa 30 2 (t 29),
  fa 31 2 (t 30),
  l1 32 (t 31),
  ad 33 (t 32) (k 1),
  o 34 (.nilck (t 28)),
  fa 35 2 (t 34),
  fa 36 2 (t 35),
  st 1 (t 36) (t 33)] [])
  (.exit 0))
  (.seq (.ops [mv 38 (t 2),
  ca 39 F.zhG [(t 38)],
  o 40 (.not (t 39)),
  mv 37 (t 40)] [])
  (.cond (t 37)
   (.seq (.ops [mv 41 (t 0),
   o 42 (.nilck (t 41)),
   fa 43 2 (t 42),
   fa 44 1 (t 43),
   l1 45 (t 44),
   ad 46 (t 45) (k 1),
   o 47 (.nilck (t 41)),
   fa 48 2 (t 47),
   fa 49 1 (t 48),
   st 1 (t 49) (t 46)] [])
   (.exit 0))
   (.seq (.ops [mv 51 (t 2),
   o 52 (.len (t 51)),
   o 53 (.ibin .sub (t 52) (k 2)),
   o 54 (.ibin .gtr (t 53) (k 128)),
   mv 50 (t 54)] [])
   (.cond (t 50)
   (.seq (.ops [mv 55 (t 0),
   o 56 (.nilck (t 55)),
   fa 57 2 (t 56),
   fa 58 3 (t 57),
   l1 59 (t 58),
   ad 60 (t 59) (k 1),
   o 61 (.nilck (t 55)),
   fa 62 2 (t 61),
   fa 63 3 (t 62),
   st 1 (t 63) (t 60)] [])
   (.exit 0))
   (.skip))))))))))
 (.seq (.ops [mv 64 (t 0),
 o 65 (.nilck (t 64)),
 fa 66 2 (t 65),
 fa 67 0 (t 66),
 l1 68 (t 67),
 ad 69 (t 68) (k 1),
 o 70 (.nilck (t 64)),
 fa 71 2 (t 70),
 fa 72 0 (t 71),
 st 1 (t 72) (t 69)] [])
 (.seq (.draw (.take (mv 73 (t 0)) (.take (mv 74 (t 0)) (.take (o 75 (.nilck (t 74))) (.take (fa 76 7 (t 75)) (.take (l1 77 (t 76)) (.take (mv 79 (t 2)) (.take (mv 80 (t 2)) (.take (o 81 (.len (t 80))) (.take (o 82 (.ibin .sub (t 81) (k 2))) (.take (o 83 (.slx 1 (t 79) none (some (t 82)))) (.alt (o 78 (.mkSl false 5 0 [] [])) false
  (.alt (o 84 (.app 5 1 1 [(u 0)] (t 78) (t 83))) true
  (.alt (o 85 (.mkSl true 30 1 [sn] [(0,1,(t 84))])) false
   (.alt (o 86 (.app 30 1 24 [sn] (t 77) (t 85))) false
   (.take (o 87 (.nilck (t 73))) (.take (fa 88 7 (t 87)) (.alt (st 1 (t 88) (t 86)) false
    (.done)
    (.none))))
   (.none))
   (.none))
  (.none))
  (.none)))))))))))) [])
 (.exit 0)))))))))
def zeS:List zd:=[]
theorem zs3 {args:List Value} {M:Mem} {R:Value→Mem→Prop} (hn:args.length≤89) (h:zi Tryz.prog zeR zeS args M R):CallsM Tryz.prog F.zbk args M R:=
 zf (kf:=fun _=>[]) Tryz.func135 (by kernel_rfl) (by kernel_rfl) hn (by kernel_rfl) h
def zeT:RCode:=
 .seq (.ops [mv 2 (kb false),
 mv 3 (kb false),
 mv 4 (kb false),
 mv 5 (kb false)] [])
 (.seq (.seq (.ops [mv 6 (t 0)] [])
 (.block 0 (.seq (.block 3 (.seq (.block 2 (.seq (.block 1 (.seq (.seq (.seq (.ops [o 8 (.ibin .eql (t 6) (k 1)),
 mv 7 (t 8)] [])
 (.cond (t 7)
 (.exit 1)
 (.skip)))
 (.seq (.seq (.seq (.ops [o 10 (.ibin .eql (t 6) (k 2)),
 mv 9 (t 10)] [])
 (.cond (t 9)
 (.skip)
 (.seq (.ops [o 11 (.ibin .eql (t 6) (k 3)),
 mv 9 (t 11)] [])
 (.cond (t 9)
  (.skip)
  (.ops [o 12 (.ibin .eql (t 6) (k 4)),
  mv 9 (t 12)] [])))))
 (.cond (t 9)
 (.exit 2)
 (.skip)))
 (.seq (.seq (.ops [o 14 (.ibin .eql (t 6) (k 6)),
 mv 13 (t 14)] [])
 (.cond (t 13)
 (.skip)
 (.ops [o 15 (.ibin .eql (t 6) (k 7)),
 mv 13 (t 15)] [])))
 (.cond (t 13)
 (.exit 3)
 (.skip)))))
 (.exit 0)))
 (.ops [mv 2 (kb true),
 mv 5 (kb true)] [])))
 (.ops [mv 3 (kb true)] [])))
 (.seq (.ops [mv 4 (kb true)] [])
 (.exit 0)))))
 (.seq (.ops [mv 16 (t 2),
 mv 17 (t 3),
 mv 18 (t 4),
 mv 19 (t 5),
 mv 2 (t 16),
 mv 3 (t 17),
 mv 4 (t 18),
 mv 5 (t 19)] [])
 (.ret)))
def zeU:List zd:=[.tmp 2,.tmp 3,.tmp 4,.tmp 5]
theorem zs4 {args:List Value} {M:Mem} {R:Value→Mem→Prop} (hn:args.length≤20) (h:zi Tryz.prog zeT zeU args M R):CallsM Tryz.prog F.ziC args M R:=
 zf (kf:=fun _=>[]) Tryz.func136 (by kernel_rfl) (by kernel_rfl) hn (by kernel_rfl) h
def zfG:RCode:=
 .seq (.ops [mv 4 (kb false)] [])
 (.seq (.ops [mv 5 (t 0),
 o 6 (.ibin .geq (t 5) (k 0)),
 os 7 (.mov (t 6)),
 gt 7 8 (.mov (t 0)),
 gt 7 9 (.mov (t 1)),
 gt 7 10 (.ibin .leq (t 8) (t 9)),
 o 11 (.pick (t 7) (t 10) (kb false)),
 mv 4 (t 11)] [])
 (.ret))
def zfH:List zd:=[.tmp 4]
theorem zuc {args:List Value} {M:Mem} {R:Value→Mem→Prop} (hn:args.length≤12) (h:zi Tryz.prog zfG zfH args M R):CallsM Tryz.prog F.zjT args M R:=
 zf (kf:=fun _=>[]) Tryz.func137 (by kernel_rfl) (by kernel_rfl) hn (by kernel_rfl) h
def zfI:RCode:=
 .seq (.ops [mv 2 (t 0),
 o 3 (.nilck (t 2)),
 fa 4 11 (t 3),
 l1 5 (t 4),
 ca 6 F.zf4 [(t 5)]] [])
 (.seq (.ops [mv 7 (t 0),
 o 8 (.nilck (t 7)),
 fa 9 12 (t 8),
 l1 10 (t 9),
 ca 11 F.zcF [(t 10)]] [])
 (.seq (.ops [mv 12 (t 0),
 o 13 (.nilck (t 12)),
 fa 14 8 (t 13),
 l1 15 (t 14),
 ad 16 (t 15) (k 1),
 o 17 (.nilck (t 12)),
 fa 18 8 (t 17),
 st 1 (t 18) (t 16)] [])
 (.ops [mv 19 (t 0),
 mv 20 (t 0),
 mv 21 (t 0),
 o 22 (.nilck (t 19)),
 fa 23 6 (t 22),
 st 1 (t 23) (k 0),
 o 24 (.nilck (t 20)),
 fa 25 7 (t 24),
 st 1 (t 25) (k 0),
 o 26 (.nilck (t 21)),
 fa 27 9 (t 26),
 st 1 (t 27) (kb false)] [])))
def zfJ:List zd:=[]
theorem zud {args:List Value} {M:Mem} {R:Value→Mem→Prop} (hn:args.length≤28) (h:zi Tryz.prog zfI zfJ args M R):CallsM Tryz.prog F.zc6 args M R:=
 zf (kf:=fun _=>[]) Tryz.func138 (by kernel_rfl) (by kernel_rfl) hn (by kernel_rfl) h
def zfK:RCode:=
 .ops [mv 2 (t 0),
 mv 3 (t 0),
 mv 4 (t 0),
 o 5 (.nilck (t 2)),
 fa 6 2 (t 5),
 st 1 (t 6) (kb true),
 o 7 (.nilck (t 3)),
 fa 8 6 (t 7),
 st 1 (t 8) (k 0),
 o 9 (.nilck (t 4)),
 fa 10 7 (t 9),
 st 1 (t 10) (k 0)] []
def zfL:List zd:=[]
theorem zue {args:List Value} {M:Mem} {R:Value→Mem→Prop} (hn:args.length≤11) (h:zi Tryz.prog zfK zfL args M R):CallsM Tryz.prog F.zfn args M R:=
 zf (kf:=fun _=>[]) Tryz.func139 (by kernel_rfl) (by kernel_rfl) hn (by kernel_rfl) h
def zfM:RCode:=
 .seq (.ops [o 3 (.box 101 (t 1))] [])
 (.seq (.ops [mv 9 (t 0),
 fa 10 2 (t 3),
 l1 11 (t 10),
 ca 12 F.zhT [(t 9),(t 11)]] [])
 (.seq (.ops [mv 13 (t 0),
 ca 14 F.zdD [(t 13)]] [])
 (.seq (.seq (.ops [fa 15 3 (t 3),
 l1 16 (t 15)] [])
 (.cond (t 16)
 (.ops [mv 17 (t 0),
 o 18 (.nilck (t 17)),
 fa 19 12 (t 18),
 l1 20 (t 19),
 ca 21 F.zqF [(t 20)]] [])
 (.skip)))
 (.seq (.seq (.ops [mv 22 (t 0),
 o 23 (.nilck (t 22)),
 fa 24 10 (t 23),
 l1 25 (t 24),
 o 26 (.not (t 25))] [])
 (.cond (t 26)
 (.seq (.draw (.take (mv 28 (t 0)) (.take (o 29 (.nilck (t 28))) (.take (fa 30 12 (t 29)) (.take (l1 31 (t 30)) (.take (fa 32 1 (t 3)) (.take (l1 33 (t 32)) (.take (fa 34 6 (t 3)) (.take (l1 35 (t 34)) (.alt (ca 36 F.zgw [(t 31),(t 33),(t 35)]) false
  (.take (mv 27 (t 36)) (.take (ex 37 (t 27) 0) (.take (ex 38 (t 27) 1) (.take (ex 39 (t 27) 2) (.take (mv 4 (t 37)) (.take (mv 5 (t 38)) (.take (mv 6 (t 39)) (.done))))))))
  (.none)))))))))) [])
 (.seq (.ops [mv 40 (t 0),
 mv 41 (t 0),
 o 42 (.nilck (t 41)),
 fa 43 14 (t 42),
 l1 44 (t 43),
 mv 45 (t 4),
 o 46 (.app 30 1 24 [sn] (t 44) (t 45)),
 o 47 (.nilck (t 40)),
 fa 48 14 (t 47),
 st 1 (t 48) (t 46)] [])
 (.seq (.ops [mv 49 (t 5),
 o 50 (.len (t 49)),
 mv 51 (k 0)] [])
 (.block 0 (.loop (.seq (.ops [o 52 (.ibin .lss (t 51) (t 50))] [])
  (.seq (.cond (t 52)
  (.skip)
  (.exit 0))
  (.seq (.block 1 (.seq (.ops [o 53 (.iaddr 1 (t 49) (t 51)),
  l1 54 (t 53),
  mv 8 (t 54)] [])
  (.ops [mv 55 (t 0),
  mv 56 (t 8),
  mv 57 (t 0),
  o 58 (.nilck (t 57)),
  fa 59 1 (t 58),
  l1 60 (t 59),
  o 61 (.build [(i 0),(i 0),(i 0),(.bool false),(i 0),(i 0),sn] [(0,1,(k 4)),(2,1,(t 56)),(5,1,(t 60))]),
  ca 62 F.zaz [(t 55),(t 61)]] [])))
  (.ops [ad 63 (t 51) (k 1),
  mv 51 (t 63)] [])))))))))
 (.skip)))
 (.ops [mv 64 (t 0),
 ca 65 F.zeH [(t 64)]] [])))))
def zfN:List zd:=[]
theorem zuf {args:List Value} {M:Mem} {R:Value→Mem→Prop} (hn:args.length≤66) (h:zi Tryz.prog zfM zfN args M R):CallsM Tryz.prog F.zjU args M R:=
 zf (kf:=fun _=>[]) Tryz.func140 (by kernel_rfl) (by kernel_rfl) hn (by kernel_rfl) h
def zvo:RCode:=
 .seq (.ops [o 3 (.box 101 (t 1))] [])
 (.seq (.draw (.take (mv 7 (t 0)) (.take (o 8 (.nilck (t 7))) (.take (fa 9 11 (t 8)) (.take (l1 10 (t 9)) (.take (fa 11 2 (t 3)) (.take (l1 12 (t 11)) (.alt (ca 13 F.zlw [(t 10),(t 12)]) false
 (.take (mv 6 (t 13)) (.take (ex 14 (t 6) 0) (.take (ex 15 (t 6) 1) (.take (mv 4 (t 14)) (.take (mv 5 (t 15)) (.done))))))
 (.none)))))))) [])
 (.seq (.ops [mv 16 (t 5),
 o 17 (.ibin .eql (t 16) (k 0))] [])
 (.cond (t 17)
 (.ops [mv 18 (t 0),
 fa 19 2 (t 3),
 l1 20 (t 19),
 mv 21 (t 4),
 ca 22 F.zdz [(t 18),(t 20),(t 21),(kb false)]] [])
 (.skip))))
def zvp:List zd:=[]
def zfO:RCode:=
 .seq (.ops [o 3 (.box 101 (t 1))] [])
 (.seq (.ops [mv 4 (t 0),
 fa 5 0 (t 3),
 l1 6 (t 5),
 o 7 (.ibin .eql (t 6) (k 3)),
 o 8 (.nilck (t 4)),
 fa 9 9 (t 8),
 st 1 (t 9) (t 7)] [])
 (.seq (.ops [mv 10 (t 0),
 fa 11 2 (t 3),
 l1 12 (t 11),
 ca 13 F.zhT [(t 10),(t 12)]] [])
 (.seq (.ops [mv 14 (t 0),
 ca 15 F.zdD [(t 14)]] [])
 (.seq (.seq (.ops [mv 16 (t 0),
 o 17 (.nilck (t 16)),
 fa 18 9 (t 17),
 l1 19 (t 18),
 os 20 (.mov (t 19)),
 gt 20 21 (.mov (t 0)),
 gt 20 22 (.nilck (t 21)),
 gt 20 23 (.faddr 11 (t 22)),
 gt 20 24 (.load false 1 (t 23)),
 gt 20 25 (.call (fn F.zmW) [(t 24)]),
 gt 20 26 (.ibin .gtr (t 25) (k 0)),
 o 27 (.pick (t 20) (t 26) (kb false)),
 os 28 (.mov (t 27)),
 gt 28 29 (.mov (t 0)),
 gt 28 30 (.nilck (t 29)),
 gt 28 31 (.faddr 6 (t 30)),
 gt 28 32 (.load false 1 (t 31)),
 gt 28 33 (.ibin .eql (t 32) (k 0)),
 o 34 (.pick (t 28) (t 33) (kb false))] [])
 (.cond (t 34)
 (.ops [mv 35 (t 0),
 mv 36 (t 0),
 o 37 (.nilck (t 36)),
 fa 38 4 (t 37),
 l1 39 (t 38),
 o 40 (.nilck (t 35)),
 fa 41 6 (t 40),
 st 1 (t 41) (t 39)] [])
 (.skip)))
 (.seq (.ops [fa 42 3 (t 3),
 l1 43 (t 42)] [])
 (.cond (t 43)
 (.ops [mv 44 (t 0),
 ca 45 F.zeH [(t 44)]] [])
 (.skip)))))))
def zfP:List zd:=[]
theorem zug {args:List Value} {M:Mem} {R:Value→Mem→Prop} (hn:args.length≤46) (h:zi Tryz.prog zfO zfP args M R):CallsM Tryz.prog F.zjV args M R:=
 zf (kf:=fun _=>[]) Tryz.func142 (by kernel_rfl) (by kernel_rfl) hn (by kernel_rfl) h
def zqn:RCode:=
 .seq (.ops [o 2 (.alloc 78 [(i 0),(i 0),(i 0),(i 0),sn]),
 mv 3 (k 0)] [])
 (.seq (.seq (.ops [mv 7 (t 0),
 o 8 (.len (t 7)),
 o 9 (.ibin .lss (t 8) (k 6))] [])
 (.cond (t 9)
 (.seq (.ops [o 10 (.build [(i 0),(i 0),(i 0),(i 0),sn] []),
 st 5 (t 2) (t 10),
 mv 3 (k 2)] [])
 (.ret))
 (.skip)))
 (.seq (.ops [mv 12 (t 0),
 o 13 (.slx 1 (t 12) none (some (k 6))),
 ca 14 F.zkl [(t 13)],
 mv 11 (t 14),
 ex 15 (t 11) 0,
 ex 16 (t 11) 1,
 o 4 (.alloc 37 [(i 0),(i 0),(i 0),(i 0)]),
 st 4 (t 4) (t 15),
 mv 5 (t 16)] [])
 (.seq (.seq (.ops [mv 17 (t 5),
 o 18 (.ibin .neq (t 17) (k 0))] [])
 (.cond (t 18)
 (.seq (.ops [o 19 (.build [(i 0),(i 0),(i 0),(i 0),sn] []),
 mv 20 (t 5),
 st 5 (t 2) (t 19),
 mv 3 (t 20)] [])
 (.ret))
 (.skip)))
 (.seq (.draw (.take (la 21 4 (t 4)) (.take (mv 23 (t 0)) (.take (o 24 (.slx 1 (t 23) (some (k 6)) none)) (.alt (o 22 (.mkSl false 5 0 [] [])) false
 (.alt (o 25 (.app 5 1 1 [(u 0)] (t 22) (t 24))) true
  (.take (o 26 (.build [(i 0),(i 0),(i 0),(i 0),sn] [(0,4,(t 21)),(4,1,(t 25))])) (.alt (o 6 (.alloc 78 [(i 0),(i 0),(i 0),(i 0),sn])) false
  (.alt (st 5 (t 6) (t 26)) false
   (.done)
   (.none))
  (.none)))
  (.alt (o 6 (.alloc 78 [(i 0),(i 0),(i 0),(i 0),sn])) false
  (.alt (o 25 (.app 5 1 1 [(u 0)] (t 22) (t 24))) true
   (.take (o 26 (.build [(i 0),(i 0),(i 0),(i 0),sn] [(0,4,(t 21)),(4,1,(t 25))])) (.alt (st 5 (t 6) (t 26)) false
   (.done)
   (.none)))
   (.none))
  (.none)))
 (.alt (o 6 (.alloc 78 [(i 0),(i 0),(i 0),(i 0),sn])) false
  (.alt (o 22 (.mkSl false 5 0 [] [])) false
  (.alt (o 25 (.app 5 1 1 [(u 0)] (t 22) (t 24))) true
   (.take (o 26 (.build [(i 0),(i 0),(i 0),(i 0),sn] [(0,4,(t 21)),(4,1,(t 25))])) (.alt (st 5 (t 6) (t 26)) false
   (.done)
   (.none)))
   (.none))
  (.none))
  (.none)))))) [])
 (.seq (.seq (.ops [la 27 5 (t 6),
 ca 28 F.zdv [(t 27)],
 o 29 (.ibin .neq (t 28) (k 0))] [])
 (.cond (t 29)
 (.seq (.ops [o 30 (.build [(i 0),(i 0),(i 0),(i 0),sn] []),
 st 5 (t 2) (t 30),
 mv 3 (k 2)] [])
 (.ret))
 (.skip)))
 (.seq (.ops [la 31 5 (t 6),
 st 5 (t 2) (t 31),
 mv 3 (k 0)] [])
 (.ret)))))))
def zqo:List zd:=[.cell true 5 2,.tmp 3]
theorem zFU {args:List Value} {M:Mem} {R:Value→Mem→Prop} (hn:args.length≤32) (h:zi Tryz.prog zqn zqo args M R):CallsM Tryz.prog F.znP args M R:=
 zf (kf:=fun _=>[]) Tryz.func143 (by kernel_rfl) (by kernel_rfl) hn (by kernel_rfl) h
def zny:RCode:=
 .seq (.ops [o 2 (.alloc 37 [(i 0),(i 0),(i 0),(i 0)]),
 mv 3 (k 0)] [])
 (.seq (.seq (.ops [mv 9 (t 0),
 o 10 (.len (t 9)),
 o 11 (.ibin .neq (t 10) (k 6))] [])
 (.cond (t 11)
 (.seq (.ops [o 12 (.build [(i 0),(i 0),(i 0),(i 0)] []),
 st 4 (t 2) (t 12),
 mv 3 (k 2)] [])
 (.ret))
 (.skip)))
 (.seq (.ops [mv 14 (t 0),
 ca 15 F.zbw [(t 14),(k 2),(k 2)],
 mv 13 (t 15),
 ex 16 (t 13) 0,
 ex 17 (t 13) 1,
 mv 4 (t 16),
 mv 5 (t 17)] [])
 (.seq (.ops [mv 19 (t 0),
 ca 20 F.zbw [(t 19),(k 4),(k 2)],
 mv 18 (t 20),
 ex 21 (t 18) 0,
 ex 22 (t 18) 1,
 mv 6 (t 21),
 mv 7 (t 22)] [])
 (.seq (.draw (.take (mv 23 (t 0)) (.take (o 24 (.iaddr 1 (t 23) (k 0))) (.take (l1 25 (t 24)) (.take (o 26 (.conv .i64 (t 25))) (.take (mv 27 (t 0)) (.take (o 28 (.iaddr 1 (t 27) (k 1))) (.take (l1 29 (t 28)) (.take (o 30 (.conv .i64 (t 29))) (.take (mv 31 (t 4)) (.take (o 32 (.conv .i64 (t 31))) (.take (mv 33 (t 6)) (.take (o 34 (.conv .i64 (t 33))) (.take (o 35 (.build [(i 0),(i 0),(i 0),(i 0)] [(0,1,(t 26)),(1,1,(t 30)),(2,1,(t 32)),(3,1,(t 34))])) (.alt (o 8 (.alloc 37 [(i 0),(i 0),(i 0),(i 0)])) false
 (.alt (st 4 (t 8) (t 35)) false
  (.done)
  (.none))
 (.none))))))))))))))) [])
 (.seq (.seq (.ops [la 36 4 (t 8),
 ca 37 F.zbu [(t 36)],
 o 38 (.ibin .neq (t 37) (k 0))] [])
 (.cond (t 38)
 (.seq (.ops [o 39 (.build [(i 0),(i 0),(i 0),(i 0)] []),
 st 4 (t 2) (t 39),
 mv 3 (k 2)] [])
 (.ret))
 (.skip)))
 (.seq (.ops [la 40 4 (t 8),
 st 4 (t 2) (t 40),
 mv 3 (k 0)] [])
 (.ret)))))))
def znz:List zd:=[.cell true 4 2,.tmp 3]
theorem zCT {args:List Value} {M:Mem} {R:Value→Mem→Prop} (hn:args.length≤41) (h:zi Tryz.prog zny znz args M R):CallsM Tryz.prog F.zkl args M R:=
 zf (kf:=fun _=>[]) Tryz.func144 (by kernel_rfl) (by kernel_rfl) hn (by kernel_rfl) h
def znA:RCode:=
 .seq (.ops [o 1 (.box 115 (t 0)),
 mv 2 (k 0)] [])
 (.seq (.ops [o 8 (.build [(i 0),(i 0),(i 0),(i 0),sn] []),
 o 3 (.alloc 78 [(i 0),(i 0),(i 0),(i 0),sn]),
 st 5 (t 3) (t 8)] [])
 (.seq (.seq (.ops [fa 9 1 (t 1),
 l1 10 (t 9),
 o 11 (.ibin .lss (t 10) (k 0)),
 os 12 (.mov (t 11)),
 gf 12 13 (.faddr 1 (t 1)),
 gf 12 14 (.load false 1 (t 13)),
 gf 12 15 (.ibin .gtr (t 14) (k 65535)),
 o 16 (.pick (t 12) (kb true) (t 15))] [])
 (.cond (t 16)
 (.seq (.ops [mv 2 (k 1)] [])
 (.ret))
 (.skip)))
 (.seq (.seq (.ops [fa 17 0 (t 1),
 l1 18 (t 17)] [])
 (.block 0 (.seq (.ops [o 20 (.ibin .eql (t 18) (k 1)),
 mv 19 (t 20)] [])
 (.cond (t 19)
 (.seq (.seq (.ops [fa 21 2 (t 1),
 la 22 5 (t 21),
 ca 23 F.zdv [(t 22)],
 mv 4 (t 23)] [])
 (.seq (.ops [mv 24 (t 4),
 o 25 (.ibin .neq (t 24) (k 0))] [])
 (.cond (t 25)
  (.seq (.ops [mv 26 (t 4),
  mv 2 (t 26)] [])
  (.ret))
  (.skip))))
 (.ops [fa 27 2 (t 1),
 la 28 5 (t 27),
 st 5 (t 3) (t 28)] []))
 (.seq (.seq (.ops [o 30 (.ibin .eql (t 18) (k 2)),
 mv 29 (t 30)] [])
 (.cond (t 29)
  (.skip)
  (.ops [o 31 (.ibin .eql (t 18) (k 3)),
  mv 29 (t 31)] [])))
 (.cond (t 29)
  (.seq (.seq (.ops [fa 32 2 (t 1),
  fa 33 0 (t 32),
  la 34 4 (t 33),
  ca 35 F.zbu [(t 34)],
  mv 5 (t 35)] [])
  (.seq (.ops [mv 36 (t 5),
  o 37 (.ibin .neq (t 36) (k 0))] [])
  (.cond (t 37)
  (.seq (.ops [mv 38 (t 5),
  mv 2 (t 38)] [])
  (.ret))
  (.skip))))
  (.ops [fa 39 2 (t 1),
  fa 40 0 (t 39),
  la 41 4 (t 40),
  fa 42 0 (t 3),
  st 4 (t 42) (t 41)] []))
  (.seq (.ops [o 44 (.ibin .eql (t 18) (k 4)),
  mv 43 (t 44)] [])
  (.cond (t 43)
  (.seq (.seq (.ops [fa 45 7 (t 1),
  l1 46 (t 45),
  o 47 (.len (t 46)),
  o 48 (.ibin .neq (t 47) (k 64)),
  os 49 (.mov (t 48)),
  gf 49 50 (.faddr 1 (t 1)),
  gf 49 51 (.load false 1 (t 50)),
  gf 49 52 (.ibin .neq (t 51) (k 0)),
  o 53 (.pick (t 49) (kb true) (t 52))] [])
  (.cond (t 53)
   (.seq (.ops [mv 2 (k 2)] [])
   (.ret))
   (.skip)))
  (.seq (.ops [fa 54 7 (t 1),
  l1 55 (t 54),
  o 56 (.len (t 55)),
  mv 57 (k 0)] [])
  (.block 1 (.loop (.seq (.ops [o 58 (.ibin .lss (t 57) (t 56))] [])
   (.seq (.cond (t 58)
   (.skip)
   (.exit 1))
   (.seq (.block 2 (.seq (.ops [o 59 (.iaddr 1 (t 55) (t 57)),
   l1 60 (t 59),
   mv 7 (t 60)] [])
   (.seq (.ops [mv 61 (t 7),
   o 62 (.ibin .lss (t 61) (k 0)),
   os 63 (.mov (t 62)),
   gf 63 64 (.mov (t 7)),
   gf 63 65 (.ibin .gtr (t 64) (k 16)),
   o 66 (.pick (t 63) (kb true) (t 65))] [])
   (.cond (t 66)
   (.seq (.ops [mv 2 (k 2)] [])
   (.ret))
   (.skip)))))
   (.ops [ad 67 (t 57) (k 1),
   mv 57 (t 67)] []))))))))
  (.seq (.ops [mv 2 (k 1)] [])
  (.ret))))))))))
 (.seq (.seq (.ops [fa 68 2 (t 1),
 la 69 5 (t 68),
 la 70 5 (t 3),
 ca 71 F.zr2 [(t 69),(t 70)],
 o 72 (.not (t 71)),
 os 73 (.mov (t 72)),
 gf 73 74 (.faddr 0 (t 1)),
 gf 73 75 (.load false 1 (t 74)),
 gf 73 76 (.ibin .neq (t 75) (k 4)),
 ⟨(some 77),.mov (t 76),some (73,false),true⟩,
 gt 77 78 (.faddr 7 (t 1)),
 gt 77 79 (.load false 1 (t 78)),
 gt 77 80 (.len (t 79)),
 gt 77 81 (.ibin .gtr (t 80) (k 0)),
 gf 73 82 (.pick (t 77) (t 81) (kb false)),
 o 83 (.pick (t 73) (kb true) (t 82))] [])
 (.cond (t 83)
 (.seq (.ops [mv 2 (k 2)] [])
 (.ret))
 (.skip)))
 (.seq (.ops [mv 2 (k 0)] [])
 (.ret))))))
def znB:List zd:=[.tmp 2]
theorem zCU {args:List Value} {M:Mem} {R:Value→Mem→Prop} (hn:args.length≤84) (h:zi Tryz.prog znA znB args M R):CallsM Tryz.prog F.znr args M R:=
 zf (kf:=fun _=>[]) Tryz.func145 (by kernel_rfl) (by kernel_rfl) hn (by kernel_rfl) h
def zcm:RCode:=
 .seq (.ops [o 3 (.box 37 (t 1)),
 mv 4 (kb false)] [])
 (.seq (.draw (.take (mv 5 (t 0)) (.take (o 6 (.pnil .neq (t 5) (.const (.pointer none)))) (.take (os 7 (.mov (t 6))) (.take (gt 7 8 (.load true 4 (t 3))) (.alt (gt 7 9 (.call (fn F.zbu) [(t 8)])) true
 (.take (gt 7 10 (.ibin .eql (t 9) (k 0))) (.take (o 11 (.pick (t 7) (t 10) (kb false))) (.take (os 12 (.mov (t 11))) (.take (gt 12 13 (.mov (t 0))) (.take (gt 12 14 (.nilck (t 13))) (.take (gt 12 15 (.faddr 0 (t 14))) (.take (gt 12 16 (.faddr 0 (t 15))) (.take (gt 12 17 (.load false 1 (t 16))) (.take (gt 12 18 (.load true 4 (t 3))) (.alt (gt 12 19 (.call (fn F.ziE) [(t 17),(t 18)])) false
  (.take (o 20 (.pick (t 12) (t 19) (kb false))) (.take (mv 4 (t 20)) (.done)))
  (.none)))))))))))
 (.none)))))) [])
 (.ret))
def zcn:List zd:=[.tmp 4]
theorem zpQ {args:List Value} {M:Mem} {R:Value→Mem→Prop} (hn:args.length≤21) (h:zi Tryz.prog zcm zcn args M R):CallsM Tryz.prog F.zfb args M R:=
 zf (kf:=fun _=>[]) Tryz.func146 (by kernel_rfl) (by kernel_rfl) hn (by kernel_rfl) h
def zbo:RCode:=
 .seq (.ops [o 3 (.box 37 (t 1)),
 mv 4 (k 0)] [])
 (.seq (.ops [mv 5 (t 0),
 la 6 4 (t 3),
 o 7 (.build [(i 0),(i 0),(i 0),(i 0),sn] [(0,4,(t 6))]),
 o 8 (.build [(i 0),(i 0),(i 0),(i 0),(i 0),sn] [(0,1,(k 4)),(1,5,(t 7))]),
 ca 9 F.zar [(t 5),(t 8),(kb true)],
 mv 4 (t 9)] [])
 (.ret))
def zbp:List zd:=[.tmp 4]
theorem zoa {args:List Value} {M:Mem} {R:Value→Mem→Prop} (hn:args.length≤10) (h:zi Tryz.prog zbo zbp args M R):CallsM Tryz.prog F.zde args M R:=
 zf (kf:=fun _=>[]) Tryz.func147 (by kernel_rfl) (by kernel_rfl) hn (by kernel_rfl) h
def zqP:RCode:=
 .seq (.ops [o 3 (.box 37 (t 1)),
 o 4 (.alloc 78 [(i 0),(i 0),(i 0),(i 0),sn]),
 mv 5 (kb false)] [])
 (.seq (.seq (.ops [mv 6 (t 0),
 o 7 (.pnil .eql (t 6) (.const (.pointer none)))] [])
 (.cond (t 7)
 (.seq (.ops [o 8 (.build [(i 0),(i 0),(i 0),(i 0),sn] []),
 st 5 (t 4) (t 8),
 mv 5 (kb false)] [])
 (.ret))
 (.skip)))
 (.seq (.draw (.take (mv 9 (t 0)) (.take (o 10 (.nilck (t 9))) (.take (fa 11 0 (t 10)) (.take (fa 12 0 (t 11)) (.take (l1 13 (t 12)) (.take (la 14 4 (t 3)) (.alt (ca 15 F.ztL [(t 13),(t 14)]) false
 (.take (ex 16 (t 15) 0) (.take (ex 17 (t 15) 1) (.alt (st 5 (t 4) (t 16)) false
  (.take (mv 5 (t 17)) (.done))
  (.none))))
 (.none)))))))) [])
 (.ret)))
def zqQ:List zd:=[.cell true 5 4,.tmp 5]
def zqR:RCode:=
 .seq (.ops [o 3 (.box 78 (t 1)),
 mv 4 (k 0)] [])
 (.seq (.ops [mv 5 (t 0),
 la 6 5 (t 3),
 o 7 (.build [(i 0),(i 0),(i 0),(i 0),(i 0),sn] [(0,1,(k 2)),(1,5,(t 6))]),
 ca 8 F.zar [(t 5),(t 7),(kb true)],
 mv 4 (t 8)] [])
 (.ret))
def zqS:List zd:=[.tmp 4]
def zA1:RCode:=
 .seq (.ops [o 3 (.box 37 (t 1)),
 mv 4 (kb false)] [])
 (.seq (.seq (.ops [mv 7 (t 0),
 o 8 (.pnil .eql (t 7) (.const (.pointer none)))] [])
 (.cond (t 8)
 (.seq (.ops [mv 4 (kb false)] [])
 (.ret))
 (.skip)))
 (.seq (.draw (.take (mv 10 (t 0)) (.take (o 11 (.nilck (t 10))) (.take (fa 12 2 (t 11)) (.take (l1 13 (t 12)) (.take (la 14 4 (t 3)) (.take (o 15 (.mget (.agg 4) true (.agg #[(i 0),(i 0),(i 0),(i 0)]) (t 13) (t 14))) (.take (mv 9 (t 15)) (.take (ex 16 (t 9) 0) (.take (ex 17 (t 9) 1) (.alt (o 5 (.alloc 190 [(i 0),(i 0),(i 0),(i 0)])) false
 (.alt (st 4 (t 5) (t 16)) false
  (.take (mv 6 (t 17)) (.done))
  (.none))
 (.none))))))))))) [])
 (.seq (.ops [mv 18 (t 6),
 os 19 (.mov (t 18)),
 gt 19 20 (.faddr 3 (t 5)),
 gt 19 21 (.load false 1 (t 20)),
 gt 19 22 (.ibin .eql (t 21) (k 0)),
 o 23 (.pick (t 19) (t 22) (kb false)),
 mv 4 (t 23)] [])
 (.ret))))
def zA2:List zd:=[.tmp 4]
def zk3:RCode:=
 .seq (.ops [o 5 (.box 37 (t 2)),
 mv 6 (kb false)] [])
 (.seq (.seq (.ops [mv 9 (t 0),
 o 10 (.pnil .eql (t 9) (.const (.pointer none)))] [])
 (.cond (t 10)
 (.seq (.ops [mv 6 (kb false)] [])
 (.ret))
 (.skip)))
 (.seq (.draw (.take (mv 12 (t 0)) (.take (o 13 (.nilck (t 12))) (.take (fa 14 2 (t 13)) (.take (l1 15 (t 14)) (.take (la 16 4 (t 5)) (.take (o 17 (.mget (.agg 4) true (.agg #[(i 0),(i 0),(i 0),(i 0)]) (t 15) (t 16))) (.take (mv 11 (t 17)) (.take (ex 18 (t 11) 0) (.take (ex 19 (t 11) 1) (.alt (o 7 (.alloc 190 [(i 0),(i 0),(i 0),(i 0)])) false
 (.alt (st 4 (t 7) (t 18)) false
  (.take (mv 8 (t 19)) (.done))
  (.none))
 (.none))))))))))) [])
 (.seq (.ops [mv 20 (t 8),
 os 21 (.mov (t 20)),
 gt 21 22 (.faddr 3 (t 7)),
 gt 21 23 (.load false 1 (t 22)),
 gt 21 24 (.ibin .eql (t 23) (k 0)),
 o 25 (.pick (t 21) (t 24) (kb false)),
 os 26 (.mov (t 25)),
 gt 26 27 (.faddr 0 (t 7)),
 gt 26 28 (.load false 1 (t 27)),
 gt 26 29 (.mov (t 1)),
 gt 26 30 (.ibin .eql (t 28) (t 29)),
 o 31 (.pick (t 26) (t 30) (kb false)),
 mv 6 (t 31)] [])
 (.ret))))
def zk4:List zd:=[.tmp 6]
theorem zzH {args:List Value} {M:Mem} {R:Value→Mem→Prop} (hn:args.length≤32) (h:zi Tryz.prog zk3 zk4 args M R):CallsM Tryz.prog F.zhr args M R:=
 zf (kf:=fun _=>[]) Tryz.func151 (by kernel_rfl) (by kernel_rfl) hn (by kernel_rfl) h
def za9:RCode:=
 .seq (.ops [mv 8 (kb true)] [])
 (.seq (.ops [mv 9 (kb true)] [])
 (.block 0 (.loop (.block 1 (.seq (.ops [mv 19 (t 2),
 mv 20 (t 1),
 o 21 (.ibin .sub (t 19) (t 20)),
 mv 10 (t 21)] [])
 (.seq (.seq (.ops [mv 22 (t 10),
 o 23 (.ibin .leq (t 22) (k 12))] [])
 (.cond (t 23)
  (.seq (.ops [mv 24 (t 0),
  mv 25 (t 1),
  mv 26 (t 2),
  ca 27 F.zbf [(t 24),(t 25),(t 26)]] [])
  (.ret))
  (.skip)))
 (.seq (.seq (.ops [mv 28 (t 3),
 o 29 (.ibin .eql (t 28) (k 0))] [])
 (.cond (t 29)
  (.seq (.ops [mv 30 (t 0),
  mv 31 (t 1),
  mv 32 (t 2),
  ca 33 F.zm6 [(t 30),(t 31),(t 32)]] [])
  (.ret))
  (.skip)))
 (.seq (.seq (.ops [mv 34 (t 8),
 o 35 (.not (t 34))] [])
 (.cond (t 35)
  (.seq (.ops [mv 36 (t 0),
  mv 37 (t 1),
  mv 38 (t 2),
  ca 39 F.zko [(t 36),(t 37),(t 38)]] [])
  (.ops [mv 40 (t 3),
  o 41 (.ibin .sub (t 40) (k 1)),
  mv 3 (t 41)] []))
  (.skip)))
 (.seq (.ops [mv 43 (t 0),
 mv 44 (t 1),
 mv 45 (t 2),
 ca 46 F.zlD [(t 43),(t 44),(t 45)],
 mv 42 (t 46),
 ex 47 (t 42) 0,
 ex 48 (t 42) 1,
 mv 11 (t 47),
 mv 12 (t 48)] [])
 (.seq (.seq (.ops [mv 49 (t 12),
 o 50 (.ibin .eql (t 49) (k 2))] [])
 (.cond (t 50)
  (.seq (.ops [mv 51 (t 0),
  mv 52 (t 1),
  mv 53 (t 2),
  ca 54 F.zlh [(t 51),(t 52),(t 53)]] [])
  (.seq (.ops [mv 55 (t 2),
  o 56 (.ibin .sub (t 55) (k 1)),
  mv 57 (t 11),
  mv 58 (t 1),
  o 59 (.ibin .sub (t 57) (t 58)),
  o 60 (.ibin .sub (t 56) (t 59)),
  mv 11 (t 60)] [])
  (.ops [mv 12 (k 1)] [])))
  (.skip)))
 (.seq (.seq (.ops [mv 61 (t 8),
 os 62 (.mov (t 61)),
 gt 62 63 (.mov (t 9)),
 o 64 (.pick (t 62) (t 63) (kb false)),
 os 65 (.mov (t 64)),
 gt 65 66 (.mov (t 12)),
 gt 65 67 (.ibin .eql (t 66) (k 1)),
 o 68 (.pick (t 65) (t 67) (kb false))] [])
 (.cond (t 68)
  (.seq (.ops [mv 69 (t 0),
  mv 70 (t 1),
  mv 71 (t 2),
  ca 72 F.zgx [(t 69),(t 70),(t 71)]] [])
  (.cond (t 72)
  (.ret)
  (.skip)))
  (.skip)))
 (.seq (.seq (.draw (.take (mv 73 (t 1)) (.take (o 74 (.ibin .gtr (t 73) (k 0))) (.take (os 75 (.mov (t 74))) (.take (gt 75 76 (.mov (t 0))) (.take (gt 75 77 (.mov (t 1))) (.take (gt 75 78 (.ibin .sub (t 77) (k 1))) (.take (gt 75 79 (.iaddr 1 (t 76) (t 78))) (.take (gt 75 80 (.load false 1 (t 79))) (.take (gt 75 81 (.mov (t 0))) (.take (gt 75 82 (.mov (t 11))) (.take (gt 75 83 (.iaddr 1 (t 81) (t 82))) (.take (gt 75 84 (.load false 1 (t 83))) (.alt (gt 75 85 (.call (fn F.zK) [(t 80),(t 84)])) false
  (.take (gt 75 86 (.not (t 85))) (.take (o 87 (.pick (t 75) (t 86) (kb false))) (.done)))
  (.none)))))))))))))) [])
 (.cond (t 87)
  (.seq (.ops [mv 88 (t 0),
  mv 89 (t 1),
  mv 90 (t 2),
  mv 91 (t 11),
  ca 92 F.zjW [(t 88),(t 89),(t 90),(t 91)],
  mv 13 (t 92)] [])
  (.seq (.ops [mv 93 (t 13),
  mv 1 (t 93)] [])
  (.exit 1)))
  (.skip)))
 (.seq (.ops [mv 95 (t 0),
 mv 96 (t 1),
 mv 97 (t 2),
 mv 98 (t 11),
 ca 99 F.zmK [(t 95),(t 96),(t 97),(t 98)],
 mv 94 (t 99),
 ex 100 (t 94) 0,
 ex 101 (t 94) 1,
 mv 14 (t 100),
 mv 15 (t 101)] [])
 (.seq (.ops [mv 102 (t 15),
 mv 9 (t 102)] [])
 (.seq (.ops [mv 103 (t 14),
 mv 104 (t 1),
 o 105 (.ibin .sub (t 103) (t 104)),
 mv 106 (t 2),
 mv 107 (t 14),
 o 108 (.ibin .sub (t 106) (t 107)),
 mv 16 (t 105),
 mv 17 (t 108)] [])
 (.seq (.ops [mv 109 (t 10),
 o 110 (.ibin .quo (t 109) (k 8)),
 mv 18 (t 110)] [])
 (.seq (.ops [mv 111 (t 16),
 mv 112 (t 17),
 o 113 (.ibin .lss (t 111) (t 112))] [])
 (.cond (t 113)
  (.seq (.ops [mv 114 (t 16),
  mv 115 (t 18),
  o 116 (.ibin .geq (t 114) (t 115)),
  mv 8 (t 116)] [])
  (.seq (.ops [mv 117 (t 0),
  mv 118 (t 1),
  mv 119 (t 14),
  mv 120 (t 3),
  ca 121 F.zay [(t 117),(t 118),(t 119),(t 120)]] [])
  (.ops [mv 122 (t 14),
  ad 123 (t 122) (k 1),
  mv 1 (t 123)] [])))
  (.seq (.ops [mv 124 (t 17),
  mv 125 (t 18),
  o 126 (.ibin .geq (t 124) (t 125)),
  mv 8 (t 126)] [])
  (.seq (.ops [mv 127 (t 0),
  mv 128 (t 14),
  ad 129 (t 128) (k 1),
  mv 130 (t 2),
  mv 131 (t 3),
  ca 132 F.zay [(t 127),(t 129),(t 130),(t 131)]] [])
  (.ops [mv 133 (t 14),
  mv 2 (t 133)] [])))))))))))))))))))))
def zba:List zd:=[]
theorem znh {args:List Value} {M:Mem} {R:Value→Mem→Prop} (hn:args.length≤134) (h:zi Tryz.prog za9 zba args M R):CallsM Tryz.prog F.zay args M R:=
 zf (kf:=fun _=>[]) Tryz.func152 (by kernel_rfl) (by kernel_rfl) hn (by kernel_rfl) h
def zh9:RCode:=
 .seq (.ops [mv 2 (k 0)] [])
 (.seq (.cond (kb false)
 (.seq (.ops [mv 3 (t 0),
 o 4 (.conv .u32 (t 3)),
 ca 5 F.zu2 [(t 4)],
 mv 2 (t 5)] [])
 (.ret))
 (.skip))
 (.seq (.ops [mv 6 (t 0),
 ca 7 F.zjX [(t 6)],
 mv 2 (t 7)] [])
 (.ret)))
def zia:List zd:=[.tmp 2]
theorem zwW {args:List Value} {M:Mem} {R:Value→Mem→Prop} (hn:args.length≤8) (h:zi Tryz.prog zh9 zia args M R):CallsM Tryz.prog F.za8 args M R:=
 zf (kf:=fun _=>[]) Tryz.func153 (by kernel_rfl) (by kernel_rfl) hn (by kernel_rfl) h
def zA3:RCode:=
 .seq (.ops [o 2 (.box 3 (t 0)),
 o 3 (.box 3 (t 1)),
 mv 4 (.const .nilFunc)] [])
 (.seq (.ops [o 5 (.mkfn F.zhU [(t 3),(t 2)]),
 mv 4 (t 5)] [])
 (.ret))
def zA4:List zd:=[.tmp 4]
def znC:RCode:=
 .seq (.ops [mv 6 (kb false)] [])
 (.seq (.ops [mv 7 (t 0),
 mv 8 (t 2),
 ca 9 F.zdC [(t 7),(t 8)],
 mv 10 (t 1),
 o 11 (.ibin .lss (t 9) (t 10)),
 mv 6 (t 11)] [])
 (.ret))
def znD:List zd:=[.tmp 6]
theorem zCV {args:List Value} {M:Mem} {R:Value→Mem→Prop} (hn:args.length≤12) (h:zi Tryz.prog znC znD args M R):CallsM Tryz.prog F.zns args M R:=
 zf (kf:=fun _=>[]) Tryz.func155 (by kernel_rfl) (by kernel_rfl) hn (by kernel_rfl) h
def zmw:RCode:=
 .seq (.ops [mv 4 (k 0)] [])
 (.seq (.ops [mv 5 (t 1),
 ca 6 F.zF [(t 5)],
 mv 7 (t 0),
 ca 8 F.zF [(t 7)],
 o 9 (.ibin .sub (t 6) (t 8)),
 ca 10 F.zF [(t 9)],
 mv 4 (t 10)] [])
 (.ret))
def zmx:List zd:=[.tmp 4]
theorem zA5 {args:List Value} {M:Mem} {R:Value→Mem→Prop} (hn:args.length≤11) (h:zi Tryz.prog zmw zmx args M R):CallsM Tryz.prog F.zdC args M R:=
 zf (kf:=fun _=>[]) Tryz.func156 (by kernel_rfl) (by kernel_rfl) hn (by kernel_rfl) h
def znE:RCode:=
 .seq (.ops [o 1 (.box 37 (t 0)),
 mv 2 (.const sn),
 mv 3 (k 0)] [])
 (.seq (.seq (.ops [la 6 4 (t 1),
 ca 7 F.zbu [(t 6)],
 mv 4 (t 7)] [])
 (.seq (.ops [mv 8 (t 4),
 o 9 (.ibin .neq (t 8) (k 0))] [])
 (.cond (t 9)
 (.seq (.ops [mv 10 (t 4),
 mv 2 (.const sn),
 mv 3 (t 10)] [])
 (.ret))
 (.skip))))
 (.seq (.ops [fa 11 0 (t 1),
 l1 12 (t 11),
 o 13 (.conv .u8 (t 12)),
 fa 14 1 (t 1),
 l1 15 (t 14),
 o 16 (.conv .u8 (t 15)),
 o 17 (.mkSl false 5 2 [(u 0),(u 0)] [(0,1,(t 13)),(1,1,(t 16))]),
 mv 5 (t 17)] [])
 (.seq (.ops [mv 19 (t 5),
 fa 20 2 (t 1),
 l1 21 (t 20),
 o 22 (.conv .u64 (t 21)),
 ca 23 F.zbx [(t 19),(t 22),(k 2)],
 mv 18 (t 23),
 ex 24 (t 18) 0,
 ex 25 (t 18) 1,
 mv 5 (t 24)] [])
 (.seq (.ops [mv 27 (t 5),
 fa 28 3 (t 1),
 l1 29 (t 28),
 o 30 (.conv .u64 (t 29)),
 ca 31 F.zbx [(t 27),(t 30),(k 2)],
 mv 26 (t 31),
 ex 32 (t 26) 0,
 ex 33 (t 26) 1,
 mv 5 (t 32)] [])
 (.seq (.ops [mv 34 (t 5),
 mv 2 (t 34),
 mv 3 (k 0)] [])
 (.ret))))))
def znF:List zd:=[.tmp 2,.tmp 3]
theorem zCW {args:List Value} {M:Mem} {R:Value→Mem→Prop} (hn:args.length≤35) (h:zi Tryz.prog znE znF args M R):CallsM Tryz.prog F.zkn args M R:=
 zf (kf:=fun _=>[]) Tryz.func157 (by kernel_rfl) (by kernel_rfl) hn (by kernel_rfl) h
def zdk:RCode:=
 .seq (.ops [mv 4 (k 0)] [])
 (.seq (.block 0 (.seq (.ops [mv 6 (t 0),
 o 7 (.pnil .eql (t 6) (.const (.pointer none))),
 mv 5 (t 7)] [])
 (.cond (t 5)
 (.seq (.ops [mv 4 (k 7)] [])
 (.ret))
 (.seq (.ops [mv 9 (t 1),
 o 10 (.len (t 9)),
 o 11 (.ibin .eql (t 10) (k 0)),
 mv 8 (t 11)] [])
 (.cond (t 8)
  (.seq (.ops [mv 4 (k 2)] [])
  (.ret))
  (.seq (.ops [mv 13 (t 1),
  o 14 (.len (t 13)),
  o 15 (.ibin .gtr (t 14) (k 121)),
  mv 12 (t 15)] [])
  (.cond (t 12)
  (.seq (.ops [mv 4 (k 3)] [])
  (.ret))
  (.seq (.ops [mv 17 (t 0),
  o 18 (.nilck (t 17)),
  fa 19 2 (t 18),
  l1 20 (t 19),
  o 21 (.len (t 20)),
  o 22 (.ibin .geq (t 21) (k 64)),
  mv 16 (t 22)] [])
  (.cond (t 16)
   (.seq (.ops [mv 4 (k 6)] [])
   (.ret))
   (.skip))))))))))
 (.seq (.draw (.take (mv 23 (t 0)) (.take (mv 24 (t 0)) (.take (o 25 (.nilck (t 24))) (.take (fa 26 2 (t 25)) (.take (l1 27 (t 26)) (.take (mv 28 (t 0)) (.take (o 29 (.nilck (t 28))) (.take (fa 30 2 (t 29)) (.take (l1 31 (t 30)) (.take (o 32 (.len (t 31))) (.take (mv 33 (t 0)) (.take (o 34 (.nilck (t 33))) (.take (fa 35 2 (t 34)) (.take (l1 36 (t 35)) (.take (o 37 (.len (t 36))) (.take (o 38 (.slx3 1 (t 27) (k 0) (t 32) (t 37))) (.take (mv 40 (t 1)) (.alt (o 39 (.mkSl false 5 0 [] [])) false
 (.alt (o 41 (.app 5 1 1 [(u 0)] (t 39) (t 40))) true
  (.alt (o 42 (.mkSl true 30 1 [sn] [(0,1,(t 41))])) false
  (.alt (o 43 (.app 30 1 24 [sn] (t 38) (t 42))) false
   (.take (o 44 (.nilck (t 23))) (.take (fa 45 2 (t 44)) (.alt (st 1 (t 45) (t 43)) false
   (.done)
   (.none))))
   (.none))
  (.none))
  (.none))
 (.none))))))))))))))))))) [])
 (.seq (.ops [mv 4 (k 0)] [])
 (.ret))))
def zdl:List zd:=[.tmp 4]
theorem zrx {args:List Value} {M:Mem} {R:Value→Mem→Prop} (hn:args.length≤46) (h:zi Tryz.prog zdk zdl args M R):CallsM Tryz.prog F.zgt args M R:=
 zf (kf:=fun _=>[]) Tryz.func158 (by kernel_rfl) (by kernel_rfl) hn (by kernel_rfl) h
def zg6:RCode:=
 .scope (.seq (.skip)
 (.block 0 (.loop (.seq (.seq (.ops [mv 5 (t 0),
 o 6 (.nilck (t 5)),
 fa 7 2 (t 6),
 l1 8 (t 7),
 os 9 (.mov (t 8)),
 gt 9 10 (.mov (t 0)),
 gt 9 11 (.nilck (t 10)),
 gt 9 12 (.faddr 9 (t 11)),
 gt 9 13 (.load false 1 (t 12)),
 gt 9 14 (.not (t 13)),
 o 15 (.pick (t 9) (t 14) (kb false))] [])
 (.cond (t 15)
  (.skip)
  (.exit 0)))
 (.block 1 (.seq (.ops [mv 17 (t 0),
 o 18 (.nilck (t 17)),
 fa 19 11 (t 18),
 l1 20 (t 19),
 ca 21 F.zgy [(t 20)],
 mv 16 (t 21),
 ex 22 (t 16) 0,
 ex 23 (t 16) 1,
 ex 24 (t 16) 2,
 mv 2 (t 22),
 mv 3 (t 23),
 mv 4 (t 24)] [])
 (.seq (.seq (.ops [mv 25 (t 4),
 o 26 (.not (t 25))] [])
 (.cond (t 26)
  (.exit 0)
  (.skip)))
 (.seq (.ops [mv 27 (t 0),
 mv 28 (t 2),
 mv 29 (t 3),
 ca 30 F.zdz [(t 27),(t 28),(t 29),(kb false)]] [])
 (.seq (.ops [mv 31 (t 0),
 o 32 (.nilck (t 31)),
 fa 33 6 (t 32),
 l1 34 (t 33),
 o 35 (.ibin .eql (t 34) (k 0))] [])
 (.cond (t 35)
  (.ops [mv 36 (t 0),
  mv 37 (t 0),
  o 38 (.nilck (t 37)),
  fa 39 4 (t 38),
  l1 40 (t 39),
  o 41 (.nilck (t 36)),
  fa 42 6 (t 41),
  st 1 (t 42) (t 40)] [])
  (.skip)))))))))))
def zg7:List zd:=[]
theorem zvq {args:List Value} {M:Mem} {R:Value→Mem→Prop} (hn:args.length≤43) (h:zi Tryz.prog zg6 zg7 args M R):CallsM Tryz.prog F.zdD args M R:=
 zf (kf:=fun _=>[]) Tryz.func159 (by kernel_rfl) (by kernel_rfl) hn (by kernel_rfl) h
def zbq:RCode:=
 .seq (.ops [mv 4 (kb false)] [])
 (.seq (.ops [mv 5 (t 0),
 mv 6 (t 1),
 ca 7 F.zfc [(t 5),(t 6)],
 o 8 (.ibin .geq (t 7) (k 0)),
 mv 4 (t 8)] [])
 (.ret))
def zbr:List zd:=[.tmp 4]
theorem zob {args:List Value} {M:Mem} {R:Value→Mem→Prop} (hn:args.length≤9) (h:zi Tryz.prog zbq zbr args M R):CallsM Tryz.prog F.zaJ args M R:=
 zf (kf:=fun _=>[]) Tryz.func160 (by kernel_rfl) (by kernel_rfl) hn (by kernel_rfl) h
def zg8:RCode:=
 .seq (.ops [mv 4 (k 0)] [])
 (.seq (.draw (.take (mv 8 (t 0)) (.take (o 9 (.nilck (t 8))) (.take (fa 10 0 (t 9)) (.take (l1 11 (t 10)) (.take (mv 12 (t 1)) (.alt (ca 13 F.zbi [(t 12)]) true
 (.alt (ca 14 F.zdF [(t 11),(t 13)]) false
  (.take (mv 7 (t 14)) (.take (ex 15 (t 7) 0) (.take (ex 16 (t 7) 1) (.take (mv 5 (t 15)) (.take (mv 6 (t 16)) (.done))))))
  (.none))
 (.none))))))) [])
 (.seq (.seq (.ops [mv 17 (t 6),
 o 18 (.ibin .eql (t 17) (k 9))] [])
 (.cond (t 18)
 (.seq (.draw (.take (mv 19 (t 0)) (.take (o 20 (.nilck (t 19))) (.take (fa 21 0 (t 20)) (.take (l1 22 (t 21)) (.take (mv 23 (t 1)) (.alt (ca 24 F.zbi [(t 23)]) true
  (.alt (ca 25 F.zgv [(t 22),(t 24)]) false
  (.take (mv 4 (t 25)) (.done))
  (.none))
  (.none))))))) [])
 (.ret))
 (.skip)))
 (.seq (.ops [mv 26 (t 5),
 o 27 (.len (t 26)),
 mv 4 (t 27)] [])
 (.ret))))
def zg9:List zd:=[.tmp 4]
theorem zvr {args:List Value} {M:Mem} {R:Value→Mem→Prop} (hn:args.length≤28) (h:zi Tryz.prog zg8 zg9 args M R):CallsM Tryz.prog F.zdE args M R:=
 zf (kf:=fun _=>[]) Tryz.func161 (by kernel_rfl) (by kernel_rfl) hn (by kernel_rfl) h
end Go.Proofs.YtdogcflaekkdkaaGreat
