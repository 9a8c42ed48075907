/- Part of this proof;laid by program. -/
import Derived.Test.YtdgikhhkgnjalaaGreatJ7
set_option linter.unusedVariables false
set_option linter.unusedSimpArgs false
namespace Go.Proofs.YtdgikhhkgnjalaaGreat
open Go.Vm Go.Vm.S
def zyZ:RCode:=
 .seq (.ops [o 1 (.box 24 (t 0)),
 mv 2 (kb false)] [])
 (.seq (.ops [mv 3 (.const (.pointer none))] [])
 (.seq (.ops [mv 4 (t 3),
 la 5 5 (t 1),
 ca 6 F.zaJ [(t 4),(t 5)],
 o 7 (.ibin .eql (t 6) (k 7)),
 os 8 (.mov (t 7)),
 gt 8 9 (.mov (t 3)),
 gt 8 10 (.call (fn F.za5) [(t 9)]),
 gt 8 11 (.len (t 10)),
 gt 8 12 (.ibin .eql (t 11) (k 0)),
 o 13 (.pick (t 8) (t 12) (kb false)),
 os 14 (.mov (t 13)),
 gt 14 15 (.mov (t 3)),
 gt 14 16 (.call (fn F.ze0) [(t 15)]),
 gt 14 17 (.ibin .eql (t 16) (k 0)),
 o 18 (.pick (t 14) (t 17) (kb false)),
 os 19 (.mov (t 18)),
 gt 19 20 (.mov (t 3)),
 gt 19 21 (.call (fn F.zbN) [(t 20)]),
 gt 19 22 (.ibin .eql (t 21) (k 0)),
 o 23 (.pick (t 19) (t 22) (kb false)),
 os 24 (.mov (t 23)),
 gt 24 25 (.mov (t 3)),
 gt 24 26 (.faddr 1 (t 1)),
 gt 24 27 (.load false 1 (t 26)),
 gt 24 28 (.call (fn F.za6) [(t 25),(t 27)]),
 gt 24 29 (.not (t 28)),
 o 30 (.pick (t 24) (t 29) (kb false)),
 os 31 (.mov (t 30)),
 gt 31 32 (.mov (t 3)),
 gt 31 33 (.faddr 1 (t 1)),
 gt 31 34 (.load false 1 (t 33)),
 gt 31 35 (.call (fn F.ze1) [(t 32),(t 34)]),
 gt 31 36 (.build [(i 0),(i 0),sn,sn,sn] []),
 gt 31 37 (.call (fn F.zaQ) [(t 35),(t 36)]),
 o 38 (.pick (t 31) (t 37) (kb false)),
 os 39 (.mov (t 38)),
 gt 39 40 (.mov (t 3)),
 gt 39 41 (.faddr 1 (t 1)),
 gt 39 42 (.load false 1 (t 41)),
 gt 39 43 (.call (fn F.zf5) [(t 40),(t 42)]),
 gt 39 44 (.build [(i 0),(i 0),sn,sn,sn] []),
 gt 39 45 (.call (fn F.zaQ) [(t 43),(t 44)]),
 o 46 (.pick (t 39) (t 45) (kb false)),
 os 47 (.mov (t 46)),
 gt 47 48 (.mov (t 3)),
 gt 47 49 (.faddr 1 (t 1)),
 gt 47 50 (.load false 1 (t 49)),
 gt 47 51 (.faddr 2 (t 1)),
 gt 47 52 (.load false 1 (t 51)),
 gt 47 53 (.call (fn F.zdj) [(t 48),(t 50),(t 52)]),
 gt 47 54 (.len (t 53)),
 gt 47 55 (.ibin .eql (t 54) (k 0)),
 o 56 (.pick (t 47) (t 55) (kb false)),
 os 57 (.mov (t 56)),
 gt 57 58 (.mov (t 3)),
 gt 57 59 (.faddr 1 (t 1)),
 gt 57 60 (.load false 1 (t 59)),
 gt 57 61 (.faddr 2 (t 1)),
 gt 57 62 (.load false 1 (t 61)),
 gt 57 63 (.call (fn F.zf6) [(t 58),(t 60),(t 62)]),
 gt 57 64 (.ibin .eql (t 63) (k 16)),
 o 65 (.pick (t 57) (t 64) (kb false)),
 os 66 (.mov (t 65)),
 gt 66 67 (.call (fn F.zd2) []),
 o 68 (.pick (t 66) (t 67) (kb false)),
 mv 2 (t 68)] [])
 (.ret)))
def zy0:List zd:=[.tmp 2]
def zgk:RCode:=
 .seq (.ops [o 3 (.box 24 (t 1)),
 mv 4 (k 0)] [])
 (.seq (.seq (.ops [mv 6 (t 0),
 o 7 (.pnil .eql (t 6) (.const (.pointer none)))] [])
 (.cond (t 7)
 (.seq (.ops [mv 4 (k 7)] [])
 (.ret))
 (.skip)))
 (.seq (.ops [mv 5 (k 1)] [])
 (.seq (.block 0 (.seq (.ops [fa 9 0 (t 3),
 l1 10 (t 9),
 o 11 (.ibin .eql (t 10) (k 3)),
 mv 8 (t 11)] [])
 (.cond (t 8)
 (.seq (.ops [mv 12 (t 0),
 ca 13 F.zh [(t 12)]] [])
 (.ops [mv 5 (k 0)] []))
 (.seq (.ops [fa 15 0 (t 3),
 l1 16 (t 15),
 o 17 (.ibin .eql (t 16) (k 12)),
 mv 14 (t 17)] [])
 (.cond (t 14)
  (.ops [mv 18 (t 0),
  la 19 5 (t 3),
  ca 20 F.zf7 [(t 18),(t 19)],
  mv 5 (t 20)] [])
  (.seq (.draw (.take (fa 22 1 (t 3)) (.take (l1 23 (t 22)) (.take (o 24 (.ibin .geq (t 23) (k 0))) (.take (os 25 (.mov (t 24))) (.take (gt 25 26 (.faddr 1 (t 3))) (.take (gt 25 27 (.load false 1 (t 26))) (.take (gt 25 28 (.mov (t 0))) (.take (gt 25 29 (.nilck (t 28))) (.take (gt 25 30 (.faddr 12 (t 29))) (.take (gt 25 31 (.load false 1 (t 30))) (.take (gt 25 32 (.len (t 31))) (.take (gt 25 33 (.ibin .lss (t 27) (t 32))) (.take (o 34 (.pick (t 25) (t 33) (kb false))) (.take (mv 21 (t 34)) (.done))))))))))))))) [])
  (.cond (t 21)
  (.ops [mv 35 (t 0),
  la 36 5 (t 3),
  ca 37 F.zf8 [(t 35),(t 36)],
  mv 5 (t 37)] [])
  (.skip))))))))
 (.seq (.ops [mv 38 (t 0),
 o 39 (.nilck (t 38)),
 fa 40 15 (t 39),
 l1 41 (t 40),
 ad 42 (t 41) (k 1),
 o 43 (.nilck (t 38)),
 fa 44 15 (t 43),
 st 1 (t 44) (t 42)] [])
 (.seq (.ops [mv 45 (t 5),
 mv 4 (t 45)] [])
 (.ret))))))
def zgl:List zd:=[.tmp 4]
theorem zva {args:List Value} {M:Mem} {R:Value→Mem→Prop} (hn:args.length≤46) (h:zj Tryz.prog zgk zgl args M R):CallsM Tryz.prog F.zaJ args M R:=
 zf (kf:=fun _=>[]) Tryz.func4 (by kernel_rfl) (by kernel_rfl) hn (by kernel_rfl) h
def zgm:RCode:=
 .seq (.ops [mv 2 (.const sn)] [])
 (.seq (.seq (.ops [mv 6 (t 0),
 o 7 (.pnil .eql (t 6) (.const (.pointer none)))] [])
 (.cond (t 7)
 (.seq (.ops [mv 2 (.const sn)] [])
 (.ret))
 (.skip)))
 (.seq (.ops [mv 3 (.const sn)] [])
 (.seq (.seq (.ops [mv 8 (t 0),
 o 9 (.nilck (t 8)),
 fa 10 14 (t 9),
 l1 11 (t 10),
 o 12 (.len (t 11)),
 mv 13 (k 0)] [])
 (.block 0 (.loop (.seq (.ops [o 14 (.ibin .lss (t 13) (t 12))] [])
 (.seq (.cond (t 14)
  (.skip)
  (.exit 0))
 (.seq (.block 1 (.seq (.ops [o 15 (.iaddr 9 (t 11) (t 13)),
 la 16 9 (t 15),
 o 5 (.alloc 56 [(i 0),(i 0),(i 0),(i 0),(i 0),(i 0),(i 0),sn,(.bool false)]),
 st 9 (t 5) (t 16)] [])
 (.seq (.ops [o 17 (.mkSl false 5 0 [] []),
 fa 18 7 (t 5),
 l1 19 (t 18),
 o 20 (.app 5 1 1 [(u 0)] (t 17) (t 19)),
 fa 21 7 (t 5),
 st 1 (t 21) (t 20)] [])
 (.ops [mv 22 (t 3),
 la 23 9 (t 5),
 o 24 (.mkSl true 56 1 [(i 0),(i 0),(i 0),(i 0),(i 0),(i 0),(i 0),sn,(.bool false)] [(0,9,(t 23))]),
 o 25 (.app 56 9 88 [(i 0),(i 0),(i 0),(i 0),(i 0),(i 0),(i 0),sn,(.bool false)] (t 22) (t 24)),
 mv 3 (t 25)] []))))
 (.ops [ad 26 (t 13) (k 1),
 mv 13 (t 26)] [])))))))
 (.seq (.ops [mv 27 (t 3),
 mv 2 (t 27)] [])
 (.ret)))))
def zgn:List zd:=[.tmp 2]
theorem zvb {args:List Value} {M:Mem} {R:Value→Mem→Prop} (hn:args.length≤28) (h:zj Tryz.prog zgm zgn args M R):CallsM Tryz.prog F.za5 args M R:=
 zf (kf:=fun _=>[]) Tryz.func5 (by kernel_rfl) (by kernel_rfl) hn (by kernel_rfl) h
def zvc:RCode:=
 .seq (.ops [mv 2 (k 0)] [])
 (.seq (.seq (.ops [mv 3 (t 0),
 o 4 (.pnil .eql (t 3) (.const (.pointer none)))] [])
 (.cond (t 4)
 (.seq (.ops [mv 2 (k 0)] [])
 (.ret))
 (.skip)))
 (.seq (.ops [mv 5 (t 0),
 o 6 (.nilck (t 5)),
 fa 7 15 (t 6),
 l1 8 (t 7),
 mv 2 (t 8)] [])
 (.ret)))
def zvd:List zd:=[.tmp 2]
def zxa:RCode:=
 .seq (.ops [mv 2 (k 0)] [])
 (.seq (.seq (.ops [mv 3 (t 0),
 o 4 (.pnil .eql (t 3) (.const (.pointer none)))] [])
 (.cond (t 4)
 (.seq (.ops [mv 2 (k 0)] [])
 (.ret))
 (.skip)))
 (.seq (.ops [mv 5 (t 0),
 o 6 (.nilck (t 5)),
 fa 7 12 (t 6),
 l1 8 (t 7),
 o 9 (.len (t 8)),
 mv 2 (t 9)] [])
 (.ret)))
def zxb:List zd:=[.tmp 2]
def zz4:RCode:=
 .seq (.ops [mv 4 (kb false)] [])
 (.seq (.ops [mv 5 (t 0),
 mv 6 (t 1),
 ca 7 F.zcZ [(t 5),(t 6)],
 os 8 (.mov (t 7)),
 gt 8 9 (.mov (t 0)),
 gt 8 10 (.nilck (t 9)),
 gt 8 11 (.faddr 12 (t 10)),
 gt 8 12 (.load false 1 (t 11)),
 gt 8 13 (.mov (t 1)),
 gt 8 14 (.iaddr 1 (t 12) (t 13)),
 gt 8 15 (.load false 1 (t 14)),
 gt 8 16 (.pnil .neq (t 15) (.const (.pointer none))),
 o 17 (.pick (t 8) (t 16) (kb false)),
 mv 4 (t 17)] [])
 (.ret))
def zz5:List zd:=[.tmp 4]
def ze4:RCode:=
 .seq (.ops [o 2 (.box 37 (t 0)),
 o 3 (.box 37 (t 1)),
 mv 4 (kb false)] [])
 (.seq (.seq (.ops [fa 6 0 (t 2),
 l1 7 (t 6),
 fa 8 0 (t 3),
 l1 9 (t 8),
 o 10 (.ibin .neq (t 7) (t 9)),
 os 11 (.mov (t 10)),
 gf 11 12 (.faddr 1 (t 2)),
 gf 11 13 (.load false 1 (t 12)),
 gf 11 14 (.faddr 1 (t 3)),
 gf 11 15 (.load false 1 (t 14)),
 gf 11 16 (.ibin .neq (t 13) (t 15)),
 o 17 (.pick (t 11) (kb true) (t 16)),
 os 18 (.mov (t 17)),
 gf 18 19 (.faddr 2 (t 2)),
 gf 18 20 (.load false 1 (t 19)),
 gf 18 21 (.len (t 20)),
 gf 18 22 (.faddr 2 (t 3)),
 gf 18 23 (.load false 1 (t 22)),
 gf 18 24 (.len (t 23)),
 gf 18 25 (.ibin .neq (t 21) (t 24)),
 o 26 (.pick (t 18) (kb true) (t 25))] [])
 (.cond (t 26)
 (.seq (.ops [mv 4 (kb false)] [])
 (.ret))
 (.skip)))
 (.seq (.seq (.ops [mv 5 (k 0)] [])
 (.block 0 (.loop (.seq (.seq (.ops [mv 27 (t 5),
 fa 28 2 (t 2),
 l1 29 (t 28),
 o 30 (.len (t 29)),
 o 31 (.ibin .lss (t 27) (t 30))] [])
 (.cond (t 31)
  (.skip)
  (.exit 0)))
 (.seq (.block 1 (.seq (.draw (.take (fa 34 2 (t 2)) (.take (l1 35 (t 34)) (.take (mv 36 (t 5)) (.take (o 37 (.iaddr 2 (t 35) (t 36))) (.take (la 38 2 (t 37)) (.take (fa 39 2 (t 3)) (.take (l1 40 (t 39)) (.take (mv 41 (t 5)) (.take (o 42 (.iaddr 2 (t 40) (t 41))) (.take (la 43 2 (t 42)) (.take (o 44 (.aeq .neq 2 (t 38) (t 43))) (.done)))))))))))) [])
 (.cond (t 44)
  (.seq (.ops [mv 4 (kb false)] [])
  (.ret))
  (.skip))))
 (.ops [mv 32 (t 5),
 ad 33 (t 32) (k 1),
 mv 5 (t 33)] []))))))
 (.seq (.ops [fa 45 3 (t 2),
 l1 46 (t 45),
 fa 47 3 (t 3),
 l1 48 (t 47),
 ca 49 F.zl2 [(t 46),(t 48)],
 os 50 (.mov (t 49)),
 gt 50 51 (.faddr 4 (t 2)),
 gt 50 52 (.load false 1 (t 51)),
 gt 50 53 (.faddr 4 (t 3)),
 gt 50 54 (.load false 1 (t 53)),
 gt 50 55 (.call (fn F.zjO) [(t 52),(t 54)]),
 o 56 (.pick (t 50) (t 55) (kb false)),
 mv 4 (t 56)] [])
 (.ret))))
def ze5:List zd:=[.tmp 4]
theorem ztH {args:List Value} {M:Mem} {R:Value→Mem→Prop} (hn:args.length≤57) (h:zj Tryz.prog ze4 ze5 args M R):CallsM Tryz.prog F.zaQ args M R:=
 zf (kf:=fun _=>[]) Tryz.func9 (by kernel_rfl) (by kernel_rfl) hn (by kernel_rfl) h
def zve:RCode:=
 .seq (.ops [o 4 (.alloc 37 [(i 0),(i 0),sn,sn,sn])] [])
 (.seq (.seq (.ops [mv 5 (t 0),
 mv 6 (t 1),
 ca 7 F.za6 [(t 5),(t 6)],
 o 8 (.not (t 7))] [])
 (.cond (t 8)
 (.seq (.ops [o 9 (.build [(i 0),(i 0),sn,sn,sn] []),
 st 5 (t 4) (t 9)] [])
 (.ret))
 (.skip)))
 (.seq (.ops [mv 10 (t 0),
 o 11 (.nilck (t 10)),
 fa 12 12 (t 11),
 l1 13 (t 12),
 mv 14 (t 1),
 o 15 (.iaddr 1 (t 13) (t 14)),
 l1 16 (t 15),
 ca 17 F.zn2 [(t 16)],
 st 5 (t 4) (t 17)] [])
 (.ret)))
def zvf:List zd:=[.cell true 5 4]
def zxc:RCode:=
 .seq (.ops [o 4 (.alloc 37 [(i 0),(i 0),sn,sn,sn])] [])
 (.seq (.seq (.ops [mv 9 (t 0),
 mv 10 (t 1),
 ca 11 F.zcZ [(t 9),(t 10)],
 o 12 (.not (t 11))] [])
 (.cond (t 12)
 (.seq (.ops [o 13 (.build [(i 0),(i 0),sn,sn,sn] []),
 st 5 (t 4) (t 13)] [])
 (.ret))
 (.skip)))
 (.seq (.ops [mv 14 (t 0),
 o 15 (.nilck (t 14)),
 fa 16 11 (t 15),
 l1 17 (t 16),
 mv 18 (t 1),
 o 19 (.iaddr 1 (t 17) (t 18)),
 l1 20 (t 19),
 ca 21 F.zpb [(t 20)],
 mv 5 (t 21)] [])
 (.seq (.ops [mv 22 (t 5),
 ca 23 F.zjP [(t 22),(.const sn)]] [])
 (.seq (.ops [mv 24 (t 5),
 ca 25 F.zjQ [(t 24),(k 1048576)]] [])
 (.seq (.draw (.take (mv 27 (t 5)) (.take (mv 28 (t 1)) (.take (mv 29 (t 0)) (.take (o 30 (.nilck (t 29))) (.take (fa 31 0 (t 30)) (.take (fa 32 0 (t 31)) (.take (la 33 3 (t 32)) (.take (mv 34 (t 0)) (.take (o 35 (.nilck (t 34))) (.take (fa 36 0 (t 35)) (.take (fa 37 4 (t 36)) (.take (l1 38 (t 37)) (.alt (ca 39 F.zfF [(t 27),(t 28),(t 33),(t 38)]) false
 (.take (mv 26 (t 39)) (.take (ex 40 (t 26) 0) (.take (ex 41 (t 26) 1) (.take (mv 6 (t 40)) (.take (mv 7 (t 41)) (.done))))))
 (.none)))))))))))))) [])
 (.seq (.seq (.ops [mv 42 (t 7),
 o 43 (.ibin .neq (t 42) (k 0))] [])
 (.cond (t 43)
 (.seq (.ops [o 44 (.build [(i 0),(i 0),sn,sn,sn] []),
 st 5 (t 4) (t 44)] [])
 (.ret))
 (.skip)))
 (.seq (.ops [mv 45 (t 6),
 ca 46 F.zal [(t 45)],
 o 8 (.alloc 37 [(i 0),(i 0),sn,sn,sn]),
 st 5 (t 8) (t 46)] [])
 (.seq (.ops [fa 47 1 (t 8),
 l1 48 (t 47),
 o 49 (.ibin .sub (t 48) (k 1)),
 fa 50 1 (t 8),
 st 1 (t 50) (t 49)] [])
 (.seq (.ops [la 51 5 (t 8),
 st 5 (t 4) (t 51)] [])
 (.ret))))))))))
def zxd:List zd:=[.cell true 5 4]
def zsG:RCode:=
 .seq (.ops [mv 6 (.const sn)] [])
 (.seq (.seq (.ops [mv 7 (t 0),
 o 8 (.pnil .eql (t 7) (.const (.pointer none)))] [])
 (.cond (t 8)
 (.seq (.ops [mv 6 (.const sn)] [])
 (.ret))
 (.skip)))
 (.seq (.ops [mv 9 (t 0),
 o 10 (.nilck (t 9)),
 fa 11 13 (t 10),
 l1 12 (t 11),
 mv 13 (t 1),
 mv 14 (t 2),
 o 15 (.build [(i 0),(i 0)] [(0,1,(t 13)),(1,1,(t 14))]),
 o 16 (.mget (.agg 2) false (.pointer none) (t 12) (t 15)),
 ca 17 F.zn3 [(t 16)],
 mv 6 (t 17)] [])
 (.ret)))
def zsH:List zd:=[.tmp 6]
def zxe:RCode:=
 .seq (.ops [mv 6 (k 0)] [])
 (.seq (.seq (.ops [mv 7 (t 0),
 mv 8 (t 1),
 ca 9 F.za6 [(t 7),(t 8)],
 o 10 (.not (t 9))] [])
 (.cond (t 10)
 (.seq (.ops [mv 6 (k 16)] [])
 (.ret))
 (.skip)))
 (.seq (.ops [mv 11 (t 0),
 o 12 (.nilck (t 11)),
 fa 13 12 (t 12),
 l1 14 (t 13),
 mv 15 (t 1),
 o 16 (.iaddr 1 (t 14) (t 15)),
 l1 17 (t 16),
 mv 18 (t 2),
 ca 19 F.zpc [(t 17),(t 18)],
 mv 6 (t 19)] [])
 (.ret)))
def zxf:List zd:=[.tmp 6]
def zkC:RCode:=
 .seq (.ops [mv 0 (kb false)] [])
 (.seq (.ops [ca 5 F.znM [],
 o 1 (.alloc 75 [(i 0),sn,(i 0),(i 0),(i 0),(i 0),(i 0),(i 0),(i 0),(i 0),(i 0),(i 0)]),
 st 12 (t 1) (t 5)] [])
 (.seq (.ops [fa 7 0 (t 1),
 l1 8 (t 7),
 fa 9 1 (t 1),
 l1 10 (t 9),
 fa 11 2 (t 1),
 la 12 10 (t 11),
 ca 13 F.zrM [(t 8),(t 10),(t 12)],
 mv 6 (t 13),
 ex 14 (t 6) 0,
 ex 15 (t 6) 1,
 mv 2 (t 14),
 mv 3 (t 15)] [])
 (.seq (.seq (.ops [mv 16 (t 3),
 o 17 (.ibin .neq (t 16) (k 0)),
 os 18 (.mov (t 17)),
 gf 18 19 (.mov (t 2)),
 gf 18 20 (.pnil .eql (t 19) (.const (.pointer none))),
 o 21 (.pick (t 18) (kb true) (t 20)),
 os 22 (.mov (t 21)),
 gf 22 23 (.mov (t 2)),
 gf 22 24 (.mkSl false 5 1 [(u 0)] [(0,1,(.const (u 120)))]),
 gf 22 25 (.strish (t 24)),
 gf 22 26 (.build [(i 0),(i 0),(i 0),(i 0),sn] [(0,1,(k 1)),(2,1,(k 1)),(4,1,(t 25))]),
 gf 22 27 (.call (fn F.zaJ) [(t 23),(t 26)]),
 gf 22 28 (.ibin .neq (t 27) (k 0)),
 o 29 (.pick (t 22) (kb true) (t 28)),
 os 30 (.mov (t 29)),
 gf 30 31 (.mov (t 2)),
 gf 30 32 (.build [(i 0),(i 0),(i 0),(i 0),sn] [(0,1,(k 12)),(3,1,(k 20))]),
 gf 30 33 (.call (fn F.zaJ) [(t 31),(t 32)]),
 gf 30 34 (.ibin .neq (t 33) (k 0)),
 o 35 (.pick (t 30) (kb true) (t 34))] [])
 (.cond (t 35)
 (.seq (.ops [mv 0 (kb false)] [])
 (.ret))
 (.skip)))
 (.seq (.ops [mv 36 (t 2),
 ca 37 F.za5 [(t 36)],
 mv 4 (t 37)] [])
 (.seq (.ops [mv 38 (t 4),
 o 39 (.len (t 38)),
 o 40 (.ibin .eql (t 39) (k 2)),
 os 41 (.mov (t 40)),
 gt 41 42 (.mov (t 4)),
 gt 41 43 (.iaddr 9 (t 42) (k 0)),
 gt 41 44 (.faddr 8 (t 43)),
 gt 41 45 (.load false 1 (t 44)),
 gt 41 46 (.not (t 45)),
 o 47 (.pick (t 41) (t 46) (kb false)),
 os 48 (.mov (t 47)),
 gt 48 49 (.mov (t 4)),
 gt 48 50 (.iaddr 9 (t 49) (k 1)),
 gt 48 51 (.faddr 8 (t 50)),
 gt 48 52 (.load false 1 (t 51)),
 o 53 (.pick (t 48) (t 52) (kb false)),
 os 54 (.mov (t 53)),
 gt 54 55 (.mov (t 4)),
 gt 54 56 (.iaddr 9 (t 55) (k 1)),
 gt 54 57 (.faddr 1 (t 56)),
 gt 54 58 (.load false 1 (t 57)),
 gt 54 59 (.ibin .eql (t 58) (k 1)),
 o 60 (.pick (t 54) (t 59) (kb false)),
 os 61 (.mov (t 60)),
 gt 61 62 (.mov (t 4)),
 gt 61 63 (.iaddr 9 (t 62) (k 1)),
 gt 61 64 (.faddr 7 (t 63)),
 gt 61 65 (.load false 1 (t 64)),
 gt 61 66 (.strOf (t 65)),
 gt 61 67 (.strE .eql (t 66) (.const (.string ⟨#[120]⟩))),
 o 68 (.pick (t 61) (t 67) (kb false)),
 mv 0 (t 68)] [])
 (.ret))))))
def zkD:List zd:=[.tmp 0]
theorem zz6 {args:List Value} {M:Mem} {R:Value→Mem→Prop} (hn:args.length≤69) (h:zj Tryz.prog zkC zkD args M R):CallsM Tryz.prog F.zd2 args M R:=
 zf (kf:=fun _=>[]) Tryz.func14 (by kernel_rfl) (by kernel_rfl) hn (by kernel_rfl) h
def zgo:RCode:=
 .scope (.seq (.skip)
 (.seq (.ops [mv 6 (t 0),
 ca 7 F.zc3 [(t 6)],
 o 8 (.len (t 7)),
 mv 9 (k 0)] [])
 (.block 0 (.loop (.seq (.ops [o 10 (.ibin .lss (t 9) (t 8))] [])
 (.seq (.cond (t 10)
  (.skip)
  (.exit 0))
 (.seq (.block 1 (.seq (.ops [o 11 (.iaddr 2 (t 7) (t 9)),
 la 12 2 (t 11),
 o 3 (.alloc 71 [(i 0),(i 0)]),
 st 2 (t 3) (t 12)] [])
 (.seq (.draw (.take (mv 13 (t 0)) (.take (o 14 (.nilck (t 13))) (.take (fa 15 13 (t 14)) (.take (l1 16 (t 15)) (.take (la 17 2 (t 3)) (.take (o 18 (.mget (.agg 2) false (.pointer none) (t 16) (t 17))) (.take (mv 4 (t 18)) (.done)))))))) [])
 (.seq (.ops [mv 19 (t 4),
 ca 20 F.zk2 [(t 19)]] [])
 (.seq (.ops [mv 21 (t 4),
 ca 22 F.zk3 [(t 21)],
 mv 5 (t 22)] [])
 (.seq (.seq (.draw (.take (mv 23 (t 5)) (.take (o 24 (.len (t 23))) (.take (o 25 (.ibin .eql (t 24) (k 0))) (.take (os 26 (.mov (t 25))) (.take (gf 26 27 (.mov (t 0))) (.take (gf 26 28 (.nilck (t 27))) (.take (gf 26 29 (.faddr 12 (t 28))) (.take (gf 26 30 (.load false 1 (t 29))) (.take (gf 26 31 (.iaddrA 2 1 (t 3) (k 1))) (.take (gf 26 32 (.load false 1 (t 31))) (.take (gf 26 33 (.iaddr 1 (t 30) (t 32))) (.take (gf 26 34 (.load false 1 (t 33))) (.take (gf 26 35 (.pnil .eql (t 34) (.const (.pointer none)))) (.take (o 36 (.pick (t 26) (kb true) (t 35))) (.done))))))))))))))) [])
 (.cond (t 36)
  (.exit 1)
  (.skip)))
 (.seq (.draw (.take (mv 37 (t 0)) (.take (o 38 (.nilck (t 37))) (.take (fa 39 12 (t 38)) (.take (l1 40 (t 39)) (.take (o 41 (.iaddrA 2 1 (t 3) (k 1))) (.take (l1 42 (t 41)) (.take (o 43 (.iaddr 1 (t 40) (t 42))) (.take (l1 44 (t 43)) (.take (o 45 (.iaddrA 2 1 (t 3) (k 0))) (.take (l1 46 (t 45)) (.take (mv 47 (t 5)) (.alt (ca 48 F.zhI [(t 44),(t 46),(t 47)]) false
  (.done)
  (.none))))))))))))) [])
 (.ops [mv 49 (t 0),
 o 50 (.iaddrA 2 1 (t 3) (k 1)),
 l1 51 (t 50),
 ca 52 F.zaj [(t 49),(t 51)]] []))))))))
 (.ops [ad 53 (t 9) (k 1),
 mv 9 (t 53)] []))))))))
def zgp:List zd:=[]
theorem zvg {args:List Value} {M:Mem} {R:Value→Mem→Prop} (hn:args.length≤54) (h:zj Tryz.prog zgo zgp args M R):CallsM Tryz.prog F.zh args M R:=
 zf (kf:=fun _=>[]) Tryz.func15 (by kernel_rfl) (by kernel_rfl) hn (by kernel_rfl) h
def zgq:RCode:=
 .seq (.ops [o 3 (.box 24 (t 1)),
 mv 4 (k 0)] [])
 (.seq (.seq (.ops [fa 7 3 (t 3),
 l1 8 (t 7),
 o 9 (.ibin .lss (t 8) (k 0)),
 os 10 (.mov (t 9)),
 gf 10 11 (.faddr 3 (t 3)),
 gf 10 12 (.load false 1 (t 11)),
 gf 10 13 (.ibin .gtr (t 12) (k 4096)),
 o 14 (.pick (t 10) (kb true) (t 13))] [])
 (.cond (t 14)
 (.seq (.ops [mv 4 (k 1)] [])
 (.ret))
 (.skip)))
 (.seq (.seq (.ops [fa 15 3 (t 3),
 l1 16 (t 15),
 mv 17 (k 0)] [])
 (.block 0 (.loop (.seq (.ops [o 18 (.ibin .lss (t 17) (t 16))] [])
 (.seq (.cond (t 18)
  (.skip)
  (.exit 0))
 (.seq (.block 1 (.seq (.seq (.ops [mv 19 (t 0),
 o 20 (.nilck (t 19)),
 fa 21 12 (t 20),
 l1 22 (t 21),
 o 23 (.len (t 22)),
 mv 24 (k 0)] [])
 (.block 2 (.loop (.seq (.ops [o 25 (.ibin .lss (t 24) (t 23))] [])
  (.seq (.cond (t 25)
  (.skip)
  (.exit 2))
  (.seq (.block 3 (.seq (.ops [mv 26 (t 24),
  o 27 (.iaddr 1 (t 22) (t 24)),
  l1 28 (t 27),
  mv 5 (t 26),
  mv 6 (t 28)] [])
  (.seq (.ops [mv 29 (t 6),
  o 30 (.pnil .neq (t 29) (.const (.pointer none)))] [])
  (.cond (t 30)
  (.seq (.ops [mv 31 (t 6),
  ca 32 F.zi [(t 31)]] [])
  (.ops [mv 33 (t 0),
  mv 34 (t 5),
  ca 35 F.zaj [(t 33),(t 34)]] []))
  (.skip)))))
  (.ops [ad 36 (t 24) (k 1),
  mv 24 (t 36)] [])))))))
 (.seq (.ops [mv 37 (t 0),
 o 38 (.nilck (t 37)),
 fa 39 0 (t 38),
 fa 40 9 (t 39),
 l1 41 (t 40),
 ad 42 (t 41) (k 2),
 mv 43 (k 0)] [])
 (.block 4 (.loop (.seq (.ops [o 44 (.ibin .lss (t 43) (t 42))] [])
  (.seq (.cond (t 44)
  (.skip)
  (.exit 4))
  (.seq (.block 5 (.ops [mv 45 (t 0),
  ca 46 F.zh [(t 45)]] []))
  (.ops [ad 47 (t 43) (k 1),
  mv 43 (t 47)] [])))))))))
 (.ops [ad 48 (t 17) (k 1),
 mv 17 (t 48)] [])))))))
 (.seq (.ops [mv 4 (k 0)] [])
 (.ret))))
def zgr:List zd:=[.tmp 4]
theorem zvh {args:List Value} {M:Mem} {R:Value→Mem→Prop} (hn:args.length≤49) (h:zj Tryz.prog zgq zgr args M R):CallsM Tryz.prog F.zf7 args M R:=
 zf (kf:=fun _=>[]) Tryz.func16 (by kernel_rfl) (by kernel_rfl) hn (by kernel_rfl) h
def zgs:RCode:=
 .seq (.ops [o 3 (.box 24 (t 1)),
 mv 4 (k 0)] [])
 (.seq (.seq (.ops [fa 5 0 (t 3),
 l1 6 (t 5)] [])
 (.block 0 (.seq (.ops [o 8 (.ibin .eql (t 6) (k 1)),
 mv 7 (t 8)] [])
 (.cond (t 7)
 (.seq (.ops [mv 9 (t 0),
 la 10 5 (t 3),
 ca 11 F.ziF [(t 9),(t 10)],
 mv 4 (t 11)] [])
 (.ret))
 (.seq (.ops [o 13 (.ibin .eql (t 6) (k 2)),
 mv 12 (t 13)] [])
 (.cond (t 12)
  (.seq (.ops [mv 14 (t 0),
  la 15 5 (t 3),
  ca 16 F.zwN [(t 14),(t 15)],
  mv 4 (t 16)] [])
  (.ret))
  (.seq (.seq (.ops [o 18 (.ibin .eql (t 6) (k 4)),
  mv 17 (t 18)] [])
  (.cond (t 17)
  (.skip)
  (.seq (.ops [o 19 (.ibin .eql (t 6) (k 5)),
  mv 17 (t 19)] [])
  (.cond (t 17)
   (.skip)
   (.ops [o 20 (.ibin .eql (t 6) (k 6)),
   mv 17 (t 20)] [])))))
  (.cond (t 17)
  (.seq (.ops [mv 21 (t 0),
  la 22 5 (t 3),
  ca 23 F.zuS [(t 21),(t 22)],
  mv 4 (t 23)] [])
  (.ret))
  (.seq (.ops [o 25 (.ibin .eql (t 6) (k 7)),
  mv 24 (t 25)] [])
  (.cond (t 24)
   (.seq (.ops [mv 26 (t 0),
   la 27 5 (t 3),
   ca 28 F.zuT [(t 26),(t 27)],
   mv 4 (t 28)] [])
   (.ret))
   (.seq (.ops [o 30 (.ibin .eql (t 6) (k 8)),
   mv 29 (t 30)] [])
   (.cond (t 29)
   (.seq (.ops [mv 31 (t 0),
   la 32 5 (t 3),
   ca 33 F.zuU [(t 31),(t 32)],
   mv 4 (t 33)] [])
   (.ret))
   (.seq (.ops [o 35 (.ibin .eql (t 6) (k 9)),
   mv 34 (t 35)] [])
   (.cond (t 34)
    (.seq (.draw (.take (mv 36 (t 0)) (.take (o 37 (.nilck (t 36))) (.take (fa 38 11 (t 37)) (.take (l1 39 (t 38)) (.take (fa 40 1 (t 3)) (.take (l1 41 (t 40)) (.take (o 42 (.iaddr 1 (t 39) (t 41))) (.take (l1 43 (t 42)) (.take (fa 44 3 (t 3)) (.take (l1 45 (t 44)) (.alt (ca 46 F.zjQ [(t 43),(t 45)]) false
    (.take (mv 4 (t 46)) (.done))
    (.none)))))))))))) [])
    (.ret))
    (.seq (.ops [o 48 (.ibin .eql (t 6) (k 10)),
    mv 47 (t 48)] [])
    (.cond (t 47)
    (.seq (.ops [mv 49 (t 0),
    la 50 5 (t 3),
    ca 51 F.zsB [(t 49),(t 50)],
    mv 4 (t 51)] [])
    (.ret))
    (.seq (.ops [o 53 (.ibin .eql (t 6) (k 11)),
    mv 52 (t 53)] [])
    (.cond (t 52)
     (.seq (.draw (.take (mv 54 (t 0)) (.take (o 55 (.nilck (t 54))) (.take (fa 56 11 (t 55)) (.take (l1 57 (t 56)) (.take (fa 58 1 (t 3)) (.take (l1 59 (t 58)) (.take (o 60 (.iaddr 1 (t 57) (t 59))) (.take (l1 61 (t 60)) (.take (fa 62 3 (t 3)) (.take (l1 63 (t 62)) (.alt (ca 64 F.zyJ [(t 61),(t 63)]) false
     (.take (mv 4 (t 64)) (.done))
     (.none)))))))))))) [])
     (.ret))
     (.skip)))))))))))))))))))
 (.seq (.ops [mv 4 (k 1)] [])
 (.ret)))
def zgt:List zd:=[.tmp 4]
theorem zvi {args:List Value} {M:Mem} {R:Value→Mem→Prop} (hn:args.length≤65) (h:zj Tryz.prog zgs zgt args M R):CallsM Tryz.prog F.zf8 args M R:=
 zf (kf:=fun _=>[]) Tryz.func17 (by kernel_rfl) (by kernel_rfl) hn (by kernel_rfl) h
def zz7:RCode:=
 .seq (.ops [mv 4 (kb false)] [])
 (.seq (.ops [mv 5 (t 1),
 o 6 (.ibin .geq (t 5) (k 0)),
 os 7 (.mov (t 6)),
 gt 7 8 (.mov (t 1)),
 gt 7 9 (.mov (t 0)),
 gt 7 10 (.call (fn F.zbN) [(t 9)]),
 gt 7 11 (.ibin .lss (t 8) (t 10)),
 o 12 (.pick (t 7) (t 11) (kb false)),
 mv 4 (t 12)] [])
 (.ret))
def zz8:List zd:=[.tmp 4]
def zh0:RCode:=
 .seq (.ops [mv 4 (kb false)] [])
 (.seq (.seq (.ops [mv 6 (t 0),
 o 7 (.len (t 6)),
 mv 8 (t 1),
 o 9 (.len (t 8)),
 o 10 (.ibin .neq (t 7) (t 9))] [])
 (.cond (t 10)
 (.seq (.ops [mv 4 (kb false)] [])
 (.ret))
 (.skip)))
 (.seq (.seq (.ops [mv 5 (k 0)] [])
 (.block 0 (.loop (.seq (.seq (.ops [mv 11 (t 5),
 mv 12 (t 0),
 o 13 (.len (t 12)),
 o 14 (.ibin .lss (t 11) (t 13))] [])
 (.cond (t 14)
  (.skip)
  (.exit 0)))
 (.seq (.block 1 (.seq (.draw (.take (mv 17 (t 0)) (.take (mv 18 (t 5)) (.take (o 19 (.iaddr 5 (t 17) (t 18))) (.take (la 20 5 (t 19)) (.take (mv 21 (t 1)) (.take (mv 22 (t 5)) (.take (o 23 (.iaddr 5 (t 21) (t 22))) (.take (la 24 5 (t 23)) (.alt (ca 25 F.zpd [(t 20),(t 24)]) false
  (.take (o 26 (.not (t 25))) (.done))
  (.none)))))))))) [])
 (.cond (t 26)
  (.seq (.ops [mv 4 (kb false)] [])
  (.ret))
  (.skip))))
 (.ops [mv 15 (t 5),
 ad 16 (t 15) (k 1),
 mv 5 (t 16)] []))))))
 (.seq (.ops [mv 4 (kb true)] [])
 (.ret))))
def zh1:List zd:=[.tmp 4]
theorem zxg {args:List Value} {M:Mem} {R:Value→Mem→Prop} (hn:args.length≤27) (h:zj Tryz.prog zh0 zh1 args M R):CallsM Tryz.prog F.zl2 args M R:=
 zf (kf:=fun _=>[]) Tryz.func19 (by kernel_rfl) (by kernel_rfl) hn (by kernel_rfl) h
def ze6:RCode:=
 .seq (.ops [mv 4 (kb false)] [])
 (.seq (.seq (.ops [mv 7 (t 0),
 o 8 (.len (t 7)),
 mv 9 (t 1),
 o 10 (.len (t 9)),
 o 11 (.ibin .neq (t 8) (t 10))] [])
 (.cond (t 11)
 (.seq (.ops [mv 4 (kb false)] [])
 (.ret))
 (.skip)))
 (.seq (.seq (.ops [mv 5 (k 0)] [])
 (.block 0 (.loop (.seq (.seq (.ops [mv 12 (t 5),
 mv 13 (t 0),
 o 14 (.len (t 13)),
 o 15 (.ibin .lss (t 12) (t 14))] [])
 (.cond (t 15)
  (.skip)
  (.exit 0)))
 (.seq (.block 1 (.seq (.seq (.draw (.take (mv 18 (t 0)) (.take (mv 19 (t 5)) (.take (o 20 (.iaddr 4 (t 18) (t 19))) (.take (fa 21 0 (t 20)) (.take (l1 22 (t 21)) (.take (mv 23 (t 1)) (.take (mv 24 (t 5)) (.take (o 25 (.iaddr 4 (t 23) (t 24))) (.take (fa 26 0 (t 25)) (.take (l1 27 (t 26)) (.take (o 28 (.ibin .neq (t 22) (t 27))) (.take (os 29 (.mov (t 28))) (.take (gf 29 30 (.mov (t 0))) (.take (gf 29 31 (.mov (t 5))) (.take (gf 29 32 (.iaddr 4 (t 30) (t 31))) (.take (gf 29 33 (.faddr 1 (t 32))) (.take (gf 29 34 (.load false 1 (t 33))) (.take (gf 29 35 (.mov (t 1))) (.take (gf 29 36 (.mov (t 5))) (.take (gf 29 37 (.iaddr 4 (t 35) (t 36))) (.take (gf 29 38 (.faddr 1 (t 37))) (.take (gf 29 39 (.load false 1 (t 38))) (.take (gf 29 40 (.ibin .neq (t 34) (t 39))) (.take (o 41 (.pick (t 29) (kb true) (t 40))) (.take (os 42 (.mov (t 41))) (.take (gf 42 43 (.mov (t 0))) (.take (gf 42 44 (.mov (t 5))) (.take (gf 42 45 (.iaddr 4 (t 43) (t 44))) (.take (gf 42 46 (.faddr 2 (t 45))) (.take (gf 42 47 (.load false 1 (t 46))) (.take (gf 42 48 (.mov (t 1))) (.take (gf 42 49 (.mov (t 5))) (.take (gf 42 50 (.iaddr 4 (t 48) (t 49))) (.take (gf 42 51 (.faddr 2 (t 50))) (.take (gf 42 52 (.load false 1 (t 51))) (.take (gf 42 53 (.ibin .neq (t 47) (t 52))) (.take (o 54 (.pick (t 42) (kb true) (t 53))) (.take (os 55 (.mov (t 54))) (.take (gf 55 56 (.mov (t 0))) (.take (gf 55 57 (.mov (t 5))) (.take (gf 55 58 (.iaddr 4 (t 56) (t 57))) (.take (gf 55 59 (.faddr 3 (t 58))) (.take (gf 55 60 (.load false 1 (t 59))) (.take (gf 55 61 (.len (t 60))) (.take (gf 55 62 (.mov (t 1))) (.take (gf 55 63 (.mov (t 5))) (.take (gf 55 64 (.iaddr 4 (t 62) (t 63))) (.take (gf 55 65 (.faddr 3 (t 64))) (.take (gf 55 66 (.load false 1 (t 65))) (.take (gf 55 67 (.len (t 66))) (.take (gf 55 68 (.ibin .neq (t 61) (t 67))) (.take (o 69 (.pick (t 55) (kb true) (t 68))) (.done))))))))))))))))))))))))))))))))))))))))))))))))))))) [])
 (.cond (t 69)
  (.seq (.ops [mv 4 (kb false)] [])
  (.ret))
  (.skip)))
 (.seq (.ops [mv 6 (k 0)] [])
 (.block 2 (.loop (.seq (.seq (.ops [mv 70 (t 6),
  mv 71 (t 0),
  mv 72 (t 5),
  o 73 (.iaddr 4 (t 71) (t 72)),
  fa 74 3 (t 73),
  l1 75 (t 74),
  o 76 (.len (t 75)),
  o 77 (.ibin .lss (t 70) (t 76))] [])
  (.cond (t 77)
  (.skip)
  (.exit 2)))
  (.seq (.block 3 (.seq (.draw (.take (mv 80 (t 0)) (.take (mv 81 (t 5)) (.take (o 82 (.iaddr 4 (t 80) (t 81))) (.take (fa 83 3 (t 82)) (.take (l1 84 (t 83)) (.take (mv 85 (t 6)) (.take (o 86 (.iaddr 1 (t 84) (t 85))) (.take (l1 87 (t 86)) (.take (mv 88 (t 1)) (.take (mv 89 (t 5)) (.take (o 90 (.iaddr 4 (t 88) (t 89))) (.take (fa 91 3 (t 90)) (.take (l1 92 (t 91)) (.take (mv 93 (t 6)) (.take (o 94 (.iaddr 1 (t 92) (t 93))) (.take (l1 95 (t 94)) (.take (o 96 (.ibin .neq (t 87) (t 95))) (.done)))))))))))))))))) [])
  (.cond (t 96)
  (.seq (.ops [mv 4 (kb false)] [])
  (.ret))
  (.skip))))
  (.ops [mv 78 (t 6),
  ad 79 (t 78) (k 1),
  mv 6 (t 79)] []))))))))
 (.ops [mv 16 (t 5),
 ad 17 (t 16) (k 1),
 mv 5 (t 17)] []))))))
 (.seq (.ops [mv 4 (kb true)] [])
 (.ret))))
def ze7:List zd:=[.tmp 4]
theorem ztI {args:List Value} {M:Mem} {R:Value→Mem→Prop} (hn:args.length≤97) (h:zj Tryz.prog ze6 ze7 args M R):CallsM Tryz.prog F.zjO args M R:=
 zf (kf:=fun _=>[]) Tryz.func20 (by kernel_rfl) (by kernel_rfl) hn (by kernel_rfl) h
def zvj:RCode:=
 .seq (.ops [o 2 (.alloc 37 [(i 0),(i 0),sn,sn,sn])] [])
 (.seq (.seq (.ops [mv 3 (t 0),
 o 4 (.pnil .eql (t 3) (.const (.pointer none)))] [])
 (.cond (t 4)
 (.seq (.ops [o 5 (.build [(i 0),(i 0),sn,sn,sn] []),
 st 5 (t 2) (t 5)] [])
 (.ret))
 (.skip)))
 (.seq (.ops [mv 6 (t 0),
 o 7 (.nilck (t 6)),
 fa 8 11 (t 7),
 l1 9 (t 8),
 ca 10 F.zal [(t 9)],
 st 5 (t 2) (t 10)] [])
 (.ret)))
def zvk:List zd:=[.cell true 5 2]
def zxh:RCode:=
 .seq (.ops [mv 2 (.const (.pointer none))] [])
 (.seq (.seq (.ops [mv 6 (t 0),
 o 7 (.pnil .eql (t 6) (.const (.pointer none)))] [])
 (.cond (t 7)
 (.seq (.ops [mv 2 (.const (.pointer none))] [])
 (.ret))
 (.skip)))
 (.seq (.draw (.take (mv 8 (t 0)) (.take (o 9 (.nilck (t 8))) (.take (fa 10 0 (t 9)) (.take (l1 11 (t 10)) (.take (mv 13 (t 0)) (.take (o 14 (.nilck (t 13))) (.take (fa 15 2 (t 14)) (.take (l1 16 (t 15)) (.take (mv 17 (t 0)) (.take (o 18 (.nilck (t 17))) (.take (fa 19 3 (t 18)) (.take (l1 20 (t 19)) (.alt (o 12 (.mkMap)) true
 (.take (o 21 (.build [(i 0),(.map none),(i 0),(.bool false)] [(0,1,(t 11)),(1,1,(t 12)),(2,1,(t 16)),(3,1,(t 20))])) (.alt (o 22 (.box 97 (t 21))) false
  (.take (mv 3 (t 22)) (.done))
  (.none)))
 (.none)))))))))))))) [])
 (.seq (.seq (.ops [mv 23 (t 0),
 o 24 (.nilck (t 23)),
 fa 25 1 (t 24),
 l1 26 (t 25),
 o 27 (.mrange (t 26))] [])
 (.block 0 (.loop (.seq (.ops [o 28 (.mnext (t 27)),
 ex 29 (t 28) 0] [])
 (.seq (.cond (t 29)
  (.skip)
  (.exit 0))
 (.block 1 (.seq (.ops [o 30 (.mentry (t 27)),
 ex 31 (t 30) 0,
 ex 32 (t 30) 1,
 mv 4 (t 31),
 mv 5 (t 32)] [])
 (.draw (.take (mv 33 (t 3)) (.take (o 34 (.nilck (t 33))) (.take (fa 35 1 (t 34)) (.take (l1 36 (t 35)) (.take (mv 37 (t 4)) (.take (mv 39 (t 5)) (.take (o 40 (.nilck (t 39))) (.take (fa 41 0 (t 40)) (.take (l1 42 (t 41)) (.take (mv 44 (t 5)) (.take (o 45 (.nilck (t 44))) (.take (fa 46 1 (t 45)) (.take (l1 47 (t 46)) (.alt (o 38 (.mkSl false 5 0 [] [])) false
  (.alt (o 43 (.app 5 1 1 [(u 0)] (t 38) (t 42))) true
  (.take (o 48 (.build [sn,(i 0)] [(0,1,(t 43)),(1,1,(t 47))])) (.alt (o 49 (.box 100 (t 48))) false
   (.alt (e (.mset .str (t 36) (t 37) (t 49))) false
   (.done)
   (.none))
   (.none)))
  (.none))
  (.none))))))))))))))) []))))))))
 (.seq (.ops [mv 50 (t 3),
 mv 2 (t 50)] [])
 (.ret)))))
def zxi:List zd:=[.tmp 2]
def zvl:RCode:=
 .seq (.ops [mv 4 (k 0)] [])
 (.seq (.seq (.ops [mv 9 (t 0),
 o 10 (.pnil .eql (t 9) (.const (.pointer none)))] [])
 (.cond (t 10)
 (.seq (.ops [mv 4 (k 7)] [])
 (.ret))
 (.skip)))
 (.seq (.seq (.ops [mv 11 (t 0),
 ca 12 F.zbu [(t 11)],
 o 13 (.len (t 12)),
 mv 14 (k 0)] [])
 (.block 0 (.loop (.seq (.ops [o 15 (.ibin .lss (t 14) (t 13))] [])
 (.seq (.cond (t 15)
  (.skip)
  (.exit 0))
 (.seq (.block 1 (.seq (.ops [mv 16 (t 14),
 o 17 (.iaddr 1 (t 12) (t 14)),
 l1 18 (t 17),
 mv 5 (t 16),
 mv 6 (t 18)] [])
 (.seq (.ops [mv 19 (t 0),
 o 20 (.nilck (t 19)),
 fa 21 1 (t 20),
 l1 22 (t 21),
 mv 23 (t 6),
 o 24 (.mget .str false (.pointer none) (t 22) (t 23)),
 mv 7 (t 24)] [])
 (.seq (.ops [mv 8 (k 0)] [])
 (.seq (.seq (.ops [mv 25 (t 5),
 mv 26 (t 1),
 o 27 (.len (t 26)),
 o 28 (.ibin .lss (t 25) (t 27))] [])
 (.cond (t 28)
  (.draw (.take (mv 29 (t 1)) (.take (mv 30 (t 5)) (.take (o 31 (.iaddr 1 (t 29) (t 30))) (.take (l1 32 (t 31)) (.take (mv 33 (t 7)) (.take (o 34 (.nilck (t 33))) (.take (fa 35 0 (t 34)) (.take (l1 36 (t 35)) (.take (o 37 (.len (t 36))) (.take (mv 38 (t 7)) (.take (o 39 (.nilck (t 38))) (.take (fa 40 1 (t 39)) (.take (l1 41 (t 40)) (.take (o 42 (.ibin .sub (t 37) (t 41))) (.take (o 43 (.imm false (t 32) (t 42))) (.take (o 44 (.imm true (k 0) (t 43))) (.take (mv 8 (t 44)) (.done)))))))))))))))))) [])
  (.skip)))
 (.seq (.ops [mv 45 (t 7),
 o 46 (.nilck (t 45)),
 fa 47 1 (t 46),
 l1 48 (t 47),
 mv 49 (t 8),
 ad 50 (t 48) (t 49),
 o 51 (.nilck (t 45)),
 fa 52 1 (t 51),
 st 1 (t 52) (t 50)] [])
 (.draw (.take (mv 53 (t 7)) (.take (mv 54 (t 7)) (.take (o 55 (.nilck (t 54))) (.take (fa 56 0 (t 55)) (.take (l1 57 (t 56)) (.take (mv 58 (t 7)) (.take (o 59 (.nilck (t 58))) (.take (fa 60 1 (t 59)) (.take (l1 61 (t 60)) (.take (o 62 (.slx 1 (t 57) none (some (t 61)))) (.take (o 63 (.nilck (t 53))) (.take (fa 64 0 (t 63)) (.alt (st 1 (t 64) (t 62)) false
  (.done)
  (.none)))))))))))))) [])))))))
 (.ops [ad 65 (t 14) (k 1),
 mv 14 (t 65)] [])))))))
 (.seq (.ops [mv 66 (t 0),
 mv 67 (t 0),
 o 68 (.nilck (t 66)),
 fa 69 3 (t 68),
 st 1 (t 69) (kb false),
 o 70 (.nilck (t 67)),
 fa 71 2 (t 70),
 st 1 (t 71) (k (-1))] [])
 (.seq (.ops [mv 4 (k 0)] [])
 (.ret)))))
def zvm:List zd:=[.tmp 4]
def zvn:RCode:=
 .seq (.ops [mv 4 (k 0)] [])
 (.seq (.seq (.ops [mv 5 (t 0),
 o 6 (.pnil .eql (t 5) (.const (.pointer none)))] [])
 (.cond (t 6)
 (.seq (.ops [mv 4 (k 7)] [])
 (.ret))
 (.skip)))
 (.seq (.seq (.ops [mv 7 (t 1),
 o 8 (.ibin .lss (t 7) (k 0)),
 os 9 (.mov (t 8)),
 gf 9 10 (.mov (t 1)),
 gf 9 11 (.ibin .gtr (t 10) (k 1048576)),
 o 12 (.pick (t 9) (kb true) (t 11))] [])
 (.cond (t 12)
 (.seq (.ops [mv 4 (k 1)] [])
 (.ret))
 (.skip)))
 (.seq (.ops [mv 13 (t 0),
 mv 14 (t 1),
 o 15 (.nilck (t 13)),
 fa 16 0 (t 15),
 st 1 (t 16) (t 14)] [])
 (.seq (.ops [mv 4 (k 0)] [])
 (.ret)))))
def zvo:List zd:=[.tmp 4]
def zje:RCode:=
 .seq (.ops [o 6 (.box 44 (t 2)),
 mv 8 (.const (.pointer none)),
 mv 9 (k 0)] [])
 (.seq (.seq (.ops [mv 17 (t 0),
 o 18 (.pnil .eql (t 17) (.const (.pointer none)))] [])
 (.cond (t 18)
 (.seq (.ops [mv 8 (.const (.pointer none)),
 mv 9 (k 7)] [])
 (.ret))
 (.skip)))
 (.seq (.ops [mv 20 (t 1),
 la 21 3 (t 6),
 ca 22 F.zkk [(t 20),(t 21)],
 mv 19 (t 22),
 ex 23 (t 19) 0,
 ex 24 (t 19) 1,
 mv 10 (t 23),
 mv 11 (t 24)] [])
 (.seq (.block 0 (.seq (.ops [mv 26 (t 11),
 o 27 (.ibin .neq (t 26) (k 0)),
 mv 25 (t 27)] [])
 (.cond (t 25)
 (.seq (.ops [mv 28 (t 11),
 mv 8 (.const (.pointer none)),
 mv 9 (t 28)] [])
 (.ret))
 (.seq (.ops [mv 30 (t 3),
 o 31 (.ibin .lss (t 30) (k 16)),
 os 32 (.mov (t 31)),
 gf 32 33 (.mov (t 3)),
 gf 32 34 (.ibin .gtr (t 33) (k 1048576)),
 o 35 (.pick (t 32) (kb true) (t 34)),
 mv 29 (t 35)] [])
 (.cond (t 29)
  (.seq (.ops [mv 8 (.const (.pointer none)),
  mv 9 (k 1)] [])
  (.ret))
  (.seq (.ops [mv 37 (t 0),
  ca 38 F.zbO [(t 37)],
  mv 36 (t 38)] [])
  (.cond (t 36)
  (.seq (.ops [mv 8 (.const (.pointer none)),
  mv 9 (k 9)] [])
  (.ret))
  (.skip))))))))
 (.seq (.ops [mv 39 (t 10),
 o 40 (.build [(.pointer none)] [(0,1,(t 39))]),
 mv 41 (t 0),
 o 42 (.build [(.pointer none),(.pointer none),(.pointer none),(i 0),(.bool false),(.bool false)] [(0,1,(t 40)),(1,1,(t 41))]),
 o 43 (.box 110 (t 42)),
 mv 12 (t 43)] [])
 (.seq (.seq (.ops [mv 44 (t 12),
 ca 45 F.zdX [(t 44)],
 mv 13 (t 45)] [])
 (.seq (.ops [mv 46 (t 13),
 o 47 (.ibin .neq (t 46) (k 0))] [])
 (.cond (t 47)
 (.seq (.ops [mv 48 (t 13),
 mv 8 (.const (.pointer none)),
 mv 9 (t 48)] [])
 (.ret))
 (.skip))))
 (.seq (.seq (.ops [mv 49 (t 12),
 mv 50 (t 1),
 la 51 3 (t 6),
 ca 52 F.zeL [(t 49),(t 50),(t 51)],
 mv 14 (t 52)] [])
 (.seq (.ops [mv 53 (t 14),
 o 54 (.ibin .neq (t 53) (k 0))] [])
 (.cond (t 54)
 (.seq (.ops [mv 55 (t 14),
 mv 8 (.const (.pointer none)),
 mv 9 (t 55)] [])
 (.ret))
 (.skip))))
 (.seq (.seq (.ops [mv 56 (t 12),
 mv 57 (t 3),
 ca 58 F.zc4 [(t 56),(t 57)],
 mv 15 (t 58)] [])
 (.seq (.ops [mv 59 (t 15),
 o 60 (.ibin .neq (t 59) (k 0))] [])
 (.cond (t 60)
 (.seq (.ops [mv 61 (t 15),
 mv 8 (.const (.pointer none)),
 mv 9 (t 61)] [])
 (.ret))
 (.skip))))
 (.seq (.seq (.ops [mv 62 (t 12),
 ca 63 F.zeM [(t 62)],
 mv 16 (t 63)] [])
 (.seq (.ops [mv 64 (t 16),
 o 65 (.ibin .neq (t 64) (k 0))] [])
 (.cond (t 65)
 (.seq (.ops [mv 66 (t 16),
 mv 8 (.const (.pointer none)),
 mv 9 (t 66)] [])
 (.ret))
 (.skip))))
 (.seq (.ops [mv 67 (t 12),
 mv 8 (t 67),
 mv 9 (k 0)] [])
 (.ret))))))))))
def zjf:List zd:=[.tmp 8,.tmp 9]
theorem zy1 {args:List Value} {M:Mem} {R:Value→Mem→Prop} (hn:args.length≤68) (h:zj Tryz.prog zje zjf args M R):CallsM Tryz.prog F.zfF args M R:=
 zf (kf:=fun _=>[]) Tryz.func25 (by kernel_rfl) (by kernel_rfl) hn (by kernel_rfl) h
def zbA:RCode:=
 .seq (.ops [o 2 (.alloc 37 [(i 0),(i 0),sn,sn,sn])] [])
 (.seq (.seq (.ops [mv 3 (t 0),
 o 4 (.pnil .eql (t 3) (.const (.pointer none)))] [])
 (.cond (t 4)
 (.seq (.ops [o 5 (.build [(i 0),(i 0),sn,sn,sn] []),
 st 5 (t 2) (t 5)] [])
 (.ret))
 (.skip)))
 (.seq (.ops [mv 6 (t 0),
 o 7 (.nilck (t 6)),
 fa 8 0 (t 7),
 fa 9 0 (t 8),
 l1 10 (t 9),
 ca 11 F.zdk [(t 10)],
 st 5 (t 2) (t 11)] [])
 (.ret)))
def zbB:List zd:=[.cell true 5 2]
theorem zpk {args:List Value} {M:Mem} {R:Value→Mem→Prop} (hn:args.length≤12) (h:zj Tryz.prog zbA zbB args M R):CallsM Tryz.prog F.zal args M R:=
 zf (kf:=fun _=>[]) Tryz.func26 (by kernel_rfl) (by kernel_rfl) hn (by kernel_rfl) h
def zvp:RCode:=
 .seq (.ops [mv 2 (.const sn)] [])
 (.seq (.seq (.ops [mv 3 (t 0),
 o 4 (.pnil .eql (t 3) (.const (.pointer none)))] [])
 (.cond (t 4)
 (.seq (.ops [mv 2 (.const sn)] [])
 (.ret))
 (.skip)))
 (.seq (.ops [o 5 (.mkSl false 5 0 [] []),
 mv 6 (t 0),
 o 7 (.nilck (t 6)),
 fa 8 2 (t 7),
 l1 9 (t 8),
 o 10 (.app 5 1 1 [(u 0)] (t 5) (t 9)),
 mv 2 (t 10)] [])
 (.ret)))
def zvq:List zd:=[.tmp 2]
def zxj:RCode:=
 .seq (.ops [mv 4 (k 0)] [])
 (.seq (.seq (.ops [mv 5 (t 0),
 o 6 (.pnil .eql (t 5) (.const (.pointer none)))] [])
 (.cond (t 6)
 (.seq (.ops [mv 4 (k 16)] [])
 (.ret))
 (.skip)))
 (.seq (.ops [mv 7 (t 0),
 o 8 (.nilck (t 7)),
 fa 9 13 (t 8),
 l1 10 (t 9),
 mv 11 (t 1),
 ca 12 F.zbK [(t 10),(t 11)],
 mv 4 (t 12)] [])
 (.ret)))
def zxk:List zd:=[.tmp 4]
def zkE:RCode:=
 .seq (.ops [o 0 (.alloc 75 [(i 0),sn,(i 0),(i 0),(i 0),(i 0),(i 0),(i 0),(i 0),(i 0),(i 0),(i 0)])] [])
 (.seq (.ops [o 1 (.build [(i 0),(i 0)] [(0,1,(k 0)),(1,1,(k 1))]),
 o 2 (.mkSl false 115 1 [(i 0),(i 0)] [(0,2,(t 1))]),
 o 3 (.build [(i 0),(i 0),(i 0)] [(0,1,(k 20)),(1,1,(k 900)),(2,1,(k 20))]),
 o 4 (.build [(i 0),(i 0),(i 0),(i 0),(i 0),(i 0),(i 0),(i 0),(i 0),(i 0)] [(0,3,(t 3)),(3,1,(k 50000)),(4,1,(k 100)),(5,1,(k 4)),(6,1,(k 3)),(7,1,(k 3)),(8,1,(k 3))]),
 o 5 (.build [(i 0),sn,(i 0),(i 0),(i 0),(i 0),(i 0),(i 0),(i 0),(i 0),(i 0),(i 0)] [(0,1,(k 2)),(1,1,(t 2)),(2,10,(t 4))]),
 st 12 (t 0) (t 5)] [])
 (.ret))
def zkF:List zd:=[.cell true 12 0]
theorem zz9 {args:List Value} {M:Mem} {R:Value→Mem→Prop} (hn:args.length≤6) (h:zj Tryz.prog zkE zkF args M R):CallsM Tryz.prog F.znM args M R:=
 zf (kf:=fun _=>[]) Tryz.func29 (by kernel_rfl) (by kernel_rfl) hn (by kernel_rfl) h
def zog:RCode:=
 .seq (.ops [o 5 (.box 46 (t 2)),
 mv 6 (.const (.pointer none)),
 mv 7 (k 0)] [])
 (.seq (.seq (.ops [mv 19 (t 0),
 o 20 (.ibin .lss (t 19) (k 1)),
 os 21 (.mov (t 20)),
 gf 21 22 (.mov (t 0)),
 gf 21 23 (.ibin .gtr (t 22) (k 64)),
 o 24 (.pick (t 21) (kb true) (t 23))] [])
 (.cond (t 24)
 (.seq (.ops [mv 6 (.const (.pointer none)),
 mv 7 (k 1)] [])
 (.ret))
 (.skip)))
 (.seq (.ops [o 25 (.build [(i 0),(i 0)] [(0,1,(k (-1)))]),
 o 8 (.alloc 115 [(i 0),(i 0)]),
 st 2 (t 8) (t 25)] [])
 (.seq (.seq (.ops [mv 26 (t 1),
 o 27 (.len (t 26)),
 mv 28 (k 0)] [])
 (.block 0 (.loop (.seq (.ops [o 29 (.ibin .lss (t 28) (t 27))] [])
 (.seq (.cond (t 29)
  (.skip)
  (.exit 0))
 (.seq (.block 1 (.seq (.ops [o 30 (.iaddr 2 (t 26) (t 28)),
 la 31 2 (t 30),
 o 10 (.alloc 115 [(i 0),(i 0)]),
 st 2 (t 10) (t 31)] [])
 (.seq (.seq (.ops [fa 32 0 (t 10),
 l1 33 (t 32),
 o 34 (.ibin .lss (t 33) (k 0)),
 os 35 (.mov (t 34)),
 gf 35 36 (.faddr 0 (t 10)),
 gf 35 37 (.load false 1 (t 36)),
 gf 35 38 (.faddr 1 (t 10)),
 gf 35 39 (.load false 1 (t 38)),
 gf 35 40 (.ibin .geq (t 37) (t 39)),
 o 41 (.pick (t 35) (kb true) (t 40)),
 os 42 (.mov (t 41)),
 gf 42 43 (.faddr 1 (t 10)),
 gf 42 44 (.load false 1 (t 43)),
 gf 42 45 (.mov (t 0)),
 gf 42 46 (.ibin .geq (t 44) (t 45)),
 o 47 (.pick (t 42) (kb true) (t 46)),
 os 48 (.mov (t 47)),
 gf 48 49 (.faddr 0 (t 10)),
 gf 48 50 (.load false 1 (t 49)),
 gf 48 51 (.faddr 0 (t 8)),
 gf 48 52 (.load false 1 (t 51)),
 gf 48 53 (.ibin .lss (t 50) (t 52)),
 o 54 (.pick (t 48) (kb true) (t 53)),
 os 55 (.mov (t 54)),
 gf 55 56 (.faddr 0 (t 10)),
 gf 55 57 (.load false 1 (t 56)),
 gf 55 58 (.faddr 0 (t 8)),
 gf 55 59 (.load false 1 (t 58)),
 gf 55 60 (.ibin .eql (t 57) (t 59)),
 ⟨(some 61),.mov (t 60),some (55,false),true⟩,
 gt 61 62 (.faddr 1 (t 10)),
 gt 61 63 (.load false 1 (t 62)),
 gt 61 64 (.faddr 1 (t 8)),
 gt 61 65 (.load false 1 (t 64)),
 gt 61 66 (.ibin .leq (t 63) (t 65)),
 gf 55 67 (.pick (t 61) (t 66) (kb false)),
 o 68 (.pick (t 55) (kb true) (t 67))] [])
 (.cond (t 68)
  (.seq (.ops [mv 6 (.const (.pointer none)),
  mv 7 (k 2)] [])
  (.ret))
  (.skip)))
 (.ops [la 69 2 (t 10),
 st 2 (t 8) (t 69)] []))))
 (.ops [ad 70 (t 28) (k 1),
 mv 28 (t 70)] [])))))))
 (.seq (.seq (.ops [la 71 10 (t 5),
 ca 72 F.zl3 [(t 71)],
 mv 11 (t 72)] [])
 (.seq (.ops [mv 73 (t 11),
 o 74 (.ibin .neq (t 73) (k 0))] [])
 (.cond (t 74)
 (.seq (.ops [mv 75 (t 11),
 mv 6 (.const (.pointer none)),
 mv 7 (t 75)] [])
 (.ret))
 (.skip))))
 (.seq (.draw (.take (la 76 10 (t 5)) (.take (mv 78 (t 1)) (.take (mv 81 (t 0)) (.alt (o 77 (.mkSl false 115 0 [] [])) false
 (.alt (o 79 (.app 115 2 16 [(i 0),(i 0)] (t 77) (t 78))) true
  (.alt (o 80 (.mkMap)) true
  (.alt (o 82 (.mkSlN 57 8 [(.pointer none)] (t 81) (t 81))) true
   (.take (o 83 (.build [(i 0),(i 0),(i 0),(i 0),(i 0),(i 0),(i 0),(i 0),(i 0),(i 0),sn,sn,sn,(.map none),sn,(i 0)] [(0,10,(t 76)),(10,1,(t 79)),(13,1,(t 80)),(12,1,(t 82))])) (.alt (o 84 (.box 52 (t 83))) false
   (.take (mv 12 (t 84)) (.done))
   (.none)))
   (.none))
  (.alt (o 82 (.mkSlN 57 8 [(.pointer none)] (t 81) (t 81))) true
   (.alt (o 80 (.mkMap)) true
   (.take (o 83 (.build [(i 0),(i 0),(i 0),(i 0),(i 0),(i 0),(i 0),(i 0),(i 0),(i 0),sn,sn,sn,(.map none),sn,(i 0)] [(0,10,(t 76)),(10,1,(t 79)),(13,1,(t 80)),(12,1,(t 82))])) (.alt (o 84 (.box 52 (t 83))) false
    (.take (mv 12 (t 84)) (.done))
    (.none)))
   (.none))
   (.none)))
  (.alt (o 80 (.mkMap)) true
  (.alt (o 79 (.app 115 2 16 [(i 0),(i 0)] (t 77) (t 78))) true
   (.alt (o 82 (.mkSlN 57 8 [(.pointer none)] (t 81) (t 81))) true
   (.take (o 83 (.build [(i 0),(i 0),(i 0),(i 0),(i 0),(i 0),(i 0),(i 0),(i 0),(i 0),sn,sn,sn,(.map none),sn,(i 0)] [(0,10,(t 76)),(10,1,(t 79)),(13,1,(t 80)),(12,1,(t 82))])) (.alt (o 84 (.box 52 (t 83))) false
    (.take (mv 12 (t 84)) (.done))
    (.none)))
   (.none))
   (.alt (o 82 (.mkSlN 57 8 [(.pointer none)] (t 81) (t 81))) true
   (.alt (o 79 (.app 115 2 16 [(i 0),(i 0)] (t 77) (t 78))) true
    (.take (o 83 (.build [(i 0),(i 0),(i 0),(i 0),(i 0),(i 0),(i 0),(i 0),(i 0),(i 0),sn,sn,sn,(.map none),sn,(i 0)] [(0,10,(t 76)),(10,1,(t 79)),(13,1,(t 80)),(12,1,(t 82))])) (.alt (o 84 (.box 52 (t 83))) false
    (.take (mv 12 (t 84)) (.done))
    (.none)))
    (.none))
   (.none)))
  (.alt (o 82 (.mkSlN 57 8 [(.pointer none)] (t 81) (t 81))) true
   (.alt (o 79 (.app 115 2 16 [(i 0),(i 0)] (t 77) (t 78))) true
   (.alt (o 80 (.mkMap)) true
    (.take (o 83 (.build [(i 0),(i 0),(i 0),(i 0),(i 0),(i 0),(i 0),(i 0),(i 0),(i 0),sn,sn,sn,(.map none),sn,(i 0)] [(0,10,(t 76)),(10,1,(t 79)),(13,1,(t 80)),(12,1,(t 82))])) (.alt (o 84 (.box 52 (t 83))) false
    (.take (mv 12 (t 84)) (.done))
    (.none)))
    (.none))
   (.alt (o 80 (.mkMap)) true
    (.alt (o 79 (.app 115 2 16 [(i 0),(i 0)] (t 77) (t 78))) true
    (.take (o 83 (.build [(i 0),(i 0),(i 0),(i 0),(i 0),(i 0),(i 0),(i 0),(i 0),(i 0),sn,sn,sn,(.map none),sn,(i 0)] [(0,10,(t 76)),(10,1,(t 79)),(13,1,(t 80)),(12,1,(t 82))])) (.alt (o 84 (.box 52 (t 83))) false
     (.take (mv 12 (t 84)) (.done))
     (.none)))
    (.none))
    (.none)))
   (.none))))
 (.alt (o 80 (.mkMap)) true
  (.alt (o 77 (.mkSl false 115 0 [] [])) false
  (.alt (o 79 (.app 115 2 16 [(i 0),(i 0)] (t 77) (t 78))) true
   (.alt (o 82 (.mkSlN 57 8 [(.pointer none)] (t 81) (t 81))) true
   (.take (o 83 (.build [(i 0),(i 0),(i 0),(i 0),(i 0),(i 0),(i 0),(i 0),(i 0),(i 0),sn,sn,sn,(.map none),sn,(i 0)] [(0,10,(t 76)),(10,1,(t 79)),(13,1,(t 80)),(12,1,(t 82))])) (.alt (o 84 (.box 52 (t 83))) false
    (.take (mv 12 (t 84)) (.done))
    (.none)))
   (.none))
   (.alt (o 82 (.mkSlN 57 8 [(.pointer none)] (t 81) (t 81))) true
   (.alt (o 79 (.app 115 2 16 [(i 0),(i 0)] (t 77) (t 78))) true
    (.take (o 83 (.build [(i 0),(i 0),(i 0),(i 0),(i 0),(i 0),(i 0),(i 0),(i 0),(i 0),sn,sn,sn,(.map none),sn,(i 0)] [(0,10,(t 76)),(10,1,(t 79)),(13,1,(t 80)),(12,1,(t 82))])) (.alt (o 84 (.box 52 (t 83))) false
    (.take (mv 12 (t 84)) (.done))
    (.none)))
    (.none))
   (.none)))
  (.alt (o 82 (.mkSlN 57 8 [(.pointer none)] (t 81) (t 81))) true
   (.alt (o 77 (.mkSl false 115 0 [] [])) false
   (.alt (o 79 (.app 115 2 16 [(i 0),(i 0)] (t 77) (t 78))) true
    (.take (o 83 (.build [(i 0),(i 0),(i 0),(i 0),(i 0),(i 0),(i 0),(i 0),(i 0),(i 0),sn,sn,sn,(.map none),sn,(i 0)] [(0,10,(t 76)),(10,1,(t 79)),(13,1,(t 80)),(12,1,(t 82))])) (.alt (o 84 (.box 52 (t 83))) false
    (.take (mv 12 (t 84)) (.done))
    (.none)))
    (.none))
   (.none))
   (.none)))
  (.alt (o 82 (.mkSlN 57 8 [(.pointer none)] (t 81) (t 81))) true
  (.alt (o 77 (.mkSl false 115 0 [] [])) false
   (.alt (o 79 (.app 115 2 16 [(i 0),(i 0)] (t 77) (t 78))) true
   (.alt (o 80 (.mkMap)) true
    (.take (o 83 (.build [(i 0),(i 0),(i 0),(i 0),(i 0),(i 0),(i 0),(i 0),(i 0),(i 0),sn,sn,sn,(.map none),sn,(i 0)] [(0,10,(t 76)),(10,1,(t 79)),(13,1,(t 80)),(12,1,(t 82))])) (.alt (o 84 (.box 52 (t 83))) false
    (.take (mv 12 (t 84)) (.done))
    (.none)))
    (.none))
   (.alt (o 80 (.mkMap)) true
    (.alt (o 79 (.app 115 2 16 [(i 0),(i 0)] (t 77) (t 78))) true
    (.take (o 83 (.build [(i 0),(i 0),(i 0),(i 0),(i 0),(i 0),(i 0),(i 0),(i 0),(i 0),sn,sn,sn,(.map none),sn,(i 0)] [(0,10,(t 76)),(10,1,(t 79)),(13,1,(t 80)),(12,1,(t 82))])) (.alt (o 84 (.box 52 (t 83))) false
     (.take (mv 12 (t 84)) (.done))
     (.none)))
    (.none))
    (.none)))
   (.alt (o 80 (.mkMap)) true
   (.alt (o 77 (.mkSl false 115 0 [] [])) false
    (.alt (o 79 (.app 115 2 16 [(i 0),(i 0)] (t 77) (t 78))) true
    (.take (o 83 (.build [(i 0),(i 0),(i 0),(i 0),(i 0),(i 0),(i 0),(i 0),(i 0),(i 0),sn,sn,sn,(.map none),sn,(i 0)] [(0,10,(t 76)),(10,1,(t 79)),(13,1,(t 80)),(12,1,(t 82))])) (.alt (o 84 (.box 52 (t 83))) false
     (.take (mv 12 (t 84)) (.done))
     (.none)))
    (.none))
    (.none))
   (.none)))
  (.none))))))) [])
 (.seq (.seq (.ops [mv 85 (t 12),
 ca 86 F.zc3 [(t 85)],
 o 87 (.len (t 86)),
 mv 88 (k 0)] [])
 (.block 2 (.loop (.seq (.ops [o 89 (.ibin .lss (t 88) (t 87))] [])
 (.seq (.cond (t 89)
  (.skip)
  (.exit 2))
 (.seq (.block 3 (.seq (.ops [o 90 (.iaddr 2 (t 86) (t 88)),
 la 91 2 (t 90),
 o 14 (.alloc 71 [(i 0),(i 0)]),
 st 2 (t 14) (t 91)] [])
 (.draw (.take (mv 93 (t 12)) (.take (o 94 (.nilck (t 93))) (.take (fa 95 13 (t 94)) (.take (l1 96 (t 95)) (.take (la 97 2 (t 14)) (.take (fa 98 9 (t 5)) (.take (l1 99 (t 98)) (.alt (ca 100 F.zrN [(t 99)]) true
  (.take (mv 92 (t 100)) (.take (ex 101 (t 92) 0) (.take (ex 102 (t 92) 1) (.alt (e (.mset (.agg 2) (t 96) (t 97) (t 101))) false
  (.done)
  (.none)))))
  (.none))))))))) [])))
 (.ops [ad 103 (t 88) (k 1),
 mv 88 (t 103)] [])))))))
 (.seq (.seq (.ops [mv 104 (t 0),
 mv 105 (k 0)] [])
 (.block 4 (.loop (.seq (.ops [o 106 (.ibin .lss (t 105) (t 104))] [])
 (.seq (.cond (t 106)
  (.skip)
  (.exit 4))
 (.seq (.block 5 (.seq (.ops [fa 108 3 (t 5),
 l1 109 (t 108),
 ca 110 F.zrO [(t 109)],
 mv 107 (t 110),
 ex 111 (t 107) 0,
 ex 112 (t 107) 1,
 mv 15 (t 111),
 mv 16 (t 112)] [])
 (.ops [mv 113 (t 12),
 mv 114 (t 12),
 o 115 (.nilck (t 114)),
 fa 116 11 (t 115),
 l1 117 (t 116),
 mv 118 (t 15),
 o 119 (.mkSl true 63 1 [(.pointer none)] [(0,1,(t 118))]),
 o 120 (.app 63 1 8 [(.pointer none)] (t 117) (t 119)),
 o 121 (.nilck (t 113)),
 fa 122 11 (t 121),
 st 1 (t 122) (t 120)] [])))
 (.ops [ad 123 (t 105) (k 1),
 mv 105 (t 123)] [])))))))
 (.seq (.seq (.ops [mv 124 (t 0),
 mv 125 (k 0)] [])
 (.block 6 (.loop (.seq (.ops [o 126 (.ibin .lss (t 125) (t 124))] [])
 (.seq (.cond (t 126)
  (.skip)
  (.exit 6))
 (.seq (.block 7 (.seq (.ops [mv 127 (t 125),
 mv 17 (t 127)] [])
 (.seq (.ops [mv 128 (t 12),
 mv 129 (t 17),
 ca 130 F.zf9 [(t 128),(t 129)],
 mv 18 (t 130)] [])
 (.seq (.ops [mv 131 (t 18),
 o 132 (.ibin .neq (t 131) (k 0))] [])
 (.cond (t 132)
  (.seq (.ops [mv 133 (t 18),
  mv 6 (.const (.pointer none)),
  mv 7 (t 133)] [])
  (.ret))
  (.skip))))))
 (.ops [ad 134 (t 125) (k 1),
 mv 125 (t 134)] [])))))))
 (.seq (.ops [mv 135 (t 12),
 o 136 (.nilck (t 135)),
 fa 137 14 (t 136),
 st 1 (t 137) (.const sn)] [])
 (.seq (.ops [mv 138 (t 12),
 mv 6 (t 138),
 mv 7 (k 0)] [])
 (.ret)))))))))))
def zoh:List zd:=[.tmp 6,.tmp 7]
theorem zDw {args:List Value} {M:Mem} {R:Value→Mem→Prop} (hn:args.length≤139) (h:zj Tryz.prog zog zoh args M R):CallsM Tryz.prog F.zrM args M R:=
 zf (kf:=fun _=>[]) Tryz.func30 (by kernel_rfl) (by kernel_rfl) hn (by kernel_rfl) h
def zgu:RCode:=
 .seq (.ops [mv 2 (.const sn)] [])
 (.seq (.ops [mv 3 (.const sn)] [])
 (.seq (.seq (.ops [mv 6 (t 0),
 o 7 (.nilck (t 6)),
 fa 8 10 (t 7),
 l1 9 (t 8),
 o 10 (.len (t 9)),
 mv 11 (k 0)] [])
 (.block 0 (.loop (.seq (.ops [o 12 (.ibin .lss (t 11) (t 10))] [])
 (.seq (.cond (t 12)
  (.skip)
  (.exit 0))
 (.seq (.block 1 (.seq (.ops [o 13 (.iaddr 2 (t 9) (t 11)),
 la 14 2 (t 13),
 o 5 (.alloc 115 [(i 0),(i 0)]),
 st 2 (t 5) (t 14)] [])
 (.ops [mv 15 (t 3),
 fa 16 0 (t 5),
 l1 17 (t 16),
 fa 18 1 (t 5),
 l1 19 (t 18),
 o 20 (.build [(i 0),(i 0)] [(0,1,(t 17)),(1,1,(t 19))]),
 fa 21 1 (t 5),
 l1 22 (t 21),
 fa 23 0 (t 5),
 l1 24 (t 23),
 o 25 (.build [(i 0),(i 0)] [(0,1,(t 22)),(1,1,(t 24))]),
 o 26 (.mkSl true 71 2 [(i 0),(i 0),(i 0),(i 0)] [(0,2,(t 20)),(2,2,(t 25))]),
 o 27 (.app 71 2 16 [(i 0),(i 0)] (t 15) (t 26)),
 mv 3 (t 27)] [])))
 (.ops [ad 28 (t 11) (k 1),
 mv 11 (t 28)] [])))))))
 (.seq (.ops [mv 29 (t 3),
 mv 2 (t 29)] [])
 (.ret))))
def zgv:List zd:=[.tmp 2]
theorem zvr {args:List Value} {M:Mem} {R:Value→Mem→Prop} (hn:args.length≤30) (h:zj Tryz.prog zgu zgv args M R):CallsM Tryz.prog F.zc3 args M R:=
 zf (kf:=fun _=>[]) Tryz.func31 (by kernel_rfl) (by kernel_rfl) hn (by kernel_rfl) h
def zgw:RCode:=
 .seq (.ops [mv 2 (k 0)] [])
 (.seq (.seq (.ops [mv 3 (t 0),
 o 4 (.pnil .eql (t 3) (.const (.pointer none)))] [])
 (.cond (t 4)
 (.seq (.ops [mv 2 (k 7)] [])
 (.ret))
 (.skip)))
 (.seq (.ops [mv 5 (t 0),
 o 6 (.nilck (t 5)),
 fa 7 1 (t 6),
 l1 8 (t 7),
 ad 9 (t 8) (k 1),
 o 10 (.nilck (t 5)),
 fa 11 1 (t 10),
 st 1 (t 11) (t 9)] [])
 (.seq (.ops [mv 2 (k 0)] [])
 (.ret))))
def zgx:List zd:=[.tmp 2]
theorem zvs {args:List Value} {M:Mem} {R:Value→Mem→Prop} (hn:args.length≤12) (h:zj Tryz.prog zgw zgx args M R):CallsM Tryz.prog F.zk2 args M R:=
 zf (kf:=fun _=>[]) Tryz.func32 (by kernel_rfl) (by kernel_rfl) hn (by kernel_rfl) h
def zgy:RCode:=
 .seq (.ops [mv 2 (.const sn)] [])
 (.seq (.seq (.ops [mv 5 (t 0),
 o 6 (.pnil .eql (t 5) (.const (.pointer none)))] [])
 (.cond (t 6)
 (.seq (.ops [mv 2 (.const sn)] [])
 (.ret))
 (.skip)))
 (.seq (.ops [mv 3 (k 0)] [])
 (.seq (.block 0 (.loop (.seq (.seq (.draw (.take (mv 7 (t 3)) (.take (mv 8 (t 0)) (.take (o 9 (.nilck (t 8))) (.take (fa 10 2 (t 9)) (.take (l1 11 (t 10)) (.take (o 12 (.len (t 11))) (.take (o 13 (.ibin .lss (t 7) (t 12))) (.take (os 14 (.mov (t 13))) (.take (gt 14 15 (.mov (t 0))) (.take (gt 14 16 (.nilck (t 15))) (.take (gt 14 17 (.faddr 3 (t 16))) (.take (gt 14 18 (.load false 1 (t 17))) (.take (gt 14 19 (.mov (t 3))) (.take (gt 14 20 (.iaddr 1 (t 18) (t 19))) (.take (gt 14 21 (.load false 1 (t 20))) (.take (gt 14 22 (.mov (t 0))) (.take (gt 14 23 (.nilck (t 22))) (.take (gt 14 24 (.faddr 1 (t 23))) (.take (gt 14 25 (.load false 1 (t 24))) (.take (gt 14 26 (.ibin .leq (t 21) (t 25))) (.take (o 27 (.pick (t 14) (t 26) (kb false))) (.done)))))))))))))))))))))) [])
 (.cond (t 27)
  (.skip)
  (.exit 0)))
 (.block 1 (.ops [mv 28 (t 3),
 ad 29 (t 28) (k 1),
 mv 3 (t 29)] [])))))
 (.seq (.ops [o 30 (.mkSl false 5 0 [] []),
 mv 31 (t 0),
 o 32 (.nilck (t 31)),
 fa 33 2 (t 32),
 l1 34 (t 33),
 mv 35 (t 3),
 mv 36 (t 3),
 o 37 (.slx3 1 (t 34) (k 0) (t 35) (t 36)),
 o 38 (.app 5 1 1 [(u 0)] (t 30) (t 37)),
 mv 4 (t 38)] [])
 (.seq (.draw (.take (mv 39 (t 0)) (.take (mv 40 (t 0)) (.take (mv 41 (t 0)) (.take (o 42 (.nilck (t 41))) (.take (fa 43 2 (t 42)) (.take (l1 44 (t 43)) (.take (mv 45 (t 3)) (.take (mv 46 (t 0)) (.take (o 47 (.nilck (t 46))) (.take (fa 48 2 (t 47)) (.take (l1 49 (t 48)) (.take (o 50 (.len (t 49))) (.take (mv 51 (t 0)) (.take (o 52 (.nilck (t 51))) (.take (fa 53 2 (t 52)) (.take (l1 54 (t 53)) (.take (o 55 (.len (t 54))) (.take (o 56 (.slx3 1 (t 44) (t 45) (t 50) (t 55))) (.take (mv 57 (t 0)) (.take (o 58 (.nilck (t 57))) (.take (fa 59 3 (t 58)) (.take (l1 60 (t 59)) (.take (mv 61 (t 3)) (.take (mv 62 (t 0)) (.take (o 63 (.nilck (t 62))) (.take (fa 64 3 (t 63)) (.take (l1 65 (t 64)) (.take (o 66 (.len (t 65))) (.take (mv 67 (t 0)) (.take (o 68 (.nilck (t 67))) (.take (fa 69 3 (t 68)) (.take (l1 70 (t 69)) (.take (o 71 (.len (t 70))) (.take (o 72 (.slx3 1 (t 60) (t 61) (t 66) (t 71))) (.take (o 73 (.nilck (t 39))) (.take (fa 74 2 (t 73)) (.alt (st 1 (t 74) (t 56)) false
 (.take (o 75 (.nilck (t 40))) (.take (fa 76 3 (t 75)) (.alt (st 1 (t 76) (t 72)) false
  (.done)
  (.none))))
 (.none)))))))))))))))))))))))))))))))))))))) [])
 (.seq (.ops [mv 77 (t 4),
 mv 2 (t 77)] [])
 (.ret)))))))
def zgz:List zd:=[.tmp 2]
theorem zvt {args:List Value} {M:Mem} {R:Value→Mem→Prop} (hn:args.length≤78) (h:zj Tryz.prog zgy zgz args M R):CallsM Tryz.prog F.zk3 args M R:=
 zf (kf:=fun _=>[]) Tryz.func33 (by kernel_rfl) (by kernel_rfl) hn (by kernel_rfl) h
def zdn:RCode:=
 .seq (.ops [mv 6 (k 0)] [])
 (.seq (.seq (.ops [mv 15 (t 0),
 ca 16 F.zaR [(t 15)],
 mv 7 (t 16)] [])
 (.seq (.ops [mv 17 (t 7),
 o 18 (.ibin .neq (t 17) (k 0))] [])
 (.cond (t 18)
 (.seq (.ops [mv 19 (t 7),
 mv 6 (t 19)] [])
 (.ret))
 (.skip))))
 (.seq (.ops [mv 20 (t 0),
 o 21 (.nilck (t 20)),
 fa 22 12 (t 21),
 l1 23 (t 22),
 mv 24 (t 1),
 o 25 (.mget .int false (.pointer none) (t 23) (t 24)),
 mv 8 (t 25)] [])
 (.seq (.seq (.ops [mv 26 (t 8),
 o 27 (.pnil .eql (t 26) (.const (.pointer none)))] [])
 (.cond (t 27)
 (.seq (.ops [mv 6 (k 4)] [])
 (.ret))
 (.skip)))
 (.seq (.seq (.ops [mv 28 (t 8),
 o 29 (.nilck (t 28)),
 fa 30 1 (t 29),
 l1 31 (t 30),
 mv 32 (t 2),
 ca 33 F.zhJ [(t 31),(t 32)],
 o 34 (.len (t 33)),
 mv 35 (k 0)] [])
 (.block 0 (.loop (.seq (.ops [o 36 (.ibin .lss (t 35) (t 34))] [])
 (.seq (.cond (t 36)
  (.skip)
  (.exit 0))
 (.seq (.block 1 (.seq (.ops [o 37 (.iaddr 1 (t 33) (t 35)),
 l1 38 (t 37),
 mv 10 (t 38)] [])
 (.seq (.ops [mv 40 (t 10),
 ca 41 F.znN [(t 40)],
 mv 39 (t 41),
 ex 42 (t 39) 0,
 ex 43 (t 39) 1,
 o 11 (.alloc 129 [(i 0),(i 0),(i 0),(.bool false),(i 0),(i 0),sn]),
 st 7 (t 11) (t 42),
 mv 12 (t 43)] [])
 (.seq (.seq (.ops [mv 44 (t 12),
 o 45 (.ibin .neq (t 44) (k 0))] [])
 (.cond (t 45)
  (.seq (.ops [mv 46 (t 0),
  o 47 (.nilck (t 46)),
  fa 48 17 (t 47),
  l1 49 (t 48),
  ad 50 (t 49) (k 1),
  o 51 (.nilck (t 46)),
  fa 52 17 (t 51),
  st 1 (t 52) (t 50)] [])
  (.exit 1))
  (.skip)))
 (.seq (.draw (.take (mv 53 (t 8)) (.take (o 54 (.nilck (t 53))) (.take (fa 55 0 (t 54)) (.take (l1 56 (t 55)) (.take (la 57 7 (t 11)) (.alt (ca 58 F.zhK [(t 56),(t 57)]) false
  (.done)
  (.none))))))) [])
 (.seq (.ops [mv 59 (t 8),
 o 60 (.nilck (t 59)),
 fa 61 0 (t 60),
 l1 62 (t 61),
 ca 63 F.zmQ [(t 62)],
 o 64 (.len (t 63)),
 mv 65 (k 0)] [])
 (.block 2 (.loop (.seq (.ops [o 66 (.ibin .lss (t 65) (t 64))] [])
  (.seq (.cond (t 66)
  (.skip)
  (.exit 2))
  (.seq (.block 3 (.seq (.ops [o 67 (.iaddr 1 (t 63) (t 65)),
  l1 68 (t 67),
  mv 14 (t 68)] [])
  (.seq (.ops [mv 69 (t 0),
  o 70 (.nilck (t 69)),
  fa 71 11 (t 70),
  l1 72 (t 71),
  ca 73 F.zM [(t 72)],
  o 74 (.not (t 73))] [])
  (.cond (t 74)
  (.ops [mv 75 (t 0),
  mv 76 (t 1),
  mv 77 (t 14),
  ca 78 F.zk4 [(t 75),(t 76),(t 77)]] [])
  (.skip)))))
  (.ops [ad 79 (t 65) (k 1),
  mv 65 (t 79)] []))))))))))))
 (.ops [ad 80 (t 35) (k 1),
 mv 35 (t 80)] [])))))))
 (.seq (.ops [mv 81 (t 0),
 ca 82 F.zaS [(t 81)]] [])
 (.seq (.ops [mv 83 (t 0),
 ca 84 F.zaR [(t 83)],
 mv 6 (t 84)] [])
 (.ret)))))))
def zdo:List zd:=[.tmp 6]
theorem zrZ {args:List Value} {M:Mem} {R:Value→Mem→Prop} (hn:args.length≤85) (h:zj Tryz.prog zdn zdo args M R):CallsM Tryz.prog F.zhI args M R:=
 zf (kf:=fun _=>[]) Tryz.func34 (by kernel_rfl) (by kernel_rfl) hn (by kernel_rfl) h
def zei:RCode:=
 .seq (.ops [mv 9 (t 0),
 o 10 (.nilck (t 9)),
 fa 11 12 (t 10),
 l1 12 (t 11),
 mv 13 (t 1),
 o 14 (.iaddr 1 (t 12) (t 13)),
 l1 15 (t 14),
 mv 4 (t 15)] [])
 (.seq (.seq (.ops [mv 16 (t 4),
 o 17 (.pnil .eql (t 16) (.const (.pointer none)))] [])
 (.cond (t 17)
 (.ret)
 (.skip)))
 (.seq (.seq (.ops [mv 18 (t 4),
 ca 19 F.zfG [(t 18)],
 o 20 (.len (t 19)),
 mv 21 (k 0)] [])
 (.block 0 (.loop (.seq (.ops [o 22 (.ibin .lss (t 21) (t 20))] [])
 (.seq (.cond (t 22)
  (.skip)
  (.exit 0))
 (.seq (.block 1 (.seq (.ops [o 23 (.iaddr 5 (t 19) (t 21)),
 la 24 5 (t 23),
 o 6 (.alloc 86 [(i 0),(i 0),(i 0),(i 0),sn]),
 st 5 (t 6) (t 24)] [])
 (.draw (.take (mv 25 (t 0)) (.take (mv 26 (t 0)) (.take (o 27 (.nilck (t 26))) (.take (fa 28 14 (t 27)) (.take (l1 29 (t 28)) (.take (mv 30 (t 0)) (.take (o 31 (.nilck (t 30))) (.take (fa 32 15 (t 31)) (.take (l1 33 (t 32)) (.take (mv 34 (t 1)) (.take (fa 35 0 (t 6)) (.take (la 36 4 (t 35)) (.take (fa 37 4 (t 6)) (.take (l1 38 (t 37)) (.take (o 39 (.build [(i 0),(i 0),(i 0),(i 0),(i 0),(i 0),(i 0),sn,(.bool false)] [(0,1,(t 33)),(1,1,(t 34)),(2,4,(t 36)),(7,1,(t 38)),(8,1,(kb true))])) (.alt (o 40 (.mkSl true 56 1 [(i 0),(i 0),(i 0),(i 0),(i 0),(i 0),(i 0),sn,(.bool false)] [(0,9,(t 39))])) false
  (.alt (o 41 (.app 56 9 88 [(i 0),(i 0),(i 0),(i 0),(i 0),(i 0),(i 0),sn,(.bool false)] (t 29) (t 40))) false
  (.take (o 42 (.nilck (t 25))) (.take (fa 43 14 (t 42)) (.alt (st 1 (t 43) (t 41)) false
   (.done)
   (.none))))
  (.none))
  (.none))))))))))))))))) [])))
 (.ops [ad 44 (t 21) (k 1),
 mv 21 (t 44)] [])))))))
 (.seq (.seq (.ops [mv 45 (t 4),
 ca 46 F.zk5 [(t 45)]] [])
 (.cond (t 46)
 (.seq (.ops [mv 47 (t 0),
 o 48 (.nilck (t 47)),
 fa 49 12 (t 48),
 l1 50 (t 49),
 mv 51 (t 1),
 o 52 (.iaddr 1 (t 50) (t 51)),
 st 1 (t 52) (.const (.pointer none))] [])
 (.ret))
 (.skip)))
 (.seq (.ops [mv 53 (t 0),
 mv 54 (t 1),
 ca 55 F.zga [(t 53),(t 54)],
 o 56 (.len (t 55)),
 mv 57 (k 0)] [])
 (.block 2 (.loop (.seq (.ops [o 58 (.ibin .lss (t 57) (t 56))] [])
 (.seq (.cond (t 58)
  (.skip)
  (.exit 2))
 (.seq (.block 3 (.seq (.ops [o 59 (.iaddr 1 (t 55) (t 57)),
 l1 60 (t 59),
 mv 8 (t 60)] [])
 (.draw (.take (mv 61 (t 0)) (.take (o 62 (.nilck (t 61))) (.take (fa 63 13 (t 62)) (.take (l1 64 (t 63)) (.take (mv 65 (t 1)) (.take (mv 66 (t 8)) (.take (o 67 (.build [(i 0),(i 0)] [(0,1,(t 65)),(1,1,(t 66))])) (.take (o 68 (.mget (.agg 2) false (.pointer none) (t 64) (t 67))) (.take (mv 69 (t 4)) (.take (mv 70 (t 8)) (.alt (ca 71 F.zk6 [(t 69),(t 70)]) true
  (.alt (ca 72 F.zl4 [(t 68),(t 71)]) false
  (.done)
  (.none))
  (.none)))))))))))) [])))
 (.ops [ad 73 (t 57) (k 1),
 mv 57 (t 73)] []))))))))))
def zej:List zd:=[]
theorem zsI {args:List Value} {M:Mem} {R:Value→Mem→Prop} (hn:args.length≤74) (h:zj Tryz.prog zei zej args M R):CallsM Tryz.prog F.zaj args M R:=
 zf (kf:=fun _=>[]) Tryz.func35 (by kernel_rfl) (by kernel_rfl) hn (by kernel_rfl) h
def zgA:RCode:=
 .seq (.ops [mv 2 (k 0)] [])
 (.seq (.seq (.ops [mv 8 (t 0),
 ca 9 F.zaR [(t 8)],
 mv 3 (t 9)] [])
 (.seq (.ops [mv 10 (t 3),
 o 11 (.ibin .neq (t 10) (k 0))] [])
 (.cond (t 11)
 (.seq (.ops [mv 12 (t 3),
 mv 2 (t 12)] [])
 (.ret))
 (.skip))))
 (.seq (.ops [mv 13 (t 0),
 o 14 (.nilck (t 13)),
 fa 15 16 (t 14),
 l1 16 (t 15),
 ad 17 (t 16) (k 1),
 o 18 (.nilck (t 13)),
 fa 19 16 (t 18),
 st 1 (t 19) (t 17)] [])
 (.seq (.ops [mv 20 (t 0),
 o 21 (.nilck (t 20)),
 fa 22 13 (t 21),
 l1 23 (t 22),
 ca 24 F.zhL [(t 23)]] [])
 (.seq (.seq (.ops [mv 25 (t 0),
 ca 26 F.zbP [(t 25)],
 o 27 (.len (t 26)),
 mv 28 (k 0)] [])
 (.block 0 (.loop (.seq (.ops [o 29 (.ibin .lss (t 28) (t 27))] [])
 (.seq (.cond (t 29)
  (.skip)
  (.exit 0))
 (.seq (.block 1 (.seq (.ops [o 30 (.iaddr 1 (t 26) (t 28)),
 l1 31 (t 30),
 mv 5 (t 31)] [])
 (.ops [mv 32 (t 0),
 o 33 (.nilck (t 32)),
 fa 34 12 (t 33),
 l1 35 (t 34),
 mv 36 (t 5),
 o 37 (.mget .int false (.pointer none) (t 35) (t 36)),
 o 38 (.nilck (t 37)),
 fa 39 0 (t 38),
 l1 40 (t 39),
 ca 41 F.zk7 [(t 40)]] [])))
 (.ops [ad 42 (t 28) (k 1),
 mv 28 (t 42)] [])))))))
 (.seq (.ops [mv 43 (t 0),
 o 44 (.nilck (t 43)),
 fa 45 14 (t 44),
 l1 46 (t 45),
 ca 47 F.zl5 [(t 46)]] [])
 (.seq (.seq (.draw (.take (mv 48 (t 0)) (.take (o 49 (.nilck (t 48))) (.take (fa 50 16 (t 49)) (.take (l1 51 (t 50)) (.take (mv 52 (t 0)) (.take (o 53 (.nilck (t 52))) (.take (fa 54 1 (t 53)) (.take (fa 55 6 (t 54)) (.take (l1 56 (t 55)) (.take (o 57 (.ibin .rem (t 51) (t 56))) (.take (o 58 (.ibin .eql (t 57) (k 0))) (.done)))))))))))) [])
 (.cond (t 58)
 (.seq (.ops [mv 59 (t 0),
 ca 60 F.zbP [(t 59)],
 o 61 (.len (t 60)),
 mv 62 (k 0)] [])
 (.block 2 (.loop (.seq (.ops [o 63 (.ibin .lss (t 62) (t 61))] [])
  (.seq (.cond (t 63)
  (.skip)
  (.exit 2))
  (.seq (.block 3 (.seq (.ops [o 64 (.iaddr 1 (t 60) (t 62)),
  l1 65 (t 64),
  mv 7 (t 65)] [])
  (.seq (.ops [mv 66 (t 0),
  o 67 (.nilck (t 66)),
  fa 68 12 (t 67),
  l1 69 (t 68),
  mv 70 (t 7),
  o 71 (.mget .int false (.pointer none) (t 69) (t 70)),
  o 72 (.nilck (t 71)),
  fa 73 0 (t 72),
  l1 74 (t 73),
  ca 75 F.zi8 [(t 74)]] [])
  (.cond (t 75)
  (.ops [mv 76 (t 0),
  mv 77 (t 7),
  mv 78 (t 0),
  o 79 (.nilck (t 78)),
  fa 80 13 (t 79),
  l1 81 (t 80),
  mv 82 (t 7),
  ca 83 F.zfH [(t 81),(t 82)],
  o 84 (.build [(i 0),(i 0),(i 0),(i 0),(i 0),(i 0),sn,sn] [(0,1,(k 4)),(7,1,(t 83))]),
  ca 85 F.zc5 [(t 76),(t 77),(t 84)]] [])
  (.skip)))))
  (.ops [ad 86 (t 62) (k 1),
  mv 62 (t 86)] [])))))))
 (.skip)))
 (.seq (.ops [mv 87 (t 0),
 ca 88 F.zaS [(t 87)]] [])
 (.seq (.ops [mv 2 (k 0)] [])
 (.ret)))))))))
def zgB:List zd:=[.tmp 2]
theorem zvu {args:List Value} {M:Mem} {R:Value→Mem→Prop} (hn:args.length≤89) (h:zj Tryz.prog zgA zgB args M R):CallsM Tryz.prog F.zi args M R:=
 zf (kf:=fun _=>[]) Tryz.func36 (by kernel_rfl) (by kernel_rfl) hn (by kernel_rfl) h
def zek:RCode:=
 .seq (.ops [o 3 (.box 24 (t 1)),
 mv 4 (k 0)] [])
 (.seq (.draw (.take (mv 6 (t 0)) (.take (o 7 (.nilck (t 6))) (.take (fa 8 15 (t 7)) (.take (l1 9 (t 8)) (.take (fa 10 1 (t 3)) (.take (l1 11 (t 10)) (.take (o 12 (.build [(i 0),(i 0),(i 0),(i 0),(i 0),(i 0),(i 0),sn,(.bool false)] [(0,1,(t 9)),(1,1,(t 11))])) (.alt (o 5 (.alloc 56 [(i 0),(i 0),(i 0),(i 0),(i 0),(i 0),(i 0),sn,(.bool false)])) false
 (.alt (st 9 (t 5) (t 12)) false
  (.done)
  (.none))
 (.none))))))))) [])
 (.seq (.block 0 (.seq (.draw (.take (mv 32 (t 0)) (.take (o 33 (.nilck (t 32))) (.take (fa 34 12 (t 33)) (.take (l1 35 (t 34)) (.take (fa 36 1 (t 3)) (.take (l1 37 (t 36)) (.take (o 38 (.iaddr 1 (t 35) (t 37))) (.take (l1 39 (t 38)) (.take (o 40 (.pnil .eql (t 39) (.const (.pointer none)))) (.take (mv 31 (t 40)) (.done))))))))))) [])
 (.cond (t 31)
 (.ops [fa 41 6 (t 5),
 st 1 (t 41) (k 9)] [])
 (.seq (.draw (.take (fa 43 2 (t 3)) (.take (l1 44 (t 43)) (.take (o 45 (.ibin .lss (t 44) (k 0))) (.take (os 46 (.mov (t 45))) (.take (gf 46 47 (.faddr 2 (t 3))) (.take (gf 46 48 (.load false 1 (t 47))) (.take (gf 46 49 (.mov (t 0))) (.take (gf 46 50 (.nilck (t 49))) (.take (gf 46 51 (.faddr 12 (t 50))) (.take (gf 46 52 (.load false 1 (t 51))) (.take (gf 46 53 (.len (t 52))) (.take (gf 46 54 (.ibin .geq (t 48) (t 53))) (.take (o 55 (.pick (t 46) (kb true) (t 54))) (.take (mv 42 (t 55)) (.done))))))))))))))) [])
 (.cond (t 42)
  (.ops [fa 56 6 (t 5),
  st 1 (t 56) (k 4)] [])
  (.draw (.take (mv 14 (t 0)) (.take (o 15 (.nilck (t 14))) (.take (fa 16 12 (t 15)) (.take (l1 17 (t 16)) (.take (fa 18 1 (t 3)) (.take (l1 19 (t 18)) (.take (o 20 (.iaddr 1 (t 17) (t 19))) (.take (l1 21 (t 20)) (.take (fa 22 2 (t 3)) (.take (l1 23 (t 22)) (.take (fa 24 4 (t 3)) (.take (l1 25 (t 24)) (.alt (ca 26 F.ziG [(t 21),(t 23),(t 25)]) false
  (.take (mv 13 (t 26)) (.take (ex 27 (t 13) 0) (.take (ex 28 (t 13) 1) (.take (fa 29 2 (t 5)) (.alt (st 4 (t 29) (t 27)) false
   (.take (fa 30 6 (t 5)) (.alt (st 1 (t 30) (t 28)) false
   (.done)
   (.none)))
   (.none))))))
  (.none)))))))))))))) []))))))
 (.seq (.draw (.take (mv 57 (t 0)) (.take (mv 58 (t 0)) (.take (o 59 (.nilck (t 58))) (.take (fa 60 14 (t 59)) (.take (l1 61 (t 60)) (.take (la 62 9 (t 5)) (.alt (o 63 (.mkSl true 56 1 [(i 0),(i 0),(i 0),(i 0),(i 0),(i 0),(i 0),sn,(.bool false)] [(0,9,(t 62))])) false
 (.alt (o 64 (.app 56 9 88 [(i 0),(i 0),(i 0),(i 0),(i 0),(i 0),(i 0),sn,(.bool false)] (t 61) (t 63))) false
  (.take (o 65 (.nilck (t 57))) (.take (fa 66 14 (t 65)) (.alt (st 1 (t 66) (t 64)) false
  (.done)
  (.none))))
  (.none))
 (.none)))))))) [])
 (.seq (.ops [mv 67 (t 0),
 fa 68 1 (t 3),
 l1 69 (t 68),
 ca 70 F.zaj [(t 67),(t 69)]] [])
 (.seq (.ops [fa 71 6 (t 5),
 l1 72 (t 71),
 mv 4 (t 72)] [])
 (.ret))))))
def zel:List zd:=[.tmp 4]
theorem zsJ {args:List Value} {M:Mem} {R:Value→Mem→Prop} (hn:args.length≤73) (h:zj Tryz.prog zek zel args M R):CallsM Tryz.prog F.ziF args M R:=
 zf (kf:=fun _=>[]) Tryz.func37 (by kernel_rfl) (by kernel_rfl) hn (by kernel_rfl) h
def zxl:RCode:=
 .seq (.ops [o 3 (.box 24 (t 1)),
 mv 4 (k 0)] [])
 (.seq (.seq (.draw (.take (mv 6 (t 0)) (.take (o 7 (.nilck (t 6))) (.take (fa 8 12 (t 7)) (.take (l1 9 (t 8)) (.take (fa 10 1 (t 3)) (.take (l1 11 (t 10)) (.take (o 12 (.iaddr 1 (t 9) (t 11))) (.take (l1 13 (t 12)) (.take (o 14 (.pnil .eql (t 13) (.const (.pointer none)))) (.done)))))))))) [])
 (.cond (t 14)
 (.seq (.ops [mv 4 (k 9)] [])
 (.ret))
 (.skip)))
 (.seq (.draw (.take (mv 15 (t 0)) (.take (o 16 (.nilck (t 15))) (.take (fa 17 12 (t 16)) (.take (l1 18 (t 17)) (.take (fa 19 1 (t 3)) (.take (l1 20 (t 19)) (.take (o 21 (.iaddr 1 (t 18) (t 20))) (.take (l1 22 (t 21)) (.alt (ca 23 F.zi [(t 22)]) false
 (.take (mv 5 (t 23)) (.done))
 (.none)))))))))) [])
 (.seq (.ops [mv 24 (t 0),
 fa 25 1 (t 3),
 l1 26 (t 25),
 ca 27 F.zaj [(t 24),(t 26)]] [])
 (.seq (.ops [mv 28 (t 5),
 mv 4 (t 28)] [])
 (.ret)))))
def zxm:List zd:=[.tmp 4]
def zvv:RCode:=
 .seq (.ops [o 3 (.box 24 (t 1)),
 mv 4 (k 0)] [])
 (.seq (.draw (.take (mv 6 (t 0)) (.take (o 7 (.nilck (t 6))) (.take (fa 8 13 (t 7)) (.take (l1 9 (t 8)) (.take (fa 10 1 (t 3)) (.take (l1 11 (t 10)) (.take (fa 12 2 (t 3)) (.take (l1 13 (t 12)) (.take (o 14 (.build [(i 0),(i 0)] [(0,1,(t 11)),(1,1,(t 13))])) (.take (o 15 (.mget (.agg 2) false (.pointer none) (t 9) (t 14))) (.take (mv 5 (t 15)) (.done)))))))))))) [])
 (.seq (.seq (.ops [mv 16 (t 5),
 o 17 (.pnil .eql (t 16) (.const (.pointer none)))] [])
 (.cond (t 17)
 (.seq (.ops [mv 4 (k 4)] [])
 (.ret))
 (.skip)))
 (.seq (.seq (.ops [fa 18 0 (t 3),
 l1 19 (t 18),
 o 20 (.ibin .eql (t 19) (k 4))] [])
 (.cond (t 20)
 (.seq (.ops [mv 21 (t 5),
 fa 22 3 (t 3),
 l1 23 (t 22),
 ca 24 F.zpe [(t 21),(t 23),(k 1)],
 mv 4 (t 24)] [])
 (.ret))
 (.skip)))
 (.seq (.seq (.ops [fa 25 4 (t 3),
 l1 26 (t 25),
 o 27 (.len (t 26)),
 o 28 (.ibin .neq (t 27) (k 1))] [])
 (.cond (t 28)
 (.seq (.ops [mv 4 (k 2)] [])
 (.ret))
 (.skip)))
 (.seq (.seq (.ops [fa 29 0 (t 3),
 l1 30 (t 29),
 o 31 (.ibin .eql (t 30) (k 5))] [])
 (.cond (t 31)
 (.seq (.draw (.take (mv 32 (t 5)) (.take (fa 33 3 (t 3)) (.take (l1 34 (t 33)) (.take (fa 35 4 (t 3)) (.take (l1 36 (t 35)) (.take (o 37 (.iaddr 1 (t 36) (k 0))) (.take (l1 38 (t 37)) (.take (o 39 (.conv .i64 (t 38))) (.alt (ca 40 F.zwO [(t 32),(t 34),(t 39)]) false
  (.take (mv 4 (t 40)) (.done))
  (.none)))))))))) [])
 (.ret))
 (.skip)))
 (.seq (.draw (.take (mv 41 (t 5)) (.take (fa 42 3 (t 3)) (.take (l1 43 (t 42)) (.take (fa 44 4 (t 3)) (.take (l1 45 (t 44)) (.take (o 46 (.iaddr 1 (t 45) (k 0))) (.take (l1 47 (t 46)) (.alt (ca 48 F.ztv [(t 41),(t 43),(t 47)]) false
 (.take (mv 4 (t 48)) (.done))
 (.none))))))))) [])
 (.ret)))))))
def zvw:List zd:=[.tmp 4]
def zvx:RCode:=
 .seq (.ops [o 3 (.box 24 (t 1)),
 mv 4 (k 0)] [])
 (.seq (.draw (.take (mv 10 (t 0)) (.take (o 11 (.nilck (t 10))) (.take (fa 12 12 (t 11)) (.take (l1 13 (t 12)) (.take (fa 14 1 (t 3)) (.take (l1 15 (t 14)) (.take (o 16 (.iaddr 1 (t 13) (t 15))) (.alt (st 1 (t 16) (.const (.pointer none))) false
 (.done)
 (.none))))))))) [])
 (.seq (.ops [mv 5 (.const sn)] [])
 (.seq (.seq (.ops [fa 17 4 (t 3),
 l1 18 (t 17),
 o 19 (.len (t 18)),
 mv 20 (k 0)] [])
 (.block 0 (.loop (.seq (.ops [o 21 (.ibin .lss (t 20) (t 19))] [])
 (.seq (.cond (t 21)
  (.skip)
  (.exit 0))
 (.seq (.block 1 (.seq (.ops [o 22 (.iaddr 1 (t 18) (t 20)),
 l1 23 (t 22),
 mv 7 (t 23)] [])
 (.ops [mv 24 (t 5),
 mv 25 (t 7),
 o 26 (.conv .i64 (t 25)),
 o 27 (.mkSl true 3 1 [(i 0)] [(0,1,(t 26))]),
 o 28 (.app 3 1 8 [(i 0)] (t 24) (t 27)),
 mv 5 (t 28)] [])))
 (.ops [ad 29 (t 20) (k 1),
 mv 20 (t 29)] [])))))))
 (.seq (.seq (.ops [mv 30 (t 0),
 ca 31 F.zc3 [(t 30)],
 o 32 (.len (t 31)),
 mv 33 (k 0)] [])
 (.block 2 (.loop (.seq (.ops [o 34 (.ibin .lss (t 33) (t 32))] [])
 (.seq (.cond (t 34)
  (.skip)
  (.exit 2))
 (.seq (.block 3 (.seq (.ops [o 35 (.iaddr 2 (t 31) (t 33)),
 la 36 2 (t 35),
 o 9 (.alloc 71 [(i 0),(i 0)]),
 st 2 (t 9) (t 36)] [])
 (.seq (.ops [o 37 (.iaddrA 2 1 (t 9) (k 0)),
 l1 38 (t 37),
 fa 39 1 (t 3),
 l1 40 (t 39),
 o 41 (.ibin .eql (t 38) (t 40)),
 os 42 (.mov (t 41)),
 gf 42 43 (.iaddrA 2 1 (t 9) (k 1)),
 gf 42 44 (.load false 1 (t 43)),
 gf 42 45 (.faddr 1 (t 3)),
 gf 42 46 (.load false 1 (t 45)),
 gf 42 47 (.ibin .eql (t 44) (t 46)),
 o 48 (.pick (t 42) (kb true) (t 47))] [])
 (.cond (t 48)
  (.draw (.take (mv 49 (t 0)) (.take (o 50 (.nilck (t 49))) (.take (fa 51 13 (t 50)) (.take (l1 52 (t 51)) (.take (la 53 2 (t 9)) (.take (o 54 (.mget (.agg 2) false (.pointer none) (t 52) (t 53))) (.take (mv 55 (t 0)) (.take (o 56 (.nilck (t 55))) (.take (fa 57 13 (t 56)) (.take (l1 58 (t 57)) (.take (la 59 2 (t 9)) (.take (o 60 (.mget (.agg 2) false (.pointer none) (t 58) (t 59))) (.alt (ca 61 F.zyK [(t 60)]) true
  (.alt (ca 62 F.zpe [(t 54),(k 0),(t 61)]) false
   (.done)
   (.none))
  (.none)))))))))))))) [])
  (.skip)))))
 (.ops [ad 63 (t 33) (k 1),
 mv 33 (t 63)] [])))))))
 (.seq (.draw (.take (mv 64 (t 0)) (.take (o 65 (.nilck (t 64))) (.take (fa 66 11 (t 65)) (.take (l1 67 (t 66)) (.take (fa 68 1 (t 3)) (.take (l1 69 (t 68)) (.take (o 70 (.iaddr 1 (t 67) (t 69))) (.take (l1 71 (t 70)) (.take (mv 72 (t 5)) (.alt (ca 73 F.zjP [(t 71),(t 72)]) false
 (.take (mv 4 (t 73)) (.done))
 (.none))))))))))) [])
 (.ret))))))
def zvy:List zd:=[.tmp 4]
def zvz:RCode:=
 .seq (.ops [o 3 (.box 24 (t 1)),
 mv 4 (k 0)] [])
 (.seq (.seq (.draw (.take (mv 5 (t 0)) (.take (o 6 (.nilck (t 5))) (.take (fa 7 12 (t 6)) (.take (l1 8 (t 7)) (.take (fa 9 1 (t 3)) (.take (l1 10 (t 9)) (.take (o 11 (.iaddr 1 (t 8) (t 10))) (.take (l1 12 (t 11)) (.take (o 13 (.pnil .neq (t 12) (.const (.pointer none)))) (.done)))))))))) [])
 (.cond (t 13)
 (.seq (.ops [mv 4 (k 7)] [])
 (.ret))
 (.skip)))
 (.seq (.ops [mv 14 (t 0),
 fa 15 1 (t 3),
 l1 16 (t 15),
 ca 17 F.zf9 [(t 14),(t 16)],
 mv 4 (t 17)] [])
 (.ret)))
def zvA:List zd:=[.tmp 4]
def zsK:RCode:=
 .seq (.ops [o 3 (.box 24 (t 1)),
 mv 4 (k 0)] [])
 (.seq (.seq (.draw (.take (mv 6 (t 0)) (.take (o 7 (.nilck (t 6))) (.take (fa 8 12 (t 7)) (.take (l1 9 (t 8)) (.take (fa 10 1 (t 3)) (.take (l1 11 (t 10)) (.take (o 12 (.iaddr 1 (t 9) (t 11))) (.take (l1 13 (t 12)) (.take (o 14 (.pnil .eql (t 13) (.const (.pointer none)))) (.done)))))))))) [])
 (.cond (t 14)
 (.seq (.ops [mv 4 (k 9)] [])
 (.ret))
 (.skip)))
 (.seq (.draw (.take (mv 15 (t 0)) (.take (o 16 (.nilck (t 15))) (.take (fa 17 12 (t 16)) (.take (l1 18 (t 17)) (.take (fa 19 1 (t 3)) (.take (l1 20 (t 19)) (.take (o 21 (.iaddr 1 (t 18) (t 20))) (.take (l1 22 (t 21)) (.alt (ca 23 F.zsC [(t 22)]) false
 (.take (mv 5 (t 23)) (.done))
 (.none)))))))))) [])
 (.seq (.ops [mv 24 (t 0),
 fa 25 1 (t 3),
 l1 26 (t 25),
 ca 27 F.zaj [(t 24),(t 26)]] [])
 (.seq (.ops [mv 28 (t 5),
 mv 4 (t 28)] [])
 (.ret)))))
def zsL:List zd:=[.tmp 4]
def zy2:RCode:=
 .seq (.ops [mv 4 (k 0)] [])
 (.seq (.seq (.ops [mv 6 (t 0),
 ca 7 F.zbv [(t 6),(.const sn)],
 mv 5 (t 7)] [])
 (.seq (.ops [mv 8 (t 5),
 o 9 (.ibin .neq (t 8) (k 0))] [])
 (.cond (t 9)
 (.seq (.ops [mv 10 (t 5),
 mv 4 (t 10)] [])
 (.ret))
 (.skip))))
 (.seq (.ops [mv 11 (t 0),
 mv 12 (t 0),
 mv 13 (t 1),
 o 14 (.imm true (t 13) (k (-1))),
 mv 15 (t 1),
 o 16 (.ibin .eql (t 15) (k 0)),
 o 17 (.nilck (t 11)),
 fa 18 2 (t 17),
 st 1 (t 18) (t 14),
 o 19 (.nilck (t 12)),
 fa 20 3 (t 19),
 st 1 (t 20) (t 16)] [])
 (.seq (.ops [mv 4 (k 0)] [])
 (.ret))))
def zy3:List zd:=[.tmp 4]
def zmb:RCode:=
 .seq (.ops [o 2 (.box 86 (t 0)),
 o 3 (.box 86 (t 1)),
 mv 4 (kb false)] [])
 (.seq (.ops [fa 5 0 (t 2),
 la 6 4 (t 5),
 fa 7 0 (t 3),
 la 8 4 (t 7),
 o 9 (.aeq .eql 4 (t 6) (t 8)),
 os 10 (.mov (t 9)),
 gt 10 11 (.faddr 4 (t 2)),
 gt 10 12 (.load false 1 (t 11)),
 gt 10 13 (.strOf (t 12)),
 gt 10 14 (.faddr 4 (t 3)),
 gt 10 15 (.load false 1 (t 14)),
 gt 10 16 (.strOf (t 15)),
 gt 10 17 (.strE .eql (t 13) (t 16)),
 o 18 (.pick (t 10) (t 17) (kb false)),
 mv 4 (t 18)] [])
 (.ret))
def zmc:List zd:=[.tmp 4]
theorem zBj {args:List Value} {M:Mem} {R:Value→Mem→Prop} (hn:args.length≤19) (h:zj Tryz.prog zmb zmc args M R):CallsM Tryz.prog F.zpd args M R:=
 zf (kf:=fun _=>[]) Tryz.func44 (by kernel_rfl) (by kernel_rfl) hn (by kernel_rfl) h
def ze8:RCode:=
 .seq (.ops [mv 2 (.const sn)] [])
 (.seq (.seq (.ops [mv 5 (t 0),
 o 6 (.pnil .eql (t 5) (.const (.pointer none)))] [])
 (.cond (t 6)
 (.seq (.ops [mv 2 (.const sn)] [])
 (.ret))
 (.skip)))
 (.seq (.ops [mv 3 (.const sn)] [])
 (.seq (.seq (.ops [mv 7 (t 0),
 o 8 (.nilck (t 7)),
 fa 9 1 (t 8),
 l1 10 (t 9),
 o 11 (.mrange (t 10))] [])
 (.block 0 (.loop (.seq (.ops [o 12 (.mnext (t 11)),
 ex 13 (t 12) 0] [])
 (.seq (.cond (t 13)
  (.skip)
  (.exit 0))
 (.block 1 (.seq (.ops [o 14 (.mentry (t 11)),
 ex 15 (t 14) 0,
 mv 4 (t 15)] [])
 (.ops [mv 16 (t 3),
 mv 17 (t 4),
 o 18 (.mkSl true 9 1 [(.string ByteArray.empty)] [(0,1,(t 17))]),
 o 19 (.app 9 1 16 [(.string ByteArray.empty)] (t 16) (t 18)),
 mv 3 (t 19)] []))))))))
 (.seq (.ops [mv 20 (t 3),
 ca 21 F.zca [(t 20)]] [])
 (.seq (.ops [mv 22 (t 3),
 mv 2 (t 22)] [])
 (.ret))))))
def ze9:List zd:=[.tmp 2]
theorem ztJ {args:List Value} {M:Mem} {R:Value→Mem→Prop} (hn:args.length≤23) (h:zj Tryz.prog ze8 ze9 args M R):CallsM Tryz.prog F.zbu args M R:=
 zf (kf:=fun _=>[]) Tryz.func45 (by kernel_rfl) (by kernel_rfl) hn (by kernel_rfl) h
def zne:RCode:=
 .seq (.ops [o 3 (.box 44 (t 1)),
 mv 4 (.const (.pointer none)),
 mv 5 (k 0)] [])
 (.seq (.seq (.ops [mv 8 (t 0),
 ca 9 F.zcJ [(t 8),(k 63)],
 o 10 (.not (t 9)),
 os 11 (.mov (t 10)),
 gf 11 12 (.faddr 0 (t 3)),
 gf 11 13 (.load false 1 (t 12)),
 gf 11 14 (.call (fn F.zcJ) [(t 13),(k 256)]),
 gf 11 15 (.not (t 14)),
 o 16 (.pick (t 11) (kb true) (t 15)),
 os 17 (.mov (t 16)),
 gf 17 18 (.faddr 1 (t 3)),
 gf 17 19 (.load false 1 (t 18)),
 gf 17 20 (.call (fn F.zcJ) [(t 19),(k 1048576)]),
 gf 17 21 (.not (t 20)),
 o 22 (.pick (t 17) (kb true) (t 21)),
 os 23 (.mov (t 22)),
 gf 23 24 (.faddr 2 (t 3)),
 gf 23 25 (.load false 1 (t 24)),
 gf 23 26 (.call (fn F.zcJ) [(t 25),(k 256)]),
 gf 23 27 (.not (t 26)),
 o 28 (.pick (t 23) (kb true) (t 27))] [])
 (.cond (t 28)
 (.seq (.ops [mv 4 (.const (.pointer none)),
 mv 5 (k 1)] [])
 (.ret))
 (.skip)))
 (.seq (.ops [fa 30 2 (t 3),
 l1 31 (t 30),
 ca 32 F.zod [(t 31)],
 mv 29 (t 32),
 ex 33 (t 29) 0,
 ex 34 (t 29) 1,
 mv 6 (t 33),
 mv 7 (t 34)] [])
 (.seq (.ops [mv 35 (t 0),
 la 36 3 (t 3),
 o 37 (.mkMap),
 mv 38 (t 6),
 o 39 (.build [(i 0),(i 0),(i 0),(i 0),(i 0),(i 0),(i 0),(i 0),(i 0),(i 0),(i 0),(i 0),(i 0),(i 0),(i 0),(i 0),(i 0),(i 0),(i 0),(i 0),(i 0),(i 0),(i 0),(i 0),(i 0),(i 0),(i 0),(i 0),(i 0),(i 0),(i 0),(i 0),(i 0),(i 0),(i 0),(i 0),(i 0),(i 0),(i 0),(i 0),(i 0),(i 0),(i 0),(i 0),(i 0),(i 0),(i 0),(i 0),(i 0),(i 0),(i 0),(i 0),(i 0),(i 0),(i 0),(i 0),(i 0),(i 0),(i 0),(i 0),(i 0),(i 0),(i 0),(i 0),(i 0),(i 0),(i 0),(i 0),(i 0),(.map none),(i 0),(i 0),(.pointer none)] [(0,1,(t 35)),(1,3,(t 36)),(69,1,(t 37)),(72,1,(t 38))]),
 o 40 (.box 156 (t 39)),
 mv 4 (t 40),
 mv 5 (k 0)] [])
 (.ret))))
def znf:List zd:=[.tmp 4,.tmp 5]
theorem zCq {args:List Value} {M:Mem} {R:Value→Mem→Prop} (hn:args.length≤41) (h:zj Tryz.prog zne znf args M R):CallsM Tryz.prog F.zkk args M R:=
 zf (kf:=fun _=>[]) Tryz.func46 (by kernel_rfl) (by kernel_rfl) hn (by kernel_rfl) h
def zgC:RCode:=
 .seq (.ops [mv 2 (kb false)] [])
 (.seq (.ops [mv 3 (t 0),
 o 4 (.pnil .neq (t 3) (.const (.pointer none))),
 os 5 (.mov (t 4)),
 gt 5 6 (.mov (t 0)),
 gt 5 7 (.nilck (t 6)),
 gt 5 8 (.faddr 3 (t 7)),
 gt 5 9 (.load false 1 (t 8)),
 o 10 (.pick (t 5) (t 9) (kb false)),
 mv 2 (t 10)] [])
 (.ret))
def zgD:List zd:=[.tmp 2]
theorem zvB {args:List Value} {M:Mem} {R:Value→Mem→Prop} (hn:args.length≤11) (h:zj Tryz.prog zgC zgD args M R):CallsM Tryz.prog F.zbO args M R:=
 zf (kf:=fun _=>[]) Tryz.func47 (by kernel_rfl) (by kernel_rfl) hn (by kernel_rfl) h
def zbC:RCode:=
 .seq (.ops [mv 2 (k 0)] [])
 (.seq (.seq (.ops [mv 3 (t 0),
 ca 4 F.zch [(t 3),(.const (.string ⟨#[116]⟩))]] [])
 (.cond (t 4)
 (.seq (.ops [mv 5 (t 0),
 o 6 (.nilck (t 5)),
 fa 7 1 (t 6),
 l1 8 (t 7),
 ca 9 F.zcb [(t 8),(.const (.string ⟨#[116]⟩))],
 mv 2 (t 9)] [])
 (.ret))
 (.skip)))
 (.seq (.ops [mv 2 (k 0)] [])
 (.ret)))
def zbD:List zd:=[.tmp 2]
theorem zpl {args:List Value} {M:Mem} {R:Value→Mem→Prop} (hn:args.length≤10) (h:zj Tryz.prog zbC zbD args M R):CallsM Tryz.prog F.zdX args M R:=
 zf (kf:=fun _=>[]) Tryz.func48 (by kernel_rfl) (by kernel_rfl) hn (by kernel_rfl) h
def zbW:RCode:=
 .seq (.ops [o 5 (.box 44 (t 2)),
 mv 6 (k 0)] [])
 (.seq (.ops [mv 15 (t 0),
 ca 16 F.zdY [(t 15)],
 mv 7 (t 16)] [])
 (.seq (.seq (.ops [mv 17 (t 7),
 o 18 (.len (t 17)),
 o 19 (.ibin .eql (t 18) (k 0))] [])
 (.cond (t 19)
 (.seq (.ops [mv 6 (k 0)] [])
 (.ret))
 (.skip)))
 (.seq (.ops [mv 20 (t 0),
 mv 21 (t 7),
 mv 22 (t 7),
 o 23 (.len (t 22)),
 o 24 (.ibin .sub (t 23) (k 1)),
 o 25 (.iaddr 1 (t 21) (t 24)),
 l1 26 (t 25),
 o 27 (.nilck (t 20)),
 fa 28 3 (t 27),
 st 1 (t 28) (t 26)] [])
 (.seq (.draw (.take (mv 30 (t 0)) (.take (o 31 (.nilck (t 30))) (.take (fa 32 1 (t 31)) (.take (l1 33 (t 32)) (.take (mv 34 (t 0)) (.take (o 35 (.nilck (t 34))) (.take (fa 36 3 (t 35)) (.take (l1 37 (t 36)) (.alt (ca 38 F.zfI [(t 37)]) true
 (.alt (ca 39 F.zc6 [(t 33),(t 38)]) false
  (.take (mv 29 (t 39)) (.take (ex 40 (t 29) 0) (.take (ex 41 (t 29) 1) (.take (mv 8 (t 40)) (.take (mv 9 (t 41)) (.done))))))
  (.none))
 (.none)))))))))) [])
 (.seq (.seq (.ops [mv 42 (t 9),
 o 43 (.ibin .neq (t 42) (k 0))] [])
 (.cond (t 43)
 (.seq (.ops [mv 44 (t 9),
 mv 6 (t 44)] [])
 (.ret))
 (.skip)))
 (.seq (.seq (.ops [mv 45 (t 7),
 mv 46 (t 7),
 o 47 (.len (t 46)),
 o 48 (.ibin .sub (t 47) (k 1)),
 o 49 (.slx 1 (t 45) none (some (t 48))),
 o 50 (.len (t 49)),
 mv 51 (k 0)] [])
 (.block 0 (.loop (.seq (.ops [o 52 (.ibin .lss (t 51) (t 50))] [])
 (.seq (.cond (t 52)
  (.skip)
  (.exit 0))
 (.seq (.block 1 (.seq (.ops [o 53 (.iaddr 1 (t 49) (t 51)),
 l1 54 (t 53),
 mv 11 (t 54)] [])
 (.seq (.draw (.take (mv 55 (t 0)) (.take (o 56 (.nilck (t 55))) (.take (fa 57 1 (t 56)) (.take (l1 58 (t 57)) (.take (mv 59 (t 11)) (.alt (ca 60 F.zfI [(t 59)]) true
  (.alt (ca 61 F.zcb [(t 58),(t 60)]) false
  (.take (mv 12 (t 61)) (.done))
  (.none))
  (.none))))))) [])
 (.seq (.ops [mv 62 (t 12),
 o 63 (.ibin .neq (t 62) (k 0))] [])
 (.cond (t 63)
  (.seq (.ops [mv 64 (t 12),
  mv 6 (t 64)] [])
  (.ret))
  (.skip))))))
 (.ops [ad 65 (t 51) (k 1),
 mv 51 (t 65)] [])))))))
 (.seq (.ops [mv 67 (t 8),
 ca 68 F.zEG [(t 67)],
 mv 66 (t 68),
 ex 69 (t 66) 0,
 ex 70 (t 66) 1,
 o 13 (.alloc 37 [(i 0),(i 0),sn,sn,sn]),
 st 5 (t 13) (t 69),
 mv 9 (t 70)] [])
 (.seq (.seq (.ops [mv 71 (t 9),
 o 72 (.ibin .neq (t 71) (k 0)),
 os 73 (.mov (t 72)),
 gf 73 74 (.faddr 0 (t 13)),
 gf 73 75 (.load false 1 (t 74)),
 gf 73 76 (.mov (t 1)),
 gf 73 77 (.ibin .neq (t 75) (t 76)),
 o 78 (.pick (t 73) (kb true) (t 77))] [])
 (.cond (t 78)
 (.seq (.ops [mv 6 (k 2)] [])
 (.ret))
 (.skip)))
 (.seq (.ops [la 80 3 (t 5),
 la 81 5 (t 13),
 ca 82 F.ztw [(t 80),(t 81)],
 mv 79 (t 82),
 ex 83 (t 79) 0,
 ex 84 (t 79) 1,
 mv 14 (t 83),
 mv 9 (t 84)] [])
 (.seq (.seq (.ops [mv 85 (t 9),
 o 86 (.ibin .neq (t 85) (k 0))] [])
 (.cond (t 86)
 (.seq (.ops [mv 6 (k 6)] [])
 (.ret))
 (.skip)))
 (.seq (.ops [mv 87 (t 0),
 mv 88 (t 14),
 o 89 (.build [(.pointer none)] [(0,1,(t 88))]),
 o 90 (.nilck (t 87)),
 fa 91 0 (t 90),
 st 1 (t 91) (t 89)] [])
 (.seq (.ops [mv 6 (k 0)] [])
 (.ret)))))))))))))
def zbX:List zd:=[.tmp 6]
theorem zpD {args:List Value} {M:Mem} {R:Value→Mem→Prop} (hn:args.length≤92) (h:zj Tryz.prog zbW zbX args M R):CallsM Tryz.prog F.zeL args M R:=
 zf (kf:=fun _=>[]) Tryz.func49 (by kernel_rfl) (by kernel_rfl) hn (by kernel_rfl) h
def zbl:RCode:=
 .seq (.ops [mv 4 (k 0)] [])
 (.seq (.draw (.take (mv 13 (t 0)) (.take (o 14 (.nilck (t 13))) (.take (fa 15 1 (t 14)) (.take (l1 16 (t 15)) (.take (mv 17 (t 0)) (.take (o 18 (.nilck (t 17))) (.take (fa 19 3 (t 18)) (.take (l1 20 (t 19)) (.take (o 21 (.imm true (t 20) (k 1))) (.take (mv 22 (t 1)) (.alt (ca 23 F.zrP [(t 16),(t 21),(t 22)]) false
 (.take (mv 12 (t 23)) (.take (ex 24 (t 12) 0) (.take (ex 25 (t 12) 1) (.take (ex 26 (t 12) 2) (.take (mv 5 (t 24)) (.take (mv 6 (t 25)) (.take (mv 7 (t 26)) (.done))))))))
 (.none)))))))))))) [])
 (.seq (.seq (.ops [mv 27 (t 7),
 o 28 (.ibin .neq (t 27) (k 0))] [])
 (.cond (t 28)
 (.seq (.ops [mv 29 (t 7),
 mv 4 (t 29)] [])
 (.ret))
 (.skip)))
 (.seq (.ops [mv 30 (t 0),
 mv 31 (t 5),
 o 32 (.nilck (t 30)),
 fa 33 2 (t 32),
 st 1 (t 33) (t 31)] [])
 (.seq (.seq (.ops [mv 34 (t 6),
 o 35 (.len (t 34)),
 mv 36 (k 0)] [])
 (.block 0 (.loop (.seq (.ops [o 37 (.ibin .lss (t 36) (t 35))] [])
 (.seq (.cond (t 37)
  (.skip)
  (.exit 0))
 (.seq (.block 1 (.seq (.ops [o 38 (.iaddr 1 (t 34) (t 36)),
 l1 39 (t 38),
 mv 9 (t 39)] [])
 (.seq (.ops [mv 41 (t 9),
 ca 42 F.zA9 [(t 41)],
 mv 40 (t 42),
 ex 43 (t 40) 0,
 ex 44 (t 40) 1,
 o 10 (.alloc 168 [(i 0),(i 0),(i 0),(i 0),(i 0),sn]),
 st 6 (t 10) (t 43),
 mv 11 (t 44)] [])
 (.seq (.draw (.take (mv 45 (t 11)) (.take (o 46 (.ibin .neq (t 45) (k 0))) (.take (os 47 (.mov (t 46))) (.take (gf 47 48 (.mov (t 0))) (.take (gf 47 49 (.nilck (t 48))) (.take (gf 47 50 (.faddr 0 (t 49))) (.take (gf 47 51 (.faddr 0 (t 50))) (.take (gf 47 52 (.load false 1 (t 51))) (.take (gf 47 53 (.load true 6 (t 10))) (.alt (gf 47 54 (.call (fn F.zbL) [(t 52),(t 53)])) false
  (.take (gf 47 55 (.ibin .neq (t 54) (k 0))) (.take (o 56 (.pick (t 47) (kb true) (t 55))) (.done)))
  (.none))))))))))) [])
 (.cond (t 56)
  (.seq (.ops [mv 4 (k 2)] [])
  (.ret))
  (.skip))))))
 (.ops [ad 57 (t 36) (k 1),
 mv 36 (t 57)] [])))))))
 (.seq (.ops [mv 4 (k 0)] [])
 (.ret))))))
def zbm:List zd:=[.tmp 4]
theorem zoi {args:List Value} {M:Mem} {R:Value→Mem→Prop} (hn:args.length≤58) (h:zj Tryz.prog zbl zbm args M R):CallsM Tryz.prog F.zc4 args M R:=
 zf (kf:=fun _=>[]) Tryz.func50 (by kernel_rfl) (by kernel_rfl) hn (by kernel_rfl) h
def zbY:RCode:=
 .seq (.ops [mv 2 (k 0)] [])
 (.seq (.ops [mv 4 (t 0),
 o 5 (.build [(i 0),(i 0),(i 0),(i 0),(i 0),sn] [(0,1,(k 1))]),
 ca 6 F.zab [(t 4),(t 5),(kb true)],
 mv 3 (t 6)] [])
 (.seq (.seq (.ops [mv 7 (t 3),
 o 8 (.ibin .eql (t 7) (k 10))] [])
 (.cond (t 8)
 (.seq (.ops [mv 9 (t 0),
 o 10 (.nilck (t 9)),
 fa 11 5 (t 10),
 st 1 (t 11) (kb true)] [])
 (.seq (.ops [mv 2 (k 0)] [])
 (.ret)))
 (.skip)))
 (.seq (.ops [mv 12 (t 3),
 mv 2 (t 12)] [])
 (.ret))))
def zbZ:List zd:=[.tmp 2]
theorem zpE {args:List Value} {M:Mem} {R:Value→Mem→Prop} (hn:args.length≤13) (h:zj Tryz.prog zbY zbZ args M R):CallsM Tryz.prog F.zeM args M R:=
 zf (kf:=fun _=>[]) Tryz.func51 (by kernel_rfl) (by kernel_rfl) hn (by kernel_rfl) h
def zdp:RCode:=
 .seq (.ops [o 2 (.alloc 37 [(i 0),(i 0),sn,sn,sn])] [])
 (.seq (.seq (.ops [mv 6 (t 0),
 o 7 (.pnil .eql (t 6) (.const (.pointer none)))] [])
 (.cond (t 7)
 (.seq (.ops [o 8 (.build [(i 0),(i 0),sn,sn,sn] []),
 st 5 (t 2) (t 8)] [])
 (.ret))
 (.skip)))
 (.seq (.draw (.take (mv 9 (t 0)) (.take (o 10 (.nilck (t 9))) (.take (fa 11 0 (t 10)) (.take (l1 12 (t 11)) (.take (mv 13 (t 0)) (.take (o 14 (.nilck (t 13))) (.take (fa 15 4 (t 14)) (.take (l1 16 (t 15)) (.take (mv 17 (t 0)) (.take (mv 19 (t 0)) (.take (o 20 (.nilck (t 19))) (.take (fa 21 72 (t 20)) (.take (l1 22 (t 21)) (.alt (ca 18 F.zcc [(t 17)]) true
 (.alt (ca 23 F.zc7 [(t 22)]) true
  (.take (o 24 (.build [(i 0),(i 0),sn,sn,sn] [(0,1,(t 12)),(1,1,(t 16)),(3,1,(t 18)),(4,1,(t 23))])) (.alt (o 3 (.alloc 37 [(i 0),(i 0),sn,sn,sn])) false
  (.alt (st 5 (t 3) (t 24)) false
   (.done)
   (.none))
  (.none)))
  (.alt (o 3 (.alloc 37 [(i 0),(i 0),sn,sn,sn])) false
  (.alt (ca 23 F.zc7 [(t 22)]) true
   (.take (o 24 (.build [(i 0),(i 0),sn,sn,sn] [(0,1,(t 12)),(1,1,(t 16)),(3,1,(t 18)),(4,1,(t 23))])) (.alt (st 5 (t 3) (t 24)) false
   (.done)
   (.none)))
   (.none))
  (.none)))
 (.alt (o 3 (.alloc 37 [(i 0),(i 0),sn,sn,sn])) false
  (.alt (ca 18 F.zcc [(t 17)]) true
  (.alt (ca 23 F.zc7 [(t 22)]) true
   (.take (o 24 (.build [(i 0),(i 0),sn,sn,sn] [(0,1,(t 12)),(1,1,(t 16)),(3,1,(t 18)),(4,1,(t 23))])) (.alt (st 5 (t 3) (t 24)) false
   (.done)
   (.none)))
   (.none))
  (.none))
  (.none)))))))))))))))) [])
 (.seq (.seq (.ops [mv 25 (t 0),
 o 26 (.nilck (t 25)),
 fa 27 5 (t 26),
 la 28 64 (t 27),
 mv 29 (k 0)] [])
 (.block 0 (.loop (.seq (.ops [o 30 (.ibin .lss (t 29) (k 64))] [])
 (.seq (.cond (t 30)
  (.skip)
  (.exit 0))
 (.seq (.block 1 (.seq (.ops [mv 31 (t 29),
 o 32 (.aidx false 64 1 (t 28) (t 29)),
 mv 4 (t 31),
 mv 5 (t 32)] [])
 (.seq (.ops [mv 33 (t 5),
 o 34 (.ibin .gtr (t 33) (k 0))] [])
 (.cond (t 34)
  (.ops [fa 35 2 (t 3),
  l1 36 (t 35),
  mv 37 (t 4),
  mv 38 (t 5),
  o 39 (.build [(i 0),(i 0)] [(0,1,(t 37)),(1,1,(t 38))]),
  o 40 (.mkSl true 59 1 [(i 0),(i 0)] [(0,2,(t 39))]),
  o 41 (.app 59 2 16 [(i 0),(i 0)] (t 36) (t 40)),
  fa 42 2 (t 3),
  st 1 (t 42) (t 41)] [])
  (.skip)))))
 (.ops [ad 43 (t 29) (k 1),
 mv 29 (t 43)] [])))))))
 (.seq (.ops [la 44 5 (t 3),
 st 5 (t 2) (t 44)] [])
 (.ret)))))
def zdq:List zd:=[.cell true 5 2]
theorem zr0 {args:List Value} {M:Mem} {R:Value→Mem→Prop} (hn:args.length≤45) (h:zj Tryz.prog zdp zdq args M R):CallsM Tryz.prog F.zdk args M R:=
 zf (kf:=fun _=>[]) Tryz.func52 (by kernel_rfl) (by kernel_rfl) hn (by kernel_rfl) h
def zdr:RCode:=
 .seq (.ops [mv 4 (k 0)] [])
 (.seq (.seq (.ops [mv 9 (t 0),
 o 10 (.pnil .eql (t 9) (.const (.pointer none))),
 os 11 (.mov (t 10)),
 gf 11 12 (.mov (t 1)),
 gf 11 13 (.call (fn F.zd3) [(t 12)]),
 gf 11 14 (.not (t 13)),
 o 15 (.pick (t 11) (kb true) (t 14))] [])
 (.cond (t 15)
 (.seq (.ops [mv 4 (k 16)] [])
 (.ret))
 (.skip)))
 (.seq (.seq (.ops [mv 16 (t 1),
 mv 17 (t 0),
 o 18 (.nilck (t 17)),
 fa 19 0 (t 18),
 l1 20 (t 19),
 o 21 (.ibin .eql (t 16) (t 20))] [])
 (.cond (t 21)
 (.seq (.ops [mv 4 (k 0)] [])
 (.ret))
 (.skip)))
 (.seq (.seq (.ops [mv 23 (t 0),
 o 24 (.nilck (t 23)),
 fa 25 3 (t 24),
 l1 26 (t 25),
 mv 27 (t 1),
 o 28 (.mget .int true (i 0) (t 26) (t 27)),
 mv 22 (t 28),
 ex 29 (t 22) 0,
 ex 30 (t 22) 1,
 mv 5 (t 29),
 mv 6 (t 30)] [])
 (.seq (.ops [mv 31 (t 6)] [])
 (.cond (t 31)
 (.seq (.ops [mv 32 (t 0),
 mv 33 (t 1),
 mv 34 (t 5),
 ca 35 F.zbM [(t 32),(t 33),(t 34)],
 mv 4 (t 35)] [])
 (.ret))
 (.skip))))
 (.seq (.ops [mv 7 (k 16)] [])
 (.seq (.seq (.ops [mv 36 (t 0),
 o 37 (.nilck (t 36)),
 fa 38 4 (t 37),
 l1 39 (t 38),
 o 40 (.mrange (t 39))] [])
 (.block 0 (.loop (.seq (.ops [o 41 (.mnext (t 40)),
 ex 42 (t 41) 0] [])
 (.seq (.cond (t 42)
  (.skip)
  (.exit 0))
 (.block 1 (.seq (.ops [o 43 (.mentry (t 40)),
 ex 44 (t 43) 0,
 mv 8 (t 44)] [])
 (.ops [mv 45 (t 7),
 mv 46 (t 0),
 mv 47 (t 1),
 mv 48 (t 8),
 ca 49 F.zbM [(t 46),(t 47),(t 48)],
 o 50 (.imm false (t 45) (t 49)),
 mv 7 (t 50)] []))))))))
 (.seq (.ops [mv 51 (t 7),
 mv 4 (t 51)] [])
 (.ret)))))))
def zds:List zd:=[.tmp 4]
theorem zr1 {args:List Value} {M:Mem} {R:Value→Mem→Prop} (hn:args.length≤52) (h:zj Tryz.prog zdr zds args M R):CallsM Tryz.prog F.zbK args M R:=
 zf (kf:=fun _=>[]) Tryz.func53 (by kernel_rfl) (by kernel_rfl) hn (by kernel_rfl) h
def zmd:RCode:=
 .seq (.ops [o 1 (.box 46 (t 0)),
 mv 2 (k 0)] [])
 (.seq (.seq (.ops [fa 6 0 (t 1),
 la 7 3 (t 6),
 ca 8 F.zkk [(k 0),(t 7)],
 mv 5 (t 8),
 ex 9 (t 5) 0,
 ex 10 (t 5) 1,
 mv 3 (t 9),
 mv 4 (t 10)] [])
 (.seq (.ops [mv 11 (t 4),
 o 12 (.ibin .neq (t 11) (k 0))] [])
 (.cond (t 12)
 (.seq (.ops [mv 13 (t 4),
 mv 2 (t 13)] [])
 (.ret))
 (.skip))))
 (.seq (.seq (.ops [fa 14 3 (t 1),
 l1 15 (t 14),
 ca 16 F.zea [(t 15),(k 1),(k 1048576)],
 o 17 (.not (t 16)),
 os 18 (.mov (t 17)),
 gf 18 19 (.faddr 4 (t 1)),
 gf 18 20 (.load false 1 (t 19)),
 gf 18 21 (.call (fn F.zea) [(t 20),(k 16),(k 1048576)]),
 gf 18 22 (.not (t 21)),
 o 23 (.pick (t 18) (kb true) (t 22)),
 os 24 (.mov (t 23)),
 gf 24 25 (.faddr 5 (t 1)),
 gf 24 26 (.load false 1 (t 25)),
 gf 24 27 (.call (fn F.zea) [(t 26),(k 1),(k 63)]),
 gf 24 28 (.not (t 27)),
 o 29 (.pick (t 24) (kb true) (t 28)),
 os 30 (.mov (t 29)),
 gf 30 31 (.faddr 6 (t 1)),
 gf 30 32 (.load false 1 (t 31)),
 gf 30 33 (.call (fn F.zea) [(t 32),(k 1),(k 64)]),
 gf 30 34 (.not (t 33)),
 o 35 (.pick (t 30) (kb true) (t 34)),
 os 36 (.mov (t 35)),
 gf 36 37 (.faddr 7 (t 1)),
 gf 36 38 (.load false 1 (t 37)),
 gf 36 39 (.call (fn F.zea) [(t 38),(k 1),(k 64)]),
 gf 36 40 (.not (t 39)),
 o 41 (.pick (t 36) (kb true) (t 40)),
 os 42 (.mov (t 41)),
 gf 42 43 (.faddr 8 (t 1)),
 gf 42 44 (.load false 1 (t 43)),
 gf 42 45 (.call (fn F.zea) [(t 44),(k 1),(k 64)]),
 gf 42 46 (.not (t 45)),
 o 47 (.pick (t 42) (kb true) (t 46)),
 os 48 (.mov (t 47)),
 gf 48 49 (.faddr 9 (t 1)),
 gf 48 50 (.load false 1 (t 49)),
 gf 48 51 (.call (fn F.zea) [(t 50),(k 0),(k 64)]),
 gf 48 52 (.not (t 51)),
 o 53 (.pick (t 48) (kb true) (t 52))] [])
 (.cond (t 53)
 (.seq (.ops [mv 2 (k 1)] [])
 (.ret))
 (.skip)))
 (.seq (.ops [mv 2 (k 0)] [])
 (.ret))))
def zme:List zd:=[.tmp 2]
theorem zBk {args:List Value} {M:Mem} {R:Value→Mem→Prop} (hn:args.length≤54) (h:zj Tryz.prog zmd zme args M R):CallsM Tryz.prog F.zl3 args M R:=
 zf (kf:=fun _=>[]) Tryz.func54 (by kernel_rfl) (by kernel_rfl) hn (by kernel_rfl) h
def zoj:RCode:=
 .seq (.ops [mv 2 (.const (.pointer none)),
 mv 3 (k 0)] [])
 (.seq (.seq (.ops [mv 4 (t 0),
 o 5 (.ibin .lss (t 4) (k 0)),
 os 6 (.mov (t 5)),
 gf 6 7 (.mov (t 0)),
 gf 6 8 (.ibin .gtr (t 7) (k 64)),
 o 9 (.pick (t 6) (kb true) (t 8))] [])
 (.cond (t 9)
 (.seq (.ops [mv 2 (.const (.pointer none)),
 mv 3 (k 1)] [])
 (.ret))
 (.skip)))
 (.seq (.ops [mv 10 (t 0),
 o 11 (.build [(i 0),(i 0),sn,sn] [(0,1,(t 10))]),
 o 12 (.box 113 (t 11)),
 mv 2 (t 12),
 mv 3 (k 0)] [])
 (.ret)))
def zok:List zd:=[.tmp 2,.tmp 3]
theorem zDx {args:List Value} {M:Mem} {R:Value→Mem→Prop} (hn:args.length≤13) (h:zj Tryz.prog zoj zok args M R):CallsM Tryz.prog F.zrN args M R:=
 zf (kf:=fun _=>[]) Tryz.func55 (by kernel_rfl) (by kernel_rfl) hn (by kernel_rfl) h
def zol:RCode:=
 .seq (.ops [mv 2 (.const (.pointer none)),
 mv 3 (k 0)] [])
 (.seq (.seq (.ops [mv 4 (t 0),
 o 5 (.ibin .lss (t 4) (k 1)),
 os 6 (.mov (t 5)),
 gf 6 7 (.mov (t 0)),
 gf 6 8 (.ibin .gtr (t 7) (k 1048576)),
 o 9 (.pick (t 6) (kb true) (t 8))] [])
 (.cond (t 9)
 (.seq (.ops [mv 2 (.const (.pointer none)),
 mv 3 (k 1)] [])
 (.ret))
 (.skip)))
 (.seq (.ops [mv 10 (t 0),
 o 11 (.mkMap),
 o 12 (.build [(i 0),(.map none),(i 0),(.bool false)] [(0,1,(t 10)),(1,1,(t 11)),(2,1,(k (-1)))]),
 o 13 (.box 97 (t 12)),
 mv 2 (t 13),
 mv 3 (k 0)] [])
 (.ret)))
def zom:List zd:=[.tmp 2,.tmp 3]
theorem zDy {args:List Value} {M:Mem} {R:Value→Mem→Prop} (hn:args.length≤14) (h:zj Tryz.prog zol zom args M R):CallsM Tryz.prog F.zrO args M R:=
 zf (kf:=fun _=>[]) Tryz.func56 (by kernel_rfl) (by kernel_rfl) hn (by kernel_rfl) h
def zgE:RCode:=
 .seq (.ops [mv 4 (k 0)] [])
 (.seq (.draw (.take (mv 8 (t 1)) (.take (mv 9 (t 0)) (.take (mv 10 (t 1)) (.take (mv 12 (t 0)) (.take (o 13 (.nilck (t 12))) (.take (fa 14 11 (t 13)) (.take (l1 15 (t 14)) (.take (mv 16 (t 1)) (.take (o 17 (.iaddr 1 (t 15) (t 16))) (.take (l1 18 (t 17)) (.take (mv 19 (t 0)) (.take (o 20 (.nilck (t 19))) (.take (fa 21 0 (t 20)) (.take (la 22 10 (t 21)) (.alt (ca 11 F.zga [(t 9),(t 10)]) true
 (.alt (ca 23 F.zrQ [(t 8),(t 11),(t 18),(t 22)]) false
  (.take (mv 7 (t 23)) (.take (ex 24 (t 7) 0) (.take (ex 25 (t 7) 1) (.take (mv 5 (t 24)) (.take (mv 6 (t 25)) (.done))))))
  (.none))
 (.none)))))))))))))))) [])
 (.seq (.seq (.ops [mv 26 (t 6),
 o 27 (.ibin .neq (t 26) (k 0))] [])
 (.cond (t 27)
 (.seq (.ops [mv 28 (t 6),
 mv 4 (t 28)] [])
 (.ret))
 (.skip)))
 (.seq (.ops [mv 29 (t 0),
 o 30 (.nilck (t 29)),
 fa 31 12 (t 30),
 l1 32 (t 31),
 mv 33 (t 1),
 mv 34 (t 5),
 o 35 (.iaddr 1 (t 32) (t 33)),
 st 1 (t 35) (t 34)] [])
 (.seq (.ops [mv 36 (t 0),
 mv 37 (t 1),
 ca 38 F.zaj [(t 36),(t 37)]] [])
 (.seq (.ops [mv 4 (k 0)] [])
 (.ret))))))
def zgF:List zd:=[.tmp 4]
theorem zvC {args:List Value} {M:Mem} {R:Value→Mem→Prop} (hn:args.length≤39) (h:zj Tryz.prog zgE zgF args M R):CallsM Tryz.prog F.zf9 args M R:=
 zf (kf:=fun _=>[]) Tryz.func57 (by kernel_rfl) (by kernel_rfl) hn (by kernel_rfl) h
def zfa:RCode:=
 .seq (.ops [mv 2 (k 0)] [])
 (.seq (.seq (.ops [mv 3 (t 0),
 o 4 (.pnil .eql (t 3) (.const (.pointer none)))] [])
 (.cond (t 4)
 (.seq (.ops [mv 2 (k 7)] [])
 (.ret))
 (.skip)))
 (.seq (.seq (.ops [mv 5 (t 0),
 o 6 (.nilck (t 5)),
 fa 7 11 (t 6),
 l1 8 (t 7),
 ca 9 F.zM [(t 8)]] [])
 (.cond (t 9)
 (.seq (.ops [mv 2 (k 9)] [])
 (.ret))
 (.skip)))
 (.seq (.ops [mv 2 (k 0)] [])
 (.ret))))
def zfb:List zd:=[.tmp 2]
theorem ztK {args:List Value} {M:Mem} {R:Value→Mem→Prop} (hn:args.length≤10) (h:zj Tryz.prog zfa zfb args M R):CallsM Tryz.prog F.zaR args M R:=
 zf (kf:=fun _=>[]) Tryz.func58 (by kernel_rfl) (by kernel_rfl) hn (by kernel_rfl) h
def zdt:RCode:=
 .seq (.ops [mv 4 (.const sn)] [])
 (.seq (.seq (.ops [mv 9 (t 0),
 o 10 (.pnil .eql (t 9) (.const (.pointer none)))] [])
 (.cond (t 10)
 (.seq (.ops [mv 4 (.const sn)] [])
 (.ret))
 (.skip)))
 (.seq (.ops [mv 11 (t 0),
 o 12 (.mval F.zhM (t 11)),
 mv 5 (t 12)] [])
 (.seq (.seq (.ops [mv 13 (t 1),
 o 14 (.len (t 13)),
 mv 15 (k 0)] [])
 (.block 0 (.loop (.seq (.ops [o 16 (.ibin .lss (t 15) (t 14))] [])
 (.seq (.cond (t 16)
  (.skip)
  (.exit 0))
 (.seq (.block 1 (.seq (.ops [o 17 (.iaddr 1 (t 13) (t 15)),
 l1 18 (t 17),
 mv 7 (t 18)] [])
 (.ops [mv 19 (t 5),
 mv 20 (t 7),
 o 21 (.call (t 19) [(t 20)])] [])))
 (.ops [ad 22 (t 15) (k 1),
 mv 15 (t 22)] [])))))))
 (.seq (.ops [mv 23 (t 0),
 o 24 (.nilck (t 23)),
 fa 25 7 (t 24),
 l1 26 (t 25),
 mv 8 (t 26)] [])
 (.seq (.ops [mv 27 (t 0),
 o 28 (.nilck (t 27)),
 fa 29 7 (t 28),
 st 1 (t 29) (.const sn)] [])
 (.seq (.ops [mv 30 (t 8),
 mv 4 (t 30)] [])
 (.ret)))))))
def zdu:List zd:=[.tmp 4]
theorem zr2 {args:List Value} {M:Mem} {R:Value→Mem→Prop} (hn:args.length≤31) (h:zj Tryz.prog zdt zdu args M R):CallsM Tryz.prog F.zhJ args M R:=
 zf (kf:=fun _=>[]) Tryz.func59 (by kernel_rfl) (by kernel_rfl) hn (by kernel_rfl) h
def zkG:RCode:=
 .seq (.ops [o 2 (.alloc 129 [(i 0),(i 0),(i 0),(.bool false),(i 0),(i 0),sn]),
 mv 3 (k 0)] [])
 (.seq (.seq (.ops [mv 12 (t 0),
 o 13 (.len (t 12)),
 o 14 (.ibin .lss (t 13) (k 6)),
 os 15 (.mov (t 14)),
 gf 15 16 (.mov (t 0)),
 gf 15 17 (.iaddr 1 (t 16) (k 0)),
 gf 15 18 (.load false 1 (t 17)),
 gf 15 19 (.ibin .neq (t 18) (.const (u 3))),
 o 20 (.pick (t 15) (kb true) (t 19))] [])
 (.cond (t 20)
 (.seq (.ops [o 21 (.build [(i 0),(i 0),(i 0),(.bool false),(i 0),(i 0),sn] []),
 st 7 (t 2) (t 21),
 mv 3 (k 2)] [])
 (.ret))
 (.skip)))
 (.seq (.ops [mv 23 (t 0),
 o 24 (.iaddr 1 (t 23) (k 1)),
 l1 25 (t 24),
 ca 26 F.zmR [(t 25)],
 mv 22 (t 26),
 ex 27 (t 22) 0,
 ex 28 (t 22) 1,
 mv 4 (t 27),
 mv 5 (t 28)] [])
 (.seq (.ops [mv 29 (t 4),
 o 30 (.build [(i 0),(i 0),(i 0),(.bool false),(i 0),(i 0),sn] [(0,1,(t 29))]),
 o 6 (.alloc 129 [(i 0),(i 0),(i 0),(.bool false),(i 0),(i 0),sn]),
 st 7 (t 6) (t 30)] [])
 (.seq (.ops [mv 7 (k 2)] [])
 (.seq (.seq (.ops [mv 31 (t 5)] [])
 (.cond (t 31)
 (.seq (.ops [mv 7 (k 3)] [])
 (.seq (.draw (.take (mv 32 (t 0)) (.take (o 33 (.iaddr 1 (t 32) (k 2))) (.take (l1 34 (t 33)) (.take (o 35 (.ibin .shr (t 34) (.const (.int .u64 1)))) (.take (o 36 (.conv .i64 (t 35))) (.take (mv 37 (t 0)) (.take (o 38 (.iaddr 1 (t 37) (k 2))) (.take (l1 39 (t 38)) (.take (o 40 (.ibin .and (t 39) (.const (u 1)))) (.take (o 41 (.ibin .eql (t 40) (.const (u 1)))) (.take (fa 42 2 (t 6)) (.alt (st 1 (t 42) (t 36)) true
  (.take (fa 43 3 (t 6)) (.alt (st 1 (t 43) (t 41)) false
  (.done)
  (.none)))
  (.none))))))))))))) [])
 (.seq (.ops [mv 44 (t 4),
 o 45 (.ibin .eql (t 44) (k 1))] [])
 (.cond (t 45)
  (.ops [mv 46 (t 0),
  o 47 (.iaddr 1 (t 46) (k 1)),
  l1 48 (t 47),
  o 49 (.ibin .shr (t 48) (.const (.int .u64 1))),
  o 50 (.conv .i64 (t 49)),
  fa 51 1 (t 6),
  st 1 (t 51) (t 50)] [])
  (.skip)))))
 (.ops [mv 52 (t 0),
 o 53 (.iaddr 1 (t 52) (k 1)),
 l1 54 (t 53),
 o 55 (.ibin .and (t 54) (.const (u 16))),
 o 56 (.ibin .neq (t 55) (.const (u 0))),
 fa 57 3 (t 6),
 st 1 (t 57) (t 56)] [])))
 (.seq (.ops [mv 59 (t 0),
 mv 60 (t 7),
 ca 61 F.zbj [(t 59),(t 60),(k 2)],
 mv 58 (t 61),
 ex 62 (t 58) 0,
 ex 63 (t 58) 1,
 mv 8 (t 62),
 mv 9 (t 63)] [])
 (.seq (.ops [mv 65 (t 0),
 mv 66 (t 7),
 ad 67 (t 66) (k 2),
 ca 68 F.zbj [(t 65),(t 67),(k 2)],
 mv 64 (t 68),
 ex 69 (t 64) 0,
 ex 70 (t 64) 1,
 mv 10 (t 69),
 mv 11 (t 70)] [])
 (.seq (.seq (.ops [mv 71 (t 9),
 o 72 (.ibin .neq (t 71) (k 0)),
 os 73 (.mov (t 72)),
 gf 73 74 (.mov (t 11)),
 gf 73 75 (.ibin .neq (t 74) (k 0)),
 o 76 (.pick (t 73) (kb true) (t 75))] [])
 (.cond (t 76)
 (.seq (.ops [o 77 (.build [(i 0),(i 0),(i 0),(.bool false),(i 0),(i 0),sn] []),
 st 7 (t 2) (t 77),
 mv 3 (k 2)] [])
 (.ret))
 (.skip)))
 (.seq (.ops [mv 78 (t 8),
 o 79 (.conv .i64 (t 78)),
 mv 80 (t 10),
 o 81 (.conv .i64 (t 80)),
 fa 82 4 (t 6),
 st 1 (t 82) (t 79),
 fa 83 5 (t 6),
 st 1 (t 83) (t 81)] [])
 (.seq (.ops [o 84 (.mkSl false 5 0 [] []),
 mv 85 (t 0),
 mv 86 (t 7),
 ad 87 (t 86) (k 4),
 o 88 (.slx 1 (t 85) (some (t 87)) none),
 o 89 (.app 5 1 1 [(u 0)] (t 84) (t 88)),
 fa 90 6 (t 6),
 st 1 (t 90) (t 89)] [])
 (.seq (.seq (.ops [la 91 7 (t 6),
 ca 92 F.zeb [(t 91)],
 o 93 (.ibin .neq (t 92) (k 0))] [])
 (.cond (t 93)
 (.seq (.ops [o 94 (.build [(i 0),(i 0),(i 0),(.bool false),(i 0),(i 0),sn] []),
 st 7 (t 2) (t 94),
 mv 3 (k 2)] [])
 (.ret))
 (.skip)))
 (.seq (.ops [la 95 7 (t 6),
 st 7 (t 2) (t 95),
 mv 3 (k 0)] [])
 (.ret)))))))))))))
def zkH:List zd:=[.cell true 7 2,.tmp 3]
theorem zAa {args:List Value} {M:Mem} {R:Value→Mem→Prop} (hn:args.length≤96) (h:zj Tryz.prog zkG zkH args M R):CallsM Tryz.prog F.znN args M R:=
 zf (kf:=fun _=>[]) Tryz.func60 (by kernel_rfl) (by kernel_rfl) hn (by kernel_rfl) h
def zdv:RCode:=
 .seq (.ops [o 3 (.box 129 (t 1)),
 mv 4 (k 0)] [])
 (.seq (.seq (.ops [mv 6 (t 0),
 o 7 (.pnil .eql (t 6) (.const (.pointer none)))] [])
 (.cond (t 7)
 (.seq (.ops [mv 4 (k 7)] [])
 (.ret))
 (.skip)))
 (.seq (.seq (.ops [la 8 7 (t 3),
 ca 9 F.zeb [(t 8)],
 mv 5 (t 9)] [])
 (.seq (.ops [mv 10 (t 5),
 o 11 (.ibin .neq (t 10) (k 0))] [])
 (.cond (t 11)
 (.seq (.ops [mv 12 (t 5),
 mv 4 (t 12)] [])
 (.ret))
 (.skip))))
 (.seq (.block 0 (.seq (.ops [fa 14 0 (t 3),
 l1 15 (t 14),
 o 16 (.ibin .eql (t 15) (k 5)),
 mv 13 (t 16)] [])
 (.cond (t 13)
 (.ops [mv 17 (t 0),
 la 18 7 (t 3),
 ca 19 F.zjR [(t 17),(t 18)]] [])
 (.seq (.ops [fa 21 0 (t 3),
 l1 22 (t 21),
 o 23 (.ibin .eql (t 22) (k 6)),
 mv 20 (t 23)] [])
 (.cond (t 20)
  (.ops [mv 24 (t 0),
  la 25 7 (t 3),
  ca 26 F.zmS [(t 24),(t 25)]] [])
  (.seq (.ops [fa 28 0 (t 3),
  l1 29 (t 28),
  o 30 (.ibin .eql (t 29) (k 7)),
  mv 27 (t 30)] [])
  (.cond (t 27)
  (.ops [mv 31 (t 0),
  la 32 7 (t 3),
  ca 33 F.zzS [(t 31),(t 32)]] [])
  (.seq (.draw (.take (fa 35 4 (t 3)) (.take (l1 36 (t 35)) (.take (mv 37 (t 0)) (.take (o 38 (.nilck (t 37))) (.take (fa 39 1 (t 38)) (.take (l1 40 (t 39)) (.take (o 41 (.ibin .eql (t 36) (t 40))) (.take (os 42 (.mov (t 41))) (.take (gt 42 43 (.faddr 5 (t 3))) (.take (gt 42 44 (.load false 1 (t 43))) (.take (gt 42 45 (.mov (t 0))) (.take (gt 42 46 (.nilck (t 45))) (.take (gt 42 47 (.faddr 0 (t 46))) (.take (gt 42 48 (.load false 1 (t 47))) (.take (gt 42 49 (.ibin .eql (t 44) (t 48))) (.take (o 50 (.pick (t 42) (t 49) (kb false))) (.take (mv 34 (t 50)) (.done)))))))))))))))))) [])
  (.cond (t 34)
   (.ops [mv 51 (t 0),
   la 52 7 (t 3),
   ca 53 F.zk8 [(t 51),(t 52)]] [])
   (.seq (.ops [mv 55 (t 0),
   o 56 (.nilck (t 55)),
   fa 57 2 (t 56),
   l1 58 (t 57),
   o 59 (.not (t 58)),
   mv 54 (t 59)] [])
   (.cond (t 54)
   (.ops [mv 60 (t 0),
   fa 61 4 (t 3),
   l1 62 (t 61),
   o 63 (.build [(i 0),(i 0),(i 0),(.bool false),(i 0),(i 0),sn] [(0,1,(k 7)),(5,1,(t 62))]),
   ca 64 F.zam [(t 60),(t 63)]] [])
   (.skip))))))))))))
 (.seq (.ops [mv 4 (k 0)] [])
 (.ret)))))
def zdw:List zd:=[.tmp 4]
theorem zr3 {args:List Value} {M:Mem} {R:Value→Mem→Prop} (hn:args.length≤65) (h:zj Tryz.prog zdv zdw args M R):CallsM Tryz.prog F.zhK args M R:=
 zf (kf:=fun _=>[]) Tryz.func61 (by kernel_rfl) (by kernel_rfl) hn (by kernel_rfl) h
def zjg:RCode:=
 .seq (.ops [mv 2 (.const sn)] [])
 (.seq (.seq (.ops [mv 4 (t 0),
 o 5 (.pnil .eql (t 4) (.const (.pointer none)))] [])
 (.cond (t 5)
 (.seq (.ops [mv 2 (.const sn)] [])
 (.ret))
 (.skip)))
 (.seq (.ops [mv 6 (t 0),
 o 7 (.nilck (t 6)),
 fa 8 14 (t 7),
 l1 9 (t 8),
 mv 3 (t 9)] [])
 (.seq (.ops [mv 10 (t 0),
 o 11 (.nilck (t 10)),
 fa 12 14 (t 11),
 st 1 (t 12) (.const sn)] [])
 (.seq (.ops [mv 13 (t 3),
 mv 2 (t 13)] [])
 (.ret)))))
def zjh:List zd:=[.tmp 2]
theorem zy4 {args:List Value} {M:Mem} {R:Value→Mem→Prop} (hn:args.length≤14) (h:zj Tryz.prog zjg zjh args M R):CallsM Tryz.prog F.zmQ args M R:=
 zf (kf:=fun _=>[]) Tryz.func62 (by kernel_rfl) (by kernel_rfl) hn (by kernel_rfl) h
def zbn:RCode:=
 .seq (.ops [mv 2 (kb false)] [])
 (.seq (.ops [mv 3 (t 0),
 o 4 (.pnil .eql (t 3) (.const (.pointer none))),
 os 5 (.mov (t 4)),
 gf 5 6 (.mov (t 0)),
 gf 5 7 (.nilck (t 6)),
 gf 5 8 (.faddr 4 (t 7)),
 gf 5 9 (.load false 1 (t 8)),
 o 10 (.pick (t 5) (kb true) (t 9)),
 mv 2 (t 10)] [])
 (.ret))
def zbo:List zd:=[.tmp 2]
theorem zon {args:List Value} {M:Mem} {R:Value→Mem→Prop} (hn:args.length≤11) (h:zj Tryz.prog zbn zbo args M R):CallsM Tryz.prog F.zM args M R:=
 zf (kf:=fun _=>[]) Tryz.func63 (by kernel_rfl) (by kernel_rfl) hn (by kernel_rfl) h
def zgG:RCode:=
 .seq (.ops [mv 9 (t 2),
 ca 10 F.ztx [(t 9)],
 mv 8 (t 10),
 ex 11 (t 8) 0,
 ex 12 (t 8) 1,
 o 6 (.alloc 142 [(i 0),(i 0),(i 0),(i 0),(i 0),(i 0),sn,sn]),
 st 8 (t 6) (t 11),
 mv 7 (t 12)] [])
 (.seq (.seq (.ops [mv 13 (t 7),
 o 14 (.ibin .neq (t 13) (k 0))] [])
 (.cond (t 14)
 (.seq (.ops [mv 15 (t 0),
 o 16 (.nilck (t 15)),
 fa 17 17 (t 16),
 l1 18 (t 17),
 ad 19 (t 18) (k 1),
 o 20 (.nilck (t 15)),
 fa 21 17 (t 20),
 st 1 (t 21) (t 19)] [])
 (.ret))
 (.skip)))
 (.seq (.ops [fa 22 0 (t 6),
 l1 23 (t 22)] [])
 (.block 0 (.seq (.ops [o 33 (.ibin .eql (t 23) (k 1)),
 mv 32 (t 33)] [])
 (.cond (t 32)
 (.ops [mv 34 (t 0),
 mv 35 (t 1),
 la 36 8 (t 6),
 ca 37 F.zhN [(t 34),(t 35),(t 36)]] [])
 (.seq (.ops [o 39 (.ibin .eql (t 23) (k 2)),
 mv 38 (t 39)] [])
 (.cond (t 38)
  (.seq (.draw (.take (mv 40 (t 0)) (.take (o 41 (.nilck (t 40))) (.take (fa 42 14 (t 41)) (.take (l1 43 (t 42)) (.take (mv 44 (t 1)) (.take (fa 45 1 (t 6)) (.take (l1 46 (t 45)) (.take (fa 47 2 (t 6)) (.take (fa 48 0 (t 47)) (.take (la 49 4 (t 48)) (.alt (ca 50 F.zmT [(t 43),(t 44),(t 46),(t 49)]) false
  (.done)
  (.none)))))))))))) [])
  (.cond (t 50)
  (.draw (.take (mv 51 (t 0)) (.take (o 52 (.nilck (t 51))) (.take (fa 53 11 (t 52)) (.take (l1 54 (t 53)) (.take (fa 55 2 (t 6)) (.take (fa 56 0 (t 55)) (.take (la 57 4 (t 56)) (.alt (ca 58 F.zcK [(t 54),(t 57)]) false
   (.done)
   (.none))))))))) [])
  (.skip)))
  (.seq (.ops [o 60 (.ibin .eql (t 23) (k 3)),
  mv 59 (t 60)] [])
  (.cond (t 59)
  (.draw (.take (mv 61 (t 0)) (.take (o 62 (.nilck (t 61))) (.take (fa 63 14 (t 62)) (.take (l1 64 (t 63)) (.take (mv 65 (t 1)) (.take (fa 66 1 (t 6)) (.take (l1 67 (t 66)) (.take (fa 68 2 (t 6)) (.take (fa 69 0 (t 68)) (.take (la 70 4 (t 69)) (.alt (ca 71 F.zuV [(t 64),(t 65),(t 67),(t 70)]) false
   (.done)
   (.none)))))))))))) [])
  (.draw (.take (mv 24 (t 0)) (.take (o 25 (.nilck (t 24))) (.take (fa 26 13 (t 25)) (.take (l1 27 (t 26)) (.take (mv 28 (t 1)) (.take (fa 29 7 (t 6)) (.take (l1 30 (t 29)) (.alt (ca 31 F.zhO [(t 27),(t 28),(t 30)]) false
   (.done)
   (.none))))))))) []))))))))))
def zgH:List zd:=[]
theorem zvD {args:List Value} {M:Mem} {R:Value→Mem→Prop} (hn:args.length≤72) (h:zj Tryz.prog zgG zgH args M R):CallsM Tryz.prog F.zk4 args M R:=
 zf (kf:=fun _=>[]) Tryz.func64 (by kernel_rfl) (by kernel_rfl) hn (by kernel_rfl) h
def zfc:RCode:=
 .seq (.ops [mv 2 (.const sn)] [])
 (.seq (.seq (.ops [mv 15 (t 0),
 ca 16 F.zbP [(t 15)],
 o 17 (.len (t 16)),
 mv 18 (k 0)] [])
 (.block 0 (.loop (.seq (.ops [o 19 (.ibin .lss (t 18) (t 17))] [])
 (.seq (.cond (t 19)
  (.skip)
  (.exit 0))
 (.seq (.block 1 (.seq (.ops [o 20 (.iaddr 1 (t 16) (t 18)),
 l1 21 (t 20),
 mv 4 (t 21)] [])
 (.seq (.ops [mv 22 (t 0),
 o 23 (.nilck (t 22)),
 fa 24 12 (t 23),
 l1 25 (t 24),
 mv 26 (t 4),
 o 27 (.mget .int false (.pointer none) (t 25) (t 26)),
 mv 5 (t 27)] [])
 (.seq (.seq (.draw (.take (mv 28 (t 5)) (.take (o 29 (.nilck (t 28))) (.take (fa 30 0 (t 29)) (.take (l1 31 (t 30)) (.take (mv 33 (t 5)) (.take (o 34 (.nilck (t 33))) (.take (fa 35 2 (t 34)) (.take (l1 36 (t 35)) (.alt (ca 32 F.zec [(t 31)]) true
  (.take (o 37 (.ibin .neq (t 32) (t 36))) (.done))
  (.none)))))))))) [])
 (.cond (t 37)
  (.seq (.ops [mv 38 (t 5),
  mv 39 (t 5),
  o 40 (.nilck (t 39)),
  fa 41 0 (t 40),
  l1 42 (t 41),
  ca 43 F.zec [(t 42)],
  o 44 (.nilck (t 38)),
  fa 45 2 (t 44),
  st 1 (t 45) (t 43)] [])
  (.ops [mv 46 (t 0),
  o 47 (.nilck (t 46)),
  fa 48 14 (t 47),
  l1 49 (t 48),
  mv 50 (t 4),
  ca 51 F.zk9 [(t 49),(t 50)]] []))
  (.skip)))
 (.seq (.ops [mv 52 (t 5),
 o 53 (.nilck (t 52)),
 fa 54 0 (t 53),
 l1 55 (t 54),
 ca 56 F.zi8 [(t 55)]] [])
 (.cond (t 56)
  (.ops [mv 57 (t 2),
  mv 58 (t 4),
  o 59 (.mkSl true 3 1 [(i 0)] [(0,1,(t 58))]),
  o 60 (.app 3 1 8 [(i 0)] (t 57) (t 59)),
  mv 2 (t 60)] [])
  (.skip)))))))
 (.ops [ad 61 (t 18) (k 1),
 mv 18 (t 61)] [])))))))
 (.seq (.seq (.ops [mv 62 (t 0),
 o 63 (.nilck (t 62)),
 fa 64 11 (t 63),
 l1 65 (t 64),
 ca 66 F.zM [(t 65)],
 o 67 (.not (t 66))] [])
 (.cond (t 67)
 (.ops [mv 68 (t 0),
 mv 69 (t 2),
 ca 70 F.zjS [(t 68),(t 69)]] [])
 (.skip)))
 (.seq (.ops [mv 71 (t 0),
 ca 72 F.zbP [(t 71)],
 o 73 (.len (t 72)),
 mv 74 (k 0)] [])
 (.block 2 (.loop (.seq (.ops [o 75 (.ibin .lss (t 74) (t 73))] [])
 (.seq (.cond (t 75)
  (.skip)
  (.exit 2))
 (.seq (.block 3 (.seq (.ops [o 76 (.iaddr 1 (t 72) (t 74)),
 l1 77 (t 76),
 mv 7 (t 77)] [])
 (.seq (.ops [mv 78 (t 0),
 o 79 (.nilck (t 78)),
 fa 80 12 (t 79),
 l1 81 (t 80),
 mv 82 (t 7),
 o 83 (.mget .int false (.pointer none) (t 81) (t 82)),
 mv 8 (t 83)] [])
 (.seq (.ops [mv 84 (t 8),
 o 85 (.nilck (t 84)),
 fa 86 0 (t 85),
 l1 87 (t 86),
 ca 88 F.zl6 [(t 87)],
 o 89 (.len (t 88)),
 mv 90 (k 0)] [])
 (.block 4 (.loop (.seq (.ops [o 91 (.ibin .lss (t 90) (t 89))] [])
  (.seq (.cond (t 91)
  (.skip)
  (.exit 4))
  (.seq (.block 5 (.seq (.ops [o 92 (.iaddr 7 (t 88) (t 90)),
  la 93 7 (t 92),
  o 10 (.alloc 129 [(i 0),(i 0),(i 0),(.bool false),(i 0),(i 0),sn]),
  st 7 (t 10) (t 93)] [])
  (.seq (.ops [la 95 7 (t 10),
  ca 96 F.znO [(t 95)],
  mv 94 (t 96),
  ex 97 (t 94) 0,
  ex 98 (t 94) 1,
  mv 11 (t 97),
  mv 12 (t 98)] [])
  (.seq (.ops [mv 100 (t 11),
  ca 101 F.znP [(t 100)],
  mv 99 (t 101),
  ex 102 (t 99) 0,
  ex 103 (t 99) 1,
  mv 13 (t 102),
  mv 14 (t 103)] [])
  (.ops [mv 104 (t 8),
  mv 105 (t 8),
  o 106 (.nilck (t 105)),
  fa 107 3 (t 106),
  l1 108 (t 107),
  mv 109 (t 13),
  o 110 (.app 5 1 1 [(u 0)] (t 108) (t 109)),
  o 111 (.nilck (t 104)),
  fa 112 3 (t 111),
  st 1 (t 112) (t 110)] [])))))
  (.ops [ad 113 (t 90) (k 1),
  mv 90 (t 113)] []))))))))))
 (.ops [ad 114 (t 74) (k 1),
 mv 74 (t 114)] [])))))))))
def zfd:List zd:=[]
theorem ztL {args:List Value} {M:Mem} {R:Value→Mem→Prop} (hn:args.length≤115) (h:zj Tryz.prog zfc zfd args M R):CallsM Tryz.prog F.zaS args M R:=
 zf (kf:=fun _=>[]) Tryz.func65 (by kernel_rfl) (by kernel_rfl) hn (by kernel_rfl) h
def zck:RCode:=
 .seq (.ops [mv 2 (.const sn)] [])
 (.seq (.seq (.ops [mv 4 (t 0),
 o 5 (.pnil .eql (t 4) (.const (.pointer none)))] [])
 (.cond (t 5)
 (.seq (.ops [mv 2 (.const sn)] [])
 (.ret))
 (.skip)))
 (.seq (.ops [mv 6 (t 0),
 o 7 (.nilck (t 6)),
 fa 8 15 (t 7),
 l1 9 (t 8),
 mv 3 (t 9)] [])
 (.seq (.ops [mv 10 (t 0),
 o 11 (.nilck (t 10)),
 fa 12 15 (t 11),
 st 1 (t 12) (.const sn)] [])
 (.seq (.ops [mv 13 (t 3),
 mv 2 (t 13)] [])
 (.ret)))))
def zcl:List zd:=[.tmp 2]
theorem zqx {args:List Value} {M:Mem} {R:Value→Mem→Prop} (hn:args.length≤14) (h:zj Tryz.prog zck zcl args M R):CallsM Tryz.prog F.zfG args M R:=
 zf (kf:=fun _=>[]) Tryz.func66 (by kernel_rfl) (by kernel_rfl) hn (by kernel_rfl) h
def zgI:RCode:=
 .seq (.ops [mv 2 (kb false)] [])
 (.seq (.ops [mv 3 (t 0),
 o 4 (.pnil .eql (t 3) (.const (.pointer none))),
 os 5 (.mov (t 4)),
 gf 5 6 (.mov (t 0)),
 gf 5 7 (.nilck (t 6)),
 gf 5 8 (.faddr 11 (t 7)),
 gf 5 9 (.load false 1 (t 8)),
 gf 5 10 (.call (fn F.zM) [(t 9)]),
 o 11 (.pick (t 5) (kb true) (t 10)),
 mv 2 (t 11)] [])
 (.ret))
def zgJ:List zd:=[.tmp 2]
theorem zvE {args:List Value} {M:Mem} {R:Value→Mem→Prop} (hn:args.length≤12) (h:zj Tryz.prog zgI zgJ args M R):CallsM Tryz.prog F.zk5 args M R:=
 zf (kf:=fun _=>[]) Tryz.func67 (by kernel_rfl) (by kernel_rfl) hn (by kernel_rfl) h
def zgK:RCode:=
 .seq (.ops [mv 4 (.const sn)] [])
 (.seq (.ops [mv 5 (.const sn)] [])
 (.seq (.seq (.ops [mv 7 (t 0),
 o 8 (.nilck (t 7)),
 fa 9 12 (t 8),
 l1 10 (t 9),
 o 11 (.len (t 10)),
 mv 12 (k 0)] [])
 (.block 0 (.loop (.seq (.ops [o 13 (.ibin .lss (t 12) (t 11))] [])
 (.seq (.cond (t 13)
  (.skip)
  (.exit 0))
 (.seq (.block 1 (.seq (.ops [mv 14 (t 12),
 mv 6 (t 14)] [])
 (.seq (.ops [mv 15 (t 0),
 o 16 (.nilck (t 15)),
 fa 17 13 (t 16),
 l1 18 (t 17),
 mv 19 (t 1),
 mv 20 (t 6),
 o 21 (.build [(i 0),(i 0)] [(0,1,(t 19)),(1,1,(t 20))]),
 o 22 (.mget (.agg 2) false (.pointer none) (t 18) (t 21)),
 o 23 (.pnil .neq (t 22) (.const (.pointer none)))] [])
 (.cond (t 23)
  (.ops [mv 24 (t 5),
  mv 25 (t 6),
  o 26 (.mkSl true 3 1 [(i 0)] [(0,1,(t 25))]),
  o 27 (.app 3 1 8 [(i 0)] (t 24) (t 26)),
  mv 5 (t 27)] [])
  (.skip)))))
 (.ops [ad 28 (t 12) (k 1),
 mv 12 (t 28)] [])))))))
 (.seq (.ops [mv 29 (t 5),
 mv 4 (t 29)] [])
 (.ret))))
def zgL:List zd:=[.tmp 4]
theorem zvF {args:List Value} {M:Mem} {R:Value→Mem→Prop} (hn:args.length≤30) (h:zj Tryz.prog zgK zgL args M R):CallsM Tryz.prog F.zga args M R:=
 zf (kf:=fun _=>[]) Tryz.func68 (by kernel_rfl) (by kernel_rfl) hn (by kernel_rfl) h
def zh2:RCode:=
 .seq (.ops [mv 4 (k 0)] [])
 (.seq (.seq (.ops [mv 5 (t 0),
 o 6 (.pnil .eql (t 5) (.const (.pointer none)))] [])
 (.cond (t 6)
 (.seq (.ops [mv 4 (k 7)] [])
 (.ret))
 (.skip)))
 (.seq (.seq (.ops [mv 7 (t 1),
 o 8 (.len (t 7)),
 mv 9 (t 0),
 o 10 (.nilck (t 9)),
 fa 11 2 (t 10),
 l1 12 (t 11),
 o 13 (.len (t 12)),
 o 14 (.ibin .sub (k 65536) (t 13)),
 o 15 (.ibin .gtr (t 8) (t 14))] [])
 (.cond (t 15)
 (.seq (.ops [mv 4 (k 6)] [])
 (.ret))
 (.skip)))
 (.seq (.ops [mv 16 (t 0),
 mv 17 (t 0),
 o 18 (.nilck (t 17)),
 fa 19 2 (t 18),
 l1 20 (t 19),
 mv 21 (t 1),
 o 22 (.app 5 1 1 [(u 0)] (t 20) (t 21)),
 o 23 (.nilck (t 16)),
 fa 24 2 (t 23),
 st 1 (t 24) (t 22)] [])
 (.seq (.seq (.ops [mv 25 (t 1),
 o 26 (.len (t 25)),
 mv 27 (k 0)] [])
 (.block 0 (.loop (.seq (.ops [o 28 (.ibin .lss (t 27) (t 26))] [])
 (.seq (.cond (t 28)
  (.skip)
  (.exit 0))
 (.seq (.block 1 (.draw (.take (mv 29 (t 0)) (.take (mv 30 (t 0)) (.take (o 31 (.nilck (t 30))) (.take (fa 32 3 (t 31)) (.take (l1 33 (t 32)) (.take (mv 34 (t 0)) (.take (o 35 (.nilck (t 34))) (.take (fa 36 1 (t 35)) (.take (l1 37 (t 36)) (.take (mv 38 (t 0)) (.take (o 39 (.nilck (t 38))) (.take (fa 40 0 (t 39)) (.take (l1 41 (t 40)) (.take (ad 42 (t 37) (t 41)) (.alt (o 43 (.mkSl true 3 1 [(i 0)] [(0,1,(t 42))])) false
  (.alt (o 44 (.app 3 1 8 [(i 0)] (t 33) (t 43))) false
  (.take (o 45 (.nilck (t 29))) (.take (fa 46 3 (t 45)) (.alt (st 1 (t 46) (t 44)) false
   (.done)
   (.none))))
  (.none))
  (.none)))))))))))))))) []))
 (.ops [ad 47 (t 27) (k 1),
 mv 27 (t 47)] [])))))))
 (.seq (.ops [mv 4 (k 0)] [])
 (.ret))))))
def zh3:List zd:=[.tmp 4]
theorem zxn {args:List Value} {M:Mem} {R:Value→Mem→Prop} (hn:args.length≤48) (h:zj Tryz.prog zh2 zh3 args M R):CallsM Tryz.prog F.zl4 args M R:=
 zf (kf:=fun _=>[]) Tryz.func69 (by kernel_rfl) (by kernel_rfl) hn (by kernel_rfl) h
def zgM:RCode:=
 .seq (.ops [mv 4 (.const sn)] [])
 (.seq (.seq (.ops [mv 6 (t 0),
 o 7 (.pnil .eql (t 6) (.const (.pointer none))),
 os 8 (.mov (t 7)),
 gf 8 9 (.mov (t 0)),
 gf 8 10 (.nilck (t 9)),
 gf 8 11 (.faddr 12 (t 10)),
 gf 8 12 (.load false 1 (t 11)),
 gf 8 13 (.mov (t 1)),
 gf 8 14 (.mget .int false (.pointer none) (t 12) (t 13)),
 gf 8 15 (.pnil .eql (t 14) (.const (.pointer none))),
 o 16 (.pick (t 8) (kb true) (t 15))] [])
 (.cond (t 16)
 (.seq (.ops [mv 4 (.const sn)] [])
 (.ret))
 (.skip)))
 (.seq (.ops [mv 17 (t 0),
 o 18 (.nilck (t 17)),
 fa 19 12 (t 18),
 l1 20 (t 19),
 mv 21 (t 1),
 o 22 (.mget .int false (.pointer none) (t 20) (t 21)),
 o 23 (.nilck (t 22)),
 fa 24 3 (t 23),
 l1 25 (t 24),
 mv 5 (t 25)] [])
 (.seq (.ops [mv 26 (t 0),
 o 27 (.nilck (t 26)),
 fa 28 12 (t 27),
 l1 29 (t 28),
 mv 30 (t 1),
 o 31 (.mget .int false (.pointer none) (t 29) (t 30)),
 o 32 (.nilck (t 31)),
 fa 33 3 (t 32),
 st 1 (t 33) (.const sn)] [])
 (.seq (.ops [mv 34 (t 5),
 mv 4 (t 34)] [])
 (.ret)))))
def zgN:List zd:=[.tmp 4]
theorem zvG {args:List Value} {M:Mem} {R:Value→Mem→Prop} (hn:args.length≤35) (h:zj Tryz.prog zgM zgN args M R):CallsM Tryz.prog F.zk6 args M R:=
 zf (kf:=fun _=>[]) Tryz.func70 (by kernel_rfl) (by kernel_rfl) hn (by kernel_rfl) h
def zdx:RCode:=
 .seq (.ops [mv 2 (k 0)] [])
 (.seq (.seq (.ops [mv 6 (t 0),
 o 7 (.pnil .eql (t 6) (.const (.pointer none)))] [])
 (.cond (t 7)
 (.seq (.ops [mv 2 (k 7)] [])
 (.ret))
 (.skip)))
 (.seq (.seq (.ops [mv 8 (t 0),
 ca 9 F.zgb [(t 8)],
 o 10 (.len (t 9)),
 mv 11 (k 0)] [])
 (.block 0 (.loop (.seq (.ops [o 12 (.ibin .lss (t 11) (t 10))] [])
 (.seq (.cond (t 12)
  (.skip)
  (.exit 0))
 (.seq (.block 1 (.seq (.ops [o 13 (.iaddr 1 (t 9) (t 11)),
 l1 14 (t 13),
 mv 4 (t 14)] [])
 (.seq (.ops [mv 15 (t 0),
 o 16 (.nilck (t 15)),
 fa 17 4 (t 16),
 l1 18 (t 17),
 mv 19 (t 4),
 o 20 (.mget .int false (.agg #[(i 0),(i 0),(i 0),(i 0),(i 0),(i 0),(i 0),(i 0),(i 0),(i 0),(i 0),(i 0),(i 0),(i 0),(i 0),(i 0),(i 0),(i 0),(i 0),(i 0),(i 0),(i 0),(i 0),(i 0),(i 0),(i 0),(i 0),(i 0),(i 0),(i 0),(i 0),(i 0),(i 0),(i 0),(i 0),(i 0),(i 0),(i 0),(i 0),(i 0),(i 0),(i 0),(i 0),(i 0),(i 0),(i 0),(i 0),(i 0),(i 0),(i 0),(i 0),(i 0),(i 0),(i 0),(i 0),(i 0),(i 0),(i 0),(i 0),(i 0),(i 0),(i 0),(i 0),(i 0),(i 0)]) (t 18) (t 19)),
 o 5 (.alloc 209 [(i 0),(i 0),(i 0),(i 0),(i 0),(i 0),(i 0),(i 0),(i 0),(i 0),(i 0),(i 0),(i 0),(i 0),(i 0),(i 0),(i 0),(i 0),(i 0),(i 0),(i 0),(i 0),(i 0),(i 0),(i 0),(i 0),(i 0),(i 0),(i 0),(i 0),(i 0),(i 0),(i 0),(i 0),(i 0),(i 0),(i 0),(i 0),(i 0),(i 0),(i 0),(i 0),(i 0),(i 0),(i 0),(i 0),(i 0),(i 0),(i 0),(i 0),(i 0),(i 0),(i 0),(i 0),(i 0),(i 0),(i 0),(i 0),(i 0),(i 0),(i 0),(i 0),(i 0),(i 0),(i 0)]),
 st 65 (t 5) (t 20)] [])
 (.seq (.ops [fa 21 64 (t 5),
 l1 22 (t 21),
 o 23 (.ibin .sub (t 22) (k 1)),
 fa 24 64 (t 5),
 st 1 (t 24) (t 23)] [])
 (.seq (.draw (.take (mv 25 (t 0)) (.take (o 26 (.nilck (t 25))) (.take (fa 27 4 (t 26)) (.take (l1 28 (t 27)) (.take (mv 29 (t 4)) (.take (la 30 65 (t 5)) (.alt (e (.mset .int (t 28) (t 29) (t 30))) false
  (.done)
  (.none)))))))) [])
 (.seq (.ops [fa 31 64 (t 5),
 l1 32 (t 31),
 o 33 (.ibin .eql (t 32) (k 0))] [])
 (.cond (t 33)
  (.ops [mv 34 (t 0),
  o 35 (.nilck (t 34)),
  fa 36 4 (t 35),
  l1 37 (t 36),
  mv 38 (t 4),
  e (.mdel .int (t 37) (t 38))] [])
  (.skip))))))))
 (.ops [ad 39 (t 11) (k 1),
 mv 11 (t 39)] [])))))))
 (.seq (.ops [mv 2 (k 0)] [])
 (.ret))))
def zdy:List zd:=[.tmp 2]
theorem zr4 {args:List Value} {M:Mem} {R:Value→Mem→Prop} (hn:args.length≤40) (h:zj Tryz.prog zdx zdy args M R):CallsM Tryz.prog F.zhL args M R:=
 zf (kf:=fun _=>[]) Tryz.func71 (by kernel_rfl) (by kernel_rfl) hn (by kernel_rfl) h
def zgO:RCode:=
 .seq (.ops [mv 2 (.const sn)] [])
 (.seq (.ops [mv 3 (.const sn)] [])
 (.seq (.seq (.ops [mv 5 (t 0),
 o 6 (.nilck (t 5)),
 fa 7 12 (t 6),
 l1 8 (t 7),
 o 9 (.mrange (t 8))] [])
 (.block 0 (.loop (.seq (.ops [o 10 (.mnext (t 9)),
 ex 11 (t 10) 0] [])
 (.seq (.cond (t 11)
  (.skip)
  (.exit 0))
 (.block 1 (.seq (.ops [o 12 (.mentry (t 9)),
 ex 13 (t 12) 0,
 mv 4 (t 13)] [])
 (.ops [mv 14 (t 3),
 mv 15 (t 4),
 o 16 (.mkSl true 3 1 [(i 0)] [(0,1,(t 15))]),
 o 17 (.app 3 1 8 [(i 0)] (t 14) (t 16)),
 mv 3 (t 17)] []))))))))
 (.seq (.ops [mv 18 (t 3),
 ca 19 F.zci [(t 18)]] [])
 (.seq (.ops [mv 20 (t 3),
 mv 2 (t 20)] [])
 (.ret)))))
def zgP:List zd:=[.tmp 2]
theorem zvH {args:List Value} {M:Mem} {R:Value→Mem→Prop} (hn:args.length≤21) (h:zj Tryz.prog zgO zgP args M R):CallsM Tryz.prog F.zbP args M R:=
 zf (kf:=fun _=>[]) Tryz.func72 (by kernel_rfl) (by kernel_rfl) hn (by kernel_rfl) h
def zgQ:RCode:=
 .seq (.ops [mv 2 (k 0)] [])
 (.seq (.seq (.ops [mv 6 (t 0),
 o 7 (.pnil .eql (t 6) (.const (.pointer none)))] [])
 (.cond (t 7)
 (.seq (.ops [mv 2 (k 7)] [])
 (.ret))
 (.skip)))
 (.seq (.seq (.ops [mv 8 (t 0),
 o 9 (.nilck (t 8)),
 fa 10 6 (t 9),
 l1 11 (t 10),
 o 12 (.ibin .eql (t 11) (k 0))] [])
 (.cond (t 12)
 (.seq (.ops [mv 2 (k 0)] [])
 (.ret))
 (.skip)))
 (.seq (.seq (.ops [mv 13 (t 0),
 o 14 (.nilck (t 13)),
 fa 15 6 (t 14),
 l1 16 (t 15),
 o 17 (.ibin .sub (t 16) (k 1)),
 o 18 (.nilck (t 13)),
 fa 19 6 (t 18),
 st 1 (t 19) (t 17)] [])
 (.seq (.ops [mv 20 (t 0),
 o 21 (.nilck (t 20)),
 fa 22 6 (t 21),
 l1 23 (t 22),
 o 24 (.ibin .gtr (t 23) (k 0))] [])
 (.cond (t 24)
 (.seq (.ops [mv 2 (k 0)] [])
 (.ret))
 (.skip))))
 (.seq (.ops [mv 25 (t 0),
 o 26 (.nilck (t 25)),
 fa 27 11 (t 26),
 l1 28 (t 27),
 ca 29 F.zaE [(t 28)],
 mv 3 (t 29)] [])
 (.seq (.block 0 (.seq (.ops [mv 31 (t 0),
 o 32 (.nilck (t 31)),
 fa 33 2 (t 32),
 l1 34 (t 33),
 o 35 (.not (t 34)),
 mv 30 (t 35)] [])
 (.cond (t 30)
 (.ops [mv 36 (t 0),
 ca 37 F.zcE [(t 36),(kb true)]] [])
 (.seq (.draw (.take (mv 39 (t 3)) (.take (o 40 (.len (t 39))) (.take (o 41 (.ibin .gtr (t 40) (k 0))) (.take (os 42 (.mov (t 41))) (.take (gt 42 43 (.mov (t 0))) (.take (gt 42 44 (.nilck (t 43))) (.take (gt 42 45 (.faddr 7 (t 44))) (.take (gt 42 46 (.load false 1 (t 45))) (.take (gt 42 47 (.mov (t 0))) (.take (gt 42 48 (.nilck (t 47))) (.take (gt 42 49 (.faddr 5 (t 48))) (.take (gt 42 50 (.load false 1 (t 49))) (.take (gt 42 51 (.ibin .eql (t 46) (t 50))) (.take (o 52 (.pick (t 42) (t 51) (kb false))) (.take (mv 38 (t 52)) (.done)))))))))))))))) [])
 (.cond (t 38)
  (.ops [mv 53 (t 0),
  ca 54 F.zpf [(t 53)]] [])
  (.seq (.ops [mv 56 (t 3),
  o 57 (.len (t 56)),
  o 58 (.ibin .gtr (t 57) (k 0)),
  mv 55 (t 58)] [])
  (.cond (t 55)
  (.seq (.ops [mv 59 (t 0),
  o 60 (.nilck (t 59)),
  fa 61 7 (t 60),
  l1 62 (t 61),
  ad 63 (t 62) (k 1),
  o 64 (.nilck (t 59)),
  fa 65 7 (t 64),
  st 1 (t 65) (t 63)] [])
  (.seq (.draw (.take (mv 67 (t 0)) (.take (o 68 (.nilck (t 67))) (.take (fa 69 11 (t 68)) (.take (l1 70 (t 69)) (.take (mv 71 (t 3)) (.take (o 72 (.iaddr 1 (t 71) (k 0))) (.take (l1 73 (t 72)) (.alt (ca 74 F.zlq [(t 70),(t 73)]) false
   (.take (mv 66 (t 74)) (.take (ex 75 (t 66) 0) (.take (ex 76 (t 66) 1) (.take (mv 4 (t 75)) (.take (mv 5 (t 76)) (.done))))))
   (.none))))))))) [])
  (.seq (.ops [mv 77 (t 0),
  mv 78 (t 3),
  o 79 (.iaddr 1 (t 78) (k 0)),
  l1 80 (t 79),
  mv 81 (t 4),
  ca 82 F.zc8 [(t 77),(t 80),(t 81),(kb true)]] [])
  (.ops [mv 83 (t 0),
  mv 84 (t 0),
  o 85 (.nilck (t 84)),
  fa 86 4 (t 85),
  l1 87 (t 86),
  o 88 (.nilck (t 83)),
  fa 89 6 (t 88),
  st 1 (t 89) (t 87)] []))))
  (.seq (.ops [mv 91 (t 0),
  o 92 (.nilck (t 91)),
  fa 93 9 (t 92),
  l1 94 (t 93),
  os 95 (.mov (t 94)),
  gt 95 96 (.mov (t 0)),
  gt 95 97 (.nilck (t 96)),
  gt 95 98 (.faddr 11 (t 97)),
  gt 95 99 (.load false 1 (t 98)),
  gt 95 100 (.call (fn F.zmL) [(t 99)]),
  gt 95 101 (.ibin .gtr (t 100) (k 0)),
  o 102 (.pick (t 95) (t 101) (kb false)),
  mv 90 (t 102)] [])
  (.cond (t 90)
   (.seq (.draw (.take (mv 103 (t 0)) (.take (mv 104 (t 0)) (.take (o 105 (.nilck (t 104))) (.take (fa 106 12 (t 105)) (.take (l1 107 (t 106)) (.take (mv 109 (t 0)) (.take (o 110 (.nilck (t 109))) (.take (fa 111 1 (t 110)) (.take (l1 112 (t 111)) (.alt (ca 108 F.za7 [(t 107)]) true
   (.take (o 113 (.build [(i 0),(i 0),(i 0),(.bool false),(i 0),(i 0),sn] [(0,1,(k 2)),(2,1,(t 108)),(3,1,(kb true)),(5,1,(t 112))])) (.alt (ca 114 F.zam [(t 103),(t 113)]) false
    (.done)
    (.none)))
   (.none))))))))))) [])
   (.ops [mv 115 (t 0),
   mv 116 (t 0),
   o 117 (.nilck (t 116)),
   fa 118 4 (t 117),
   l1 119 (t 118),
   o 120 (.nilck (t 115)),
   fa 121 6 (t 120),
   st 1 (t 121) (t 119)] []))
   (.skip))))))))))
 (.seq (.ops [mv 2 (k 0)] [])
 (.ret)))))))
def zgR:List zd:=[.tmp 2]
theorem zvI {args:List Value} {M:Mem} {R:Value→Mem→Prop} (hn:args.length≤122) (h:zj Tryz.prog zgQ zgR args M R):CallsM Tryz.prog F.zk7 args M R:=
 zf (kf:=fun _=>[]) Tryz.func73 (by kernel_rfl) (by kernel_rfl) hn (by kernel_rfl) h
def zh4:RCode:=
 .seq (.ops [mv 2 (k 0)] [])
 (.seq (.seq (.ops [mv 5 (t 0),
 o 6 (.pnil .eql (t 5) (.const (.pointer none)))] [])
 (.cond (t 6)
 (.seq (.ops [mv 2 (k 7)] [])
 (.ret))
 (.skip)))
 (.seq (.seq (.ops [mv 7 (t 0),
 o 8 (.nilck (t 7)),
 fa 9 2 (t 8),
 l1 10 (t 9),
 o 11 (.mrange (t 10))] [])
 (.block 0 (.loop (.seq (.ops [o 12 (.mnext (t 11)),
 ex 13 (t 12) 0] [])
 (.seq (.cond (t 13)
  (.skip)
  (.exit 0))
 (.block 1 (.seq (.ops [o 14 (.mentry (t 11)),
 ex 15 (t 14) 0,
 ex 16 (t 14) 1,
 o 3 (.alloc 54 [(i 0),(i 0),(i 0),(i 0)]),
 o 4 (.alloc 217 [(i 0),(i 0),(i 0),(i 0)]),
 st 4 (t 3) (t 15),
 st 4 (t 4) (t 16)] [])
 (.seq (.seq (.ops [fa 17 3 (t 4),
 l1 18 (t 17),
 o 19 (.ibin .gtr (t 18) (k 0))] [])
 (.cond (t 19)
  (.ops [fa 20 3 (t 4),
  l1 21 (t 20),
  o 22 (.ibin .sub (t 21) (k 1)),
  fa 23 3 (t 4),
  st 1 (t 23) (t 22)] [])
  (.ops [fa 24 2 (t 4),
  l1 25 (t 24),
  ad 26 (t 25) (k 1),
  fa 27 2 (t 4),
  st 1 (t 27) (t 26)] [])))
 (.seq (.draw (.take (mv 28 (t 0)) (.take (o 29 (.nilck (t 28))) (.take (fa 30 2 (t 29)) (.take (l1 31 (t 30)) (.take (la 32 4 (t 3)) (.take (la 33 4 (t 4)) (.alt (e (.mset (.agg 4) (t 31) (t 32) (t 33))) false
  (.done)
  (.none)))))))) [])
 (.seq (.ops [fa 34 3 (t 4),
 l1 35 (t 34),
 o 36 (.ibin .eql (t 35) (k 0)),
 os 37 (.mov (t 36)),
 gt 37 38 (.faddr 2 (t 4)),
 gt 37 39 (.load false 1 (t 38)),
 gt 37 40 (.ibin .eql (t 39) (k 0)),
 ⟨(some 41),.mov (t 40),some (37,true),true⟩,
 gf 41 42 (.faddr 2 (t 4)),
 gf 41 43 (.load false 1 (t 42)),
 gf 41 44 (.ibin .eql (t 43) (k 64)),
 gt 37 45 (.pick (t 41) (kb true) (t 44)),
 o 46 (.pick (t 37) (t 45) (kb false))] [])
 (.cond (t 46)
  (.draw (.take (mv 47 (t 0)) (.take (o 48 (.nilck (t 47))) (.take (fa 49 2 (t 48)) (.take (l1 50 (t 49)) (.take (la 51 4 (t 3)) (.alt (e (.mdel (.agg 4) (t 50) (t 51))) false
  (.done)
  (.none))))))) [])
  (.skip))))))))))))
 (.seq (.ops [mv 2 (k 0)] [])
 (.ret))))
def zh5:List zd:=[.tmp 2]
theorem zxo {args:List Value} {M:Mem} {R:Value→Mem→Prop} (hn:args.length≤52) (h:zj Tryz.prog zh4 zh5 args M R):CallsM Tryz.prog F.zl5 args M R:=
 zf (kf:=fun _=>[]) Tryz.func74 (by kernel_rfl) (by kernel_rfl) hn (by kernel_rfl) h
def zji:RCode:=
 .seq (.ops [mv 2 (kb false)] [])
 (.seq (.ops [mv 3 (t 0),
 o 4 (.pnil .neq (t 3) (.const (.pointer none))),
 os 5 (.mov (t 4)),
 gt 5 6 (.mov (t 0)),
 gt 5 7 (.nilck (t 6)),
 gt 5 8 (.faddr 2 (t 7)),
 gt 5 9 (.load false 1 (t 8)),
 o 10 (.pick (t 5) (t 9) (kb false)),
 mv 2 (t 10)] [])
 (.ret))
def zjj:List zd:=[.tmp 2]
theorem zy5 {args:List Value} {M:Mem} {R:Value→Mem→Prop} (hn:args.length≤11) (h:zj Tryz.prog zji zjj args M R):CallsM Tryz.prog F.zi8 args M R:=
 zf (kf:=fun _=>[]) Tryz.func75 (by kernel_rfl) (by kernel_rfl) hn (by kernel_rfl) h
def zgS:RCode:=
 .seq (.ops [o 5 (.box 142 (t 2)),
 mv 6 (k 0)] [])
 (.seq (.ops [la 10 8 (t 5),
 ca 11 F.zty [(t 10)],
 mv 9 (t 11),
 ex 12 (t 9) 0,
 ex 13 (t 9) 1,
 mv 7 (t 12),
 mv 8 (t 13)] [])
 (.seq (.seq (.ops [mv 14 (t 8),
 o 15 (.ibin .neq (t 14) (k 0))] [])
 (.cond (t 15)
 (.seq (.ops [mv 16 (t 8),
 mv 6 (t 16)] [])
 (.ret))
 (.skip)))
 (.seq (.ops [mv 17 (t 0),
 o 18 (.nilck (t 17)),
 fa 19 12 (t 18),
 l1 20 (t 19),
 mv 21 (t 1),
 o 22 (.mget .int false (.pointer none) (t 20) (t 21)),
 o 23 (.nilck (t 22)),
 fa 24 0 (t 23),
 l1 25 (t 24),
 mv 26 (t 7),
 ca 27 F.zla [(t 25),(t 26)],
 mv 6 (t 27)] [])
 (.ret))))
def zgT:List zd:=[.tmp 6]
theorem zvJ {args:List Value} {M:Mem} {R:Value→Mem→Prop} (hn:args.length≤28) (h:zj Tryz.prog zgS zgT args M R):CallsM Tryz.prog F.zc5 args M R:=
 zf (kf:=fun _=>[]) Tryz.func76 (by kernel_rfl) (by kernel_rfl) hn (by kernel_rfl) h
def zcm:RCode:=
 .seq (.ops [mv 4 (.const sn)] [])
 (.seq (.seq (.ops [mv 9 (t 0),
 o 10 (.pnil .eql (t 9) (.const (.pointer none))),
 os 11 (.mov (t 10)),
 gf 11 12 (.mov (t 0)),
 gf 11 13 (.mov (t 1)),
 gf 11 14 (.call (fn F.zdl) [(t 12),(t 13)]),
 gf 11 15 (.not (t 14)),
 o 16 (.pick (t 11) (kb true) (t 15))] [])
 (.cond (t 16)
 (.seq (.ops [mv 4 (.const sn)] [])
 (.ret))
 (.skip)))
 (.seq (.ops [o 17 (.mkSlN 3 8 [(i 0)] (k 64) (k 64)),
 mv 5 (t 17)] [])
 (.seq (.seq (.ops [mv 18 (t 5),
 o 19 (.len (t 18)),
 mv 20 (k 0)] [])
 (.block 0 (.loop (.seq (.ops [o 21 (.ibin .lss (t 20) (t 19))] [])
 (.seq (.cond (t 21)
  (.skip)
  (.exit 0))
 (.seq (.block 1 (.seq (.ops [mv 22 (t 20),
 mv 6 (t 22)] [])
 (.seq (.ops [mv 23 (t 5),
 mv 24 (t 6),
 mv 25 (t 0),
 mv 26 (t 6),
 ca 27 F.zbK [(t 25),(t 26)],
 o 28 (.iaddr 1 (t 23) (t 24)),
 st 1 (t 28) (t 27)] [])
 (.seq (.ops [mv 30 (t 0),
 mv 31 (t 6),
 ca 32 F.zdm [(t 30),(t 31)],
 mv 29 (t 32),
 ex 33 (t 29) 0,
 ex 34 (t 29) 1,
 mv 7 (t 33),
 mv 8 (t 34)] [])
 (.seq (.ops [mv 35 (t 8),
 os 36 (.mov (t 35)),
 gt 36 37 (.mov (t 7)),
 gt 36 38 (.mov (t 1)),
 gt 36 39 (.ibin .eql (t 37) (t 38)),
 o 40 (.pick (t 36) (t 39) (kb false))] [])
 (.cond (t 40)
  (.ops [mv 41 (t 5),
  mv 42 (t 6),
  o 43 (.iaddr 1 (t 41) (t 42)),
  st 1 (t 43) (k 16)] [])
  (.skip)))))))
 (.ops [ad 44 (t 20) (k 1),
 mv 20 (t 44)] [])))))))
 (.seq (.ops [mv 45 (t 5),
 mv 4 (t 45)] [])
 (.ret)))))
def zcn:List zd:=[.tmp 4]
theorem zqy {args:List Value} {M:Mem} {R:Value→Mem→Prop} (hn:args.length≤46) (h:zj Tryz.prog zcm zcn args M R):CallsM Tryz.prog F.zfH args M R:=
 zf (kf:=fun _=>[]) Tryz.func77 (by kernel_rfl) (by kernel_rfl) hn (by kernel_rfl) h
def zem:RCode:=
 .seq (.ops [o 6 (.alloc 54 [(i 0),(i 0),(i 0),(i 0)]),
 mv 7 (k 0)] [])
 (.seq (.seq (.ops [mv 11 (t 0),
 ca 12 F.zaR [(t 11)],
 mv 8 (t 12)] [])
 (.seq (.ops [mv 13 (t 8),
 o 14 (.ibin .neq (t 13) (k 0))] [])
 (.cond (t 14)
 (.seq (.ops [o 15 (.build [(i 0),(i 0),(i 0),(i 0)] []),
 mv 16 (t 8),
 st 4 (t 6) (t 15),
 mv 7 (t 16)] [])
 (.ret))
 (.skip))))
 (.seq (.ops [mv 18 (t 0),
 o 19 (.nilck (t 18)),
 fa 20 11 (t 19),
 l1 21 (t 20),
 mv 22 (t 1),
 mv 23 (t 2),
 ca 24 F.zc9 [(t 21),(t 22),(t 23)],
 mv 17 (t 24),
 ex 25 (t 17) 0,
 ex 26 (t 17) 1,
 o 9 (.alloc 54 [(i 0),(i 0),(i 0),(i 0)]),
 st 4 (t 9) (t 25),
 mv 10 (t 26)] [])
 (.seq (.ops [mv 27 (t 0),
 ca 28 F.zaS [(t 27)]] [])
 (.seq (.ops [la 29 4 (t 9),
 mv 30 (t 10),
 st 4 (t 6) (t 29),
 mv 7 (t 30)] [])
 (.ret)))))
def zen:List zd:=[.cell true 4 6,.tmp 7]
theorem zsM {args:List Value} {M:Mem} {R:Value→Mem→Prop} (hn:args.length≤31) (h:zj Tryz.prog zem zen args M R):CallsM Tryz.prog F.ziG args M R:=
 zf (kf:=fun _=>[]) Tryz.func78 (by kernel_rfl) (by kernel_rfl) hn (by kernel_rfl) h
def zxp:RCode:=
 .seq (.ops [mv 6 (k 0)] [])
 (.seq (.seq (.ops [mv 9 (t 0),
 o 10 (.pnil .eql (t 9) (.const (.pointer none)))] [])
 (.cond (t 10)
 (.seq (.ops [mv 6 (k 7)] [])
 (.ret))
 (.skip)))
 (.seq (.seq (.ops [mv 11 (t 1),
 o 12 (.ibin .lss (t 11) (k 0)),
 os 13 (.mov (t 12)),
 gf 13 14 (.mov (t 2)),
 gf 13 15 (.ibin .lss (t 14) (k 0)),
 o 16 (.pick (t 13) (kb true) (t 15)),
 os 17 (.mov (t 16)),
 gf 17 18 (.mov (t 1)),
 gf 17 19 (.mov (t 0)),
 gf 17 20 (.nilck (t 19)),
 gf 17 21 (.faddr 2 (t 20)),
 gf 17 22 (.load false 1 (t 21)),
 gf 17 23 (.len (t 22)),
 gf 17 24 (.ibin .gtr (t 18) (t 23)),
 o 25 (.pick (t 17) (kb true) (t 24)),
 os 26 (.mov (t 25)),
 gf 26 27 (.mov (t 2)),
 gf 26 28 (.mov (t 0)),
 gf 26 29 (.nilck (t 28)),
 gf 26 30 (.faddr 2 (t 29)),
 gf 26 31 (.load false 1 (t 30)),
 gf 26 32 (.len (t 31)),
 gf 26 33 (.mov (t 1)),
 gf 26 34 (.ibin .sub (t 32) (t 33)),
 gf 26 35 (.ibin .gtr (t 27) (t 34)),
 o 36 (.pick (t 26) (kb true) (t 35))] [])
 (.cond (t 36)
 (.seq (.ops [mv 6 (k 1)] [])
 (.ret))
 (.skip)))
 (.seq (.draw (.take (mv 37 (t 0)) (.take (o 38 (.nilck (t 37))) (.take (fa 39 2 (t 38)) (.take (l1 40 (t 39)) (.take (o 41 (.len (t 40))) (.take (mv 42 (t 2)) (.take (o 43 (.ibin .sub (t 41) (t 42))) (.take (mv 45 (t 0)) (.take (o 46 (.nilck (t 45))) (.take (fa 47 2 (t 46)) (.take (l1 48 (t 47)) (.take (o 49 (.len (t 48))) (.take (mv 50 (t 2)) (.take (o 51 (.ibin .sub (t 49) (t 50))) (.alt (o 44 (.mkSlN 5 1 [(u 0)] (t 43) (t 43))) true
 (.take (mv 7 (t 44)) (.alt (o 52 (.mkSlN 3 8 [(i 0)] (t 51) (t 51))) true
  (.take (mv 8 (t 52)) (.done))
  (.none)))
 (.alt (o 52 (.mkSlN 3 8 [(i 0)] (t 51) (t 51))) true
  (.alt (o 44 (.mkSlN 5 1 [(u 0)] (t 43) (t 43))) true
  (.take (mv 7 (t 44)) (.take (mv 8 (t 52)) (.done)))
  (.none))
  (.none))))))))))))))))) [])
 (.seq (.ops [mv 53 (t 7),
 mv 54 (t 0),
 o 55 (.nilck (t 54)),
 fa 56 2 (t 55),
 l1 57 (t 56),
 mv 58 (t 1),
 o 59 (.slx 1 (t 57) none (some (t 58))),
 o 60 (.cpy 1 (t 53) (t 59))] [])
 (.seq (.draw (.take (mv 61 (t 7)) (.take (mv 62 (t 1)) (.take (o 63 (.slx 1 (t 61) (some (t 62)) none)) (.take (mv 64 (t 0)) (.take (o 65 (.nilck (t 64))) (.take (fa 66 2 (t 65)) (.take (l1 67 (t 66)) (.take (mv 68 (t 1)) (.take (mv 69 (t 2)) (.take (ad 70 (t 68) (t 69)) (.take (o 71 (.slx 1 (t 67) (some (t 70)) none)) (.alt (o 72 (.cpy 1 (t 63) (t 71))) false
 (.done)
 (.none))))))))))))) [])
 (.seq (.ops [mv 73 (t 8),
 mv 74 (t 0),
 o 75 (.nilck (t 74)),
 fa 76 3 (t 75),
 l1 77 (t 76),
 mv 78 (t 1),
 o 79 (.slx 1 (t 77) none (some (t 78))),
 o 80 (.cpy 1 (t 73) (t 79))] [])
 (.seq (.draw (.take (mv 81 (t 8)) (.take (mv 82 (t 1)) (.take (o 83 (.slx 1 (t 81) (some (t 82)) none)) (.take (mv 84 (t 0)) (.take (o 85 (.nilck (t 84))) (.take (fa 86 3 (t 85)) (.take (l1 87 (t 86)) (.take (mv 88 (t 1)) (.take (mv 89 (t 2)) (.take (ad 90 (t 88) (t 89)) (.take (o 91 (.slx 1 (t 87) (some (t 90)) none)) (.alt (o 92 (.cpy 1 (t 83) (t 91))) false
 (.done)
 (.none))))))))))))) [])
 (.seq (.ops [mv 93 (t 0),
 mv 94 (t 0),
 mv 95 (t 7),
 mv 96 (t 8),
 o 97 (.nilck (t 93)),
 fa 98 2 (t 97),
 st 1 (t 98) (t 95),
 o 99 (.nilck (t 94)),
 fa 100 3 (t 99),
 st 1 (t 100) (t 96)] [])
 (.seq (.ops [mv 6 (k 0)] [])
 (.ret))))))))))
def zxq:List zd:=[.tmp 6]
def zxr:RCode:=
 .seq (.ops [mv 6 (k 0)] [])
 (.seq (.block 0 (.seq (.ops [mv 8 (t 0),
 o 9 (.pnil .eql (t 8) (.const (.pointer none))),
 mv 7 (t 9)] [])
 (.cond (t 7)
 (.seq (.ops [mv 6 (k 7)] [])
 (.ret))
 (.seq (.ops [mv 11 (t 1),
 o 12 (.ibin .lss (t 11) (k 0)),
 os 13 (.mov (t 12)),
 gf 13 14 (.mov (t 1)),
 gf 13 15 (.mov (t 0)),
 gf 13 16 (.nilck (t 15)),
 gf 13 17 (.faddr 2 (t 16)),
 gf 13 18 (.load false 1 (t 17)),
 gf 13 19 (.len (t 18)),
 gf 13 20 (.ibin .geq (t 14) (t 19)),
 o 21 (.pick (t 13) (kb true) (t 20)),
 mv 10 (t 21)] [])
 (.cond (t 10)
  (.seq (.ops [mv 6 (k 1)] [])
  (.ret))
  (.seq (.ops [mv 23 (t 2),
  o 24 (.conv .u8 (t 23)),
  o 25 (.ibin .eql (t 24) (.const (u 0))),
  mv 22 (t 25)] [])
  (.cond (t 22)
  (.seq (.ops [mv 6 (k 2)] [])
  (.ret))
  (.skip))))))))
 (.seq (.ops [mv 26 (t 0),
 o 27 (.nilck (t 26)),
 fa 28 2 (t 27),
 l1 29 (t 28),
 mv 30 (t 1),
 o 31 (.iaddr 1 (t 29) (t 30)),
 l1 32 (t 31),
 mv 33 (t 2),
 o 34 (.conv .u8 (t 33)),
 o 35 (.ibin .xor (t 32) (t 34)),
 o 36 (.iaddr 1 (t 29) (t 30)),
 st 1 (t 36) (t 35)] [])
 (.seq (.ops [mv 6 (k 0)] [])
 (.ret))))
def zxs:List zd:=[.tmp 6]
def ztM:RCode:=
 .seq (.ops [mv 6 (k 0)] [])
 (.seq (.block 0 (.seq (.ops [mv 11 (t 0),
 o 12 (.pnil .eql (t 11) (.const (.pointer none))),
 mv 10 (t 12)] [])
 (.cond (t 10)
 (.seq (.ops [mv 6 (k 7)] [])
 (.ret))
 (.seq (.ops [mv 14 (t 1),
 o 15 (.ibin .lss (t 14) (k 0)),
 os 16 (.mov (t 15)),
 gf 16 17 (.mov (t 1)),
 gf 16 18 (.mov (t 0)),
 gf 16 19 (.nilck (t 18)),
 gf 16 20 (.faddr 2 (t 19)),
 gf 16 21 (.load false 1 (t 20)),
 gf 16 22 (.len (t 21)),
 gf 16 23 (.ibin .gtr (t 17) (t 22)),
 o 24 (.pick (t 16) (kb true) (t 23)),
 mv 13 (t 24)] [])
 (.cond (t 13)
  (.seq (.ops [mv 6 (k 1)] [])
  (.ret))
  (.seq (.ops [mv 26 (t 0),
  o 27 (.nilck (t 26)),
  fa 28 2 (t 27),
  l1 29 (t 28),
  o 30 (.len (t 29)),
  o 31 (.ibin .eql (t 30) (k 65536)),
  mv 25 (t 31)] [])
  (.cond (t 25)
  (.seq (.ops [mv 6 (k 6)] [])
  (.ret))
  (.skip))))))))
 (.seq (.draw (.take (mv 32 (t 0)) (.take (o 33 (.nilck (t 32))) (.take (fa 34 1 (t 33)) (.take (l1 35 (t 34)) (.take (mv 36 (t 0)) (.take (o 37 (.nilck (t 36))) (.take (fa 38 0 (t 37)) (.take (l1 39 (t 38)) (.take (ad 40 (t 35) (t 39)) (.take (mv 7 (t 40)) (.done))))))))))) [])
 (.seq (.seq (.ops [mv 41 (t 0),
 o 42 (.nilck (t 41)),
 fa 43 2 (t 42),
 l1 44 (t 43),
 o 45 (.len (t 44)),
 o 46 (.ibin .gtr (t 45) (k 0))] [])
 (.cond (t 46)
 (.draw (.take (mv 47 (t 0)) (.take (o 48 (.nilck (t 47))) (.take (fa 49 3 (t 48)) (.take (l1 50 (t 49)) (.take (mv 51 (t 1)) (.take (mv 52 (t 0)) (.take (o 53 (.nilck (t 52))) (.take (fa 54 2 (t 53)) (.take (l1 55 (t 54)) (.take (o 56 (.len (t 55))) (.take (o 57 (.ibin .sub (t 56) (k 1))) (.take (o 58 (.imm false (t 51) (t 57))) (.take (o 59 (.iaddr 1 (t 50) (t 58))) (.take (l1 60 (t 59)) (.take (mv 7 (t 60)) (.done)))))))))))))))) [])
 (.skip)))
 (.seq (.draw (.take (mv 61 (t 0)) (.take (o 62 (.nilck (t 61))) (.take (fa 63 2 (t 62)) (.take (l1 64 (t 63)) (.take (o 65 (.len (t 64))) (.take (ad 66 (t 65) (k 1)) (.take (mv 68 (t 0)) (.take (o 69 (.nilck (t 68))) (.take (fa 70 2 (t 69)) (.take (l1 71 (t 70)) (.take (o 72 (.len (t 71))) (.take (ad 73 (t 72) (k 1)) (.alt (o 67 (.mkSlN 5 1 [(u 0)] (t 66) (t 66))) true
 (.take (mv 8 (t 67)) (.alt (o 74 (.mkSlN 3 8 [(i 0)] (t 73) (t 73))) true
  (.take (mv 9 (t 74)) (.done))
  (.none)))
 (.alt (o 74 (.mkSlN 3 8 [(i 0)] (t 73) (t 73))) true
  (.alt (o 67 (.mkSlN 5 1 [(u 0)] (t 66) (t 66))) true
  (.take (mv 8 (t 67)) (.take (mv 9 (t 74)) (.done)))
  (.none))
  (.none))))))))))))))) [])
 (.seq (.ops [mv 75 (t 8),
 mv 76 (t 0),
 o 77 (.nilck (t 76)),
 fa 78 2 (t 77),
 l1 79 (t 78),
 mv 80 (t 1),
 o 81 (.slx 1 (t 79) none (some (t 80))),
 o 82 (.cpy 1 (t 75) (t 81))] [])
 (.seq (.draw (.take (mv 83 (t 8)) (.take (mv 84 (t 1)) (.take (ad 85 (t 84) (k 1)) (.take (o 86 (.slx 1 (t 83) (some (t 85)) none)) (.take (mv 87 (t 0)) (.take (o 88 (.nilck (t 87))) (.take (fa 89 2 (t 88)) (.take (l1 90 (t 89)) (.take (mv 91 (t 1)) (.take (o 92 (.slx 1 (t 90) (some (t 91)) none)) (.alt (o 93 (.cpy 1 (t 86) (t 92))) false
 (.done)
 (.none)))))))))))) [])
 (.seq (.ops [mv 94 (t 9),
 mv 95 (t 0),
 o 96 (.nilck (t 95)),
 fa 97 3 (t 96),
 l1 98 (t 97),
 mv 99 (t 1),
 o 100 (.slx 1 (t 98) none (some (t 99))),
 o 101 (.cpy 1 (t 94) (t 100))] [])
 (.seq (.draw (.take (mv 102 (t 9)) (.take (mv 103 (t 1)) (.take (ad 104 (t 103) (k 1)) (.take (o 105 (.slx 1 (t 102) (some (t 104)) none)) (.take (mv 106 (t 0)) (.take (o 107 (.nilck (t 106))) (.take (fa 108 3 (t 107)) (.take (l1 109 (t 108)) (.take (mv 110 (t 1)) (.take (o 111 (.slx 1 (t 109) (some (t 110)) none)) (.alt (o 112 (.cpy 1 (t 105) (t 111))) false
 (.done)
 (.none)))))))))))) [])
 (.seq (.ops [mv 113 (t 8),
 mv 114 (t 1),
 mv 115 (t 9),
 mv 116 (t 1),
 mv 117 (t 2),
 mv 118 (t 7),
 o 119 (.iaddr 1 (t 113) (t 114)),
 st 1 (t 119) (t 117),
 o 120 (.iaddr 1 (t 115) (t 116)),
 st 1 (t 120) (t 118)] [])
 (.seq (.ops [mv 121 (t 0),
 mv 122 (t 0),
 mv 123 (t 8),
 mv 124 (t 9),
 o 125 (.nilck (t 121)),
 fa 126 2 (t 125),
 st 1 (t 126) (t 123),
 o 127 (.nilck (t 122)),
 fa 128 3 (t 127),
 st 1 (t 128) (t 124)] [])
 (.seq (.ops [mv 6 (k 0)] [])
 (.ret))))))))))))
def ztN:List zd:=[.tmp 6]
def zy6:RCode:=
 .seq (.ops [mv 2 (k 0)] [])
 (.seq (.seq (.ops [mv 3 (t 0),
 o 4 (.pnil .eql (t 3) (.const (.pointer none)))] [])
 (.cond (t 4)
 (.seq (.ops [mv 2 (k 0)] [])
 (.ret))
 (.skip)))
 (.seq (.ops [mv 5 (t 0),
 o 6 (.nilck (t 5)),
 fa 7 2 (t 6),
 l1 8 (t 7),
 o 9 (.len (t 8)),
 mv 2 (t 9)] [])
 (.ret)))
def zy7:List zd:=[.tmp 2]
def zsN:RCode:=
 .seq (.ops [mv 2 (k 0)] [])
 (.seq (.seq (.ops [mv 5 (t 0),
 ca 6 F.zaR [(t 5)],
 mv 3 (t 6)] [])
 (.seq (.ops [mv 7 (t 3),
 o 8 (.ibin .neq (t 7) (k 0))] [])
 (.cond (t 8)
 (.seq (.ops [mv 9 (t 3),
 mv 2 (t 9)] [])
 (.ret))
 (.skip))))
 (.seq (.ops [mv 10 (t 0),
 o 11 (.nilck (t 10)),
 fa 12 11 (t 11),
 l1 13 (t 12),
 ca 14 F.zoe [(t 13)],
 mv 4 (t 14)] [])
 (.seq (.ops [mv 15 (t 0),
 ca 16 F.zaS [(t 15)]] [])
 (.seq (.ops [mv 17 (t 4),
 mv 2 (t 17)] [])
 (.ret)))))
def zsO:List zd:=[.tmp 2]
def zfe:RCode:=
 .seq (.ops [mv 4 (k 0)] [])
 (.seq (.seq (.ops [mv 7 (t 0),
 o 8 (.pnil .eql (t 7) (.const (.pointer none)))] [])
 (.cond (t 8)
 (.seq (.ops [mv 4 (k 7)] [])
 (.ret))
 (.skip)))
 (.seq (.seq (.ops [mv 9 (t 0),
 o 10 (.nilck (t 9)),
 fa 11 3 (t 10),
 l1 12 (t 11)] [])
 (.cond (t 12)
 (.seq (.ops [mv 4 (k 9)] [])
 (.ret))
 (.skip)))
 (.seq (.seq (.ops [mv 13 (t 1),
 o 14 (.len (t 13)),
 mv 15 (k 0)] [])
 (.block 0 (.loop (.seq (.ops [o 16 (.ibin .lss (t 15) (t 14))] [])
 (.seq (.cond (t 16)
  (.skip)
  (.exit 0))
 (.seq (.block 1 (.seq (.ops [o 17 (.iaddr 1 (t 13) (t 15)),
 l1 18 (t 17),
 mv 6 (t 18)] [])
 (.seq (.ops [mv 19 (t 6),
 ca 20 F.zpg [(t 19)],
 o 21 (.not (t 20))] [])
 (.cond (t 21)
  (.seq (.ops [mv 4 (k 2)] [])
  (.ret))
  (.skip)))))
 (.ops [ad 22 (t 15) (k 1),
 mv 15 (t 22)] [])))))))
 (.seq (.ops [mv 4 (k 0)] [])
 (.ret)))))
def zff:List zd:=[.tmp 4]
theorem ztO {args:List Value} {M:Mem} {R:Value→Mem→Prop} (hn:args.length≤23) (h:zj Tryz.prog zfe zff args M R):CallsM Tryz.prog F.zbv args M R:=
 zf (kf:=fun _=>[]) Tryz.func84 (by kernel_rfl) (by kernel_rfl) hn (by kernel_rfl) h
def zaX:RCode:=
 .seq (.ops [mv 3 (t 0),
 o 4 (.len (t 3)),
 mv 2 (t 4)] [])
 (.ops [mv 5 (t 0),
 mv 6 (t 2),
 mv 7 (t 2),
 o 8 (.conv .u64 (t 7)),
 ca 9 F.zaW [(t 8)],
 ca 10 F.zU [(t 5),(k 0),(t 6),(t 9)]] [])
def zaY:List zd:=[]
theorem zmX {args:List Value} {M:Mem} {R:Value→Mem→Prop} (hn:args.length≤11) (h:zj Tryz.prog zaX zaY args M R):CallsM Tryz.prog F.zca args M R:=
 zf (kf:=fun _=>[]) Tryz.func85 (by kernel_rfl) (by kernel_rfl) hn (by kernel_rfl) h
def zoo:RCode:=
 .seq (.ops [mv 4 (kb false)] [])
 (.seq (.ops [mv 5 (t 0),
 o 6 (.ibin .geq (t 5) (k 0)),
 os 7 (.mov (t 6)),
 gt 7 8 (.mov (t 0)),
 gt 7 9 (.mov (t 1)),
 gt 7 10 (.ibin .leq (t 8) (t 9)),
 o 11 (.pick (t 7) (t 10) (kb false)),
 mv 4 (t 11)] [])
 (.ret))
def zop:List zd:=[.tmp 4]
theorem zDz {args:List Value} {M:Mem} {R:Value→Mem→Prop} (hn:args.length≤12) (h:zj Tryz.prog zoo zop args M R):CallsM Tryz.prog F.zcJ args M R:=
 zf (kf:=fun _=>[]) Tryz.func86 (by kernel_rfl) (by kernel_rfl) hn (by kernel_rfl) h
def zoq:RCode:=
 .seq (.ops [mv 2 (.const (.pointer none)),
 mv 3 (k 0)] [])
 (.seq (.seq (.ops [mv 4 (t 0),
 o 5 (.ibin .lss (t 4) (k 0)),
 os 6 (.mov (t 5)),
 gf 6 7 (.mov (t 0)),
 gf 6 8 (.ibin .gtr (t 7) (k 256)),
 o 9 (.pick (t 6) (kb true) (t 8))] [])
 (.cond (t 9)
 (.seq (.ops [mv 2 (.const (.pointer none)),
 mv 3 (k 1)] [])
 (.ret))
 (.skip)))
 (.seq (.ops [mv 10 (t 0),
 o 11 (.mkMap),
 o 12 (.build [(i 0),(.map none)] [(0,1,(t 10)),(1,1,(t 11))]),
 o 13 (.box 224 (t 12)),
 mv 2 (t 13),
 mv 3 (k 0)] [])
 (.ret)))
def zor:List zd:=[.tmp 2,.tmp 3]
theorem zDA {args:List Value} {M:Mem} {R:Value→Mem→Prop} (hn:args.length≤14) (h:zj Tryz.prog zoq zor args M R):CallsM Tryz.prog F.zod args M R:=
 zf (kf:=fun _=>[]) Tryz.func87 (by kernel_rfl) (by kernel_rfl) hn (by kernel_rfl) h
def zco:RCode:=
 .seq (.ops [mv 4 (kb false)] [])
 (.seq (.seq (.ops [mv 7 (t 0),
 o 8 (.nilck (t 7)),
 fa 9 1 (t 8),
 l1 10 (t 9),
 ca 11 F.zbu [(t 10)],
 o 12 (.len (t 11)),
 mv 13 (k 0)] [])
 (.block 0 (.loop (.seq (.ops [o 14 (.ibin .lss (t 13) (t 12))] [])
 (.seq (.cond (t 14)
  (.skip)
  (.exit 0))
 (.seq (.block 1 (.seq (.ops [o 15 (.iaddr 1 (t 11) (t 13)),
 l1 16 (t 15),
 mv 6 (t 16)] [])
 (.seq (.ops [mv 17 (t 6),
 mv 18 (t 1),
 o 19 (.strE .eql (t 17) (t 18))] [])
 (.cond (t 19)
  (.seq (.ops [mv 4 (kb true)] [])
  (.ret))
  (.skip)))))
 (.ops [ad 20 (t 13) (k 1),
 mv 13 (t 20)] [])))))))
 (.seq (.ops [mv 4 (kb false)] [])
 (.ret)))
def zcp:List zd:=[.tmp 4]
theorem zqz {args:List Value} {M:Mem} {R:Value→Mem→Prop} (hn:args.length≤21) (h:zj Tryz.prog zco zcp args M R):CallsM Tryz.prog F.zch args M R:=
 zf (kf:=fun _=>[]) Tryz.func88 (by kernel_rfl) (by kernel_rfl) hn (by kernel_rfl) h
def ztP:RCode:=
 .seq (.ops [mv 4 (k 0)] [])
 (.seq (.seq (.ops [mv 8 (t 0),
 mv 9 (t 1),
 ca 10 F.zaT [(t 8),(t 9)],
 mv 7 (t 10),
 ex 11 (t 7) 0,
 ex 12 (t 7) 1,
 mv 5 (t 11),
 mv 6 (t 12)] [])
 (.seq (.ops [mv 13 (t 6),
 o 14 (.ibin .neq (t 13) (k 0))] [])
 (.cond (t 14)
 (.seq (.ops [mv 15 (t 6),
 mv 4 (t 15)] [])
 (.ret))
 (.skip))))
 (.seq (.ops [mv 16 (t 0),
 o 17 (.nilck (t 16)),
 fa 18 1 (t 17),
 l1 19 (t 18),
 mv 20 (t 1),
 e (.mdel .str (t 19) (t 20))] [])
 (.seq (.ops [mv 21 (t 0),
 ca 22 F.zat [(t 21)],
 mv 4 (t 22)] [])
 (.ret))))
def ztQ:List zd:=[.tmp 4]
def zbE:RCode:=
 .seq (.ops [mv 2 (.const sn)] [])
 (.seq (.ops [mv 3 (.const sn)] [])
 (.seq (.seq (.ops [mv 9 (t 0),
 o 10 (.nilck (t 9)),
 fa 11 1 (t 10),
 l1 12 (t 11),
 ca 13 F.zbu [(t 12)],
 o 14 (.len (t 13)),
 mv 15 (k 0)] [])
 (.block 0 (.loop (.seq (.ops [o 16 (.ibin .lss (t 15) (t 14))] [])
 (.seq (.cond (t 16)
  (.skip)
  (.exit 0))
 (.seq (.block 1 (.seq (.ops [o 17 (.iaddr 1 (t 13) (t 15)),
 l1 18 (t 17),
 mv 5 (t 18)] [])
 (.seq (.seq (.ops [mv 19 (t 5),
 o 20 (.lenS (t 19)),
 o 21 (.ibin .neq (t 20) (k 6)),
 os 22 (.mov (t 21)),
 gf 22 23 (.mov (t 5)),
 gf 22 24 (.sidx (t 23) (k 0)),
 gf 22 25 (.ibin .neq (t 24) (.const (u 115))),
 o 26 (.pick (t 22) (kb true) (t 25))] [])
 (.cond (t 26)
  (.exit 1)
  (.skip)))
 (.seq (.ops [mv 6 (k 0)] [])
 (.seq (.seq (.ops [mv 27 (t 5),
 o 28 (.ssl (t 27) (some (k 1)) none),
 o 29 (.srange (t 28))] [])
 (.block 2 (.loop (.seq (.ops [o 30 (.snext (t 29)),
  ex 31 (t 30) 0] [])
  (.seq (.cond (t 31)
  (.skip)
  (.exit 2))
  (.block 3 (.seq (.ops [ex 32 (t 30) 2,
  mv 8 (t 32)] [])
  (.ops [mv 33 (t 6),
  o 34 (.ibin .mul (k 10) (t 33)),
  mv 35 (t 8),
  o 36 (.ibin .sub (t 35) (.const (.int .i32 48))),
  o 37 (.conv .i64 (t 36)),
  ad 38 (t 34) (t 37),
  mv 6 (t 38)] []))))))))
 (.seq (.ops [mv 39 (t 6),
 ca 40 F.zfI [(t 39)],
 mv 41 (t 5),
 o 42 (.strE .eql (t 40) (t 41))] [])
 (.cond (t 42)
  (.ops [mv 43 (t 3),
  mv 44 (t 6),
  o 45 (.mkSl true 3 1 [(i 0)] [(0,1,(t 44))]),
  o 46 (.app 3 1 8 [(i 0)] (t 43) (t 45)),
  mv 3 (t 46)] [])
  (.skip))))))))
 (.ops [ad 47 (t 15) (k 1),
 mv 15 (t 47)] [])))))))
 (.seq (.ops [mv 48 (t 3),
 mv 2 (t 48)] [])
 (.ret))))
def zbF:List zd:=[.tmp 2]
theorem zpm {args:List Value} {M:Mem} {R:Value→Mem→Prop} (hn:args.length≤49) (h:zj Tryz.prog zbE zbF args M R):CallsM Tryz.prog F.zdY args M R:=
 zf (kf:=fun _=>[]) Tryz.func90 (by kernel_rfl) (by kernel_rfl) hn (by kernel_rfl) h
def zgU:RCode:=
 .seq (.ops [mv 4 (.const sn),
 mv 5 (k 0)] [])
 (.seq (.ops [mv 10 (t 0),
 mv 11 (t 1),
 ca 12 F.zaT [(t 10),(t 11)],
 mv 9 (t 12),
 ex 13 (t 9) 0,
 ex 14 (t 9) 1,
 mv 6 (t 13),
 mv 7 (t 14)] [])
 (.seq (.seq (.ops [mv 15 (t 7),
 o 16 (.ibin .neq (t 15) (k 0))] [])
 (.cond (t 16)
 (.seq (.ops [mv 17 (t 7),
 mv 4 (.const sn),
 mv 5 (t 17)] [])
 (.ret))
 (.skip)))
 (.seq (.ops [mv 18 (t 6),
 o 19 (.nilck (t 18)),
 fa 20 0 (t 19),
 l1 21 (t 20),
 o 22 (.len (t 21)),
 o 23 (.mkSlN 5 1 [(u 0)] (t 22) (t 22)),
 mv 8 (t 23)] [])
 (.seq (.ops [mv 24 (t 8),
 mv 25 (t 6),
 o 26 (.nilck (t 25)),
 fa 27 0 (t 26),
 l1 28 (t 27),
 o 29 (.cpy 1 (t 24) (t 28))] [])
 (.seq (.ops [mv 30 (t 8),
 mv 4 (t 30),
 mv 5 (k 0)] [])
 (.ret))))))
def zgV:List zd:=[.tmp 4,.tmp 5]
theorem zvK {args:List Value} {M:Mem} {R:Value→Mem→Prop} (hn:args.length≤31) (h:zj Tryz.prog zgU zgV args M R):CallsM Tryz.prog F.zc6 args M R:=
 zf (kf:=fun _=>[]) Tryz.func91 (by kernel_rfl) (by kernel_rfl) hn (by kernel_rfl) h
def zAb:RCode:=
 .seq (.ops [mv 2 (.const (.string ByteArray.empty))] [])
 (.seq (.seq (.ops [mv 4 (t 0),
 ca 5 F.za4 [(t 4)],
 mv 3 (t 5)] [])
 (.seq (.ops [mv 6 (t 3),
 o 7 (.strE .neq (t 6) (.const (.string ByteArray.empty)))] [])
 (.cond (t 7)
 (.seq (.ops [mv 8 (t 3),
 o 9 (.ssl (t 8) (some (k 1)) none),
 o 10 (.strE .add (.const (.string ⟨#[115]⟩)) (t 9)),
 mv 2 (t 10)] [])
 (.ret))
 (.skip))))
 (.seq (.ops [mv 2 (.const (.string ByteArray.empty))] [])
 (.ret)))
def zAc:List zd:=[.tmp 2]
def zEM:RCode:=
 .seq (.ops [o 2 (.alloc 37 [(i 0),(i 0),sn,sn,sn]),
 mv 3 (k 0)] [])
 (.seq (.seq (.ops [mv 16 (t 0),
 o 17 (.len (t 16)),
 o 18 (.ibin .lss (t 17) (k 4))] [])
 (.cond (t 18)
 (.seq (.ops [o 19 (.build [(i 0),(i 0),sn,sn,sn] []),
 st 5 (t 2) (t 19),
 mv 3 (k 2)] [])
 (.ret))
 (.skip)))
 (.seq (.ops [mv 20 (t 0),
 mv 21 (t 0),
 o 22 (.len (t 21)),
 o 23 (.ibin .sub (t 22) (k 4)),
 o 24 (.slx 1 (t 20) none (some (t 23))),
 o 4 (.alloc 22 [sn]),
 st 1 (t 4) (t 24)] [])
 (.seq (.seq (.ops [mv 26 (t 0),
 l1 27 (t 4),
 o 28 (.len (t 27)),
 ca 29 F.zbj [(t 26),(t 28),(k 4)],
 mv 25 (t 29),
 ex 30 (t 25) 0,
 ex 31 (t 25) 1,
 mv 5 (t 30),
 mv 6 (t 31)] [])
 (.seq (.ops [mv 32 (t 5),
 l1 33 (t 4),
 o 34 (.mkSl false 22 1 [sn] [(0,1,(t 33))]),
 ca 35 F.zlr [(t 34)],
 o 36 (.conv .u64 (t 35)),
 o 37 (.ibin .neq (t 32) (t 36))] [])
 (.cond (t 37)
 (.seq (.ops [o 38 (.build [(i 0),(i 0),sn,sn,sn] []),
 st 5 (t 2) (t 38),
 mv 3 (k 2)] [])
 (.ret))
 (.skip))))
 (.seq (.ops [o 7 (.alloc 3 [(i 0)]),
 o 8 (.alloc 4 [(.bool false)]),
 st 1 (t 7) (k 0),
 st 1 (t 8) (kb false)] [])
 (.seq (.ops [o 39 (.mkfn F.zCm [(t 4),(t 7),(t 8)]),
 mv 9 (t 39)] [])
 (.seq (.ops [mv 40 (t 9),
 o 41 (.call (t 40) [(k 1)]),
 mv 42 (t 9),
 o 43 (.call (t 42) [(k 2)]),
 o 44 (.build [(i 0),(i 0),sn,sn,sn] [(0,1,(t 41)),(1,1,(t 43))]),
 o 10 (.alloc 37 [(i 0),(i 0),sn,sn,sn]),
 st 5 (t 10) (t 44)] [])
 (.seq (.seq (.ops [mv 45 (t 9),
 o 46 (.call (t 45) [(k 1)]),
 mv 47 (k 0)] [])
 (.block 0 (.loop (.seq (.ops [o 48 (.ibin .lss (t 47) (t 46))] [])
 (.seq (.cond (t 48)
  (.skip)
  (.exit 0))
 (.seq (.block 1 (.draw (.take (fa 49 2 (t 10)) (.take (l1 50 (t 49)) (.take (mv 51 (t 9)) (.take (mv 53 (t 9)) (.alt (o 52 (.call (t 51) [(k 1)])) true
  (.alt (o 54 (.call (t 53) [(k 2)])) true
  (.take (o 55 (.build [(i 0),(i 0)] [(0,1,(t 52)),(1,1,(t 54))])) (.alt (o 56 (.mkSl true 59 1 [(i 0),(i 0)] [(0,2,(t 55))])) false
   (.alt (o 57 (.app 59 2 16 [(i 0),(i 0)] (t 50) (t 56))) false
   (.take (fa 58 2 (t 10)) (.alt (st 1 (t 58) (t 57)) false
    (.done)
    (.none)))
   (.none))
   (.none)))
  (.none))
  (.none)))))) []))
 (.ops [ad 59 (t 47) (k 1),
 mv 47 (t 59)] [])))))))
 (.seq (.seq (.ops [mv 60 (t 9),
 o 61 (.call (t 60) [(k 2)]),
 mv 62 (k 0)] [])
 (.block 2 (.loop (.seq (.ops [o 63 (.ibin .lss (t 62) (t 61))] [])
 (.seq (.cond (t 63)
  (.skip)
  (.exit 2))
 (.seq (.block 3 (.seq (.ops [mv 64 (t 9),
 o 65 (.call (t 64) [(k 1)]),
 mv 11 (t 65)] [])
 (.seq (.seq (.ops [l1 66 (t 8),
 os 67 (.mov (t 66)),
 gf 67 68 (.load false 1 (t 7)),
 gf 67 69 (.load false 1 (t 4)),
 gf 67 70 (.len (t 69)),
 gf 67 71 (.ibin .gtr (t 68) (t 70)),
 o 72 (.pick (t 67) (kb true) (t 71)),
 os 73 (.mov (t 72)),
 gf 73 74 (.mov (t 11)),
 gf 73 75 (.load false 1 (t 4)),
 gf 73 76 (.len (t 75)),
 gf 73 77 (.load false 1 (t 7)),
 gf 73 78 (.ibin .sub (t 76) (t 77)),
 gf 73 79 (.ibin .gtr (t 74) (t 78)),
 o 80 (.pick (t 73) (kb true) (t 79))] [])
 (.cond (t 80)
  (.seq (.ops [o 81 (.build [(i 0),(i 0),sn,sn,sn] []),
  st 5 (t 2) (t 81),
  mv 3 (k 2)] [])
  (.ret))
  (.skip)))
 (.seq (.ops [l1 83 (t 4),
 l1 84 (t 7),
 l1 85 (t 7),
 mv 86 (t 11),
 ad 87 (t 85) (t 86),
 o 88 (.slx 1 (t 83) (some (t 84)) (some (t 87))),
 ca 89 F.znx [(t 88)],
 mv 82 (t 89),
 ex 90 (t 82) 0,
 ex 91 (t 82) 1,
 o 12 (.alloc 86 [(i 0),(i 0),(i 0),(i 0),sn]),
 st 5 (t 12) (t 90),
 mv 13 (t 91)] [])
 (.seq (.ops [l1 92 (t 7),
 mv 93 (t 11),
 ad 94 (t 92) (t 93),
 st 1 (t 7) (t 94)] [])
 (.ops [fa 95 3 (t 10),
 l1 96 (t 95),
 la 97 5 (t 12),
 o 98 (.mkSl true 86 1 [(i 0),(i 0),(i 0),(i 0),sn] [(0,5,(t 97))]),
 o 99 (.app 86 5 56 [(i 0),(i 0),(i 0),(i 0),sn] (t 96) (t 98)),
 fa 100 3 (t 10),
 st 1 (t 100) (t 99)] []))))))
 (.ops [ad 101 (t 62) (k 1),
 mv 62 (t 101)] [])))))))
 (.seq (.seq (.ops [mv 102 (t 9),
 o 103 (.call (t 102) [(k 2)]),
 mv 104 (k 0)] [])
 (.block 4 (.loop (.seq (.ops [o 105 (.ibin .lss (t 104) (t 103))] [])
 (.seq (.cond (t 105)
  (.skip)
  (.exit 4))
 (.seq (.block 5 (.seq (.ops [mv 106 (t 9),
 o 107 (.call (t 106) [(k 1)]),
 mv 108 (t 9),
 o 109 (.call (t 108) [(k 2)]),
 mv 110 (t 9),
 o 111 (.call (t 110) [(k 2)]),
 o 112 (.build [(i 0),(i 0),(i 0),sn] [(0,1,(t 107)),(1,1,(t 109)),(2,1,(t 111))]),
 o 14 (.alloc 89 [(i 0),(i 0),(i 0),sn]),
 st 4 (t 14) (t 112)] [])
 (.seq (.seq (.ops [mv 113 (t 9),
 o 114 (.call (t 113) [(k 2)]),
 mv 15 (t 114)] [])
 (.block 6 (.loop (.seq (.seq (.ops [mv 115 (t 15),
  o 116 (.ibin .gtr (t 115) (k 0)),
  os 117 (.mov (t 116)),
  gt 117 118 (.load false 1 (t 8)),
  gt 117 119 (.not (t 118)),
  o 120 (.pick (t 117) (t 119) (kb false))] [])
  (.cond (t 120)
  (.skip)
  (.exit 6)))
  (.seq (.block 7 (.draw (.take (fa 123 3 (t 14)) (.take (l1 124 (t 123)) (.take (mv 125 (t 9)) (.alt (o 126 (.call (t 125) [(k 2)])) true
  (.alt (o 127 (.mkSl true 3 1 [(i 0)] [(0,1,(t 126))])) false
   (.alt (o 128 (.app 3 1 8 [(i 0)] (t 124) (t 127))) false
   (.take (fa 129 3 (t 14)) (.alt (st 1 (t 129) (t 128)) false
    (.done)
    (.none)))
   (.none))
   (.none))
  (.none))))) []))
  (.ops [mv 121 (t 15),
  o 122 (.ibin .sub (t 121) (k 1)),
  mv 15 (t 122)] []))))))
 (.seq (.seq (.ops [l1 130 (t 8)] [])
 (.cond (t 130)
  (.seq (.ops [o 131 (.build [(i 0),(i 0),sn,sn,sn] []),
  st 5 (t 2) (t 131),
  mv 3 (k 2)] [])
  (.ret))
  (.skip)))
 (.ops [fa 132 4 (t 10),
 l1 133 (t 132),
 la 134 4 (t 14),
 o 135 (.mkSl true 89 1 [(i 0),(i 0),(i 0),sn] [(0,4,(t 134))]),
 o 136 (.app 89 4 48 [(i 0),(i 0),(i 0),sn] (t 133) (t 135)),
 fa 137 4 (t 10),
 st 1 (t 137) (t 136)] [])))))
 (.ops [ad 138 (t 104) (k 1),
 mv 104 (t 138)] [])))))))
 (.seq (.seq (.ops [l1 139 (t 8),
 os 140 (.mov (t 139)),
 gf 140 141 (.load false 1 (t 7)),
 gf 140 142 (.load false 1 (t 4)),
 gf 140 143 (.len (t 142)),
 gf 140 144 (.ibin .neq (t 141) (t 143)),
 o 145 (.pick (t 140) (kb true) (t 144)),
 os 146 (.mov (t 145)),
 gf 146 147 (.load true 5 (t 10)),
 gf 146 148 (.call (fn F.ztz) [(t 147)]),
 gf 146 149 (.ibin .neq (t 148) (k 0)),
 o 150 (.pick (t 146) (kb true) (t 149))] [])
 (.cond (t 150)
 (.seq (.ops [o 151 (.build [(i 0),(i 0),sn,sn,sn] []),
 st 5 (t 2) (t 151),
 mv 3 (k 2)] [])
 (.ret))
 (.skip)))
 (.seq (.ops [la 152 5 (t 10),
 st 5 (t 2) (t 152),
 mv 3 (k 0)] [])
 (.ret))))))))))))
def zEN:List zd:=[.cell true 5 2,.tmp 3]
def zCr:RCode:=
 .seq (.ops [o 2 (.box 44 (t 0)),
 o 3 (.box 37 (t 1)),
 mv 4 (.const (.pointer none)),
 mv 5 (k 0)] [])
 (.seq (.ops [fa 17 0 (t 3),
 l1 18 (t 17),
 la 19 3 (t 2),
 ca 20 F.zkk [(t 18),(t 19)],
 mv 16 (t 20),
 ex 21 (t 16) 0,
 ex 22 (t 16) 1,
 mv 6 (t 21),
 mv 7 (t 22)] [])
 (.seq (.seq (.ops [mv 23 (t 7),
 o 24 (.ibin .neq (t 23) (k 0))] [])
 (.cond (t 24)
 (.seq (.ops [mv 25 (t 7),
 mv 4 (.const (.pointer none)),
 mv 5 (t 25)] [])
 (.ret))
 (.skip)))
 (.seq (.seq (.ops [la 26 5 (t 3),
 ca 27 F.zBa [(t 26)],
 o 28 (.not (t 27))] [])
 (.cond (t 28)
 (.seq (.ops [mv 4 (.const (.pointer none)),
 mv 5 (k 2)] [])
 (.ret))
 (.skip)))
 (.seq (.ops [mv 29 (t 6),
 fa 30 1 (t 3),
 l1 31 (t 30),
 o 32 (.nilck (t 29)),
 fa 33 4 (t 32),
 st 1 (t 33) (t 31)] [])
 (.seq (.seq (.ops [fa 34 2 (t 3),
 l1 35 (t 34),
 o 36 (.len (t 35)),
 mv 37 (k 0)] [])
 (.block 0 (.loop (.seq (.ops [o 38 (.ibin .lss (t 37) (t 36))] [])
 (.seq (.cond (t 38)
  (.skip)
  (.exit 0))
 (.seq (.block 1 (.seq (.ops [o 39 (.iaddr 2 (t 35) (t 37)),
 la 40 2 (t 39),
 o 9 (.alloc 59 [(i 0),(i 0)]),
 st 2 (t 9) (t 40)] [])
 (.draw (.take (mv 41 (t 6)) (.take (fa 42 0 (t 9)) (.take (l1 43 (t 42)) (.take (fa 44 1 (t 9)) (.take (l1 45 (t 44)) (.take (o 46 (.nilck (t 41))) (.take (fa 47 5 (t 46)) (.take (o 48 (.iaddrA 64 1 (t 47) (t 43))) (.alt (st 1 (t 48) (t 45)) false
  (.done)
  (.none)))))))))) [])))
 (.ops [ad 49 (t 37) (k 1),
 mv 37 (t 49)] [])))))))
 (.seq (.ops [mv 50 (t 6),
 o 51 (.nilck (t 50)),
 fa 52 5 (t 51),
 la 53 64 (t 52),
 o 10 (.alloc 154 [(i 0),(i 0),(i 0),(i 0),(i 0),(i 0),(i 0),(i 0),(i 0),(i 0),(i 0),(i 0),(i 0),(i 0),(i 0),(i 0),(i 0),(i 0),(i 0),(i 0),(i 0),(i 0),(i 0),(i 0),(i 0),(i 0),(i 0),(i 0),(i 0),(i 0),(i 0),(i 0),(i 0),(i 0),(i 0),(i 0),(i 0),(i 0),(i 0),(i 0),(i 0),(i 0),(i 0),(i 0),(i 0),(i 0),(i 0),(i 0),(i 0),(i 0),(i 0),(i 0),(i 0),(i 0),(i 0),(i 0),(i 0),(i 0),(i 0),(i 0),(i 0),(i 0),(i 0),(i 0)]),
 st 64 (t 10) (t 53)] [])
 (.seq (.draw (.take (mv 54 (t 6)) (.take (mv 55 (t 6)) (.take (fa 56 3 (t 3)) (.take (l1 57 (t 56)) (.take (o 58 (.len (t 57))) (.take (fa 59 3 (t 3)) (.take (l1 60 (t 59)) (.take (o 61 (.len (t 60))) (.take (o 62 (.ibin .mul (k 48) (t 61))) (.take (o 63 (.nilck (t 54))) (.take (fa 64 1 (t 63)) (.take (fa 65 0 (t 64)) (.alt (st 1 (t 65) (t 58)) true
 (.take (o 66 (.nilck (t 55))) (.take (fa 67 1 (t 66)) (.take (fa 68 1 (t 67)) (.alt (st 1 (t 68) (t 62)) false
  (.done)
  (.none)))))
 (.none)))))))))))))) [])
 (.seq (.seq (.ops [fa 69 3 (t 3),
 l1 70 (t 69),
 o 71 (.len (t 70)),
 mv 72 (k 0)] [])
 (.block 2 (.loop (.seq (.ops [o 73 (.ibin .lss (t 72) (t 71))] [])
 (.seq (.cond (t 73)
  (.skip)
  (.exit 2))
 (.seq (.block 3 (.seq (.ops [o 74 (.iaddr 5 (t 70) (t 72)),
 la 75 5 (t 74),
 o 12 (.alloc 86 [(i 0),(i 0),(i 0),(i 0),sn]),
 st 5 (t 12) (t 75)] [])
 (.seq (.ops [mv 76 (t 6),
 la 77 5 (t 12),
 o 78 (.build [(i 0),(i 0),(i 0),(i 0),(i 0),sn] [(0,1,(k 2)),(1,5,(t 77))]),
 ca 79 F.zbL [(t 76),(t 78)],
 o 80 (.ibin .neq (t 79) (k 0))] [])
 (.cond (t 80)
  (.seq (.ops [mv 4 (.const (.pointer none)),
  mv 5 (k 2)] [])
  (.ret))
  (.skip)))))
 (.ops [ad 81 (t 72) (k 1),
 mv 72 (t 81)] [])))))))
 (.seq (.ops [mv 82 (t 6),
 la 83 3 (t 2),
 o 84 (.nilck (t 82)),
 fa 85 1 (t 84),
 st 3 (t 85) (t 83)] [])
 (.seq (.seq (.draw (.take (mv 86 (t 6)) (.take (o 87 (.nilck (t 86))) (.take (fa 88 5 (t 87)) (.take (la 89 64 (t 88)) (.take (la 90 64 (t 10)) (.take (o 91 (.aeq .neq 64 (t 89) (t 90))) (.done))))))) [])
 (.cond (t 91)
 (.seq (.ops [mv 4 (.const (.pointer none)),
 mv 5 (k 2)] [])
 (.ret))
 (.skip)))
 (.seq (.seq (.ops [fa 92 4 (t 3),
 l1 93 (t 92),
 o 94 (.len (t 93)),
 mv 95 (k 0)] [])
 (.block 4 (.loop (.seq (.ops [o 96 (.ibin .lss (t 95) (t 94))] [])
 (.seq (.cond (t 96)
  (.skip)
  (.exit 4))
 (.seq (.block 5 (.seq (.ops [o 97 (.iaddr 4 (t 93) (t 95)),
 la 98 4 (t 97),
 o 14 (.alloc 89 [(i 0),(i 0),(i 0),sn]),
 st 4 (t 14) (t 98)] [])
 (.seq (.ops [fa 99 0 (t 14),
 l1 100 (t 99),
 fa 101 0 (t 3),
 l1 102 (t 101),
 o 103 (.ibin .eql (t 100) (t 102))] [])
 (.cond (t 103)
  (.seq (.ops [mv 4 (.const (.pointer none)),
  mv 5 (k 2)] [])
  (.ret))
  (.skip)))))
 (.ops [ad 104 (t 95) (k 1),
 mv 95 (t 104)] [])))))))
 (.seq (.ops [fa 106 2 (t 2),
 l1 107 (t 106),
 fa 108 4 (t 3),
 l1 109 (t 108),
 ca 110 F.zDt [(t 107),(t 109)],
 mv 105 (t 110),
 ex 111 (t 105) 0,
 ex 112 (t 105) 1,
 mv 15 (t 111),
 mv 7 (t 112)] [])
 (.seq (.seq (.ops [mv 113 (t 7),
 o 114 (.ibin .eql (t 113) (k 2))] [])
 (.cond (t 114)
 (.seq (.ops [mv 115 (t 7),
 mv 4 (.const (.pointer none)),
 mv 5 (t 115)] [])
 (.ret))
 (.skip)))
 (.seq (.seq (.draw (.take (mv 116 (t 7)) (.take (o 117 (.ibin .neq (t 116) (k 0))) (.take (os 118 (.mov (t 117))) (.take (gf 118 119 (.mov (t 6))) (.take (gf 118 120 (.nilck (t 119))) (.take (gf 118 121 (.faddr 69 (t 120))) (.take (gf 118 122 (.load false 1 (t 121))) (.take (gf 118 123 (.mlen (t 122))) (.take (gf 118 124 (.faddr 0 (t 2))) (.take (gf 118 125 (.load false 1 (t 124))) (.take (gf 118 126 (.ibin .gtr (t 123) (t 125))) (.take (o 127 (.pick (t 118) (kb true) (t 126))) (.take (os 128 (.mov (t 127))) (.take (gf 128 129 (.mov (t 6))) (.take (gf 128 130 (.nilck (t 129))) (.take (gf 128 131 (.faddr 71 (t 130))) (.take (gf 128 132 (.load false 1 (t 131))) (.take (gf 128 133 (.faddr 1 (t 2))) (.take (gf 128 134 (.load false 1 (t 133))) (.take (gf 128 135 (.ibin .gtr (t 132) (t 134))) (.take (o 136 (.pick (t 128) (kb true) (t 135))) (.done)))))))))))))))))))))) [])
 (.cond (t 136)
 (.seq (.ops [mv 4 (.const (.pointer none)),
 mv 5 (k 6)] [])
 (.ret))
 (.skip)))
 (.seq (.ops [mv 137 (t 6),
 mv 138 (t 15),
 o 139 (.nilck (t 137)),
 fa 140 72 (t 139),
 st 1 (t 140) (t 138)] [])
 (.seq (.ops [mv 141 (t 6),
 mv 4 (t 141),
 mv 5 (k 0)] [])
 (.ret)))))))))))))))))
def zCs:List zd:=[.tmp 4,.tmp 5]
def zos:RCode:=
 .seq (.ops [mv 6 (.const (.pointer none)),
 mv 7 (.const sn),
 mv 8 (k 0)] [])
 (.seq (.block 0 (.seq (.ops [mv 13 (t 0),
 o 14 (.pnil .eql (t 13) (.const (.pointer none))),
 mv 12 (t 14)] [])
 (.cond (t 12)
 (.seq (.ops [mv 6 (.const (.pointer none)),
 mv 7 (.const sn),
 mv 8 (k 7)] [])
 (.ret))
 (.seq (.ops [mv 16 (t 1),
 o 17 (.ibin .lss (t 16) (k 1)),
 os 18 (.mov (t 17)),
 gf 18 19 (.mov (t 1)),
 gf 18 20 (.ibin .gtr (t 19) (k 99999)),
 o 21 (.pick (t 18) (kb true) (t 20)),
 os 22 (.mov (t 21)),
 gf 22 23 (.mov (t 2)),
 gf 22 24 (.ibin .lss (t 23) (k 16)),
 o 25 (.pick (t 22) (kb true) (t 24)),
 os 26 (.mov (t 25)),
 gf 26 27 (.mov (t 2)),
 gf 26 28 (.ibin .gtr (t 27) (k 1048576)),
 o 29 (.pick (t 26) (kb true) (t 28)),
 mv 15 (t 29)] [])
 (.cond (t 15)
  (.seq (.ops [mv 6 (.const (.pointer none)),
  mv 7 (.const sn),
  mv 8 (k 1)] [])
  (.ret))
  (.seq (.ops [mv 31 (t 0),
  ca 32 F.zbO [(t 31)],
  mv 30 (t 32)] [])
  (.cond (t 30)
  (.seq (.ops [mv 6 (.const (.pointer none)),
  mv 7 (.const sn),
  mv 8 (k 9)] [])
  (.ret))
  (.skip))))))))
 (.seq (.ops [mv 33 (t 0),
 mv 34 (t 1),
 mv 35 (t 1),
 mv 36 (t 2),
 o 37 (.build [(.pointer none),(i 0),(i 0),(i 0),(.bool false)] [(0,1,(t 33)),(1,1,(t 34)),(2,1,(t 35)),(3,1,(t 36))]),
 o 38 (.box 235 (t 37)),
 mv 9 (t 38)] [])
 (.seq (.ops [mv 40 (t 9),
 ca 41 F.zmU [(t 40)],
 mv 39 (t 41),
 ex 42 (t 39) 0,
 ex 43 (t 39) 1,
 mv 10 (t 42),
 mv 11 (t 43)] [])
 (.seq (.seq (.ops [mv 44 (t 11),
 o 45 (.ibin .neq (t 44) (k 0))] [])
 (.cond (t 45)
 (.seq (.ops [mv 46 (t 11),
 mv 6 (.const (.pointer none)),
 mv 7 (.const sn),
 mv 8 (t 46)] [])
 (.ret))
 (.skip)))
 (.seq (.ops [mv 47 (t 9),
 mv 48 (t 10),
 mv 6 (t 47),
 mv 7 (t 48),
 mv 8 (k 0)] [])
 (.ret))))))
def zot:List zd:=[.tmp 6,.tmp 7,.tmp 8]
theorem zDB {args:List Value} {M:Mem} {R:Value→Mem→Prop} (hn:args.length≤49) (h:zj Tryz.prog zos zot args M R):CallsM Tryz.prog F.zrP args M R:=
 zf (kf:=fun _=>[]) Tryz.func95 (by kernel_rfl) (by kernel_rfl) hn (by kernel_rfl) h
def zBl:RCode:=
 .seq (.ops [o 2 (.alloc 168 [(i 0),(i 0),(i 0),(i 0),(i 0),sn]),
 mv 3 (k 0)] [])
 (.seq (.seq (.ops [mv 6 (t 0),
 o 7 (.len (t 6)),
 o 8 (.ibin .eql (t 7) (k 0))] [])
 (.cond (t 8)
 (.seq (.ops [o 9 (.build [(i 0),(i 0),(i 0),(i 0),(i 0),sn] []),
 st 6 (t 2) (t 9),
 mv 3 (k 2)] [])
 (.ret))
 (.skip)))
 (.seq (.ops [mv 10 (t 0),
 o 11 (.iaddr 1 (t 10) (k 0)),
 l1 12 (t 11),
 o 13 (.conv .i64 (t 12)),
 o 14 (.build [(i 0),(i 0),(i 0),(i 0),(i 0),sn] [(0,1,(t 13))]),
 o 4 (.alloc 168 [(i 0),(i 0),(i 0),(i 0),(i 0),sn]),
 st 6 (t 4) (t 14)] [])
 (.seq (.ops [mv 5 (k 0)] [])
 (.seq (.seq (.ops [fa 15 0 (t 4),
 l1 16 (t 15)] [])
 (.block 0 (.seq (.ops [o 18 (.ibin .eql (t 16) (k 1)),
 mv 17 (t 18)] [])
 (.cond (t 17)
 (.seq (.ops [mv 19 (t 0),
 o 20 (.len (t 19)),
 o 21 (.ibin .gtr (t 20) (k 1))] [])
 (.cond (t 21)
  (.ops [mv 5 (k 2)] [])
  (.skip)))
 (.seq (.ops [o 23 (.ibin .eql (t 16) (k 2)),
 mv 22 (t 23)] [])
 (.cond (t 22)
  (.ops [mv 25 (t 0),
  o 26 (.slx 1 (t 25) (some (k 1)) none),
  ca 27 F.znx [(t 26)],
  mv 24 (t 27),
  ex 28 (t 24) 0,
  ex 29 (t 24) 1,
  fa 30 1 (t 4),
  st 5 (t 30) (t 28),
  mv 5 (t 29)] [])
  (.seq (.seq (.ops [o 32 (.ibin .eql (t 16) (k 3)),
  mv 31 (t 32)] [])
  (.cond (t 31)
  (.skip)
  (.ops [o 33 (.ibin .eql (t 16) (k 4)),
  mv 31 (t 33)] [])))
  (.cond (t 31)
  (.ops [mv 35 (t 0),
  o 36 (.slx 1 (t 35) (some (k 1)) none),
  ca 37 F.zkl [(t 36)],
  mv 34 (t 37),
  ex 38 (t 34) 0,
  ex 39 (t 34) 1,
  fa 40 1 (t 4),
  fa 41 0 (t 40),
  st 4 (t 41) (t 38),
  mv 5 (t 39)] [])
  (.ops [mv 5 (k 2)] [])))))))))
 (.seq (.seq (.ops [mv 42 (t 5),
 o 43 (.ibin .neq (t 42) (k 0))] [])
 (.cond (t 43)
 (.seq (.ops [o 44 (.build [(i 0),(i 0),(i 0),(i 0),(i 0),sn] []),
 st 6 (t 2) (t 44),
 mv 3 (k 2)] [])
 (.ret))
 (.skip)))
 (.seq (.ops [la 45 6 (t 4),
 st 6 (t 2) (t 45),
 mv 3 (k 0)] [])
 (.ret)))))))
def zBm:List zd:=[.cell true 6 2,.tmp 3]
def zdz:RCode:=
 .seq (.ops [o 3 (.box 168 (t 1)),
 mv 4 (k 0)] [])
 (.seq (.seq (.ops [mv 7 (t 0),
 la 8 6 (t 3),
 ca 9 F.ze2 [(t 7),(t 8)],
 mv 5 (t 9)] [])
 (.seq (.ops [mv 10 (t 5),
 o 11 (.ibin .neq (t 10) (k 0))] [])
 (.cond (t 11)
 (.seq (.ops [mv 12 (t 5),
 mv 4 (t 12)] [])
 (.ret))
 (.skip))))
 (.seq (.ops [fa 13 1 (t 3),
 fa 14 0 (t 13),
 la 15 4 (t 14),
 o 6 (.alloc 54 [(i 0),(i 0),(i 0),(i 0)]),
 st 4 (t 6) (t 15)] [])
 (.seq (.seq (.ops [fa 16 0 (t 3),
 l1 17 (t 16)] [])
 (.block 0 (.seq (.ops [o 25 (.ibin .eql (t 17) (k 1)),
 mv 24 (t 25)] [])
 (.cond (t 24)
 (.seq (.ops [mv 26 (t 0),
 o 27 (.nilck (t 26)),
 fa 28 4 (t 27),
 l1 29 (t 28),
 ad 30 (t 29) (k 1),
 o 31 (.nilck (t 26)),
 fa 32 4 (t 31),
 st 1 (t 32) (t 30)] [])
 (.ops [mv 33 (t 0),
 o 34 (.build [(i 0),(i 0),(i 0),(i 0),(i 0),(i 0),(i 0),(i 0),(i 0),(i 0),(i 0),(i 0),(i 0),(i 0),(i 0),(i 0),(i 0),(i 0),(i 0),(i 0),(i 0),(i 0),(i 0),(i 0),(i 0),(i 0),(i 0),(i 0),(i 0),(i 0),(i 0),(i 0),(i 0),(i 0),(i 0),(i 0),(i 0),(i 0),(i 0),(i 0),(i 0),(i 0),(i 0),(i 0),(i 0),(i 0),(i 0),(i 0),(i 0),(i 0),(i 0),(i 0),(i 0),(i 0),(i 0),(i 0),(i 0),(i 0),(i 0),(i 0),(i 0),(i 0),(i 0),(i 0)] []),
 o 35 (.nilck (t 33)),
 fa 36 5 (t 35),
 st 64 (t 36) (t 34)] []))
 (.seq (.ops [o 38 (.ibin .eql (t 17) (k 2)),
 mv 37 (t 38)] [])
 (.cond (t 37)
  (.seq (.draw (.take (mv 39 (t 0)) (.take (o 40 (.nilck (t 39))) (.take (fa 41 69 (t 40)) (.take (l1 42 (t 41)) (.take (la 43 4 (t 6)) (.take (la 44 4 (t 6)) (.take (fa 46 1 (t 3)) (.take (fa 47 4 (t 46)) (.take (l1 48 (t 47)) (.take (mv 51 (t 0)) (.take (o 52 (.nilck (t 51))) (.take (fa 53 70 (t 52)) (.take (l1 54 (t 53)) (.alt (o 45 (.mkSl false 5 0 [] [])) false
  (.alt (o 49 (.app 5 1 1 [(u 0)] (t 45) (t 48))) true
   (.take (o 50 (.build [(i 0),(i 0),(i 0),(i 0),sn] [(0,4,(t 44)),(4,1,(t 49))])) (.take (o 55 (.build [(i 0),(i 0),(i 0),(i 0),sn,(i 0)] [(0,5,(t 50)),(5,1,(t 54))])) (.alt (e (.mset (.agg 4) (t 42) (t 43) (t 55))) false
   (.done)
   (.none))))
   (.none))
  (.none))))))))))))))) [])
  (.seq (.ops [mv 56 (t 0),
  o 57 (.nilck (t 56)),
  fa 58 70 (t 57),
  l1 59 (t 58),
  ad 60 (t 59) (k 1),
  o 61 (.nilck (t 56)),
  fa 62 70 (t 61),
  st 1 (t 62) (t 60)] [])
  (.seq (.draw (.take (mv 63 (t 0)) (.take (o 64 (.nilck (t 63))) (.take (fa 65 71 (t 64)) (.take (l1 66 (t 65)) (.take (fa 67 1 (t 3)) (.take (fa 68 4 (t 67)) (.take (l1 69 (t 68)) (.take (o 70 (.len (t 69))) (.take (ad 71 (t 66) (t 70)) (.take (o 72 (.nilck (t 63))) (.take (fa 73 71 (t 72)) (.alt (st 1 (t 73) (t 71)) false
  (.done)
  (.none))))))))))))) [])
  (.seq (.draw (.take (fa 74 0 (t 6)) (.take (l1 75 (t 74)) (.take (mv 76 (t 0)) (.take (o 77 (.nilck (t 76))) (.take (fa 78 0 (t 77)) (.take (l1 79 (t 78)) (.take (o 80 (.ibin .eql (t 75) (t 79))) (.take (os 81 (.mov (t 80))) (.take (gt 81 82 (.faddr 2 (t 6))) (.take (gt 81 83 (.load false 1 (t 82))) (.take (gt 81 84 (.mov (t 0))) (.take (gt 81 85 (.nilck (t 84))) (.take (gt 81 86 (.faddr 4 (t 85))) (.take (gt 81 87 (.load false 1 (t 86))) (.take (gt 81 88 (.ibin .eql (t 83) (t 87))) (.take (o 89 (.pick (t 81) (t 88) (kb false))) (.done))))))))))))))))) [])
  (.cond (t 89)
  (.draw (.take (mv 90 (t 0)) (.take (fa 91 1 (t 6)) (.take (l1 92 (t 91)) (.take (mv 93 (t 0)) (.take (fa 94 1 (t 6)) (.take (l1 95 (t 94)) (.take (o 96 (.nilck (t 93))) (.take (fa 97 5 (t 96)) (.take (o 98 (.iaddrA 64 1 (t 97) (t 95))) (.take (l1 99 (t 98)) (.take (fa 100 3 (t 6)) (.take (l1 101 (t 100)) (.take (o 102 (.imm true (t 99) (t 101))) (.take (o 103 (.nilck (t 90))) (.take (fa 104 5 (t 103)) (.take (o 105 (.iaddrA 64 1 (t 104) (t 92))) (.alt (st 1 (t 105) (t 102)) false
   (.done)
   (.none)))))))))))))))))) [])
  (.skip))))))
  (.seq (.ops [o 107 (.ibin .eql (t 17) (k 3)),
  mv 106 (t 107)] [])
  (.cond (t 106)
  (.seq (.draw (.take (mv 108 (t 0)) (.take (o 109 (.nilck (t 108))) (.take (fa 110 71 (t 109)) (.take (l1 111 (t 110)) (.take (mv 112 (t 0)) (.take (o 113 (.nilck (t 112))) (.take (fa 114 69 (t 113)) (.take (l1 115 (t 114)) (.take (la 116 4 (t 6)) (.take (o 117 (.mget (.agg 4) false (.agg #[(i 0),(i 0),(i 0),(i 0),sn,(i 0)]) (t 115) (t 116))) (.take (o 118 (.field true 0 5 (t 117))) (.take (o 119 (.field false 4 1 (t 118))) (.take (o 120 (.len (t 119))) (.take (o 121 (.ibin .sub (t 111) (t 120))) (.take (o 122 (.nilck (t 108))) (.take (fa 123 71 (t 122)) (.alt (st 1 (t 123) (t 121)) false
   (.done)
   (.none)))))))))))))))))) [])
  (.draw (.take (mv 124 (t 0)) (.take (o 125 (.nilck (t 124))) (.take (fa 126 69 (t 125)) (.take (l1 127 (t 126)) (.take (la 128 4 (t 6)) (.alt (e (.mdel (.agg 4) (t 127) (t 128))) false
   (.done)
   (.none))))))) []))
  (.draw (.take (mv 18 (t 0)) (.take (o 19 (.nilck (t 18))) (.take (fa 20 72 (t 19)) (.take (l1 21 (t 20)) (.take (la 22 4 (t 6)) (.alt (ca 23 F.zmV [(t 21),(t 22)]) false
   (.done)
   (.none))))))) [])))))))))
 (.seq (.ops [mv 4 (k 0)] [])
 (.ret)))))
def zdA:List zd:=[.tmp 4]
theorem zr5 {args:List Value} {M:Mem} {R:Value→Mem→Prop} (hn:args.length≤129) (h:zj Tryz.prog zdz zdA args M R):CallsM Tryz.prog F.zbL args M R:=
 zf (kf:=fun _=>[]) Tryz.func97 (by kernel_rfl) (by kernel_rfl) hn (by kernel_rfl) h
def zcq:RCode:=
 .seq (.ops [o 4 (.box 168 (t 1)),
 mv 6 (k 0)] [])
 (.seq (.seq (.ops [mv 13 (t 0),
 ca 14 F.zaO [(t 13)],
 mv 7 (t 14)] [])
 (.seq (.ops [mv 15 (t 7),
 o 16 (.ibin .neq (t 15) (k 0))] [])
 (.cond (t 16)
 (.seq (.ops [mv 17 (t 7),
 mv 6 (t 17)] [])
 (.ret))
 (.skip))))
 (.seq (.seq (.draw (.take (mv 18 (t 0)) (.take (o 19 (.nilck (t 18))) (.take (fa 20 0 (t 19)) (.take (fa 21 0 (t 20)) (.take (l1 22 (t 21)) (.take (la 23 6 (t 4)) (.alt (ca 24 F.ze2 [(t 22),(t 23)]) false
 (.take (mv 8 (t 24)) (.done))
 (.none)))))))) [])
 (.seq (.ops [mv 25 (t 8),
 o 26 (.ibin .neq (t 25) (k 0))] [])
 (.cond (t 26)
 (.seq (.ops [mv 27 (t 8),
 mv 6 (t 27)] [])
 (.ret))
 (.skip))))
 (.seq (.ops [la 29 6 (t 4),
 ca 30 F.znQ [(t 29)],
 mv 28 (t 30),
 ex 31 (t 28) 0,
 ex 32 (t 28) 1,
 mv 9 (t 31),
 mv 10 (t 32)] [])
 (.seq (.seq (.ops [mv 33 (t 10),
 o 34 (.ibin .neq (t 33) (k 0))] [])
 (.cond (t 34)
 (.seq (.ops [mv 35 (t 10),
 mv 6 (t 35)] [])
 (.ret))
 (.skip)))
 (.seq (.seq (.ops [mv 36 (t 0),
 mv 37 (t 0),
 o 38 (.nilck (t 37)),
 fa 39 2 (t 38),
 l1 40 (t 39),
 mv 41 (t 9),
 ca 42 F.zlb [(t 40),(t 41)],
 ca 43 F.z2 [(t 36),(t 42)],
 mv 11 (t 43)] [])
 (.seq (.ops [mv 44 (t 11),
 o 45 (.ibin .neq (t 44) (k 0))] [])
 (.cond (t 45)
 (.seq (.ops [mv 46 (t 11),
 mv 6 (t 46)] [])
 (.ret))
 (.skip))))
 (.seq (.seq (.ops [mv 47 (t 2)] [])
 (.cond (t 47)
 (.seq (.ops [mv 48 (t 0),
 mv 49 (t 0),
 o 50 (.nilck (t 49)),
 fa 51 2 (t 50),
 l1 52 (t 51),
 ca 53 F.zi9 [(t 52)],
 ca 54 F.z2 [(t 48),(t 53)],
 mv 12 (t 54)] [])
 (.seq (.ops [mv 55 (t 12),
 o 56 (.ibin .neq (t 55) (k 0))] [])
 (.cond (t 56)
  (.seq (.ops [mv 57 (t 12),
  mv 6 (t 57)] [])
  (.ret))
  (.skip))))
 (.skip)))
 (.seq (.draw (.take (mv 58 (t 0)) (.take (o 59 (.nilck (t 58))) (.take (fa 60 0 (t 59)) (.take (fa 61 0 (t 60)) (.take (l1 62 (t 61)) (.take (la 63 6 (t 4)) (.alt (ca 64 F.zbL [(t 62),(t 63)]) false
 (.take (mv 6 (t 64)) (.done))
 (.none)))))))) [])
 (.ret))))))))
def zcr:List zd:=[.tmp 6]
theorem zqA {args:List Value} {M:Mem} {R:Value→Mem→Prop} (hn:args.length≤65) (h:zj Tryz.prog zcq zcr args M R):CallsM Tryz.prog F.zab args M R:=
 zf (kf:=fun _=>[]) Tryz.func98 (by kernel_rfl) (by kernel_rfl) hn (by kernel_rfl) h
def zeo:RCode:=
 .seq (.ops [mv 2 (.const sn)] [])
 (.seq (.seq (.ops [mv 9 (t 0),
 o 10 (.pnil .eql (t 9) (.const (.pointer none)))] [])
 (.cond (t 10)
 (.seq (.ops [mv 2 (.const sn)] [])
 (.ret))
 (.skip)))
 (.seq (.ops [mv 3 (.const sn)] [])
 (.seq (.seq (.ops [mv 11 (t 0),
 o 12 (.nilck (t 11)),
 fa 13 69 (t 12),
 l1 14 (t 13),
 o 15 (.mrange (t 14))] [])
 (.block 0 (.loop (.seq (.ops [o 16 (.mnext (t 15)),
 ex 17 (t 16) 0] [])
 (.seq (.cond (t 17)
  (.skip)
  (.exit 0))
 (.block 1 (.seq (.ops [o 18 (.mentry (t 15)),
 ex 19 (t 18) 1,
 o 5 (.alloc 240 [(i 0),(i 0),(i 0),(i 0),sn,(i 0)]),
 st 6 (t 5) (t 19)] [])
 (.ops [mv 20 (t 3),
 la 21 6 (t 5),
 o 22 (.mkSl true 240 1 [(i 0),(i 0),(i 0),(i 0),sn,(i 0)] [(0,6,(t 21))]),
 o 23 (.app 240 6 64 [(i 0),(i 0),(i 0),(i 0),sn,(i 0)] (t 20) (t 22)),
 mv 3 (t 23)] []))))))))
 (.seq (.ops [mv 24 (t 3),
 ca 25 F.zah [(t 24),(fn F.zrR)]] [])
 (.seq (.ops [mv 6 (.const sn)] [])
 (.seq (.seq (.ops [mv 26 (t 3),
 o 27 (.len (t 26)),
 mv 28 (k 0)] [])
 (.block 2 (.loop (.seq (.ops [o 29 (.ibin .lss (t 28) (t 27))] [])
 (.seq (.cond (t 29)
  (.skip)
  (.exit 2))
 (.seq (.block 3 (.seq (.ops [o 30 (.iaddr 6 (t 26) (t 28)),
 la 31 6 (t 30),
 o 8 (.alloc 240 [(i 0),(i 0),(i 0),(i 0),sn,(i 0)]),
 st 6 (t 8) (t 31)] [])
 (.draw (.take (mv 32 (t 6)) (.take (fa 33 0 (t 8)) (.take (fa 34 0 (t 33)) (.take (la 35 4 (t 34)) (.take (fa 37 0 (t 8)) (.take (fa 38 4 (t 37)) (.take (l1 39 (t 38)) (.alt (o 36 (.mkSl false 5 0 [] [])) false
  (.alt (o 40 (.app 5 1 1 [(u 0)] (t 36) (t 39))) true
  (.take (o 41 (.build [(i 0),(i 0),(i 0),(i 0),sn] [(0,4,(t 35)),(4,1,(t 40))])) (.alt (o 42 (.mkSl true 86 1 [(i 0),(i 0),(i 0),(i 0),sn] [(0,5,(t 41))])) false
   (.alt (o 43 (.app 86 5 56 [(i 0),(i 0),(i 0),(i 0),sn] (t 32) (t 42))) false
   (.take (mv 6 (t 43)) (.done))
   (.none))
   (.none)))
  (.none))
  (.none))))))))) [])))
 (.ops [ad 44 (t 28) (k 1),
 mv 28 (t 44)] [])))))))
 (.seq (.ops [mv 45 (t 6),
 mv 2 (t 45)] [])
 (.ret))))))))
def zep:List zd:=[.tmp 2]
theorem zsP {args:List Value} {M:Mem} {R:Value→Mem→Prop} (hn:args.length≤46) (h:zj Tryz.prog zeo zep args M R):CallsM Tryz.prog F.zcc args M R:=
 zf (kf:=fun _=>[]) Tryz.func99 (by kernel_rfl) (by kernel_rfl) hn (by kernel_rfl) h
def zgW:RCode:=
 .seq (.ops [mv 2 (.const sn)] [])
 (.seq (.seq (.ops [mv 6 (t 0),
 o 7 (.pnil .eql (t 6) (.const (.pointer none)))] [])
 (.cond (t 7)
 (.seq (.ops [mv 2 (.const sn)] [])
 (.ret))
 (.skip)))
 (.seq (.ops [mv 3 (.const sn)] [])
 (.seq (.seq (.ops [mv 8 (t 0),
 o 9 (.nilck (t 8)),
 fa 10 1 (t 9),
 l1 11 (t 10),
 o 12 (.mrange (t 11))] [])
 (.block 0 (.loop (.seq (.ops [o 13 (.mnext (t 12)),
 ex 14 (t 13) 0] [])
 (.seq (.cond (t 14)
  (.skip)
  (.exit 0))
 (.block 1 (.seq (.ops [o 15 (.mentry (t 12)),
 ex 16 (t 15) 0,
 ex 17 (t 15) 1,
 o 4 (.alloc 71 [(i 0),(i 0)]),
 st 2 (t 4) (t 16),
 mv 5 (t 17)] [])
 (.draw (.take (mv 18 (t 3)) (.take (o 19 (.iaddrA 2 1 (t 4) (k 0))) (.take (l1 20 (t 19)) (.take (o 21 (.iaddrA 2 1 (t 4) (k 1))) (.take (l1 22 (t 21)) (.take (mv 23 (t 5)) (.take (o 24 (.nilck (t 23))) (.take (fa 25 0 (t 24)) (.take (l1 26 (t 25)) (.take (mv 28 (t 5)) (.take (o 29 (.nilck (t 28))) (.take (fa 30 1 (t 29)) (.take (l1 31 (t 30)) (.alt (o 27 (.mkSl false 3 0 [] [])) false
  (.alt (o 32 (.app 3 1 8 [(i 0)] (t 27) (t 31))) true
  (.take (o 33 (.build [(i 0),(i 0),(i 0),sn] [(0,1,(t 20)),(1,1,(t 22)),(2,1,(t 26)),(3,1,(t 32))])) (.alt (o 34 (.mkSl true 89 1 [(i 0),(i 0),(i 0),sn] [(0,4,(t 33))])) false
   (.alt (o 35 (.app 89 4 48 [(i 0),(i 0),(i 0),sn] (t 18) (t 34))) false
   (.take (mv 3 (t 35)) (.done))
   (.none))
   (.none)))
  (.none))
  (.none))))))))))))))) []))))))))
 (.seq (.ops [mv 36 (t 3),
 ca 37 F.zaN [(t 36),(fn F.ztA)]] [])
 (.seq (.ops [mv 38 (t 3),
 mv 2 (t 38)] [])
 (.ret))))))
def zgX:List zd:=[.tmp 2]
theorem zvL {args:List Value} {M:Mem} {R:Value→Mem→Prop} (hn:args.length≤39) (h:zj Tryz.prog zgW zgX args M R):CallsM Tryz.prog F.zc7 args M R:=
 zf (kf:=fun _=>[]) Tryz.func100 (by kernel_rfl) (by kernel_rfl) hn (by kernel_rfl) h
def zkI:RCode:=
 .seq (.ops [mv 2 (kb false)] [])
 (.seq (.ops [mv 3 (t 0),
 o 4 (.ibin .geq (t 3) (k 0)),
 os 5 (.mov (t 4)),
 gt 5 6 (.mov (t 0)),
 gt 5 7 (.ibin .lss (t 6) (k 64)),
 o 8 (.pick (t 5) (t 7) (kb false)),
 mv 2 (t 8)] [])
 (.ret))
def zkJ:List zd:=[.tmp 2]
theorem zAd {args:List Value} {M:Mem} {R:Value→Mem→Prop} (hn:args.length≤9) (h:zj Tryz.prog zkI zkJ args M R):CallsM Tryz.prog F.zd3 args M R:=
 zf (kf:=fun _=>[]) Tryz.func101 (by kernel_rfl) (by kernel_rfl) hn (by kernel_rfl) h
def zdB:RCode:=
 .seq (.ops [mv 6 (k 0)] [])
 (.seq (.ops [mv 10 (t 0),
 o 11 (.nilck (t 10)),
 fa 12 4 (t 11),
 l1 13 (t 12),
 mv 14 (t 2),
 o 15 (.mget .int true (.agg #[(i 0),(i 0),(i 0),(i 0),(i 0),(i 0),(i 0),(i 0),(i 0),(i 0),(i 0),(i 0),(i 0),(i 0),(i 0),(i 0),(i 0),(i 0),(i 0),(i 0),(i 0),(i 0),(i 0),(i 0),(i 0),(i 0),(i 0),(i 0),(i 0),(i 0),(i 0),(i 0),(i 0),(i 0),(i 0),(i 0),(i 0),(i 0),(i 0),(i 0),(i 0),(i 0),(i 0),(i 0),(i 0),(i 0),(i 0),(i 0),(i 0),(i 0),(i 0),(i 0),(i 0),(i 0),(i 0),(i 0),(i 0),(i 0),(i 0),(i 0),(i 0),(i 0),(i 0),(i 0),(i 0)]) (t 13) (t 14)),
 mv 9 (t 15),
 ex 16 (t 9) 0,
 ex 17 (t 9) 1,
 o 7 (.alloc 209 [(i 0),(i 0),(i 0),(i 0),(i 0),(i 0),(i 0),(i 0),(i 0),(i 0),(i 0),(i 0),(i 0),(i 0),(i 0),(i 0),(i 0),(i 0),(i 0),(i 0),(i 0),(i 0),(i 0),(i 0),(i 0),(i 0),(i 0),(i 0),(i 0),(i 0),(i 0),(i 0),(i 0),(i 0),(i 0),(i 0),(i 0),(i 0),(i 0),(i 0),(i 0),(i 0),(i 0),(i 0),(i 0),(i 0),(i 0),(i 0),(i 0),(i 0),(i 0),(i 0),(i 0),(i 0),(i 0),(i 0),(i 0),(i 0),(i 0),(i 0),(i 0),(i 0),(i 0),(i 0),(i 0)]),
 st 65 (t 7) (t 16),
 mv 8 (t 17)] [])
 (.seq (.seq (.ops [mv 18 (t 8),
 o 19 (.not (t 18))] [])
 (.cond (t 19)
 (.seq (.ops [mv 6 (k 16)] [])
 (.ret))
 (.skip)))
 (.seq (.ops [mv 20 (t 1),
 fa 21 0 (t 7),
 o 22 (.iaddrA 64 1 (t 21) (t 20)),
 l1 23 (t 22),
 ad 24 (t 23) (k 1),
 o 25 (.imm false (k 16) (t 24)),
 mv 6 (t 25)] [])
 (.ret))))
def zdC:List zd:=[.tmp 6]
theorem zr6 {args:List Value} {M:Mem} {R:Value→Mem→Prop} (hn:args.length≤26) (h:zj Tryz.prog zdB zdC args M R):CallsM Tryz.prog F.zbM args M R:=
 zf (kf:=fun _=>[]) Tryz.func102 (by kernel_rfl) (by kernel_rfl) hn (by kernel_rfl) h
def zp1:RCode:=
 .seq (.ops [mv 6 (kb false)] [])
 (.seq (.ops [mv 7 (t 0),
 mv 8 (t 1),
 o 9 (.ibin .geq (t 7) (t 8)),
 os 10 (.mov (t 9)),
 gt 10 11 (.mov (t 0)),
 gt 10 12 (.mov (t 2)),
 gt 10 13 (.ibin .leq (t 11) (t 12)),
 o 14 (.pick (t 10) (t 13) (kb false)),
 mv 6 (t 14)] [])
 (.ret))
def zp2:List zd:=[.tmp 6]
theorem zEO {args:List Value} {M:Mem} {R:Value→Mem→Prop} (hn:args.length≤15) (h:zj Tryz.prog zp1 zp2 args M R):CallsM Tryz.prog F.zea args M R:=
 zf (kf:=fun _=>[]) Tryz.func103 (by kernel_rfl) (by kernel_rfl) hn (by kernel_rfl) h
def zou:RCode:=
 .seq (.ops [o 7 (.box 46 (t 3)),
 mv 8 (.const (.pointer none)),
 mv 9 (k 0)] [])
 (.seq (.ops [mv 23 (t 0),
 mv 24 (t 1),
 ca 25 F.zph [(t 23),(t 24),(k 64)],
 mv 22 (t 25),
 ex 26 (t 22) 0,
 ex 27 (t 22) 1,
 mv 10 (t 26),
 mv 11 (t 27)] [])
 (.seq (.seq (.ops [mv 28 (t 11),
 o 29 (.ibin .neq (t 28) (k 0))] [])
 (.cond (t 29)
 (.seq (.ops [mv 30 (t 11),
 mv 8 (.const (.pointer none)),
 mv 9 (t 30)] [])
 (.ret))
 (.skip)))
 (.seq (.seq (.ops [la 31 10 (t 7),
 ca 32 F.zl3 [(t 31)],
 mv 12 (t 32)] [])
 (.seq (.ops [mv 33 (t 12),
 o 34 (.ibin .neq (t 33) (k 0))] [])
 (.cond (t 34)
 (.seq (.ops [mv 35 (t 12),
 mv 8 (.const (.pointer none)),
 mv 9 (t 35)] [])
 (.ret))
 (.skip))))
 (.seq (.ops [mv 37 (t 2),
 mv 38 (t 0),
 fa 39 0 (t 7),
 la 40 3 (t 39),
 fa 41 4 (t 7),
 l1 42 (t 41),
 ca 43 F.zfF [(t 37),(t 38),(t 40),(t 42)],
 mv 36 (t 43),
 ex 44 (t 36) 0,
 ex 45 (t 36) 1,
 mv 13 (t 44),
 mv 11 (t 45)] [])
 (.seq (.seq (.ops [mv 46 (t 11),
 o 47 (.ibin .neq (t 46) (k 0))] [])
 (.cond (t 47)
 (.seq (.ops [mv 48 (t 11),
 mv 8 (.const (.pointer none)),
 mv 9 (t 48)] [])
 (.ret))
 (.skip)))
 (.seq (.ops [fa 50 8 (t 7),
 l1 51 (t 50),
 ca 52 F.ztB [(t 51)],
 mv 49 (t 52),
 ex 53 (t 49) 0,
 ex 54 (t 49) 1,
 mv 14 (t 53),
 mv 15 (t 54)] [])
 (.seq (.ops [mv 55 (t 0),
 la 56 10 (t 7),
 mv 57 (t 13),
 o 58 (.mkMap),
 mv 59 (t 10),
 mv 60 (t 14),
 o 61 (.build [(i 0),(i 0),(i 0),(i 0),(i 0),(i 0),(i 0),(i 0),(i 0),(i 0),(i 0),(.pointer none),(.map none),(.pointer none),(.pointer none),sn,(i 0),(i 0)] [(0,1,(t 55)),(1,10,(t 56)),(11,1,(t 57)),(12,1,(t 58)),(13,1,(t 59)),(14,1,(t 60))]),
 o 62 (.box 94 (t 61)),
 mv 16 (t 62)] [])
 (.seq (.ops [mv 63 (t 13),
 ca 64 F.zal [(t 63)],
 o 65 (.field false 1 1 (t 64)),
 o 66 (.ibin .mul (k 512) (t 65)),
 o 67 (.ibin .rem (t 66) (k 65536)),
 mv 17 (t 67)] [])
 (.seq (.seq (.ops [mv 68 (t 1),
 o 69 (.len (t 68)),
 mv 70 (k 0)] [])
 (.block 0 (.loop (.seq (.ops [o 71 (.ibin .lss (t 70) (t 69))] [])
 (.seq (.cond (t 71)
  (.skip)
  (.exit 0))
 (.seq (.block 1 (.seq (.ops [o 72 (.iaddr 1 (t 68) (t 70)),
 l1 73 (t 72),
 mv 19 (t 73)] [])
 (.seq (.ops [mv 75 (t 17),
 fa 76 5 (t 7),
 l1 77 (t 76),
 fa 78 6 (t 7),
 l1 79 (t 78),
 fa 80 7 (t 7),
 l1 81 (t 80),
 ca 82 F.zrS [(t 75),(t 77),(t 79),(t 81)],
 mv 74 (t 82),
 ex 83 (t 74) 0,
 ex 84 (t 74) 1,
 mv 20 (t 83),
 mv 21 (t 84)] [])
 (.draw (.take (mv 85 (t 16)) (.take (o 86 (.nilck (t 85))) (.take (fa 87 12 (t 86)) (.take (l1 88 (t 87)) (.take (mv 89 (t 19)) (.take (mv 90 (t 20)) (.alt (ca 91 F.zrT []) true
  (.take (o 92 (.build [(.pointer none),(.pointer none),(i 0),sn] [(0,1,(t 90)),(1,1,(t 91))])) (.alt (o 93 (.box 126 (t 92))) false
  (.alt (e (.mset .int (t 88) (t 89) (t 93))) false
   (.done)
   (.none))
  (.none)))
  (.none)))))))) []))))
 (.ops [ad 94 (t 70) (k 1),
 mv 70 (t 94)] [])))))))
 (.seq (.ops [mv 95 (t 16),
 ca 96 F.zaS [(t 95)]] [])
 (.seq (.ops [mv 97 (t 16),
 mv 8 (t 97),
 mv 9 (k 0)] [])
 (.ret))))))))))))
def zov:List zd:=[.tmp 8,.tmp 9]
theorem zDC {args:List Value} {M:Mem} {R:Value→Mem→Prop} (hn:args.length≤98) (h:zj Tryz.prog zou zov args M R):CallsM Tryz.prog F.zrQ args M R:=
 zf (kf:=fun _=>[]) Tryz.func104 (by kernel_rfl) (by kernel_rfl) hn (by kernel_rfl) h
def zdD:RCode:=
 .block 0 (.seq (.ops [mv 15 (t 1),
 o 16 (.ibin .eql (t 15) (.const (u 126))),
 mv 14 (t 16)] [])
 (.cond (t 14)
 (.seq (.seq (.ops [mv 17 (t 0),
 o 18 (.nilck (t 17)),
 fa 19 0 (t 18),
 l1 20 (t 19),
 o 21 (.not (t 20)),
 os 22 (.mov (t 21)),
 gt 22 23 (.mov (t 0)),
 gt 22 24 (.nilck (t 23)),
 gt 22 25 (.faddr 1 (t 24)),
 gt 22 26 (.load false 1 (t 25)),
 gt 22 27 (.len (t 26)),
 gt 22 28 (.ibin .gtr (t 27) (k 0)),
 o 29 (.pick (t 22) (t 28) (kb false))] [])
 (.cond (t 29)
  (.ops [mv 30 (t 0),
  ca 31 F.ziH [(t 30)]] [])
  (.skip)))
 (.ops [mv 32 (t 0),
 mv 33 (t 0),
 o 34 (.nilck (t 32)),
 fa 35 0 (t 34),
 st 1 (t 35) (kb false),
 o 36 (.nilck (t 33)),
 fa 37 1 (t 36),
 st 1 (t 37) (.const sn)] []))
 (.seq (.ops [mv 39 (t 0),
 o 40 (.nilck (t 39)),
 fa 41 0 (t 40),
 l1 42 (t 41),
 mv 38 (t 42)] [])
 (.cond (t 38)
  (.skip)
  (.seq (.ops [mv 44 (t 0),
  o 45 (.nilck (t 44)),
  fa 46 1 (t 45),
  l1 47 (t 46),
  o 48 (.len (t 47)),
  o 49 (.ibin .eql (t 48) (k 260)),
  mv 43 (t 49)] [])
  (.cond (t 43)
  (.seq (.ops [mv 50 (t 0),
  o 51 (.nilck (t 50)),
  fa 52 2 (t 51),
  fa 53 3 (t 52),
  l1 54 (t 53),
  ad 55 (t 54) (k 1),
  o 56 (.nilck (t 50)),
  fa 57 2 (t 56),
  fa 58 3 (t 57),
  st 1 (t 58) (t 55)] [])
  (.ops [mv 59 (t 0),
  mv 60 (t 0),
  o 61 (.nilck (t 59)),
  fa 62 0 (t 61),
  st 1 (t 62) (kb true),
  o 63 (.nilck (t 60)),
  fa 64 1 (t 63),
  st 1 (t 64) (.const sn)] []))
  (.ops [mv 4 (t 0),
  mv 5 (t 0),
  o 6 (.nilck (t 5)),
  fa 7 1 (t 6),
  l1 8 (t 7),
  mv 9 (t 1),
  o 10 (.mkSl true 5 1 [(u 0)] [(0,1,(t 9))]),
  o 11 (.app 5 1 1 [(u 0)] (t 8) (t 10)),
  o 12 (.nilck (t 4)),
  fa 13 1 (t 12),
  st 1 (t 13) (t 11)] [])))))))
def zdE:List zd:=[]
theorem zr7 {args:List Value} {M:Mem} {R:Value→Mem→Prop} (hn:args.length≤65) (h:zj Tryz.prog zdD zdE args M R):CallsM Tryz.prog F.zhM args M R:=
 zf (kf:=fun _=>[]) Tryz.func105 (by kernel_rfl) (by kernel_rfl) hn (by kernel_rfl) h
def zjk:RCode:=
 .seq (.ops [mv 2 (k 0),
 mv 3 (kb false)] [])
 (.seq (.block 0 (.seq (.ops [mv 5 (t 0),
 o 6 (.ibin .and (t 5) (.const (u 1))),
 o 7 (.ibin .eql (t 6) (.const (u 0))),
 mv 4 (t 7)] [])
 (.cond (t 4)
 (.seq (.ops [mv 2 (k 1),
 mv 3 (kb true)] [])
 (.ret))
 (.seq (.ops [mv 9 (t 0),
 o 10 (.ibin .eql (t 9) (.const (u 1))),
 mv 8 (t 10)] [])
 (.cond (t 8)
  (.seq (.ops [mv 2 (k 2),
  mv 3 (kb true)] [])
  (.ret))
  (.seq (.ops [mv 12 (t 0),
  o 13 (.ibin .eql (t 12) (.const (u 5))),
  mv 11 (t 13)] [])
  (.cond (t 11)
  (.seq (.ops [mv 2 (k 3),
  mv 3 (kb true)] [])
  (.ret))
  (.seq (.ops [mv 15 (t 0),
  o 16 (.ibin .eql (t 15) (.const (u 13))),
  mv 14 (t 16)] [])
  (.cond (t 14)
   (.seq (.ops [mv 2 (k 4),
   mv 3 (kb true)] [])
   (.ret))
   (.seq (.ops [mv 18 (t 0),
   o 19 (.ibin .andNot (t 18) (.const (u 16))),
   o 20 (.ibin .eql (t 19) (.const (u 111))),
   mv 17 (t 20)] [])
   (.cond (t 17)
   (.seq (.ops [mv 2 (k 5),
   mv 3 (kb false)] [])
   (.ret))
   (.seq (.ops [mv 22 (t 0),
   o 23 (.ibin .andNot (t 22) (.const (u 16))),
   o 24 (.ibin .eql (t 23) (.const (u 99))),
   mv 21 (t 24)] [])
   (.cond (t 21)
    (.seq (.ops [mv 2 (k 6),
    mv 3 (kb false)] [])
    (.ret))
    (.seq (.ops [mv 26 (t 0),
    o 27 (.ibin .andNot (t 26) (.const (u 16))),
    o 28 (.ibin .eql (t 27) (.const (u 15))),
    mv 25 (t 28)] [])
    (.cond (t 25)
    (.seq (.ops [mv 2 (k 7),
    mv 3 (kb false)] [])
    (.ret))
    (.skip))))))))))))))))
 (.seq (.ops [mv 2 (k 0),
 mv 3 (kb false)] [])
 (.ret)))
def zjl:List zd:=[.tmp 2,.tmp 3]
theorem zy8 {args:List Value} {M:Mem} {R:Value→Mem→Prop} (hn:args.length≤29) (h:zj Tryz.prog zjk zjl args M R):CallsM Tryz.prog F.zmR args M R:=
 zf (kf:=fun _=>[]) Tryz.func106 (by kernel_rfl) (by kernel_rfl) hn (by kernel_rfl) h
def zow:RCode:=
 .seq (.ops [mv 6 (.const (.int .u64 0)),
 mv 7 (k 0)] [])
 (.seq (.seq (.ops [mv 11 (t 2),
 o 12 (.ibin .lss (t 11) (k 1)),
 os 13 (.mov (t 12)),
 gf 13 14 (.mov (t 2)),
 gf 13 15 (.ibin .gtr (t 14) (k 8)),
 o 16 (.pick (t 13) (kb true) (t 15)),
 os 17 (.mov (t 16)),
 gf 17 18 (.mov (t 1)),
 gf 17 19 (.ibin .lss (t 18) (k 0)),
 o 20 (.pick (t 17) (kb true) (t 19))] [])
 (.cond (t 20)
 (.seq (.ops [mv 6 (.const (.int .u64 0)),
 mv 7 (k 1)] [])
 (.ret))
 (.skip)))
 (.seq (.seq (.ops [mv 21 (t 1),
 mv 22 (t 0),
 o 23 (.len (t 22)),
 o 24 (.ibin .gtr (t 21) (t 23)),
 os 25 (.mov (t 24)),
 gf 25 26 (.mov (t 0)),
 gf 25 27 (.len (t 26)),
 gf 25 28 (.mov (t 1)),
 gf 25 29 (.ibin .sub (t 27) (t 28)),
 gf 25 30 (.mov (t 2)),
 gf 25 31 (.ibin .lss (t 29) (t 30)),
 o 32 (.pick (t 25) (kb true) (t 31))] [])
 (.cond (t 32)
 (.seq (.ops [mv 6 (.const (.int .u64 0)),
 mv 7 (k 2)] [])
 (.ret))
 (.skip)))
 (.seq (.ops [mv 8 (.const (.int .u64 0))] [])
 (.seq (.seq (.ops [mv 33 (t 0),
 mv 34 (t 1),
 mv 35 (t 1),
 mv 36 (t 2),
 ad 37 (t 35) (t 36),
 o 38 (.slx 1 (t 33) (some (t 34)) (some (t 37))),
 o 39 (.len (t 38)),
 mv 40 (k 0)] [])
 (.block 0 (.loop (.seq (.ops [o 41 (.ibin .lss (t 40) (t 39))] [])
 (.seq (.cond (t 41)
  (.skip)
  (.exit 0))
 (.seq (.block 1 (.seq (.ops [o 42 (.iaddr 1 (t 38) (t 40)),
 l1 43 (t 42),
 mv 10 (t 43)] [])
 (.ops [mv 44 (t 8),
 o 45 (.ibin .shl (t 44) (.const (.int .u64 8))),
 mv 46 (t 10),
 o 47 (.conv .u64 (t 46)),
 o 48 (.ibin .or (t 45) (t 47)),
 mv 8 (t 48)] [])))
 (.ops [ad 49 (t 40) (k 1),
 mv 40 (t 49)] [])))))))
 (.seq (.ops [mv 50 (t 8),
 mv 6 (t 50),
 mv 7 (k 0)] [])
 (.ret))))))
def zox:List zd:=[.tmp 6,.tmp 7]
theorem zDD {args:List Value} {M:Mem} {R:Value→Mem→Prop} (hn:args.length≤51) (h:zj Tryz.prog zow zox args M R):CallsM Tryz.prog F.zbj args M R:=
 zf (kf:=fun _=>[]) Tryz.func107 (by kernel_rfl) (by kernel_rfl) hn (by kernel_rfl) h
def zh6:RCode:=
 .seq (.ops [o 1 (.box 129 (t 0)),
 mv 2 (k 0)] [])
 (.seq (.ops [fa 9 0 (t 1),
 l1 10 (t 9),
 ca 11 F.ziI [(t 10)],
 mv 8 (t 11),
 ex 12 (t 8) 0,
 ex 13 (t 8) 1,
 ex 14 (t 8) 2,
 ex 15 (t 8) 3,
 mv 3 (t 12),
 mv 4 (t 13),
 mv 5 (t 14),
 mv 6 (t 15)] [])
 (.seq (.ops [mv 7 (fn F.zjT)] [])
 (.seq (.block 0 (.seq (.ops [fa 17 0 (t 1),
 l1 18 (t 17),
 o 19 (.ibin .lss (t 18) (k 1)),
 os 20 (.mov (t 19)),
 gf 20 21 (.faddr 0 (t 1)),
 gf 20 22 (.load false 1 (t 21)),
 gf 20 23 (.ibin .gtr (t 22) (k 7)),
 o 24 (.pick (t 20) (kb true) (t 23)),
 mv 16 (t 24)] [])
 (.cond (t 16)
 (.seq (.ops [mv 2 (k 1)] [])
 (.ret))
 (.seq (.ops [mv 26 (t 7),
 fa 27 1 (t 1),
 l1 28 (t 27),
 o 29 (.call (t 26) [(t 28),(k 127)]),
 o 30 (.not (t 29)),
 os 31 (.mov (t 30)),
 gf 31 32 (.mov (t 7)),
 gf 31 33 (.faddr 2 (t 1)),
 gf 31 34 (.load false 1 (t 33)),
 gf 31 35 (.call (t 32) [(t 34),(k 127)]),
 gf 31 36 (.not (t 35)),
 o 37 (.pick (t 31) (kb true) (t 36)),
 os 38 (.mov (t 37)),
 gf 38 39 (.mov (t 7)),
 gf 38 40 (.faddr 4 (t 1)),
 gf 38 41 (.load false 1 (t 40)),
 gf 38 42 (.call (t 39) [(t 41),(k 65535)]),
 gf 38 43 (.not (t 42)),
 o 44 (.pick (t 38) (kb true) (t 43)),
 os 45 (.mov (t 44)),
 gf 45 46 (.mov (t 7)),
 gf 45 47 (.faddr 5 (t 1)),
 gf 45 48 (.load false 1 (t 47)),
 gf 45 49 (.call (t 46) [(t 48),(k 65535)]),
 gf 45 50 (.not (t 49)),
 o 51 (.pick (t 45) (kb true) (t 50)),
 mv 25 (t 51)] [])
 (.cond (t 25)
  (.seq (.ops [mv 2 (k 1)] [])
  (.ret))
  (.seq (.ops [mv 53 (t 3),
  o 54 (.not (t 53)),
  os 55 (.mov (t 54)),
  gt 55 56 (.faddr 1 (t 1)),
  gt 55 57 (.load false 1 (t 56)),
  gt 55 58 (.ibin .neq (t 57) (k 0)),
  o 59 (.pick (t 55) (t 58) (kb false)),
  os 60 (.mov (t 59)),
  gf 60 61 (.mov (t 4)),
  gf 60 62 (.not (t 61)),
  ⟨(some 63),.mov (t 62),some (60,false),true⟩,
  gt 63 64 (.faddr 2 (t 1)),
  gt 63 65 (.load false 1 (t 64)),
  gt 63 66 (.ibin .neq (t 65) (k 0)),
  gf 60 67 (.pick (t 63) (t 66) (kb false)),
  o 68 (.pick (t 60) (kb true) (t 67)),
  os 69 (.mov (t 68)),
  gf 69 70 (.mov (t 5)),
  gf 69 71 (.not (t 70)),
  ⟨(some 72),.mov (t 71),some (69,false),true⟩,
  gt 72 73 (.faddr 5 (t 1)),
  gt 72 74 (.load false 1 (t 73)),
  gt 72 75 (.ibin .neq (t 74) (k 0)),
  gf 69 76 (.pick (t 72) (t 75) (kb false)),
  o 77 (.pick (t 69) (kb true) (t 76)),
  os 78 (.mov (t 77)),
  gf 78 79 (.mov (t 6)),
  gf 78 80 (.faddr 6 (t 1)),
  gf 78 81 (.load false 1 (t 80)),
  gf 78 82 (.len (t 81)),
  gf 78 83 (.ibin .gtr (t 82) (k 0)),
  gf 78 84 (.bbin .neq (t 79) (t 83)),
  o 85 (.pick (t 78) (kb true) (t 84)),
  mv 52 (t 85)] [])
  (.cond (t 52)
  (.seq (.ops [mv 2 (k 2)] [])
  (.ret))
  (.seq (.ops [fa 87 6 (t 1),
  l1 88 (t 87),
  o 89 (.len (t 88)),
  o 90 (.ibin .gtr (t 89) (k 121)),
  mv 86 (t 90)] [])
  (.cond (t 86)
   (.seq (.ops [mv 2 (k 3)] [])
   (.ret))
   (.skip))))))))))
 (.seq (.ops [mv 2 (k 0)] [])
 (.ret)))))
def zh7:List zd:=[.tmp 2]
theorem zxt {args:List Value} {M:Mem} {R:Value→Mem→Prop} (hn:args.length≤91) (h:zj Tryz.prog zh6 zh7 args M R):CallsM Tryz.prog F.zeb args M R:=
 zf (kf:=fun _=>[]) Tryz.func108 (by kernel_rfl) (by kernel_rfl) hn (by kernel_rfl) h
def zfg:RCode:=
 .seq (.ops [o 3 (.box 129 (t 1))] [])
 (.seq (.seq (.draw (.take (fa 5 4 (t 3)) (.take (l1 6 (t 5)) (.take (mv 7 (t 0)) (.take (o 8 (.nilck (t 7))) (.take (fa 9 1 (t 8)) (.take (l1 10 (t 9)) (.take (o 11 (.ibin .neq (t 6) (t 10))) (.done)))))))) [])
 (.cond (t 11)
 (.seq (.ops [mv 12 (t 0),
 o 13 (.nilck (t 12)),
 fa 14 6 (t 13),
 l1 15 (t 14),
 mv 4 (t 15)] [])
 (.seq (.ops [mv 16 (t 0),
 fa 17 4 (t 3),
 l1 18 (t 17),
 o 19 (.nilck (t 16)),
 fa 20 1 (t 19),
 st 1 (t 20) (t 18)] [])
 (.seq (.ops [mv 21 (t 0),
 ca 22 F.zcF [(t 21)]] [])
 (.seq (.ops [mv 23 (t 0),
 o 24 (.nilck (t 23)),
 fa 25 2 (t 24),
 l1 26 (t 25),
 o 27 (.not (t 26))] [])
 (.cond (t 27)
  (.ops [mv 28 (t 0),
  mv 29 (t 4),
  o 30 (.nilck (t 28)),
  fa 31 6 (t 30),
  st 1 (t 31) (t 29)] [])
  (.skip))))))
 (.skip)))
 (.draw (.take (mv 32 (t 0)) (.take (fa 33 3 (t 3)) (.take (l1 34 (t 33)) (.take (mv 35 (t 0)) (.take (o 36 (.nilck (t 35))) (.take (fa 37 1 (t 36)) (.take (l1 38 (t 37)) (.take (o 39 (.build [(i 0),(i 0),(i 0),(.bool false),(i 0),(i 0),sn] [(0,1,(k 6)),(3,1,(t 34)),(5,1,(t 38))])) (.alt (ca 40 F.zam [(t 32),(t 39)]) false
 (.done)
 (.none)))))))))) []))
def zfh:List zd:=[]
theorem ztR {args:List Value} {M:Mem} {R:Value→Mem→Prop} (hn:args.length≤41) (h:zj Tryz.prog zfg zfh args M R):CallsM Tryz.prog F.zjR args M R:=
 zf (kf:=fun _=>[]) Tryz.func109 (by kernel_rfl) (by kernel_rfl) hn (by kernel_rfl) h
def zjm:RCode:=
 .seq (.ops [o 3 (.box 129 (t 1))] [])
 (.seq (.seq (.draw (.take (fa 4 5 (t 3)) (.take (l1 5 (t 4)) (.take (mv 6 (t 0)) (.take (o 7 (.nilck (t 6))) (.take (fa 8 0 (t 7)) (.take (l1 9 (t 8)) (.take (o 10 (.ibin .neq (t 5) (t 9))) (.take (os 11 (.mov (t 10))) (.take (gf 11 12 (.mov (t 0))) (.take (gf 11 13 (.nilck (t 12))) (.take (gf 11 14 (.faddr 2 (t 13))) (.take (gf 11 15 (.load false 1 (t 14))) (.take (o 16 (.pick (t 11) (kb true) (t 15))) (.done)))))))))))))) [])
 (.cond (t 16)
 (.ret)
 (.skip)))
 (.seq (.seq (.draw (.take (fa 17 4 (t 3)) (.take (l1 18 (t 17)) (.take (mv 19 (t 0)) (.take (o 20 (.nilck (t 19))) (.take (fa 21 1 (t 20)) (.take (l1 22 (t 21)) (.take (o 23 (.ibin .neq (t 18) (t 22))) (.done)))))))) [])
 (.cond (t 23)
 (.seq (.ops [mv 24 (t 0),
 fa 25 4 (t 3),
 l1 26 (t 25),
 o 27 (.nilck (t 24)),
 fa 28 1 (t 27),
 st 1 (t 28) (t 26)] [])
 (.ops [mv 29 (t 0),
 ca 30 F.zcF [(t 29)]] []))
 (.skip)))
 (.ops [mv 31 (t 0),
 ca 32 F.ze3 [(t 31)]] [])))
def zjn:List zd:=[]
theorem zy9 {args:List Value} {M:Mem} {R:Value→Mem→Prop} (hn:args.length≤33) (h:zj Tryz.prog zjm zjn args M R):CallsM Tryz.prog F.zmS args M R:=
 zf (kf:=fun _=>[]) Tryz.func110 (by kernel_rfl) (by kernel_rfl) hn (by kernel_rfl) h
def zAe:RCode:=
 .seq (.ops [o 3 (.box 129 (t 1))] [])
 (.seq (.draw (.take (mv 4 (t 0)) (.take (o 5 (.nilck (t 4))) (.take (fa 6 2 (t 5)) (.take (l1 7 (t 6)) (.take (os 8 (.mov (t 7))) (.take (gt 8 9 (.faddr 5 (t 3))) (.take (gt 8 10 (.load false 1 (t 9))) (.take (gt 8 11 (.mov (t 0))) (.take (gt 8 12 (.nilck (t 11))) (.take (gt 8 13 (.faddr 0 (t 12))) (.take (gt 8 14 (.load false 1 (t 13))) (.take (gt 8 15 (.ibin .eql (t 10) (t 14))) (.take (o 16 (.pick (t 8) (t 15) (kb false))) (.take (os 17 (.mov (t 16))) (.take (gt 17 18 (.faddr 4 (t 3))) (.take (gt 17 19 (.load false 1 (t 18))) (.take (gt 17 20 (.mov (t 0))) (.take (gt 17 21 (.nilck (t 20))) (.take (gt 17 22 (.faddr 1 (t 21))) (.take (gt 17 23 (.load false 1 (t 22))) (.take (gt 17 24 (.ibin .neq (t 19) (t 23))) (.take (o 25 (.pick (t 17) (t 24) (kb false))) (.done))))))))))))))))))))))) [])
 (.cond (t 25)
 (.ops [mv 26 (t 0),
 ca 27 F.zpf [(t 26)]] [])
 (.skip)))
def zAf:List zd:=[]
def zgY:RCode:=
 .seq (.ops [o 3 (.box 129 (t 1))] [])
 (.seq (.seq (.ops [mv 4 (t 0),
 o 5 (.nilck (t 4)),
 fa 6 2 (t 5),
 l1 7 (t 6),
 o 8 (.not (t 7))] [])
 (.cond (t 8)
 (.ops [mv 9 (t 0),
 ca 10 F.ze3 [(t 9)]] [])
 (.skip)))
 (.seq (.ops [fa 11 0 (t 3),
 l1 12 (t 11)] [])
 (.block 0 (.seq (.ops [o 17 (.ibin .eql (t 12) (k 1)),
 mv 16 (t 17)] [])
 (.cond (t 16)
 (.ops [mv 18 (t 0),
 la 19 7 (t 3),
 ca 20 F.zjU [(t 18),(t 19)]] [])
 (.seq (.ops [o 22 (.ibin .eql (t 12) (k 4)),
 mv 21 (t 22)] [])
 (.cond (t 21)
  (.ops [mv 23 (t 0),
  la 24 7 (t 3),
  ca 25 F.zuW [(t 23),(t 24)]] [])
  (.ops [mv 13 (t 0),
  la 14 7 (t 3),
  ca 15 F.zjV [(t 13),(t 14)]] []))))))))
def zgZ:List zd:=[]
theorem zvM {args:List Value} {M:Mem} {R:Value→Mem→Prop} (hn:args.length≤26) (h:zj Tryz.prog zgY zgZ args M R):CallsM Tryz.prog F.zk8 args M R:=
 zf (kf:=fun _=>[]) Tryz.func112 (by kernel_rfl) (by kernel_rfl) hn (by kernel_rfl) h
def zg0:RCode:=
 .seq (.ops [o 3 (.box 129 (t 1))] [])
 (.seq (.ops [mv 4 (t 0),
 o 5 (.nilck (t 4)),
 fa 6 0 (t 5),
 l1 7 (t 6),
 fa 8 4 (t 3),
 st 1 (t 8) (t 7)] [])
 (.draw (.take (mv 9 (t 0)) (.take (mv 10 (t 0)) (.take (o 11 (.nilck (t 10))) (.take (fa 12 13 (t 11)) (.take (l1 13 (t 12)) (.take (la 14 7 (t 3)) (.alt (o 15 (.mkSl true 129 1 [(i 0),(i 0),(i 0),(.bool false),(i 0),(i 0),sn] [(0,7,(t 14))])) false
 (.alt (o 16 (.app 129 7 72 [(i 0),(i 0),(i 0),(.bool false),(i 0),(i 0),sn] (t 13) (t 15))) false
  (.take (o 17 (.nilck (t 9))) (.take (fa 18 13 (t 17)) (.alt (st 1 (t 18) (t 16)) false
  (.done)
  (.none))))
  (.none))
 (.none)))))))) []))
def zg1:List zd:=[]
theorem zvN {args:List Value} {M:Mem} {R:Value→Mem→Prop} (hn:args.length≤19) (h:zj Tryz.prog zg0 zg1 args M R):CallsM Tryz.prog F.zam args M R:=
 zf (kf:=fun _=>[]) Tryz.func113 (by kernel_rfl) (by kernel_rfl) hn (by kernel_rfl) h
def zp3:RCode:=
 .seq (.ops [o 2 (.alloc 142 [(i 0),(i 0),(i 0),(i 0),(i 0),(i 0),sn,sn]),
 mv 3 (k 0)] [])
 (.seq (.seq (.ops [mv 9 (t 0),
 o 10 (.len (t 9)),
 o 11 (.ibin .eql (t 10) (k 0))] [])
 (.cond (t 11)
 (.seq (.ops [o 12 (.build [(i 0),(i 0),(i 0),(i 0),(i 0),(i 0),sn,sn] []),
 st 8 (t 2) (t 12),
 mv 3 (k 2)] [])
 (.ret))
 (.skip)))
 (.seq (.ops [mv 13 (t 0),
 o 14 (.iaddr 1 (t 13) (k 0)),
 l1 15 (t 14),
 o 16 (.conv .i64 (t 15)),
 o 17 (.build [(i 0),(i 0),(i 0),(i 0),(i 0),(i 0),sn,sn] [(0,1,(t 16))]),
 o 4 (.alloc 142 [(i 0),(i 0),(i 0),(i 0),(i 0),(i 0),sn,sn]),
 st 8 (t 4) (t 17)] [])
 (.seq (.ops [mv 19 (t 0),
 ca 20 F.zbj [(t 19),(k 1),(k 2)],
 mv 18 (t 20),
 ex 21 (t 18) 0,
 ex 22 (t 18) 1,
 mv 5 (t 21),
 mv 6 (t 22)] [])
 (.seq (.block 0 (.seq (.ops [fa 35 0 (t 4),
 l1 36 (t 35),
 o 37 (.ibin .eql (t 36) (k 4)),
 mv 34 (t 37)] [])
 (.cond (t 34)
 (.seq (.seq (.ops [mv 38 (t 0),
 o 39 (.slx 1 (t 38) (some (k 1)) none),
 o 40 (.len (t 39)),
 mv 41 (k 0)] [])
 (.block 1 (.loop (.seq (.ops [o 42 (.ibin .lss (t 41) (t 40))] [])
  (.seq (.cond (t 42)
  (.skip)
  (.exit 1))
  (.seq (.block 2 (.seq (.ops [o 43 (.iaddr 1 (t 39) (t 41)),
  l1 44 (t 43),
  mv 8 (t 44)] [])
  (.ops [fa 45 7 (t 4),
  l1 46 (t 45),
  mv 47 (t 8),
  o 48 (.conv .i64 (t 47)),
  o 49 (.mkSl true 3 1 [(i 0)] [(0,1,(t 48))]),
  o 50 (.app 3 1 8 [(i 0)] (t 46) (t 49)),
  fa 51 7 (t 4),
  st 1 (t 51) (t 50)] [])))
  (.ops [ad 52 (t 41) (k 1),
  mv 41 (t 52)] [])))))))
 (.ops [mv 6 (k 0)] []))
 (.seq (.ops [mv 54 (t 6),
 o 55 (.ibin .neq (t 54) (k 0)),
 mv 53 (t 55)] [])
 (.cond (t 53)
  (.skip)
  (.seq (.ops [fa 57 0 (t 4),
  l1 58 (t 57),
  o 59 (.ibin .eql (t 58) (k 1)),
  mv 56 (t 59)] [])
  (.cond (t 56)
  (.seq (.ops [mv 60 (t 5),
  o 61 (.conv .i64 (t 60)),
  fa 62 1 (t 4),
  st 1 (t 62) (t 61)] [])
  (.ops [mv 64 (t 0),
  o 65 (.slx 1 (t 64) (some (k 3)) none),
  ca 66 F.znx [(t 65)],
  mv 63 (t 66),
  ex 67 (t 63) 0,
  ex 68 (t 63) 1,
  fa 69 2 (t 4),
  st 5 (t 69) (t 67),
  mv 6 (t 68)] []))
  (.seq (.ops [mv 23 (t 5),
  o 24 (.conv .i64 (t 23)),
  fa 25 1 (t 4),
  st 1 (t 25) (t 24)] [])
  (.ops [mv 27 (t 0),
  o 28 (.slx 1 (t 27) (some (k 3)) none),
  ca 29 F.zkl [(t 28)],
  mv 26 (t 29),
  ex 30 (t 26) 0,
  ex 31 (t 26) 1,
  fa 32 2 (t 4),
  fa 33 0 (t 32),
  st 4 (t 33) (t 30),
  mv 6 (t 31)] [])))))))))
 (.seq (.seq (.ops [mv 70 (t 6),
 o 71 (.ibin .neq (t 70) (k 0)),
 os 72 (.mov (t 71)),
 gf 72 73 (.load true 8 (t 4)),
 gf 72 74 (.call (fn F.znc) [(t 73)]),
 gf 72 75 (.ibin .neq (t 74) (k 0)),
 o 76 (.pick (t 72) (kb true) (t 75))] [])
 (.cond (t 76)
 (.seq (.ops [o 77 (.build [(i 0),(i 0),(i 0),(i 0),(i 0),(i 0),sn,sn] []),
 st 8 (t 2) (t 77),
 mv 3 (k 2)] [])
 (.ret))
 (.skip)))
 (.seq (.ops [la 78 8 (t 4),
 st 8 (t 2) (t 78),
 mv 3 (k 0)] [])
 (.ret)))))))
def zp4:List zd:=[.cell true 8 2,.tmp 3]
theorem zEP {args:List Value} {M:Mem} {R:Value→Mem→Prop} (hn:args.length≤79) (h:zj Tryz.prog zp3 zp4 args M R):CallsM Tryz.prog F.ztx args M R:=
 zf (kf:=fun _=>[]) Tryz.func114 (by kernel_rfl) (by kernel_rfl) hn (by kernel_rfl) h
def zdF:RCode:=
 .seq (.ops [o 5 (.box 142 (t 2))] [])
 (.seq (.ops [fa 11 2 (t 5),
 fa 12 0 (t 11),
 la 13 4 (t 12),
 o 6 (.alloc 54 [(i 0),(i 0),(i 0),(i 0)]),
 st 4 (t 6) (t 13)] [])
 (.seq (.ops [mv 7 (k 0)] [])
 (.seq (.seq (.draw (.take (fa 14 1 (t 6)) (.take (l1 15 (t 14)) (.take (mv 16 (t 0)) (.take (o 17 (.nilck (t 16))) (.take (fa 18 0 (t 17)) (.take (l1 19 (t 18)) (.take (o 20 (.ibin .eql (t 15) (t 19))) (.done)))))))) [])
 (.cond (t 20)
 (.seq (.draw (.take (mv 21 (t 0)) (.take (o 22 (.nilck (t 21))) (.take (fa 23 11 (t 22)) (.take (l1 24 (t 23)) (.take (la 25 4 (t 6)) (.alt (ca 26 F.zeN [(t 24),(t 25)]) false
  (.take (o 27 (.not (t 26))) (.done))
  (.none))))))) [])
 (.cond (t 27)
  (.seq (.draw (.take (mv 28 (t 0)) (.take (o 29 (.nilck (t 28))) (.take (fa 30 11 (t 29)) (.take (l1 31 (t 30)) (.take (la 32 4 (t 6)) (.alt (ca 33 F.zcL [(t 31),(t 32)]) false
  (.take (mv 7 (t 33)) (.done))
  (.none))))))) [])
  (.seq (.seq (.ops [mv 34 (t 7),
  o 35 (.ibin .eql (t 34) (k 0))] [])
  (.cond (t 35)
  (.draw (.take (mv 36 (t 0)) (.take (mv 37 (t 0)) (.take (o 38 (.nilck (t 37))) (.take (fa 39 15 (t 38)) (.take (l1 40 (t 39)) (.take (fa 41 2 (t 5)) (.take (la 42 5 (t 41)) (.alt (o 43 (.mkSl true 86 1 [(i 0),(i 0),(i 0),(i 0),sn] [(0,5,(t 42))])) false
   (.alt (o 44 (.app 86 5 56 [(i 0),(i 0),(i 0),(i 0),sn] (t 40) (t 43))) false
   (.take (o 45 (.nilck (t 36))) (.take (fa 46 15 (t 45)) (.alt (st 1 (t 46) (t 44)) false
    (.done)
    (.none))))
   (.none))
   (.none))))))))) [])
  (.skip)))
  (.seq (.ops [mv 47 (t 7),
  o 48 (.ibin .eql (t 47) (k 5))] [])
  (.cond (t 48)
  (.ops [mv 7 (k 0)] [])
  (.skip)))))
  (.skip)))
 (.seq (.draw (.take (mv 50 (t 0)) (.take (o 51 (.nilck (t 50))) (.take (fa 52 11 (t 51)) (.take (l1 53 (t 52)) (.take (la 54 4 (t 6)) (.alt (ca 55 F.zkm [(t 53),(t 54)]) false
  (.take (mv 49 (t 55)) (.take (ex 56 (t 49) 0) (.take (ex 57 (t 49) 1) (.alt (o 8 (.alloc 86 [(i 0),(i 0),(i 0),(i 0),sn])) false
  (.alt (st 5 (t 8) (t 56)) false
   (.take (mv 9 (t 57)) (.done))
   (.none))
  (.none)))))
  (.alt (o 8 (.alloc 86 [(i 0),(i 0),(i 0),(i 0),sn])) false
  (.alt (ca 55 F.zkm [(t 53),(t 54)]) false
   (.take (mv 49 (t 55)) (.take (ex 56 (t 49) 0) (.take (ex 57 (t 49) 1) (.alt (st 5 (t 8) (t 56)) false
   (.take (mv 9 (t 57)) (.done))
   (.none)))))
   (.none))
  (.none)))))))) [])
 (.seq (.ops [mv 58 (t 9),
 o 59 (.not (t 58))] [])
 (.cond (t 59)
  (.draw (.take (mv 60 (t 0)) (.take (o 61 (.nilck (t 60))) (.take (fa 62 11 (t 61)) (.take (l1 63 (t 62)) (.take (fa 64 2 (t 5)) (.take (la 65 5 (t 64)) (.alt (ca 66 F.zqt [(t 63),(t 65)]) false
  (.take (mv 7 (t 66)) (.done))
  (.none)))))))) [])
  (.seq (.draw (.take (mv 67 (t 0)) (.take (o 68 (.nilck (t 67))) (.take (fa 69 14 (t 68)) (.take (l1 70 (t 69)) (.take (la 71 4 (t 6)) (.alt (ca 72 F.zsx [(t 70),(t 71)]) false
  (.done)
  (.none))))))) [])
  (.cond (t 72)
  (.ops [mv 7 (k 7)] [])
  (.skip))))))))
 (.seq (.seq (.ops [mv 73 (t 0),
 o 74 (.nilck (t 73)),
 fa 75 11 (t 74),
 l1 76 (t 75),
 ca 77 F.zM [(t 76)]] [])
 (.cond (t 77)
 (.ret)
 (.skip)))
 (.seq (.ops [mv 10 (k 2)] [])
 (.seq (.seq (.ops [mv 78 (t 7),
 o 79 (.ibin .neq (t 78) (k 0))] [])
 (.cond (t 79)
 (.ops [mv 10 (k 3)] [])
 (.skip)))
 (.ops [mv 80 (t 0),
 mv 81 (t 1),
 mv 82 (t 10),
 fa 83 1 (t 5),
 l1 84 (t 83),
 la 85 4 (t 6),
 o 86 (.build [(i 0),(i 0),(i 0),(i 0),sn] [(0,4,(t 85))]),
 o 87 (.build [(i 0),(i 0),(i 0),(i 0),(i 0),(i 0),sn,sn] [(0,1,(t 82)),(1,1,(t 84)),(2,5,(t 86))]),
 ca 88 F.zc5 [(t 80),(t 81),(t 87)]] [])))))))
def zdG:List zd:=[]
theorem zr8 {args:List Value} {M:Mem} {R:Value→Mem→Prop} (hn:args.length≤89) (h:zj Tryz.prog zdF zdG args M R):CallsM Tryz.prog F.zhN args M R:=
 zf (kf:=fun _=>[]) Tryz.func115 (by kernel_rfl) (by kernel_rfl) hn (by kernel_rfl) h
def zjo:RCode:=
 .seq (.ops [o 7 (.box 54 (t 3)),
 mv 8 (kb false)] [])
 (.seq (.draw (.take (mv 10 (t 0)) (.take (mv 11 (t 1)) (.take (la 12 4 (t 7)) (.alt (ca 13 F.zhr [(t 10),(t 11),(t 12)]) true
 (.take (os 14 (.mov (t 13))) (.take (gt 14 15 (.mov (t 0))) (.take (gt 14 16 (.nilck (t 15))) (.take (gt 14 17 (.faddr 2 (t 16))) (.take (gt 14 18 (.load false 1 (t 17))) (.take (gt 14 19 (.load true 4 (t 7))) (.take (gt 14 20 (.mget (.agg 4) false (.agg #[(i 0),(i 0),(i 0),(i 0)]) (t 18) (t 19))) (.take (gt 14 21 (.field false 1 1 (t 20))) (.take (gt 14 22 (.mov (t 2))) (.take (gt 14 23 (.ibin .eql (t 21) (t 22))) (.take (o 24 (.pick (t 14) (t 23) (kb false))) (.take (mv 9 (t 24)) (.done)))))))))))))
 (.none))))) [])
 (.seq (.seq (.ops [mv 25 (t 9)] [])
 (.cond (t 25)
 (.draw (.take (mv 26 (t 0)) (.take (o 27 (.nilck (t 26))) (.take (fa 28 2 (t 27)) (.take (l1 29 (t 28)) (.take (la 30 4 (t 7)) (.alt (e (.mdel (.agg 4) (t 29) (t 30))) false
  (.done)
  (.none))))))) [])
 (.skip)))
 (.seq (.ops [mv 31 (t 9),
 mv 8 (t 31)] [])
 (.ret))))
def zjp:List zd:=[.tmp 8]
theorem zza {args:List Value} {M:Mem} {R:Value→Mem→Prop} (hn:args.length≤32) (h:zj Tryz.prog zjo zjp args M R):CallsM Tryz.prog F.zmT args M R:=
 zf (kf:=fun _=>[]) Tryz.func116 (by kernel_rfl) (by kernel_rfl) hn (by kernel_rfl) h
def za9:RCode:=
 .seq (.ops [o 3 (.box 54 (t 1)),
 mv 4 (k 0)] [])
 (.seq (.ops [mv 5 (t 0),
 la 6 4 (t 3),
 o 7 (.build [(i 0),(i 0),(i 0),(i 0),sn] [(0,4,(t 6))]),
 o 8 (.build [(i 0),(i 0),(i 0),(i 0),(i 0),sn] [(0,1,(k 3)),(1,5,(t 7))]),
 ca 9 F.zab [(t 5),(t 8),(kb false)],
 mv 4 (t 9)] [])
 (.ret))
def zba:List zd:=[.tmp 4]
theorem znU {args:List Value} {M:Mem} {R:Value→Mem→Prop} (hn:args.length≤10) (h:zj Tryz.prog za9 zba args M R):CallsM Tryz.prog F.zcK args M R:=
 zf (kf:=fun _=>[]) Tryz.func117 (by kernel_rfl) (by kernel_rfl) hn (by kernel_rfl) h
def zvO:RCode:=
 .seq (.ops [o 7 (.box 54 (t 3)),
 mv 8 (kb false)] [])
 (.seq (.draw (.take (mv 10 (t 0)) (.take (mv 11 (t 1)) (.take (la 12 4 (t 7)) (.alt (ca 13 F.zhr [(t 10),(t 11),(t 12)]) true
 (.take (os 14 (.mov (t 13))) (.take (gt 14 15 (.mov (t 0))) (.take (gt 14 16 (.nilck (t 15))) (.take (gt 14 17 (.faddr 2 (t 16))) (.take (gt 14 18 (.load false 1 (t 17))) (.take (gt 14 19 (.load true 4 (t 7))) (.take (gt 14 20 (.mget (.agg 4) false (.agg #[(i 0),(i 0),(i 0),(i 0)]) (t 18) (t 19))) (.take (gt 14 21 (.field false 1 1 (t 20))) (.take (gt 14 22 (.mov (t 2))) (.take (gt 14 23 (.ibin .eql (t 21) (t 22))) (.take (o 24 (.pick (t 14) (t 23) (kb false))) (.take (mv 9 (t 24)) (.done)))))))))))))
 (.none))))) [])
 (.seq (.seq (.ops [mv 25 (t 9)] [])
 (.cond (t 25)
 (.draw (.take (mv 26 (t 0)) (.take (o 27 (.nilck (t 26))) (.take (fa 28 2 (t 27)) (.take (l1 29 (t 28)) (.take (la 30 4 (t 7)) (.take (mv 31 (t 0)) (.take (o 32 (.nilck (t 31))) (.take (fa 33 0 (t 32)) (.take (l1 34 (t 33)) (.take (o 35 (.build [(i 0),(i 0),(i 0),(i 0)] [(0,1,(k (-1))),(3,1,(t 34))])) (.alt (e (.mset (.agg 4) (t 29) (t 30) (t 35))) false
  (.done)
  (.none)))))))))))) [])
 (.skip)))
 (.seq (.ops [mv 36 (t 9),
 mv 8 (t 36)] [])
 (.ret))))
def zvP:List zd:=[.tmp 8]
def zdH:RCode:=
 .seq (.ops [mv 6 (k 0)] [])
 (.seq (.block 0 (.seq (.ops [mv 11 (t 0),
 o 12 (.pnil .eql (t 11) (.const (.pointer none))),
 mv 10 (t 12)] [])
 (.cond (t 10)
 (.seq (.ops [mv 6 (k 7)] [])
 (.ret))
 (.seq (.ops [mv 14 (t 0),
 mv 15 (t 1),
 ca 16 F.zdl [(t 14),(t 15)],
 o 17 (.not (t 16)),
 mv 13 (t 17)] [])
 (.cond (t 13)
  (.seq (.ops [mv 6 (k 4)] [])
  (.ret))
  (.seq (.ops [mv 19 (t 2),
  o 20 (.len (t 19)),
  o 21 (.ibin .neq (t 20) (k 64)),
  mv 18 (t 21)] [])
  (.cond (t 18)
  (.seq (.ops [mv 6 (k 2)] [])
  (.ret))
  (.skip))))))))
 (.seq (.ops [mv 22 (t 0),
 o 23 (.nilck (t 22)),
 fa 24 1 (t 23),
 l1 25 (t 24),
 o 26 (.build [(i 0),(i 0),(i 0),(i 0),(i 0),(i 0),(i 0),(i 0),(i 0),(i 0),(i 0),(i 0),(i 0),(i 0),(i 0),(i 0),(i 0),(i 0),(i 0),(i 0),(i 0),(i 0),(i 0),(i 0),(i 0),(i 0),(i 0),(i 0),(i 0),(i 0),(i 0),(i 0),(i 0),(i 0),(i 0),(i 0),(i 0),(i 0),(i 0),(i 0),(i 0),(i 0),(i 0),(i 0),(i 0),(i 0),(i 0),(i 0),(i 0),(i 0),(i 0),(i 0),(i 0),(i 0),(i 0),(i 0),(i 0),(i 0),(i 0),(i 0),(i 0),(i 0),(i 0),(i 0),(i 0)] [(64,1,(t 25))]),
 o 7 (.alloc 209 [(i 0),(i 0),(i 0),(i 0),(i 0),(i 0),(i 0),(i 0),(i 0),(i 0),(i 0),(i 0),(i 0),(i 0),(i 0),(i 0),(i 0),(i 0),(i 0),(i 0),(i 0),(i 0),(i 0),(i 0),(i 0),(i 0),(i 0),(i 0),(i 0),(i 0),(i 0),(i 0),(i 0),(i 0),(i 0),(i 0),(i 0),(i 0),(i 0),(i 0),(i 0),(i 0),(i 0),(i 0),(i 0),(i 0),(i 0),(i 0),(i 0),(i 0),(i 0),(i 0),(i 0),(i 0),(i 0),(i 0),(i 0),(i 0),(i 0),(i 0),(i 0),(i 0),(i 0),(i 0),(i 0)]),
 st 65 (t 7) (t 26)] [])
 (.seq (.seq (.ops [mv 27 (t 2),
 o 28 (.len (t 27)),
 mv 29 (k 0)] [])
 (.block 1 (.loop (.seq (.ops [o 30 (.ibin .lss (t 29) (t 28))] [])
 (.seq (.cond (t 30)
  (.skip)
  (.exit 1))
 (.seq (.block 2 (.seq (.ops [mv 31 (t 29),
 o 32 (.iaddr 1 (t 27) (t 29)),
 l1 33 (t 32),
 mv 8 (t 31),
 mv 9 (t 33)] [])
 (.seq (.seq (.ops [mv 34 (t 9),
 o 35 (.ibin .lss (t 34) (k 0)),
 os 36 (.mov (t 35)),
 gf 36 37 (.mov (t 9)),
 gf 36 38 (.ibin .gtr (t 37) (k 16)),
 o 39 (.pick (t 36) (kb true) (t 38))] [])
 (.cond (t 39)
  (.seq (.ops [mv 6 (k 2)] [])
  (.ret))
  (.skip)))
 (.ops [mv 40 (t 8),
 mv 41 (t 9),
 fa 42 0 (t 7),
 o 43 (.iaddrA 64 1 (t 42) (t 40)),
 st 1 (t 43) (t 41)] []))))
 (.ops [ad 44 (t 29) (k 1),
 mv 29 (t 44)] [])))))))
 (.seq (.draw (.take (mv 45 (t 0)) (.take (o 46 (.nilck (t 45))) (.take (fa 47 4 (t 46)) (.take (l1 48 (t 47)) (.take (mv 49 (t 1)) (.take (la 50 65 (t 7)) (.alt (e (.mset .int (t 48) (t 49) (t 50))) false
 (.done)
 (.none)))))))) [])
 (.seq (.ops [mv 6 (k 0)] [])
 (.ret))))))
def zdI:List zd:=[.tmp 6]
theorem zr9 {args:List Value} {M:Mem} {R:Value→Mem→Prop} (hn:args.length≤51) (h:zj Tryz.prog zdH zdI args M R):CallsM Tryz.prog F.zhO args M R:=
 zf (kf:=fun _=>[]) Tryz.func119 (by kernel_rfl) (by kernel_rfl) hn (by kernel_rfl) h
def zeq:RCode:=
 .seq (.ops [mv 2 (k 0)] [])
 (.seq (.seq (.ops [mv 3 (t 0),
 o 4 (.pnil .eql (t 3) (.const (.pointer none)))] [])
 (.cond (t 4)
 (.seq (.ops [mv 2 (k 0)] [])
 (.ret))
 (.skip)))
 (.seq (.ops [mv 5 (t 0),
 o 6 (.nilck (t 5)),
 fa 7 8 (t 6),
 l1 8 (t 7),
 mv 2 (t 8)] [])
 (.ret)))
def zer:List zd:=[.tmp 2]
theorem zsQ {args:List Value} {M:Mem} {R:Value→Mem→Prop} (hn:args.length≤9) (h:zj Tryz.prog zeq zer args M R):CallsM Tryz.prog F.zec args M R:=
 zf (kf:=fun _=>[]) Tryz.func120 (by kernel_rfl) (by kernel_rfl) hn (by kernel_rfl) h
def zg2:RCode:=
 .seq (.ops [mv 4 (k 0)] [])
 (.seq (.ops [mv 8 (t 0),
 mv 9 (t 1),
 ca 10 F.ziJ [(t 8),(t 9)],
 mv 5 (t 10)] [])
 (.seq (.seq (.ops [mv 11 (t 5),
 o 12 (.len (t 11)),
 mv 13 (k 0)] [])
 (.block 0 (.loop (.seq (.ops [o 14 (.ibin .lss (t 13) (t 12))] [])
 (.seq (.cond (t 14)
  (.skip)
  (.exit 0))
 (.seq (.block 1 (.seq (.ops [o 15 (.iaddr 4 (t 11) (t 13)),
 la 16 4 (t 15),
 o 7 (.alloc 54 [(i 0),(i 0),(i 0),(i 0)]),
 st 4 (t 7) (t 16)] [])
 (.draw (.take (mv 17 (t 0)) (.take (o 18 (.nilck (t 17))) (.take (fa 19 2 (t 18)) (.take (l1 20 (t 19)) (.take (la 21 4 (t 7)) (.alt (e (.mdel (.agg 4) (t 20) (t 21))) false
  (.done)
  (.none))))))) [])))
 (.ops [ad 22 (t 13) (k 1),
 mv 13 (t 22)] [])))))))
 (.seq (.ops [mv 23 (t 5),
 o 24 (.len (t 23)),
 mv 4 (t 24)] [])
 (.ret))))
def zg3:List zd:=[.tmp 4]
theorem zvQ {args:List Value} {M:Mem} {R:Value→Mem→Prop} (hn:args.length≤25) (h:zj Tryz.prog zg2 zg3 args M R):CallsM Tryz.prog F.zk9 args M R:=
 zf (kf:=fun _=>[]) Tryz.func121 (by kernel_rfl) (by kernel_rfl) hn (by kernel_rfl) h
def zfi:RCode:=
 .seq (.ops [mv 13 (t 0),
 o 14 (.nilck (t 13)),
 fa 15 11 (t 14),
 l1 16 (t 15),
 ca 17 F.zeO [(t 16)],
 mv 4 (t 17)] [])
 (.seq (.seq (.ops [mv 18 (t 4),
 o 19 (.len (t 18)),
 o 20 (.ibin .eql (t 19) (k 0))] [])
 (.cond (t 20)
 (.ret)
 (.skip)))
 (.seq (.ops [o 21 (.mkSlN 3 8 [(i 0)] (k 64) (k 64)),
 mv 5 (t 21)] [])
 (.seq (.seq (.ops [mv 22 (t 5),
 o 23 (.len (t 22)),
 mv 24 (k 0)] [])
 (.block 0 (.loop (.seq (.ops [o 25 (.ibin .lss (t 24) (t 23))] [])
 (.seq (.cond (t 25)
  (.skip)
  (.exit 0))
 (.seq (.block 1 (.seq (.ops [mv 26 (t 24),
 mv 6 (t 26)] [])
 (.ops [mv 27 (t 5),
 mv 28 (t 6),
 o 29 (.iaddr 1 (t 27) (t 28)),
 st 1 (t 29) (k (-1))] [])))
 (.ops [ad 30 (t 24) (k 1),
 mv 24 (t 30)] [])))))))
 (.seq (.seq (.ops [mv 31 (t 4),
 o 32 (.len (t 31)),
 mv 33 (k 0)] [])
 (.block 2 (.loop (.seq (.ops [o 34 (.ibin .lss (t 33) (t 32))] [])
 (.seq (.cond (t 34)
  (.skip)
  (.exit 2))
 (.seq (.block 3 (.seq (.ops [o 35 (.iaddr 5 (t 31) (t 33)),
 la 36 5 (t 35),
 o 8 (.alloc 86 [(i 0),(i 0),(i 0),(i 0),sn]),
 st 5 (t 8) (t 36)] [])
 (.seq (.draw (.take (mv 38 (t 0)) (.take (o 39 (.nilck (t 38))) (.take (fa 40 13 (t 39)) (.take (l1 41 (t 40)) (.take (fa 42 0 (t 8)) (.take (fa 43 1 (t 42)) (.take (l1 44 (t 43)) (.alt (ca 45 F.zdm [(t 41),(t 44)]) false
  (.take (mv 37 (t 45)) (.take (ex 46 (t 37) 0) (.take (ex 47 (t 37) 1) (.take (mv 9 (t 46)) (.take (mv 10 (t 47)) (.done))))))
  (.none))))))))) [])
 (.seq (.ops [mv 48 (t 10)] [])
 (.cond (t 48)
  (.ops [mv 49 (t 5),
  fa 50 0 (t 8),
  fa 51 1 (t 50),
  l1 52 (t 51),
  mv 53 (t 9),
  o 54 (.iaddr 1 (t 49) (t 52)),
  st 1 (t 54) (t 53)] [])
  (.skip))))))
 (.ops [ad 55 (t 33) (k 1),
 mv 33 (t 55)] [])))))))
 (.seq (.ops [mv 56 (t 0),
 o 57 (.nilck (t 56)),
 fa 58 14 (t 57),
 l1 59 (t 58),
 mv 60 (t 4),
 mv 61 (t 5),
 mv 62 (t 1),
 ca 63 F.zl7 [(t 59),(t 60),(t 61),(t 62)],
 o 64 (.len (t 63)),
 mv 65 (k 0)] [])
 (.block 4 (.loop (.seq (.ops [o 66 (.ibin .lss (t 65) (t 64))] [])
 (.seq (.cond (t 66)
  (.skip)
  (.exit 4))
 (.seq (.block 5 (.seq (.ops [o 67 (.iaddr 7 (t 63) (t 65)),
 la 68 7 (t 67),
 o 12 (.alloc 273 [(i 0),(i 0),(i 0),(i 0),(i 0),(i 0),sn]),
 st 7 (t 12) (t 68)] [])
 (.seq (.ops [mv 69 (t 0),
 fa 70 0 (t 12),
 l1 71 (t 70),
 fa 72 1 (t 12),
 l1 73 (t 72),
 fa 74 2 (t 12),
 la 75 5 (t 74),
 o 76 (.build [(i 0),(i 0),(i 0),(i 0),(i 0),(i 0),sn,sn] [(0,1,(k 1)),(1,1,(t 73)),(2,5,(t 75))]),
 ca 77 F.zc5 [(t 69),(t 71),(t 76)],
 o 78 (.ibin .neq (t 77) (k 0))] [])
 (.cond (t 78)
  (.draw (.take (mv 79 (t 0)) (.take (o 80 (.nilck (t 79))) (.take (fa 81 14 (t 80)) (.take (l1 82 (t 81)) (.take (fa 83 2 (t 12)) (.take (fa 84 0 (t 83)) (.take (la 85 4 (t 84)) (.alt (ca 86 F.zyL [(t 82),(t 85)]) false
  (.done)
  (.none))))))))) [])
  (.skip)))))
 (.ops [ad 87 (t 65) (k 1),
 mv 65 (t 87)] [])))))))))))
def zfj:List zd:=[]
theorem ztS {args:List Value} {M:Mem} {R:Value→Mem→Prop} (hn:args.length≤88) (h:zj Tryz.prog zfi zfj args M R):CallsM Tryz.prog F.zjS args M R:=
 zf (kf:=fun _=>[]) Tryz.func122 (by kernel_rfl) (by kernel_rfl) hn (by kernel_rfl) h
def zh8:RCode:=
 .seq (.ops [mv 2 (.const sn)] [])
 (.seq (.seq (.ops [mv 4 (t 0),
 o 5 (.pnil .eql (t 4) (.const (.pointer none)))] [])
 (.cond (t 5)
 (.seq (.ops [mv 2 (.const sn)] [])
 (.ret))
 (.skip)))
 (.seq (.ops [mv 6 (t 0),
 o 7 (.nilck (t 6)),
 fa 8 13 (t 7),
 l1 9 (t 8),
 mv 3 (t 9)] [])
 (.seq (.ops [mv 10 (t 0),
 o 11 (.nilck (t 10)),
 fa 12 13 (t 11),
 st 1 (t 12) (.const sn)] [])
 (.seq (.ops [mv 13 (t 3),
 mv 2 (t 13)] [])
 (.ret)))))
def zh9:List zd:=[.tmp 2]
theorem zxu {args:List Value} {M:Mem} {R:Value→Mem→Prop} (hn:args.length≤14) (h:zj Tryz.prog zh8 zh9 args M R):CallsM Tryz.prog F.zl6 args M R:=
 zf (kf:=fun _=>[]) Tryz.func123 (by kernel_rfl) (by kernel_rfl) hn (by kernel_rfl) h
def zkK:RCode:=
 .seq (.ops [o 1 (.box 129 (t 0)),
 mv 2 (.const sn),
 mv 3 (k 0)] [])
 (.seq (.seq (.ops [la 7 7 (t 1),
 ca 8 F.zeb [(t 7)],
 mv 4 (t 8)] [])
 (.seq (.ops [mv 9 (t 4),
 o 10 (.ibin .neq (t 9) (k 0))] [])
 (.cond (t 10)
 (.seq (.ops [mv 11 (t 4),
 mv 2 (.const sn),
 mv 3 (t 11)] [])
 (.ret))
 (.skip))))
 (.seq (.ops [o 12 (.mkSl false 5 1 [(u 0)] [(0,1,(.const (u 3)))]),
 mv 5 (t 12)] [])
 (.seq (.draw (.take (fa 13 2 (t 1)) (.take (l1 14 (t 13)) (.take (o 15 (.conv .u8 (t 14))) (.take (o 16 (.ibin .shl (t 15) (.const (.int .u64 1)))) (.take (fa 17 3 (t 1)) (.take (l1 18 (t 17)) (.alt (ca 19 F.zd4 [(t 18)]) true
 (.take (o 20 (.ibin .or (t 16) (t 19))) (.take (mv 6 (t 20)) (.done)))
 (.none)))))))) [])
 (.seq (.seq (.ops [fa 21 0 (t 1),
 l1 22 (t 21)] [])
 (.block 0 (.seq (.ops [o 32 (.ibin .eql (t 22) (k 1)),
 mv 31 (t 32)] [])
 (.cond (t 31)
 (.ops [mv 33 (t 5),
 fa 34 1 (t 1),
 l1 35 (t 34),
 o 36 (.conv .u8 (t 35)),
 o 37 (.ibin .shl (t 36) (.const (.int .u64 1))),
 mv 38 (t 6),
 o 39 (.mkSl true 5 2 [(u 0),(u 0)] [(0,1,(t 37)),(1,1,(t 38))]),
 o 40 (.app 5 1 1 [(u 0)] (t 33) (t 39)),
 mv 5 (t 40)] [])
 (.seq (.seq (.ops [o 42 (.ibin .eql (t 22) (k 2)),
 mv 41 (t 42)] [])
 (.cond (t 41)
  (.skip)
  (.ops [o 43 (.ibin .eql (t 22) (k 3)),
  mv 41 (t 43)] [])))
 (.cond (t 41)
  (.ops [mv 44 (t 5),
  fa 45 0 (t 1),
  l1 46 (t 45),
  o 47 (.ibin .sub (t 46) (k 2)),
  o 48 (.conv .u8 (t 47)),
  o 49 (.ibin .shl (t 48) (.const (.int .u64 2))),
  o 50 (.ibin .or (.const (u 1)) (t 49)),
  mv 51 (t 6),
  o 52 (.mkSl true 5 2 [(u 0),(u 0)] [(0,1,(t 50)),(1,1,(t 51))]),
  o 53 (.app 5 1 1 [(u 0)] (t 44) (t 52)),
  mv 5 (t 53)] [])
  (.seq (.ops [o 55 (.ibin .eql (t 22) (k 4)),
  mv 54 (t 55)] [])
  (.cond (t 54)
  (.ops [mv 56 (t 5),
  mv 57 (t 6),
  o 58 (.mkSl true 5 2 [(u 0),(u 0)] [(0,1,(.const (u 13))),(1,1,(t 57))]),
  o 59 (.app 5 1 1 [(u 0)] (t 56) (t 58)),
  mv 5 (t 59)] [])
  (.seq (.ops [o 61 (.ibin .eql (t 22) (k 5)),
  mv 60 (t 61)] [])
  (.cond (t 60)
   (.ops [mv 62 (t 5),
   fa 63 3 (t 1),
   l1 64 (t 63),
   ca 65 F.zd4 [(t 64)],
   o 66 (.ibin .mul (.const (u 16)) (t 65)),
   o 67 (.ibin .or (.const (u 111)) (t 66)),
   o 68 (.mkSl true 5 1 [(u 0)] [(0,1,(t 67))]),
   o 69 (.app 5 1 1 [(u 0)] (t 62) (t 68)),
   mv 5 (t 69)] [])
   (.seq (.ops [o 71 (.ibin .eql (t 22) (k 6)),
   mv 70 (t 71)] [])
   (.cond (t 70)
   (.ops [mv 72 (t 5),
   fa 73 3 (t 1),
   l1 74 (t 73),
   ca 75 F.zd4 [(t 74)],
   o 76 (.ibin .mul (.const (u 16)) (t 75)),
   o 77 (.ibin .or (.const (u 99)) (t 76)),
   o 78 (.mkSl true 5 1 [(u 0)] [(0,1,(t 77))]),
   o 79 (.app 5 1 1 [(u 0)] (t 72) (t 78)),
   mv 5 (t 79)] [])
   (.ops [mv 23 (t 5),
   fa 24 3 (t 1),
   l1 25 (t 24),
   ca 26 F.zd4 [(t 25)],
   o 27 (.ibin .mul (.const (u 16)) (t 26)),
   o 28 (.ibin .or (.const (u 15)) (t 27)),
   o 29 (.mkSl true 5 1 [(u 0)] [(0,1,(t 28))]),
   o 30 (.app 5 1 1 [(u 0)] (t 23) (t 29)),
   mv 5 (t 30)] [])))))))))))))
 (.seq (.ops [mv 81 (t 5),
 fa 82 4 (t 1),
 l1 83 (t 82),
 o 84 (.conv .u64 (t 83)),
 ca 85 F.zbk [(t 81),(t 84),(k 2)],
 mv 80 (t 85),
 ex 86 (t 80) 0,
 ex 87 (t 80) 1,
 mv 5 (t 86)] [])
 (.seq (.ops [mv 89 (t 5),
 fa 90 5 (t 1),
 l1 91 (t 90),
 o 92 (.conv .u64 (t 91)),
 ca 93 F.zbk [(t 89),(t 92),(k 2)],
 mv 88 (t 93),
 ex 94 (t 88) 0,
 ex 95 (t 88) 1,
 mv 5 (t 94)] [])
 (.seq (.ops [mv 96 (t 5),
 fa 97 6 (t 1),
 l1 98 (t 97),
 o 99 (.app 5 1 1 [(u 0)] (t 96) (t 98)),
 mv 2 (t 99),
 mv 3 (k 0)] [])
 (.ret))))))))
def zkL:List zd:=[.tmp 2,.tmp 3]
theorem zAg {args:List Value} {M:Mem} {R:Value→Mem→Prop} (hn:args.length≤100) (h:zj Tryz.prog zkK zkL args M R):CallsM Tryz.prog F.znO args M R:=
 zf (kf:=fun _=>[]) Tryz.func124 (by kernel_rfl) (by kernel_rfl) hn (by kernel_rfl) h
def zkM:RCode:=
 .seq (.ops [mv 2 (.const sn),
 mv 3 (k 0)] [])
 (.seq (.seq (.ops [mv 5 (t 0),
 o 6 (.len (t 5)),
 o 7 (.ibin .eql (t 6) (k 0))] [])
 (.cond (t 7)
 (.seq (.ops [mv 2 (.const sn),
 mv 3 (k 2)] [])
 (.ret))
 (.skip)))
 (.seq (.seq (.ops [mv 8 (t 0),
 o 9 (.len (t 8)),
 o 10 (.ibin .gtr (t 9) (k 128))] [])
 (.cond (t 10)
 (.seq (.ops [mv 2 (.const sn),
 mv 3 (k 3)] [])
 (.ret))
 (.skip)))
 (.seq (.ops [o 11 (.mkSl false 5 1 [(u 0)] [(0,1,(.const (u 126)))]),
 mv 12 (t 0),
 ca 13 F.ztC [(t 12)],
 ca 14 F.znR [(t 13)],
 o 15 (.app 5 1 1 [(u 0)] (t 11) (t 14)),
 mv 4 (t 15)] [])
 (.seq (.ops [mv 16 (t 4),
 o 17 (.mkSl true 5 1 [(u 0)] [(0,1,(.const (u 126)))]),
 o 18 (.app 5 1 1 [(u 0)] (t 16) (t 17)),
 mv 2 (t 18),
 mv 3 (k 0)] [])
 (.ret)))))
def zkN:List zd:=[.tmp 2,.tmp 3]
theorem zAh {args:List Value} {M:Mem} {R:Value→Mem→Prop} (hn:args.length≤19) (h:zj Tryz.prog zkM zkN args M R):CallsM Tryz.prog F.znP args M R:=
 zf (kf:=fun _=>[]) Tryz.func125 (by kernel_rfl) (by kernel_rfl) hn (by kernel_rfl) h
def zcM:RCode:=
 .seq (.ops [mv 2 (.const sn)] [])
 (.seq (.seq (.ops [mv 5 (t 0),
 o 6 (.pnil .eql (t 5) (.const (.pointer none)))] [])
 (.cond (t 6)
 (.seq (.ops [mv 2 (.const sn)] [])
 (.ret))
 (.skip)))
 (.seq (.ops [mv 3 (.const sn)] [])
 (.seq (.seq (.ops [mv 7 (t 0),
 o 8 (.nilck (t 7)),
 fa 9 4 (t 8),
 l1 10 (t 9),
 o 11 (.mrange (t 10))] [])
 (.block 0 (.loop (.seq (.ops [o 12 (.mnext (t 11)),
 ex 13 (t 12) 0] [])
 (.seq (.cond (t 13)
  (.skip)
  (.exit 0))
 (.block 1 (.seq (.ops [o 14 (.mentry (t 11)),
 ex 15 (t 14) 0,
 mv 4 (t 15)] [])
 (.ops [mv 16 (t 3),
 mv 17 (t 4),
 o 18 (.mkSl true 3 1 [(i 0)] [(0,1,(t 17))]),
 o 19 (.app 3 1 8 [(i 0)] (t 16) (t 18)),
 mv 3 (t 19)] []))))))))
 (.seq (.ops [mv 20 (t 3),
 ca 21 F.zci [(t 20)]] [])
 (.seq (.ops [mv 22 (t 3),
 mv 2 (t 22)] [])
 (.ret))))))
def zcN:List zd:=[.tmp 2]
theorem zq8 {args:List Value} {M:Mem} {R:Value→Mem→Prop} (hn:args.length≤23) (h:zj Tryz.prog zcM zcN args M R):CallsM Tryz.prog F.zgb args M R:=
 zf (kf:=fun _=>[]) Tryz.func126 (by kernel_rfl) (by kernel_rfl) hn (by kernel_rfl) h
def zcs:RCode:=
 .seq (.ops [mv 3 (t 0),
 o 4 (.len (t 3)),
 mv 2 (t 4)] [])
 (.ops [mv 5 (t 0),
 mv 6 (t 2),
 mv 7 (t 2),
 o 8 (.conv .u64 (t 7)),
 ca 9 F.zaW [(t 8)],
 ca 10 F.zak [(t 5),(k 0),(t 6),(t 9)]] [])
def zct:List zd:=[]
theorem zqB {args:List Value} {M:Mem} {R:Value→Mem→Prop} (hn:args.length≤11) (h:zj Tryz.prog zcs zct args M R):CallsM Tryz.prog F.zci args M R:=
 zf (kf:=fun _=>[]) Tryz.func127 (by kernel_rfl) (by kernel_rfl) hn (by kernel_rfl) h
def zq9:RCode:=
 .seq (.ops [mv 2 (.const sn)] [])
 (.seq (.seq (.ops [mv 5 (t 0),
 o 6 (.pnil .eql (t 5) (.const (.pointer none)))] [])
 (.cond (t 6)
 (.seq (.ops [mv 2 (.const sn)] [])
 (.ret))
 (.skip)))
 (.seq (.ops [o 3 (.alloc 87 [sn])] [])
 (.seq (.seq (.draw (.take (mv 7 (t 0)) (.take (o 8 (.nilck (t 7))) (.take (fa 9 1 (t 8)) (.take (l1 10 (t 9)) (.take (mv 11 (t 0)) (.take (o 12 (.nilck (t 11))) (.take (fa 13 3 (t 12)) (.take (l1 14 (t 13)) (.alt (ca 15 F.zcC [(t 10),(t 14)]) false
 (.done)
 (.none)))))))))) [])
 (.block 0 (.rfun ((t 15)) [16] (.ops [mv 4 (t 16)] [])
 (.block 1 (.ops [l1 17 (t 3),
 mv 18 (t 4),
 o 19 (.mkSl true 3 1 [(i 0)] [(0,1,(t 18))]),
 o 20 (.app 3 1 8 [(i 0)] (t 17) (t 19)),
 st 1 (t 3) (t 20)] [])))))
 (.seq (.ops [l1 21 (t 3),
 mv 2 (t 21)] [])
 (.ret)))))
def zra:List zd:=[.tmp 2]
def zfk:RCode:=
 .seq (.ops [mv 4 (t 0),
 mv 5 (t 1),
 o 6 (.build [(i 0),(i 0),(i 0),(.bool false),(i 0),(i 0),sn] [(0,1,(k 5)),(3,1,(t 5))]),
 ca 7 F.zam [(t 4),(t 6)]] [])
 (.ops [mv 8 (t 0),
 mv 9 (t 0),
 o 10 (.nilck (t 9)),
 fa 11 4 (t 10),
 l1 12 (t 11),
 o 13 (.nilck (t 8)),
 fa 14 6 (t 13),
 st 1 (t 14) (t 12)] [])
def zfl:List zd:=[]
theorem ztT {args:List Value} {M:Mem} {R:Value→Mem→Prop} (hn:args.length≤15) (h:zj Tryz.prog zfk zfl args M R):CallsM Tryz.prog F.zcE args M R:=
 zf (kf:=fun _=>[]) Tryz.func129 (by kernel_rfl) (by kernel_rfl) hn (by kernel_rfl) h
def zxv:RCode:=
 .seq (.ops [mv 2 (t 0),
 mv 3 (t 0),
 o 4 (.nilck (t 3)),
 fa 5 0 (t 4),
 l1 6 (t 5),
 ad 7 (t 6) (k 1),
 o 8 (.ibin .rem (t 7) (k 65536)),
 o 9 (.nilck (t 2)),
 fa 10 0 (t 9),
 st 1 (t 10) (t 8)] [])
 (.seq (.ops [mv 11 (t 0),
 mv 12 (t 0),
 o 13 (.nilck (t 11)),
 fa 14 2 (t 13),
 st 1 (t 14) (kb false),
 o 15 (.nilck (t 12)),
 fa 16 1 (t 15),
 st 1 (t 16) (k (-1))] [])
 (.seq (.ops [mv 17 (t 0),
 ca 18 F.zcF [(t 17)]] [])
 (.ops [mv 19 (t 0),
 ca 20 F.zcE [(t 19),(kb false)]] [])))
def zxw:List zd:=[]
def zrb:RCode:=
 .seq (.ops [mv 4 (.const sn),
 mv 5 (k 0)] [])
 (.seq (.seq (.ops [mv 6 (t 0),
 o 7 (.pnil .eql (t 6) (.const (.pointer none)))] [])
 (.cond (t 7)
 (.seq (.ops [mv 4 (.const sn),
 mv 5 (k 7)] [])
 (.ret))
 (.skip)))
 (.seq (.seq (.ops [mv 8 (t 1),
 o 9 (.ibin .lss (t 8) (k 0)),
 os 10 (.mov (t 9)),
 gf 10 11 (.mov (t 1)),
 gf 10 12 (.ibin .geq (t 11) (k 128)),
 o 13 (.pick (t 10) (kb true) (t 12))] [])
 (.cond (t 13)
 (.seq (.ops [mv 4 (.const sn),
 mv 5 (k 1)] [])
 (.ret))
 (.skip)))
 (.seq (.seq (.draw (.take (mv 14 (t 0)) (.take (o 15 (.nilck (t 14))) (.take (fa 16 1 (t 15)) (.take (l1 17 (t 16)) (.take (mv 18 (t 0)) (.take (o 19 (.nilck (t 18))) (.take (fa 20 3 (t 19)) (.take (l1 21 (t 20)) (.take (mv 22 (t 1)) (.alt (ca 23 F.znd [(t 17),(t 21),(t 22)]) false
 (.take (o 24 (.not (t 23))) (.done))
 (.none))))))))))) [])
 (.cond (t 24)
 (.seq (.ops [mv 4 (.const sn),
 mv 5 (k 4)] [])
 (.ret))
 (.skip)))
 (.seq (.draw (.take (mv 26 (t 0)) (.take (o 27 (.nilck (t 26))) (.take (fa 28 2 (t 27)) (.take (l1 29 (t 28)) (.take (mv 30 (t 0)) (.take (o 31 (.nilck (t 30))) (.take (fa 32 1 (t 31)) (.take (l1 33 (t 32)) (.take (mv 34 (t 1)) (.alt (o 25 (.mkSl false 5 0 [] [])) false
 (.alt (ca 35 F.zdb [(t 33),(t 34)]) true
  (.take (o 36 (.iaddr 1 (t 29) (t 35))) (.take (l1 37 (t 36)) (.alt (o 38 (.app 5 1 1 [(u 0)] (t 25) (t 37))) false
  (.take (mv 4 (t 38)) (.take (mv 5 (k 0)) (.done)))
  (.none))))
  (.none))
 (.alt (ca 35 F.zdb [(t 33),(t 34)]) true
  (.take (o 36 (.iaddr 1 (t 29) (t 35))) (.take (l1 37 (t 36)) (.alt (o 25 (.mkSl false 5 0 [] [])) false
  (.alt (o 38 (.app 5 1 1 [(u 0)] (t 25) (t 37))) false
   (.take (mv 4 (t 38)) (.take (mv 5 (k 0)) (.done)))
   (.none))
  (.none))))
  (.none)))))))))))) [])
 (.ret)))))
def zrc:List zd:=[.tmp 4,.tmp 5]
def zg4:RCode:=
 .draw (.take (mv 8 (t 0)) (.take (mv 9 (t 1)) (.take (mv 10 (t 0)) (.take (o 11 (.nilck (t 10))) (.take (fa 12 12 (t 11)) (.take (l1 13 (t 12)) (.take (mv 15 (t 3)) (.take (mv 16 (t 0)) (.take (o 17 (.nilck (t 16))) (.take (fa 18 1 (t 17)) (.take (l1 19 (t 18)) (.take (mv 20 (t 2)) (.alt (ca 14 F.za7 [(t 13)]) true
 (.take (o 21 (.build [(i 0),(i 0),(i 0),(.bool false),(i 0),(i 0),sn] [(0,1,(k 1)),(1,1,(t 9)),(2,1,(t 14)),(3,1,(t 15)),(5,1,(t 19)),(6,1,(t 20))])) (.alt (ca 22 F.zam [(t 8),(t 21)]) false
  (.done)
  (.none)))
 (.none)))))))))))))) []
def zg5:List zd:=[]
theorem zvR {args:List Value} {M:Mem} {R:Value→Mem→Prop} (hn:args.length≤23) (h:zj Tryz.prog zg4 zg5 args M R):CallsM Tryz.prog F.zc8 args M R:=
 zf (kf:=fun _=>[]) Tryz.func132 (by kernel_rfl) (by kernel_rfl) hn (by kernel_rfl) h
def zsR:RCode:=
 .seq (.ops [mv 2 (k 0)] [])
 (.seq (.seq (.ops [mv 3 (t 0),
 o 4 (.pnil .eql (t 3) (.const (.pointer none)))] [])
 (.cond (t 4)
 (.seq (.ops [mv 2 (k 0)] [])
 (.ret))
 (.skip)))
 (.seq (.ops [mv 5 (t 0),
 o 6 (.nilck (t 5)),
 fa 7 2 (t 6),
 l1 8 (t 7),
 o 9 (.len (t 8)),
 mv 2 (t 9)] [])
 (.ret)))
def zsS:List zd:=[.tmp 2]
def zcu:RCode:=
 .seq (.ops [mv 2 (k 0)] [])
 (.seq (.seq (.ops [mv 3 (t 0),
 o 4 (.pnil .eql (t 3) (.const (.pointer none)))] [])
 (.cond (t 4)
 (.seq (.ops [mv 2 (k 0)] [])
 (.ret))
 (.skip)))
 (.seq (.ops [mv 5 (t 0),
 o 6 (.nilck (t 5)),
 fa 7 1 (t 6),
 l1 8 (t 7),
 mv 2 (t 8)] [])
 (.ret)))
def zcv:List zd:=[.tmp 2]
theorem zqC {args:List Value} {M:Mem} {R:Value→Mem→Prop} (hn:args.length≤9) (h:zj Tryz.prog zcu zcv args M R):CallsM Tryz.prog F.za7 args M R:=
 zf (kf:=fun _=>[]) Tryz.func134 (by kernel_rfl) (by kernel_rfl) hn (by kernel_rfl) h
def zp5:RCode:=
 .seq (.ops [o 1 (.box 142 (t 0)),
 mv 2 (.const sn),
 mv 3 (k 0)] [])
 (.seq (.seq (.ops [la 10 8 (t 1),
 ca 11 F.znc [(t 10)],
 mv 4 (t 11)] [])
 (.seq (.ops [mv 12 (t 4),
 o 13 (.ibin .neq (t 12) (k 0))] [])
 (.cond (t 13)
 (.seq (.ops [mv 14 (t 4),
 mv 2 (.const sn),
 mv 3 (t 14)] [])
 (.ret))
 (.skip))))
 (.seq (.ops [fa 15 0 (t 1),
 l1 16 (t 15),
 o 17 (.conv .u8 (t 16)),
 o 18 (.mkSl false 5 1 [(u 0)] [(0,1,(t 17))]),
 mv 5 (t 18)] [])
 (.seq (.seq (.ops [fa 19 0 (t 1),
 l1 20 (t 19),
 o 21 (.ibin .eql (t 20) (k 4))] [])
 (.cond (t 21)
 (.seq (.seq (.ops [fa 22 7 (t 1),
 l1 23 (t 22),
 o 24 (.len (t 23)),
 mv 25 (k 0)] [])
 (.block 0 (.loop (.seq (.ops [o 26 (.ibin .lss (t 25) (t 24))] [])
  (.seq (.cond (t 26)
  (.skip)
  (.exit 0))
  (.seq (.block 1 (.seq (.ops [o 27 (.iaddr 1 (t 23) (t 25)),
  l1 28 (t 27),
  mv 7 (t 28)] [])
  (.ops [mv 29 (t 5),
  mv 30 (t 7),
  o 31 (.conv .u8 (t 30)),
  o 32 (.mkSl true 5 1 [(u 0)] [(0,1,(t 31))]),
  o 33 (.app 5 1 1 [(u 0)] (t 29) (t 32)),
  mv 5 (t 33)] [])))
  (.ops [ad 34 (t 25) (k 1),
  mv 25 (t 34)] [])))))))
 (.seq (.ops [mv 35 (t 5),
 mv 2 (t 35),
 mv 3 (k 0)] [])
 (.ret)))
 (.skip)))
 (.seq (.ops [mv 37 (t 5),
 fa 38 1 (t 1),
 l1 39 (t 38),
 o 40 (.conv .u64 (t 39)),
 ca 41 F.zbk [(t 37),(t 40),(k 2)],
 mv 36 (t 41),
 ex 42 (t 36) 0,
 ex 43 (t 36) 1,
 mv 5 (t 42)] [])
 (.seq (.ops [fa 45 2 (t 1),
 fa 46 0 (t 45),
 la 47 4 (t 46),
 ca 48 F.zkn [(t 47)],
 mv 44 (t 48),
 ex 49 (t 44) 0,
 ex 50 (t 44) 1,
 mv 8 (t 49),
 mv 9 (t 50)] [])
 (.seq (.draw (.take (mv 51 (t 5)) (.take (mv 52 (t 8)) (.take (fa 54 2 (t 1)) (.take (fa 55 4 (t 54)) (.take (l1 56 (t 55)) (.alt (o 53 (.app 5 1 1 [(u 0)] (t 51) (t 52))) true
 (.alt (o 57 (.app 5 1 1 [(u 0)] (t 53) (t 56))) false
  (.take (mv 2 (t 57)) (.take (mv 3 (k 0)) (.done)))
  (.none))
 (.none))))))) [])
 (.ret)))))))
def zp6:List zd:=[.tmp 2,.tmp 3]
theorem zEQ {args:List Value} {M:Mem} {R:Value→Mem→Prop} (hn:args.length≤58) (h:zj Tryz.prog zp5 zp6 args M R):CallsM Tryz.prog F.zty args M R:=
 zf (kf:=fun _=>[]) Tryz.func135 (by kernel_rfl) (by kernel_rfl) hn (by kernel_rfl) h
def zg6:RCode:=
 .seq (.ops [mv 4 (k 0)] [])
 (.seq (.seq (.ops [mv 6 (t 0),
 o 7 (.pnil .eql (t 6) (.const (.pointer none))),
 os 8 (.mov (t 7)),
 gf 8 9 (.mov (t 0)),
 gf 8 10 (.nilck (t 9)),
 gf 8 11 (.faddr 2 (t 10)),
 gf 8 12 (.load false 1 (t 11)),
 gf 8 13 (.not (t 12)),
 o 14 (.pick (t 8) (kb true) (t 13))] [])
 (.cond (t 14)
 (.seq (.ops [mv 4 (k 7)] [])
 (.ret))
 (.skip)))
 (.seq (.seq (.ops [mv 15 (t 0),
 o 16 (.nilck (t 15)),
 fa 17 11 (t 16),
 l1 18 (t 17),
 mv 19 (t 1),
 ca 20 F.zgc [(t 18),(t 19)],
 mv 5 (t 20)] [])
 (.seq (.ops [mv 21 (t 5),
 o 22 (.ibin .neq (t 21) (k 0))] [])
 (.cond (t 22)
 (.seq (.ops [mv 23 (t 5),
 mv 4 (t 23)] [])
 (.ret))
 (.skip))))
 (.seq (.ops [mv 24 (t 0),
 ca 25 F.zdc [(t 24)]] [])
 (.seq (.ops [mv 4 (k 0)] [])
 (.ret)))))
def zg7:List zd:=[.tmp 4]
theorem zvS {args:List Value} {M:Mem} {R:Value→Mem→Prop} (hn:args.length≤26) (h:zj Tryz.prog zg6 zg7 args M R):CallsM Tryz.prog F.zla args M R:=
 zf (kf:=fun _=>[]) Tryz.func136 (by kernel_rfl) (by kernel_rfl) hn (by kernel_rfl) h
def zdJ:RCode:=
 .seq (.ops [mv 4 (kb false)] [])
 (.seq (.ops [mv 5 (t 0),
 o 6 (.nilck (t 5)),
 fa 7 2 (t 6),
 l1 8 (t 7),
 mv 9 (t 1),
 ca 10 F.zav [(t 8),(t 9)],
 mv 4 (t 10)] [])
 (.ret))
def zdK:List zd:=[.tmp 4]
theorem zsa {args:List Value} {M:Mem} {R:Value→Mem→Prop} (hn:args.length≤11) (h:zj Tryz.prog zdJ zdK args M R):CallsM Tryz.prog F.zdl args M R:=
 zf (kf:=fun _=>[]) Tryz.func137 (by kernel_rfl) (by kernel_rfl) hn (by kernel_rfl) h
def zdL:RCode:=
 .seq (.ops [mv 4 (k 0),
 mv 5 (kb false)] [])
 (.seq (.seq (.ops [mv 11 (t 0),
 o 12 (.pnil .eql (t 11) (.const (.pointer none))),
 os 13 (.mov (t 12)),
 gf 13 14 (.mov (t 1)),
 gf 13 15 (.call (fn F.zd3) [(t 14)]),
 gf 13 16 (.not (t 15)),
 o 17 (.pick (t 13) (kb true) (t 16)),
 os 18 (.mov (t 17)),
 gf 18 19 (.mov (t 1)),
 gf 18 20 (.mov (t 0)),
 gf 18 21 (.nilck (t 20)),
 gf 18 22 (.faddr 0 (t 21)),
 gf 18 23 (.load false 1 (t 22)),
 gf 18 24 (.ibin .eql (t 19) (t 23)),
 o 25 (.pick (t 18) (kb true) (t 24))] [])
 (.cond (t 25)
 (.seq (.ops [mv 4 (k 0),
 mv 5 (kb false)] [])
 (.ret))
 (.skip)))
 (.seq (.seq (.ops [mv 27 (t 0),
 o 28 (.nilck (t 27)),
 fa 29 3 (t 28),
 l1 30 (t 29),
 mv 31 (t 1),
 o 32 (.mget .int true (i 0) (t 30) (t 31)),
 mv 26 (t 32),
 ex 33 (t 26) 0,
 ex 34 (t 26) 1,
 mv 6 (t 33),
 mv 7 (t 34)] [])
 (.seq (.ops [mv 35 (t 7)] [])
 (.cond (t 35)
 (.seq (.ops [mv 36 (t 6),
 mv 4 (t 36),
 mv 5 (kb true)] [])
 (.ret))
 (.skip))))
 (.seq (.ops [mv 37 (t 0),
 mv 38 (t 1),
 ca 39 F.zbK [(t 37),(t 38)],
 mv 8 (t 39)] [])
 (.seq (.seq (.ops [mv 40 (t 0),
 o 41 (.nilck (t 40)),
 fa 42 2 (t 41),
 l1 43 (t 42),
 o 44 (.len (t 43)),
 mv 45 (k 0)] [])
 (.block 0 (.loop (.seq (.ops [o 46 (.ibin .lss (t 45) (t 44))] [])
 (.seq (.cond (t 46)
  (.skip)
  (.exit 0))
 (.seq (.block 1 (.seq (.ops [o 47 (.iaddr 1 (t 43) (t 45)),
 l1 48 (t 47),
 mv 10 (t 48)] [])
 (.seq (.ops [mv 49 (t 8),
 o 50 (.ibin .lss (t 49) (k 16)),
 os 51 (.mov (t 50)),
 gt 51 52 (.mov (t 0)),
 gt 51 53 (.mov (t 1)),
 gt 51 54 (.mov (t 10)),
 gt 51 55 (.call (fn F.zbM) [(t 52),(t 53),(t 54)]),
 gt 51 56 (.mov (t 8)),
 gt 51 57 (.ibin .eql (t 55) (t 56)),
 o 58 (.pick (t 51) (t 57) (kb false))] [])
 (.cond (t 58)
  (.seq (.ops [mv 59 (t 10),
  mv 4 (t 59),
  mv 5 (kb true)] [])
  (.ret))
  (.skip)))))
 (.ops [ad 60 (t 45) (k 1),
 mv 45 (t 60)] [])))))))
 (.seq (.ops [mv 4 (k 0),
 mv 5 (kb false)] [])
 (.ret))))))
def zdM:List zd:=[.tmp 4,.tmp 5]
theorem zsb {args:List Value} {M:Mem} {R:Value→Mem→Prop} (hn:args.length≤61) (h:zj Tryz.prog zdL zdM args M R):CallsM Tryz.prog F.zdm args M R:=
 zf (kf:=fun _=>[]) Tryz.func138 (by kernel_rfl) (by kernel_rfl) hn (by kernel_rfl) h
def zbp:RCode:=
 .seq (.ops [o 6 (.alloc 54 [(i 0),(i 0),(i 0),(i 0)]),
 mv 7 (k 0)] [])
 (.seq (.seq (.ops [mv 11 (t 0),
 ca 12 F.zaO [(t 11)],
 mv 8 (t 12)] [])
 (.seq (.ops [mv 13 (t 8),
 o 14 (.ibin .neq (t 13) (k 0))] [])
 (.cond (t 14)
 (.seq (.ops [o 15 (.build [(i 0),(i 0),(i 0),(i 0)] []),
 mv 16 (t 8),
 st 4 (t 6) (t 15),
 mv 7 (t 16)] [])
 (.ret))
 (.skip))))
 (.seq (.ops [mv 18 (t 0),
 o 19 (.nilck (t 18)),
 fa 20 0 (t 19),
 fa 21 0 (t 20),
 l1 22 (t 21),
 mv 23 (t 1),
 ca 24 F.zhP [(t 22),(t 23)],
 mv 17 (t 24),
 ex 25 (t 17) 0,
 ex 26 (t 17) 1,
 o 9 (.alloc 54 [(i 0),(i 0),(i 0),(i 0)]),
 st 4 (t 9) (t 25),
 mv 10 (t 26)] [])
 (.seq (.seq (.ops [mv 27 (t 10),
 o 28 (.ibin .eql (t 27) (k 0)),
 os 29 (.mov (t 28)),
 gt 29 30 (.mov (t 0)),
 gt 29 31 (.nilck (t 30)),
 gt 29 32 (.faddr 5 (t 31)),
 gt 29 33 (.load false 1 (t 32)),
 o 34 (.pick (t 29) (t 33) (kb false))] [])
 (.cond (t 34)
 (.ops [mv 10 (k 10)] [])
 (.skip)))
 (.seq (.seq (.ops [mv 35 (t 10),
 o 36 (.ibin .eql (t 35) (k 0))] [])
 (.cond (t 36)
 (.ops [mv 37 (t 0),
 la 38 4 (t 9),
 mv 39 (t 2),
 o 40 (.build [(i 0),(i 0),(i 0),(i 0),sn] [(0,4,(t 38)),(4,1,(t 39))]),
 o 41 (.build [(i 0),(i 0),(i 0),(i 0),(i 0),sn] [(0,1,(k 2)),(1,5,(t 40))]),
 ca 42 F.zab [(t 37),(t 41),(kb true)],
 mv 10 (t 42)] [])
 (.skip)))
 (.seq (.seq (.ops [mv 43 (t 10),
 o 44 (.ibin .neq (t 43) (k 0))] [])
 (.cond (t 44)
 (.seq (.ops [o 45 (.build [(i 0),(i 0),(i 0),(i 0)] []),
 mv 46 (t 10),
 st 4 (t 6) (t 45),
 mv 7 (t 46)] [])
 (.ret))
 (.skip)))
 (.seq (.ops [la 47 4 (t 9),
 st 4 (t 6) (t 47),
 mv 7 (k 0)] [])
 (.ret)))))))
def zbq:List zd:=[.cell true 4 6,.tmp 7]
theorem zoy {args:List Value} {M:Mem} {R:Value→Mem→Prop} (hn:args.length≤48) (h:zj Tryz.prog zbp zbq args M R):CallsM Tryz.prog F.zc9 args M R:=
 zf (kf:=fun _=>[]) Tryz.func139 (by kernel_rfl) (by kernel_rfl) hn (by kernel_rfl) h
def zoz:RCode:=
 .seq (.ops [mv 2 (k 0)] [])
 (.seq (.seq (.ops [mv 7 (t 0),
 ca 8 F.zaO [(t 7)],
 mv 3 (t 8)] [])
 (.seq (.ops [mv 9 (t 3),
 o 10 (.ibin .neq (t 9) (k 0))] [])
 (.cond (t 10)
 (.seq (.ops [mv 11 (t 3),
 mv 2 (t 11)] [])
 (.ret))
 (.skip))))
 (.seq (.ops [mv 13 (t 0),
 o 14 (.nilck (t 13)),
 fa 15 2 (t 14),
 l1 16 (t 15),
 ca 17 F.zpX [(t 16)],
 mv 12 (t 17),
 ex 18 (t 12) 0,
 ex 19 (t 12) 1,
 mv 4 (t 18),
 mv 5 (t 19)] [])
 (.seq (.seq (.ops [mv 20 (t 5),
 o 21 (.ibin .neq (t 20) (k 0)),
 os 22 (.mov (t 21)),
 gf 22 23 (.mov (t 4)),
 gf 22 24 (.mov (t 0)),
 gf 22 25 (.nilck (t 24)),
 gf 22 26 (.faddr 3 (t 25)),
 gf 22 27 (.load false 1 (t 26)),
 gf 22 28 (.ibin .eql (t 23) (t 27)),
 o 29 (.pick (t 22) (kb true) (t 28))] [])
 (.cond (t 29)
 (.seq (.ops [mv 30 (t 0),
 mv 31 (t 5),
 ca 32 F.z2 [(t 30),(t 31)],
 mv 2 (t 32)] [])
 (.ret))
 (.skip)))
 (.seq (.seq (.ops [mv 33 (t 0),
 mv 34 (t 0),
 ca 35 F.zq3 [(t 34)],
 ca 36 F.z2 [(t 33),(t 35)],
 mv 6 (t 36)] [])
 (.seq (.ops [mv 37 (t 6),
 o 38 (.ibin .neq (t 37) (k 0))] [])
 (.cond (t 38)
 (.seq (.ops [mv 39 (t 6),
 mv 2 (t 39)] [])
 (.ret))
 (.skip))))
 (.seq (.ops [mv 40 (t 0),
 mv 41 (t 0),
 mv 42 (t 4),
 ca 43 F.zqu [(t 41),(t 42)],
 ca 44 F.z2 [(t 40),(t 43)],
 mv 2 (t 44)] [])
 (.ret))))))
def zoA:List zd:=[.tmp 2]
def zmf:RCode:=
 .seq (.ops [mv 2 (kb false)] [])
 (.seq (.seq (.ops [mv 5 (t 0),
 o 6 (.lenS (t 5)),
 mv 7 (k 0)] [])
 (.block 0 (.loop (.seq (.ops [o 8 (.ibin .lss (t 7) (t 6))] [])
 (.seq (.cond (t 8)
  (.skip)
  (.exit 0))
 (.seq (.block 1 (.seq (.ops [mv 9 (t 7),
 mv 3 (t 9)] [])
 (.seq (.ops [mv 10 (t 0),
 mv 11 (t 3),
 o 12 (.sidx (t 10) (t 11)),
 mv 4 (t 12)] [])
 (.seq (.ops [mv 13 (t 4),
 o 14 (.ibin .neq (t 13) (.const (u 46))),
 os 15 (.mov (t 14)),
 gt 15 16 (.mov (t 4)),
 gt 15 17 (.ibin .lss (t 16) (.const (u 48))),
 ⟨(some 18),.mov (t 17),some (15,true),true⟩,
 gf 18 19 (.mov (t 4)),
 gf 18 20 (.ibin .gtr (t 19) (.const (u 57))),
 gt 15 21 (.pick (t 18) (kb true) (t 20)),
 o 22 (.pick (t 15) (t 21) (kb false)),
 os 23 (.mov (t 22)),
 gt 23 24 (.mov (t 4)),
 gt 23 25 (.ibin .lss (t 24) (.const (u 97))),
 ⟨(some 26),.mov (t 25),some (23,true),true⟩,
 gf 26 27 (.mov (t 4)),
 gf 26 28 (.ibin .gtr (t 27) (.const (u 122))),
 gt 23 29 (.pick (t 26) (kb true) (t 28)),
 o 30 (.pick (t 23) (t 29) (kb false))] [])
 (.cond (t 30)
  (.seq (.ops [mv 2 (kb false)] [])
  (.ret))
  (.skip))))))
 (.ops [ad 31 (t 7) (k 1),
 mv 7 (t 31)] [])))))))
 (.seq (.ops [mv 32 (t 0),
 o 33 (.lenS (t 32)),
 o 34 (.ibin .gtr (t 33) (k 0)),
 os 35 (.mov (t 34)),
 gt 35 36 (.mov (t 0)),
 gt 35 37 (.lenS (t 36)),
 gt 35 38 (.ibin .leq (t 37) (k 12)),
 o 39 (.pick (t 35) (t 38) (kb false)),
 mv 2 (t 39)] [])
 (.ret)))
def zmg:List zd:=[.tmp 2]
theorem zBn {args:List Value} {M:Mem} {R:Value→Mem→Prop} (hn:args.length≤40) (h:zj Tryz.prog zmf zmg args M R):CallsM Tryz.prog F.zpg args M R:=
 zf (kf:=fun _=>[]) Tryz.func141 (by kernel_rfl) (by kernel_rfl) hn (by kernel_rfl) h
def zaw:RCode:=
 .seq (.ops [mv 8 (kb true)] [])
 (.seq (.ops [mv 9 (kb true)] [])
 (.block 0 (.loop (.block 1 (.seq (.ops [mv 19 (t 2),
 mv 20 (t 1),
 o 21 (.ibin .sub (t 19) (t 20)),
 mv 10 (t 21)] [])
 (.seq (.seq (.ops [mv 22 (t 10),
 o 23 (.ibin .leq (t 22) (k 12))] [])
 (.cond (t 23)
  (.seq (.ops [mv 24 (t 0),
  mv 25 (t 1),
  mv 26 (t 2),
  ca 27 F.zaK [(t 24),(t 25),(t 26)]] [])
  (.ret))
  (.skip)))
 (.seq (.seq (.ops [mv 28 (t 3),
 o 29 (.ibin .eql (t 28) (k 0))] [])
 (.cond (t 29)
  (.seq (.ops [mv 30 (t 0),
  mv 31 (t 1),
  mv 32 (t 2),
  ca 33 F.zlz [(t 30),(t 31),(t 32)]] [])
  (.ret))
  (.skip)))
 (.seq (.seq (.ops [mv 34 (t 8),
 o 35 (.not (t 34))] [])
 (.cond (t 35)
  (.seq (.ops [mv 36 (t 0),
  mv 37 (t 1),
  mv 38 (t 2),
  ca 39 F.ziK [(t 36),(t 37),(t 38)]] [])
  (.ops [mv 40 (t 3),
  o 41 (.ibin .sub (t 40) (k 1)),
  mv 3 (t 41)] []))
  (.skip)))
 (.seq (.ops [mv 43 (t 0),
 mv 44 (t 1),
 mv 45 (t 2),
 ca 46 F.zjW [(t 43),(t 44),(t 45)],
 mv 42 (t 46),
 ex 47 (t 42) 0,
 ex 48 (t 42) 1,
 mv 11 (t 47),
 mv 12 (t 48)] [])
 (.seq (.seq (.ops [mv 49 (t 12),
 o 50 (.ibin .eql (t 49) (k 2))] [])
 (.cond (t 50)
  (.seq (.ops [mv 51 (t 0),
  mv 52 (t 1),
  mv 53 (t 2),
  ca 54 F.zja [(t 51),(t 52),(t 53)]] [])
  (.seq (.ops [mv 55 (t 2),
  o 56 (.ibin .sub (t 55) (k 1)),
  mv 57 (t 11),
  mv 58 (t 1),
  o 59 (.ibin .sub (t 57) (t 58)),
  o 60 (.ibin .sub (t 56) (t 59)),
  mv 11 (t 60)] [])
  (.ops [mv 12 (k 1)] [])))
  (.skip)))
 (.seq (.seq (.ops [mv 61 (t 8),
 os 62 (.mov (t 61)),
 gt 62 63 (.mov (t 9)),
 o 64 (.pick (t 62) (t 63) (kb false)),
 os 65 (.mov (t 64)),
 gt 65 66 (.mov (t 12)),
 gt 65 67 (.ibin .eql (t 66) (k 1)),
 o 68 (.pick (t 65) (t 67) (kb false))] [])
 (.cond (t 68)
  (.seq (.ops [mv 69 (t 0),
  mv 70 (t 1),
  mv 71 (t 2),
  ca 72 F.zeU [(t 69),(t 70),(t 71)]] [])
  (.cond (t 72)
  (.ret)
  (.skip)))
  (.skip)))
 (.seq (.seq (.draw (.take (mv 73 (t 1)) (.take (o 74 (.ibin .gtr (t 73) (k 0))) (.take (os 75 (.mov (t 74))) (.take (gt 75 76 (.mov (t 0))) (.take (gt 75 77 (.mov (t 1))) (.take (gt 75 78 (.ibin .sub (t 77) (k 1))) (.take (gt 75 79 (.iaddr 1 (t 76) (t 78))) (.take (gt 75 80 (.load false 1 (t 79))) (.take (gt 75 81 (.mov (t 0))) (.take (gt 75 82 (.mov (t 11))) (.take (gt 75 83 (.iaddr 1 (t 81) (t 82))) (.take (gt 75 84 (.load false 1 (t 83))) (.alt (gt 75 85 (.call (fn F.zx) [(t 80),(t 84)])) false
  (.take (gt 75 86 (.not (t 85))) (.take (o 87 (.pick (t 75) (t 86) (kb false))) (.done)))
  (.none)))))))))))))) [])
 (.cond (t 87)
  (.seq (.ops [mv 88 (t 0),
  mv 89 (t 1),
  mv 90 (t 2),
  mv 91 (t 11),
  ca 92 F.zik [(t 88),(t 89),(t 90),(t 91)],
  mv 13 (t 92)] [])
  (.seq (.ops [mv 93 (t 13),
  mv 1 (t 93)] [])
  (.exit 1)))
  (.skip)))
 (.seq (.ops [mv 95 (t 0),
 mv 96 (t 1),
 mv 97 (t 2),
 mv 98 (t 11),
 ca 99 F.zlc [(t 95),(t 96),(t 97),(t 98)],
 mv 94 (t 99),
 ex 100 (t 94) 0,
 ex 101 (t 94) 1,
 mv 14 (t 100),
 mv 15 (t 101)] [])
 (.seq (.ops [mv 102 (t 15),
 mv 9 (t 102)] [])
 (.seq (.ops [mv 103 (t 14),
 mv 104 (t 1),
 o 105 (.ibin .sub (t 103) (t 104)),
 mv 106 (t 2),
 mv 107 (t 14),
 o 108 (.ibin .sub (t 106) (t 107)),
 mv 16 (t 105),
 mv 17 (t 108)] [])
 (.seq (.ops [mv 109 (t 10),
 o 110 (.ibin .quo (t 109) (k 8)),
 mv 18 (t 110)] [])
 (.seq (.ops [mv 111 (t 16),
 mv 112 (t 17),
 o 113 (.ibin .lss (t 111) (t 112))] [])
 (.cond (t 113)
  (.seq (.ops [mv 114 (t 16),
  mv 115 (t 18),
  o 116 (.ibin .geq (t 114) (t 115)),
  mv 8 (t 116)] [])
  (.seq (.ops [mv 117 (t 0),
  mv 118 (t 1),
  mv 119 (t 14),
  mv 120 (t 3),
  ca 121 F.zU [(t 117),(t 118),(t 119),(t 120)]] [])
  (.ops [mv 122 (t 14),
  ad 123 (t 122) (k 1),
  mv 1 (t 123)] [])))
  (.seq (.ops [mv 124 (t 17),
  mv 125 (t 18),
  o 126 (.ibin .geq (t 124) (t 125)),
  mv 8 (t 126)] [])
  (.seq (.ops [mv 127 (t 0),
  mv 128 (t 14),
  ad 129 (t 128) (k 1),
  mv 130 (t 2),
  mv 131 (t 3),
  ca 132 F.zU [(t 127),(t 129),(t 130),(t 131)]] [])
  (.ops [mv 133 (t 14),
  mv 2 (t 133)] [])))))))))))))))))))))
def zax:List zd:=[]
theorem zlC {args:List Value} {M:Mem} {R:Value→Mem→Prop} (hn:args.length≤134) (h:zj Tryz.prog zaw zax args M R):CallsM Tryz.prog F.zU args M R:=
 zf (kf:=fun _=>[]) Tryz.func142 (by kernel_rfl) (by kernel_rfl) hn (by kernel_rfl) h
def zia:RCode:=
 .seq (.ops [mv 2 (k 0)] [])
 (.seq (.cond (kb false)
 (.seq (.ops [mv 3 (t 0),
 o 4 (.conv .u32 (t 3)),
 ca 5 F.zuX [(t 4)],
 mv 2 (t 5)] [])
 (.ret))
 (.skip))
 (.seq (.ops [mv 6 (t 0),
 ca 7 F.zjX [(t 6)],
 mv 2 (t 7)] [])
 (.ret)))
def zib:List zd:=[.tmp 2]
theorem zxx {args:List Value} {M:Mem} {R:Value→Mem→Prop} (hn:args.length≤8) (h:zj Tryz.prog zia zib args M R):CallsM Tryz.prog F.zaW args M R:=
 zf (kf:=fun _=>[]) Tryz.func143 (by kernel_rfl) (by kernel_rfl) hn (by kernel_rfl) h
def zfm:RCode:=
 .seq (.ops [mv 4 (.const (.pointer none)),
 mv 5 (k 0)] [])
 (.seq (.seq (.ops [mv 8 (t 0),
 mv 9 (t 1),
 o 10 (.mkSl false 9 1 [(.string ByteArray.empty)] [(0,1,(t 9))]),
 ca 11 F.zbv [(t 8),(t 10)],
 mv 6 (t 11)] [])
 (.seq (.ops [mv 12 (t 6),
 o 13 (.ibin .neq (t 12) (k 0))] [])
 (.cond (t 13)
 (.seq (.ops [mv 14 (t 6),
 mv 4 (.const (.pointer none)),
 mv 5 (t 14)] [])
 (.ret))
 (.skip))))
 (.seq (.ops [mv 15 (t 0),
 o 16 (.nilck (t 15)),
 fa 17 1 (t 16),
 l1 18 (t 17),
 mv 19 (t 1),
 o 20 (.mget .str false (.pointer none) (t 18) (t 19)),
 mv 7 (t 20)] [])
 (.seq (.seq (.ops [mv 21 (t 7),
 o 22 (.pnil .eql (t 21) (.const (.pointer none)))] [])
 (.cond (t 22)
 (.seq (.ops [mv 4 (.const (.pointer none)),
 mv 5 (k 4)] [])
 (.ret))
 (.skip)))
 (.seq (.ops [mv 23 (t 7),
 mv 4 (t 23),
 mv 5 (k 0)] [])
 (.ret)))))
def zfn:List zd:=[.tmp 4,.tmp 5]
theorem ztU {args:List Value} {M:Mem} {R:Value→Mem→Prop} (hn:args.length≤24) (h:zj Tryz.prog zfm zfn args M R):CallsM Tryz.prog F.zaT args M R:=
 zf (kf:=fun _=>[]) Tryz.func144 (by kernel_rfl) (by kernel_rfl) hn (by kernel_rfl) h
def zdN:RCode:=
 .seq (.ops [mv 2 (k 0)] [])
 (.seq (.seq (.ops [mv 3 (t 0),
 o 4 (.nilck (t 3)),
 fa 5 2 (t 4),
 l1 6 (t 5),
 o 7 (.ibin .gtr (t 6) (k 0))] [])
 (.cond (t 7)
 (.seq (.ops [mv 8 (t 0),
 o 9 (.nilck (t 8)),
 fa 10 2 (t 9),
 l1 11 (t 10),
 o 12 (.ibin .sub (t 11) (k 1)),
 o 13 (.nilck (t 8)),
 fa 14 2 (t 13),
 st 1 (t 14) (t 12)] [])
 (.ops [mv 15 (t 0),
 mv 16 (t 0),
 o 17 (.nilck (t 16)),
 fa 18 2 (t 17),
 l1 19 (t 18),
 o 20 (.ibin .eql (t 19) (k 0)),
 o 21 (.nilck (t 15)),
 fa 22 3 (t 21),
 st 1 (t 22) (t 20)] []))
 (.skip)))
 (.seq (.ops [mv 2 (k 0)] [])
 (.ret)))
def zdO:List zd:=[.tmp 2]
theorem zsc {args:List Value} {M:Mem} {R:Value→Mem→Prop} (hn:args.length≤23) (h:zj Tryz.prog zdN zdO args M R):CallsM Tryz.prog F.zat args M R:=
 zf (kf:=fun _=>[]) Tryz.func145 (by kernel_rfl) (by kernel_rfl) hn (by kernel_rfl) h
def zoB:RCode:=
 .seq (.ops [mv 2 (.const (.string ByteArray.empty))] [])
 (.seq (.seq (.ops [mv 5 (t 0),
 o 6 (.ibin .lss (t 5) (k 1)),
 os 7 (.mov (t 6)),
 gf 7 8 (.mov (t 0)),
 gf 7 9 (.ibin .gtr (t 8) (k 99999)),
 o 10 (.pick (t 7) (kb true) (t 9))] [])
 (.cond (t 10)
 (.seq (.ops [mv 2 (.const (.string ByteArray.empty))] [])
 (.ret))
 (.skip)))
 (.seq (.ops [o 3 (.alloc 301 [(u 0),(u 0),(u 0),(u 0),(u 0)])] [])
 (.seq (.seq (.ops [mv 11 (k 0)] [])
 (.block 0 (.loop (.seq (.ops [o 12 (.ibin .lss (t 11) (k 5))] [])
 (.seq (.cond (t 12)
  (.skip)
  (.exit 0))
 (.seq (.block 1 (.seq (.ops [mv 13 (t 11),
 mv 4 (t 13)] [])
 (.seq (.ops [mv 14 (t 4),
 o 15 (.ibin .sub (k 4) (t 14)),
 mv 16 (t 0),
 o 17 (.ibin .rem (t 16) (k 10)),
 ad 18 (k 48) (t 17),
 o 19 (.conv .u8 (t 18)),
 o 20 (.iaddrA 5 1 (t 3) (t 15)),
 st 1 (t 20) (t 19)] [])
 (.ops [mv 21 (t 0),
 o 22 (.ibin .quo (t 21) (k 10)),
 mv 0 (t 22)] []))))
 (.ops [ad 23 (t 11) (k 1),
 mv 11 (t 23)] [])))))))
 (.seq (.ops [o 24 (.slA 5 (t 3)),
 o 25 (.strOf (t 24)),
 o 26 (.strE .add (.const (.string ⟨#[119]⟩)) (t 25)),
 mv 2 (t 26)] [])
 (.ret)))))
def zoC:List zd:=[.tmp 2]
theorem zDE {args:List Value} {M:Mem} {R:Value→Mem→Prop} (hn:args.length≤27) (h:zj Tryz.prog zoB zoC args M R):CallsM Tryz.prog F.za4 args M R:=
 zf (kf:=fun _=>[]) Tryz.func146 (by kernel_rfl) (by kernel_rfl) hn (by kernel_rfl) h
def zp7:RCode:=
 .seq (.ops [mv 2 (.const (.int .u32 0))] [])
 (.seq (.ops [mv 3 (.const (.int .u32 4294967295))] [])
 (.seq (.seq (.ops [mv 8 (t 0),
 o 9 (.len (t 8)),
 mv 10 (k 0)] [])
 (.block 0 (.loop (.seq (.ops [o 11 (.ibin .lss (t 10) (t 9))] [])
 (.seq (.cond (t 11)
  (.skip)
  (.exit 0))
 (.seq (.block 1 (.seq (.ops [o 12 (.iaddr 1 (t 8) (t 10)),
 l1 13 (t 12),
 mv 5 (t 13)] [])
 (.seq (.ops [mv 14 (t 5),
 o 15 (.len (t 14)),
 mv 16 (k 0)] [])
 (.block 2 (.loop (.seq (.ops [o 17 (.ibin .lss (t 16) (t 15))] [])
  (.seq (.cond (t 17)
  (.skip)
  (.exit 2))
  (.seq (.block 3 (.seq (.ops [o 18 (.iaddr 1 (t 14) (t 16)),
  l1 19 (t 18),
  mv 7 (t 19)] [])
  (.seq (.ops [mv 20 (t 3),
  mv 21 (t 7),
  o 22 (.conv .u32 (t 21)),
  o 23 (.ibin .xor (t 20) (t 22)),
  mv 3 (t 23)] [])
  (.seq (.ops [mv 24 (k 0)] [])
  (.block 4 (.loop (.seq (.ops [o 25 (.ibin .lss (t 24) (k 8))] [])
  (.seq (.cond (t 25)
   (.skip)
   (.exit 4))
  (.seq (.block 5 (.ops [mv 26 (t 3),
  ca 27 F.zof [(t 26),(.const (.int .u32 3988292384))],
  mv 3 (t 27)] []))
  (.ops [ad 28 (t 24) (k 1),
  mv 24 (t 28)] []))))))))))
  (.ops [ad 29 (t 16) (k 1),
  mv 16 (t 29)] [])))))))))
 (.ops [ad 30 (t 10) (k 1),
 mv 10 (t 30)] [])))))))
 (.seq (.ops [mv 31 (t 3),
 o 32 (.ucom (t 31)),
 mv 2 (t 32)] [])
 (.ret))))
def zp8:List zd:=[.tmp 2]
theorem zER {args:List Value} {M:Mem} {R:Value→Mem→Prop} (hn:args.length≤33) (h:zj Tryz.prog zp7 zp8 args M R):CallsM Tryz.prog F.zlr args M R:=
 zf (kf:=fun _=>[]) Tryz.func147 (by kernel_rfl) (by kernel_rfl) hn (by kernel_rfl) h
def zCt:RCode:=
 .seq (.ops [mv 5 (k 0)] [])
 (.seq (.ops [l1 9 (t 1),
 l1 10 (t 2),
 mv 11 (t 0),
 ca 12 F.zbj [(t 9),(t 10),(t 11)],
 mv 8 (t 12),
 ex 13 (t 8) 0,
 ex 14 (t 8) 1,
 mv 6 (t 13),
 mv 7 (t 14)] [])
 (.seq (.ops [l1 15 (t 3),
 os 16 (.mov (t 15)),
 gf 16 17 (.mov (t 7)),
 gf 16 18 (.ibin .neq (t 17) (k 0)),
 o 19 (.pick (t 16) (kb true) (t 18)),
 st 1 (t 3) (t 19)] [])
 (.seq (.ops [l1 20 (t 2),
 mv 21 (t 0),
 ad 22 (t 20) (t 21),
 st 1 (t 2) (t 22)] [])
 (.seq (.ops [mv 23 (t 6),
 o 24 (.conv .i64 (t 23)),
 mv 5 (t 24)] [])
 (.ret)))))
def zCu:List zd:=[.tmp 5]
end Go.Proofs.YtdgikhhkgnjalaaGreat
