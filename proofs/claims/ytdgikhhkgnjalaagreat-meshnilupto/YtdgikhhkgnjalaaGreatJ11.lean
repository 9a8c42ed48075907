/- Part of this proof;laid by program. -/
import Derived.Test.YtdgikhhkgnjalaaGreatJ7
set_option linter.unusedVariables false
set_option linter.unusedSimpArgs false
namespace Go.Proofs.YtdgikhhkgnjalaaGreat
open Go.Vm Go.Vm.S
def zp9:RCode:=
 .seq (.ops [o 2 (.alloc 86 [(i 0),(i 0),(i 0),(i 0),sn]),
 mv 3 (k 0)] [])
 (.seq (.seq (.ops [mv 7 (t 0),
 o 8 (.len (t 7)),
 o 9 (.ibin .lss (t 8) (k 6))] [])
 (.cond (t 9)
 (.seq (.ops [o 10 (.build [(i 0),(i 0),(i 0),(i 0),sn] []),
 st 5 (t 2) (t 10),
 mv 3 (k 2)] [])
 (.ret))
 (.skip)))
 (.seq (.ops [mv 12 (t 0),
 o 13 (.slx 1 (t 12) none (some (k 6))),
 ca 14 F.zkl [(t 13)],
 mv 11 (t 14),
 ex 15 (t 11) 0,
 ex 16 (t 11) 1,
 o 4 (.alloc 54 [(i 0),(i 0),(i 0),(i 0)]),
 st 4 (t 4) (t 15),
 mv 5 (t 16)] [])
 (.seq (.seq (.ops [mv 17 (t 5),
 o 18 (.ibin .neq (t 17) (k 0))] [])
 (.cond (t 18)
 (.seq (.ops [o 19 (.build [(i 0),(i 0),(i 0),(i 0),sn] []),
 mv 20 (t 5),
 st 5 (t 2) (t 19),
 mv 3 (t 20)] [])
 (.ret))
 (.skip)))
 (.seq (.draw (.take (la 21 4 (t 4)) (.take (mv 23 (t 0)) (.take (o 24 (.slx 1 (t 23) (some (k 6)) none)) (.alt (o 22 (.mkSl false 5 0 [] [])) false
 (.alt (o 25 (.app 5 1 1 [(u 0)] (t 22) (t 24))) true
  (.take (o 26 (.build [(i 0),(i 0),(i 0),(i 0),sn] [(0,4,(t 21)),(4,1,(t 25))])) (.alt (o 6 (.alloc 86 [(i 0),(i 0),(i 0),(i 0),sn])) false
  (.alt (st 5 (t 6) (t 26)) false
   (.done)
   (.none))
  (.none)))
  (.alt (o 6 (.alloc 86 [(i 0),(i 0),(i 0),(i 0),sn])) false
  (.alt (o 25 (.app 5 1 1 [(u 0)] (t 22) (t 24))) true
   (.take (o 26 (.build [(i 0),(i 0),(i 0),(i 0),sn] [(0,4,(t 21)),(4,1,(t 25))])) (.alt (st 5 (t 6) (t 26)) false
   (.done)
   (.none)))
   (.none))
  (.none)))
 (.alt (o 6 (.alloc 86 [(i 0),(i 0),(i 0),(i 0),sn])) false
  (.alt (o 22 (.mkSl false 5 0 [] [])) false
  (.alt (o 25 (.app 5 1 1 [(u 0)] (t 22) (t 24))) true
   (.take (o 26 (.build [(i 0),(i 0),(i 0),(i 0),sn] [(0,4,(t 21)),(4,1,(t 25))])) (.alt (st 5 (t 6) (t 26)) false
   (.done)
   (.none)))
   (.none))
  (.none))
  (.none)))))) [])
 (.seq (.seq (.ops [la 27 5 (t 6),
 ca 28 F.zc0 [(t 27)],
 o 29 (.ibin .neq (t 28) (k 0))] [])
 (.cond (t 29)
 (.seq (.ops [o 30 (.build [(i 0),(i 0),(i 0),(i 0),sn] []),
 st 5 (t 2) (t 30),
 mv 3 (k 2)] [])
 (.ret))
 (.skip)))
 (.seq (.ops [la 31 5 (t 6),
 st 5 (t 2) (t 31),
 mv 3 (k 0)] [])
 (.ret)))))))
def zqa:List zd:=[.cell true 5 2,.tmp 3]
theorem zES {args:List Value} {M:Mem} {R:Value→Mem→Prop} (hn:args.length≤32) (h:zj Tryz.prog zp9 zqa args M R):CallsM Tryz.prog F.znx args M R:=
 zf (kf:=fun _=>[]) Tryz.func149 (by kernel_rfl) (by kernel_rfl) hn (by kernel_rfl) h
def zCv:RCode:=
 .seq (.ops [o 1 (.box 37 (t 0)),
 mv 2 (k 0)] [])
 (.seq (.seq (.ops [o 6 (.build [(i 0),(i 0),(i 0)] [(0,1,(k 256)),(1,1,(k 1048576)),(2,1,(k 256))]),
 la 7 5 (t 1),
 ca 8 F.ztw [(t 6),(t 7)],
 mv 5 (t 8),
 ex 9 (t 5) 0,
 ex 10 (t 5) 1,
 mv 3 (t 9),
 mv 4 (t 10)] [])
 (.seq (.ops [mv 11 (t 4),
 o 12 (.ibin .neq (t 11) (k 0))] [])
 (.cond (t 12)
 (.seq (.ops [mv 13 (t 4),
 mv 2 (t 13)] [])
 (.ret))
 (.skip))))
 (.seq (.seq (.ops [fa 14 4 (t 1),
 l1 15 (t 14),
 o 16 (.len (t 15)),
 o 17 (.ibin .gtr (t 16) (k 65535))] [])
 (.cond (t 17)
 (.seq (.ops [mv 2 (k 6)] [])
 (.ret))
 (.skip)))
 (.seq (.ops [mv 2 (k 0)] [])
 (.ret))))
def zCw:List zd:=[.tmp 2]
def zBo:RCode:=
 .seq (.ops [o 1 (.box 37 (t 0)),
 mv 2 (kb false)] [])
 (.seq (.ops [mv 3 (k (-1))] [])
 (.seq (.seq (.ops [fa 6 2 (t 1),
 l1 7 (t 6),
 o 8 (.len (t 7)),
 mv 9 (k 0)] [])
 (.block 0 (.loop (.seq (.ops [o 10 (.ibin .lss (t 9) (t 8))] [])
 (.seq (.cond (t 10)
  (.skip)
  (.exit 0))
 (.seq (.block 1 (.seq (.ops [o 11 (.iaddr 2 (t 7) (t 9)),
 la 12 2 (t 11),
 o 5 (.alloc 59 [(i 0),(i 0)]),
 st 2 (t 5) (t 12)] [])
 (.seq (.seq (.ops [fa 13 0 (t 5),
 l1 14 (t 13),
 mv 15 (t 3),
 o 16 (.ibin .leq (t 14) (t 15)),
 os 17 (.mov (t 16)),
 gf 17 18 (.faddr 0 (t 5)),
 gf 17 19 (.load false 1 (t 18)),
 gf 17 20 (.call (fn F.zcJ) [(t 19),(k 63)]),
 gf 17 21 (.not (t 20)),
 o 22 (.pick (t 17) (kb true) (t 21)),
 os 23 (.mov (t 22)),
 gf 23 24 (.faddr 0 (t 5)),
 gf 23 25 (.load false 1 (t 24)),
 gf 23 26 (.faddr 0 (t 1)),
 gf 23 27 (.load false 1 (t 26)),
 gf 23 28 (.ibin .eql (t 25) (t 27)),
 o 29 (.pick (t 23) (kb true) (t 28)),
 os 30 (.mov (t 29)),
 gf 30 31 (.faddr 1 (t 5)),
 gf 30 32 (.load false 1 (t 31)),
 gf 30 33 (.ibin .lss (t 32) (k 1)),
 o 34 (.pick (t 30) (kb true) (t 33)),
 os 35 (.mov (t 34)),
 gf 35 36 (.faddr 1 (t 5)),
 gf 35 37 (.load false 1 (t 36)),
 gf 35 38 (.ibin .gtr (t 37) (k 65535)),
 o 39 (.pick (t 35) (kb true) (t 38)),
 os 40 (.mov (t 39)),
 gf 40 41 (.faddr 1 (t 1)),
 gf 40 42 (.load false 1 (t 41)),
 gf 40 43 (.ibin .eql (t 42) (k 0)),
 o 44 (.pick (t 40) (kb true) (t 43))] [])
 (.cond (t 44)
  (.seq (.ops [mv 2 (kb false)] [])
  (.ret))
  (.skip)))
 (.ops [fa 45 0 (t 5),
 l1 46 (t 45),
 mv 3 (t 46)] []))))
 (.ops [ad 47 (t 9) (k 1),
 mv 9 (t 47)] [])))))))
 (.seq (.ops [fa 48 1 (t 1),
 l1 49 (t 48),
 ca 50 F.zcJ [(t 49),(k 65535)],
 mv 2 (t 50)] [])
 (.ret))))
def zBp:List zd:=[.tmp 2]
def zDF:RCode:=
 .seq (.ops [mv 4 (.const (.pointer none)),
 mv 5 (k 0)] [])
 (.seq (.ops [mv 11 (t 0),
 ca 12 F.zod [(t 11)],
 mv 10 (t 12),
 ex 13 (t 10) 0,
 ex 14 (t 10) 1,
 mv 6 (t 13),
 mv 7 (t 14)] [])
 (.seq (.seq (.ops [mv 15 (t 7),
 o 16 (.ibin .neq (t 15) (k 0))] [])
 (.cond (t 16)
 (.seq (.ops [mv 17 (t 7),
 mv 4 (.const (.pointer none)),
 mv 5 (t 17)] [])
 (.ret))
 (.skip)))
 (.seq (.seq (.ops [mv 18 (t 1),
 o 19 (.len (t 18)),
 mv 20 (k 0)] [])
 (.block 0 (.loop (.seq (.ops [o 21 (.ibin .lss (t 20) (t 19))] [])
 (.seq (.cond (t 21)
  (.skip)
  (.exit 0))
 (.seq (.block 1 (.seq (.ops [mv 22 (t 20),
 o 23 (.iaddr 4 (t 18) (t 20)),
 la 24 4 (t 23),
 o 9 (.alloc 89 [(i 0),(i 0),(i 0),sn]),
 mv 8 (t 22),
 st 4 (t 9) (t 24)] [])
 (.seq (.seq (.draw (.take (la 25 4 (t 9)) (.alt (ca 26 F.zCn [(t 25)]) true
  (.take (o 27 (.not (t 26))) (.take (os 28 (.mov (t 27))) (.take (gf 28 29 (.mov (t 8))) (.take (gf 28 30 (.ibin .gtr (t 29) (k 0))) (.take (⟨(some 31),.mov (t 30),some (28,false),true⟩) (.take (gt 31 32 (.mov (t 1))) (.take (gt 31 33 (.mov (t 8))) (.take (gt 31 34 (.ibin .sub (t 33) (k 1))) (.take (gt 31 35 (.iaddr 4 (t 32) (t 34))) (.take (gt 31 36 (.faddr 0 (t 35))) (.take (gt 31 37 (.load false 1 (t 36))) (.take (gt 31 38 (.mov (t 1))) (.take (gt 31 39 (.mov (t 8))) (.take (gt 31 40 (.ibin .sub (t 39) (k 1))) (.take (gt 31 41 (.iaddr 4 (t 38) (t 40))) (.take (gt 31 42 (.faddr 1 (t 41))) (.take (gt 31 43 (.load false 1 (t 42))) (.take (gt 31 45 (.faddr 0 (t 9))) (.take (gt 31 46 (.load false 1 (t 45))) (.take (gt 31 47 (.faddr 1 (t 9))) (.take (gt 31 48 (.load false 1 (t 47))) (.alt (gt 31 44 (.mkSl false 3 2 [(i 0),(i 0)] [(0,1,(t 37)),(1,1,(t 43))])) false
  (.alt (gt 31 49 (.mkSl false 3 2 [(i 0),(i 0)] [(0,1,(t 46)),(1,1,(t 48))])) false
   (.alt (gt 31 50 (.call (fn F.zda) [(t 44),(t 49)])) false
   (.take (gt 31 51 (.ibin .geq (t 50) (k 0))) (.take (gf 28 52 (.pick (t 31) (t 51) (kb false))) (.take (o 53 (.pick (t 28) (kb true) (t 52))) (.done))))
   (.none))
   (.none))
  (.alt (gt 31 49 (.mkSl false 3 2 [(i 0),(i 0)] [(0,1,(t 46)),(1,1,(t 48))])) false
   (.alt (gt 31 44 (.mkSl false 3 2 [(i 0),(i 0)] [(0,1,(t 37)),(1,1,(t 43))])) false
   (.alt (gt 31 50 (.call (fn F.zda) [(t 44),(t 49)])) false
    (.take (gt 31 51 (.ibin .geq (t 50) (k 0))) (.take (gf 28 52 (.pick (t 31) (t 51) (kb false))) (.take (o 53 (.pick (t 28) (kb true) (t 52))) (.done))))
    (.none))
   (.none))
   (.none))))))))))))))))))))))))
  (.none))) [])
 (.cond (t 53)
  (.seq (.ops [mv 4 (.const (.pointer none)),
  mv 5 (k 2)] [])
  (.ret))
  (.skip)))
 (.draw (.take (mv 54 (t 6)) (.take (o 55 (.nilck (t 54))) (.take (fa 56 1 (t 55)) (.take (l1 57 (t 56)) (.take (fa 58 0 (t 9)) (.take (l1 59 (t 58)) (.take (fa 60 1 (t 9)) (.take (l1 61 (t 60)) (.take (o 62 (.build [(i 0),(i 0)] [(0,1,(t 59)),(1,1,(t 61))])) (.take (fa 63 2 (t 9)) (.take (l1 64 (t 63)) (.take (fa 66 3 (t 9)) (.take (l1 67 (t 66)) (.alt (o 65 (.mkSl false 3 0 [] [])) false
  (.alt (o 68 (.app 3 1 8 [(i 0)] (t 65) (t 67))) true
  (.take (o 69 (.build [(i 0),sn] [(0,1,(t 64)),(1,1,(t 68))])) (.alt (o 70 (.box 248 (t 69))) false
   (.alt (e (.mset (.agg 2) (t 57) (t 62) (t 70))) false
   (.done)
   (.none))
   (.none)))
  (.none))
  (.none))))))))))))))) []))))
 (.ops [ad 71 (t 20) (k 1),
 mv 20 (t 71)] [])))))))
 (.seq (.seq (.ops [mv 72 (t 6),
 ca 73 F.zpY [(t 72)],
 mv 74 (t 0),
 o 75 (.ibin .gtr (t 73) (t 74))] [])
 (.cond (t 75)
 (.seq (.ops [mv 4 (.const (.pointer none)),
 mv 5 (k 6)] [])
 (.ret))
 (.skip)))
 (.seq (.ops [mv 76 (t 6),
 mv 4 (t 76),
 mv 5 (k 0)] [])
 (.ret))))))
def zDG:List zd:=[.tmp 4,.tmp 5]
def zjq:RCode:=
 .seq (.ops [o 1 (.box 108 (t 0)),
 mv 2 (.const sn),
 mv 3 (k 0)] [])
 (.scope (.seq (.seq (.draw (.take (l1 13 (t 1)) (.take (l1 14 (t 1)) (.take (o 15 (.mkfn F.zwP [(t 1)])) (.alt (ca 16 F.zcd [(t 14),(t 15)]) true
 (.alt (ca 17 F.zdd [(t 13),(t 16)]) false
  (.take (mv 4 (t 17)) (.done))
  (.none))
 (.none))))) [])
 (.seq (.ops [mv 18 (t 4),
 o 19 (.ibin .neq (t 18) (k 0))] [])
 (.cond (t 19)
 (.seq (.ops [mv 20 (t 4),
 mv 2 (.const sn),
 mv 3 (t 20)] [])
 (.ret))
 (.skip))))
 (.seq (.ops [mv 5 (.const sn)] [])
 (.seq (.ops [l1 21 (t 1),
 o 22 (.nilck (t 21)),
 fa 23 1 (t 22),
 l1 24 (t 23),
 o 6 (.alloc 3 [(i 0)]),
 st 1 (t 6) (t 24)] [])
 (.seq (.skip)
 (.seq (.block 0 (.loop (.block 1 (.seq (.draw (.take (l1 26 (t 1)) (.take (o 27 (.nilck (t 26))) (.take (fa 28 0 (t 27)) (.take (l1 29 (t 28)) (.take (l1 30 (t 6)) (.alt (ca 31 F.za4 [(t 30)]) true
  (.alt (ca 32 F.zc6 [(t 29),(t 31)]) false
  (.take (mv 25 (t 32)) (.take (ex 33 (t 25) 0) (.take (ex 34 (t 25) 1) (.take (mv 7 (t 33)) (.take (mv 8 (t 34)) (.done))))))
  (.none))
  (.none))))))) [])
 (.seq (.block 2 (.seq (.ops [l1 36 (t 6),
 o 37 (.ibin .gtr (t 36) (k 99999)),
 os 38 (.mov (t 37)),
 gf 38 39 (.mov (t 8)),
 gf 38 40 (.ibin .eql (t 39) (k 4)),
 o 41 (.pick (t 38) (kb true) (t 40)),
 mv 35 (t 41)] [])
 (.cond (t 35)
  (.exit 0)
  (.seq (.ops [mv 43 (t 8),
  o 44 (.ibin .neq (t 43) (k 0)),
  mv 42 (t 44)] [])
  (.cond (t 42)
  (.seq (.ops [mv 45 (t 8),
  mv 2 (.const sn),
  mv 3 (t 45)] [])
  (.ret))
  (.skip))))))
 (.seq (.ops [l1 46 (t 1),
 l1 47 (t 6),
 o 48 (.nilck (t 46)),
 fa 49 2 (t 48),
 st 1 (t 49) (t 47)] [])
 (.seq (.ops [l1 50 (t 6),
 ad 51 (t 50) (k 1),
 st 1 (t 6) (t 51)] [])
 (.seq (.ops [mv 53 (t 7),
 ca 54 F.zBb [(t 53)],
 mv 52 (t 54),
 ex 55 (t 52) 0,
 ex 56 (t 52) 1,
 mv 9 (t 55),
 mv 10 (t 56)] [])
 (.seq (.ops [mv 57 (t 5),
 mv 58 (t 9),
 o 59 (.app 22 1 24 [sn] (t 57) (t 58)),
 mv 5 (t 59)] [])
 (.seq (.ops [mv 60 (t 10),
 mv 61 (t 7),
 o 62 (.len (t 61)),
 o 63 (.ibin .lss (t 60) (t 62))] [])
 (.cond (t 63)
  (.seq (.seq (.draw (.take (l1 64 (t 1)) (.take (o 65 (.nilck (t 64))) (.take (fa 66 0 (t 65)) (.take (l1 67 (t 66)) (.take (l1 68 (t 1)) (.take (o 69 (.nilck (t 68))) (.take (fa 70 2 (t 69)) (.take (l1 71 (t 70)) (.take (mv 73 (t 10)) (.alt (ca 72 F.za4 [(t 71)]) true
  (.alt (ca 74 F.zyM [(t 67),(t 72),(t 73)]) false
   (.take (mv 11 (t 74)) (.done))
   (.none))
  (.none))))))))))) [])
  (.seq (.ops [mv 75 (t 11),
  o 76 (.ibin .neq (t 75) (k 0))] [])
  (.cond (t 76)
  (.seq (.ops [mv 77 (t 11),
  mv 2 (.const sn),
  mv 3 (t 77)] [])
  (.ret))
  (.skip))))
  (.exit 0))
  (.skip))))))))))))
 (.seq (.ops [l1 78 (t 1),
 o 79 (.mkfn F.zwQ [(t 6)]),
 ca 80 F.zcd [(t 78),(t 79)],
 mv 12 (t 80)] [])
 (.seq (.ops [mv 81 (t 12),
 ca 82 F.zac [(t 81)]] [])
 (.seq (.ops [mv 83 (t 5),
 l1 84 (t 1),
 mv 85 (t 12),
 ca 86 F.zdd [(t 84),(t 85)],
 mv 2 (t 83),
 mv 3 (t 86)] [])
 (.ret))))))))))
def zjr:List zd:=[.tmp 2,.tmp 3]
theorem zzb {args:List Value} {M:Mem} {R:Value→Mem→Prop} (hn:args.length≤87) (h:zj Tryz.prog zjq zjr args M R):CallsM Tryz.prog F.zmU args M R:=
 zf (kf:=fun _=>[]) Tryz.func153 (by kernel_rfl) (by kernel_rfl) hn (by kernel_rfl) h
def zng:RCode:=
 .seq (.ops [o 2 (.alloc 54 [(i 0),(i 0),(i 0),(i 0)]),
 mv 3 (k 0)] [])
 (.seq (.seq (.ops [mv 9 (t 0),
 o 10 (.len (t 9)),
 o 11 (.ibin .neq (t 10) (k 6))] [])
 (.cond (t 11)
 (.seq (.ops [o 12 (.build [(i 0),(i 0),(i 0),(i 0)] []),
 st 4 (t 2) (t 12),
 mv 3 (k 2)] [])
 (.ret))
 (.skip)))
 (.seq (.ops [mv 14 (t 0),
 ca 15 F.zbj [(t 14),(k 2),(k 2)],
 mv 13 (t 15),
 ex 16 (t 13) 0,
 ex 17 (t 13) 1,
 mv 4 (t 16),
 mv 5 (t 17)] [])
 (.seq (.ops [mv 19 (t 0),
 ca 20 F.zbj [(t 19),(k 4),(k 2)],
 mv 18 (t 20),
 ex 21 (t 18) 0,
 ex 22 (t 18) 1,
 mv 6 (t 21),
 mv 7 (t 22)] [])
 (.seq (.draw (.take (mv 23 (t 0)) (.take (o 24 (.iaddr 1 (t 23) (k 0))) (.take (l1 25 (t 24)) (.take (o 26 (.conv .i64 (t 25))) (.take (mv 27 (t 0)) (.take (o 28 (.iaddr 1 (t 27) (k 1))) (.take (l1 29 (t 28)) (.take (o 30 (.conv .i64 (t 29))) (.take (mv 31 (t 4)) (.take (o 32 (.conv .i64 (t 31))) (.take (mv 33 (t 6)) (.take (o 34 (.conv .i64 (t 33))) (.take (o 35 (.build [(i 0),(i 0),(i 0),(i 0)] [(0,1,(t 26)),(1,1,(t 30)),(2,1,(t 32)),(3,1,(t 34))])) (.alt (o 8 (.alloc 54 [(i 0),(i 0),(i 0),(i 0)])) false
 (.alt (st 4 (t 8) (t 35)) false
  (.done)
  (.none))
 (.none))))))))))))))) [])
 (.seq (.seq (.ops [la 36 4 (t 8),
 ca 37 F.zbh [(t 36)],
 o 38 (.ibin .neq (t 37) (k 0))] [])
 (.cond (t 38)
 (.seq (.ops [o 39 (.build [(i 0),(i 0),(i 0),(i 0)] []),
 st 4 (t 2) (t 39),
 mv 3 (k 2)] [])
 (.ret))
 (.skip)))
 (.seq (.ops [la 40 4 (t 8),
 st 4 (t 2) (t 40),
 mv 3 (k 0)] [])
 (.ret)))))))
def znh:List zd:=[.cell true 4 2,.tmp 3]
theorem zCx {args:List Value} {M:Mem} {R:Value→Mem→Prop} (hn:args.length≤41) (h:zj Tryz.prog zng znh args M R):CallsM Tryz.prog F.zkl args M R:=
 zf (kf:=fun _=>[]) Tryz.func154 (by kernel_rfl) (by kernel_rfl) hn (by kernel_rfl) h
def zfo:RCode:=
 .seq (.ops [o 3 (.box 168 (t 1)),
 mv 4 (k 0)] [])
 (.seq (.seq (.ops [mv 9 (t 0),
 o 10 (.pnil .eql (t 9) (.const (.pointer none)))] [])
 (.cond (t 10)
 (.seq (.ops [mv 4 (k 7)] [])
 (.ret))
 (.skip)))
 (.seq (.seq (.ops [la 11 6 (t 3),
 ca 12 F.zl8 [(t 11)],
 mv 5 (t 12)] [])
 (.seq (.ops [mv 13 (t 5),
 o 14 (.ibin .neq (t 13) (k 0))] [])
 (.cond (t 14)
 (.seq (.ops [mv 15 (t 5),
 mv 4 (t 15)] [])
 (.ret))
 (.skip))))
 (.seq (.ops [fa 16 1 (t 3),
 fa 17 0 (t 16),
 la 18 4 (t 17),
 o 6 (.alloc 54 [(i 0),(i 0),(i 0),(i 0)]),
 st 4 (t 6) (t 18)] [])
 (.seq (.draw (.take (mv 20 (t 0)) (.take (o 21 (.nilck (t 20))) (.take (fa 22 69 (t 21)) (.take (l1 23 (t 22)) (.take (la 24 4 (t 6)) (.take (o 25 (.mget (.agg 4) true (.agg #[(i 0),(i 0),(i 0),(i 0),sn,(i 0)]) (t 23) (t 24))) (.take (mv 19 (t 25)) (.take (ex 26 (t 19) 0) (.take (ex 27 (t 19) 1) (.alt (o 7 (.alloc 240 [(i 0),(i 0),(i 0),(i 0),sn,(i 0)])) false
 (.alt (st 6 (t 7) (t 26)) false
  (.take (mv 8 (t 27)) (.done))
  (.none))
 (.none))))))))))) [])
 (.seq (.block 0 (.seq (.ops [fa 29 0 (t 3),
 l1 30 (t 29),
 o 31 (.ibin .eql (t 30) (k 1)),
 os 32 (.mov (t 31)),
 gt 32 33 (.mov (t 0)),
 gt 32 34 (.nilck (t 33)),
 gt 32 35 (.faddr 4 (t 34)),
 gt 32 36 (.load false 1 (t 35)),
 gt 32 37 (.ibin .eql (t 36) (k 65535)),
 o 38 (.pick (t 32) (t 37) (kb false)),
 mv 28 (t 38)] [])
 (.cond (t 28)
 (.seq (.ops [mv 4 (k 10)] [])
 (.ret))
 (.seq (.seq (.draw (.take (fa 40 0 (t 3)) (.take (l1 41 (t 40)) (.take (o 42 (.ibin .eql (t 41) (k 2))) (.take (os 43 (.mov (t 42))) (.take (gt 43 44 (.faddr 1 (t 6))) (.take (gt 43 45 (.load false 1 (t 44))) (.take (gt 43 46 (.mov (t 0))) (.take (gt 43 47 (.nilck (t 46))) (.take (gt 43 48 (.faddr 0 (t 47))) (.take (gt 43 49 (.load false 1 (t 48))) (.take (gt 43 50 (.ibin .eql (t 45) (t 49))) (.take (⟨(some 51),.mov (t 50),some (43,true),true⟩) (.take (gf 51 52 (.faddr 0 (t 6))) (.take (gf 51 53 (.load false 1 (t 52))) (.take (gf 51 54 (.mov (t 0))) (.take (gf 51 55 (.nilck (t 54))) (.take (gf 51 56 (.faddr 0 (t 55))) (.take (gf 51 57 (.load false 1 (t 56))) (.take (gf 51 58 (.ibin .eql (t 53) (t 57))) (.take (⟨(some 59),.mov (t 58),some (51,false),true⟩) (.take (gt 59 60 (.faddr 2 (t 6))) (.take (gt 59 61 (.load false 1 (t 60))) (.take (gt 59 62 (.mov (t 0))) (.take (gt 59 63 (.nilck (t 62))) (.take (gt 59 64 (.faddr 4 (t 63))) (.take (gt 59 65 (.load false 1 (t 64))) (.take (gt 59 66 (.ibin .gtr (t 61) (t 65))) (.take (gf 51 67 (.pick (t 59) (t 66) (kb false))) (.take (gt 43 68 (.pick (t 51) (kb true) (t 67))) (.take (o 69 (.pick (t 43) (t 68) (kb false))) (.take (mv 39 (t 69)) (.done)))))))))))))))))))))))))))))))) [])
 (.cond (t 39)
  (.skip)
  (.draw (.take (fa 70 0 (t 3)) (.take (l1 71 (t 70)) (.take (o 72 (.ibin .eql (t 71) (k 4))) (.take (os 73 (.mov (t 72))) (.take (gt 73 74 (.faddr 1 (t 6))) (.take (gt 73 75 (.load false 1 (t 74))) (.take (gt 73 76 (.mov (t 0))) (.take (gt 73 77 (.nilck (t 76))) (.take (gt 73 78 (.faddr 0 (t 77))) (.take (gt 73 79 (.load false 1 (t 78))) (.take (gt 73 80 (.ibin .neq (t 75) (t 79))) (.take (o 81 (.pick (t 73) (t 80) (kb false))) (.take (mv 39 (t 81)) (.done)))))))))))))) [])))
 (.cond (t 39)
  (.seq (.ops [mv 4 (k 2)] [])
  (.ret))
  (.seq (.ops [fa 83 0 (t 3),
  l1 84 (t 83),
  o 85 (.ibin .eql (t 84) (k 2)),
  os 86 (.mov (t 85)),
  gt 86 87 (.mov (t 8)),
  o 88 (.pick (t 86) (t 87) (kb false)),
  mv 82 (t 88)] [])
  (.cond (t 82)
  (.seq (.ops [mv 4 (k 5)] [])
  (.ret))
  (.seq (.draw (.take (fa 90 0 (t 3)) (.take (l1 91 (t 90)) (.take (o 92 (.ibin .eql (t 91) (k 2))) (.take (os 93 (.mov (t 92))) (.take (gt 93 94 (.mov (t 0))) (.take (gt 93 95 (.nilck (t 94))) (.take (gt 93 96 (.faddr 69 (t 95))) (.take (gt 93 97 (.load false 1 (t 96))) (.take (gt 93 98 (.mlen (t 97))) (.take (gt 93 99 (.mov (t 0))) (.take (gt 93 100 (.nilck (t 99))) (.take (gt 93 101 (.faddr 1 (t 100))) (.take (gt 93 102 (.faddr 0 (t 101))) (.take (gt 93 103 (.load false 1 (t 102))) (.take (gt 93 104 (.ibin .geq (t 98) (t 103))) (.take (⟨(some 105),.mov (t 104),some (93,true),true⟩) (.take (gf 105 106 (.faddr 1 (t 3))) (.take (gf 105 107 (.faddr 4 (t 106))) (.take (gf 105 108 (.load false 1 (t 107))) (.take (gf 105 109 (.len (t 108))) (.take (gf 105 110 (.mov (t 0))) (.take (gf 105 111 (.nilck (t 110))) (.take (gf 105 112 (.faddr 1 (t 111))) (.take (gf 105 113 (.faddr 1 (t 112))) (.take (gf 105 114 (.load false 1 (t 113))) (.take (gf 105 115 (.mov (t 0))) (.take (gf 105 116 (.nilck (t 115))) (.take (gf 105 117 (.faddr 71 (t 116))) (.take (gf 105 118 (.load false 1 (t 117))) (.take (gf 105 119 (.ibin .sub (t 114) (t 118))) (.take (gf 105 120 (.ibin .gtr (t 109) (t 119))) (.take (gt 93 121 (.pick (t 105) (kb true) (t 120))) (.take (o 122 (.pick (t 93) (t 121) (kb false))) (.take (mv 89 (t 122)) (.done))))))))))))))))))))))))))))))))))) [])
  (.cond (t 89)
   (.seq (.ops [mv 4 (k 6)] [])
   (.ret))
   (.seq (.ops [fa 124 0 (t 3),
   l1 125 (t 124),
   o 126 (.ibin .eql (t 125) (k 3)),
   os 127 (.mov (t 126)),
   gt 127 128 (.mov (t 8)),
   gt 127 129 (.not (t 128)),
   o 130 (.pick (t 127) (t 129) (kb false)),
   mv 123 (t 130)] [])
   (.cond (t 123)
   (.seq (.ops [mv 4 (k 4)] [])
   (.ret))
   (.seq (.ops [fa 132 0 (t 3),
   l1 133 (t 132),
   o 134 (.ibin .eql (t 133) (k 4)),
   mv 131 (t 134)] [])
   (.cond (t 131)
    (.seq (.draw (.take (mv 135 (t 0)) (.take (o 136 (.nilck (t 135))) (.take (fa 137 72 (t 136)) (.take (l1 138 (t 137)) (.take (la 139 4 (t 6)) (.alt (ca 140 F.zjb [(t 138),(t 139)]) false
    (.take (mv 4 (t 140)) (.done))
    (.none))))))) [])
    (.ret))
    (.skip))))))))))))))
 (.seq (.ops [mv 4 (k 0)] [])
 (.ret)))))))
def zfp:List zd:=[.tmp 4]
theorem ztV {args:List Value} {M:Mem} {R:Value→Mem→Prop} (hn:args.length≤141) (h:zj Tryz.prog zfo zfp args M R):CallsM Tryz.prog F.ze2 args M R:=
 zf (kf:=fun _=>[]) Tryz.func155 (by kernel_rfl) (by kernel_rfl) hn (by kernel_rfl) h
def zjs:RCode:=
 .seq (.ops [o 3 (.box 54 (t 1)),
 mv 4 (k 0)] [])
 (.seq (.seq (.ops [mv 9 (t 0),
 la 10 4 (t 3),
 ca 11 F.zjb [(t 9),(t 10)],
 mv 5 (t 11)] [])
 (.seq (.ops [mv 12 (t 5),
 o 13 (.ibin .neq (t 12) (k 0))] [])
 (.cond (t 13)
 (.seq (.ops [mv 14 (t 5),
 mv 4 (t 14)] [])
 (.ret))
 (.skip))))
 (.seq (.ops [mv 15 (t 0),
 la 16 4 (t 3),
 ca 17 F.zhs [(t 15),(t 16)],
 mv 6 (t 17)] [])
 (.seq (.draw (.take (mv 18 (t 0)) (.take (o 19 (.nilck (t 18))) (.take (fa 20 1 (t 19)) (.take (l1 21 (t 20)) (.take (fa 22 0 (t 3)) (.take (l1 23 (t 22)) (.take (fa 24 2 (t 3)) (.take (l1 25 (t 24)) (.take (o 26 (.build [(i 0),(i 0)] [(0,1,(t 23)),(1,1,(t 25))])) (.take (mv 27 (t 6)) (.alt (e (.mset (.agg 2) (t 21) (t 26) (t 27))) false
 (.done)
 (.none)))))))))))) [])
 (.seq (.draw (.take (mv 29 (t 6)) (.take (o 30 (.nilck (t 29))) (.take (fa 31 1 (t 30)) (.take (l1 32 (t 31)) (.take (fa 33 3 (t 3)) (.take (l1 34 (t 33)) (.alt (ca 35 F.zbw [(t 32),(t 34)]) false
 (.take (mv 28 (t 35)) (.take (ex 36 (t 28) 0) (.take (ex 37 (t 28) 1) (.take (mv 7 (t 36)) (.take (mv 8 (t 37)) (.done))))))
 (.none)))))))) [])
 (.seq (.draw (.take (mv 38 (t 6)) (.take (mv 39 (t 6)) (.take (o 40 (.nilck (t 39))) (.take (fa 41 1 (t 40)) (.take (l1 42 (t 41)) (.take (mv 43 (t 7)) (.take (fa 44 3 (t 3)) (.take (l1 45 (t 44)) (.alt (o 46 (.mkSl false 3 1 [(i 0)] [(0,1,(t 45))])) false
 (.alt (ca 47 F.zjM [(t 42),(t 43),(t 46)]) false
  (.take (o 48 (.nilck (t 38))) (.take (fa 49 1 (t 48)) (.alt (st 1 (t 49) (t 47)) false
  (.done)
  (.none))))
  (.none))
 (.none)))))))))) [])
 (.seq (.block 0 (.loop (.seq (.seq (.draw (.take (mv 50 (t 6)) (.take (o 51 (.nilck (t 50))) (.take (fa 52 1 (t 51)) (.take (l1 53 (t 52)) (.take (o 54 (.len (t 53))) (.take (o 55 (.ibin .gtr (t 54) (k 0))) (.take (os 56 (.mov (t 55))) (.take (gt 56 57 (.mov (t 6))) (.take (gt 56 58 (.nilck (t 57))) (.take (gt 56 59 (.faddr 1 (t 58))) (.take (gt 56 60 (.load false 1 (t 59))) (.take (gt 56 61 (.iaddr 1 (t 60) (k 0))) (.take (gt 56 62 (.load false 1 (t 61))) (.take (gt 56 63 (.mov (t 6))) (.take (gt 56 64 (.nilck (t 63))) (.take (gt 56 65 (.faddr 0 (t 64))) (.take (gt 56 66 (.load false 1 (t 65))) (.take (gt 56 67 (.ibin .add (t 66) (k 1))) (.take (gt 56 68 (.ibin .eql (t 62) (t 67))) (.take (o 69 (.pick (t 56) (t 68) (kb false))) (.done))))))))))))))))))))) [])
 (.cond (t 69)
  (.skip)
  (.exit 0)))
 (.block 1 (.seq (.ops [mv 70 (t 6),
 o 71 (.nilck (t 70)),
 fa 72 0 (t 71),
 l1 73 (t 72),
 ad 74 (t 73) (k 1),
 o 75 (.nilck (t 70)),
 fa 76 0 (t 75),
 st 1 (t 76) (t 74)] [])
 (.draw (.take (mv 77 (t 6)) (.take (mv 78 (t 6)) (.take (o 79 (.nilck (t 78))) (.take (fa 80 1 (t 79)) (.take (l1 81 (t 80)) (.take (mv 82 (t 6)) (.take (o 83 (.nilck (t 82))) (.take (fa 84 1 (t 83)) (.take (l1 85 (t 84)) (.take (o 86 (.len (t 85))) (.take (mv 87 (t 6)) (.take (o 88 (.nilck (t 87))) (.take (fa 89 1 (t 88)) (.take (l1 90 (t 89)) (.take (o 91 (.len (t 90))) (.take (o 92 (.slx3 1 (t 81) (k 1) (t 86) (t 91))) (.take (o 93 (.nilck (t 77))) (.take (fa 94 1 (t 93)) (.alt (st 1 (t 94) (t 92)) false
  (.done)
  (.none)))))))))))))))))))) []))))))
 (.seq (.ops [mv 4 (k 0)] [])
 (.ret))))))))
def zjt:List zd:=[.tmp 4]
theorem zzc {args:List Value} {M:Mem} {R:Value→Mem→Prop} (hn:args.length≤95) (h:zj Tryz.prog zjs zjt args M R):CallsM Tryz.prog F.zmV args M R:=
 zf (kf:=fun _=>[]) Tryz.func156 (by kernel_rfl) (by kernel_rfl) hn (by kernel_rfl) h
def zbG:RCode:=
 .seq (.ops [mv 2 (k 0)] [])
 (.seq (.seq (.ops [mv 3 (t 0),
 o 4 (.pnil .eql (t 3) (.const (.pointer none))),
 os 5 (.mov (t 4)),
 gf 5 6 (.mov (t 0)),
 gf 5 7 (.nilck (t 6)),
 gf 5 8 (.faddr 4 (t 7)),
 gf 5 9 (.load false 1 (t 8)),
 o 10 (.pick (t 5) (kb true) (t 9))] [])
 (.cond (t 10)
 (.seq (.ops [mv 2 (k 7)] [])
 (.ret))
 (.skip)))
 (.seq (.ops [mv 2 (k 0)] [])
 (.ret)))
def zbH:List zd:=[.tmp 2]
theorem zpn {args:List Value} {M:Mem} {R:Value→Mem→Prop} (hn:args.length≤11) (h:zj Tryz.prog zbG zbH args M R):CallsM Tryz.prog F.zaO args M R:=
 zf (kf:=fun _=>[]) Tryz.func157 (by kernel_rfl) (by kernel_rfl) hn (by kernel_rfl) h
def zkO:RCode:=
 .seq (.ops [o 1 (.box 168 (t 0)),
 mv 2 (.const sn),
 mv 3 (k 0)] [])
 (.seq (.seq (.ops [la 6 6 (t 1),
 ca 7 F.zl8 [(t 6)],
 mv 4 (t 7)] [])
 (.seq (.ops [mv 8 (t 4),
 o 9 (.ibin .neq (t 8) (k 0))] [])
 (.cond (t 9)
 (.seq (.ops [mv 10 (t 4),
 mv 2 (.const sn),
 mv 3 (t 10)] [])
 (.ret))
 (.skip))))
 (.seq (.ops [mv 5 (.const sn)] [])
 (.seq (.seq (.ops [fa 11 0 (t 1),
 l1 12 (t 11)] [])
 (.block 0 (.seq (.ops [o 14 (.ibin .eql (t 12) (k 2)),
 mv 13 (t 14)] [])
 (.cond (t 13)
 (.ops [fa 16 1 (t 1),
 la 17 5 (t 16),
 ca 18 F.zpZ [(t 17)],
 mv 15 (t 18),
 ex 19 (t 15) 0,
 ex 20 (t 15) 1,
 mv 5 (t 19)] [])
 (.seq (.seq (.ops [o 22 (.ibin .eql (t 12) (k 3)),
 mv 21 (t 22)] [])
 (.cond (t 21)
  (.skip)
  (.ops [o 23 (.ibin .eql (t 12) (k 4)),
  mv 21 (t 23)] [])))
 (.cond (t 21)
  (.ops [fa 25 1 (t 1),
  fa 26 0 (t 25),
  la 27 4 (t 26),
  ca 28 F.zkn [(t 27)],
  mv 24 (t 28),
  ex 29 (t 24) 0,
  ex 30 (t 24) 1,
  mv 5 (t 29)] [])
  (.skip)))))))
 (.seq (.ops [fa 31 0 (t 1),
 l1 32 (t 31),
 o 33 (.conv .u8 (t 32)),
 o 34 (.mkSl false 5 1 [(u 0)] [(0,1,(t 33))]),
 mv 35 (t 5),
 o 36 (.app 5 1 1 [(u 0)] (t 34) (t 35)),
 mv 2 (t 36),
 mv 3 (k 0)] [])
 (.ret)))))
def zkP:List zd:=[.tmp 2,.tmp 3]
theorem zAi {args:List Value} {M:Mem} {R:Value→Mem→Prop} (hn:args.length≤37) (h:zj Tryz.prog zkO zkP args M R):CallsM Tryz.prog F.znQ args M R:=
 zf (kf:=fun _=>[]) Tryz.func158 (by kernel_rfl) (by kernel_rfl) hn (by kernel_rfl) h
def zb0:RCode:=
 .seq (.ops [mv 4 (k 0)] [])
 (.seq (.ops [mv 5 (t 0),
 mv 6 (t 0),
 o 7 (.nilck (t 6)),
 fa 8 4 (t 7),
 l1 9 (t 8),
 os 10 (.mov (t 9)),
 gf 10 11 (.mov (t 1)),
 gf 10 12 (.ibin .eql (t 11) (k 9)),
 o 13 (.pick (t 10) (kb true) (t 12)),
 o 14 (.nilck (t 5)),
 fa 15 4 (t 14),
 st 1 (t 15) (t 13)] [])
 (.seq (.ops [mv 16 (t 1),
 mv 4 (t 16)] [])
 (.ret)))
def zb1:List zd:=[.tmp 4]
theorem zpF {args:List Value} {M:Mem} {R:Value→Mem→Prop} (hn:args.length≤17) (h:zj Tryz.prog zb0 zb1 args M R):CallsM Tryz.prog F.z2 args M R:=
 zf (kf:=fun _=>[]) Tryz.func159 (by kernel_rfl) (by kernel_rfl) hn (by kernel_rfl) h
def zg8:RCode:=
 .seq (.ops [mv 4 (k 0)] [])
 (.seq (.seq (.ops [mv 11 (t 0),
 ca 12 F.zed [(t 11)],
 mv 5 (t 12)] [])
 (.seq (.ops [mv 13 (t 5),
 o 14 (.ibin .neq (t 13) (k 0))] [])
 (.cond (t 14)
 (.seq (.ops [mv 15 (t 5),
 mv 4 (t 15)] [])
 (.ret))
 (.skip))))
 (.seq (.ops [mv 17 (t 1),
 ca 18 F.zpi [(t 17)],
 mv 16 (t 18),
 ex 19 (t 16) 0,
 ex 20 (t 16) 1,
 mv 6 (t 19),
 mv 7 (t 20)] [])
 (.seq (.seq (.ops [mv 21 (t 7),
 o 22 (.ibin .neq (t 21) (k 0))] [])
 (.cond (t 22)
 (.seq (.ops [mv 23 (t 7),
 mv 4 (t 23)] [])
 (.ret))
 (.skip)))
 (.seq (.seq (.ops [mv 24 (t 0),
 o 25 (.nilck (t 24)),
 fa 26 0 (t 25),
 l1 27 (t 26),
 ca 28 F.zbO [(t 27)]] [])
 (.cond (t 28)
 (.seq (.ops [mv 29 (t 0),
 ca 30 F.zbQ [(t 29),(k 9)],
 mv 4 (t 30)] [])
 (.ret))
 (.skip)))
 (.seq (.seq (.ops [mv 31 (t 0),
 mv 32 (t 0),
 o 33 (.nilck (t 32)),
 fa 34 2 (t 33),
 l1 35 (t 34),
 ca 36 F.zde [(t 31),(t 35)],
 mv 8 (t 36)] [])
 (.seq (.ops [mv 37 (t 8),
 o 38 (.ibin .gtr (t 37) (k 0)),
 os 39 (.mov (t 38)),
 gt 39 40 (.mov (t 6)),
 gt 39 41 (.len (t 40)),
 gt 39 42 (.mov (t 0)),
 gt 39 43 (.nilck (t 42)),
 gt 39 44 (.faddr 3 (t 43)),
 gt 39 45 (.load false 1 (t 44)),
 gt 39 46 (.mov (t 8)),
 gt 39 47 (.ibin .sub (t 45) (t 46)),
 gt 39 48 (.ibin .gtr (t 41) (t 47)),
 o 49 (.pick (t 39) (t 48) (kb false))] [])
 (.cond (t 49)
 (.seq (.ops [mv 51 (t 0),
 ca 52 F.zpX [(t 51)],
 mv 50 (t 52),
 ex 53 (t 50) 0,
 ex 54 (t 50) 1,
 mv 9 (t 53),
 mv 10 (t 54)] [])
 (.seq (.ops [mv 55 (t 10),
 o 56 (.ibin .neq (t 55) (k 0))] [])
 (.cond (t 56)
  (.seq (.ops [mv 57 (t 10),
  mv 4 (t 57)] [])
  (.ret))
  (.skip))))
 (.skip))))
 (.seq (.draw (.take (mv 58 (t 0)) (.take (mv 59 (t 0)) (.take (o 60 (.nilck (t 59))) (.take (fa 61 0 (t 60)) (.take (l1 62 (t 61)) (.take (mv 63 (t 0)) (.take (o 64 (.nilck (t 63))) (.take (fa 65 2 (t 64)) (.take (l1 66 (t 65)) (.take (mv 68 (t 6)) (.alt (ca 67 F.za4 [(t 66)]) true
 (.alt (ca 69 F.zee [(t 62),(t 67),(t 68)]) false
  (.alt (ca 70 F.zbQ [(t 58),(t 69)]) false
  (.take (mv 4 (t 70)) (.done))
  (.none))
  (.none))
 (.none)))))))))))) [])
 (.ret)))))))
def zg9:List zd:=[.tmp 4]
theorem zvT {args:List Value} {M:Mem} {R:Value→Mem→Prop} (hn:args.length≤71) (h:zj Tryz.prog zg8 zg9 args M R):CallsM Tryz.prog F.zlb args M R:=
 zf (kf:=fun _=>[]) Tryz.func160 (by kernel_rfl) (by kernel_rfl) hn (by kernel_rfl) h
def zju:RCode:=
 .seq (.ops [mv 2 (k 0)] [])
 (.seq (.seq (.ops [mv 4 (t 0),
 ca 5 F.zed [(t 4)],
 mv 3 (t 5)] [])
 (.seq (.ops [mv 6 (t 3),
 o 7 (.ibin .neq (t 6) (k 0))] [])
 (.cond (t 7)
 (.seq (.ops [mv 8 (t 3),
 mv 2 (t 8)] [])
 (.ret))
 (.skip))))
 (.seq (.seq (.ops [mv 9 (t 0),
 o 10 (.nilck (t 9)),
 fa 11 0 (t 10),
 l1 12 (t 11),
 ca 13 F.zbO [(t 12)]] [])
 (.cond (t 13)
 (.seq (.ops [mv 14 (t 0),
 ca 15 F.zbQ [(t 14),(k 9)],
 mv 2 (t 15)] [])
 (.ret))
 (.skip)))
 (.seq (.seq (.draw (.take (mv 16 (t 0)) (.take (mv 17 (t 0)) (.take (o 18 (.nilck (t 17))) (.take (fa 19 2 (t 18)) (.take (l1 20 (t 19)) (.take (mv 22 (t 0)) (.take (o 23 (.nilck (t 22))) (.take (fa 24 0 (t 23)) (.take (l1 25 (t 24)) (.take (mv 26 (t 0)) (.take (o 27 (.nilck (t 26))) (.take (fa 28 2 (t 27)) (.take (l1 29 (t 28)) (.alt (ca 21 F.zde [(t 16),(t 20)]) true
 (.alt (ca 30 F.za4 [(t 29)]) true
  (.alt (ca 31 F.zgd [(t 25),(t 30)]) false
  (.take (o 32 (.ibin .eql (t 21) (t 31))) (.done))
  (.none))
  (.none))
 (.none))))))))))))))) [])
 (.cond (t 32)
 (.seq (.ops [mv 2 (k 0)] [])
 (.ret))
 (.skip)))
 (.seq (.draw (.take (mv 33 (t 0)) (.take (mv 34 (t 0)) (.take (o 35 (.nilck (t 34))) (.take (fa 36 0 (t 35)) (.take (l1 37 (t 36)) (.take (mv 38 (t 0)) (.take (o 39 (.nilck (t 38))) (.take (fa 40 2 (t 39)) (.take (l1 41 (t 40)) (.alt (ca 42 F.za4 [(t 41)]) true
 (.alt (ca 43 F.zge [(t 37),(t 42)]) false
  (.alt (ca 44 F.zbQ [(t 33),(t 43)]) false
  (.take (mv 2 (t 44)) (.done))
  (.none))
  (.none))
 (.none))))))))))) [])
 (.ret)))))
def zjv:List zd:=[.tmp 2]
theorem zzd {args:List Value} {M:Mem} {R:Value→Mem→Prop} (hn:args.length≤45) (h:zj Tryz.prog zju zjv args M R):CallsM Tryz.prog F.zi9 args M R:=
 zf (kf:=fun _=>[]) Tryz.func161 (by kernel_rfl) (by kernel_rfl) hn (by kernel_rfl) h
def zI:RCode:=
 .seq (.ops [mv 5 (t 0),
 o 6 (.len (t 5)),
 mv 4 (t 6)] [])
 (.ops [mv 7 (t 0),
 mv 8 (t 4),
 mv 9 (t 4),
 o 10 (.conv .u64 (t 9)),
 ca 11 F.zaW [(t 10)],
 mv 12 (t 1),
 ca 13 F.zH [(t 7),(k 0),(t 8),(t 11),(t 12)]] [])
def zJ:List zd:=[]
theorem zfN {args:List Value} {M:Mem} {R:Value→Mem→Prop} (hn:args.length≤14) (h:zj Tryz.prog zI zJ args M R):CallsM Tryz.prog F.zah args M R:=
 zf (kf:=fun _=>[]) Tryz.func162 (by kernel_rfl) (by kernel_rfl) hn (by kernel_rfl) h
def zsd:RCode:=
 .seq (.ops [o 2 (.box 240 (t 0)),
 o 3 (.box 240 (t 1)),
 mv 4 (k 0)] [])
 (.seq (.ops [fa 5 5 (t 2),
 l1 6 (t 5),
 fa 7 5 (t 3),
 l1 8 (t 7),
 o 9 (.ibin .sub (t 6) (t 8)),
 mv 4 (t 9)] [])
 (.ret))
def zse:List zd:=[.tmp 4]
def z5:RCode:=
 .seq (.ops [mv 5 (t 0),
 o 6 (.len (t 5)),
 mv 4 (t 6)] [])
 (.ops [mv 7 (t 0),
 mv 8 (t 4),
 mv 9 (t 4),
 o 10 (.conv .u64 (t 9)),
 ca 11 F.zaW [(t 10)],
 mv 12 (t 1),
 ca 13 F.zN [(t 7),(k 0),(t 8),(t 11),(t 12)]] [])
def z6:List zd:=[]
theorem ziP {args:List Value} {M:Mem} {R:Value→Mem→Prop} (hn:args.length≤14) (h:zj Tryz.prog z5 z6 args M R):CallsM Tryz.prog F.zaN args M R:=
 zf (kf:=fun _=>[]) Tryz.func164 (by kernel_rfl) (by kernel_rfl) hn (by kernel_rfl) h
def ztW:RCode:=
 .seq (.ops [o 2 (.box 89 (t 0)),
 o 3 (.box 89 (t 1)),
 mv 4 (k 0)] [])
 (.seq (.ops [fa 5 0 (t 2),
 l1 6 (t 5),
 fa 7 1 (t 2),
 l1 8 (t 7),
 o 9 (.mkSl false 3 2 [(i 0),(i 0)] [(0,1,(t 6)),(1,1,(t 8))]),
 fa 10 0 (t 3),
 l1 11 (t 10),
 fa 12 1 (t 3),
 l1 13 (t 12),
 o 14 (.mkSl false 3 2 [(i 0),(i 0)] [(0,1,(t 11)),(1,1,(t 13))]),
 ca 15 F.zda [(t 9),(t 14)],
 mv 4 (t 15)] [])
 (.ret))
def ztX:List zd:=[.tmp 4]
def zpo:RCode:=
 .seq (.ops [mv 4 (k 0)] [])
 (.seq (.seq (.ops [mv 9 (t 0),
 o 10 (.len (t 9)),
 mv 11 (k 0)] [])
 (.block 0 (.loop (.seq (.ops [o 12 (.ibin .lss (t 11) (t 10))] [])
 (.seq (.cond (t 12)
  (.skip)
  (.exit 0))
 (.seq (.block 1 (.seq (.ops [mv 13 (t 11),
 o 14 (.iaddr 1 (t 9) (t 11)),
 l1 15 (t 14),
 mv 5 (t 13),
 mv 6 (t 15)] [])
 (.seq (.seq (.ops [mv 16 (t 5),
 mv 17 (t 1),
 o 18 (.len (t 17)),
 o 19 (.ibin .geq (t 16) (t 18))] [])
 (.cond (t 19)
  (.seq (.ops [mv 4 (k 1)] [])
  (.ret))
  (.skip)))
 (.seq (.ops [mv 20 (t 1),
 mv 21 (t 5),
 o 22 (.iaddr 1 (t 20) (t 21)),
 l1 23 (t 22),
 mv 7 (t 23)] [])
 (.seq (.ops [mv 24 (t 6),
 mv 25 (t 7),
 ca 26 F.zuY [(t 24),(t 25)],
 mv 8 (t 26)] [])
 (.seq (.ops [mv 27 (t 8),
 o 28 (.ibin .neq (t 27) (k 0))] [])
 (.cond (t 28)
  (.seq (.ops [mv 29 (t 8),
  mv 4 (t 29)] [])
  (.ret))
  (.skip))))))))
 (.ops [ad 30 (t 11) (k 1),
 mv 11 (t 30)] [])))))))
 (.seq (.seq (.ops [mv 31 (t 0),
 o 32 (.len (t 31)),
 mv 33 (t 1),
 o 34 (.len (t 33)),
 o 35 (.ibin .lss (t 32) (t 34))] [])
 (.cond (t 35)
 (.seq (.ops [mv 4 (k (-1))] [])
 (.ret))
 (.skip)))
 (.seq (.ops [mv 4 (k 0)] [])
 (.ret))))
def zpp:List zd:=[.tmp 4]
def zmh:RCode:=
 .seq (.ops [mv 6 (.const (.pointer none)),
 mv 7 (k 0)] [])
 (.seq (.seq (.ops [mv 11 (t 0),
 ca 12 F.zd3 [(t 11)],
 o 13 (.not (t 12)),
 os 14 (.mov (t 13)),
 gf 14 15 (.mov (t 2)),
 gf 14 16 (.ibin .lss (t 15) (k 1)),
 o 17 (.pick (t 14) (kb true) (t 16)),
 os 18 (.mov (t 17)),
 gf 18 19 (.mov (t 2)),
 gf 18 20 (.ibin .gtr (t 19) (k 64)),
 o 21 (.pick (t 18) (kb true) (t 20))] [])
 (.cond (t 21)
 (.seq (.ops [mv 6 (.const (.pointer none)),
 mv 7 (k 1)] [])
 (.ret))
 (.skip)))
 (.seq (.ops [mv 8 (k (-1))] [])
 (.seq (.seq (.ops [mv 22 (t 1),
 o 23 (.len (t 22)),
 mv 24 (k 0)] [])
 (.block 0 (.loop (.seq (.ops [o 25 (.ibin .lss (t 24) (t 23))] [])
 (.seq (.cond (t 25)
  (.skip)
  (.exit 0))
 (.seq (.block 1 (.seq (.ops [o 26 (.iaddr 1 (t 22) (t 24)),
 l1 27 (t 26),
 mv 10 (t 27)] [])
 (.seq (.seq (.ops [mv 28 (t 10),
 ca 29 F.zd3 [(t 28)],
 o 30 (.not (t 29)),
 os 31 (.mov (t 30)),
 gf 31 32 (.mov (t 10)),
 gf 31 33 (.mov (t 0)),
 gf 31 34 (.ibin .eql (t 32) (t 33)),
 o 35 (.pick (t 31) (kb true) (t 34)),
 os 36 (.mov (t 35)),
 gf 36 37 (.mov (t 10)),
 gf 36 38 (.mov (t 8)),
 gf 36 39 (.ibin .leq (t 37) (t 38)),
 o 40 (.pick (t 36) (kb true) (t 39))] [])
 (.cond (t 40)
  (.seq (.ops [mv 6 (.const (.pointer none)),
  mv 7 (k 2)] [])
  (.ret))
  (.skip)))
 (.ops [mv 41 (t 10),
 mv 8 (t 41)] []))))
 (.ops [ad 42 (t 24) (k 1),
 mv 24 (t 42)] [])))))))
 (.seq (.ops [mv 43 (t 0),
 mv 44 (t 2),
 o 45 (.mkSl false 3 0 [] []),
 mv 46 (t 1),
 o 47 (.app 3 1 8 [(i 0)] (t 45) (t 46)),
 o 48 (.mkMap),
 o 49 (.mkMap),
 o 50 (.build [(i 0),(i 0),sn,(.map none),(.map none)] [(0,1,(t 43)),(1,1,(t 44)),(2,1,(t 47)),(3,1,(t 48)),(4,1,(t 49))]),
 o 51 (.box 177 (t 50)),
 mv 6 (t 51),
 mv 7 (k 0)] [])
 (.ret)))))
def zmi:List zd:=[.tmp 6,.tmp 7]
theorem zBq {args:List Value} {M:Mem} {R:Value→Mem→Prop} (hn:args.length≤52) (h:zj Tryz.prog zmh zmi args M R):CallsM Tryz.prog F.zph args M R:=
 zf (kf:=fun _=>[]) Tryz.func167 (by kernel_rfl) (by kernel_rfl) hn (by kernel_rfl) h
def zqb:RCode:=
 .seq (.ops [mv 2 (.const (.pointer none)),
 mv 3 (k 0)] [])
 (.seq (.seq (.ops [mv 4 (t 0),
 o 5 (.ibin .lss (t 4) (k 1)),
 os 6 (.mov (t 5)),
 gf 6 7 (.mov (t 0)),
 gf 6 8 (.ibin .gtr (t 7) (k 64)),
 o 9 (.pick (t 6) (kb true) (t 8))] [])
 (.cond (t 9)
 (.seq (.ops [mv 2 (.const (.pointer none)),
 mv 3 (k 1)] [])
 (.ret))
 (.skip)))
 (.seq (.ops [mv 10 (t 0),
 o 11 (.mkMap),
 o 12 (.build [(i 0),(i 0),(.map none)] [(0,1,(t 10)),(2,1,(t 11))]),
 o 13 (.box 215 (t 12)),
 mv 2 (t 13),
 mv 3 (k 0)] [])
 (.ret)))
def zqc:List zd:=[.tmp 2,.tmp 3]
theorem zET {args:List Value} {M:Mem} {R:Value→Mem→Prop} (hn:args.length≤14) (h:zj Tryz.prog zqb zqc args M R):CallsM Tryz.prog F.ztB args M R:=
 zf (kf:=fun _=>[]) Tryz.func168 (by kernel_rfl) (by kernel_rfl) hn (by kernel_rfl) h
def zoD:RCode:=
 .seq (.ops [mv 8 (.const (.pointer none)),
 mv 9 (k 0)] [])
 (.seq (.seq (.ops [mv 15 (t 0),
 o 16 (.ibin .lss (t 15) (k 0)),
 os 17 (.mov (t 16)),
 gf 17 18 (.mov (t 0)),
 gf 17 19 (.ibin .gtr (t 18) (k 65535)),
 o 20 (.pick (t 17) (kb true) (t 19)),
 os 21 (.mov (t 20)),
 gf 21 22 (.mov (t 2)),
 gf 21 23 (.ibin .lss (t 22) (k 1)),
 o 24 (.pick (t 21) (kb true) (t 23)),
 os 25 (.mov (t 24)),
 gf 25 26 (.mov (t 2)),
 gf 25 27 (.ibin .gtr (t 26) (k 64)),
 o 28 (.pick (t 25) (kb true) (t 27)),
 os 29 (.mov (t 28)),
 gf 29 30 (.mov (t 3)),
 gf 29 31 (.ibin .lss (t 30) (k 1)),
 o 32 (.pick (t 29) (kb true) (t 31)),
 os 33 (.mov (t 32)),
 gf 33 34 (.mov (t 3)),
 gf 33 35 (.ibin .gtr (t 34) (k 64)),
 o 36 (.pick (t 33) (kb true) (t 35))] [])
 (.cond (t 36)
 (.seq (.ops [mv 8 (.const (.pointer none)),
 mv 9 (k 1)] [])
 (.ret))
 (.skip)))
 (.seq (.ops [mv 38 (t 1),
 ca 39 F.zpj [(t 38)],
 mv 37 (t 39),
 ex 40 (t 37) 0,
 ex 41 (t 37) 1,
 mv 10 (t 40),
 mv 11 (t 41)] [])
 (.seq (.seq (.ops [mv 42 (t 11),
 o 43 (.ibin .neq (t 42) (k 0))] [])
 (.cond (t 43)
 (.seq (.ops [mv 44 (t 11),
 mv 8 (.const (.pointer none)),
 mv 9 (t 44)] [])
 (.ret))
 (.skip)))
 (.seq (.ops [mv 46 (t 1),
 ca 47 F.zrU [(t 46)],
 mv 45 (t 47),
 ex 48 (t 45) 0,
 ex 49 (t 45) 1,
 mv 12 (t 48),
 mv 13 (t 49)] [])
 (.seq (.ops [mv 50 (t 0),
 mv 51 (t 1),
 mv 52 (t 2),
 mv 53 (t 3),
 mv 54 (t 10),
 mv 55 (t 12),
 o 56 (.build [(i 0),(i 0),(.bool false),(i 0),(i 0),(i 0),(i 0),(i 0),(i 0),(.bool false),(.bool false),(.pointer none),(.pointer none),sn,sn] [(0,1,(t 50)),(1,1,(k (-1))),(3,1,(t 51)),(4,1,(t 52)),(5,1,(t 53)),(11,1,(t 54)),(12,1,(t 55))]),
 o 57 (.box 197 (t 56)),
 mv 14 (t 57)] [])
 (.seq (.ops [mv 58 (t 14),
 ca 59 F.zcE [(t 58),(kb false)]] [])
 (.seq (.ops [mv 60 (t 14),
 mv 8 (t 60),
 mv 9 (k 0)] [])
 (.ret))))))))
def zoE:List zd:=[.tmp 8,.tmp 9]
theorem zDH {args:List Value} {M:Mem} {R:Value→Mem→Prop} (hn:args.length≤61) (h:zj Tryz.prog zoD zoE args M R):CallsM Tryz.prog F.zrS args M R:=
 zf (kf:=fun _=>[]) Tryz.func169 (by kernel_rfl) (by kernel_rfl) hn (by kernel_rfl) h
def zoF:RCode:=
 .seq (.ops [mv 0 (.const (.pointer none))] [])
 (.seq (.ops [o 1 (.build [(.bool false),sn,(i 0),(i 0),(i 0),(i 0),(i 0),sn] [(0,1,(kb true))]),
 o 2 (.box 186 (t 1)),
 mv 0 (t 2)] [])
 (.ret))
def zoG:List zd:=[.tmp 0]
theorem zDI {args:List Value} {M:Mem} {R:Value→Mem→Prop} (hn:args.length≤3) (h:zj Tryz.prog zoF zoG args M R):CallsM Tryz.prog F.zrT args M R:=
 zf (kf:=fun _=>[]) Tryz.func170 (by kernel_rfl) (by kernel_rfl) hn (by kernel_rfl) h
def zes:RCode:=
 .scope (.seq (.ops [mv 5 (t 0),
 o 6 (.nilck (t 5)),
 fa 7 1 (t 6),
 l1 8 (t 7),
 ca 9 F.zl9 [(t 8)],
 mv 4 (t 9),
 ex 10 (t 4) 0,
 ex 11 (t 4) 1,
 mv 2 (t 10),
 mv 3 (t 11)] [])
 (.seq (.skip)
 (.block 0 (.loop (.block 1 (.seq (.block 2 (.seq (.ops [mv 13 (t 3),
 o 14 (.ibin .neq (t 13) (k 0)),
 mv 12 (t 14)] [])
 (.cond (t 12)
  (.seq (.ops [mv 15 (t 0),
  o 16 (.nilck (t 15)),
  fa 17 2 (t 16),
  fa 18 4 (t 17),
  l1 19 (t 18),
  ad 20 (t 19) (k 1),
  o 21 (.nilck (t 15)),
  fa 22 2 (t 21),
  fa 23 4 (t 22),
  st 1 (t 23) (t 20)] [])
  (.exit 0))
  (.seq (.ops [mv 25 (t 2),
  o 26 (.len (t 25)),
  o 27 (.ibin .lss (t 26) (k 3)),
  mv 24 (t 27)] [])
  (.cond (t 24)
  (.seq (.ops [mv 28 (t 0),
  o 29 (.nilck (t 28)),
  fa 30 2 (t 29),
  fa 31 2 (t 30),
  l1 32 (t 31),
  ad 33 (t 32) (k 1),
  o 34 (.nilck (t 28)),
  fa 35 2 (t 34),
  fa 36 2 (t 35),
  st 1 (t 36) (t 33)] [])
  (.exit 0))
  (.seq (.ops [mv 38 (t 2),
  ca 39 F.zqv [(t 38)],
  o 40 (.not (t 39)),
  mv 37 (t 40)] [])
  (.cond (t 37)
   (.seq (.ops [mv 41 (t 0),
   o 42 (.nilck (t 41)),
   fa 43 2 (t 42),
   fa 44 1 (t 43),
   l1 45 (t 44),
   ad 46 (t 45) (k 1),
   o 47 (.nilck (t 41)),
   fa 48 2 (t 47),
   fa 49 1 (t 48),
   st 1 (t 49) (t 46)] [])
   (.exit 0))
   (.seq (.ops [mv 51 (t 2),
   o 52 (.len (t 51)),
   o 53 (.ibin .sub (t 52) (k 2)),
   o 54 (.ibin .gtr (t 53) (k 128)),
   mv 50 (t 54)] [])
   (.cond (t 50)
   (.seq (.ops [mv 55 (t 0),
   o 56 (.nilck (t 55)),
   fa 57 2 (t 56),
   fa 58 3 (t 57),
   l1 59 (t 58),
   ad 60 (t 59) (k 1),
   o 61 (.nilck (t 55)),
   fa 62 2 (t 61),
   fa 63 3 (t 62),
   st 1 (t 63) (t 60)] [])
   (.exit 0))
   (.skip))))))))))
 (.seq (.ops [mv 64 (t 0),
 o 65 (.nilck (t 64)),
 fa 66 2 (t 65),
 fa 67 0 (t 66),
 l1 68 (t 67),
 ad 69 (t 68) (k 1),
 o 70 (.nilck (t 64)),
 fa 71 2 (t 70),
 fa 72 0 (t 71),
 st 1 (t 72) (t 69)] [])
 (.seq (.draw (.take (mv 73 (t 0)) (.take (mv 74 (t 0)) (.take (o 75 (.nilck (t 74))) (.take (fa 76 7 (t 75)) (.take (l1 77 (t 76)) (.take (mv 79 (t 2)) (.take (mv 80 (t 2)) (.take (o 81 (.len (t 80))) (.take (o 82 (.ibin .sub (t 81) (k 2))) (.take (o 83 (.slx 1 (t 79) none (some (t 82)))) (.alt (o 78 (.mkSl false 5 0 [] [])) false
  (.alt (o 84 (.app 5 1 1 [(u 0)] (t 78) (t 83))) true
  (.alt (o 85 (.mkSl true 22 1 [sn] [(0,1,(t 84))])) false
   (.alt (o 86 (.app 22 1 24 [sn] (t 77) (t 85))) false
   (.take (o 87 (.nilck (t 73))) (.take (fa 88 7 (t 87)) (.alt (st 1 (t 88) (t 86)) false
    (.done)
    (.none))))
   (.none))
   (.none))
  (.none))
  (.none)))))))))))) [])
 (.exit 0)))))))))
def zet:List zd:=[]
theorem zsT {args:List Value} {M:Mem} {R:Value→Mem→Prop} (hn:args.length≤89) (h:zj Tryz.prog zes zet args M R):CallsM Tryz.prog F.ziH args M R:=
 zf (kf:=fun _=>[]) Tryz.func171 (by kernel_rfl) (by kernel_rfl) hn (by kernel_rfl) h
def zeu:RCode:=
 .seq (.ops [mv 2 (kb false),
 mv 3 (kb false),
 mv 4 (kb false),
 mv 5 (kb false)] [])
 (.seq (.seq (.ops [mv 6 (t 0)] [])
 (.block 0 (.seq (.block 3 (.seq (.block 2 (.seq (.block 1 (.seq (.seq (.seq (.ops [o 8 (.ibin .eql (t 6) (k 1)),
 mv 7 (t 8)] [])
 (.cond (t 7)
 (.exit 1)
 (.skip)))
 (.seq (.seq (.seq (.ops [o 10 (.ibin .eql (t 6) (k 2)),
 mv 9 (t 10)] [])
 (.cond (t 9)
 (.skip)
 (.seq (.ops [o 11 (.ibin .eql (t 6) (k 3)),
 mv 9 (t 11)] [])
 (.cond (t 9)
  (.skip)
  (.ops [o 12 (.ibin .eql (t 6) (k 4)),
  mv 9 (t 12)] [])))))
 (.cond (t 9)
 (.exit 2)
 (.skip)))
 (.seq (.seq (.ops [o 14 (.ibin .eql (t 6) (k 6)),
 mv 13 (t 14)] [])
 (.cond (t 13)
 (.skip)
 (.ops [o 15 (.ibin .eql (t 6) (k 7)),
 mv 13 (t 15)] [])))
 (.cond (t 13)
 (.exit 3)
 (.skip)))))
 (.exit 0)))
 (.ops [mv 2 (kb true),
 mv 5 (kb true)] [])))
 (.ops [mv 3 (kb true)] [])))
 (.seq (.ops [mv 4 (kb true)] [])
 (.exit 0)))))
 (.seq (.ops [mv 16 (t 2),
 mv 17 (t 3),
 mv 18 (t 4),
 mv 19 (t 5),
 mv 2 (t 16),
 mv 3 (t 17),
 mv 4 (t 18),
 mv 5 (t 19)] [])
 (.ret)))
def zev:List zd:=[.tmp 2,.tmp 3,.tmp 4,.tmp 5]
theorem zsU {args:List Value} {M:Mem} {R:Value→Mem→Prop} (hn:args.length≤20) (h:zj Tryz.prog zeu zev args M R):CallsM Tryz.prog F.ziI args M R:=
 zf (kf:=fun _=>[]) Tryz.func172 (by kernel_rfl) (by kernel_rfl) hn (by kernel_rfl) h
def zfq:RCode:=
 .seq (.ops [mv 4 (kb false)] [])
 (.seq (.ops [mv 5 (t 0),
 o 6 (.ibin .geq (t 5) (k 0)),
 os 7 (.mov (t 6)),
 gt 7 8 (.mov (t 0)),
 gt 7 9 (.mov (t 1)),
 gt 7 10 (.ibin .leq (t 8) (t 9)),
 o 11 (.pick (t 7) (t 10) (kb false)),
 mv 4 (t 11)] [])
 (.ret))
def zfr:List zd:=[.tmp 4]
theorem ztY {args:List Value} {M:Mem} {R:Value→Mem→Prop} (hn:args.length≤12) (h:zj Tryz.prog zfq zfr args M R):CallsM Tryz.prog F.zjT args M R:=
 zf (kf:=fun _=>[]) Tryz.func173 (by kernel_rfl) (by kernel_rfl) hn (by kernel_rfl) h
def zfs:RCode:=
 .seq (.ops [mv 2 (t 0),
 o 3 (.nilck (t 2)),
 fa 4 11 (t 3),
 l1 5 (t 4),
 ca 6 F.zfJ [(t 5)]] [])
 (.seq (.ops [mv 7 (t 0),
 o 8 (.nilck (t 7)),
 fa 9 12 (t 8),
 l1 10 (t 9),
 ca 11 F.zcj [(t 10)]] [])
 (.seq (.ops [mv 12 (t 0),
 o 13 (.nilck (t 12)),
 fa 14 8 (t 13),
 l1 15 (t 14),
 ad 16 (t 15) (k 1),
 o 17 (.nilck (t 12)),
 fa 18 8 (t 17),
 st 1 (t 18) (t 16)] [])
 (.ops [mv 19 (t 0),
 mv 20 (t 0),
 mv 21 (t 0),
 o 22 (.nilck (t 19)),
 fa 23 6 (t 22),
 st 1 (t 23) (k 0),
 o 24 (.nilck (t 20)),
 fa 25 7 (t 24),
 st 1 (t 25) (k 0),
 o 26 (.nilck (t 21)),
 fa 27 9 (t 26),
 st 1 (t 27) (kb false)] [])))
def zft:List zd:=[]
theorem ztZ {args:List Value} {M:Mem} {R:Value→Mem→Prop} (hn:args.length≤28) (h:zj Tryz.prog zfs zft args M R):CallsM Tryz.prog F.zcF args M R:=
 zf (kf:=fun _=>[]) Tryz.func174 (by kernel_rfl) (by kernel_rfl) hn (by kernel_rfl) h
def zfu:RCode:=
 .ops [mv 2 (t 0),
 mv 3 (t 0),
 mv 4 (t 0),
 o 5 (.nilck (t 2)),
 fa 6 2 (t 5),
 st 1 (t 6) (kb true),
 o 7 (.nilck (t 3)),
 fa 8 6 (t 7),
 st 1 (t 8) (k 0),
 o 9 (.nilck (t 4)),
 fa 10 7 (t 9),
 st 1 (t 10) (k 0)] []
def zfv:List zd:=[]
theorem zt0 {args:List Value} {M:Mem} {R:Value→Mem→Prop} (hn:args.length≤11) (h:zj Tryz.prog zfu zfv args M R):CallsM Tryz.prog F.ze3 args M R:=
 zf (kf:=fun _=>[]) Tryz.func175 (by kernel_rfl) (by kernel_rfl) hn (by kernel_rfl) h
def zfw:RCode:=
 .seq (.ops [o 3 (.box 129 (t 1))] [])
 (.seq (.ops [mv 9 (t 0),
 fa 10 2 (t 3),
 l1 11 (t 10),
 ca 12 F.zhX [(t 9),(t 11)]] [])
 (.seq (.ops [mv 13 (t 0),
 ca 14 F.zdc [(t 13)]] [])
 (.seq (.seq (.ops [fa 15 3 (t 3),
 l1 16 (t 15)] [])
 (.cond (t 16)
 (.ops [mv 17 (t 0),
 o 18 (.nilck (t 17)),
 fa 19 12 (t 18),
 l1 20 (t 19),
 ca 21 F.zqw [(t 20)]] [])
 (.skip)))
 (.seq (.seq (.ops [mv 22 (t 0),
 o 23 (.nilck (t 22)),
 fa 24 10 (t 23),
 l1 25 (t 24),
 o 26 (.not (t 25))] [])
 (.cond (t 26)
 (.seq (.draw (.take (mv 28 (t 0)) (.take (o 29 (.nilck (t 28))) (.take (fa 30 12 (t 29)) (.take (l1 31 (t 30)) (.take (fa 32 1 (t 3)) (.take (l1 33 (t 32)) (.take (fa 34 6 (t 3)) (.take (l1 35 (t 34)) (.alt (ca 36 F.zgf [(t 31),(t 33),(t 35)]) false
  (.take (mv 27 (t 36)) (.take (ex 37 (t 27) 0) (.take (ex 38 (t 27) 1) (.take (ex 39 (t 27) 2) (.take (mv 4 (t 37)) (.take (mv 5 (t 38)) (.take (mv 6 (t 39)) (.done))))))))
  (.none)))))))))) [])
 (.seq (.ops [mv 40 (t 0),
 mv 41 (t 0),
 o 42 (.nilck (t 41)),
 fa 43 14 (t 42),
 l1 44 (t 43),
 mv 45 (t 4),
 o 46 (.app 22 1 24 [sn] (t 44) (t 45)),
 o 47 (.nilck (t 40)),
 fa 48 14 (t 47),
 st 1 (t 48) (t 46)] [])
 (.seq (.ops [mv 49 (t 5),
 o 50 (.len (t 49)),
 mv 51 (k 0)] [])
 (.block 0 (.loop (.seq (.ops [o 52 (.ibin .lss (t 51) (t 50))] [])
  (.seq (.cond (t 52)
  (.skip)
  (.exit 0))
  (.seq (.block 1 (.seq (.ops [o 53 (.iaddr 1 (t 49) (t 51)),
  l1 54 (t 53),
  mv 8 (t 54)] [])
  (.ops [mv 55 (t 0),
  mv 56 (t 8),
  mv 57 (t 0),
  o 58 (.nilck (t 57)),
  fa 59 1 (t 58),
  l1 60 (t 59),
  o 61 (.build [(i 0),(i 0),(i 0),(.bool false),(i 0),(i 0),sn] [(0,1,(k 4)),(2,1,(t 56)),(5,1,(t 60))]),
  ca 62 F.zam [(t 55),(t 61)]] [])))
  (.ops [ad 63 (t 51) (k 1),
  mv 51 (t 63)] [])))))))))
 (.skip)))
 (.ops [mv 64 (t 0),
 ca 65 F.zef [(t 64)]] [])))))
def zfx:List zd:=[]
theorem zt1 {args:List Value} {M:Mem} {R:Value→Mem→Prop} (hn:args.length≤66) (h:zj Tryz.prog zfw zfx args M R):CallsM Tryz.prog F.zjU args M R:=
 zf (kf:=fun _=>[]) Tryz.func176 (by kernel_rfl) (by kernel_rfl) hn (by kernel_rfl) h
def zvU:RCode:=
 .seq (.ops [o 3 (.box 129 (t 1))] [])
 (.seq (.draw (.take (mv 7 (t 0)) (.take (o 8 (.nilck (t 7))) (.take (fa 9 11 (t 8)) (.take (l1 10 (t 9)) (.take (fa 11 2 (t 3)) (.take (l1 12 (t 11)) (.alt (ca 13 F.zlq [(t 10),(t 12)]) false
 (.take (mv 6 (t 13)) (.take (ex 14 (t 6) 0) (.take (ex 15 (t 6) 1) (.take (mv 4 (t 14)) (.take (mv 5 (t 15)) (.done))))))
 (.none)))))))) [])
 (.seq (.ops [mv 16 (t 5),
 o 17 (.ibin .eql (t 16) (k 0))] [])
 (.cond (t 17)
 (.ops [mv 18 (t 0),
 fa 19 2 (t 3),
 l1 20 (t 19),
 mv 21 (t 4),
 ca 22 F.zc8 [(t 18),(t 20),(t 21),(kb false)]] [])
 (.skip))))
def zvV:List zd:=[]
def zfy:RCode:=
 .seq (.ops [o 3 (.box 129 (t 1))] [])
 (.seq (.ops [mv 4 (t 0),
 fa 5 0 (t 3),
 l1 6 (t 5),
 o 7 (.ibin .eql (t 6) (k 3)),
 o 8 (.nilck (t 4)),
 fa 9 9 (t 8),
 st 1 (t 9) (t 7)] [])
 (.seq (.ops [mv 10 (t 0),
 fa 11 2 (t 3),
 l1 12 (t 11),
 ca 13 F.zhX [(t 10),(t 12)]] [])
 (.seq (.ops [mv 14 (t 0),
 ca 15 F.zdc [(t 14)]] [])
 (.seq (.seq (.ops [mv 16 (t 0),
 o 17 (.nilck (t 16)),
 fa 18 9 (t 17),
 l1 19 (t 18),
 os 20 (.mov (t 19)),
 gt 20 21 (.mov (t 0)),
 gt 20 22 (.nilck (t 21)),
 gt 20 23 (.faddr 11 (t 22)),
 gt 20 24 (.load false 1 (t 23)),
 gt 20 25 (.call (fn F.zmL) [(t 24)]),
 gt 20 26 (.ibin .gtr (t 25) (k 0)),
 o 27 (.pick (t 20) (t 26) (kb false)),
 os 28 (.mov (t 27)),
 gt 28 29 (.mov (t 0)),
 gt 28 30 (.nilck (t 29)),
 gt 28 31 (.faddr 6 (t 30)),
 gt 28 32 (.load false 1 (t 31)),
 gt 28 33 (.ibin .eql (t 32) (k 0)),
 o 34 (.pick (t 28) (t 33) (kb false))] [])
 (.cond (t 34)
 (.ops [mv 35 (t 0),
 mv 36 (t 0),
 o 37 (.nilck (t 36)),
 fa 38 4 (t 37),
 l1 39 (t 38),
 o 40 (.nilck (t 35)),
 fa 41 6 (t 40),
 st 1 (t 41) (t 39)] [])
 (.skip)))
 (.seq (.ops [fa 42 3 (t 3),
 l1 43 (t 42)] [])
 (.cond (t 43)
 (.ops [mv 44 (t 0),
 ca 45 F.zef [(t 44)]] [])
 (.skip)))))))
def zfz:List zd:=[]
theorem zt2 {args:List Value} {M:Mem} {R:Value→Mem→Prop} (hn:args.length≤46) (h:zj Tryz.prog zfy zfz args M R):CallsM Tryz.prog F.zjV args M R:=
 zf (kf:=fun _=>[]) Tryz.func178 (by kernel_rfl) (by kernel_rfl) hn (by kernel_rfl) h
def zni:RCode:=
 .seq (.ops [o 1 (.box 142 (t 0)),
 mv 2 (k 0)] [])
 (.seq (.ops [o 8 (.build [(i 0),(i 0),(i 0),(i 0),sn] []),
 o 3 (.alloc 86 [(i 0),(i 0),(i 0),(i 0),sn]),
 st 5 (t 3) (t 8)] [])
 (.seq (.seq (.ops [fa 9 1 (t 1),
 l1 10 (t 9),
 o 11 (.ibin .lss (t 10) (k 0)),
 os 12 (.mov (t 11)),
 gf 12 13 (.faddr 1 (t 1)),
 gf 12 14 (.load false 1 (t 13)),
 gf 12 15 (.ibin .gtr (t 14) (k 65535)),
 o 16 (.pick (t 12) (kb true) (t 15))] [])
 (.cond (t 16)
 (.seq (.ops [mv 2 (k 1)] [])
 (.ret))
 (.skip)))
 (.seq (.seq (.ops [fa 17 0 (t 1),
 l1 18 (t 17)] [])
 (.block 0 (.seq (.ops [o 20 (.ibin .eql (t 18) (k 1)),
 mv 19 (t 20)] [])
 (.cond (t 19)
 (.seq (.seq (.ops [fa 21 2 (t 1),
 la 22 5 (t 21),
 ca 23 F.zc0 [(t 22)],
 mv 4 (t 23)] [])
 (.seq (.ops [mv 24 (t 4),
 o 25 (.ibin .neq (t 24) (k 0))] [])
 (.cond (t 25)
  (.seq (.ops [mv 26 (t 4),
  mv 2 (t 26)] [])
  (.ret))
  (.skip))))
 (.ops [fa 27 2 (t 1),
 la 28 5 (t 27),
 st 5 (t 3) (t 28)] []))
 (.seq (.seq (.ops [o 30 (.ibin .eql (t 18) (k 2)),
 mv 29 (t 30)] [])
 (.cond (t 29)
  (.skip)
  (.ops [o 31 (.ibin .eql (t 18) (k 3)),
  mv 29 (t 31)] [])))
 (.cond (t 29)
  (.seq (.seq (.ops [fa 32 2 (t 1),
  fa 33 0 (t 32),
  la 34 4 (t 33),
  ca 35 F.zbh [(t 34)],
  mv 5 (t 35)] [])
  (.seq (.ops [mv 36 (t 5),
  o 37 (.ibin .neq (t 36) (k 0))] [])
  (.cond (t 37)
  (.seq (.ops [mv 38 (t 5),
  mv 2 (t 38)] [])
  (.ret))
  (.skip))))
  (.ops [fa 39 2 (t 1),
  fa 40 0 (t 39),
  la 41 4 (t 40),
  fa 42 0 (t 3),
  st 4 (t 42) (t 41)] []))
  (.seq (.ops [o 44 (.ibin .eql (t 18) (k 4)),
  mv 43 (t 44)] [])
  (.cond (t 43)
  (.seq (.seq (.ops [fa 45 7 (t 1),
  l1 46 (t 45),
  o 47 (.len (t 46)),
  o 48 (.ibin .neq (t 47) (k 64)),
  os 49 (.mov (t 48)),
  gf 49 50 (.faddr 1 (t 1)),
  gf 49 51 (.load false 1 (t 50)),
  gf 49 52 (.ibin .neq (t 51) (k 0)),
  o 53 (.pick (t 49) (kb true) (t 52))] [])
  (.cond (t 53)
   (.seq (.ops [mv 2 (k 2)] [])
   (.ret))
   (.skip)))
  (.seq (.ops [fa 54 7 (t 1),
  l1 55 (t 54),
  o 56 (.len (t 55)),
  mv 57 (k 0)] [])
  (.block 1 (.loop (.seq (.ops [o 58 (.ibin .lss (t 57) (t 56))] [])
   (.seq (.cond (t 58)
   (.skip)
   (.exit 1))
   (.seq (.block 2 (.seq (.ops [o 59 (.iaddr 1 (t 55) (t 57)),
   l1 60 (t 59),
   mv 7 (t 60)] [])
   (.seq (.ops [mv 61 (t 7),
   o 62 (.ibin .lss (t 61) (k 0)),
   os 63 (.mov (t 62)),
   gf 63 64 (.mov (t 7)),
   gf 63 65 (.ibin .gtr (t 64) (k 16)),
   o 66 (.pick (t 63) (kb true) (t 65))] [])
   (.cond (t 66)
   (.seq (.ops [mv 2 (k 2)] [])
   (.ret))
   (.skip)))))
   (.ops [ad 67 (t 57) (k 1),
   mv 57 (t 67)] []))))))))
  (.seq (.ops [mv 2 (k 1)] [])
  (.ret))))))))))
 (.seq (.seq (.ops [fa 68 2 (t 1),
 la 69 5 (t 68),
 la 70 5 (t 3),
 ca 71 F.zrV [(t 69),(t 70)],
 o 72 (.not (t 71)),
 os 73 (.mov (t 72)),
 gf 73 74 (.faddr 0 (t 1)),
 gf 73 75 (.load false 1 (t 74)),
 gf 73 76 (.ibin .neq (t 75) (k 4)),
 ⟨(some 77),.mov (t 76),some (73,false),true⟩,
 gt 77 78 (.faddr 7 (t 1)),
 gt 77 79 (.load false 1 (t 78)),
 gt 77 80 (.len (t 79)),
 gt 77 81 (.ibin .gtr (t 80) (k 0)),
 gf 73 82 (.pick (t 77) (t 81) (kb false)),
 o 83 (.pick (t 73) (kb true) (t 82))] [])
 (.cond (t 83)
 (.seq (.ops [mv 2 (k 2)] [])
 (.ret))
 (.skip)))
 (.seq (.ops [mv 2 (k 0)] [])
 (.ret))))))
def znj:List zd:=[.tmp 2]
theorem zCy {args:List Value} {M:Mem} {R:Value→Mem→Prop} (hn:args.length≤84) (h:zj Tryz.prog zni znj args M R):CallsM Tryz.prog F.znc args M R:=
 zf (kf:=fun _=>[]) Tryz.func179 (by kernel_rfl) (by kernel_rfl) hn (by kernel_rfl) h
def zb2:RCode:=
 .seq (.ops [o 3 (.box 54 (t 1)),
 mv 4 (kb false)] [])
 (.seq (.draw (.take (mv 5 (t 0)) (.take (o 6 (.pnil .neq (t 5) (.const (.pointer none)))) (.take (os 7 (.mov (t 6))) (.take (gt 7 8 (.load true 4 (t 3))) (.alt (gt 7 9 (.call (fn F.zbh) [(t 8)])) true
 (.take (gt 7 10 (.ibin .eql (t 9) (k 0))) (.take (o 11 (.pick (t 7) (t 10) (kb false))) (.take (os 12 (.mov (t 11))) (.take (gt 12 13 (.mov (t 0))) (.take (gt 12 14 (.nilck (t 13))) (.take (gt 12 15 (.faddr 0 (t 14))) (.take (gt 12 16 (.faddr 0 (t 15))) (.take (gt 12 17 (.load false 1 (t 16))) (.take (gt 12 18 (.load true 4 (t 3))) (.alt (gt 12 19 (.call (fn F.ziL) [(t 17),(t 18)])) false
  (.take (o 20 (.pick (t 12) (t 19) (kb false))) (.take (mv 4 (t 20)) (.done)))
  (.none)))))))))))
 (.none)))))) [])
 (.ret))
def zb3:List zd:=[.tmp 4]
theorem zpG {args:List Value} {M:Mem} {R:Value→Mem→Prop} (hn:args.length≤21) (h:zj Tryz.prog zb2 zb3 args M R):CallsM Tryz.prog F.zeN args M R:=
 zf (kf:=fun _=>[]) Tryz.func180 (by kernel_rfl) (by kernel_rfl) hn (by kernel_rfl) h
def zbb:RCode:=
 .seq (.ops [o 3 (.box 54 (t 1)),
 mv 4 (k 0)] [])
 (.seq (.ops [mv 5 (t 0),
 la 6 4 (t 3),
 o 7 (.build [(i 0),(i 0),(i 0),(i 0),sn] [(0,4,(t 6))]),
 o 8 (.build [(i 0),(i 0),(i 0),(i 0),(i 0),sn] [(0,1,(k 4)),(1,5,(t 7))]),
 ca 9 F.zab [(t 5),(t 8),(kb true)],
 mv 4 (t 9)] [])
 (.ret))
def zbc:List zd:=[.tmp 4]
theorem znV {args:List Value} {M:Mem} {R:Value→Mem→Prop} (hn:args.length≤10) (h:zj Tryz.prog zbb zbc args M R):CallsM Tryz.prog F.zcL args M R:=
 zf (kf:=fun _=>[]) Tryz.func181 (by kernel_rfl) (by kernel_rfl) hn (by kernel_rfl) h
def zqD:RCode:=
 .seq (.ops [o 3 (.box 54 (t 1)),
 o 4 (.alloc 86 [(i 0),(i 0),(i 0),(i 0),sn]),
 mv 5 (kb false)] [])
 (.seq (.seq (.ops [mv 6 (t 0),
 o 7 (.pnil .eql (t 6) (.const (.pointer none)))] [])
 (.cond (t 7)
 (.seq (.ops [o 8 (.build [(i 0),(i 0),(i 0),(i 0),sn] []),
 st 5 (t 4) (t 8),
 mv 5 (kb false)] [])
 (.ret))
 (.skip)))
 (.seq (.draw (.take (mv 9 (t 0)) (.take (o 10 (.nilck (t 9))) (.take (fa 11 0 (t 10)) (.take (fa 12 0 (t 11)) (.take (l1 13 (t 12)) (.take (la 14 4 (t 3)) (.alt (ca 15 F.ztD [(t 13),(t 14)]) false
 (.take (ex 16 (t 15) 0) (.take (ex 17 (t 15) 1) (.alt (st 5 (t 4) (t 16)) false
  (.take (mv 5 (t 17)) (.done))
  (.none))))
 (.none)))))))) [])
 (.ret)))
def zqE:List zd:=[.cell true 5 4,.tmp 5]
def zqF:RCode:=
 .seq (.ops [o 3 (.box 86 (t 1)),
 mv 4 (k 0)] [])
 (.seq (.ops [mv 5 (t 0),
 la 6 5 (t 3),
 o 7 (.build [(i 0),(i 0),(i 0),(i 0),(i 0),sn] [(0,1,(k 2)),(1,5,(t 6))]),
 ca 8 F.zab [(t 5),(t 7),(kb true)],
 mv 4 (t 8)] [])
 (.ret))
def zqG:List zd:=[.tmp 4]
def zBr:RCode:=
 .seq (.ops [o 3 (.box 54 (t 1)),
 mv 4 (kb false)] [])
 (.seq (.seq (.ops [mv 7 (t 0),
 o 8 (.pnil .eql (t 7) (.const (.pointer none)))] [])
 (.cond (t 8)
 (.seq (.ops [mv 4 (kb false)] [])
 (.ret))
 (.skip)))
 (.seq (.draw (.take (mv 10 (t 0)) (.take (o 11 (.nilck (t 10))) (.take (fa 12 2 (t 11)) (.take (l1 13 (t 12)) (.take (la 14 4 (t 3)) (.take (o 15 (.mget (.agg 4) true (.agg #[(i 0),(i 0),(i 0),(i 0)]) (t 13) (t 14))) (.take (mv 9 (t 15)) (.take (ex 16 (t 9) 0) (.take (ex 17 (t 9) 1) (.alt (o 5 (.alloc 217 [(i 0),(i 0),(i 0),(i 0)])) false
 (.alt (st 4 (t 5) (t 16)) false
  (.take (mv 6 (t 17)) (.done))
  (.none))
 (.none))))))))))) [])
 (.seq (.ops [mv 18 (t 6),
 os 19 (.mov (t 18)),
 gt 19 20 (.faddr 3 (t 5)),
 gt 19 21 (.load false 1 (t 20)),
 gt 19 22 (.ibin .eql (t 21) (k 0)),
 o 23 (.pick (t 19) (t 22) (kb false)),
 mv 4 (t 23)] [])
 (.ret))))
def zBs:List zd:=[.tmp 4]
def zkQ:RCode:=
 .seq (.ops [o 5 (.box 54 (t 2)),
 mv 6 (kb false)] [])
 (.seq (.seq (.ops [mv 9 (t 0),
 o 10 (.pnil .eql (t 9) (.const (.pointer none)))] [])
 (.cond (t 10)
 (.seq (.ops [mv 6 (kb false)] [])
 (.ret))
 (.skip)))
 (.seq (.draw (.take (mv 12 (t 0)) (.take (o 13 (.nilck (t 12))) (.take (fa 14 2 (t 13)) (.take (l1 15 (t 14)) (.take (la 16 4 (t 5)) (.take (o 17 (.mget (.agg 4) true (.agg #[(i 0),(i 0),(i 0),(i 0)]) (t 15) (t 16))) (.take (mv 11 (t 17)) (.take (ex 18 (t 11) 0) (.take (ex 19 (t 11) 1) (.alt (o 7 (.alloc 217 [(i 0),(i 0),(i 0),(i 0)])) false
 (.alt (st 4 (t 7) (t 18)) false
  (.take (mv 8 (t 19)) (.done))
  (.none))
 (.none))))))))))) [])
 (.seq (.ops [mv 20 (t 8),
 os 21 (.mov (t 20)),
 gt 21 22 (.faddr 3 (t 7)),
 gt 21 23 (.load false 1 (t 22)),
 gt 21 24 (.ibin .eql (t 23) (k 0)),
 o 25 (.pick (t 21) (t 24) (kb false)),
 os 26 (.mov (t 25)),
 gt 26 27 (.faddr 0 (t 7)),
 gt 26 28 (.load false 1 (t 27)),
 gt 26 29 (.mov (t 1)),
 gt 26 30 (.ibin .eql (t 28) (t 29)),
 o 31 (.pick (t 26) (t 30) (kb false)),
 mv 6 (t 31)] [])
 (.ret))))
def zkR:List zd:=[.tmp 6]
theorem zAj {args:List Value} {M:Mem} {R:Value→Mem→Prop} (hn:args.length≤32) (h:zj Tryz.prog zkQ zkR args M R):CallsM Tryz.prog F.zhr args M R:=
 zf (kf:=fun _=>[]) Tryz.func185 (by kernel_rfl) (by kernel_rfl) hn (by kernel_rfl) h
def zew:RCode:=
 .seq (.ops [mv 4 (.const sn)] [])
 (.seq (.seq (.ops [mv 7 (t 0),
 o 8 (.pnil .eql (t 7) (.const (.pointer none)))] [])
 (.cond (t 8)
 (.seq (.ops [mv 4 (.const sn)] [])
 (.ret))
 (.skip)))
 (.seq (.ops [mv 5 (.const sn)] [])
 (.seq (.seq (.ops [mv 9 (t 0),
 o 10 (.nilck (t 9)),
 fa 11 2 (t 10),
 l1 12 (t 11),
 o 13 (.mrange (t 12))] [])
 (.block 0 (.loop (.seq (.ops [o 14 (.mnext (t 13)),
 ex 15 (t 14) 0] [])
 (.seq (.cond (t 15)
  (.skip)
  (.exit 0))
 (.block 1 (.seq (.ops [o 16 (.mentry (t 13)),
 ex 17 (t 16) 0,
 o 6 (.alloc 54 [(i 0),(i 0),(i 0),(i 0)]),
 st 4 (t 6) (t 17)] [])
 (.seq (.ops [mv 18 (t 0),
 mv 19 (t 1),
 la 20 4 (t 6),
 ca 21 F.zhr [(t 18),(t 19),(t 20)]] [])
 (.cond (t 21)
  (.ops [mv 22 (t 5),
  la 23 4 (t 6),
  o 24 (.mkSl true 54 1 [(i 0),(i 0),(i 0),(i 0)] [(0,4,(t 23))]),
  o 25 (.app 54 4 32 [(i 0),(i 0),(i 0),(i 0)] (t 22) (t 24)),
  mv 5 (t 25)] [])
  (.skip))))))))))
 (.seq (.ops [mv 26 (t 5),
 ca 27 F.zbf [(t 26),(fn F.zrW)]] [])
 (.seq (.ops [mv 28 (t 5),
 mv 4 (t 28)] [])
 (.ret))))))
def zex:List zd:=[.tmp 4]
theorem zsV {args:List Value} {M:Mem} {R:Value→Mem→Prop} (hn:args.length≤29) (h:zj Tryz.prog zew zex args M R):CallsM Tryz.prog F.ziJ args M R:=
 zf (kf:=fun _=>[]) Tryz.func186 (by kernel_rfl) (by kernel_rfl) hn (by kernel_rfl) h
def zb4:RCode:=
 .seq (.ops [mv 2 (.const sn)] [])
 (.seq (.seq (.ops [mv 3 (t 0),
 o 4 (.pnil .eql (t 3) (.const (.pointer none)))] [])
 (.cond (t 4)
 (.seq (.ops [mv 2 (.const sn)] [])
 (.ret))
 (.skip)))
 (.seq (.ops [mv 5 (t 0),
 o 6 (.nilck (t 5)),
 fa 7 0 (t 6),
 fa 8 0 (t 7),
 l1 9 (t 8),
 ca 10 F.zcc [(t 9)],
 mv 2 (t 10)] [])
 (.ret)))
def zb5:List zd:=[.tmp 2]
theorem zpH {args:List Value} {M:Mem} {R:Value→Mem→Prop} (hn:args.length≤11) (h:zj Tryz.prog zb4 zb5 args M R):CallsM Tryz.prog F.zeO args M R:=
 zf (kf:=fun _=>[]) Tryz.func187 (by kernel_rfl) (by kernel_rfl) hn (by kernel_rfl) h
def zic:RCode:=
 .seq (.ops [mv 8 (.const sn)] [])
 (.seq (.seq (.ops [mv 15 (t 0),
 o 16 (.pnil .eql (t 15) (.const (.pointer none))),
 os 17 (.mov (t 16)),
 gf 17 18 (.mov (t 2)),
 gf 17 19 (.len (t 18)),
 gf 17 20 (.ibin .neq (t 19) (k 64)),
 o 21 (.pick (t 17) (kb true) (t 20))] [])
 (.cond (t 21)
 (.seq (.ops [mv 8 (.const sn)] [])
 (.ret))
 (.skip)))
 (.seq (.ops [mv 9 (.const sn)] [])
 (.seq (.seq (.ops [mv 22 (t 1),
 o 23 (.len (t 22)),
 mv 24 (k 0)] [])
 (.block 0 (.loop (.seq (.ops [o 25 (.ibin .lss (t 24) (t 23))] [])
 (.seq (.cond (t 25)
  (.skip)
  (.exit 0))
 (.seq (.block 1 (.seq (.ops [o 26 (.iaddr 5 (t 22) (t 24)),
 la 27 5 (t 26),
 o 11 (.alloc 86 [(i 0),(i 0),(i 0),(i 0),sn]),
 st 5 (t 11) (t 27)] [])
 (.seq (.seq (.ops [fa 28 0 (t 11),
 fa 29 1 (t 28),
 l1 30 (t 29),
 o 31 (.ibin .lss (t 30) (k 0)),
 os 32 (.mov (t 31)),
 gf 32 33 (.faddr 0 (t 11)),
 gf 32 34 (.faddr 1 (t 33)),
 gf 32 35 (.load false 1 (t 34)),
 gf 32 36 (.ibin .geq (t 35) (k 64)),
 o 37 (.pick (t 32) (kb true) (t 36)),
 os 38 (.mov (t 37)),
 gf 38 39 (.mov (t 3)),
 gf 38 40 (.mov (t 2)),
 gf 38 41 (.faddr 0 (t 11)),
 gf 38 42 (.faddr 1 (t 41)),
 gf 38 43 (.load false 1 (t 42)),
 gf 38 44 (.iaddr 1 (t 40) (t 43)),
 gf 38 45 (.load false 1 (t 44)),
 gf 38 46 (.call (fn F.zav) [(t 39),(t 45)]),
 gf 38 47 (.not (t 46)),
 o 48 (.pick (t 38) (kb true) (t 47))] [])
 (.cond (t 48)
  (.exit 1)
  (.skip)))
 (.seq (.seq (.draw (.take (mv 50 (t 0)) (.take (o 51 (.nilck (t 50))) (.take (fa 52 2 (t 51)) (.take (l1 53 (t 52)) (.take (fa 54 0 (t 11)) (.take (la 55 4 (t 54)) (.take (o 56 (.mget (.agg 4) true (.agg #[(i 0),(i 0),(i 0),(i 0)]) (t 53) (t 55))) (.take (mv 49 (t 56)) (.take (ex 57 (t 49) 0) (.take (ex 58 (t 49) 1) (.alt (o 12 (.alloc 217 [(i 0),(i 0),(i 0),(i 0)])) false
  (.alt (st 4 (t 12) (t 57)) false
  (.take (mv 13 (t 58)) (.done))
  (.none))
  (.none)))))))))))) [])
 (.seq (.ops [mv 59 (t 13)] [])
 (.cond (t 59)
  (.exit 1)
  (.skip))))
 (.seq (.ops [mv 60 (t 2),
 fa 61 0 (t 11),
 fa 62 1 (t 61),
 l1 63 (t 62),
 o 64 (.iaddr 1 (t 60) (t 63)),
 l1 65 (t 64),
 mv 14 (t 65)] [])
 (.seq (.draw (.take (mv 66 (t 0)) (.take (o 67 (.nilck (t 66))) (.take (fa 68 2 (t 67)) (.take (l1 69 (t 68)) (.take (fa 70 0 (t 11)) (.take (la 71 4 (t 70)) (.take (mv 72 (t 14)) (.take (mv 73 (t 0)) (.take (o 74 (.nilck (t 73))) (.take (fa 75 1 (t 74)) (.take (l1 76 (t 75)) (.take (o 77 (.build [(i 0),(i 0),(i 0),(i 0)] [(0,1,(t 72)),(1,1,(t 76))])) (.alt (e (.mset (.agg 4) (t 69) (t 71) (t 77))) false
  (.done)
  (.none)))))))))))))) [])
 (.seq (.draw (.take (mv 78 (t 9)) (.take (mv 79 (t 14)) (.take (mv 80 (t 0)) (.take (o 81 (.nilck (t 80))) (.take (fa 82 1 (t 81)) (.take (l1 83 (t 82)) (.take (fa 84 0 (t 11)) (.take (la 85 4 (t 84)) (.take (fa 87 4 (t 11)) (.take (l1 88 (t 87)) (.alt (o 86 (.mkSl false 5 0 [] [])) false
  (.alt (o 89 (.app 5 1 1 [(u 0)] (t 86) (t 88))) true
  (.take (o 90 (.build [(i 0),(i 0),(i 0),(i 0),sn] [(0,4,(t 85)),(4,1,(t 89))])) (.take (o 91 (.build [(i 0),(i 0),(i 0),(i 0),(i 0),(i 0),sn] [(0,1,(t 79)),(1,1,(t 83)),(2,5,(t 90))])) (.alt (o 92 (.mkSl true 273 1 [(i 0),(i 0),(i 0),(i 0),(i 0),(i 0),sn] [(0,7,(t 91))])) false
   (.alt (o 93 (.app 273 7 72 [(i 0),(i 0),(i 0),(i 0),(i 0),(i 0),sn] (t 78) (t 92))) false
   (.take (mv 9 (t 93)) (.done))
   (.none))
   (.none))))
  (.none))
  (.none)))))))))))) [])
 (.ops [mv 94 (t 0),
 mv 95 (t 0),
 o 96 (.nilck (t 95)),
 fa 97 1 (t 96),
 l1 98 (t 97),
 ad 99 (t 98) (k 1),
 o 100 (.ibin .rem (t 99) (k 65536)),
 o 101 (.nilck (t 94)),
 fa 102 1 (t 101),
 st 1 (t 102) (t 100)] []))))))))
 (.ops [ad 103 (t 24) (k 1),
 mv 24 (t 103)] [])))))))
 (.seq (.ops [mv 104 (t 9),
 mv 8 (t 104)] [])
 (.ret)))))
def zid:List zd:=[.tmp 8]
theorem zxy {args:List Value} {M:Mem} {R:Value→Mem→Prop} (hn:args.length≤105) (h:zj Tryz.prog zic zid args M R):CallsM Tryz.prog F.zl7 args M R:=
 zf (kf:=fun _=>[]) Tryz.func188 (by kernel_rfl) (by kernel_rfl) hn (by kernel_rfl) h
def zze:RCode:=
 .seq (.ops [o 3 (.box 54 (t 1)),
 mv 4 (kb false)] [])
 (.seq (.ops [mv 6 (t 0),
 la 7 4 (t 3),
 ca 8 F.zsx [(t 6),(t 7)],
 mv 5 (t 8)] [])
 (.seq (.seq (.ops [mv 9 (t 5)] [])
 (.cond (t 9)
 (.draw (.take (mv 10 (t 0)) (.take (o 11 (.nilck (t 10))) (.take (fa 12 2 (t 11)) (.take (l1 13 (t 12)) (.take (la 14 4 (t 3)) (.alt (e (.mdel (.agg 4) (t 13) (t 14))) false
  (.done)
  (.none))))))) [])
 (.skip)))
 (.seq (.ops [mv 15 (t 5),
 mv 4 (t 15)] [])
 (.ret))))
def zzf:List zd:=[.tmp 4]
def zkS:RCode:=
 .seq (.ops [mv 2 (.const (u 0))] [])
 (.seq (.seq (.ops [mv 3 (t 0)] [])
 (.cond (t 3)
 (.seq (.ops [mv 2 (.const (u 1))] [])
 (.ret))
 (.skip)))
 (.seq (.ops [mv 2 (.const (u 0))] [])
 (.ret)))
def zkT:List zd:=[.tmp 2]
theorem zAk {args:List Value} {M:Mem} {R:Value→Mem→Prop} (hn:args.length≤4) (h:zj Tryz.prog zkS zkT args M R):CallsM Tryz.prog F.zd4 args M R:=
 zf (kf:=fun _=>[]) Tryz.func190 (by kernel_rfl) (by kernel_rfl) hn (by kernel_rfl) h
def zoH:RCode:=
 .seq (.ops [mv 6 (.const sn),
 mv 7 (k 0)] [])
 (.scope (.seq (.seq (.ops [mv 10 (t 2),
 o 11 (.ibin .lss (t 10) (k 1)),
 os 12 (.mov (t 11)),
 gf 12 13 (.mov (t 2)),
 gf 12 14 (.ibin .gtr (t 13) (k 8)),
 o 15 (.pick (t 12) (kb true) (t 14))] [])
 (.cond (t 15)
 (.seq (.ops [mv 6 (.const sn),
 mv 7 (k 1)] [])
 (.ret))
 (.skip)))
 (.seq (.seq (.ops [mv 16 (t 2),
 o 17 (.ibin .lss (t 16) (k 8)),
 os 18 (.mov (t 17)),
 gt 18 19 (.mov (t 1)),
 gt 18 20 (.mov (t 2)),
 gt 18 21 (.ibin .mul (k 8) (t 20)),
 gt 18 22 (.ibin .shr (t 19) (t 21)),
 gt 18 23 (.ibin .neq (t 22) (.const (.int .u64 0))),
 o 24 (.pick (t 18) (t 23) (kb false))] [])
 (.cond (t 24)
 (.seq (.ops [mv 6 (.const sn),
 mv 7 (k 3)] [])
 (.ret))
 (.skip)))
 (.seq (.ops [o 25 (.mkSl false 5 0 [] []),
 mv 26 (t 0),
 o 27 (.app 5 1 1 [(u 0)] (t 25) (t 26)),
 mv 8 (t 27)] [])
 (.seq (.ops [mv 28 (t 2),
 o 29 (.ibin .mul (k 8) (t 28)),
 mv 9 (t 29)] [])
 (.seq (.skip)
 (.seq (.block 0 (.loop (.block 1 (.seq (.ops [mv 30 (t 9),
 o 31 (.ibin .sub (t 30) (k 8)),
 mv 9 (t 31)] [])
 (.seq (.ops [mv 32 (t 8),
 mv 33 (t 1),
 mv 34 (t 9),
 o 35 (.ibin .shr (t 33) (t 34)),
 o 36 (.conv .u8 (t 35)),
 o 37 (.mkSl true 5 1 [(u 0)] [(0,1,(t 36))]),
 o 38 (.app 5 1 1 [(u 0)] (t 32) (t 37)),
 mv 8 (t 38)] [])
 (.seq (.ops [mv 39 (t 9)] [])
 (.block 2 (.seq (.ops [o 41 (.ibin .eql (t 39) (k 0)),
 mv 40 (t 41)] [])
 (.cond (t 40)
  (.exit 0)
  (.skip))))))))))
 (.seq (.ops [mv 42 (t 8),
 mv 6 (t 42),
 mv 7 (k 0)] [])
 (.ret)))))))))
def zoI:List zd:=[.tmp 6,.tmp 7]
theorem zDJ {args:List Value} {M:Mem} {R:Value→Mem→Prop} (hn:args.length≤43) (h:zj Tryz.prog zoH zoI args M R):CallsM Tryz.prog F.zbk args M R:=
 zf (kf:=fun _=>[]) Tryz.func191 (by kernel_rfl) (by kernel_rfl) hn (by kernel_rfl) h
def zkU:RCode:=
 .seq (.ops [mv 2 (.const sn)] [])
 (.seq (.ops [mv 7 (t 0),
 o 8 (.len (t 7)),
 o 9 (.mkSlC 5 1 [(u 0)] (k 0) (t 8)),
 mv 3 (t 9)] [])
 (.seq (.seq (.ops [mv 10 (t 0),
 o 11 (.len (t 10)),
 mv 12 (k 0)] [])
 (.block 0 (.loop (.seq (.ops [o 13 (.ibin .lss (t 12) (t 11))] [])
 (.seq (.cond (t 13)
  (.skip)
  (.exit 0))
 (.seq (.block 1 (.seq (.ops [o 14 (.iaddr 1 (t 10) (t 12)),
 l1 15 (t 14),
 mv 5 (t 15)] [])
 (.seq (.ops [mv 6 (.const (u 0))] [])
 (.seq (.ops [mv 16 (t 5)] [])
 (.block 2 (.seq (.block 4 (.seq (.block 3 (.seq (.seq (.seq (.ops [o 18 (.ibin .eql (t 16) (.const (u 126))),
 mv 17 (t 18)] [])
 (.cond (t 17)
  (.skip)
  (.ops [o 19 (.ibin .eql (t 16) (.const (u 125))),
  mv 17 (t 19)] [])))
 (.cond (t 17)
  (.exit 3)
  (.skip)))
 (.exit 4)))
 (.seq (.ops [mv 20 (t 3),
 o 21 (.mkSl true 5 1 [(u 0)] [(0,1,(.const (u 125)))]),
 o 22 (.app 5 1 1 [(u 0)] (t 20) (t 21)),
 mv 3 (t 22)] [])
 (.ops [mv 6 (.const (u 32))] []))))
 (.seq (.ops [mv 23 (t 3),
 mv 24 (t 5),
 mv 25 (t 6),
 o 26 (.ibin .xor (t 24) (t 25)),
 o 27 (.mkSl true 5 1 [(u 0)] [(0,1,(t 26))]),
 o 28 (.app 5 1 1 [(u 0)] (t 23) (t 27)),
 mv 3 (t 28)] [])
 (.exit 2))))))))
 (.ops [ad 29 (t 12) (k 1),
 mv 12 (t 29)] [])))))))
 (.seq (.ops [mv 30 (t 3),
 mv 2 (t 30)] [])
 (.ret))))
def zkV:List zd:=[.tmp 2]
theorem zAl {args:List Value} {M:Mem} {R:Value→Mem→Prop} (hn:args.length≤31) (h:zj Tryz.prog zkU zkV args M R):CallsM Tryz.prog F.znR args M R:=
 zf (kf:=fun _=>[]) Tryz.func192 (by kernel_rfl) (by kernel_rfl) hn (by kernel_rfl) h
def zqd:RCode:=
 .seq (.ops [mv 2 (.const sn)] [])
 (.seq (.ops [mv 4 (t 0),
 o 5 (.mkSl false 22 1 [sn] [(0,1,(t 4))]),
 ca 6 F.zp0 [(t 5)],
 mv 3 (t 6)] [])
 (.seq (.ops [o 7 (.mkSl false 5 0 [] []),
 mv 8 (t 0),
 o 9 (.app 5 1 1 [(u 0)] (t 7) (t 8)),
 mv 10 (t 3),
 o 11 (.conv .u8 (t 10)),
 mv 12 (t 3),
 o 13 (.ibin .shr (t 12) (.const (.int .u64 8))),
 o 14 (.conv .u8 (t 13)),
 o 15 (.mkSl true 5 2 [(u 0),(u 0)] [(0,1,(t 11)),(1,1,(t 14))]),
 o 16 (.app 5 1 1 [(u 0)] (t 9) (t 15)),
 mv 2 (t 16)] [])
 (.ret)))
def zqe:List zd:=[.tmp 2]
theorem zEU {args:List Value} {M:Mem} {R:Value→Mem→Prop} (hn:args.length≤17) (h:zj Tryz.prog zqd zqe args M R):CallsM Tryz.prog F.ztC args M R:=
 zf (kf:=fun _=>[]) Tryz.func193 (by kernel_rfl) (by kernel_rfl) hn (by kernel_rfl) h
def zaZ:RCode:=
 .seq (.ops [mv 8 (kb true)] [])
 (.seq (.ops [mv 9 (kb true)] [])
 (.block 0 (.loop (.block 1 (.seq (.ops [mv 19 (t 2),
 mv 20 (t 1),
 o 21 (.ibin .sub (t 19) (t 20)),
 mv 10 (t 21)] [])
 (.seq (.seq (.ops [mv 22 (t 10),
 o 23 (.ibin .leq (t 22) (k 12))] [])
 (.cond (t 23)
  (.seq (.ops [mv 24 (t 0),
  mv 25 (t 1),
  mv 26 (t 2),
  ca 27 F.za1 [(t 24),(t 25),(t 26)]] [])
  (.ret))
  (.skip)))
 (.seq (.seq (.ops [mv 28 (t 3),
 o 29 (.ibin .eql (t 28) (k 0))] [])
 (.cond (t 29)
  (.seq (.ops [mv 30 (t 0),
  mv 31 (t 1),
  mv 32 (t 2),
  ca 33 F.zmW [(t 30),(t 31),(t 32)]] [])
  (.ret))
  (.skip)))
 (.seq (.seq (.ops [mv 34 (t 8),
 o 35 (.not (t 34))] [])
 (.cond (t 35)
  (.seq (.ops [mv 36 (t 0),
  mv 37 (t 1),
  mv 38 (t 2),
  ca 39 F.zko [(t 36),(t 37),(t 38)]] [])
  (.ops [mv 40 (t 3),
  o 41 (.ibin .sub (t 40) (k 1)),
  mv 3 (t 41)] []))
  (.skip)))
 (.seq (.ops [mv 43 (t 0),
 mv 44 (t 1),
 mv 45 (t 2),
 ca 46 F.zlA [(t 43),(t 44),(t 45)],
 mv 42 (t 46),
 ex 47 (t 42) 0,
 ex 48 (t 42) 1,
 mv 11 (t 47),
 mv 12 (t 48)] [])
 (.seq (.seq (.ops [mv 49 (t 12),
 o 50 (.ibin .eql (t 49) (k 2))] [])
 (.cond (t 50)
  (.seq (.ops [mv 51 (t 0),
  mv 52 (t 1),
  mv 53 (t 2),
  ca 54 F.zld [(t 51),(t 52),(t 53)]] [])
  (.seq (.ops [mv 55 (t 2),
  o 56 (.ibin .sub (t 55) (k 1)),
  mv 57 (t 11),
  mv 58 (t 1),
  o 59 (.ibin .sub (t 57) (t 58)),
  o 60 (.ibin .sub (t 56) (t 59)),
  mv 11 (t 60)] [])
  (.ops [mv 12 (k 1)] [])))
  (.skip)))
 (.seq (.seq (.ops [mv 61 (t 8),
 os 62 (.mov (t 61)),
 gt 62 63 (.mov (t 9)),
 o 64 (.pick (t 62) (t 63) (kb false)),
 os 65 (.mov (t 64)),
 gt 65 66 (.mov (t 12)),
 gt 65 67 (.ibin .eql (t 66) (k 1)),
 o 68 (.pick (t 65) (t 67) (kb false))] [])
 (.cond (t 68)
  (.seq (.ops [mv 69 (t 0),
  mv 70 (t 1),
  mv 71 (t 2),
  ca 72 F.zgg [(t 69),(t 70),(t 71)]] [])
  (.cond (t 72)
  (.ret)
  (.skip)))
  (.skip)))
 (.seq (.seq (.draw (.take (mv 73 (t 1)) (.take (o 74 (.ibin .gtr (t 73) (k 0))) (.take (os 75 (.mov (t 74))) (.take (gt 75 76 (.mov (t 0))) (.take (gt 75 77 (.mov (t 1))) (.take (gt 75 78 (.ibin .sub (t 77) (k 1))) (.take (gt 75 79 (.iaddr 1 (t 76) (t 78))) (.take (gt 75 80 (.load false 1 (t 79))) (.take (gt 75 81 (.mov (t 0))) (.take (gt 75 82 (.mov (t 11))) (.take (gt 75 83 (.iaddr 1 (t 81) (t 82))) (.take (gt 75 84 (.load false 1 (t 83))) (.alt (gt 75 85 (.call (fn F.zF) [(t 80),(t 84)])) false
  (.take (gt 75 86 (.not (t 85))) (.take (o 87 (.pick (t 75) (t 86) (kb false))) (.done)))
  (.none)))))))))))))) [])
 (.cond (t 87)
  (.seq (.ops [mv 88 (t 0),
  mv 89 (t 1),
  mv 90 (t 2),
  mv 91 (t 11),
  ca 92 F.zjY [(t 88),(t 89),(t 90),(t 91)],
  mv 13 (t 92)] [])
  (.seq (.ops [mv 93 (t 13),
  mv 1 (t 93)] [])
  (.exit 1)))
  (.skip)))
 (.seq (.ops [mv 95 (t 0),
 mv 96 (t 1),
 mv 97 (t 2),
 mv 98 (t 11),
 ca 99 F.zmz [(t 95),(t 96),(t 97),(t 98)],
 mv 94 (t 99),
 ex 100 (t 94) 0,
 ex 101 (t 94) 1,
 mv 14 (t 100),
 mv 15 (t 101)] [])
 (.seq (.ops [mv 102 (t 15),
 mv 9 (t 102)] [])
 (.seq (.ops [mv 103 (t 14),
 mv 104 (t 1),
 o 105 (.ibin .sub (t 103) (t 104)),
 mv 106 (t 2),
 mv 107 (t 14),
 o 108 (.ibin .sub (t 106) (t 107)),
 mv 16 (t 105),
 mv 17 (t 108)] [])
 (.seq (.ops [mv 109 (t 10),
 o 110 (.ibin .quo (t 109) (k 8)),
 mv 18 (t 110)] [])
 (.seq (.ops [mv 111 (t 16),
 mv 112 (t 17),
 o 113 (.ibin .lss (t 111) (t 112))] [])
 (.cond (t 113)
  (.seq (.ops [mv 114 (t 16),
  mv 115 (t 18),
  o 116 (.ibin .geq (t 114) (t 115)),
  mv 8 (t 116)] [])
  (.seq (.ops [mv 117 (t 0),
  mv 118 (t 1),
  mv 119 (t 14),
  mv 120 (t 3),
  ca 121 F.zak [(t 117),(t 118),(t 119),(t 120)]] [])
  (.ops [mv 122 (t 14),
  ad 123 (t 122) (k 1),
  mv 1 (t 123)] [])))
  (.seq (.ops [mv 124 (t 17),
  mv 125 (t 18),
  o 126 (.ibin .geq (t 124) (t 125)),
  mv 8 (t 126)] [])
  (.seq (.ops [mv 127 (t 0),
  mv 128 (t 14),
  ad 129 (t 128) (k 1),
  mv 130 (t 2),
  mv 131 (t 3),
  ca 132 F.zak [(t 127),(t 129),(t 130),(t 131)]] [])
  (.ops [mv 133 (t 14),
  mv 2 (t 133)] [])))))))))))))))))))))
def za0:List zd:=[]
theorem zmY {args:List Value} {M:Mem} {R:Value→Mem→Prop} (hn:args.length≤134) (h:zj Tryz.prog zaZ za0 args M R):CallsM Tryz.prog F.zak args M R:=
 zf (kf:=fun _=>[]) Tryz.func194 (by kernel_rfl) (by kernel_rfl) hn (by kernel_rfl) h
def zBt:RCode:=
 .seq (.ops [o 2 (.box 3 (t 0)),
 o 3 (.box 3 (t 1)),
 mv 4 (.const .nilFunc)] [])
 (.seq (.ops [o 5 (.mkfn F.zhY [(t 3),(t 2)]),
 mv 4 (t 5)] [])
 (.ret))
def zBu:List zd:=[.tmp 4]
def znk:RCode:=
 .seq (.ops [mv 6 (kb false)] [])
 (.seq (.ops [mv 7 (t 0),
 mv 8 (t 2),
 ca 9 F.zdb [(t 7),(t 8)],
 mv 10 (t 1),
 o 11 (.ibin .lss (t 9) (t 10)),
 mv 6 (t 11)] [])
 (.ret))
def znl:List zd:=[.tmp 6]
theorem zCz {args:List Value} {M:Mem} {R:Value→Mem→Prop} (hn:args.length≤12) (h:zj Tryz.prog znk znl args M R):CallsM Tryz.prog F.znd args M R:=
 zf (kf:=fun _=>[]) Tryz.func196 (by kernel_rfl) (by kernel_rfl) hn (by kernel_rfl) h
def zmj:RCode:=
 .seq (.ops [mv 4 (k 0)] [])
 (.seq (.ops [mv 5 (t 1),
 ca 6 F.zC [(t 5)],
 mv 7 (t 0),
 ca 8 F.zC [(t 7)],
 o 9 (.ibin .sub (t 6) (t 8)),
 ca 10 F.zC [(t 9)],
 mv 4 (t 10)] [])
 (.ret))
def zmk:List zd:=[.tmp 4]
theorem zBv {args:List Value} {M:Mem} {R:Value→Mem→Prop} (hn:args.length≤11) (h:zj Tryz.prog zmj zmk args M R):CallsM Tryz.prog F.zdb args M R:=
 zf (kf:=fun _=>[]) Tryz.func197 (by kernel_rfl) (by kernel_rfl) hn (by kernel_rfl) h
def znm:RCode:=
 .seq (.ops [o 1 (.box 54 (t 0)),
 mv 2 (.const sn),
 mv 3 (k 0)] [])
 (.seq (.seq (.ops [la 6 4 (t 1),
 ca 7 F.zbh [(t 6)],
 mv 4 (t 7)] [])
 (.seq (.ops [mv 8 (t 4),
 o 9 (.ibin .neq (t 8) (k 0))] [])
 (.cond (t 9)
 (.seq (.ops [mv 10 (t 4),
 mv 2 (.const sn),
 mv 3 (t 10)] [])
 (.ret))
 (.skip))))
 (.seq (.ops [fa 11 0 (t 1),
 l1 12 (t 11),
 o 13 (.conv .u8 (t 12)),
 fa 14 1 (t 1),
 l1 15 (t 14),
 o 16 (.conv .u8 (t 15)),
 o 17 (.mkSl false 5 2 [(u 0),(u 0)] [(0,1,(t 13)),(1,1,(t 16))]),
 mv 5 (t 17)] [])
 (.seq (.ops [mv 19 (t 5),
 fa 20 2 (t 1),
 l1 21 (t 20),
 o 22 (.conv .u64 (t 21)),
 ca 23 F.zbk [(t 19),(t 22),(k 2)],
 mv 18 (t 23),
 ex 24 (t 18) 0,
 ex 25 (t 18) 1,
 mv 5 (t 24)] [])
 (.seq (.ops [mv 27 (t 5),
 fa 28 3 (t 1),
 l1 29 (t 28),
 o 30 (.conv .u64 (t 29)),
 ca 31 F.zbk [(t 27),(t 30),(k 2)],
 mv 26 (t 31),
 ex 32 (t 26) 0,
 ex 33 (t 26) 1,
 mv 5 (t 32)] [])
 (.seq (.ops [mv 34 (t 5),
 mv 2 (t 34),
 mv 3 (k 0)] [])
 (.ret))))))
def znn:List zd:=[.tmp 2,.tmp 3]
theorem zCA {args:List Value} {M:Mem} {R:Value→Mem→Prop} (hn:args.length≤35) (h:zj Tryz.prog znm znn args M R):CallsM Tryz.prog F.zkn args M R:=
 zf (kf:=fun _=>[]) Tryz.func198 (by kernel_rfl) (by kernel_rfl) hn (by kernel_rfl) h
def zcO:RCode:=
 .seq (.ops [mv 4 (k 0)] [])
 (.seq (.block 0 (.seq (.ops [mv 6 (t 0),
 o 7 (.pnil .eql (t 6) (.const (.pointer none))),
 mv 5 (t 7)] [])
 (.cond (t 5)
 (.seq (.ops [mv 4 (k 7)] [])
 (.ret))
 (.seq (.ops [mv 9 (t 1),
 o 10 (.len (t 9)),
 o 11 (.ibin .eql (t 10) (k 0)),
 mv 8 (t 11)] [])
 (.cond (t 8)
  (.seq (.ops [mv 4 (k 2)] [])
  (.ret))
  (.seq (.ops [mv 13 (t 1),
  o 14 (.len (t 13)),
  o 15 (.ibin .gtr (t 14) (k 121)),
  mv 12 (t 15)] [])
  (.cond (t 12)
  (.seq (.ops [mv 4 (k 3)] [])
  (.ret))
  (.seq (.ops [mv 17 (t 0),
  o 18 (.nilck (t 17)),
  fa 19 2 (t 18),
  l1 20 (t 19),
  o 21 (.len (t 20)),
  o 22 (.ibin .geq (t 21) (k 64)),
  mv 16 (t 22)] [])
  (.cond (t 16)
   (.seq (.ops [mv 4 (k 6)] [])
   (.ret))
   (.skip))))))))))
 (.seq (.draw (.take (mv 23 (t 0)) (.take (mv 24 (t 0)) (.take (o 25 (.nilck (t 24))) (.take (fa 26 2 (t 25)) (.take (l1 27 (t 26)) (.take (mv 28 (t 0)) (.take (o 29 (.nilck (t 28))) (.take (fa 30 2 (t 29)) (.take (l1 31 (t 30)) (.take (o 32 (.len (t 31))) (.take (mv 33 (t 0)) (.take (o 34 (.nilck (t 33))) (.take (fa 35 2 (t 34)) (.take (l1 36 (t 35)) (.take (o 37 (.len (t 36))) (.take (o 38 (.slx3 1 (t 27) (k 0) (t 32) (t 37))) (.take (mv 40 (t 1)) (.alt (o 39 (.mkSl false 5 0 [] [])) false
 (.alt (o 41 (.app 5 1 1 [(u 0)] (t 39) (t 40))) true
  (.alt (o 42 (.mkSl true 22 1 [sn] [(0,1,(t 41))])) false
  (.alt (o 43 (.app 22 1 24 [sn] (t 38) (t 42))) false
   (.take (o 44 (.nilck (t 23))) (.take (fa 45 2 (t 44)) (.alt (st 1 (t 45) (t 43)) false
   (.done)
   (.none))))
   (.none))
  (.none))
  (.none))
 (.none))))))))))))))))))) [])
 (.seq (.ops [mv 4 (k 0)] [])
 (.ret))))
def zcP:List zd:=[.tmp 4]
theorem zrd {args:List Value} {M:Mem} {R:Value→Mem→Prop} (hn:args.length≤46) (h:zj Tryz.prog zcO zcP args M R):CallsM Tryz.prog F.zgc args M R:=
 zf (kf:=fun _=>[]) Tryz.func199 (by kernel_rfl) (by kernel_rfl) hn (by kernel_rfl) h
def zha:RCode:=
 .scope (.seq (.skip)
 (.block 0 (.loop (.seq (.seq (.ops [mv 5 (t 0),
 o 6 (.nilck (t 5)),
 fa 7 2 (t 6),
 l1 8 (t 7),
 os 9 (.mov (t 8)),
 gt 9 10 (.mov (t 0)),
 gt 9 11 (.nilck (t 10)),
 gt 9 12 (.faddr 9 (t 11)),
 gt 9 13 (.load false 1 (t 12)),
 gt 9 14 (.not (t 13)),
 o 15 (.pick (t 9) (t 14) (kb false))] [])
 (.cond (t 15)
  (.skip)
  (.exit 0)))
 (.block 1 (.seq (.ops [mv 17 (t 0),
 o 18 (.nilck (t 17)),
 fa 19 11 (t 18),
 l1 20 (t 19),
 ca 21 F.zgh [(t 20)],
 mv 16 (t 21),
 ex 22 (t 16) 0,
 ex 23 (t 16) 1,
 ex 24 (t 16) 2,
 mv 2 (t 22),
 mv 3 (t 23),
 mv 4 (t 24)] [])
 (.seq (.seq (.ops [mv 25 (t 4),
 o 26 (.not (t 25))] [])
 (.cond (t 26)
  (.exit 0)
  (.skip)))
 (.seq (.ops [mv 27 (t 0),
 mv 28 (t 2),
 mv 29 (t 3),
 ca 30 F.zc8 [(t 27),(t 28),(t 29),(kb false)]] [])
 (.seq (.ops [mv 31 (t 0),
 o 32 (.nilck (t 31)),
 fa 33 6 (t 32),
 l1 34 (t 33),
 o 35 (.ibin .eql (t 34) (k 0))] [])
 (.cond (t 35)
  (.ops [mv 36 (t 0),
  mv 37 (t 0),
  o 38 (.nilck (t 37)),
  fa 39 4 (t 38),
  l1 40 (t 39),
  o 41 (.nilck (t 36)),
  fa 42 6 (t 41),
  st 1 (t 42) (t 40)] [])
  (.skip)))))))))))
def zhb:List zd:=[]
theorem zvW {args:List Value} {M:Mem} {R:Value→Mem→Prop} (hn:args.length≤43) (h:zj Tryz.prog zha zhb args M R):CallsM Tryz.prog F.zdc args M R:=
 zf (kf:=fun _=>[]) Tryz.func200 (by kernel_rfl) (by kernel_rfl) hn (by kernel_rfl) h
def zbd:RCode:=
 .seq (.ops [mv 4 (kb false)] [])
 (.seq (.ops [mv 5 (t 0),
 mv 6 (t 1),
 ca 7 F.zeP [(t 5),(t 6)],
 o 8 (.ibin .geq (t 7) (k 0)),
 mv 4 (t 8)] [])
 (.ret))
def zbe:List zd:=[.tmp 4]
theorem znW {args:List Value} {M:Mem} {R:Value→Mem→Prop} (hn:args.length≤9) (h:zj Tryz.prog zbd zbe args M R):CallsM Tryz.prog F.zav args M R:=
 zf (kf:=fun _=>[]) Tryz.func201 (by kernel_rfl) (by kernel_rfl) hn (by kernel_rfl) h
def zdP:RCode:=
 .seq (.ops [o 4 (.alloc 54 [(i 0),(i 0),(i 0),(i 0)]),
 mv 5 (k 0)] [])
 (.seq (.block 0 (.seq (.ops [mv 7 (t 0),
 o 8 (.pnil .eql (t 7) (.const (.pointer none))),
 os 9 (.mov (t 8)),
 gf 9 10 (.mov (t 0)),
 gf 9 11 (.nilck (t 10)),
 gf 9 12 (.faddr 4 (t 11)),
 gf 9 13 (.load false 1 (t 12)),
 gf 9 14 (.ibin .eql (t 13) (k 0)),
 o 15 (.pick (t 9) (kb true) (t 14)),
 mv 6 (t 15)] [])
 (.cond (t 6)
 (.seq (.ops [o 16 (.build [(i 0),(i 0),(i 0),(i 0)] []),
 st 4 (t 4) (t 16),
 mv 5 (k 7)] [])
 (.ret))
 (.seq (.ops [mv 18 (t 1),
 ca 19 F.zcJ [(t 18),(k 63)],
 o 20 (.not (t 19)),
 mv 17 (t 20)] [])
 (.cond (t 17)
  (.seq (.ops [o 21 (.build [(i 0),(i 0),(i 0),(i 0)] []),
  st 4 (t 4) (t 21),
  mv 5 (k 1)] [])
  (.ret))
  (.seq (.ops [mv 23 (t 1),
  mv 24 (t 0),
  o 25 (.nilck (t 24)),
  fa 26 0 (t 25),
  l1 27 (t 26),
  o 28 (.ibin .eql (t 23) (t 27)),
  mv 22 (t 28)] [])
  (.cond (t 22)
  (.seq (.ops [o 29 (.build [(i 0),(i 0),(i 0),(i 0)] []),
  st 4 (t 4) (t 29),
  mv 5 (k 2)] [])
  (.ret))
  (.seq (.ops [mv 31 (t 0),
  mv 32 (t 1),
  o 33 (.nilck (t 31)),
  fa 34 5 (t 33),
  o 35 (.iaddrA 64 1 (t 34) (t 32)),
  l1 36 (t 35),
  o 37 (.ibin .eql (t 36) (k 65535)),
  mv 30 (t 37)] [])
  (.cond (t 30)
   (.seq (.ops [o 38 (.build [(i 0),(i 0),(i 0),(i 0)] []),
   st 4 (t 4) (t 38),
   mv 5 (k 10)] [])
   (.ret))
   (.skip))))))))))
 (.seq (.draw (.take (mv 39 (t 0)) (.take (o 40 (.nilck (t 39))) (.take (fa 41 0 (t 40)) (.take (l1 42 (t 41)) (.take (mv 43 (t 1)) (.take (mv 44 (t 0)) (.take (o 45 (.nilck (t 44))) (.take (fa 46 4 (t 45)) (.take (l1 47 (t 46)) (.take (mv 48 (t 0)) (.take (mv 49 (t 1)) (.take (o 50 (.nilck (t 48))) (.take (fa 51 5 (t 50)) (.take (o 52 (.iaddrA 64 1 (t 51) (t 49))) (.take (l1 53 (t 52)) (.take (ad 54 (t 53) (k 1)) (.take (o 55 (.build [(i 0),(i 0),(i 0),(i 0)] [(0,1,(t 42)),(1,1,(t 43)),(2,1,(t 47)),(3,1,(t 54))])) (.alt (st 4 (t 4) (t 55)) false
 (.take (mv 5 (k 0)) (.done))
 (.none))))))))))))))))))) [])
 (.ret)))
def zdQ:List zd:=[.cell true 4 4,.tmp 5]
theorem zsf {args:List Value} {M:Mem} {R:Value→Mem→Prop} (hn:args.length≤56) (h:zj Tryz.prog zdP zdQ args M R):CallsM Tryz.prog F.zhP args M R:=
 zf (kf:=fun _=>[]) Tryz.func202 (by kernel_rfl) (by kernel_rfl) hn (by kernel_rfl) h
def zzg:RCode:=
 .seq (.ops [mv 2 (k 0),
 mv 3 (k 0)] [])
 (.seq (.seq (.ops [mv 5 (t 0),
 ca 6 F.zi9 [(t 5)],
 mv 4 (t 6)] [])
 (.seq (.ops [mv 7 (t 4),
 o 8 (.ibin .neq (t 7) (k 0))] [])
 (.cond (t 8)
 (.seq (.ops [mv 9 (t 4),
 mv 2 (k 0),
 mv 3 (t 9)] [])
 (.ret))
 (.skip))))
 (.seq (.seq (.ops [mv 10 (t 0),
 mv 11 (t 0),
 o 12 (.nilck (t 11)),
 fa 13 2 (t 12),
 l1 14 (t 13),
 ca 15 F.zde [(t 10),(t 14)],
 o 16 (.ibin .eql (t 15) (k 0))] [])
 (.cond (t 16)
 (.seq (.ops [mv 17 (t 0),
 o 18 (.nilck (t 17)),
 fa 19 2 (t 18),
 l1 20 (t 19),
 mv 2 (t 20),
 mv 3 (k 0)] [])
 (.ret))
 (.skip)))
 (.seq (.seq (.ops [mv 21 (t 0),
 o 22 (.nilck (t 21)),
 fa 23 2 (t 22),
 l1 24 (t 23),
 o 25 (.ibin .eql (t 24) (k 99999))] [])
 (.cond (t 25)
 (.seq (.ops [mv 2 (k 0),
 mv 3 (k 1)] [])
 (.ret))
 (.skip)))
 (.seq (.ops [mv 26 (t 0),
 o 27 (.nilck (t 26)),
 fa 28 2 (t 27),
 l1 29 (t 28),
 ad 30 (t 29) (k 1),
 o 31 (.nilck (t 26)),
 fa 32 2 (t 31),
 st 1 (t 32) (t 30)] [])
 (.seq (.ops [mv 33 (t 0),
 o 34 (.nilck (t 33)),
 fa 35 2 (t 34),
 l1 36 (t 35),
 mv 2 (t 36),
 mv 3 (k 0)] [])
 (.ret))))))
def zzh:List zd:=[.tmp 2,.tmp 3]
def zre:RCode:=
 .seq (.ops [mv 2 (k 0)] [])
 (.seq (.ops [mv 7 (t 0),
 o 8 (.nilck (t 7)),
 fa 9 0 (t 8),
 fa 10 0 (t 9),
 l1 11 (t 10),
 ca 12 F.zdk [(t 11)],
 ca 13 F.zEI [(t 12)],
 mv 6 (t 13),
 ex 14 (t 6) 0,
 ex 15 (t 6) 1,
 mv 3 (t 14),
 mv 4 (t 15)] [])
 (.seq (.seq (.ops [mv 16 (t 4),
 o 17 (.ibin .neq (t 16) (k 0))] [])
 (.cond (t 17)
 (.seq (.ops [mv 18 (t 4),
 mv 2 (t 18)] [])
 (.ret))
 (.skip)))
 (.seq (.ops [mv 19 (t 0),
 o 20 (.nilck (t 19)),
 fa 21 1 (t 20),
 l1 22 (t 21),
 mv 23 (t 3),
 ca 24 F.zee [(t 22),(.const (.string ⟨#[116]⟩)),(t 23)],
 mv 4 (t 24)] [])
 (.seq (.seq (.ops [mv 25 (t 4),
 o 26 (.ibin .eql (t 25) (k 6)),
 os 27 (.mov (t 26)),
 gt 27 28 (.mov (t 0)),
 gt 27 29 (.call (fn F.zch) [(t 28),(.const (.string ⟨#[116]⟩))]),
 o 30 (.pick (t 27) (t 29) (kb false))] [])
 (.cond (t 30)
 (.seq (.ops [mv 31 (t 0),
 o 32 (.nilck (t 31)),
 fa 33 1 (t 32),
 l1 34 (t 33),
 ca 35 F.zcb [(t 34),(.const (.string ⟨#[116]⟩))],
 mv 5 (t 35)] [])
 (.seq (.ops [mv 36 (t 5),
 o 37 (.ibin .neq (t 36) (k 0))] [])
 (.cond (t 37)
  (.seq (.ops [mv 38 (t 5),
  mv 2 (t 38)] [])
  (.ret))
  (.skip))))
 (.skip)))
 (.seq (.ops [mv 39 (t 4),
 mv 2 (t 39)] [])
 (.ret))))))
def zrf:List zd:=[.tmp 2]
def zqH:RCode:=
 .seq (.ops [mv 4 (k 0)] [])
 (.seq (.seq (.ops [mv 9 (t 0),
 o 10 (.nilck (t 9)),
 fa 11 1 (t 10),
 l1 12 (t 11),
 ca 13 F.zge [(t 12),(.const (.string ⟨#[116]⟩))],
 mv 5 (t 13)] [])
 (.seq (.ops [mv 14 (t 5),
 o 15 (.ibin .neq (t 14) (k 0))] [])
 (.cond (t 15)
 (.seq (.ops [mv 16 (t 5),
 mv 4 (t 16)] [])
 (.ret))
 (.skip))))
 (.seq (.seq (.draw (.take (mv 17 (t 0)) (.take (o 18 (.nilck (t 17))) (.take (fa 19 1 (t 18)) (.take (l1 20 (t 19)) (.take (mv 21 (t 1)) (.alt (ca 22 F.zfI [(t 21)]) true
 (.alt (ca 23 F.ztE [(t 20),(.const (.string ⟨#[116]⟩)),(t 22)]) false
  (.take (mv 6 (t 23)) (.done))
  (.none))
 (.none))))))) [])
 (.seq (.ops [mv 24 (t 6),
 o 25 (.ibin .neq (t 24) (k 0))] [])
 (.cond (t 25)
 (.seq (.ops [mv 26 (t 6),
 mv 4 (t 26)] [])
 (.ret))
 (.skip))))
 (.seq (.ops [mv 27 (t 0),
 o 28 (.nilck (t 27)),
 fa 29 3 (t 28),
 l1 30 (t 29),
 mv 7 (t 30)] [])
 (.seq (.ops [mv 31 (t 0),
 mv 32 (t 1),
 o 33 (.nilck (t 31)),
 fa 34 3 (t 33),
 st 1 (t 34) (t 32)] [])
 (.seq (.seq (.ops [mv 35 (t 7),
 o 36 (.ibin .gtr (t 35) (k 0))] [])
 (.cond (t 36)
 (.seq (.draw (.take (mv 37 (t 0)) (.take (o 38 (.nilck (t 37))) (.take (fa 39 1 (t 38)) (.take (l1 40 (t 39)) (.take (mv 41 (t 7)) (.alt (ca 42 F.zfI [(t 41)]) true
  (.alt (ca 43 F.zcb [(t 40),(t 42)]) false
  (.take (mv 8 (t 43)) (.done))
  (.none))
  (.none))))))) [])
 (.seq (.ops [mv 44 (t 8),
 o 45 (.ibin .neq (t 44) (k 0))] [])
 (.cond (t 45)
  (.seq (.ops [mv 46 (t 8),
  mv 4 (t 46)] [])
  (.ret))
  (.skip))))
 (.skip)))
 (.seq (.ops [mv 47 (t 0),
 o 48 (.nilck (t 47)),
 fa 49 2 (t 48),
 l1 50 (t 49),
 mv 51 (t 1),
 ca 52 F.zzT [(t 50),(t 51)],
 mv 4 (t 52)] [])
 (.ret)))))))
def zqI:List zd:=[.tmp 4]
def zW:RCode:=
 .seq (.ops [mv 8 (t 1),
 ad 9 (t 8) (k 1),
 mv 6 (t 9)] [])
 (.block 0 (.loop (.seq (.seq (.ops [mv 10 (t 6),
 mv 11 (t 2),
 o 12 (.ibin .lss (t 10) (t 11))] [])
 (.cond (t 12)
  (.skip)
  (.exit 0)))
 (.seq (.block 1 (.seq (.ops [mv 15 (t 6),
 mv 7 (t 15)] [])
 (.block 2 (.loop (.seq (.seq (.draw (.take (mv 16 (t 7)) (.take (mv 17 (t 1)) (.take (o 18 (.ibin .gtr (t 16) (t 17))) (.take (os 19 (.mov (t 18))) (.take (gt 19 20 (.mov (t 0))) (.take (gt 19 21 (.mov (t 7))) (.take (gt 19 22 (.iaddr 1 (t 20) (t 21))) (.take (gt 19 23 (.load false 1 (t 22))) (.take (gt 19 24 (.mov (t 0))) (.take (gt 19 25 (.mov (t 7))) (.take (gt 19 26 (.ibin .sub (t 25) (k 1))) (.take (gt 19 27 (.iaddr 1 (t 24) (t 26))) (.take (gt 19 28 (.load false 1 (t 27))) (.alt (gt 19 29 (.call (fn F.zx) [(t 23),(t 28)])) false
  (.take (o 30 (.pick (t 19) (t 29) (kb false))) (.done))
  (.none))))))))))))))) [])
  (.cond (t 30)
  (.skip)
  (.exit 2)))
  (.seq (.block 3 (.draw (.take (mv 33 (t 0)) (.take (mv 34 (t 7)) (.take (mv 35 (t 0)) (.take (mv 36 (t 7)) (.take (o 37 (.ibin .sub (t 36) (k 1))) (.take (mv 38 (t 0)) (.take (mv 39 (t 7)) (.take (o 40 (.ibin .sub (t 39) (k 1))) (.take (o 41 (.iaddr 1 (t 38) (t 40))) (.take (l1 42 (t 41)) (.take (mv 43 (t 0)) (.take (mv 44 (t 7)) (.take (o 45 (.iaddr 1 (t 43) (t 44))) (.take (l1 46 (t 45)) (.take (o 47 (.iaddr 1 (t 33) (t 34))) (.alt (st 1 (t 47) (t 42)) false
  (.take (o 48 (.iaddr 1 (t 35) (t 37))) (.alt (st 1 (t 48) (t 46)) false
   (.done)
   (.none)))
  (.none))))))))))))))))) []))
  (.ops [mv 31 (t 7),
  o 32 (.ibin .sub (t 31) (k 1)),
  mv 7 (t 32)] [])))))))
 (.ops [mv 13 (t 6),
 ad 14 (t 13) (k 1),
 mv 6 (t 14)] [])))))
def zX:List zd:=[]
theorem zio {args:List Value} {M:Mem} {R:Value→Mem→Prop} (hn:args.length≤49) (h:zj Tryz.prog zW zX args M R):CallsM Tryz.prog F.zaK args M R:=
 zf (kf:=fun _=>[]) Tryz.func206 (by kernel_rfl) (by kernel_rfl) hn (by kernel_rfl) h
def zlD:RCode:=
 .seq (.ops [mv 11 (t 1),
 mv 6 (t 11)] [])
 (.seq (.ops [mv 7 (k 0)] [])
 (.seq (.ops [mv 12 (t 2),
 mv 13 (t 1),
 o 14 (.ibin .sub (t 12) (t 13)),
 mv 8 (t 14)] [])
 (.seq (.seq (.ops [mv 15 (t 8),
 o 16 (.ibin .sub (t 15) (k 1)),
 o 17 (.ibin .quo (t 16) (k 2)),
 mv 9 (t 17)] [])
 (.block 0 (.loop (.seq (.seq (.ops [mv 18 (t 9),
 o 19 (.ibin .geq (t 18) (k 0))] [])
 (.cond (t 19)
  (.skip)
  (.exit 0)))
 (.seq (.block 1 (.ops [mv 22 (t 0),
 mv 23 (t 9),
 mv 24 (t 8),
 mv 25 (t 6),
 ca 26 F.zdU [(t 22),(t 23),(t 24),(t 25)]] []))
 (.ops [mv 20 (t 9),
 o 21 (.ibin .sub (t 20) (k 1)),
 mv 9 (t 21)] []))))))
 (.seq (.ops [mv 27 (t 8),
 o 28 (.ibin .sub (t 27) (k 1)),
 mv 10 (t 28)] [])
 (.block 2 (.loop (.seq (.seq (.ops [mv 29 (t 10),
 o 30 (.ibin .geq (t 29) (k 0))] [])
 (.cond (t 30)
  (.skip)
  (.exit 2)))
 (.seq (.block 3 (.seq (.draw (.take (mv 33 (t 0)) (.take (mv 34 (t 6)) (.take (mv 35 (t 0)) (.take (mv 36 (t 6)) (.take (mv 37 (t 10)) (.take (ad 38 (t 36) (t 37)) (.take (mv 39 (t 0)) (.take (mv 40 (t 6)) (.take (mv 41 (t 10)) (.take (ad 42 (t 40) (t 41)) (.take (o 43 (.iaddr 1 (t 39) (t 42))) (.take (l1 44 (t 43)) (.take (mv 45 (t 0)) (.take (mv 46 (t 6)) (.take (o 47 (.iaddr 1 (t 45) (t 46))) (.take (l1 48 (t 47)) (.take (o 49 (.iaddr 1 (t 33) (t 34))) (.alt (st 1 (t 49) (t 44)) false
  (.take (o 50 (.iaddr 1 (t 35) (t 38))) (.alt (st 1 (t 50) (t 48)) false
  (.done)
  (.none)))
  (.none))))))))))))))))))) [])
 (.ops [mv 51 (t 0),
 mv 52 (t 7),
 mv 53 (t 10),
 mv 54 (t 6),
 ca 55 F.zdU [(t 51),(t 52),(t 53),(t 54)]] [])))
 (.ops [mv 31 (t 10),
 o 32 (.ibin .sub (t 31) (k 1)),
 mv 10 (t 32)] [])))))))))
def zlE:List zd:=[]
def ziQ:RCode:=
 .seq (.ops [mv 11 (t 2),
 mv 12 (t 1),
 o 13 (.ibin .sub (t 11) (t 12)),
 mv 6 (t 13)] [])
 (.seq (.ops [mv 14 (t 6),
 o 15 (.ibin .geq (t 14) (k 8))] [])
 (.cond (t 15)
 (.seq (.ops [mv 16 (t 6),
 o 17 (.conv .u64 (t 16)),
 o 7 (.alloc 340 [(.int .u64 0)]),
 st 1 (t 7) (t 17)] [])
 (.seq (.ops [mv 18 (t 6),
 ca 19 F.zaP [(t 18)],
 mv 8 (t 19)] [])
 (.seq (.ops [mv 20 (t 1),
 mv 21 (t 6),
 o 22 (.ibin .quo (t 21) (k 4)),
 o 23 (.ibin .mul (t 22) (k 2)),
 ad 24 (t 20) (t 23),
 o 25 (.ibin .sub (t 24) (k 1)),
 mv 9 (t 25)] [])
 (.block 0 (.loop (.seq (.seq (.ops [mv 26 (t 9),
  mv 27 (t 1),
  mv 28 (t 6),
  o 29 (.ibin .quo (t 28) (k 4)),
  o 30 (.ibin .mul (t 29) (k 2)),
  ad 31 (t 27) (t 30),
  ad 32 (t 31) (k 1),
  o 33 (.ibin .leq (t 26) (t 32))] [])
  (.cond (t 33)
  (.skip)
  (.exit 0)))
  (.seq (.block 1 (.seq (.ops [ca 36 F.za2 [(t 7)],
  mv 37 (t 8),
  o 38 (.ibin .sub (t 37) (.const (.int .u64 1))),
  o 39 (.ibin .and (t 36) (t 38)),
  o 40 (.conv .i64 (t 39)),
  mv 10 (t 40)] [])
  (.seq (.seq (.ops [mv 41 (t 10),
  mv 42 (t 6),
  o 43 (.ibin .geq (t 41) (t 42))] [])
  (.cond (t 43)
  (.ops [mv 44 (t 10),
  mv 45 (t 6),
  o 46 (.ibin .sub (t 44) (t 45)),
  mv 10 (t 46)] [])
  (.skip)))
  (.draw (.take (mv 47 (t 0)) (.take (mv 48 (t 9)) (.take (mv 49 (t 0)) (.take (mv 50 (t 1)) (.take (mv 51 (t 10)) (.take (ad 52 (t 50) (t 51)) (.take (mv 53 (t 0)) (.take (mv 54 (t 1)) (.take (mv 55 (t 10)) (.take (ad 56 (t 54) (t 55)) (.take (o 57 (.iaddr 1 (t 53) (t 56))) (.take (l1 58 (t 57)) (.take (mv 59 (t 0)) (.take (mv 60 (t 9)) (.take (o 61 (.iaddr 1 (t 59) (t 60))) (.take (l1 62 (t 61)) (.take (o 63 (.iaddr 1 (t 47) (t 48))) (.alt (st 1 (t 63) (t 58)) false
  (.take (o 64 (.iaddr 1 (t 49) (t 52))) (.alt (st 1 (t 64) (t 62)) false
   (.done)
   (.none)))
  (.none))))))))))))))))))) []))))
  (.ops [mv 34 (t 9),
  ad 35 (t 34) (k 1),
  mv 9 (t 35)] []))))))))
 (.skip)))
def ziR:List zd:=[]
def zj1:RCode:=
 .seq (.ops [mv 6 (k 0),
 mv 7 (k 0)] [])
 (.seq (.ops [mv 13 (t 2),
 mv 14 (t 1),
 o 15 (.ibin .sub (t 13) (t 14)),
 mv 8 (t 15)] [])
 (.seq (.ops [o 9 (.alloc 3 [(i 0)])] [])
 (.seq (.ops [mv 16 (t 1),
 mv 17 (t 8),
 o 18 (.ibin .quo (t 17) (k 4)),
 o 19 (.ibin .mul (t 18) (k 1)),
 ad 20 (t 16) (t 19),
 mv 10 (t 20)] [])
 (.seq (.ops [mv 21 (t 1),
 mv 22 (t 8),
 o 23 (.ibin .quo (t 22) (k 4)),
 o 24 (.ibin .mul (t 23) (k 2)),
 ad 25 (t 21) (t 24),
 mv 11 (t 25)] [])
 (.seq (.ops [mv 26 (t 1),
 mv 27 (t 8),
 o 28 (.ibin .quo (t 27) (k 4)),
 o 29 (.ibin .mul (t 28) (k 3)),
 ad 30 (t 26) (t 29),
 mv 12 (t 30)] [])
 (.seq (.seq (.ops [mv 31 (t 8),
 o 32 (.ibin .geq (t 31) (k 8))] [])
 (.cond (t 32)
 (.seq (.seq (.ops [mv 33 (t 8),
 o 34 (.ibin .geq (t 33) (k 50))] [])
 (.cond (t 34)
  (.seq (.ops [mv 35 (t 0),
  mv 36 (t 10),
  ca 37 F.zaA [(t 35),(t 36),(t 9)],
  mv 10 (t 37)] [])
  (.seq (.ops [mv 38 (t 0),
  mv 39 (t 11),
  ca 40 F.zaA [(t 38),(t 39),(t 9)],
  mv 11 (t 40)] [])
  (.ops [mv 41 (t 0),
  mv 42 (t 12),
  ca 43 F.zaA [(t 41),(t 42),(t 9)],
  mv 12 (t 43)] [])))
  (.skip)))
 (.ops [mv 44 (t 0),
 mv 45 (t 10),
 mv 46 (t 11),
 mv 47 (t 12),
 ca 48 F.zeS [(t 44),(t 45),(t 46),(t 47),(t 9)],
 mv 11 (t 48)] []))
 (.skip)))
 (.seq (.ops [l1 49 (t 9)] [])
 (.block 0 (.seq (.ops [o 52 (.ibin .eql (t 49) (k 0)),
 mv 51 (t 52)] [])
 (.cond (t 51)
 (.seq (.ops [mv 53 (t 11),
 mv 6 (t 53),
 mv 7 (k 1)] [])
 (.ret))
 (.seq (.ops [o 55 (.ibin .eql (t 49) (k 12)),
 mv 54 (t 55)] [])
 (.cond (t 54)
  (.seq (.ops [mv 56 (t 11),
  mv 6 (t 56),
  mv 7 (k 2)] [])
  (.ret))
  (.seq (.ops [mv 50 (t 11),
  mv 6 (t 50),
  mv 7 (k 0)] [])
  (.ret))))))))))))))
def zj2:List zd:=[.tmp 6,.tmp 7]
def zjw:RCode:=
 .seq (.ops [mv 8 (t 1),
 mv 6 (t 8)] [])
 (.seq (.ops [mv 9 (t 2),
 o 10 (.ibin .sub (t 9) (k 1)),
 mv 7 (t 10)] [])
 (.block 0 (.loop (.seq (.seq (.ops [mv 11 (t 6),
 mv 12 (t 7),
 o 13 (.ibin .lss (t 11) (t 12))] [])
 (.cond (t 13)
  (.skip)
  (.exit 0)))
 (.block 1 (.seq (.draw (.take (mv 14 (t 0)) (.take (mv 15 (t 6)) (.take (mv 16 (t 0)) (.take (mv 17 (t 7)) (.take (mv 18 (t 0)) (.take (mv 19 (t 7)) (.take (o 20 (.iaddr 1 (t 18) (t 19))) (.take (l1 21 (t 20)) (.take (mv 22 (t 0)) (.take (mv 23 (t 6)) (.take (o 24 (.iaddr 1 (t 22) (t 23))) (.take (l1 25 (t 24)) (.take (o 26 (.iaddr 1 (t 14) (t 15))) (.alt (st 1 (t 26) (t 21)) false
  (.take (o 27 (.iaddr 1 (t 16) (t 17))) (.alt (st 1 (t 27) (t 25)) false
  (.done)
  (.none)))
  (.none))))))))))))))) [])
 (.seq (.ops [mv 28 (t 6),
 ad 29 (t 28) (k 1),
 mv 6 (t 29)] [])
 (.ops [mv 30 (t 7),
 o 31 (.ibin .sub (t 30) (k 1)),
 mv 7 (t 31)] []))))))))
def zjx:List zd:=[]
def zeW:RCode:=
 .seq (.ops [mv 6 (kb false)] [])
 (.seq (.ops [mv 11 (t 1),
 ad 12 (t 11) (k 1),
 mv 7 (t 12)] [])
 (.seq (.seq (.ops [mv 8 (k 0)] [])
 (.block 0 (.loop (.seq (.seq (.ops [mv 13 (t 8),
 o 14 (.ibin .lss (t 13) (k 5))] [])
 (.cond (t 14)
  (.skip)
  (.exit 0)))
 (.seq (.block 1 (.seq (.block 2 (.loop (.seq (.seq (.draw (.take (mv 17 (t 7)) (.take (mv 18 (t 2)) (.take (o 19 (.ibin .lss (t 17) (t 18))) (.take (os 20 (.mov (t 19))) (.take (gt 20 21 (.mov (t 0))) (.take (gt 20 22 (.mov (t 7))) (.take (gt 20 23 (.iaddr 1 (t 21) (t 22))) (.take (gt 20 24 (.load false 1 (t 23))) (.take (gt 20 25 (.mov (t 0))) (.take (gt 20 26 (.mov (t 7))) (.take (gt 20 27 (.ibin .sub (t 26) (k 1))) (.take (gt 20 28 (.iaddr 1 (t 25) (t 27))) (.take (gt 20 29 (.load false 1 (t 28))) (.alt (gt 20 30 (.call (fn F.zx) [(t 24),(t 29)])) false
  (.take (gt 20 31 (.not (t 30))) (.take (o 32 (.pick (t 20) (t 31) (kb false))) (.done)))
  (.none))))))))))))))) [])
  (.cond (t 32)
  (.skip)
  (.exit 2)))
  (.block 3 (.ops [mv 33 (t 7),
  ad 34 (t 33) (k 1),
  mv 7 (t 34)] [])))))
 (.seq (.seq (.ops [mv 35 (t 7),
 mv 36 (t 2),
 o 37 (.ibin .eql (t 35) (t 36))] [])
 (.cond (t 37)
  (.seq (.ops [mv 6 (kb true)] [])
  (.ret))
  (.skip)))
 (.seq (.seq (.ops [mv 38 (t 2),
 mv 39 (t 1),
 o 40 (.ibin .sub (t 38) (t 39)),
 o 41 (.ibin .lss (t 40) (k 50))] [])
 (.cond (t 41)
  (.seq (.ops [mv 6 (kb false)] [])
  (.ret))
  (.skip)))
 (.seq (.draw (.take (mv 42 (t 0)) (.take (mv 43 (t 7)) (.take (mv 44 (t 0)) (.take (mv 45 (t 7)) (.take (o 46 (.ibin .sub (t 45) (k 1))) (.take (mv 47 (t 0)) (.take (mv 48 (t 7)) (.take (o 49 (.ibin .sub (t 48) (k 1))) (.take (o 50 (.iaddr 1 (t 47) (t 49))) (.take (l1 51 (t 50)) (.take (mv 52 (t 0)) (.take (mv 53 (t 7)) (.take (o 54 (.iaddr 1 (t 52) (t 53))) (.take (l1 55 (t 54)) (.take (o 56 (.iaddr 1 (t 42) (t 43))) (.alt (st 1 (t 56) (t 51)) false
  (.take (o 57 (.iaddr 1 (t 44) (t 46))) (.alt (st 1 (t 57) (t 55)) false
  (.done)
  (.none)))
  (.none))))))))))))))))) [])
 (.seq (.seq (.ops [mv 58 (t 7),
 mv 59 (t 1),
 o 60 (.ibin .sub (t 58) (t 59)),
 o 61 (.ibin .geq (t 60) (k 2))] [])
 (.cond (t 61)
  (.seq (.ops [mv 62 (t 7),
  o 63 (.ibin .sub (t 62) (k 1)),
  mv 9 (t 63)] [])
  (.block 4 (.loop (.seq (.seq (.ops [mv 64 (t 9),
  o 65 (.ibin .geq (t 64) (k 1))] [])
  (.cond (t 65)
   (.skip)
   (.exit 4)))
  (.seq (.block 5 (.seq (.seq (.draw (.take (mv 68 (t 0)) (.take (mv 69 (t 9)) (.take (o 70 (.iaddr 1 (t 68) (t 69))) (.take (l1 71 (t 70)) (.take (mv 72 (t 0)) (.take (mv 73 (t 9)) (.take (o 74 (.ibin .sub (t 73) (k 1))) (.take (o 75 (.iaddr 1 (t 72) (t 74))) (.take (l1 76 (t 75)) (.alt (ca 77 F.zx [(t 71),(t 76)]) false
   (.take (o 78 (.not (t 77))) (.done))
   (.none))))))))))) [])
  (.cond (t 78)
   (.exit 4)
   (.skip)))
  (.draw (.take (mv 79 (t 0)) (.take (mv 80 (t 9)) (.take (mv 81 (t 0)) (.take (mv 82 (t 9)) (.take (o 83 (.ibin .sub (t 82) (k 1))) (.take (mv 84 (t 0)) (.take (mv 85 (t 9)) (.take (o 86 (.ibin .sub (t 85) (k 1))) (.take (o 87 (.iaddr 1 (t 84) (t 86))) (.take (l1 88 (t 87)) (.take (mv 89 (t 0)) (.take (mv 90 (t 9)) (.take (o 91 (.iaddr 1 (t 89) (t 90))) (.take (l1 92 (t 91)) (.take (o 93 (.iaddr 1 (t 79) (t 80))) (.alt (st 1 (t 93) (t 88)) false
   (.take (o 94 (.iaddr 1 (t 81) (t 83))) (.alt (st 1 (t 94) (t 92)) false
   (.done)
   (.none)))
   (.none))))))))))))))))) [])))
  (.ops [mv 66 (t 9),
  o 67 (.ibin .sub (t 66) (k 1)),
  mv 9 (t 67)] []))))))
  (.skip)))
 (.seq (.ops [mv 95 (t 2),
 mv 96 (t 7),
 o 97 (.ibin .sub (t 95) (t 96)),
 o 98 (.ibin .geq (t 97) (k 2))] [])
 (.cond (t 98)
  (.seq (.ops [mv 99 (t 7),
  ad 100 (t 99) (k 1),
  mv 10 (t 100)] [])
  (.block 6 (.loop (.seq (.seq (.ops [mv 101 (t 10),
  mv 102 (t 2),
  o 103 (.ibin .lss (t 101) (t 102))] [])
  (.cond (t 103)
   (.skip)
   (.exit 6)))
  (.seq (.block 7 (.seq (.seq (.draw (.take (mv 106 (t 0)) (.take (mv 107 (t 10)) (.take (o 108 (.iaddr 1 (t 106) (t 107))) (.take (l1 109 (t 108)) (.take (mv 110 (t 0)) (.take (mv 111 (t 10)) (.take (o 112 (.ibin .sub (t 111) (k 1))) (.take (o 113 (.iaddr 1 (t 110) (t 112))) (.take (l1 114 (t 113)) (.alt (ca 115 F.zx [(t 109),(t 114)]) false
   (.take (o 116 (.not (t 115))) (.done))
   (.none))))))))))) [])
  (.cond (t 116)
   (.exit 6)
   (.skip)))
  (.draw (.take (mv 117 (t 0)) (.take (mv 118 (t 10)) (.take (mv 119 (t 0)) (.take (mv 120 (t 10)) (.take (o 121 (.ibin .sub (t 120) (k 1))) (.take (mv 122 (t 0)) (.take (mv 123 (t 10)) (.take (o 124 (.ibin .sub (t 123) (k 1))) (.take (o 125 (.iaddr 1 (t 122) (t 124))) (.take (l1 126 (t 125)) (.take (mv 127 (t 0)) (.take (mv 128 (t 10)) (.take (o 129 (.iaddr 1 (t 127) (t 128))) (.take (l1 130 (t 129)) (.take (o 131 (.iaddr 1 (t 117) (t 118))) (.alt (st 1 (t 131) (t 126)) false
   (.take (o 132 (.iaddr 1 (t 119) (t 121))) (.alt (st 1 (t 132) (t 130)) false
   (.done)
   (.none)))
   (.none))))))))))))))))) [])))
  (.ops [mv 104 (t 10),
  ad 105 (t 104) (k 1),
  mv 10 (t 105)] []))))))
  (.skip)))))))))
 (.ops [mv 15 (t 8),
 ad 16 (t 15) (k 1),
 mv 8 (t 16)] []))))))
 (.seq (.ops [mv 6 (kb false)] [])
 (.ret))))
def zeX:List zd:=[.tmp 6]
def zvX:RCode:=
 .seq (.ops [mv 4 (kb false)] [])
 (.seq (.ops [mv 5 (t 0),
 ca 6 F.zny [(t 5)],
 os 7 (.mov (t 6)),
 gt 7 8 (.mov (t 1)),
 gt 7 9 (.call (fn F.zny) [(t 8)]),
 gt 7 10 (.not (t 9)),
 o 11 (.pick (t 7) (t 10) (kb false)),
 os 12 (.mov (t 11)),
 gf 12 13 (.mov (t 0)),
 gf 12 14 (.mov (t 1)),
 gf 12 15 (.strE .lss (t 13) (t 14)),
 o 16 (.pick (t 12) (kb true) (t 15)),
 mv 4 (t 16)] [])
 (.ret))
def zvY:List zd:=[.tmp 4]
def ziq:RCode:=
 .seq (.ops [mv 8 (k 0)] [])
 (.seq (.draw (.take (mv 11 (t 0)) (.take (mv 12 (t 1)) (.take (mv 13 (t 0)) (.take (mv 14 (t 3)) (.take (mv 15 (t 0)) (.take (mv 16 (t 3)) (.take (o 17 (.iaddr 1 (t 15) (t 16))) (.take (l1 18 (t 17)) (.take (mv 19 (t 0)) (.take (mv 20 (t 1)) (.take (o 21 (.iaddr 1 (t 19) (t 20))) (.take (l1 22 (t 21)) (.take (o 23 (.iaddr 1 (t 11) (t 12))) (.alt (st 1 (t 23) (t 18)) false
 (.take (o 24 (.iaddr 1 (t 13) (t 14))) (.alt (st 1 (t 24) (t 22)) false
  (.done)
  (.none)))
 (.none))))))))))))))) [])
 (.seq (.ops [mv 25 (t 1),
 ad 26 (t 25) (k 1),
 mv 27 (t 2),
 o 28 (.ibin .sub (t 27) (k 1)),
 mv 9 (t 26),
 mv 10 (t 28)] [])
 (.seq (.block 0 (.loop (.block 1 (.seq (.block 2 (.loop (.seq (.seq (.draw (.take (mv 29 (t 9)) (.take (mv 30 (t 10)) (.take (o 31 (.ibin .leq (t 29) (t 30))) (.take (os 32 (.mov (t 31))) (.take (gt 32 33 (.mov (t 0))) (.take (gt 32 34 (.mov (t 1))) (.take (gt 32 35 (.iaddr 1 (t 33) (t 34))) (.take (gt 32 36 (.load false 1 (t 35))) (.take (gt 32 37 (.mov (t 0))) (.take (gt 32 38 (.mov (t 9))) (.take (gt 32 39 (.iaddr 1 (t 37) (t 38))) (.take (gt 32 40 (.load false 1 (t 39))) (.alt (gt 32 41 (.call (fn F.zx) [(t 36),(t 40)])) false
  (.take (gt 32 42 (.not (t 41))) (.take (o 43 (.pick (t 32) (t 42) (kb false))) (.done)))
  (.none)))))))))))))) [])
  (.cond (t 43)
  (.skip)
  (.exit 2)))
  (.block 3 (.ops [mv 44 (t 9),
  ad 45 (t 44) (k 1),
  mv 9 (t 45)] [])))))
 (.seq (.block 4 (.loop (.seq (.seq (.draw (.take (mv 46 (t 9)) (.take (mv 47 (t 10)) (.take (o 48 (.ibin .leq (t 46) (t 47))) (.take (os 49 (.mov (t 48))) (.take (gt 49 50 (.mov (t 0))) (.take (gt 49 51 (.mov (t 1))) (.take (gt 49 52 (.iaddr 1 (t 50) (t 51))) (.take (gt 49 53 (.load false 1 (t 52))) (.take (gt 49 54 (.mov (t 0))) (.take (gt 49 55 (.mov (t 10))) (.take (gt 49 56 (.iaddr 1 (t 54) (t 55))) (.take (gt 49 57 (.load false 1 (t 56))) (.alt (gt 49 58 (.call (fn F.zx) [(t 53),(t 57)])) false
  (.take (o 59 (.pick (t 49) (t 58) (kb false))) (.done))
  (.none)))))))))))))) [])
  (.cond (t 59)
  (.skip)
  (.exit 4)))
  (.block 5 (.ops [mv 60 (t 10),
  o 61 (.ibin .sub (t 60) (k 1)),
  mv 10 (t 61)] [])))))
 (.seq (.seq (.ops [mv 62 (t 9),
 mv 63 (t 10),
 o 64 (.ibin .gtr (t 62) (t 63))] [])
 (.cond (t 64)
  (.exit 0)
  (.skip)))
 (.seq (.draw (.take (mv 65 (t 0)) (.take (mv 66 (t 9)) (.take (mv 67 (t 0)) (.take (mv 68 (t 10)) (.take (mv 69 (t 0)) (.take (mv 70 (t 10)) (.take (o 71 (.iaddr 1 (t 69) (t 70))) (.take (l1 72 (t 71)) (.take (mv 73 (t 0)) (.take (mv 74 (t 9)) (.take (o 75 (.iaddr 1 (t 73) (t 74))) (.take (l1 76 (t 75)) (.take (o 77 (.iaddr 1 (t 65) (t 66))) (.alt (st 1 (t 77) (t 72)) false
  (.take (o 78 (.iaddr 1 (t 67) (t 68))) (.alt (st 1 (t 78) (t 76)) false
  (.done)
  (.none)))
  (.none))))))))))))))) [])
 (.seq (.ops [mv 79 (t 9),
 ad 80 (t 79) (k 1),
 mv 9 (t 80)] [])
 (.ops [mv 81 (t 10),
 o 82 (.ibin .sub (t 81) (k 1)),
 mv 10 (t 82)] [])))))))))
 (.seq (.ops [mv 83 (t 9),
 mv 8 (t 83)] [])
 (.ret)))))
def zir:List zd:=[.tmp 8]
def zlg:RCode:=
 .seq (.ops [mv 8 (k 0),
 mv 9 (kb false)] [])
 (.seq (.draw (.take (mv 12 (t 0)) (.take (mv 13 (t 1)) (.take (mv 14 (t 0)) (.take (mv 15 (t 3)) (.take (mv 16 (t 0)) (.take (mv 17 (t 3)) (.take (o 18 (.iaddr 1 (t 16) (t 17))) (.take (l1 19 (t 18)) (.take (mv 20 (t 0)) (.take (mv 21 (t 1)) (.take (o 22 (.iaddr 1 (t 20) (t 21))) (.take (l1 23 (t 22)) (.take (o 24 (.iaddr 1 (t 12) (t 13))) (.alt (st 1 (t 24) (t 19)) false
 (.take (o 25 (.iaddr 1 (t 14) (t 15))) (.alt (st 1 (t 25) (t 23)) false
  (.done)
  (.none)))
 (.none))))))))))))))) [])
 (.seq (.ops [mv 26 (t 1),
 ad 27 (t 26) (k 1),
 mv 28 (t 2),
 o 29 (.ibin .sub (t 28) (k 1)),
 mv 10 (t 27),
 mv 11 (t 29)] [])
 (.seq (.block 0 (.loop (.seq (.seq (.draw (.take (mv 30 (t 10)) (.take (mv 31 (t 11)) (.take (o 32 (.ibin .leq (t 30) (t 31))) (.take (os 33 (.mov (t 32))) (.take (gt 33 34 (.mov (t 0))) (.take (gt 33 35 (.mov (t 10))) (.take (gt 33 36 (.iaddr 1 (t 34) (t 35))) (.take (gt 33 37 (.load false 1 (t 36))) (.take (gt 33 38 (.mov (t 0))) (.take (gt 33 39 (.mov (t 1))) (.take (gt 33 40 (.iaddr 1 (t 38) (t 39))) (.take (gt 33 41 (.load false 1 (t 40))) (.alt (gt 33 42 (.call (fn F.zx) [(t 37),(t 41)])) false
  (.take (o 43 (.pick (t 33) (t 42) (kb false))) (.done))
  (.none)))))))))))))) [])
 (.cond (t 43)
  (.skip)
  (.exit 0)))
 (.block 1 (.ops [mv 44 (t 10),
 ad 45 (t 44) (k 1),
 mv 10 (t 45)] [])))))
 (.seq (.block 2 (.loop (.seq (.seq (.draw (.take (mv 46 (t 10)) (.take (mv 47 (t 11)) (.take (o 48 (.ibin .leq (t 46) (t 47))) (.take (os 49 (.mov (t 48))) (.take (gt 49 50 (.mov (t 0))) (.take (gt 49 51 (.mov (t 11))) (.take (gt 49 52 (.iaddr 1 (t 50) (t 51))) (.take (gt 49 53 (.load false 1 (t 52))) (.take (gt 49 54 (.mov (t 0))) (.take (gt 49 55 (.mov (t 1))) (.take (gt 49 56 (.iaddr 1 (t 54) (t 55))) (.take (gt 49 57 (.load false 1 (t 56))) (.alt (gt 49 58 (.call (fn F.zx) [(t 53),(t 57)])) false
  (.take (gt 49 59 (.not (t 58))) (.take (o 60 (.pick (t 49) (t 59) (kb false))) (.done)))
  (.none)))))))))))))) [])
 (.cond (t 60)
  (.skip)
  (.exit 2)))
 (.block 3 (.ops [mv 61 (t 11),
 o 62 (.ibin .sub (t 61) (k 1)),
 mv 11 (t 62)] [])))))
 (.seq (.seq (.ops [mv 63 (t 10),
 mv 64 (t 11),
 o 65 (.ibin .gtr (t 63) (t 64))] [])
 (.cond (t 65)
 (.seq (.draw (.take (mv 66 (t 0)) (.take (mv 67 (t 11)) (.take (mv 68 (t 0)) (.take (mv 69 (t 1)) (.take (mv 70 (t 0)) (.take (mv 71 (t 1)) (.take (o 72 (.iaddr 1 (t 70) (t 71))) (.take (l1 73 (t 72)) (.take (mv 74 (t 0)) (.take (mv 75 (t 11)) (.take (o 76 (.iaddr 1 (t 74) (t 75))) (.take (l1 77 (t 76)) (.take (o 78 (.iaddr 1 (t 66) (t 67))) (.alt (st 1 (t 78) (t 73)) false
  (.take (o 79 (.iaddr 1 (t 68) (t 69))) (.alt (st 1 (t 79) (t 77)) false
  (.done)
  (.none)))
  (.none))))))))))))))) [])
 (.seq (.ops [mv 80 (t 11),
 mv 8 (t 80),
 mv 9 (kb true)] [])
 (.ret)))
 (.skip)))
 (.seq (.draw (.take (mv 81 (t 0)) (.take (mv 82 (t 10)) (.take (mv 83 (t 0)) (.take (mv 84 (t 11)) (.take (mv 85 (t 0)) (.take (mv 86 (t 11)) (.take (o 87 (.iaddr 1 (t 85) (t 86))) (.take (l1 88 (t 87)) (.take (mv 89 (t 0)) (.take (mv 90 (t 10)) (.take (o 91 (.iaddr 1 (t 89) (t 90))) (.take (l1 92 (t 91)) (.take (o 93 (.iaddr 1 (t 81) (t 82))) (.alt (st 1 (t 93) (t 88)) false
 (.take (o 94 (.iaddr 1 (t 83) (t 84))) (.alt (st 1 (t 94) (t 92)) false
  (.done)
  (.none)))
 (.none))))))))))))))) [])
 (.seq (.ops [mv 95 (t 10),
 ad 96 (t 95) (k 1),
 mv 10 (t 96)] [])
 (.seq (.ops [mv 97 (t 11),
 o 98 (.ibin .sub (t 97) (k 1)),
 mv 11 (t 98)] [])
 (.seq (.block 4 (.loop (.block 5 (.seq (.block 6 (.loop (.seq (.seq (.draw (.take (mv 99 (t 10)) (.take (mv 100 (t 11)) (.take (o 101 (.ibin .leq (t 99) (t 100))) (.take (os 102 (.mov (t 101))) (.take (gt 102 103 (.mov (t 0))) (.take (gt 102 104 (.mov (t 10))) (.take (gt 102 105 (.iaddr 1 (t 103) (t 104))) (.take (gt 102 106 (.load false 1 (t 105))) (.take (gt 102 107 (.mov (t 0))) (.take (gt 102 108 (.mov (t 1))) (.take (gt 102 109 (.iaddr 1 (t 107) (t 108))) (.take (gt 102 110 (.load false 1 (t 109))) (.alt (gt 102 111 (.call (fn F.zx) [(t 106),(t 110)])) false
  (.take (o 112 (.pick (t 102) (t 111) (kb false))) (.done))
  (.none)))))))))))))) [])
  (.cond (t 112)
  (.skip)
  (.exit 6)))
  (.block 7 (.ops [mv 113 (t 10),
  ad 114 (t 113) (k 1),
  mv 10 (t 114)] [])))))
 (.seq (.block 8 (.loop (.seq (.seq (.draw (.take (mv 115 (t 10)) (.take (mv 116 (t 11)) (.take (o 117 (.ibin .leq (t 115) (t 116))) (.take (os 118 (.mov (t 117))) (.take (gt 118 119 (.mov (t 0))) (.take (gt 118 120 (.mov (t 11))) (.take (gt 118 121 (.iaddr 1 (t 119) (t 120))) (.take (gt 118 122 (.load false 1 (t 121))) (.take (gt 118 123 (.mov (t 0))) (.take (gt 118 124 (.mov (t 1))) (.take (gt 118 125 (.iaddr 1 (t 123) (t 124))) (.take (gt 118 126 (.load false 1 (t 125))) (.alt (gt 118 127 (.call (fn F.zx) [(t 122),(t 126)])) false
  (.take (gt 118 128 (.not (t 127))) (.take (o 129 (.pick (t 118) (t 128) (kb false))) (.done)))
  (.none)))))))))))))) [])
  (.cond (t 129)
  (.skip)
  (.exit 8)))
  (.block 9 (.ops [mv 130 (t 11),
  o 131 (.ibin .sub (t 130) (k 1)),
  mv 11 (t 131)] [])))))
 (.seq (.seq (.ops [mv 132 (t 10),
 mv 133 (t 11),
 o 134 (.ibin .gtr (t 132) (t 133))] [])
 (.cond (t 134)
  (.exit 4)
  (.skip)))
 (.seq (.draw (.take (mv 135 (t 0)) (.take (mv 136 (t 10)) (.take (mv 137 (t 0)) (.take (mv 138 (t 11)) (.take (mv 139 (t 0)) (.take (mv 140 (t 11)) (.take (o 141 (.iaddr 1 (t 139) (t 140))) (.take (l1 142 (t 141)) (.take (mv 143 (t 0)) (.take (mv 144 (t 10)) (.take (o 145 (.iaddr 1 (t 143) (t 144))) (.take (l1 146 (t 145)) (.take (o 147 (.iaddr 1 (t 135) (t 136))) (.alt (st 1 (t 147) (t 142)) false
  (.take (o 148 (.iaddr 1 (t 137) (t 138))) (.alt (st 1 (t 148) (t 146)) false
  (.done)
  (.none)))
  (.none))))))))))))))) [])
 (.seq (.ops [mv 149 (t 10),
 ad 150 (t 149) (k 1),
 mv 10 (t 150)] [])
 (.ops [mv 151 (t 11),
 o 152 (.ibin .sub (t 151) (k 1)),
 mv 11 (t 152)] [])))))))))
 (.seq (.draw (.take (mv 153 (t 0)) (.take (mv 154 (t 11)) (.take (mv 155 (t 0)) (.take (mv 156 (t 1)) (.take (mv 157 (t 0)) (.take (mv 158 (t 1)) (.take (o 159 (.iaddr 1 (t 157) (t 158))) (.take (l1 160 (t 159)) (.take (mv 161 (t 0)) (.take (mv 162 (t 11)) (.take (o 163 (.iaddr 1 (t 161) (t 162))) (.take (l1 164 (t 163)) (.take (o 165 (.iaddr 1 (t 153) (t 154))) (.alt (st 1 (t 165) (t 160)) false
 (.take (o 166 (.iaddr 1 (t 155) (t 156))) (.alt (st 1 (t 166) (t 164)) false
  (.done)
  (.none)))
 (.none))))))))))))))) [])
 (.seq (.ops [mv 167 (t 11),
 mv 8 (t 167),
 mv 9 (kb false)] [])
 (.ret))))))))))))
def zlh:List zd:=[.tmp 8,.tmp 9]
def zvZ:RCode:=
 .seq (.ops [mv 2 (k 0)] [])
 (.seq (.seq (.ops [mv 3 (t 0),
 o 4 (.ibin .geq (t 3) (.const (.int .u32 65536)))] [])
 (.cond (t 4)
 (.seq (.ops [mv 5 (t 0),
 o 6 (.ibin .shr (t 5) (.const (.int .u64 16))),
 mv 0 (t 6)] [])
 (.ops [mv 2 (k 16)] []))
 (.skip)))
 (.seq (.seq (.ops [mv 7 (t 0),
 o 8 (.ibin .geq (t 7) (.const (.int .u32 256)))] [])
 (.cond (t 8)
 (.seq (.ops [mv 9 (t 0),
 o 10 (.ibin .shr (t 9) (.const (.int .u64 8))),
 mv 0 (t 10)] [])
 (.ops [mv 11 (t 2),
 ad 12 (t 11) (k 8),
 mv 2 (t 12)] []))
 (.skip)))
 (.seq (.ops [mv 13 (t 2),
 mv 14 (t 0),
 o 15 (.conv .u8 (t 14)),
 o 16 (.sidx (.const (.string ⟨#[0,1,2,2,3,3,3,3,4,4,4,4,4,4,4,4,5,5,5,5,5,5,5,5,5,5,5,5,5,5,5,5,6,6,6,6,6,6,6,6,6,6,6,6,6,6,6,6,6,6,6,6,6,6,6,6,6,6,6,6,6,6,6,6,7,7,7,7,7,7,7,7,7,7,7,7,7,7,7,7,7,7,7,7,7,7,7,7,7,7,7,7,7,7,7,7,7,7,7,7,7,7,7,7,7,7,7,7,7,7,7,7,7,7,7,7,7,7,7,7,7,7,7,7,7,7,7,7,8,8,8,8,8,8,8,8,8,8,8,8,8,8,8,8,8,8,8,8,8,8,8,8,8,8,8,8,8,8,8,8,8,8,8,8,8,8,8,8,8,8,8,8,8,8,8,8,8,8,8,8,8,8,8,8,8,8,8,8,8,8,8,8,8,8,8,8,8,8,8,8,8,8,8,8,8,8,8,8,8,8,8,8,8,8,8,8,8,8,8,8,8,8,8,8,8,8,8,8,8,8,8,8,8,8,8,8,8,8,8,8,8,8,8,8,8,8,8,8,8,8,8,8,8,8,8,8]⟩)) (t 15)),
 o 17 (.conv .i64 (t 16)),
 ad 18 (t 13) (t 17),
 mv 2 (t 18)] [])
 (.ret))))
def zv0:List zd:=[.tmp 2]
def zfA:RCode:=
 .seq (.ops [mv 2 (k 0)] [])
 (.seq (.seq (.ops [mv 3 (t 0),
 o 4 (.ibin .geq (t 3) (.const (.int .u64 4294967296)))] [])
 (.cond (t 4)
 (.seq (.ops [mv 5 (t 0),
 o 6 (.ibin .shr (t 5) (.const (.int .u64 32))),
 mv 0 (t 6)] [])
 (.ops [mv 2 (k 32)] []))
 (.skip)))
 (.seq (.seq (.ops [mv 7 (t 0),
 o 8 (.ibin .geq (t 7) (.const (.int .u64 65536)))] [])
 (.cond (t 8)
 (.seq (.ops [mv 9 (t 0),
 o 10 (.ibin .shr (t 9) (.const (.int .u64 16))),
 mv 0 (t 10)] [])
 (.ops [mv 11 (t 2),
 ad 12 (t 11) (k 16),
 mv 2 (t 12)] []))
 (.skip)))
 (.seq (.seq (.ops [mv 13 (t 0),
 o 14 (.ibin .geq (t 13) (.const (.int .u64 256)))] [])
 (.cond (t 14)
 (.seq (.ops [mv 15 (t 0),
 o 16 (.ibin .shr (t 15) (.const (.int .u64 8))),
 mv 0 (t 16)] [])
 (.ops [mv 17 (t 2),
 ad 18 (t 17) (k 8),
 mv 2 (t 18)] []))
 (.skip)))
 (.seq (.ops [mv 19 (t 2),
 mv 20 (t 0),
 o 21 (.conv .u8 (t 20)),
 o 22 (.sidx (.const (.string ⟨#[0,1,2,2,3,3,3,3,4,4,4,4,4,4,4,4,5,5,5,5,5,5,5,5,5,5,5,5,5,5,5,5,6,6,6,6,6,6,6,6,6,6,6,6,6,6,6,6,6,6,6,6,6,6,6,6,6,6,6,6,6,6,6,6,7,7,7,7,7,7,7,7,7,7,7,7,7,7,7,7,7,7,7,7,7,7,7,7,7,7,7,7,7,7,7,7,7,7,7,7,7,7,7,7,7,7,7,7,7,7,7,7,7,7,7,7,7,7,7,7,7,7,7,7,7,7,7,7,8,8,8,8,8,8,8,8,8,8,8,8,8,8,8,8,8,8,8,8,8,8,8,8,8,8,8,8,8,8,8,8,8,8,8,8,8,8,8,8,8,8,8,8,8,8,8,8,8,8,8,8,8,8,8,8,8,8,8,8,8,8,8,8,8,8,8,8,8,8,8,8,8,8,8,8,8,8,8,8,8,8,8,8,8,8,8,8,8,8,8,8,8,8,8,8,8,8,8,8,8,8,8,8,8,8,8,8,8,8,8,8,8,8,8,8,8,8,8,8,8,8,8,8,8,8,8,8]⟩)) (t 21)),
 o 23 (.conv .i64 (t 22)),
 ad 24 (t 19) (t 23),
 mv 2 (t 24)] [])
 (.ret)))))
def zfB:List zd:=[.tmp 2]
theorem zt3 {args:List Value} {M:Mem} {R:Value→Mem→Prop} (hn:args.length≤25) (h:zj Tryz.prog zfA zfB args M R):CallsM Tryz.prog F.zjX args M R:=
 zf (kf:=fun _=>[]) Tryz.func216 (by kernel_rfl) (by kernel_rfl) hn (by kernel_rfl) h
def zoJ:RCode:=
 .seq (.ops [mv 4 (.const (.int .u32 0))] [])
 (.seq (.seq (.ops [mv 5 (t 0),
 o 6 (.ibin .and (t 5) (.const (.int .u32 1))),
 o 7 (.ibin .eql (t 6) (.const (.int .u32 1)))] [])
 (.cond (t 7)
 (.seq (.ops [mv 8 (t 0),
 o 9 (.ibin .shr (t 8) (.const (.int .u64 1))),
 mv 10 (t 1),
 o 11 (.ibin .xor (t 9) (t 10)),
 mv 4 (t 11)] [])
 (.ret))
 (.skip)))
 (.seq (.ops [mv 12 (t 0),
 o 13 (.ibin .shr (t 12) (.const (.int .u64 1))),
 mv 4 (t 13)] [])
 (.ret)))
def zoK:List zd:=[.tmp 4]
theorem zDK {args:List Value} {M:Mem} {R:Value→Mem→Prop} (hn:args.length≤14) (h:zj Tryz.prog zoJ zoK args M R):CallsM Tryz.prog F.zof args M R:=
 zf (kf:=fun _=>[]) Tryz.func217 (by kernel_rfl) (by kernel_rfl) hn (by kernel_rfl) h
def zjy:RCode:=
 .seq (.ops [o 1 (.box 86 (t 0)),
 mv 2 (k 0)] [])
 (.seq (.seq (.ops [fa 4 0 (t 1),
 la 5 4 (t 4),
 ca 6 F.zbh [(t 5)],
 mv 3 (t 6)] [])
 (.seq (.ops [mv 7 (t 3),
 o 8 (.ibin .neq (t 7) (k 0))] [])
 (.cond (t 8)
 (.seq (.ops [mv 9 (t 3),
 mv 2 (t 9)] [])
 (.ret))
 (.skip))))
 (.seq (.seq (.ops [fa 10 4 (t 1),
 l1 11 (t 10),
 o 12 (.len (t 11)),
 o 13 (.ibin .eql (t 12) (k 0))] [])
 (.cond (t 13)
 (.seq (.ops [mv 2 (k 2)] [])
 (.ret))
 (.skip)))
 (.seq (.seq (.ops [fa 14 4 (t 1),
 l1 15 (t 14),
 o 16 (.len (t 15)),
 o 17 (.ibin .gtr (t 16) (k 48))] [])
 (.cond (t 17)
 (.seq (.ops [mv 2 (k 3)] [])
 (.ret))
 (.skip)))
 (.seq (.ops [mv 2 (k 0)] [])
 (.ret)))))
def zjz:List zd:=[.tmp 2]
theorem zzi {args:List Value} {M:Mem} {R:Value→Mem→Prop} (hn:args.length≤18) (h:zj Tryz.prog zjy zjz args M R):CallsM Tryz.prog F.zc0 args M R:=
 zf (kf:=fun _=>[]) Tryz.func218 (by kernel_rfl) (by kernel_rfl) hn (by kernel_rfl) h
def zCB:RCode:=
 .seq (.ops [o 1 (.box 89 (t 0)),
 mv 2 (kb false)] [])
 (.seq (.seq (.ops [fa 6 0 (t 1),
 l1 7 (t 6),
 o 8 (.ibin .lss (t 7) (k 0)),
 os 9 (.mov (t 8)),
 gf 9 10 (.faddr 0 (t 1)),
 gf 9 11 (.load false 1 (t 10)),
 gf 9 12 (.ibin .geq (t 11) (k 64)),
 o 13 (.pick (t 9) (kb true) (t 12)),
 os 14 (.mov (t 13)),
 gf 14 15 (.faddr 1 (t 1)),
 gf 14 16 (.load false 1 (t 15)),
 gf 14 17 (.ibin .lss (t 16) (k 1)),
 o 18 (.pick (t 14) (kb true) (t 17)),
 os 19 (.mov (t 18)),
 gf 19 20 (.faddr 1 (t 1)),
 gf 19 21 (.load false 1 (t 20)),
 gf 19 22 (.ibin .gtr (t 21) (k 65535)),
 o 23 (.pick (t 19) (kb true) (t 22)),
 os 24 (.mov (t 23)),
 gf 24 25 (.faddr 2 (t 1)),
 gf 24 26 (.load false 1 (t 25)),
 gf 24 27 (.ibin .lss (t 26) (k 0)),
 o 28 (.pick (t 24) (kb true) (t 27)),
 os 29 (.mov (t 28)),
 gf 29 30 (.faddr 2 (t 1)),
 gf 29 31 (.load false 1 (t 30)),
 gf 29 32 (.ibin .gtr (t 31) (k 65535)),
 o 33 (.pick (t 29) (kb true) (t 32))] [])
 (.cond (t 33)
 (.seq (.ops [mv 2 (kb false)] [])
 (.ret))
 (.skip)))
 (.seq (.ops [fa 34 2 (t 1),
 l1 35 (t 34),
 ad 36 (t 35) (k 1),
 mv 3 (t 36)] [])
 (.seq (.seq (.ops [fa 37 3 (t 1),
 l1 38 (t 37),
 o 39 (.len (t 38)),
 mv 40 (k 0)] [])
 (.block 0 (.loop (.seq (.ops [o 41 (.ibin .lss (t 40) (t 39))] [])
 (.seq (.cond (t 41)
  (.skip)
  (.exit 0))
 (.seq (.block 1 (.seq (.ops [o 42 (.iaddr 1 (t 38) (t 40)),
 l1 43 (t 42),
 mv 5 (t 43)] [])
 (.seq (.seq (.ops [mv 44 (t 5),
 mv 45 (t 3),
 o 46 (.ibin .leq (t 44) (t 45)),
 os 47 (.mov (t 46)),
 gf 47 48 (.mov (t 5)),
 gf 47 49 (.ibin .gtr (t 48) (k 65535)),
 o 50 (.pick (t 47) (kb true) (t 49))] [])
 (.cond (t 50)
  (.seq (.ops [mv 2 (kb false)] [])
  (.ret))
  (.skip)))
 (.ops [mv 51 (t 5),
 mv 3 (t 51)] []))))
 (.ops [ad 52 (t 40) (k 1),
 mv 40 (t 52)] [])))))))
 (.seq (.ops [fa 53 2 (t 1),
 l1 54 (t 53),
 o 55 (.ibin .gtr (t 54) (k 0)),
 os 56 (.mov (t 55)),
 gf 56 57 (.faddr 3 (t 1)),
 gf 56 58 (.load false 1 (t 57)),
 gf 56 59 (.len (t 58)),
 gf 56 60 (.ibin .gtr (t 59) (k 0)),
 o 61 (.pick (t 56) (kb true) (t 60)),
 mv 2 (t 61)] [])
 (.ret)))))
def zCC:List zd:=[.tmp 2]
def zzj:RCode:=
 .seq (.ops [mv 2 (k 0)] [])
 (.seq (.ops [mv 3 (k 0)] [])
 (.seq (.seq (.ops [mv 6 (t 0),
 o 7 (.pnil .neq (t 6) (.const (.pointer none)))] [])
 (.cond (t 7)
 (.seq (.ops [mv 8 (t 0),
 o 9 (.nilck (t 8)),
 fa 10 1 (t 9),
 l1 11 (t 10),
 o 12 (.mrange (t 11))] [])
 (.block 0 (.loop (.seq (.ops [o 13 (.mnext (t 12)),
  ex 14 (t 13) 0] [])
  (.seq (.cond (t 14)
  (.skip)
  (.exit 0))
  (.block 1 (.seq (.ops [o 15 (.mentry (t 12)),
  ex 16 (t 15) 1,
  mv 5 (t 16)] [])
  (.ops [mv 17 (t 3),
  mv 18 (t 5),
  o 19 (.nilck (t 18)),
  fa 20 1 (t 19),
  l1 21 (t 20),
  o 22 (.len (t 21)),
  ad 23 (t 17) (t 22),
  mv 3 (t 23)] []))))))))
 (.skip)))
 (.seq (.ops [mv 24 (t 3),
 mv 2 (t 24)] [])
 (.ret))))
def zzk:List zd:=[.tmp 2]
def zhc:RCode:=
 .seq (.ops [mv 4 (k 0)] [])
 (.seq (.seq (.ops [mv 8 (t 1),
 o 9 (.len (t 8)),
 mv 10 (k 0)] [])
 (.block 0 (.loop (.seq (.ops [o 11 (.ibin .lss (t 10) (t 9))] [])
 (.seq (.cond (t 11)
  (.skip)
  (.exit 0))
 (.seq (.block 1 (.seq (.ops [o 12 (.iaddr 1 (t 8) (t 10)),
 l1 13 (t 12),
 mv 6 (t 13)] [])
 (.seq (.draw (.take (mv 14 (t 0)) (.take (o 15 (.nilck (t 14))) (.take (fa 16 0 (t 15)) (.take (l1 17 (t 16)) (.take (mv 18 (t 6)) (.alt (ca 19 F.za4 [(t 18)]) true
  (.alt (ca 20 F.zcb [(t 17),(t 19)]) false
  (.take (mv 7 (t 20)) (.done))
  (.none))
  (.none))))))) [])
 (.seq (.ops [mv 21 (t 7),
 o 22 (.ibin .neq (t 21) (k 0))] [])
 (.cond (t 22)
  (.seq (.ops [mv 23 (t 7),
  mv 4 (t 23)] [])
  (.ret))
  (.skip))))))
 (.ops [ad 24 (t 10) (k 1),
 mv 10 (t 24)] [])))))))
 (.seq (.ops [mv 4 (k 0)] [])
 (.ret)))
def zhd:List zd:=[.tmp 4]
theorem zv1 {args:List Value} {M:Mem} {R:Value→Mem→Prop} (hn:args.length≤25) (h:zj Tryz.prog zhc zhd args M R):CallsM Tryz.prog F.zdd args M R:=
 zf (kf:=fun _=>[]) Tryz.func221 (by kernel_rfl) (by kernel_rfl) hn (by kernel_rfl) h
def zey:RCode:=
 .seq (.ops [mv 4 (.const sn)] [])
 (.seq (.ops [mv 5 (.const sn)] [])
 (.seq (.seq (.ops [mv 9 (t 0),
 o 10 (.nilck (t 9)),
 fa 11 0 (t 10),
 l1 12 (t 11),
 ca 13 F.zbu [(t 12)],
 o 14 (.len (t 13)),
 mv 15 (k 0)] [])
 (.block 0 (.loop (.seq (.ops [o 16 (.ibin .lss (t 15) (t 14))] [])
 (.seq (.cond (t 16)
  (.skip)
  (.exit 0))
 (.seq (.block 1 (.seq (.ops [o 17 (.iaddr 1 (t 13) (t 15)),
 l1 18 (t 17),
 mv 7 (t 18)] [])
 (.seq (.ops [mv 19 (t 7),
 ca 20 F.zCo [(t 19)],
 mv 8 (t 20)] [])
 (.seq (.ops [mv 21 (t 8),
 o 22 (.ibin .gtr (t 21) (k 0)),
 os 23 (.mov (t 22)),
 gt 23 24 (.mov (t 1)),
 gt 23 25 (.mov (t 8)),
 gt 23 26 (.call (t 24) [(t 25)]),
 o 27 (.pick (t 23) (t 26) (kb false))] [])
 (.cond (t 27)
  (.ops [mv 28 (t 5),
  mv 29 (t 8),
  o 30 (.mkSl true 3 1 [(i 0)] [(0,1,(t 29))]),
  o 31 (.app 3 1 8 [(i 0)] (t 28) (t 30)),
  mv 5 (t 31)] [])
  (.skip))))))
 (.ops [ad 32 (t 15) (k 1),
 mv 15 (t 32)] [])))))))
 (.seq (.ops [mv 33 (t 5),
 mv 4 (t 33)] [])
 (.ret))))
def zez:List zd:=[.tmp 4]
theorem zsW {args:List Value} {M:Mem} {R:Value→Mem→Prop} (hn:args.length≤34) (h:zj Tryz.prog zey zez args M R):CallsM Tryz.prog F.zcd args M R:=
 zf (kf:=fun _=>[]) Tryz.func222 (by kernel_rfl) (by kernel_rfl) hn (by kernel_rfl) h
def zxz:RCode:=
 .seq (.ops [mv 3 (kb false)] [])
 (.seq (.ops [mv 4 (t 0),
 l1 5 (t 1),
 o 6 (.nilck (t 5)),
 fa 7 1 (t 6),
 l1 8 (t 7),
 o 9 (.ibin .lss (t 4) (t 8)),
 mv 3 (t 9)] [])
 (.ret))
def zxA:List zd:=[.tmp 3]
def zBw:RCode:=
 .seq (.ops [mv 2 (.const sn),
 mv 3 (k 0)] [])
 (.seq (.ops [o 4 (.alloc 122 [sn])] [])
 (.seq (.ops [o 5 (.alloc 3 [(i 0)]),
 st 1 (t 5) (k 0)] [])
 (.seq (.seq (.ops [mv 8 (t 0),
 ca 9 F.zBc [(t 8)]] [])
 (.block 0 (.rfun ((t 9)) [10,11] (.seq (.ops [mv 6 (t 10)] [])
 (.ops [mv 7 (t 11)] []))
 (.block 1 (.seq (.ops [l1 12 (t 4),
 mv 13 (t 7),
 o 14 (.mkSl true 22 1 [sn] [(0,1,(t 13))]),
 o 15 (.app 22 1 24 [sn] (t 12) (t 14)),
 st 1 (t 4) (t 15)] [])
 (.ops [mv 16 (t 6),
 ad 17 (t 16) (k 8),
 mv 18 (t 7),
 o 19 (.len (t 18)),
 ad 20 (t 17) (t 19),
 st 1 (t 5) (t 20)] []))))))
 (.seq (.draw (.take (l1 21 (t 4)) (.take (l1 22 (t 5)) (.take (mv 2 (t 21)) (.take (mv 3 (t 22)) (.done))))) [])
 (.ret)))))
def zBx:List zd:=[.tmp 2,.tmp 3]
def zzl:RCode:=
 .seq (.ops [mv 6 (k 0)] [])
 (.seq (.ops [mv 10 (t 0),
 mv 11 (t 1),
 ca 12 F.zaT [(t 10),(t 11)],
 mv 9 (t 12),
 ex 13 (t 9) 0,
 ex 14 (t 9) 1,
 mv 7 (t 13),
 mv 8 (t 14)] [])
 (.seq (.seq (.ops [mv 15 (t 8),
 o 16 (.ibin .neq (t 15) (k 0))] [])
 (.cond (t 16)
 (.seq (.ops [mv 17 (t 8),
 mv 6 (t 17)] [])
 (.ret))
 (.skip)))
 (.seq (.seq (.ops [mv 18 (t 2),
 o 19 (.ibin .lss (t 18) (k 0)),
 os 20 (.mov (t 19)),
 gf 20 21 (.mov (t 2)),
 gf 20 22 (.mov (t 7)),
 gf 20 23 (.nilck (t 22)),
 gf 20 24 (.faddr 0 (t 23)),
 gf 20 25 (.load false 1 (t 24)),
 gf 20 26 (.len (t 25)),
 gf 20 27 (.ibin .gtr (t 21) (t 26)),
 o 28 (.pick (t 20) (kb true) (t 27))] [])
 (.cond (t 28)
 (.seq (.ops [mv 6 (k 1)] [])
 (.ret))
 (.skip)))
 (.seq (.ops [mv 29 (t 7),
 mv 30 (t 7),
 mv 31 (t 7),
 o 32 (.nilck (t 31)),
 fa 33 0 (t 32),
 l1 34 (t 33),
 mv 35 (t 2),
 o 36 (.slx 1 (t 34) none (some (t 35))),
 mv 37 (t 2),
 o 38 (.nilck (t 29)),
 fa 39 0 (t 38),
 st 1 (t 39) (t 36),
 o 40 (.nilck (t 30)),
 fa 41 1 (t 40),
 st 1 (t 41) (t 37)] [])
 (.seq (.ops [mv 42 (t 0),
 ca 43 F.zat [(t 42)],
 mv 6 (t 43)] [])
 (.ret))))))
def zzm:List zd:=[.tmp 6]
def zxB:RCode:=
 .seq (.ops [mv 3 (kb false)] [])
 (.seq (.ops [mv 4 (t 0),
 l1 5 (t 1),
 o 6 (.ibin .geq (t 4) (t 5)),
 mv 3 (t 6)] [])
 (.ret))
def zxC:List zd:=[.tmp 3]
def zbr:RCode:=
 .seq (.ops [mv 4 (t 0),
 o 5 (.len (t 4)),
 o 6 (.ibin .sub (t 5) (k 1)),
 mv 2 (k 0),
 mv 3 (t 6)] [])
 (.block 0 (.loop (.seq (.seq (.ops [mv 7 (t 2),
 mv 8 (t 3),
 o 9 (.ibin .lss (t 7) (t 8))] [])
 (.cond (t 9)
  (.skip)
  (.exit 0)))
 (.seq (.block 1 (.draw (.take (mv 14 (t 0)) (.take (mv 15 (t 2)) (.take (mv 16 (t 0)) (.take (mv 17 (t 3)) (.take (mv 18 (t 0)) (.take (mv 19 (t 3)) (.take (o 20 (.iaddr 1 (t 18) (t 19))) (.take (l1 21 (t 20)) (.take (mv 22 (t 0)) (.take (mv 23 (t 2)) (.take (o 24 (.iaddr 1 (t 22) (t 23))) (.take (l1 25 (t 24)) (.take (o 26 (.iaddr 1 (t 14) (t 15))) (.alt (st 1 (t 26) (t 21)) false
  (.take (o 27 (.iaddr 1 (t 16) (t 17))) (.alt (st 1 (t 27) (t 25)) false
  (.done)
  (.none)))
  (.none))))))))))))))) []))
 (.ops [mv 10 (t 2),
 ad 11 (t 10) (k 1),
 mv 12 (t 3),
 o 13 (.ibin .sub (t 12) (k 1)),
 mv 2 (t 11),
 mv 3 (t 13)] [])))))
def zbs:List zd:=[]
theorem zoL {args:List Value} {M:Mem} {R:Value→Mem→Prop} (hn:args.length≤28) (h:zj Tryz.prog zbr zbs args M R):CallsM Tryz.prog F.zac args M R:=
 zf (kf:=fun _=>[]) Tryz.func227 (by kernel_rfl) (by kernel_rfl) hn (by kernel_rfl) h
def zno:RCode:=
 .seq (.ops [o 1 (.box 54 (t 0)),
 mv 2 (k 0)] [])
 (.seq (.ops [mv 3 (fn F.znS)] [])
 (.seq (.seq (.ops [mv 4 (t 3),
 fa 5 0 (t 1),
 l1 6 (t 5),
 o 7 (.call (t 4) [(t 6),(k 0),(k 63)]),
 o 8 (.not (t 7)),
 os 9 (.mov (t 8)),
 gf 9 10 (.mov (t 3)),
 gf 9 11 (.faddr 1 (t 1)),
 gf 9 12 (.load false 1 (t 11)),
 gf 9 13 (.call (t 10) [(t 12),(k 0),(k 63)]),
 gf 9 14 (.not (t 13)),
 o 15 (.pick (t 9) (kb true) (t 14)),
 os 16 (.mov (t 15)),
 gf 16 17 (.mov (t 3)),
 gf 16 18 (.faddr 2 (t 1)),
 gf 16 19 (.load false 1 (t 18)),
 gf 16 20 (.call (t 17) [(t 19),(k 1),(k 65535)]),
 gf 16 21 (.not (t 20)),
 o 22 (.pick (t 16) (kb true) (t 21)),
 os 23 (.mov (t 22)),
 gf 23 24 (.mov (t 3)),
 gf 23 25 (.faddr 3 (t 1)),
 gf 23 26 (.load false 1 (t 25)),
 gf 23 27 (.call (t 24) [(t 26),(k 1),(k 65535)]),
 gf 23 28 (.not (t 27)),
 o 29 (.pick (t 23) (kb true) (t 28))] [])
 (.cond (t 29)
 (.seq (.ops [mv 2 (k 1)] [])
 (.ret))
 (.skip)))
 (.seq (.seq (.ops [fa 30 0 (t 1),
 l1 31 (t 30),
 fa 32 1 (t 1),
 l1 33 (t 32),
 o 34 (.ibin .eql (t 31) (t 33))] [])
 (.cond (t 34)
 (.seq (.ops [mv 2 (k 2)] [])
 (.ret))
 (.skip)))
 (.seq (.ops [mv 2 (k 0)] [])
 (.ret)))))
def znp:List zd:=[.tmp 2]
theorem zCD {args:List Value} {M:Mem} {R:Value→Mem→Prop} (hn:args.length≤35) (h:zj Tryz.prog zno znp args M R):CallsM Tryz.prog F.zbh args M R:=
 zf (kf:=fun _=>[]) Tryz.func228 (by kernel_rfl) (by kernel_rfl) hn (by kernel_rfl) h
def zml:RCode:=
 .seq (.ops [o 1 (.box 168 (t 0)),
 mv 2 (k 0)] [])
 (.seq (.seq (.ops [fa 4 0 (t 1),
 l1 5 (t 4)] [])
 (.block 0 (.seq (.ops [o 7 (.ibin .eql (t 5) (k 1)),
 mv 6 (t 7)] [])
 (.cond (t 6)
 (.seq (.ops [fa 8 1 (t 1),
 fa 9 0 (t 8),
 la 10 4 (t 9),
 o 11 (.build [(i 0),(i 0),(i 0),(i 0)] []),
 o 12 (.aeq .neq 4 (t 10) (t 11)),
 os 13 (.mov (t 12)),
 gf 13 14 (.faddr 1 (t 1)),
 gf 13 15 (.faddr 4 (t 14)),
 gf 13 16 (.load false 1 (t 15)),
 gf 13 17 (.len (t 16)),
 gf 13 18 (.ibin .gtr (t 17) (k 0)),
 o 19 (.pick (t 13) (kb true) (t 18))] [])
 (.cond (t 19)
  (.seq (.ops [mv 2 (k 2)] [])
  (.ret))
  (.skip)))
 (.seq (.ops [o 21 (.ibin .eql (t 5) (k 2)),
 mv 20 (t 21)] [])
 (.cond (t 20)
  (.seq (.ops [fa 22 1 (t 1),
  la 23 5 (t 22),
  ca 24 F.zc0 [(t 23)],
  mv 2 (t 24)] [])
  (.ret))
  (.seq (.seq (.ops [o 26 (.ibin .eql (t 5) (k 3)),
  mv 25 (t 26)] [])
  (.cond (t 25)
  (.skip)
  (.ops [o 27 (.ibin .eql (t 5) (k 4)),
  mv 25 (t 27)] [])))
  (.cond (t 25)
  (.seq (.seq (.ops [fa 28 1 (t 1),
  fa 29 0 (t 28),
  la 30 4 (t 29),
  ca 31 F.zbh [(t 30)],
  mv 3 (t 31)] [])
  (.seq (.ops [mv 32 (t 3),
  o 33 (.ibin .neq (t 32) (k 0))] [])
  (.cond (t 33)
   (.seq (.ops [mv 34 (t 3),
   mv 2 (t 34)] [])
   (.ret))
   (.skip))))
  (.seq (.ops [fa 35 1 (t 1),
  fa 36 4 (t 35),
  l1 37 (t 36),
  o 38 (.len (t 37)),
  o 39 (.ibin .gtr (t 38) (k 0))] [])
  (.cond (t 39)
   (.seq (.ops [mv 2 (k 2)] [])
   (.ret))
   (.skip))))
  (.seq (.ops [mv 2 (k 1)] [])
  (.ret))))))))))
 (.seq (.ops [mv 2 (k 0)] [])
 (.ret)))
def zmm:List zd:=[.tmp 2]
theorem zBy {args:List Value} {M:Mem} {R:Value→Mem→Prop} (hn:args.length≤40) (h:zj Tryz.prog zml zmm args M R):CallsM Tryz.prog F.zl8 args M R:=
 zf (kf:=fun _=>[]) Tryz.func229 (by kernel_rfl) (by kernel_rfl) hn (by kernel_rfl) h
def zjA:RCode:=
 .seq (.ops [o 3 (.box 54 (t 1)),
 mv 4 (k 0)] [])
 (.seq (.seq (.ops [mv 6 (t 0),
 o 7 (.pnil .eql (t 6) (.const (.pointer none)))] [])
 (.cond (t 7)
 (.seq (.ops [mv 4 (k 7)] [])
 (.ret))
 (.skip)))
 (.seq (.seq (.ops [la 8 4 (t 3),
 ca 9 F.zbh [(t 8)],
 mv 5 (t 9)] [])
 (.seq (.ops [mv 10 (t 5),
 o 11 (.ibin .neq (t 10) (k 0))] [])
 (.cond (t 11)
 (.seq (.ops [mv 12 (t 5),
 mv 4 (t 12)] [])
 (.ret))
 (.skip))))
 (.seq (.seq (.ops [mv 13 (t 0),
 la 14 4 (t 3),
 ca 15 F.zjc [(t 13),(t 14)]] [])
 (.cond (t 15)
 (.seq (.ops [mv 4 (k 5)] [])
 (.ret))
 (.skip)))
 (.seq (.seq (.draw (.take (fa 16 3 (t 3)) (.take (l1 17 (t 16)) (.take (mv 18 (t 0)) (.take (la 19 4 (t 3)) (.alt (ca 20 F.zhs [(t 18),(t 19)]) true
 (.take (o 21 (.nilck (t 20))) (.take (fa 22 0 (t 21)) (.take (l1 23 (t 22)) (.take (ad 24 (t 23) (k 1)) (.take (o 25 (.ibin .neq (t 17) (t 24))) (.take (os 26 (.mov (t 25))) (.take (gt 26 27 (.mov (t 0))) (.take (gt 26 29 (.mov (t 0))) (.take (gt 26 30 (.nilck (t 29))) (.take (gt 26 31 (.faddr 0 (t 30))) (.take (gt 26 32 (.load false 1 (t 31))) (.alt (gt 26 28 (.call (fn F.zpY) [(t 27)])) true
  (.take (gt 26 33 (.ibin .geq (t 28) (t 32))) (.take (o 34 (.pick (t 26) (t 33) (kb false))) (.done)))
  (.none)))))))))))))
 (.none)))))) [])
 (.cond (t 34)
 (.seq (.ops [mv 4 (k 6)] [])
 (.ret))
 (.skip)))
 (.seq (.ops [mv 4 (k 0)] [])
 (.ret))))))
def zjB:List zd:=[.tmp 4]
theorem zzn {args:List Value} {M:Mem} {R:Value→Mem→Prop} (hn:args.length≤35) (h:zj Tryz.prog zjA zjB args M R):CallsM Tryz.prog F.zjb args M R:=
 zf (kf:=fun _=>[]) Tryz.func230 (by kernel_rfl) (by kernel_rfl) hn (by kernel_rfl) h
def zkW:RCode:=
 .seq (.ops [o 3 (.box 54 (t 1)),
 mv 4 (.const (.pointer none))] [])
 (.seq (.seq (.draw (.take (mv 6 (t 0)) (.take (o 7 (.nilck (t 6))) (.take (fa 8 1 (t 7)) (.take (l1 9 (t 8)) (.take (fa 10 0 (t 3)) (.take (l1 11 (t 10)) (.take (fa 12 2 (t 3)) (.take (l1 13 (t 12)) (.take (o 14 (.build [(i 0),(i 0)] [(0,1,(t 11)),(1,1,(t 13))])) (.take (o 15 (.mget (.agg 2) false (.pointer none) (t 9) (t 14))) (.take (mv 5 (t 15)) (.done)))))))))))) [])
 (.seq (.ops [mv 16 (t 5),
 o 17 (.pnil .neq (t 16) (.const (.pointer none)))] [])
 (.cond (t 17)
 (.seq (.ops [mv 18 (t 5),
 mv 4 (t 18)] [])
 (.ret))
 (.skip))))
 (.seq (.ops [o 19 (.build [(i 0),sn] []),
 o 20 (.box 248 (t 19)),
 mv 4 (t 20)] [])
 (.ret)))
def zkX:List zd:=[.tmp 4]
theorem zAm {args:List Value} {M:Mem} {R:Value→Mem→Prop} (hn:args.length≤21) (h:zj Tryz.prog zkW zkX args M R):CallsM Tryz.prog F.zhs args M R:=
 zf (kf:=fun _=>[]) Tryz.func231 (by kernel_rfl) (by kernel_rfl) hn (by kernel_rfl) h
def zaF:RCode:=
 .seq (.ops [mv 4 (k 0),
 mv 5 (kb false)] [])
 (.seq (.ops [mv 10 (t 0),
 o 11 (.len (t 10)),
 mv 6 (t 11)] [])
 (.seq (.ops [mv 12 (t 6),
 mv 7 (k 0),
 mv 8 (t 12)] [])
 (.seq (.block 0 (.loop (.seq (.seq (.ops [mv 13 (t 7),
 mv 14 (t 8),
 o 15 (.ibin .lss (t 13) (t 14))] [])
 (.cond (t 15)
  (.skip)
  (.exit 0)))
 (.block 1 (.seq (.ops [mv 16 (t 7),
 mv 17 (t 8),
 ad 18 (t 16) (t 17),
 o 19 (.conv .u64 (t 18)),
 o 20 (.ibin .shr (t 19) (.const (.int .u64 1))),
 o 21 (.conv .i64 (t 20)),
 mv 9 (t 21)] [])
 (.seq (.ops [mv 22 (t 0),
 mv 23 (t 9),
 o 24 (.iaddr 1 (t 22) (t 23)),
 l1 25 (t 24),
 mv 26 (t 1),
 ca 27 F.zF [(t 25),(t 26)]] [])
 (.cond (t 27)
  (.ops [mv 28 (t 9),
  ad 29 (t 28) (k 1),
  mv 7 (t 29)] [])
  (.ops [mv 30 (t 9),
  mv 8 (t 30)] []))))))))
 (.seq (.ops [mv 31 (t 7),
 mv 32 (t 7),
 mv 33 (t 6),
 o 34 (.ibin .lss (t 32) (t 33)),
 os 35 (.mov (t 34)),
 gt 35 36 (.mov (t 0)),
 gt 35 37 (.mov (t 7)),
 gt 35 38 (.iaddr 1 (t 36) (t 37)),
 gt 35 39 (.load false 1 (t 38)),
 gt 35 40 (.mov (t 1)),
 gt 35 41 (.ibin .eql (t 39) (t 40)),
 ⟨(some 42),.mov (t 41),some (35,true),true⟩,
 gf 42 43 (.mov (t 0)),
 gf 42 44 (.mov (t 7)),
 gf 42 45 (.iaddr 1 (t 43) (t 44)),
 gf 42 46 (.load false 1 (t 45)),
 gf 42 47 (.call (fn F.znz) [(t 46)]),
 ⟨(some 48),.mov (t 47),some (42,false),true⟩,
 gt 48 49 (.mov (t 1)),
 gt 48 50 (.call (fn F.znz) [(t 49)]),
 gf 42 51 (.pick (t 48) (t 50) (kb false)),
 gt 35 52 (.pick (t 42) (kb true) (t 51)),
 o 53 (.pick (t 35) (t 52) (kb false)),
 mv 4 (t 31),
 mv 5 (t 53)] [])
 (.ret)))))
def zaG:List zd:=[.tmp 4,.tmp 5]
theorem zmn {args:List Value} {M:Mem} {R:Value→Mem→Prop} (hn:args.length≤54) (h:zj Tryz.prog zaF zaG args M R):CallsM Tryz.prog F.zbw args M R:=
 zf (kf:=fun _=>[]) Tryz.func232 (by kernel_rfl) (by kernel_rfl) hn (by kernel_rfl) h
def zqf:RCode:=
 .seq (.ops [o 1 (.box 86 (t 0)),
 mv 2 (.const sn),
 mv 3 (k 0)] [])
 (.seq (.seq (.ops [la 7 5 (t 1),
 ca 8 F.zc0 [(t 7)],
 mv 4 (t 8)] [])
 (.seq (.ops [mv 9 (t 4),
 o 10 (.ibin .neq (t 9) (k 0))] [])
 (.cond (t 10)
 (.seq (.ops [mv 11 (t 4),
 mv 2 (.const sn),
 mv 3 (t 11)] [])
 (.ret))
 (.skip))))
 (.seq (.ops [fa 13 0 (t 1),
 la 14 4 (t 13),
 ca 15 F.zkn [(t 14)],
 mv 12 (t 15),
 ex 16 (t 12) 0,
 ex 17 (t 12) 1,
 mv 5 (t 16),
 mv 6 (t 17)] [])
 (.seq (.ops [mv 18 (t 5),
 fa 19 4 (t 1),
 l1 20 (t 19),
 o 21 (.app 5 1 1 [(u 0)] (t 18) (t 20)),
 mv 2 (t 21),
 mv 3 (k 0)] [])
 (.ret))))
def zqg:List zd:=[.tmp 2,.tmp 3]
theorem zEV {args:List Value} {M:Mem} {R:Value→Mem→Prop} (hn:args.length≤22) (h:zj Tryz.prog zqf zqg args M R):CallsM Tryz.prog F.zpZ args M R:=
 zf (kf:=fun _=>[]) Tryz.func234 (by kernel_rfl) (by kernel_rfl) hn (by kernel_rfl) h
def zie:RCode:=
 .seq (.ops [mv 2 (k 0)] [])
 (.seq (.seq (.ops [mv 3 (t 0),
 o 4 (.pnil .eql (t 3) (.const (.pointer none))),
 os 5 (.mov (t 4)),
 gf 5 6 (.mov (t 0)),
 gf 5 7 (.nilck (t 6)),
 gf 5 8 (.faddr 4 (t 7)),
 gf 5 9 (.load false 1 (t 8)),
 o 10 (.pick (t 5) (kb true) (t 9))] [])
 (.cond (t 10)
 (.seq (.ops [mv 2 (k 7)] [])
 (.ret))
 (.skip)))
 (.seq (.ops [mv 2 (k 0)] [])
 (.ret)))
def zif:List zd:=[.tmp 2]
theorem zxD {args:List Value} {M:Mem} {R:Value→Mem→Prop} (hn:args.length≤11) (h:zj Tryz.prog zie zif args M R):CallsM Tryz.prog F.zed args M R:=
 zf (kf:=fun _=>[]) Tryz.func235 (by kernel_rfl) (by kernel_rfl) hn (by kernel_rfl) h
def zmo:RCode:=
 .seq (.ops [mv 2 (.const sn),
 mv 3 (k 0)] [])
 (.seq (.seq (.ops [mv 8 (t 0),
 o 9 (.len (t 8)),
 o 10 (.ibin .eql (t 9) (k 0))] [])
 (.cond (t 10)
 (.seq (.ops [mv 2 (.const sn),
 mv 3 (k 2)] [])
 (.ret))
 (.skip)))
 (.seq (.seq (.ops [mv 11 (t 0),
 o 12 (.len (t 11)),
 o 13 (.ibin .gtr (t 12) (k 65536))] [])
 (.cond (t 13)
 (.seq (.ops [mv 2 (.const sn),
 mv 3 (k 3)] [])
 (.ret))
 (.skip)))
 (.seq (.ops [mv 15 (t 0),
 o 16 (.len (t 15)),
 o 17 (.conv .u64 (t 16)),
 ca 18 F.zbk [(.const sn),(t 17),(k 4)],
 mv 14 (t 18),
 ex 19 (t 14) 0,
 ex 20 (t 14) 1,
 mv 4 (t 19),
 mv 5 (t 20)] [])
 (.seq (.ops [mv 22 (t 4),
 mv 23 (t 4),
 mv 24 (t 0),
 o 25 (.mkSl false 22 2 [sn,sn] [(0,1,(t 23)),(1,1,(t 24))]),
 ca 26 F.zlr [(t 25)],
 o 27 (.conv .u64 (t 26)),
 ca 28 F.zbk [(t 22),(t 27),(k 4)],
 mv 21 (t 28),
 ex 29 (t 21) 0,
 ex 30 (t 21) 1,
 mv 6 (t 29),
 mv 7 (t 30)] [])
 (.seq (.ops [mv 31 (t 6),
 mv 32 (t 0),
 o 33 (.app 5 1 1 [(u 0)] (t 31) (t 32)),
 mv 2 (t 33),
 mv 3 (k 0)] [])
 (.ret))))))
def zmp:List zd:=[.tmp 2,.tmp 3]
theorem zBz {args:List Value} {M:Mem} {R:Value→Mem→Prop} (hn:args.length≤34) (h:zj Tryz.prog zmo zmp args M R):CallsM Tryz.prog F.zpi args M R:=
 zf (kf:=fun _=>[]) Tryz.func236 (by kernel_rfl) (by kernel_rfl) hn (by kernel_rfl) h
def zjC:RCode:=
 .seq (.ops [mv 4 (k 0)] [])
 (.seq (.ops [mv 5 (t 0),
 mv 6 (t 0),
 o 7 (.nilck (t 6)),
 fa 8 4 (t 7),
 l1 9 (t 8),
 os 10 (.mov (t 9)),
 gf 10 11 (.mov (t 1)),
 gf 10 12 (.ibin .eql (t 11) (k 9)),
 o 13 (.pick (t 10) (kb true) (t 12)),
 o 14 (.nilck (t 5)),
 fa 15 4 (t 14),
 st 1 (t 15) (t 13)] [])
 (.seq (.ops [mv 16 (t 1),
 mv 4 (t 16)] [])
 (.ret)))
def zjD:List zd:=[.tmp 4]
theorem zzo {args:List Value} {M:Mem} {R:Value→Mem→Prop} (hn:args.length≤17) (h:zj Tryz.prog zjC zjD args M R):CallsM Tryz.prog F.zbQ args M R:=
 zf (kf:=fun _=>[]) Tryz.func237 (by kernel_rfl) (by kernel_rfl) hn (by kernel_rfl) h
def zhe:RCode:=
 .seq (.ops [mv 4 (k 0)] [])
 (.seq (.draw (.take (mv 8 (t 0)) (.take (o 9 (.nilck (t 8))) (.take (fa 10 0 (t 9)) (.take (l1 11 (t 10)) (.take (mv 12 (t 1)) (.alt (ca 13 F.za4 [(t 12)]) true
 (.alt (ca 14 F.zc6 [(t 11),(t 13)]) false
  (.take (mv 7 (t 14)) (.take (ex 15 (t 7) 0) (.take (ex 16 (t 7) 1) (.take (mv 5 (t 15)) (.take (mv 6 (t 16)) (.done))))))
  (.none))
 (.none))))))) [])
 (.seq (.seq (.ops [mv 17 (t 6),
 o 18 (.ibin .eql (t 17) (k 9))] [])
 (.cond (t 18)
 (.seq (.draw (.take (mv 19 (t 0)) (.take (o 20 (.nilck (t 19))) (.take (fa 21 0 (t 20)) (.take (l1 22 (t 21)) (.take (mv 23 (t 1)) (.alt (ca 24 F.za4 [(t 23)]) true
  (.alt (ca 25 F.zgd [(t 22),(t 24)]) false
  (.take (mv 4 (t 25)) (.done))
  (.none))
  (.none))))))) [])
 (.ret))
 (.skip)))
 (.seq (.ops [mv 26 (t 5),
 o 27 (.len (t 26)),
 mv 4 (t 27)] [])
 (.ret))))
def zhf:List zd:=[.tmp 4]
theorem zv2 {args:List Value} {M:Mem} {R:Value→Mem→Prop} (hn:args.length≤28) (h:zj Tryz.prog zhe zhf args M R):CallsM Tryz.prog F.zde args M R:=
 zf (kf:=fun _=>[]) Tryz.func238 (by kernel_rfl) (by kernel_rfl) hn (by kernel_rfl) h
def zeA:RCode:=
 .seq (.ops [mv 6 (k 0)] [])
 (.seq (.seq (.ops [mv 9 (t 0),
 mv 10 (t 1),
 o 11 (.mkSl false 9 1 [(.string ByteArray.empty)] [(0,1,(t 10))]),
 ca 12 F.zbv [(t 9),(t 11)],
 mv 7 (t 12)] [])
 (.seq (.ops [mv 13 (t 7),
 o 14 (.ibin .neq (t 13) (k 0))] [])
 (.cond (t 14)
 (.seq (.ops [mv 15 (t 7),
 mv 6 (t 15)] [])
 (.ret))
 (.skip))))
 (.seq (.ops [mv 16 (t 0),
 o 17 (.nilck (t 16)),
 fa 18 1 (t 17),
 l1 19 (t 18),
 mv 20 (t 1),
 o 21 (.mget .str false (.pointer none) (t 19) (t 20)),
 mv 8 (t 21)] [])
 (.seq (.seq (.draw (.take (mv 22 (t 2)) (.take (o 23 (.len (t 22))) (.take (mv 24 (t 0)) (.take (o 25 (.nilck (t 24))) (.take (fa 26 0 (t 25)) (.take (l1 27 (t 26)) (.take (mv 28 (t 0)) (.alt (ca 29 F.zle [(t 28)]) true
 (.take (o 30 (.ibin .sub (t 27) (t 29))) (.take (o 31 (.ibin .gtr (t 23) (t 30))) (.take (os 32 (.mov (t 31))) (.take (gf 32 33 (.mov (t 8))) (.take (gf 32 34 (.pnil .eql (t 33) (.const (.pointer none)))) (.take (⟨(some 35),.mov (t 34),some (32,false),true⟩) (.take (gt 35 36 (.mov (t 0))) (.take (gt 35 37 (.nilck (t 36))) (.take (gt 35 38 (.faddr 1 (t 37))) (.take (gt 35 39 (.load false 1 (t 38))) (.take (gt 35 40 (.mlen (t 39))) (.take (gt 35 41 (.ibin .geq (t 40) (k 64))) (.take (gf 32 42 (.pick (t 35) (t 41) (kb false))) (.take (o 43 (.pick (t 32) (kb true) (t 42))) (.done)))))))))))))))
 (.none))))))))) [])
 (.cond (t 43)
 (.seq (.ops [mv 6 (k 6)] [])
 (.ret))
 (.skip)))
 (.seq (.seq (.ops [mv 44 (t 8),
 o 45 (.pnil .eql (t 44) (.const (.pointer none)))] [])
 (.cond (t 45)
 (.seq (.ops [o 46 (.build [sn,(i 0)] []),
 o 47 (.box 100 (t 46)),
 mv 8 (t 47)] [])
 (.ops [mv 48 (t 0),
 o 49 (.nilck (t 48)),
 fa 50 1 (t 49),
 l1 51 (t 50),
 mv 52 (t 1),
 mv 53 (t 8),
 e (.mset .str (t 51) (t 52) (t 53))] []))
 (.skip)))
 (.seq (.ops [mv 54 (t 8),
 mv 55 (t 8),
 o 56 (.nilck (t 55)),
 fa 57 0 (t 56),
 l1 58 (t 57),
 mv 59 (t 2),
 o 60 (.app 5 1 1 [(u 0)] (t 58) (t 59)),
 o 61 (.nilck (t 54)),
 fa 62 0 (t 61),
 st 1 (t 62) (t 60)] [])
 (.seq (.ops [mv 63 (t 0),
 ca 64 F.zat [(t 63)],
 mv 6 (t 64)] [])
 (.ret)))))))
def zeB:List zd:=[.tmp 6]
theorem zsX {args:List Value} {M:Mem} {R:Value→Mem→Prop} (hn:args.length≤65) (h:zj Tryz.prog zeA zeB args M R):CallsM Tryz.prog F.zee args M R:=
 zf (kf:=fun _=>[]) Tryz.func239 (by kernel_rfl) (by kernel_rfl) hn (by kernel_rfl) h
def zhg:RCode:=
 .seq (.ops [mv 4 (k 0)] [])
 (.seq (.seq (.ops [mv 5 (t 0),
 o 6 (.pnil .eql (t 5) (.const (.pointer none))),
 os 7 (.mov (t 6)),
 gf 7 8 (.mov (t 0)),
 gf 7 9 (.nilck (t 8)),
 gf 7 10 (.faddr 1 (t 9)),
 gf 7 11 (.load false 1 (t 10)),
 gf 7 12 (.mov (t 1)),
 gf 7 13 (.mget .str false (.pointer none) (t 11) (t 12)),
 gf 7 14 (.pnil .eql (t 13) (.const (.pointer none))),
 o 15 (.pick (t 7) (kb true) (t 14))] [])
 (.cond (t 15)
 (.seq (.ops [mv 4 (k 0)] [])
 (.ret))
 (.skip)))
 (.seq (.ops [mv 16 (t 0),
 o 17 (.nilck (t 16)),
 fa 18 1 (t 17),
 l1 19 (t 18),
 mv 20 (t 1),
 o 21 (.mget .str false (.pointer none) (t 19) (t 20)),
 o 22 (.nilck (t 21)),
 fa 23 1 (t 22),
 l1 24 (t 23),
 mv 4 (t 24)] [])
 (.ret)))
def zhh:List zd:=[.tmp 4]
theorem zv3 {args:List Value} {M:Mem} {R:Value→Mem→Prop} (hn:args.length≤25) (h:zj Tryz.prog zhg zhh args M R):CallsM Tryz.prog F.zgd args M R:=
 zf (kf:=fun _=>[]) Tryz.func240 (by kernel_rfl) (by kernel_rfl) hn (by kernel_rfl) h
def zhi:RCode:=
 .seq (.ops [mv 4 (k 0)] [])
 (.seq (.ops [mv 8 (t 0),
 mv 9 (t 1),
 ca 10 F.zaT [(t 8),(t 9)],
 mv 7 (t 10),
 ex 11 (t 7) 0,
 ex 12 (t 7) 1,
 mv 5 (t 11),
 mv 6 (t 12)] [])
 (.seq (.seq (.ops [mv 13 (t 6),
 o 14 (.ibin .neq (t 13) (k 0))] [])
 (.cond (t 14)
 (.seq (.ops [mv 15 (t 6),
 mv 4 (t 15)] [])
 (.ret))
 (.skip)))
 (.seq (.ops [mv 16 (t 5),
 mv 17 (t 5),
 o 18 (.nilck (t 17)),
 fa 19 0 (t 18),
 l1 20 (t 19),
 o 21 (.len (t 20)),
 o 22 (.nilck (t 16)),
 fa 23 1 (t 22),
 st 1 (t 23) (t 21)] [])
 (.seq (.ops [mv 24 (t 0),
 ca 25 F.zat [(t 24)],
 mv 4 (t 25)] [])
 (.ret)))))
def zhj:List zd:=[.tmp 4]
theorem zv4 {args:List Value} {M:Mem} {R:Value→Mem→Prop} (hn:args.length≤26) (h:zj Tryz.prog zhi zhj args M R):CallsM Tryz.prog F.zge args M R:=
 zf (kf:=fun _=>[]) Tryz.func241 (by kernel_rfl) (by kernel_rfl) hn (by kernel_rfl) h
def z7:RCode:=
 .seq (.ops [mv 10 (kb true)] [])
 (.seq (.ops [mv 11 (kb true)] [])
 (.block 0 (.loop (.block 1 (.seq (.ops [mv 21 (t 2),
 mv 22 (t 1),
 o 23 (.ibin .sub (t 21) (t 22)),
 mv 12 (t 23)] [])
 (.seq (.seq (.ops [mv 24 (t 12),
 o 25 (.ibin .leq (t 24) (k 12))] [])
 (.cond (t 25)
  (.seq (.ops [mv 26 (t 0),
  mv 27 (t 1),
  mv 28 (t 2),
  mv 29 (t 4),
  ca 30 F.zai [(t 26),(t 27),(t 28),(t 29)]] [])
  (.ret))
  (.skip)))
 (.seq (.seq (.ops [mv 31 (t 3),
 o 32 (.ibin .eql (t 31) (k 0))] [])
 (.cond (t 32)
  (.seq (.ops [mv 33 (t 0),
  mv 34 (t 1),
  mv 35 (t 2),
  mv 36 (t 4),
  ca 37 F.ziM [(t 33),(t 34),(t 35),(t 36)]] [])
  (.ret))
  (.skip)))
 (.seq (.seq (.ops [mv 38 (t 10),
 o 39 (.not (t 38))] [])
 (.cond (t 39)
  (.seq (.ops [mv 40 (t 0),
  mv 41 (t 1),
  mv 42 (t 2),
  mv 43 (t 4),
  ca 44 F.zfT [(t 40),(t 41),(t 42),(t 43)]] [])
  (.ops [mv 45 (t 3),
  o 46 (.ibin .sub (t 45) (k 1)),
  mv 3 (t 46)] []))
  (.skip)))
 (.seq (.ops [mv 48 (t 0),
 mv 49 (t 1),
 mv 50 (t 2),
 mv 51 (t 4),
 ca 52 F.zht [(t 48),(t 49),(t 50),(t 51)],
 mv 47 (t 52),
 ex 53 (t 47) 0,
 ex 54 (t 47) 1,
 mv 13 (t 53),
 mv 14 (t 54)] [])
 (.seq (.seq (.ops [mv 55 (t 14),
 o 56 (.ibin .eql (t 55) (k 2))] [])
 (.cond (t 56)
  (.seq (.ops [mv 57 (t 0),
  mv 58 (t 1),
  mv 59 (t 2),
  mv 60 (t 4),
  ca 61 F.zgi [(t 57),(t 58),(t 59),(t 60)]] [])
  (.seq (.ops [mv 62 (t 2),
  o 63 (.ibin .sub (t 62) (k 1)),
  mv 64 (t 13),
  mv 65 (t 1),
  o 66 (.ibin .sub (t 64) (t 65)),
  o 67 (.ibin .sub (t 63) (t 66)),
  mv 13 (t 67)] [])
  (.ops [mv 14 (k 1)] [])))
  (.skip)))
 (.seq (.seq (.ops [mv 68 (t 10),
 os 69 (.mov (t 68)),
 gt 69 70 (.mov (t 11)),
 o 71 (.pick (t 69) (t 70) (kb false)),
 os 72 (.mov (t 71)),
 gt 72 73 (.mov (t 14)),
 gt 72 74 (.ibin .eql (t 73) (k 1)),
 o 75 (.pick (t 72) (t 74) (kb false))] [])
 (.cond (t 75)
  (.seq (.ops [mv 76 (t 0),
  mv 77 (t 1),
  mv 78 (t 2),
  mv 79 (t 4),
  ca 80 F.zdf [(t 76),(t 77),(t 78),(t 79)]] [])
  (.cond (t 80)
  (.ret)
  (.skip)))
  (.skip)))
 (.seq (.seq (.draw (.take (mv 81 (t 1)) (.take (o 82 (.ibin .gtr (t 81) (k 0))) (.take (os 83 (.mov (t 82))) (.take (gt 83 84 (.mov (t 4))) (.take (gt 83 85 (.mov (t 0))) (.take (gt 83 86 (.mov (t 1))) (.take (gt 83 87 (.ibin .sub (t 86) (k 1))) (.take (gt 83 88 (.iaddr 6 (t 85) (t 87))) (.take (gt 83 89 (.load true 6 (t 88))) (.take (gt 83 90 (.mov (t 0))) (.take (gt 83 91 (.mov (t 13))) (.take (gt 83 92 (.iaddr 6 (t 90) (t 91))) (.take (gt 83 93 (.load true 6 (t 92))) (.alt (gt 83 94 (.call (t 84) [(t 89),(t 93)])) false
  (.take (gt 83 95 (.ibin .lss (t 94) (k 0))) (.take (gt 83 96 (.not (t 95))) (.take (o 97 (.pick (t 83) (t 96) (kb false))) (.done))))
  (.none))))))))))))))) [])
 (.cond (t 97)
  (.seq (.ops [mv 98 (t 0),
  mv 99 (t 1),
  mv 100 (t 2),
  mv 101 (t 13),
  mv 102 (t 4),
  ca 103 F.zfK [(t 98),(t 99),(t 100),(t 101),(t 102)],
  mv 15 (t 103)] [])
  (.seq (.ops [mv 104 (t 15),
  mv 1 (t 104)] [])
  (.exit 1)))
  (.skip)))
 (.seq (.ops [mv 106 (t 0),
 mv 107 (t 1),
 mv 108 (t 2),
 mv 109 (t 13),
 mv 110 (t 4),
 ca 111 F.zil [(t 106),(t 107),(t 108),(t 109),(t 110)],
 mv 105 (t 111),
 ex 112 (t 105) 0,
 ex 113 (t 105) 1,
 mv 16 (t 112),
 mv 17 (t 113)] [])
 (.seq (.ops [mv 114 (t 17),
 mv 11 (t 114)] [])
 (.seq (.ops [mv 115 (t 16),
 mv 116 (t 1),
 o 117 (.ibin .sub (t 115) (t 116)),
 mv 118 (t 2),
 mv 119 (t 16),
 o 120 (.ibin .sub (t 118) (t 119)),
 mv 18 (t 117),
 mv 19 (t 120)] [])
 (.seq (.ops [mv 121 (t 12),
 o 122 (.ibin .quo (t 121) (k 8)),
 mv 20 (t 122)] [])
 (.seq (.ops [mv 123 (t 18),
 mv 124 (t 19),
 o 125 (.ibin .lss (t 123) (t 124))] [])
 (.cond (t 125)
  (.seq (.ops [mv 126 (t 18),
  mv 127 (t 20),
  o 128 (.ibin .geq (t 126) (t 127)),
  mv 10 (t 128)] [])
  (.seq (.ops [mv 129 (t 0),
  mv 130 (t 1),
  mv 131 (t 16),
  mv 132 (t 3),
  mv 133 (t 4),
  ca 134 F.zH [(t 129),(t 130),(t 131),(t 132),(t 133)]] [])
  (.ops [mv 135 (t 16),
  ad 136 (t 135) (k 1),
  mv 1 (t 136)] [])))
  (.seq (.ops [mv 137 (t 19),
  mv 138 (t 20),
  o 139 (.ibin .geq (t 137) (t 138)),
  mv 10 (t 139)] [])
  (.seq (.ops [mv 140 (t 0),
  mv 141 (t 16),
  ad 142 (t 141) (k 1),
  mv 143 (t 2),
  mv 144 (t 3),
  mv 145 (t 4),
  ca 146 F.zH [(t 140),(t 142),(t 143),(t 144),(t 145)]] [])
  (.ops [mv 147 (t 16),
  mv 2 (t 147)] [])))))))))))))))))))))
def z8:List zd:=[]
theorem ziS {args:List Value} {M:Mem} {R:Value→Mem→Prop} (hn:args.length≤148) (h:zj Tryz.prog z7 z8 args M R):CallsM Tryz.prog F.zH args M R:=
 zf (kf:=fun _=>[]) Tryz.func242 (by kernel_rfl) (by kernel_rfl) hn (by kernel_rfl) h
def zan:RCode:=
 .seq (.ops [mv 10 (kb true)] [])
 (.seq (.ops [mv 11 (kb true)] [])
 (.block 0 (.loop (.block 1 (.seq (.ops [mv 21 (t 2),
 mv 22 (t 1),
 o 23 (.ibin .sub (t 21) (t 22)),
 mv 12 (t 23)] [])
 (.seq (.seq (.ops [mv 24 (t 12),
 o 25 (.ibin .leq (t 24) (k 12))] [])
 (.cond (t 25)
  (.seq (.ops [mv 26 (t 0),
  mv 27 (t 1),
  mv 28 (t 2),
  mv 29 (t 4),
  ca 30 F.zau [(t 26),(t 27),(t 28),(t 29)]] [])
  (.ret))
  (.skip)))
 (.seq (.seq (.ops [mv 31 (t 3),
 o 32 (.ibin .eql (t 31) (k 0))] [])
 (.cond (t 32)
  (.seq (.ops [mv 33 (t 0),
  mv 34 (t 1),
  mv 35 (t 2),
  mv 36 (t 4),
  ca 37 F.zkp [(t 33),(t 34),(t 35),(t 36)]] [])
  (.ret))
  (.skip)))
 (.seq (.seq (.ops [mv 38 (t 10),
 o 39 (.not (t 38))] [])
 (.cond (t 39)
  (.seq (.ops [mv 40 (t 0),
  mv 41 (t 1),
  mv 42 (t 2),
  mv 43 (t 4),
  ca 44 F.zhQ [(t 40),(t 41),(t 42),(t 43)]] [])
  (.ops [mv 45 (t 3),
  o 46 (.ibin .sub (t 45) (k 1)),
  mv 3 (t 46)] []))
  (.skip)))
 (.seq (.ops [mv 48 (t 0),
 mv 49 (t 1),
 mv 50 (t 2),
 mv 51 (t 4),
 ca 52 F.ziN [(t 48),(t 49),(t 50),(t 51)],
 mv 47 (t 52),
 ex 53 (t 47) 0,
 ex 54 (t 47) 1,
 mv 13 (t 53),
 mv 14 (t 54)] [])
 (.seq (.seq (.ops [mv 55 (t 14),
 o 56 (.ibin .eql (t 55) (k 2))] [])
 (.cond (t 56)
  (.seq (.ops [mv 57 (t 0),
  mv 58 (t 1),
  mv 59 (t 2),
  mv 60 (t 4),
  ca 61 F.zim [(t 57),(t 58),(t 59),(t 60)]] [])
  (.seq (.ops [mv 62 (t 2),
  o 63 (.ibin .sub (t 62) (k 1)),
  mv 64 (t 13),
  mv 65 (t 1),
  o 66 (.ibin .sub (t 64) (t 65)),
  o 67 (.ibin .sub (t 63) (t 66)),
  mv 13 (t 67)] [])
  (.ops [mv 14 (k 1)] [])))
  (.skip)))
 (.seq (.seq (.ops [mv 68 (t 10),
 os 69 (.mov (t 68)),
 gt 69 70 (.mov (t 11)),
 o 71 (.pick (t 69) (t 70) (kb false)),
 os 72 (.mov (t 71)),
 gt 72 73 (.mov (t 14)),
 gt 72 74 (.ibin .eql (t 73) (k 1)),
 o 75 (.pick (t 72) (t 74) (kb false))] [])
 (.cond (t 75)
  (.seq (.ops [mv 76 (t 0),
  mv 77 (t 1),
  mv 78 (t 2),
  mv 79 (t 4),
  ca 80 F.zeg [(t 76),(t 77),(t 78),(t 79)]] [])
  (.cond (t 80)
  (.ret)
  (.skip)))
  (.skip)))
 (.seq (.seq (.draw (.take (mv 81 (t 1)) (.take (o 82 (.ibin .gtr (t 81) (k 0))) (.take (os 83 (.mov (t 82))) (.take (gt 83 84 (.mov (t 4))) (.take (gt 83 85 (.mov (t 0))) (.take (gt 83 86 (.mov (t 1))) (.take (gt 83 87 (.ibin .sub (t 86) (k 1))) (.take (gt 83 88 (.iaddr 4 (t 85) (t 87))) (.take (gt 83 89 (.load true 4 (t 88))) (.take (gt 83 90 (.mov (t 0))) (.take (gt 83 91 (.mov (t 13))) (.take (gt 83 92 (.iaddr 4 (t 90) (t 91))) (.take (gt 83 93 (.load true 4 (t 92))) (.alt (gt 83 94 (.call (t 84) [(t 89),(t 93)])) false
  (.take (gt 83 95 (.ibin .lss (t 94) (k 0))) (.take (gt 83 96 (.not (t 95))) (.take (o 97 (.pick (t 83) (t 96) (kb false))) (.done))))
  (.none))))))))))))))) [])
 (.cond (t 97)
  (.seq (.ops [mv 98 (t 0),
  mv 99 (t 1),
  mv 100 (t 2),
  mv 101 (t 13),
  mv 102 (t 4),
  ca 103 F.zhu [(t 98),(t 99),(t 100),(t 101),(t 102)],
  mv 15 (t 103)] [])
  (.seq (.ops [mv 104 (t 15),
  mv 1 (t 104)] [])
  (.exit 1)))
  (.skip)))
 (.seq (.ops [mv 106 (t 0),
 mv 107 (t 1),
 mv 108 (t 2),
 mv 109 (t 13),
 mv 110 (t 4),
 ca 111 F.zjZ [(t 106),(t 107),(t 108),(t 109),(t 110)],
 mv 105 (t 111),
 ex 112 (t 105) 0,
 ex 113 (t 105) 1,
 mv 16 (t 112),
 mv 17 (t 113)] [])
 (.seq (.ops [mv 114 (t 17),
 mv 11 (t 114)] [])
 (.seq (.ops [mv 115 (t 16),
 mv 116 (t 1),
 o 117 (.ibin .sub (t 115) (t 116)),
 mv 118 (t 2),
 mv 119 (t 16),
 o 120 (.ibin .sub (t 118) (t 119)),
 mv 18 (t 117),
 mv 19 (t 120)] [])
 (.seq (.ops [mv 121 (t 12),
 o 122 (.ibin .quo (t 121) (k 8)),
 mv 20 (t 122)] [])
 (.seq (.ops [mv 123 (t 18),
 mv 124 (t 19),
 o 125 (.ibin .lss (t 123) (t 124))] [])
 (.cond (t 125)
  (.seq (.ops [mv 126 (t 18),
  mv 127 (t 20),
  o 128 (.ibin .geq (t 126) (t 127)),
  mv 10 (t 128)] [])
  (.seq (.ops [mv 129 (t 0),
  mv 130 (t 1),
  mv 131 (t 16),
  mv 132 (t 3),
  mv 133 (t 4),
  ca 134 F.zN [(t 129),(t 130),(t 131),(t 132),(t 133)]] [])
  (.ops [mv 135 (t 16),
  ad 136 (t 135) (k 1),
  mv 1 (t 136)] [])))
  (.seq (.ops [mv 137 (t 19),
  mv 138 (t 20),
  o 139 (.ibin .geq (t 137) (t 138)),
  mv 10 (t 139)] [])
  (.seq (.ops [mv 140 (t 0),
  mv 141 (t 16),
  ad 142 (t 141) (k 1),
  mv 143 (t 2),
  mv 144 (t 3),
  mv 145 (t 4),
  ca 146 F.zN [(t 140),(t 142),(t 143),(t 144),(t 145)]] [])
  (.ops [mv 147 (t 16),
  mv 2 (t 147)] [])))))))))))))))))))))
def zao:List zd:=[]
theorem zkr {args:List Value} {M:Mem} {R:Value→Mem→Prop} (hn:args.length≤148) (h:zj Tryz.prog zan zao args M R):CallsM Tryz.prog F.zN args M R:=
 zf (kf:=fun _=>[]) Tryz.func243 (by kernel_rfl) (by kernel_rfl) hn (by kernel_rfl) h
def zv5:RCode:=
 .seq (.ops [mv 4 (k 0)] [])
 (.seq (.ops [mv 7 (t 0),
 ca 8 F.zhZ [(t 7)],
 mv 5 (t 8)] [])
 (.seq (.ops [mv 9 (t 1),
 ca 10 F.zhZ [(t 9)],
 mv 6 (t 10)] [])
 (.seq (.seq (.ops [mv 11 (t 5)] [])
 (.cond (t 11)
 (.seq (.seq (.ops [mv 12 (t 6)] [])
 (.cond (t 12)
  (.seq (.ops [mv 4 (k 0)] [])
  (.ret))
  (.skip)))
 (.seq (.ops [mv 4 (k (-1))] [])
 (.ret)))
 (.skip)))
 (.seq (.seq (.ops [mv 13 (t 6)] [])
 (.cond (t 13)
 (.seq (.ops [mv 4 (k 1)] [])
 (.ret))
 (.skip)))
 (.seq (.seq (.ops [mv 14 (t 0),
 mv 15 (t 1),
 o 16 (.ibin .lss (t 14) (t 15))] [])
 (.cond (t 16)
 (.seq (.ops [mv 4 (k (-1))] [])
 (.ret))
 (.skip)))
 (.seq (.seq (.ops [mv 17 (t 0),
 mv 18 (t 1),
 o 19 (.ibin .gtr (t 17) (t 18))] [])
 (.cond (t 19)
 (.seq (.ops [mv 4 (k 1)] [])
 (.ret))
 (.skip)))
 (.seq (.ops [mv 4 (k 0)] [])
 (.ret))))))))
def zv6:List zd:=[.tmp 4]
def zmq:RCode:=
 .seq (.ops [mv 2 (.const (.pointer none)),
 mv 3 (k 0)] [])
 (.seq (.seq (.ops [mv 4 (t 0),
 o 5 (.ibin .lss (t 4) (k 1)),
 os 6 (.mov (t 5)),
 gf 6 7 (.mov (t 0)),
 gf 6 8 (.ibin .gtr (t 7) (k 63)),
 o 9 (.pick (t 6) (kb true) (t 8))] [])
 (.cond (t 9)
 (.seq (.ops [mv 2 (.const (.pointer none)),
 mv 3 (k 1)] [])
 (.ret))
 (.skip)))
 (.seq (.ops [mv 10 (t 0),
 o 11 (.build [(i 0),(i 0),sn,(i 0)] [(0,1,(t 10))]),
 o 12 (.box 282 (t 11)),
 mv 2 (t 12),
 mv 3 (k 0)] [])
 (.ret)))
def zmr:List zd:=[.tmp 2,.tmp 3]
theorem zBA {args:List Value} {M:Mem} {R:Value→Mem→Prop} (hn:args.length≤13) (h:zj Tryz.prog zmq zmr args M R):CallsM Tryz.prog F.zpj args M R:=
 zf (kf:=fun _=>[]) Tryz.func245 (by kernel_rfl) (by kernel_rfl) hn (by kernel_rfl) h
def zoM:RCode:=
 .seq (.ops [mv 2 (.const (.pointer none)),
 mv 3 (k 0)] [])
 (.seq (.seq (.ops [mv 5 (t 0),
 o 6 (.ibin .lss (t 5) (k 1)),
 os 7 (.mov (t 6)),
 gf 7 8 (.mov (t 0)),
 gf 7 9 (.ibin .gtr (t 8) (k 63)),
 o 10 (.pick (t 7) (kb true) (t 9))] [])
 (.cond (t 10)
 (.seq (.ops [mv 2 (.const (.pointer none)),
 mv 3 (k 1)] [])
 (.ret))
 (.skip)))
 (.seq (.ops [mv 11 (t 0),
 o 12 (.build [(i 0),(i 0),(.map none),(.map none)] [(0,1,(t 11))]),
 o 13 (.box 285 (t 12)),
 mv 4 (t 13)] [])
 (.seq (.ops [mv 14 (t 4),
 ca 15 F.zcj [(t 14)]] [])
 (.seq (.ops [mv 16 (t 4),
 mv 2 (t 16),
 mv 3 (k 0)] [])
 (.ret)))))
def zoN:List zd:=[.tmp 2,.tmp 3]
theorem zDL {args:List Value} {M:Mem} {R:Value→Mem→Prop} (hn:args.length≤17) (h:zj Tryz.prog zoM zoN args M R):CallsM Tryz.prog F.zrU args M R:=
 zf (kf:=fun _=>[]) Tryz.func246 (by kernel_rfl) (by kernel_rfl) hn (by kernel_rfl) h
def zig:RCode:=
 .seq (.ops [mv 2 (.const sn),
 mv 3 (k 0)] [])
 (.seq (.ops [mv 4 (.const sn)] [])
 (.seq (.ops [mv 5 (kb false)] [])
 (.seq (.seq (.ops [mv 8 (t 0),
 o 9 (.len (t 8)),
 mv 10 (k 0)] [])
 (.block 0 (.loop (.seq (.ops [o 11 (.ibin .lss (t 10) (t 9))] [])
 (.seq (.cond (t 11)
  (.skip)
  (.exit 0))
 (.seq (.block 1 (.seq (.ops [o 12 (.iaddr 1 (t 8) (t 10)),
 l1 13 (t 12),
 mv 7 (t 13)] [])
 (.block 2 (.seq (.ops [mv 19 (t 7),
 o 20 (.ibin .eql (t 19) (.const (u 126))),
 mv 18 (t 20)] [])
 (.cond (t 18)
  (.seq (.ops [mv 2 (.const sn),
  mv 3 (k 2)] [])
  (.ret))
  (.seq (.ops [mv 22 (t 5),
  os 23 (.mov (t 22)),
  gt 23 24 (.mov (t 7)),
  gt 23 25 (.ibin .neq (t 24) (.const (u 94))),
  o 26 (.pick (t 23) (t 25) (kb false)),
  os 27 (.mov (t 26)),
  gt 27 28 (.mov (t 7)),
  gt 27 29 (.ibin .neq (t 28) (.const (u 93))),
  o 30 (.pick (t 27) (t 29) (kb false)),
  mv 21 (t 30)] [])
  (.cond (t 21)
  (.seq (.ops [mv 2 (.const sn),
  mv 3 (k 2)] [])
  (.ret))
  (.seq (.ops [mv 32 (t 5),
  mv 31 (t 32)] [])
  (.cond (t 31)
   (.seq (.ops [mv 33 (t 4),
   mv 34 (t 7),
   o 35 (.ibin .xor (t 34) (.const (u 32))),
   o 36 (.mkSl true 5 1 [(u 0)] [(0,1,(t 35))]),
   o 37 (.app 5 1 1 [(u 0)] (t 33) (t 36)),
   mv 4 (t 37)] [])
   (.ops [mv 5 (kb false)] []))
   (.seq (.ops [mv 39 (t 7),
   o 40 (.ibin .eql (t 39) (.const (u 125))),
   mv 38 (t 40)] [])
   (.cond (t 38)
   (.ops [mv 5 (kb true)] [])
   (.ops [mv 14 (t 4),
   mv 15 (t 7),
   o 16 (.mkSl true 5 1 [(u 0)] [(0,1,(t 15))]),
   o 17 (.app 5 1 1 [(u 0)] (t 14) (t 16)),
   mv 4 (t 17)] []))))))))))))
 (.ops [ad 41 (t 10) (k 1),
 mv 10 (t 41)] [])))))))
 (.seq (.seq (.ops [mv 42 (t 5)] [])
 (.cond (t 42)
 (.seq (.ops [mv 2 (.const sn),
 mv 3 (k 2)] [])
 (.ret))
 (.skip)))
 (.seq (.ops [mv 43 (t 4),
 mv 2 (t 43),
 mv 3 (k 0)] [])
 (.ret))))))
def zih:List zd:=[.tmp 2,.tmp 3]
theorem zxE {args:List Value} {M:Mem} {R:Value→Mem→Prop} (hn:args.length≤44) (h:zj Tryz.prog zig zih args M R):CallsM Tryz.prog F.zl9 args M R:=
 zf (kf:=fun _=>[]) Tryz.func247 (by kernel_rfl) (by kernel_rfl) hn (by kernel_rfl) h
def znq:RCode:=
 .seq (.ops [mv 2 (kb false)] [])
 (.seq (.ops [mv 4 (t 0),
 o 5 (.len (t 4)),
 o 6 (.ibin .sub (t 5) (k 2)),
 mv 3 (t 6)] [])
 (.seq (.draw (.take (mv 7 (t 3)) (.take (o 8 (.ibin .geq (t 7) (k 0))) (.take (os 9 (.mov (t 8))) (.take (gt 9 10 (.mov (t 0))) (.take (gt 9 11 (.mov (t 3))) (.take (gt 9 12 (.slx 1 (t 10) none (some (t 11)))) (.take (gt 9 15 (.mov (t 0))) (.take (gt 9 16 (.mov (t 3))) (.take (gt 9 17 (.iaddr 1 (t 15) (t 16))) (.take (gt 9 18 (.load false 1 (t 17))) (.take (gt 9 19 (.conv .u16 (t 18))) (.take (gt 9 20 (.mov (t 0))) (.take (gt 9 21 (.mov (t 3))) (.take (gt 9 22 (.ibin .add (t 21) (k 1))) (.take (gt 9 23 (.iaddr 1 (t 20) (t 22))) (.take (gt 9 24 (.load false 1 (t 23))) (.take (gt 9 25 (.conv .u16 (t 24))) (.take (gt 9 26 (.ibin .shl (t 25) (.const (.int .u64 8)))) (.take (gt 9 27 (.ibin .or (t 19) (t 26))) (.alt (gt 9 13 (.mkSl false 22 1 [sn] [(0,1,(t 12))])) false
 (.alt (gt 9 14 (.call (fn F.zp0) [(t 13)])) true
  (.take (gt 9 28 (.ibin .eql (t 14) (t 27))) (.take (o 29 (.pick (t 9) (t 28) (kb false))) (.take (mv 2 (t 29)) (.done))))
  (.none))
 (.none))))))))))))))))))))) [])
 (.ret)))
def znr:List zd:=[.tmp 2]
theorem zCE {args:List Value} {M:Mem} {R:Value→Mem→Prop} (hn:args.length≤30) (h:zj Tryz.prog znq znr args M R):CallsM Tryz.prog F.zqv args M R:=
 zf (kf:=fun _=>[]) Tryz.func248 (by kernel_rfl) (by kernel_rfl) hn (by kernel_rfl) h
def zcw:RCode:=
 .seq (.ops [mv 2 (.const sn)] [])
 (.seq (.seq (.ops [mv 4 (t 0),
 o 5 (.pnil .eql (t 4) (.const (.pointer none)))] [])
 (.cond (t 5)
 (.seq (.ops [mv 2 (.const sn)] [])
 (.ret))
 (.skip)))
 (.seq (.ops [mv 6 (t 0),
 o 7 (.nilck (t 6)),
 fa 8 2 (t 7),
 l1 9 (t 8),
 mv 3 (t 9)] [])
 (.seq (.ops [mv 10 (t 0),
 mv 11 (t 0),
 mv 12 (t 0),
 o 13 (.nilck (t 10)),
 fa 14 2 (t 13),
 st 1 (t 14) (.const sn),
 o 15 (.nilck (t 11)),
 fa 16 3 (t 15),
 st 1 (t 16) (k 0),
 o 17 (.nilck (t 12)),
 fa 18 1 (t 17),
 st 1 (t 18) (k 0)] [])
 (.seq (.ops [mv 19 (t 3),
 mv 2 (t 19)] [])
 (.ret)))))
def zcx:List zd:=[.tmp 2]
theorem zqJ {args:List Value} {M:Mem} {R:Value→Mem→Prop} (hn:args.length≤20) (h:zj Tryz.prog zcw zcx args M R):CallsM Tryz.prog F.zfJ args M R:=
 zf (kf:=fun _=>[]) Tryz.func249 (by kernel_rfl) (by kernel_rfl) hn (by kernel_rfl) h
def zcy:RCode:=
 .seq (.ops [mv 2 (t 0),
 o 3 (.pnil .neq (t 2) (.const (.pointer none)))] [])
 (.cond (t 3)
 (.ops [mv 4 (t 0),
 mv 5 (t 0),
 mv 6 (t 0),
 o 7 (.mkMap),
 o 8 (.mkMap),
 o 9 (.nilck (t 4)),
 fa 10 1 (t 9),
 st 1 (t 10) (k 0),
 o 11 (.nilck (t 5)),
 fa 12 2 (t 11),
 st 1 (t 12) (t 7),
 o 13 (.nilck (t 6)),
 fa 14 3 (t 13),
 st 1 (t 14) (t 8)] [])
 (.skip))
def zcz:List zd:=[]
theorem zqK {args:List Value} {M:Mem} {R:Value→Mem→Prop} (hn:args.length≤15) (h:zj Tryz.prog zcy zcz args M R):CallsM Tryz.prog F.zcj args M R:=
 zf (kf:=fun _=>[]) Tryz.func250 (by kernel_rfl) (by kernel_rfl) hn (by kernel_rfl) h
def zii:RCode:=
 .seq (.ops [mv 7 (t 0),
 o 8 (.nilck (t 7)),
 fa 9 11 (t 8),
 l1 10 (t 9),
 mv 11 (t 1),
 ca 12 F.zhR [(t 10),(t 11)],
 mv 6 (t 12),
 ex 13 (t 6) 0,
 ex 14 (t 6) 1,
 mv 4 (t 13),
 mv 5 (t 14)] [])
 (.seq (.seq (.ops [mv 15 (t 5),
 o 16 (.ibin .neq (t 15) (k 0)),
 os 17 (.mov (t 16)),
 gf 17 18 (.mov (t 4)),
 gf 17 19 (.ibin .eql (t 18) (k 0)),
 o 20 (.pick (t 17) (kb true) (t 19))] [])
 (.cond (t 20)
 (.ret)
 (.skip)))
 (.seq (.ops [mv 21 (t 0),
 mv 22 (t 0),
 o 23 (.nilck (t 21)),
 fa 24 7 (t 23),
 st 1 (t 24) (k 0),
 o 25 (.nilck (t 22)),
 fa 26 6 (t 25),
 st 1 (t 26) (k 0)] [])
 (.seq (.ops [mv 27 (t 0),
 o 28 (.nilck (t 27)),
 fa 29 11 (t 28),
 l1 30 (t 29),
 ca 31 F.zaE [(t 30)],
 o 32 (.len (t 31)),
 o 33 (.ibin .gtr (t 32) (k 0))] [])
 (.cond (t 33)
 (.ops [mv 34 (t 0),
 mv 35 (t 0),
 o 36 (.nilck (t 35)),
 fa 37 4 (t 36),
 l1 38 (t 37),
 o 39 (.nilck (t 34)),
 fa 40 6 (t 39),
 st 1 (t 40) (t 38)] [])
 (.skip)))))
def zij:List zd:=[]
theorem zxF {args:List Value} {M:Mem} {R:Value→Mem→Prop} (hn:args.length≤41) (h:zj Tryz.prog zii zij args M R):CallsM Tryz.prog F.zhX args M R:=
 zf (kf:=fun _=>[]) Tryz.func251 (by kernel_rfl) (by kernel_rfl) hn (by kernel_rfl) h
def zqL:RCode:=
 .seq (.ops [mv 2 (t 0),
 o 3 (.pnil .neq (t 2) (.const (.pointer none)))] [])
 (.cond (t 3)
 (.ops [mv 4 (t 0),
 o 5 (.mkMap),
 o 6 (.nilck (t 4)),
 fa 7 3 (t 6),
 st 1 (t 7) (t 5)] [])
 (.skip))
def zqM:List zd:=[]
def zcQ:RCode:=
 .seq (.ops [mv 6 (.const sn),
 mv 7 (.const sn),
 mv 8 (k 0)] [])
 (.scope (.seq (.seq (.ops [mv 16 (t 0),
 mv 17 (t 1),
 mv 18 (t 2),
 ca 19 F.zfL [(t 16),(t 17),(t 18)],
 mv 9 (t 19)] [])
 (.seq (.ops [mv 20 (t 9),
 o 21 (.ibin .neq (t 20) (k 0))] [])
 (.cond (t 21)
 (.seq (.ops [mv 22 (t 9),
 mv 6 (.const sn),
 mv 7 (.const sn),
 mv 8 (t 22)] [])
 (.ret))
 (.skip))))
 (.seq (.draw (.take (mv 23 (t 0)) (.take (o 24 (.nilck (t 23))) (.take (fa 25 2 (t 24)) (.take (l1 26 (t 25)) (.take (mv 27 (t 1)) (.take (mv 29 (t 2)) (.alt (o 28 (.mkSl false 5 0 [] [])) false
 (.alt (o 30 (.app 5 1 1 [(u 0)] (t 28) (t 29))) true
  (.alt (e (.mset .int (t 26) (t 27) (t 30))) false
  (.done)
  (.none))
  (.none))
 (.none)))))))) [])
 (.seq (.ops [mv 10 (.const sn)] [])
 (.seq (.skip)
 (.seq (.block 0 (.loop (.block 1 (.seq (.draw (.take (mv 32 (t 0)) (.take (o 33 (.nilck (t 32))) (.take (fa 34 2 (t 33)) (.take (l1 35 (t 34)) (.take (mv 36 (t 0)) (.take (o 37 (.nilck (t 36))) (.take (fa 38 1 (t 37)) (.take (l1 39 (t 38)) (.take (o 40 (.mget .int true sn (t 35) (t 39))) (.take (mv 31 (t 40)) (.take (ex 41 (t 31) 0) (.take (ex 42 (t 31) 1) (.take (mv 11 (t 41)) (.take (mv 12 (t 42)) (.done))))))))))))))) [])
 (.seq (.seq (.ops [mv 43 (t 12),
 o 44 (.not (t 43))] [])
 (.cond (t 44)
  (.exit 0)
  (.skip)))
 (.seq (.ops [mv 45 (t 10),
 mv 46 (t 11),
 o 47 (.mkSl true 22 1 [sn] [(0,1,(t 46))]),
 o 48 (.app 22 1 24 [sn] (t 45) (t 47)),
 mv 10 (t 48)] [])
 (.seq (.draw (.take (mv 49 (t 0)) (.take (o 50 (.nilck (t 49))) (.take (fa 51 2 (t 50)) (.take (l1 52 (t 51)) (.take (mv 53 (t 0)) (.take (o 54 (.nilck (t 53))) (.take (fa 55 1 (t 54)) (.take (l1 56 (t 55)) (.alt (e (.mdel .int (t 52) (t 56))) false
  (.done)
  (.none)))))))))) [])
 (.seq (.draw (.take (mv 57 (t 0)) (.take (o 58 (.nilck (t 57))) (.take (fa 59 3 (t 58)) (.take (l1 60 (t 59)) (.take (mv 61 (t 0)) (.take (o 62 (.nilck (t 61))) (.take (fa 63 1 (t 62)) (.take (l1 64 (t 63)) (.alt (e (.mdel .int (t 60) (t 64))) false
  (.done)
  (.none)))))))))) [])
 (.ops [mv 65 (t 0),
 mv 66 (t 0),
 o 67 (.nilck (t 66)),
 fa 68 1 (t 67),
 l1 69 (t 68),
 ca 70 F.znT [(t 69)],
 o 71 (.nilck (t 65)),
 fa 72 1 (t 71),
 st 1 (t 72) (t 70)] [])))))))))
 (.seq (.ops [mv 13 (.const sn)] [])
 (.seq (.seq (.ops [mv 73 (t 0),
 ca 74 F.zdZ [(t 73)],
 o 75 (.len (t 74)),
 mv 76 (k 0)] [])
 (.block 2 (.loop (.seq (.ops [o 77 (.ibin .lss (t 76) (t 75))] [])
 (.seq (.cond (t 77)
  (.skip)
  (.exit 2))
 (.seq (.block 3 (.seq (.ops [o 78 (.iaddr 1 (t 74) (t 76)),
 l1 79 (t 78),
 mv 15 (t 79)] [])
 (.seq (.seq (.ops [mv 80 (t 0),
 o 81 (.nilck (t 80)),
 fa 82 3 (t 81),
 l1 83 (t 82),
 mv 84 (t 15),
 o 85 (.mget .int false (i 0) (t 83) (t 84)),
 o 86 (.ibin .eql (t 85) (k 0))] [])
 (.cond (t 86)
  (.ops [mv 87 (t 13),
  mv 88 (t 15),
  o 89 (.mkSl true 3 1 [(i 0)] [(0,1,(t 88))]),
  o 90 (.app 3 1 8 [(i 0)] (t 87) (t 89)),
  mv 13 (t 90)] [])
  (.skip)))
 (.ops [mv 91 (t 0),
 o 92 (.nilck (t 91)),
 fa 93 3 (t 92),
 l1 94 (t 93),
 mv 95 (t 15),
 o 96 (.mget .int false (i 0) (t 94) (t 95)),
 ad 97 (t 96) (k 1),
 e (.mset .int (t 94) (t 95) (t 97))] []))))
 (.ops [ad 98 (t 76) (k 1),
 mv 76 (t 98)] [])))))))
 (.seq (.ops [mv 99 (t 10),
 mv 100 (t 13),
 mv 6 (t 99),
 mv 7 (t 100),
 mv 8 (k 0)] [])
 (.ret))))))))))
def zcR:List zd:=[.tmp 6,.tmp 7,.tmp 8]
theorem zrg {args:List Value} {M:Mem} {R:Value→Mem→Prop} (hn:args.length≤101) (h:zj Tryz.prog zcQ zcR args M R):CallsM Tryz.prog F.zgf args M R:=
 zf (kf:=fun _=>[]) Tryz.func253 (by kernel_rfl) (by kernel_rfl) hn (by kernel_rfl) h
def zeC:RCode:=
 .seq (.ops [mv 2 (k 2)] [])
 (.seq (.seq (.ops [mv 3 (t 0),
 o 4 (.nilck (t 3)),
 fa 5 10 (t 4),
 l1 6 (t 5)] [])
 (.cond (t 6)
 (.ops [mv 2 (k 3)] [])
 (.skip)))
 (.draw (.take (mv 7 (t 0)) (.take (mv 8 (t 2)) (.take (mv 9 (t 0)) (.take (o 10 (.nilck (t 9))) (.take (fa 11 12 (t 10)) (.take (l1 12 (t 11)) (.take (mv 14 (t 0)) (.take (o 15 (.nilck (t 14))) (.take (fa 16 1 (t 15)) (.take (l1 17 (t 16)) (.alt (ca 13 F.za7 [(t 12)]) true
 (.take (o 18 (.build [(i 0),(i 0),(i 0),(.bool false),(i 0),(i 0),sn] [(0,1,(t 8)),(2,1,(t 13)),(5,1,(t 17))])) (.alt (ca 19 F.zam [(t 7),(t 18)]) false
  (.done)
  (.none)))
 (.none)))))))))))) []))
def zeD:List zd:=[]
theorem zsY {args:List Value} {M:Mem} {R:Value→Mem→Prop} (hn:args.length≤20) (h:zj Tryz.prog zeC zeD args M R):CallsM Tryz.prog F.zef args M R:=
 zf (kf:=fun _=>[]) Tryz.func254 (by kernel_rfl) (by kernel_rfl) hn (by kernel_rfl) h
def zoO:RCode:=
 .seq (.ops [o 2 (.box 86 (t 0)),
 o 3 (.box 86 (t 1)),
 mv 4 (kb false)] [])
 (.seq (.ops [fa 5 0 (t 2),
 la 6 4 (t 5),
 fa 7 0 (t 3),
 la 8 4 (t 7),
 o 9 (.aeq .eql 4 (t 6) (t 8)),
 os 10 (.mov (t 9)),
 gt 10 11 (.faddr 4 (t 2)),
 gt 10 12 (.load false 1 (t 11)),
 gt 10 13 (.strOf (t 12)),
 gt 10 14 (.faddr 4 (t 3)),
 gt 10 15 (.load false 1 (t 14)),
 gt 10 16 (.strOf (t 15)),
 gt 10 17 (.strE .eql (t 13) (t 16)),
 o 18 (.pick (t 10) (t 17) (kb false)),
 mv 4 (t 18)] [])
 (.ret))
def zoP:List zd:=[.tmp 4]
theorem zDM {args:List Value} {M:Mem} {R:Value→Mem→Prop} (hn:args.length≤19) (h:zj Tryz.prog zoO zoP args M R):CallsM Tryz.prog F.zrV args M R:=
 zf (kf:=fun _=>[]) Tryz.func255 (by kernel_rfl) (by kernel_rfl) hn (by kernel_rfl) h
def zeE:RCode:=
 .seq (.ops [o 3 (.box 54 (t 1)),
 mv 4 (kb false)] [])
 (.seq (.draw (.take (mv 5 (t 0)) (.take (o 6 (.pnil .neq (t 5) (.const (.pointer none)))) (.take (os 7 (.mov (t 6))) (.take (gt 7 8 (.faddr 1 (t 3))) (.take (gt 7 9 (.load false 1 (t 8))) (.take (gt 7 10 (.mov (t 0))) (.take (gt 7 11 (.nilck (t 10))) (.take (gt 7 12 (.faddr 0 (t 11))) (.take (gt 7 13 (.load false 1 (t 12))) (.take (gt 7 14 (.ibin .eql (t 9) (t 13))) (.take (o 15 (.pick (t 7) (t 14) (kb false))) (.take (os 16 (.mov (t 15))) (.take (gt 16 17 (.mov (t 0))) (.take (gt 16 18 (.nilck (t 17))) (.take (gt 16 19 (.faddr 72 (t 18))) (.take (gt 16 20 (.load false 1 (t 19))) (.take (gt 16 21 (.load true 4 (t 3))) (.alt (gt 16 22 (.call (fn F.zjc) [(t 20),(t 21)])) false
 (.take (o 23 (.pick (t 16) (t 22) (kb false))) (.take (mv 4 (t 23)) (.done)))
 (.none))))))))))))))))))) [])
 (.ret))
def zeF:List zd:=[.tmp 4]
theorem zsZ {args:List Value} {M:Mem} {R:Value→Mem→Prop} (hn:args.length≤24) (h:zj Tryz.prog zeE zeF args M R):CallsM Tryz.prog F.ziL args M R:=
 zf (kf:=fun _=>[]) Tryz.func256 (by kernel_rfl) (by kernel_rfl) hn (by kernel_rfl) h
def zt4:RCode:=
 .seq (.ops [o 3 (.box 54 (t 1)),
 o 4 (.alloc 86 [(i 0),(i 0),(i 0),(i 0),sn]),
 mv 5 (kb false)] [])
 (.seq (.seq (.ops [mv 8 (t 0),
 o 9 (.pnil .eql (t 8) (.const (.pointer none)))] [])
 (.cond (t 9)
 (.seq (.ops [o 10 (.build [(i 0),(i 0),(i 0),(i 0),sn] []),
 st 5 (t 4) (t 10),
 mv 5 (kb false)] [])
 (.ret))
 (.skip)))
 (.seq (.draw (.take (mv 12 (t 0)) (.take (o 13 (.nilck (t 12))) (.take (fa 14 69 (t 13)) (.take (l1 15 (t 14)) (.take (la 16 4 (t 3)) (.take (o 17 (.mget (.agg 4) true (.agg #[(i 0),(i 0),(i 0),(i 0),sn,(i 0)]) (t 15) (t 16))) (.take (mv 11 (t 17)) (.take (ex 18 (t 11) 0) (.take (ex 19 (t 11) 1) (.alt (o 6 (.alloc 240 [(i 0),(i 0),(i 0),(i 0),sn,(i 0)])) false
 (.alt (st 6 (t 6) (t 18)) false
  (.take (mv 7 (t 19)) (.done))
  (.none))
 (.none))))))))))) [])
 (.seq (.seq (.ops [mv 20 (t 7),
 o 21 (.not (t 20))] [])
 (.cond (t 21)
 (.seq (.ops [o 22 (.build [(i 0),(i 0),(i 0),(i 0),sn] []),
 st 5 (t 4) (t 22),
 mv 5 (kb false)] [])
 (.ret))
 (.skip)))
 (.seq (.draw (.take (la 23 4 (t 3)) (.take (fa 25 0 (t 6)) (.take (fa 26 4 (t 25)) (.take (l1 27 (t 26)) (.alt (o 24 (.mkSl false 5 0 [] [])) false
 (.alt (o 28 (.app 5 1 1 [(u 0)] (t 24) (t 27))) true
  (.take (o 29 (.build [(i 0),(i 0),(i 0),(i 0),sn] [(0,4,(t 23)),(4,1,(t 28))])) (.alt (st 5 (t 4) (t 29)) false
  (.take (mv 5 (kb true)) (.done))
  (.none)))
  (.none))
 (.none)))))) [])
 (.ret)))))
def zt5:List zd:=[.cell true 5 4,.tmp 5]
def zar:RCode:=
 .seq (.ops [mv 5 (t 0),
 o 6 (.len (t 5)),
 mv 4 (t 6)] [])
 (.ops [mv 7 (t 0),
 mv 8 (t 4),
 mv 9 (t 4),
 o 10 (.conv .u64 (t 9)),
 ca 11 F.zaW [(t 10)],
 mv 12 (t 1),
 ca 13 F.zV [(t 7),(k 0),(t 8),(t 11),(t 12)]] [])
def zas:List zd:=[]
theorem zli {args:List Value} {M:Mem} {R:Value→Mem→Prop} (hn:args.length≤14) (h:zj Tryz.prog zar zas args M R):CallsM Tryz.prog F.zbf args M R:=
 zf (kf:=fun _=>[]) Tryz.func258 (by kernel_rfl) (by kernel_rfl) hn (by kernel_rfl) h
def zsg:RCode:=
 .seq (.ops [o 2 (.box 54 (t 0)),
 o 3 (.box 54 (t 1)),
 mv 4 (k 0)] [])
 (.seq (.seq (.ops [la 5 4 (t 2),
 la 6 4 (t 3),
 ca 7 F.zEH [(t 5),(t 6)]] [])
 (.cond (t 7)
 (.seq (.ops [mv 4 (k (-1))] [])
 (.ret))
 (.skip)))
 (.seq (.ops [mv 4 (k 1)] [])
 (.ret)))
def zsh:List zd:=[.tmp 4]
def zEW:RCode:=
 .seq (.ops [o 2 (.box 54 (t 0)),
 o 3 (.box 54 (t 1)),
 mv 4 (kb false)] [])
 (.seq (.block 0 (.seq (.ops [fa 6 0 (t 2),
 l1 7 (t 6),
 fa 8 0 (t 3),
 l1 9 (t 8),
 o 10 (.ibin .neq (t 7) (t 9)),
 mv 5 (t 10)] [])
 (.cond (t 5)
 (.seq (.ops [fa 11 0 (t 2),
 l1 12 (t 11),
 fa 13 0 (t 3),
 l1 14 (t 13),
 o 15 (.ibin .lss (t 12) (t 14)),
 mv 4 (t 15)] [])
 (.ret))
 (.seq (.ops [fa 17 1 (t 2),
 l1 18 (t 17),
 fa 19 1 (t 3),
 l1 20 (t 19),
 o 21 (.ibin .neq (t 18) (t 20)),
 mv 16 (t 21)] [])
 (.cond (t 16)
  (.seq (.ops [fa 22 1 (t 2),
  l1 23 (t 22),
  fa 24 1 (t 3),
  l1 25 (t 24),
  o 26 (.ibin .lss (t 23) (t 25)),
  mv 4 (t 26)] [])
  (.ret))
  (.seq (.ops [fa 28 2 (t 2),
  l1 29 (t 28),
  fa 30 2 (t 3),
  l1 31 (t 30),
  o 32 (.ibin .neq (t 29) (t 31)),
  mv 27 (t 32)] [])
  (.cond (t 27)
  (.seq (.ops [fa 33 2 (t 2),
  l1 34 (t 33),
  fa 35 2 (t 3),
  l1 36 (t 35),
  o 37 (.ibin .lss (t 34) (t 36)),
  mv 4 (t 37)] [])
  (.ret))
  (.skip))))))))
 (.seq (.ops [fa 38 3 (t 2),
 l1 39 (t 38),
 fa 40 3 (t 3),
 l1 41 (t 40),
 o 42 (.ibin .lss (t 39) (t 41)),
 mv 4 (t 42)] [])
 (.ret)))
def zEX:List zd:=[.tmp 4]
def zqh:RCode:=
 .seq (.ops [mv 2 (.const (.int .u16 0))] [])
 (.seq (.ops [mv 3 (.const (.int .u16 65535))] [])
 (.seq (.seq (.ops [mv 8 (t 0),
 o 9 (.len (t 8)),
 mv 10 (k 0)] [])
 (.block 0 (.loop (.seq (.ops [o 11 (.ibin .lss (t 10) (t 9))] [])
 (.seq (.cond (t 11)
  (.skip)
  (.exit 0))
 (.seq (.block 1 (.seq (.ops [o 12 (.iaddr 1 (t 8) (t 10)),
 l1 13 (t 12),
 mv 5 (t 13)] [])
 (.seq (.ops [mv 14 (t 5),
 o 15 (.len (t 14)),
 mv 16 (k 0)] [])
 (.block 2 (.loop (.seq (.ops [o 17 (.ibin .lss (t 16) (t 15))] [])
  (.seq (.cond (t 17)
  (.skip)
  (.exit 2))
  (.seq (.block 3 (.seq (.ops [o 18 (.iaddr 1 (t 14) (t 16)),
  l1 19 (t 18),
  mv 7 (t 19)] [])
  (.ops [mv 20 (t 3),
  mv 21 (t 7),
  ca 22 F.zrX [(t 20),(t 21)],
  mv 3 (t 22)] [])))
  (.ops [ad 23 (t 16) (k 1),
  mv 16 (t 23)] [])))))))))
 (.ops [ad 24 (t 10) (k 1),
 mv 10 (t 24)] [])))))))
 (.seq (.ops [mv 25 (t 3),
 o 26 (.ucom (t 25)),
 mv 2 (t 26)] [])
 (.ret))))
def zqi:List zd:=[.tmp 2]
theorem zEY {args:List Value} {M:Mem} {R:Value→Mem→Prop} (hn:args.length≤27) (h:zj Tryz.prog zqh zqi args M R):CallsM Tryz.prog F.zp0 args M R:=
 zf (kf:=fun _=>[]) Tryz.func261 (by kernel_rfl) (by kernel_rfl) hn (by kernel_rfl) h
def zaf:RCode:=
 .seq (.ops [mv 8 (t 1),
 ad 9 (t 8) (k 1),
 mv 6 (t 9)] [])
 (.block 0 (.loop (.seq (.seq (.ops [mv 10 (t 6),
 mv 11 (t 2),
 o 12 (.ibin .lss (t 10) (t 11))] [])
 (.cond (t 12)
  (.skip)
  (.exit 0)))
 (.seq (.block 1 (.seq (.ops [mv 15 (t 6),
 mv 7 (t 15)] [])
 (.block 2 (.loop (.seq (.seq (.draw (.take (mv 16 (t 7)) (.take (mv 17 (t 1)) (.take (o 18 (.ibin .gtr (t 16) (t 17))) (.take (os 19 (.mov (t 18))) (.take (gt 19 20 (.mov (t 0))) (.take (gt 19 21 (.mov (t 7))) (.take (gt 19 22 (.iaddr 1 (t 20) (t 21))) (.take (gt 19 23 (.load false 1 (t 22))) (.take (gt 19 24 (.mov (t 0))) (.take (gt 19 25 (.mov (t 7))) (.take (gt 19 26 (.ibin .sub (t 25) (k 1))) (.take (gt 19 27 (.iaddr 1 (t 24) (t 26))) (.take (gt 19 28 (.load false 1 (t 27))) (.alt (gt 19 29 (.call (fn F.zF) [(t 23),(t 28)])) false
  (.take (o 30 (.pick (t 19) (t 29) (kb false))) (.done))
  (.none))))))))))))))) [])
  (.cond (t 30)
  (.skip)
  (.exit 2)))
  (.seq (.block 3 (.draw (.take (mv 33 (t 0)) (.take (mv 34 (t 7)) (.take (mv 35 (t 0)) (.take (mv 36 (t 7)) (.take (o 37 (.ibin .sub (t 36) (k 1))) (.take (mv 38 (t 0)) (.take (mv 39 (t 7)) (.take (o 40 (.ibin .sub (t 39) (k 1))) (.take (o 41 (.iaddr 1 (t 38) (t 40))) (.take (l1 42 (t 41)) (.take (mv 43 (t 0)) (.take (mv 44 (t 7)) (.take (o 45 (.iaddr 1 (t 43) (t 44))) (.take (l1 46 (t 45)) (.take (o 47 (.iaddr 1 (t 33) (t 34))) (.alt (st 1 (t 47) (t 42)) false
  (.take (o 48 (.iaddr 1 (t 35) (t 37))) (.alt (st 1 (t 48) (t 46)) false
   (.done)
   (.none)))
  (.none))))))))))))))))) []))
  (.ops [mv 31 (t 7),
  o 32 (.ibin .sub (t 31) (k 1)),
  mv 7 (t 32)] [])))))))
 (.ops [mv 13 (t 6),
 ad 14 (t 13) (k 1),
 mv 6 (t 14)] [])))))
def zag:List zd:=[]
theorem zj3 {args:List Value} {M:Mem} {R:Value→Mem→Prop} (hn:args.length≤49) (h:zj Tryz.prog zaf zag args M R):CallsM Tryz.prog F.za1 args M R:=
 zf (kf:=fun _=>[]) Tryz.func262 (by kernel_rfl) (by kernel_rfl) hn (by kernel_rfl) h
def zmZ:RCode:=
 .seq (.ops [mv 11 (t 1),
 mv 6 (t 11)] [])
 (.seq (.ops [mv 7 (k 0)] [])
 (.seq (.ops [mv 12 (t 2),
 mv 13 (t 1),
 o 14 (.ibin .sub (t 12) (t 13)),
 mv 8 (t 14)] [])
 (.seq (.seq (.ops [mv 15 (t 8),
 o 16 (.ibin .sub (t 15) (k 1)),
 o 17 (.ibin .quo (t 16) (k 2)),
 mv 9 (t 17)] [])
 (.block 0 (.loop (.seq (.seq (.ops [mv 18 (t 9),
 o 19 (.ibin .geq (t 18) (k 0))] [])
 (.cond (t 19)
  (.skip)
  (.exit 0)))
 (.seq (.block 1 (.ops [mv 22 (t 0),
 mv 23 (t 9),
 mv 24 (t 8),
 mv 25 (t 6),
 ca 26 F.zfM [(t 22),(t 23),(t 24),(t 25)]] []))
 (.ops [mv 20 (t 9),
 o 21 (.ibin .sub (t 20) (k 1)),
 mv 9 (t 21)] []))))))
 (.seq (.ops [mv 27 (t 8),
 o 28 (.ibin .sub (t 27) (k 1)),
 mv 10 (t 28)] [])
 (.block 2 (.loop (.seq (.seq (.ops [mv 29 (t 10),
 o 30 (.ibin .geq (t 29) (k 0))] [])
 (.cond (t 30)
  (.skip)
  (.exit 2)))
 (.seq (.block 3 (.seq (.draw (.take (mv 33 (t 0)) (.take (mv 34 (t 6)) (.take (mv 35 (t 0)) (.take (mv 36 (t 6)) (.take (mv 37 (t 10)) (.take (ad 38 (t 36) (t 37)) (.take (mv 39 (t 0)) (.take (mv 40 (t 6)) (.take (mv 41 (t 10)) (.take (ad 42 (t 40) (t 41)) (.take (o 43 (.iaddr 1 (t 39) (t 42))) (.take (l1 44 (t 43)) (.take (mv 45 (t 0)) (.take (mv 46 (t 6)) (.take (o 47 (.iaddr 1 (t 45) (t 46))) (.take (l1 48 (t 47)) (.take (o 49 (.iaddr 1 (t 33) (t 34))) (.alt (st 1 (t 49) (t 44)) false
  (.take (o 50 (.iaddr 1 (t 35) (t 38))) (.alt (st 1 (t 50) (t 48)) false
  (.done)
  (.none)))
  (.none))))))))))))))))))) [])
 (.ops [mv 51 (t 0),
 mv 52 (t 7),
 mv 53 (t 10),
 mv 54 (t 6),
 ca 55 F.zfM [(t 51),(t 52),(t 53),(t 54)]] [])))
 (.ops [mv 31 (t 10),
 o 32 (.ibin .sub (t 31) (k 1)),
 mv 10 (t 32)] [])))))))))
def zm0:List zd:=[]
def zks:RCode:=
 .seq (.ops [mv 11 (t 2),
 mv 12 (t 1),
 o 13 (.ibin .sub (t 11) (t 12)),
 mv 6 (t 13)] [])
 (.seq (.ops [mv 14 (t 6),
 o 15 (.ibin .geq (t 14) (k 8))] [])
 (.cond (t 15)
 (.seq (.ops [mv 16 (t 6),
 o 17 (.conv .u64 (t 16)),
 o 7 (.alloc 340 [(.int .u64 0)]),
 st 1 (t 7) (t 17)] [])
 (.seq (.ops [mv 18 (t 6),
 ca 19 F.zaP [(t 18)],
 mv 8 (t 19)] [])
 (.seq (.ops [mv 20 (t 1),
 mv 21 (t 6),
 o 22 (.ibin .quo (t 21) (k 4)),
 o 23 (.ibin .mul (t 22) (k 2)),
 ad 24 (t 20) (t 23),
 o 25 (.ibin .sub (t 24) (k 1)),
 mv 9 (t 25)] [])
 (.block 0 (.loop (.seq (.seq (.ops [mv 26 (t 9),
  mv 27 (t 1),
  mv 28 (t 6),
  o 29 (.ibin .quo (t 28) (k 4)),
  o 30 (.ibin .mul (t 29) (k 2)),
  ad 31 (t 27) (t 30),
  ad 32 (t 31) (k 1),
  o 33 (.ibin .leq (t 26) (t 32))] [])
  (.cond (t 33)
  (.skip)
  (.exit 0)))
  (.seq (.block 1 (.seq (.ops [ca 36 F.za2 [(t 7)],
  mv 37 (t 8),
  o 38 (.ibin .sub (t 37) (.const (.int .u64 1))),
  o 39 (.ibin .and (t 36) (t 38)),
  o 40 (.conv .i64 (t 39)),
  mv 10 (t 40)] [])
  (.seq (.seq (.ops [mv 41 (t 10),
  mv 42 (t 6),
  o 43 (.ibin .geq (t 41) (t 42))] [])
  (.cond (t 43)
  (.ops [mv 44 (t 10),
  mv 45 (t 6),
  o 46 (.ibin .sub (t 44) (t 45)),
  mv 10 (t 46)] [])
  (.skip)))
  (.draw (.take (mv 47 (t 0)) (.take (mv 48 (t 9)) (.take (mv 49 (t 0)) (.take (mv 50 (t 1)) (.take (mv 51 (t 10)) (.take (ad 52 (t 50) (t 51)) (.take (mv 53 (t 0)) (.take (mv 54 (t 1)) (.take (mv 55 (t 10)) (.take (ad 56 (t 54) (t 55)) (.take (o 57 (.iaddr 1 (t 53) (t 56))) (.take (l1 58 (t 57)) (.take (mv 59 (t 0)) (.take (mv 60 (t 9)) (.take (o 61 (.iaddr 1 (t 59) (t 60))) (.take (l1 62 (t 61)) (.take (o 63 (.iaddr 1 (t 47) (t 48))) (.alt (st 1 (t 63) (t 58)) false
  (.take (o 64 (.iaddr 1 (t 49) (t 52))) (.alt (st 1 (t 64) (t 62)) false
   (.done)
   (.none)))
  (.none))))))))))))))))))) []))))
  (.ops [mv 34 (t 9),
  ad 35 (t 34) (k 1),
  mv 9 (t 35)] []))))))))
 (.skip)))
def zkt:List zd:=[]
def zlF:RCode:=
 .seq (.ops [mv 6 (k 0),
 mv 7 (k 0)] [])
 (.seq (.ops [mv 13 (t 2),
 mv 14 (t 1),
 o 15 (.ibin .sub (t 13) (t 14)),
 mv 8 (t 15)] [])
 (.seq (.ops [o 9 (.alloc 3 [(i 0)])] [])
 (.seq (.ops [mv 16 (t 1),
 mv 17 (t 8),
 o 18 (.ibin .quo (t 17) (k 4)),
 o 19 (.ibin .mul (t 18) (k 1)),
 ad 20 (t 16) (t 19),
 mv 10 (t 20)] [])
 (.seq (.ops [mv 21 (t 1),
 mv 22 (t 8),
 o 23 (.ibin .quo (t 22) (k 4)),
 o 24 (.ibin .mul (t 23) (k 2)),
 ad 25 (t 21) (t 24),
 mv 11 (t 25)] [])
 (.seq (.ops [mv 26 (t 1),
 mv 27 (t 8),
 o 28 (.ibin .quo (t 27) (k 4)),
 o 29 (.ibin .mul (t 28) (k 3)),
 ad 30 (t 26) (t 29),
 mv 12 (t 30)] [])
 (.seq (.seq (.ops [mv 31 (t 8),
 o 32 (.ibin .geq (t 31) (k 8))] [])
 (.cond (t 32)
 (.seq (.seq (.ops [mv 33 (t 8),
 o 34 (.ibin .geq (t 33) (k 50))] [])
 (.cond (t 34)
  (.seq (.ops [mv 35 (t 0),
  mv 36 (t 10),
  ca 37 F.zaU [(t 35),(t 36),(t 9)],
  mv 10 (t 37)] [])
  (.seq (.ops [mv 38 (t 0),
  mv 39 (t 11),
  ca 40 F.zaU [(t 38),(t 39),(t 9)],
  mv 11 (t 40)] [])
  (.ops [mv 41 (t 0),
  mv 42 (t 12),
  ca 43 F.zaU [(t 41),(t 42),(t 9)],
  mv 12 (t 43)] [])))
  (.skip)))
 (.ops [mv 44 (t 0),
 mv 45 (t 10),
 mv 46 (t 11),
 mv 47 (t 12),
 ca 48 F.zhv [(t 44),(t 45),(t 46),(t 47),(t 9)],
 mv 11 (t 48)] []))
 (.skip)))
 (.seq (.ops [l1 49 (t 9)] [])
 (.block 0 (.seq (.ops [o 52 (.ibin .eql (t 49) (k 0)),
 mv 51 (t 52)] [])
 (.cond (t 51)
 (.seq (.ops [mv 53 (t 11),
 mv 6 (t 53),
 mv 7 (k 1)] [])
 (.ret))
 (.seq (.ops [o 55 (.ibin .eql (t 49) (k 12)),
 mv 54 (t 55)] [])
 (.cond (t 54)
  (.seq (.ops [mv 56 (t 11),
  mv 6 (t 56),
  mv 7 (k 2)] [])
  (.ret))
  (.seq (.ops [mv 50 (t 11),
  mv 6 (t 50),
  mv 7 (k 0)] [])
  (.ret))))))))))))))
def zlG:List zd:=[.tmp 6,.tmp 7]
def zlj:RCode:=
 .seq (.ops [mv 8 (t 1),
 mv 6 (t 8)] [])
 (.seq (.ops [mv 9 (t 2),
 o 10 (.ibin .sub (t 9) (k 1)),
 mv 7 (t 10)] [])
 (.block 0 (.loop (.seq (.seq (.ops [mv 11 (t 6),
 mv 12 (t 7),
 o 13 (.ibin .lss (t 11) (t 12))] [])
 (.cond (t 13)
  (.skip)
  (.exit 0)))
 (.block 1 (.seq (.draw (.take (mv 14 (t 0)) (.take (mv 15 (t 6)) (.take (mv 16 (t 0)) (.take (mv 17 (t 7)) (.take (mv 18 (t 0)) (.take (mv 19 (t 7)) (.take (o 20 (.iaddr 1 (t 18) (t 19))) (.take (l1 21 (t 20)) (.take (mv 22 (t 0)) (.take (mv 23 (t 6)) (.take (o 24 (.iaddr 1 (t 22) (t 23))) (.take (l1 25 (t 24)) (.take (o 26 (.iaddr 1 (t 14) (t 15))) (.alt (st 1 (t 26) (t 21)) false
  (.take (o 27 (.iaddr 1 (t 16) (t 17))) (.alt (st 1 (t 27) (t 25)) false
  (.done)
  (.none)))
  (.none))))))))))))))) [])
 (.seq (.ops [mv 28 (t 6),
 ad 29 (t 28) (k 1),
 mv 6 (t 29)] [])
 (.ops [mv 30 (t 7),
 o 31 (.ibin .sub (t 30) (k 1)),
 mv 7 (t 31)] []))))))))
def zlk:List zd:=[]
def zhk:RCode:=
 .seq (.ops [mv 6 (kb false)] [])
 (.seq (.ops [mv 11 (t 1),
 ad 12 (t 11) (k 1),
 mv 7 (t 12)] [])
 (.seq (.seq (.ops [mv 8 (k 0)] [])
 (.block 0 (.loop (.seq (.seq (.ops [mv 13 (t 8),
 o 14 (.ibin .lss (t 13) (k 5))] [])
 (.cond (t 14)
  (.skip)
  (.exit 0)))
 (.seq (.block 1 (.seq (.block 2 (.loop (.seq (.seq (.draw (.take (mv 17 (t 7)) (.take (mv 18 (t 2)) (.take (o 19 (.ibin .lss (t 17) (t 18))) (.take (os 20 (.mov (t 19))) (.take (gt 20 21 (.mov (t 0))) (.take (gt 20 22 (.mov (t 7))) (.take (gt 20 23 (.iaddr 1 (t 21) (t 22))) (.take (gt 20 24 (.load false 1 (t 23))) (.take (gt 20 25 (.mov (t 0))) (.take (gt 20 26 (.mov (t 7))) (.take (gt 20 27 (.ibin .sub (t 26) (k 1))) (.take (gt 20 28 (.iaddr 1 (t 25) (t 27))) (.take (gt 20 29 (.load false 1 (t 28))) (.alt (gt 20 30 (.call (fn F.zF) [(t 24),(t 29)])) false
  (.take (gt 20 31 (.not (t 30))) (.take (o 32 (.pick (t 20) (t 31) (kb false))) (.done)))
  (.none))))))))))))))) [])
  (.cond (t 32)
  (.skip)
  (.exit 2)))
  (.block 3 (.ops [mv 33 (t 7),
  ad 34 (t 33) (k 1),
  mv 7 (t 34)] [])))))
 (.seq (.seq (.ops [mv 35 (t 7),
 mv 36 (t 2),
 o 37 (.ibin .eql (t 35) (t 36))] [])
 (.cond (t 37)
  (.seq (.ops [mv 6 (kb true)] [])
  (.ret))
  (.skip)))
 (.seq (.seq (.ops [mv 38 (t 2),
 mv 39 (t 1),
 o 40 (.ibin .sub (t 38) (t 39)),
 o 41 (.ibin .lss (t 40) (k 50))] [])
 (.cond (t 41)
  (.seq (.ops [mv 6 (kb false)] [])
  (.ret))
  (.skip)))
 (.seq (.draw (.take (mv 42 (t 0)) (.take (mv 43 (t 7)) (.take (mv 44 (t 0)) (.take (mv 45 (t 7)) (.take (o 46 (.ibin .sub (t 45) (k 1))) (.take (mv 47 (t 0)) (.take (mv 48 (t 7)) (.take (o 49 (.ibin .sub (t 48) (k 1))) (.take (o 50 (.iaddr 1 (t 47) (t 49))) (.take (l1 51 (t 50)) (.take (mv 52 (t 0)) (.take (mv 53 (t 7)) (.take (o 54 (.iaddr 1 (t 52) (t 53))) (.take (l1 55 (t 54)) (.take (o 56 (.iaddr 1 (t 42) (t 43))) (.alt (st 1 (t 56) (t 51)) false
  (.take (o 57 (.iaddr 1 (t 44) (t 46))) (.alt (st 1 (t 57) (t 55)) false
  (.done)
  (.none)))
  (.none))))))))))))))))) [])
 (.seq (.seq (.ops [mv 58 (t 7),
 mv 59 (t 1),
 o 60 (.ibin .sub (t 58) (t 59)),
 o 61 (.ibin .geq (t 60) (k 2))] [])
 (.cond (t 61)
  (.seq (.ops [mv 62 (t 7),
  o 63 (.ibin .sub (t 62) (k 1)),
  mv 9 (t 63)] [])
  (.block 4 (.loop (.seq (.seq (.ops [mv 64 (t 9),
  o 65 (.ibin .geq (t 64) (k 1))] [])
  (.cond (t 65)
   (.skip)
   (.exit 4)))
  (.seq (.block 5 (.seq (.seq (.draw (.take (mv 68 (t 0)) (.take (mv 69 (t 9)) (.take (o 70 (.iaddr 1 (t 68) (t 69))) (.take (l1 71 (t 70)) (.take (mv 72 (t 0)) (.take (mv 73 (t 9)) (.take (o 74 (.ibin .sub (t 73) (k 1))) (.take (o 75 (.iaddr 1 (t 72) (t 74))) (.take (l1 76 (t 75)) (.alt (ca 77 F.zF [(t 71),(t 76)]) false
   (.take (o 78 (.not (t 77))) (.done))
   (.none))))))))))) [])
  (.cond (t 78)
   (.exit 4)
   (.skip)))
  (.draw (.take (mv 79 (t 0)) (.take (mv 80 (t 9)) (.take (mv 81 (t 0)) (.take (mv 82 (t 9)) (.take (o 83 (.ibin .sub (t 82) (k 1))) (.take (mv 84 (t 0)) (.take (mv 85 (t 9)) (.take (o 86 (.ibin .sub (t 85) (k 1))) (.take (o 87 (.iaddr 1 (t 84) (t 86))) (.take (l1 88 (t 87)) (.take (mv 89 (t 0)) (.take (mv 90 (t 9)) (.take (o 91 (.iaddr 1 (t 89) (t 90))) (.take (l1 92 (t 91)) (.take (o 93 (.iaddr 1 (t 79) (t 80))) (.alt (st 1 (t 93) (t 88)) false
   (.take (o 94 (.iaddr 1 (t 81) (t 83))) (.alt (st 1 (t 94) (t 92)) false
   (.done)
   (.none)))
   (.none))))))))))))))))) [])))
  (.ops [mv 66 (t 9),
  o 67 (.ibin .sub (t 66) (k 1)),
  mv 9 (t 67)] []))))))
  (.skip)))
 (.seq (.ops [mv 95 (t 2),
 mv 96 (t 7),
 o 97 (.ibin .sub (t 95) (t 96)),
 o 98 (.ibin .geq (t 97) (k 2))] [])
 (.cond (t 98)
  (.seq (.ops [mv 99 (t 7),
  ad 100 (t 99) (k 1),
  mv 10 (t 100)] [])
  (.block 6 (.loop (.seq (.seq (.ops [mv 101 (t 10),
  mv 102 (t 2),
  o 103 (.ibin .lss (t 101) (t 102))] [])
  (.cond (t 103)
   (.skip)
   (.exit 6)))
  (.seq (.block 7 (.seq (.seq (.draw (.take (mv 106 (t 0)) (.take (mv 107 (t 10)) (.take (o 108 (.iaddr 1 (t 106) (t 107))) (.take (l1 109 (t 108)) (.take (mv 110 (t 0)) (.take (mv 111 (t 10)) (.take (o 112 (.ibin .sub (t 111) (k 1))) (.take (o 113 (.iaddr 1 (t 110) (t 112))) (.take (l1 114 (t 113)) (.alt (ca 115 F.zF [(t 109),(t 114)]) false
   (.take (o 116 (.not (t 115))) (.done))
   (.none))))))))))) [])
  (.cond (t 116)
   (.exit 6)
   (.skip)))
  (.draw (.take (mv 117 (t 0)) (.take (mv 118 (t 10)) (.take (mv 119 (t 0)) (.take (mv 120 (t 10)) (.take (o 121 (.ibin .sub (t 120) (k 1))) (.take (mv 122 (t 0)) (.take (mv 123 (t 10)) (.take (o 124 (.ibin .sub (t 123) (k 1))) (.take (o 125 (.iaddr 1 (t 122) (t 124))) (.take (l1 126 (t 125)) (.take (mv 127 (t 0)) (.take (mv 128 (t 10)) (.take (o 129 (.iaddr 1 (t 127) (t 128))) (.take (l1 130 (t 129)) (.take (o 131 (.iaddr 1 (t 117) (t 118))) (.alt (st 1 (t 131) (t 126)) false
   (.take (o 132 (.iaddr 1 (t 119) (t 121))) (.alt (st 1 (t 132) (t 130)) false
   (.done)
   (.none)))
   (.none))))))))))))))))) [])))
  (.ops [mv 104 (t 10),
  ad 105 (t 104) (k 1),
  mv 10 (t 105)] []))))))
  (.skip)))))))))
 (.ops [mv 15 (t 8),
 ad 16 (t 15) (k 1),
 mv 8 (t 16)] []))))))
 (.seq (.ops [mv 6 (kb false)] [])
 (.ret))))
def zhl:List zd:=[.tmp 6]
def zAn:RCode:=
 .seq (.ops [mv 4 (kb false)] [])
 (.seq (.ops [mv 5 (t 0),
 ca 6 F.zhZ [(t 5)],
 os 7 (.mov (t 6)),
 gt 7 8 (.mov (t 1)),
 gt 7 9 (.call (fn F.zhZ) [(t 8)]),
 gt 7 10 (.not (t 9)),
 o 11 (.pick (t 7) (t 10) (kb false)),
 os 12 (.mov (t 11)),
 gf 12 13 (.mov (t 0)),
 gf 12 14 (.mov (t 1)),
 gf 12 15 (.ibin .lss (t 13) (t 14)),
 o 16 (.pick (t 12) (kb true) (t 15)),
 mv 4 (t 16)] [])
 (.ret))
def zAo:List zd:=[.tmp 4]
def zj4:RCode:=
 .seq (.ops [mv 8 (k 0)] [])
 (.seq (.draw (.take (mv 11 (t 0)) (.take (mv 12 (t 1)) (.take (mv 13 (t 0)) (.take (mv 14 (t 3)) (.take (mv 15 (t 0)) (.take (mv 16 (t 3)) (.take (o 17 (.iaddr 1 (t 15) (t 16))) (.take (l1 18 (t 17)) (.take (mv 19 (t 0)) (.take (mv 20 (t 1)) (.take (o 21 (.iaddr 1 (t 19) (t 20))) (.take (l1 22 (t 21)) (.take (o 23 (.iaddr 1 (t 11) (t 12))) (.alt (st 1 (t 23) (t 18)) false
 (.take (o 24 (.iaddr 1 (t 13) (t 14))) (.alt (st 1 (t 24) (t 22)) false
  (.done)
  (.none)))
 (.none))))))))))))))) [])
 (.seq (.ops [mv 25 (t 1),
 ad 26 (t 25) (k 1),
 mv 27 (t 2),
 o 28 (.ibin .sub (t 27) (k 1)),
 mv 9 (t 26),
 mv 10 (t 28)] [])
 (.seq (.block 0 (.loop (.block 1 (.seq (.block 2 (.loop (.seq (.seq (.draw (.take (mv 29 (t 9)) (.take (mv 30 (t 10)) (.take (o 31 (.ibin .leq (t 29) (t 30))) (.take (os 32 (.mov (t 31))) (.take (gt 32 33 (.mov (t 0))) (.take (gt 32 34 (.mov (t 1))) (.take (gt 32 35 (.iaddr 1 (t 33) (t 34))) (.take (gt 32 36 (.load false 1 (t 35))) (.take (gt 32 37 (.mov (t 0))) (.take (gt 32 38 (.mov (t 9))) (.take (gt 32 39 (.iaddr 1 (t 37) (t 38))) (.take (gt 32 40 (.load false 1 (t 39))) (.alt (gt 32 41 (.call (fn F.zF) [(t 36),(t 40)])) false
  (.take (gt 32 42 (.not (t 41))) (.take (o 43 (.pick (t 32) (t 42) (kb false))) (.done)))
  (.none)))))))))))))) [])
  (.cond (t 43)
  (.skip)
  (.exit 2)))
  (.block 3 (.ops [mv 44 (t 9),
  ad 45 (t 44) (k 1),
  mv 9 (t 45)] [])))))
 (.seq (.block 4 (.loop (.seq (.seq (.draw (.take (mv 46 (t 9)) (.take (mv 47 (t 10)) (.take (o 48 (.ibin .leq (t 46) (t 47))) (.take (os 49 (.mov (t 48))) (.take (gt 49 50 (.mov (t 0))) (.take (gt 49 51 (.mov (t 1))) (.take (gt 49 52 (.iaddr 1 (t 50) (t 51))) (.take (gt 49 53 (.load false 1 (t 52))) (.take (gt 49 54 (.mov (t 0))) (.take (gt 49 55 (.mov (t 10))) (.take (gt 49 56 (.iaddr 1 (t 54) (t 55))) (.take (gt 49 57 (.load false 1 (t 56))) (.alt (gt 49 58 (.call (fn F.zF) [(t 53),(t 57)])) false
  (.take (o 59 (.pick (t 49) (t 58) (kb false))) (.done))
  (.none)))))))))))))) [])
  (.cond (t 59)
  (.skip)
  (.exit 4)))
  (.block 5 (.ops [mv 60 (t 10),
  o 61 (.ibin .sub (t 60) (k 1)),
  mv 10 (t 61)] [])))))
 (.seq (.seq (.ops [mv 62 (t 9),
 mv 63 (t 10),
 o 64 (.ibin .gtr (t 62) (t 63))] [])
 (.cond (t 64)
  (.exit 0)
  (.skip)))
 (.seq (.draw (.take (mv 65 (t 0)) (.take (mv 66 (t 9)) (.take (mv 67 (t 0)) (.take (mv 68 (t 10)) (.take (mv 69 (t 0)) (.take (mv 70 (t 10)) (.take (o 71 (.iaddr 1 (t 69) (t 70))) (.take (l1 72 (t 71)) (.take (mv 73 (t 0)) (.take (mv 74 (t 9)) (.take (o 75 (.iaddr 1 (t 73) (t 74))) (.take (l1 76 (t 75)) (.take (o 77 (.iaddr 1 (t 65) (t 66))) (.alt (st 1 (t 77) (t 72)) false
  (.take (o 78 (.iaddr 1 (t 67) (t 68))) (.alt (st 1 (t 78) (t 76)) false
  (.done)
  (.none)))
  (.none))))))))))))))) [])
 (.seq (.ops [mv 79 (t 9),
 ad 80 (t 79) (k 1),
 mv 9 (t 80)] [])
 (.ops [mv 81 (t 10),
 o 82 (.ibin .sub (t 81) (k 1)),
 mv 10 (t 82)] [])))))))))
 (.seq (.ops [mv 83 (t 9),
 mv 8 (t 83)] [])
 (.ret)))))
def zj5:List zd:=[.tmp 8]
def zmA:RCode:=
 .seq (.ops [mv 8 (k 0),
 mv 9 (kb false)] [])
 (.seq (.draw (.take (mv 12 (t 0)) (.take (mv 13 (t 1)) (.take (mv 14 (t 0)) (.take (mv 15 (t 3)) (.take (mv 16 (t 0)) (.take (mv 17 (t 3)) (.take (o 18 (.iaddr 1 (t 16) (t 17))) (.take (l1 19 (t 18)) (.take (mv 20 (t 0)) (.take (mv 21 (t 1)) (.take (o 22 (.iaddr 1 (t 20) (t 21))) (.take (l1 23 (t 22)) (.take (o 24 (.iaddr 1 (t 12) (t 13))) (.alt (st 1 (t 24) (t 19)) false
 (.take (o 25 (.iaddr 1 (t 14) (t 15))) (.alt (st 1 (t 25) (t 23)) false
  (.done)
  (.none)))
 (.none))))))))))))))) [])
 (.seq (.ops [mv 26 (t 1),
 ad 27 (t 26) (k 1),
 mv 28 (t 2),
 o 29 (.ibin .sub (t 28) (k 1)),
 mv 10 (t 27),
 mv 11 (t 29)] [])
 (.seq (.block 0 (.loop (.seq (.seq (.draw (.take (mv 30 (t 10)) (.take (mv 31 (t 11)) (.take (o 32 (.ibin .leq (t 30) (t 31))) (.take (os 33 (.mov (t 32))) (.take (gt 33 34 (.mov (t 0))) (.take (gt 33 35 (.mov (t 10))) (.take (gt 33 36 (.iaddr 1 (t 34) (t 35))) (.take (gt 33 37 (.load false 1 (t 36))) (.take (gt 33 38 (.mov (t 0))) (.take (gt 33 39 (.mov (t 1))) (.take (gt 33 40 (.iaddr 1 (t 38) (t 39))) (.take (gt 33 41 (.load false 1 (t 40))) (.alt (gt 33 42 (.call (fn F.zF) [(t 37),(t 41)])) false
  (.take (o 43 (.pick (t 33) (t 42) (kb false))) (.done))
  (.none)))))))))))))) [])
 (.cond (t 43)
  (.skip)
  (.exit 0)))
 (.block 1 (.ops [mv 44 (t 10),
 ad 45 (t 44) (k 1),
 mv 10 (t 45)] [])))))
 (.seq (.block 2 (.loop (.seq (.seq (.draw (.take (mv 46 (t 10)) (.take (mv 47 (t 11)) (.take (o 48 (.ibin .leq (t 46) (t 47))) (.take (os 49 (.mov (t 48))) (.take (gt 49 50 (.mov (t 0))) (.take (gt 49 51 (.mov (t 11))) (.take (gt 49 52 (.iaddr 1 (t 50) (t 51))) (.take (gt 49 53 (.load false 1 (t 52))) (.take (gt 49 54 (.mov (t 0))) (.take (gt 49 55 (.mov (t 1))) (.take (gt 49 56 (.iaddr 1 (t 54) (t 55))) (.take (gt 49 57 (.load false 1 (t 56))) (.alt (gt 49 58 (.call (fn F.zF) [(t 53),(t 57)])) false
  (.take (gt 49 59 (.not (t 58))) (.take (o 60 (.pick (t 49) (t 59) (kb false))) (.done)))
  (.none)))))))))))))) [])
 (.cond (t 60)
  (.skip)
  (.exit 2)))
 (.block 3 (.ops [mv 61 (t 11),
 o 62 (.ibin .sub (t 61) (k 1)),
 mv 11 (t 62)] [])))))
 (.seq (.seq (.ops [mv 63 (t 10),
 mv 64 (t 11),
 o 65 (.ibin .gtr (t 63) (t 64))] [])
 (.cond (t 65)
 (.seq (.draw (.take (mv 66 (t 0)) (.take (mv 67 (t 11)) (.take (mv 68 (t 0)) (.take (mv 69 (t 1)) (.take (mv 70 (t 0)) (.take (mv 71 (t 1)) (.take (o 72 (.iaddr 1 (t 70) (t 71))) (.take (l1 73 (t 72)) (.take (mv 74 (t 0)) (.take (mv 75 (t 11)) (.take (o 76 (.iaddr 1 (t 74) (t 75))) (.take (l1 77 (t 76)) (.take (o 78 (.iaddr 1 (t 66) (t 67))) (.alt (st 1 (t 78) (t 73)) false
  (.take (o 79 (.iaddr 1 (t 68) (t 69))) (.alt (st 1 (t 79) (t 77)) false
  (.done)
  (.none)))
  (.none))))))))))))))) [])
 (.seq (.ops [mv 80 (t 11),
 mv 8 (t 80),
 mv 9 (kb true)] [])
 (.ret)))
 (.skip)))
 (.seq (.draw (.take (mv 81 (t 0)) (.take (mv 82 (t 10)) (.take (mv 83 (t 0)) (.take (mv 84 (t 11)) (.take (mv 85 (t 0)) (.take (mv 86 (t 11)) (.take (o 87 (.iaddr 1 (t 85) (t 86))) (.take (l1 88 (t 87)) (.take (mv 89 (t 0)) (.take (mv 90 (t 10)) (.take (o 91 (.iaddr 1 (t 89) (t 90))) (.take (l1 92 (t 91)) (.take (o 93 (.iaddr 1 (t 81) (t 82))) (.alt (st 1 (t 93) (t 88)) false
 (.take (o 94 (.iaddr 1 (t 83) (t 84))) (.alt (st 1 (t 94) (t 92)) false
  (.done)
  (.none)))
 (.none))))))))))))))) [])
 (.seq (.ops [mv 95 (t 10),
 ad 96 (t 95) (k 1),
 mv 10 (t 96)] [])
 (.seq (.ops [mv 97 (t 11),
 o 98 (.ibin .sub (t 97) (k 1)),
 mv 11 (t 98)] [])
 (.seq (.block 4 (.loop (.block 5 (.seq (.block 6 (.loop (.seq (.seq (.draw (.take (mv 99 (t 10)) (.take (mv 100 (t 11)) (.take (o 101 (.ibin .leq (t 99) (t 100))) (.take (os 102 (.mov (t 101))) (.take (gt 102 103 (.mov (t 0))) (.take (gt 102 104 (.mov (t 10))) (.take (gt 102 105 (.iaddr 1 (t 103) (t 104))) (.take (gt 102 106 (.load false 1 (t 105))) (.take (gt 102 107 (.mov (t 0))) (.take (gt 102 108 (.mov (t 1))) (.take (gt 102 109 (.iaddr 1 (t 107) (t 108))) (.take (gt 102 110 (.load false 1 (t 109))) (.alt (gt 102 111 (.call (fn F.zF) [(t 106),(t 110)])) false
  (.take (o 112 (.pick (t 102) (t 111) (kb false))) (.done))
  (.none)))))))))))))) [])
  (.cond (t 112)
  (.skip)
  (.exit 6)))
  (.block 7 (.ops [mv 113 (t 10),
  ad 114 (t 113) (k 1),
  mv 10 (t 114)] [])))))
 (.seq (.block 8 (.loop (.seq (.seq (.draw (.take (mv 115 (t 10)) (.take (mv 116 (t 11)) (.take (o 117 (.ibin .leq (t 115) (t 116))) (.take (os 118 (.mov (t 117))) (.take (gt 118 119 (.mov (t 0))) (.take (gt 118 120 (.mov (t 11))) (.take (gt 118 121 (.iaddr 1 (t 119) (t 120))) (.take (gt 118 122 (.load false 1 (t 121))) (.take (gt 118 123 (.mov (t 0))) (.take (gt 118 124 (.mov (t 1))) (.take (gt 118 125 (.iaddr 1 (t 123) (t 124))) (.take (gt 118 126 (.load false 1 (t 125))) (.alt (gt 118 127 (.call (fn F.zF) [(t 122),(t 126)])) false
  (.take (gt 118 128 (.not (t 127))) (.take (o 129 (.pick (t 118) (t 128) (kb false))) (.done)))
  (.none)))))))))))))) [])
  (.cond (t 129)
  (.skip)
  (.exit 8)))
  (.block 9 (.ops [mv 130 (t 11),
  o 131 (.ibin .sub (t 130) (k 1)),
  mv 11 (t 131)] [])))))
 (.seq (.seq (.ops [mv 132 (t 10),
 mv 133 (t 11),
 o 134 (.ibin .gtr (t 132) (t 133))] [])
 (.cond (t 134)
  (.exit 4)
  (.skip)))
 (.seq (.draw (.take (mv 135 (t 0)) (.take (mv 136 (t 10)) (.take (mv 137 (t 0)) (.take (mv 138 (t 11)) (.take (mv 139 (t 0)) (.take (mv 140 (t 11)) (.take (o 141 (.iaddr 1 (t 139) (t 140))) (.take (l1 142 (t 141)) (.take (mv 143 (t 0)) (.take (mv 144 (t 10)) (.take (o 145 (.iaddr 1 (t 143) (t 144))) (.take (l1 146 (t 145)) (.take (o 147 (.iaddr 1 (t 135) (t 136))) (.alt (st 1 (t 147) (t 142)) false
  (.take (o 148 (.iaddr 1 (t 137) (t 138))) (.alt (st 1 (t 148) (t 146)) false
  (.done)
  (.none)))
  (.none))))))))))))))) [])
 (.seq (.ops [mv 149 (t 10),
 ad 150 (t 149) (k 1),
 mv 10 (t 150)] [])
 (.ops [mv 151 (t 11),
 o 152 (.ibin .sub (t 151) (k 1)),
 mv 11 (t 152)] [])))))))))
 (.seq (.draw (.take (mv 153 (t 0)) (.take (mv 154 (t 11)) (.take (mv 155 (t 0)) (.take (mv 156 (t 1)) (.take (mv 157 (t 0)) (.take (mv 158 (t 1)) (.take (o 159 (.iaddr 1 (t 157) (t 158))) (.take (l1 160 (t 159)) (.take (mv 161 (t 0)) (.take (mv 162 (t 11)) (.take (o 163 (.iaddr 1 (t 161) (t 162))) (.take (l1 164 (t 163)) (.take (o 165 (.iaddr 1 (t 153) (t 154))) (.alt (st 1 (t 165) (t 160)) false
 (.take (o 166 (.iaddr 1 (t 155) (t 156))) (.alt (st 1 (t 166) (t 164)) false
  (.done)
  (.none)))
 (.none))))))))))))))) [])
 (.seq (.ops [mv 167 (t 11),
 mv 8 (t 167),
 mv 9 (kb false)] [])
 (.ret))))))))))))
def zmB:List zd:=[.tmp 8,.tmp 9]
def zzp:RCode:=
 .seq (.ops [l1 5 (t 1),
 o 6 (.imm false (t 5) (k 128)),
 o 7 (.imm true (k 0) (t 6)),
 mv 8 (k 0)] [])
 (.block 0 (.loop (.seq (.ops [o 9 (.ibin .lss (t 8) (t 7))] [])
 (.seq (.cond (t 9)
  (.skip)
  (.exit 0))
 (.seq (.block 1 (.seq (.ops [mv 10 (t 8),
 mv 4 (t 10)] [])
 (.seq (.ops [mv 11 (t 0),
 l1 12 (t 2),
 ca 13 F.zC [(t 12)],
 mv 14 (t 4),
 ad 15 (t 13) (t 14),
 ca 16 F.zC [(t 15)],
 o 17 (.call (t 11) [(t 16)]),
 o 18 (.not (t 17))] [])
 (.cond (t 18)
  (.ret)
  (.skip)))))
 (.ops [ad 19 (t 8) (k 1),
 mv 8 (t 19)] []))))))
def zzq:List zd:=[]
def zeG:RCode:=
 .seq (.ops [mv 2 (k 0)] [])
 (.seq (.ops [mv 3 (t 0),
 o 4 (.ibin .and (t 3) (k 127)),
 mv 2 (t 4)] [])
 (.ret))
def zeH:List zd:=[.tmp 2]
theorem zxG {args:List Value} {M:Mem} {R:Value→Mem→Prop} (hn:args.length≤5) (h:zj Tryz.prog zeG zeH args M R):CallsM Tryz.prog F.zC args M R:=
 zf (kf:=fun _=>[]) Tryz.func272 (by kernel_rfl) (by kernel_rfl) hn (by kernel_rfl) h
def zcS:RCode:=
 .seq (.ops [mv 2 (k 0),
 mv 3 (.const sn),
 mv 4 (kb false)] [])
 (.seq (.seq (.draw (.take (mv 6 (t 0)) (.take (o 7 (.pnil .eql (t 6) (.const (.pointer none)))) (.take (os 8 (.mov (t 7))) (.take (gf 8 9 (.mov (t 0))) (.take (gf 8 10 (.nilck (t 9))) (.take (gf 8 11 (.faddr 3 (t 10))) (.take (gf 8 12 (.load false 1 (t 11))) (.take (gf 8 13 (.mov (t 0))) (.take (gf 8 14 (.nilck (t 13))) (.take (gf 8 15 (.faddr 2 (t 14))) (.take (gf 8 16 (.load false 1 (t 15))) (.take (gf 8 17 (.len (t 16))) (.take (gf 8 18 (.ibin .eql (t 12) (t 17))) (.take (o 19 (.pick (t 8) (kb true) (t 18))) (.take (os 20 (.mov (t 19))) (.take (gf 20 21 (.mov (t 0))) (.take (gf 20 22 (.nilck (t 21))) (.take (gf 20 23 (.faddr 3 (t 22))) (.take (gf 20 24 (.load false 1 (t 23))) (.take (gf 20 25 (.mov (t 0))) (.take (gf 20 26 (.nilck (t 25))) (.take (gf 20 27 (.faddr 0 (t 26))) (.take (gf 20 28 (.load false 1 (t 27))) (.take (gf 20 29 (.ibin .eql (t 24) (t 28))) (.take (o 30 (.pick (t 20) (kb true) (t 29))) (.done)))))))))))))))))))))))))) [])
 (.cond (t 30)
 (.seq (.ops [mv 2 (k 0),
 mv 3 (.const sn),
 mv 4 (kb false)] [])
 (.ret))
 (.skip)))
 (.seq (.draw (.take (mv 31 (t 0)) (.take (o 32 (.nilck (t 31))) (.take (fa 33 2 (t 32)) (.take (l1 34 (t 33)) (.take (mv 35 (t 0)) (.take (o 36 (.nilck (t 35))) (.take (fa 37 3 (t 36)) (.take (l1 38 (t 37)) (.take (o 39 (.iaddr 1 (t 34) (t 38))) (.take (l1 40 (t 39)) (.take (mv 5 (t 40)) (.done)))))))))))) [])
 (.seq (.ops [mv 41 (t 0),
 o 42 (.nilck (t 41)),
 fa 43 3 (t 42),
 l1 44 (t 43),
 ad 45 (t 44) (k 1),
 o 46 (.nilck (t 41)),
 fa 47 3 (t 46),
 st 1 (t 47) (t 45)] [])
 (.seq (.draw (.take (mv 48 (t 0)) (.take (o 49 (.nilck (t 48))) (.take (fa 50 1 (t 49)) (.take (l1 51 (t 50)) (.take (mv 52 (t 0)) (.take (o 53 (.nilck (t 52))) (.take (fa 54 3 (t 53)) (.take (l1 55 (t 54)) (.take (ad 56 (t 51) (t 55)) (.take (o 57 (.ibin .sub (t 56) (k 1))) (.take (mv 60 (t 5)) (.alt (ca 58 F.zC [(t 57)]) false
 (.alt (o 59 (.mkSl false 5 0 [] [])) false
  (.alt (o 61 (.app 5 1 1 [(u 0)] (t 59) (t 60))) false
  (.take (mv 2 (t 58)) (.take (mv 3 (t 61)) (.take (mv 4 (kb true)) (.done))))
  (.none))
  (.none))
 (.alt (o 59 (.mkSl false 5 0 [] [])) false
  (.alt (ca 58 F.zC [(t 57)]) false
  (.alt (o 61 (.app 5 1 1 [(u 0)] (t 59) (t 60))) false
   (.take (mv 2 (t 58)) (.take (mv 3 (t 61)) (.take (mv 4 (kb true)) (.done))))
   (.none))
  (.none))
  (.none)))))))))))))) [])
 (.ret)))))
def zcT:List zd:=[.tmp 2,.tmp 3,.tmp 4]
theorem zrh {args:List Value} {M:Mem} {R:Value→Mem→Prop} (hn:args.length≤62) (h:zj Tryz.prog zcS zcT args M R):CallsM Tryz.prog F.zgh args M R:=
 zf (kf:=fun _=>[]) Tryz.func273 (by kernel_rfl) (by kernel_rfl) hn (by kernel_rfl) h
def zb6:RCode:=
 .seq (.ops [mv 4 (k 0)] [])
 (.seq (.seq (.ops [mv 6 (t 0),
 o 7 (.len (t 6)),
 mv 8 (k 0)] [])
 (.block 0 (.loop (.seq (.ops [o 9 (.ibin .lss (t 8) (t 7))] [])
 (.seq (.cond (t 9)
  (.skip)
  (.exit 0))
 (.seq (.block 1 (.seq (.ops [mv 10 (t 8),
 mv 5 (t 10)] [])
 (.seq (.ops [mv 11 (t 1),
 mv 12 (t 0),
 mv 13 (t 5),
 o 14 (.iaddr 1 (t 12) (t 13)),
 l1 15 (t 14),
 o 16 (.ibin .eql (t 11) (t 15))] [])
 (.cond (t 16)
  (.seq (.ops [mv 17 (t 5),
  mv 4 (t 17)] [])
  (.ret))
  (.skip)))))
 (.ops [ad 18 (t 8) (k 1),
 mv 8 (t 18)] [])))))))
 (.seq (.ops [mv 4 (k (-1))] [])
 (.ret)))
def zb7:List zd:=[.tmp 4]
theorem zpI {args:List Value} {M:Mem} {R:Value→Mem→Prop} (hn:args.length≤19) (h:zj Tryz.prog zb6 zb7 args M R):CallsM Tryz.prog F.zeP args M R:=
 zf (kf:=fun _=>[]) Tryz.func274 (by kernel_rfl) (by kernel_rfl) hn (by kernel_rfl) h
def zEZ:RCode:=
 .seq (.ops [o 1 (.box 37 (t 0)),
 mv 2 (.const sn),
 mv 3 (k 0)] [])
 (.seq (.seq (.ops [la 14 5 (t 1),
 ca 15 F.ztz [(t 14)],
 mv 4 (t 15)] [])
 (.seq (.ops [mv 16 (t 4),
 o 17 (.ibin .neq (t 16) (k 0))] [])
 (.cond (t 17)
 (.seq (.ops [mv 18 (t 4),
 mv 2 (.const sn),
 mv 3 (t 18)] [])
 (.ret))
 (.skip))))
 (.seq (.ops [fa 19 0 (t 1),
 l1 20 (t 19),
 o 21 (.conv .u8 (t 20)),
 o 22 (.mkSl false 5 1 [(u 0)] [(0,1,(t 21))]),
 fa 23 1 (t 1),
 l1 24 (t 23),
 o 25 (.mkSl false 3 1 [(i 0)] [(0,1,(t 24))]),
 ca 26 F.zbU [(t 22),(t 25)],
 mv 5 (t 26)] [])
 (.seq (.ops [mv 27 (t 5),
 fa 28 2 (t 1),
 l1 29 (t 28),
 o 30 (.len (t 29)),
 o 31 (.conv .u8 (t 30)),
 o 32 (.mkSl true 5 1 [(u 0)] [(0,1,(t 31))]),
 o 33 (.app 5 1 1 [(u 0)] (t 27) (t 32)),
 mv 5 (t 33)] [])
 (.seq (.seq (.ops [fa 34 2 (t 1),
 l1 35 (t 34),
 o 36 (.len (t 35)),
 mv 37 (k 0)] [])
 (.block 0 (.loop (.seq (.ops [o 38 (.ibin .lss (t 37) (t 36))] [])
 (.seq (.cond (t 38)
  (.skip)
  (.exit 0))
 (.seq (.block 1 (.seq (.ops [o 39 (.iaddr 2 (t 35) (t 37)),
 la 40 2 (t 39),
 o 7 (.alloc 59 [(i 0),(i 0)]),
 st 2 (t 7) (t 40)] [])
 (.draw (.take (mv 41 (t 5)) (.take (fa 42 0 (t 7)) (.take (l1 43 (t 42)) (.take (o 44 (.conv .u8 (t 43))) (.take (fa 47 1 (t 7)) (.take (l1 48 (t 47)) (.alt (o 45 (.mkSl true 5 1 [(u 0)] [(0,1,(t 44))])) false
  (.alt (o 46 (.app 5 1 1 [(u 0)] (t 41) (t 45))) true
  (.alt (o 49 (.mkSl false 3 1 [(i 0)] [(0,1,(t 48))])) false
   (.alt (ca 50 F.zbU [(t 46),(t 49)]) false
   (.take (mv 5 (t 50)) (.done))
   (.none))
   (.none))
  (.alt (o 49 (.mkSl false 3 1 [(i 0)] [(0,1,(t 48))])) false
   (.alt (o 46 (.app 5 1 1 [(u 0)] (t 41) (t 45))) true
   (.alt (ca 50 F.zbU [(t 46),(t 49)]) false
    (.take (mv 5 (t 50)) (.done))
    (.none))
   (.none))
   (.none)))
  (.alt (o 49 (.mkSl false 3 1 [(i 0)] [(0,1,(t 48))])) false
  (.alt (o 45 (.mkSl true 5 1 [(u 0)] [(0,1,(t 44))])) false
   (.alt (o 46 (.app 5 1 1 [(u 0)] (t 41) (t 45))) true
   (.alt (ca 50 F.zbU [(t 46),(t 49)]) false
    (.take (mv 5 (t 50)) (.done))
    (.none))
   (.none))
   (.none))
  (.none))))))))) [])))
 (.ops [ad 51 (t 37) (k 1),
 mv 37 (t 51)] [])))))))
 (.seq (.ops [mv 52 (t 5),
 fa 53 3 (t 1),
 l1 54 (t 53),
 o 55 (.len (t 54)),
 o 56 (.mkSl false 3 1 [(i 0)] [(0,1,(t 55))]),
 ca 57 F.zbU [(t 52),(t 56)],
 mv 5 (t 57)] [])
 (.seq (.seq (.ops [fa 58 3 (t 1),
 l1 59 (t 58),
 o 60 (.len (t 59)),
 mv 61 (k 0)] [])
 (.block 2 (.loop (.seq (.ops [o 62 (.ibin .lss (t 61) (t 60))] [])
 (.seq (.cond (t 62)
  (.skip)
  (.exit 2))
 (.seq (.block 3 (.seq (.ops [o 63 (.iaddr 5 (t 59) (t 61)),
 la 64 5 (t 63),
 o 9 (.alloc 86 [(i 0),(i 0),(i 0),(i 0),sn]),
 st 5 (t 9) (t 64)] [])
 (.seq (.ops [la 66 5 (t 9),
 ca 67 F.zpZ [(t 66)],
 mv 65 (t 67),
 ex 68 (t 65) 0,
 ex 69 (t 65) 1,
 mv 10 (t 68),
 mv 11 (t 69)] [])
 (.ops [mv 70 (t 5),
 mv 71 (t 10),
 o 72 (.len (t 71)),
 o 73 (.conv .u8 (t 72)),
 o 74 (.mkSl true 5 1 [(u 0)] [(0,1,(t 73))]),
 o 75 (.app 5 1 1 [(u 0)] (t 70) (t 74)),
 mv 76 (t 10),
 o 77 (.app 5 1 1 [(u 0)] (t 75) (t 76)),
 mv 5 (t 77)] []))))
 (.ops [ad 78 (t 61) (k 1),
 mv 61 (t 78)] [])))))))
 (.seq (.ops [mv 79 (t 5),
 fa 80 4 (t 1),
 l1 81 (t 80),
 o 82 (.len (t 81)),
 o 83 (.mkSl false 3 1 [(i 0)] [(0,1,(t 82))]),
 ca 84 F.zbU [(t 79),(t 83)],
 mv 5 (t 84)] [])
 (.seq (.seq (.ops [fa 85 4 (t 1),
 l1 86 (t 85),
 o 87 (.len (t 86)),
 mv 88 (k 0)] [])
 (.block 4 (.loop (.seq (.ops [o 89 (.ibin .lss (t 88) (t 87))] [])
 (.seq (.cond (t 89)
  (.skip)
  (.exit 4))
 (.seq (.block 5 (.seq (.ops [o 90 (.iaddr 4 (t 86) (t 88)),
 la 91 4 (t 90),
 o 13 (.alloc 89 [(i 0),(i 0),(i 0),sn]),
 st 4 (t 13) (t 91)] [])
 (.seq (.draw (.take (mv 92 (t 5)) (.take (fa 93 0 (t 13)) (.take (l1 94 (t 93)) (.take (o 95 (.conv .u8 (t 94))) (.take (fa 98 1 (t 13)) (.take (l1 99 (t 98)) (.take (fa 100 2 (t 13)) (.take (l1 101 (t 100)) (.take (fa 102 3 (t 13)) (.take (l1 103 (t 102)) (.take (o 104 (.len (t 103))) (.alt (o 96 (.mkSl true 5 1 [(u 0)] [(0,1,(t 95))])) false
  (.alt (o 97 (.app 5 1 1 [(u 0)] (t 92) (t 96))) true
  (.alt (o 105 (.mkSl false 3 3 [(i 0),(i 0),(i 0)] [(0,1,(t 99)),(1,1,(t 101)),(2,1,(t 104))])) false
   (.alt (ca 106 F.zbU [(t 97),(t 105)]) false
   (.take (mv 5 (t 106)) (.done))
   (.none))
   (.none))
  (.alt (o 105 (.mkSl false 3 3 [(i 0),(i 0),(i 0)] [(0,1,(t 99)),(1,1,(t 101)),(2,1,(t 104))])) false
   (.alt (o 97 (.app 5 1 1 [(u 0)] (t 92) (t 96))) true
   (.alt (ca 106 F.zbU [(t 97),(t 105)]) false
    (.take (mv 5 (t 106)) (.done))
    (.none))
   (.none))
   (.none)))
  (.alt (o 105 (.mkSl false 3 3 [(i 0),(i 0),(i 0)] [(0,1,(t 99)),(1,1,(t 101)),(2,1,(t 104))])) false
  (.alt (o 96 (.mkSl true 5 1 [(u 0)] [(0,1,(t 95))])) false
   (.alt (o 97 (.app 5 1 1 [(u 0)] (t 92) (t 96))) true
   (.alt (ca 106 F.zbU [(t 97),(t 105)]) false
    (.take (mv 5 (t 106)) (.done))
    (.none))
   (.none))
   (.none))
  (.none)))))))))))))) [])
 (.ops [mv 107 (t 5),
 fa 108 3 (t 13),
 l1 109 (t 108),
 ca 110 F.zbU [(t 107),(t 109)],
 mv 5 (t 110)] []))))
 (.ops [ad 111 (t 88) (k 1),
 mv 88 (t 111)] [])))))))
 (.seq (.ops [mv 113 (t 5),
 mv 114 (t 5),
 o 115 (.mkSl false 22 1 [sn] [(0,1,(t 114))]),
 ca 116 F.zlr [(t 115)],
 o 117 (.conv .u64 (t 116)),
 ca 118 F.zbk [(t 113),(t 117),(k 4)],
 mv 112 (t 118),
 ex 119 (t 112) 0,
 ex 120 (t 112) 1,
 mv 5 (t 119)] [])
 (.seq (.ops [mv 121 (t 5),
 mv 2 (t 121),
 mv 3 (k 0)] [])
 (.ret)))))))))))
def zE0:List zd:=[.tmp 2,.tmp 3]
def zt6:RCode:=
 .seq (.ops [mv 6 (k 0)] [])
 (.seq (.seq (.ops [mv 10 (t 0),
 mv 11 (t 1),
 mv 12 (t 2),
 o 13 (.mkSl false 9 2 [(.string ByteArray.empty),(.string ByteArray.empty)] [(0,1,(t 11)),(1,1,(t 12))]),
 ca 14 F.zbv [(t 10),(t 13)],
 mv 7 (t 14)] [])
 (.seq (.ops [mv 15 (t 7),
 o 16 (.ibin .neq (t 15) (k 0))] [])
 (.cond (t 16)
 (.seq (.ops [mv 17 (t 7),
 mv 6 (t 17)] [])
 (.ret))
 (.skip))))
 (.seq (.ops [mv 19 (t 0),
 mv 20 (t 1),
 ca 21 F.zaT [(t 19),(t 20)],
 mv 18 (t 21),
 ex 22 (t 18) 0,
 ex 23 (t 18) 1,
 mv 8 (t 22),
 mv 9 (t 23)] [])
 (.seq (.seq (.ops [mv 24 (t 9),
 o 25 (.ibin .neq (t 24) (k 0))] [])
 (.cond (t 25)
 (.seq (.ops [mv 26 (t 9),
 mv 6 (t 26)] [])
 (.ret))
 (.skip)))
 (.seq (.seq (.draw (.take (mv 27 (t 8)) (.take (o 28 (.nilck (t 27))) (.take (fa 29 1 (t 28)) (.take (l1 30 (t 29)) (.take (mv 31 (t 8)) (.take (o 32 (.nilck (t 31))) (.take (fa 33 0 (t 32)) (.take (l1 34 (t 33)) (.take (o 35 (.len (t 34))) (.take (o 36 (.ibin .lss (t 30) (t 35))) (.done))))))))))) [])
 (.cond (t 36)
 (.seq (.ops [mv 6 (k 7)] [])
 (.ret))
 (.skip)))
 (.seq (.ops [mv 37 (t 0),
 o 38 (.nilck (t 37)),
 fa 39 1 (t 38),
 l1 40 (t 39),
 mv 41 (t 1),
 e (.mdel .str (t 40) (t 41))] [])
 (.seq (.ops [mv 42 (t 0),
 o 43 (.nilck (t 42)),
 fa 44 1 (t 43),
 l1 45 (t 44),
 mv 46 (t 2),
 mv 47 (t 8),
 e (.mset .str (t 45) (t 46) (t 47))] [])
 (.seq (.ops [mv 48 (t 0),
 ca 49 F.zat [(t 48)],
 mv 6 (t 49)] [])
 (.ret))))))))
def zt7:List zd:=[.tmp 6]
def zAp:RCode:=
 .seq (.ops [o 2 (.box 108 (t 0)),
 o 3 (.box 3 (t 1)),
 mv 4 (k 0)] [])
 (.seq (.seq (.ops [l1 7 (t 2),
 ca 8 F.zed [(t 7)],
 mv 5 (t 8)] [])
 (.seq (.ops [mv 9 (t 5),
 o 10 (.ibin .neq (t 9) (k 0))] [])
 (.cond (t 10)
 (.seq (.ops [mv 11 (t 5),
 mv 4 (t 11)] [])
 (.ret))
 (.skip))))
 (.seq (.seq (.draw (.take (l1 12 (t 3)) (.take (l1 13 (t 2)) (.take (o 14 (.nilck (t 13))) (.take (fa 15 1 (t 14)) (.take (l1 16 (t 15)) (.take (o 17 (.ibin .lss (t 12) (t 16))) (.take (os 18 (.mov (t 17))) (.take (gf 18 19 (.load false 1 (t 3))) (.take (gf 18 20 (.load false 1 (t 2))) (.take (gf 18 21 (.nilck (t 20))) (.take (gf 18 22 (.faddr 2 (t 21))) (.take (gf 18 23 (.load false 1 (t 22))) (.take (gf 18 24 (.ibin .gtr (t 19) (t 23))) (.take (o 25 (.pick (t 18) (kb true) (t 24))) (.done))))))))))))))) [])
 (.cond (t 25)
 (.seq (.ops [mv 4 (k 1)] [])
 (.ret))
 (.skip)))
 (.seq (.draw (.take (l1 26 (t 2)) (.take (l1 27 (t 2)) (.take (l1 28 (t 2)) (.take (o 29 (.mkfn F.zwR [(t 2),(t 3)])) (.alt (ca 30 F.zcd [(t 28),(t 29)]) true
 (.alt (ca 31 F.zdd [(t 27),(t 30)]) true
  (.alt (ca 32 F.zbQ [(t 26),(t 31)]) false
  (.take (mv 6 (t 32)) (.done))
  (.none))
  (.none))
 (.none)))))) [])
 (.seq (.seq (.ops [mv 33 (t 6),
 o 34 (.ibin .eql (t 33) (k 0))] [])
 (.cond (t 34)
 (.ops [l1 35 (t 2),
 l1 36 (t 3),
 o 37 (.nilck (t 35)),
 fa 38 1 (t 37),
 st 1 (t 38) (t 36)] [])
 (.skip)))
 (.seq (.ops [mv 39 (t 6),
 mv 4 (t 39)] [])
 (.ret))))))
def zAq:List zd:=[.tmp 4]
def zlH:RCode:=
 .seq (.ops [mv 10 (t 1),
 mv 8 (t 10)] [])
 (.block 0 (.loop (.block 1 (.seq (.ops [mv 11 (t 8),
 o 12 (.ibin .mul (k 2) (t 11)),
 ad 13 (t 12) (k 1),
 mv 9 (t 13)] [])
 (.seq (.seq (.ops [mv 14 (t 9),
 mv 15 (t 2),
 o 16 (.ibin .geq (t 14) (t 15))] [])
 (.cond (t 16)
  (.exit 0)
  (.skip)))
 (.seq (.seq (.draw (.take (mv 17 (t 9)) (.take (ad 18 (t 17) (k 1)) (.take (mv 19 (t 2)) (.take (o 20 (.ibin .lss (t 18) (t 19))) (.take (os 21 (.mov (t 20))) (.take (gt 21 22 (.mov (t 0))) (.take (gt 21 23 (.mov (t 3))) (.take (gt 21 24 (.mov (t 9))) (.take (gt 21 25 (.ibin .add (t 23) (t 24))) (.take (gt 21 26 (.iaddr 1 (t 22) (t 25))) (.take (gt 21 27 (.load false 1 (t 26))) (.take (gt 21 28 (.mov (t 0))) (.take (gt 21 29 (.mov (t 3))) (.take (gt 21 30 (.mov (t 9))) (.take (gt 21 31 (.ibin .add (t 29) (t 30))) (.take (gt 21 32 (.ibin .add (t 31) (k 1))) (.take (gt 21 33 (.iaddr 1 (t 28) (t 32))) (.take (gt 21 34 (.load false 1 (t 33))) (.alt (gt 21 35 (.call (fn F.zx) [(t 27),(t 34)])) false
  (.take (o 36 (.pick (t 21) (t 35) (kb false))) (.done))
  (.none)))))))))))))))))))) [])
 (.cond (t 36)
  (.ops [mv 37 (t 9),
  ad 38 (t 37) (k 1),
  mv 9 (t 38)] [])
  (.skip)))
 (.seq (.seq (.draw (.take (mv 39 (t 0)) (.take (mv 40 (t 3)) (.take (mv 41 (t 8)) (.take (ad 42 (t 40) (t 41)) (.take (o 43 (.iaddr 1 (t 39) (t 42))) (.take (l1 44 (t 43)) (.take (mv 45 (t 0)) (.take (mv 46 (t 3)) (.take (mv 47 (t 9)) (.take (ad 48 (t 46) (t 47)) (.take (o 49 (.iaddr 1 (t 45) (t 48))) (.take (l1 50 (t 49)) (.alt (ca 51 F.zx [(t 44),(t 50)]) false
  (.take (o 52 (.not (t 51))) (.done))
  (.none)))))))))))))) [])
 (.cond (t 52)
  (.ret)
  (.skip)))
 (.seq (.draw (.take (mv 53 (t 0)) (.take (mv 54 (t 3)) (.take (mv 55 (t 8)) (.take (ad 56 (t 54) (t 55)) (.take (mv 57 (t 0)) (.take (mv 58 (t 3)) (.take (mv 59 (t 9)) (.take (ad 60 (t 58) (t 59)) (.take (mv 61 (t 0)) (.take (mv 62 (t 3)) (.take (mv 63 (t 9)) (.take (ad 64 (t 62) (t 63)) (.take (o 65 (.iaddr 1 (t 61) (t 64))) (.take (l1 66 (t 65)) (.take (mv 67 (t 0)) (.take (mv 68 (t 3)) (.take (mv 69 (t 8)) (.take (ad 70 (t 68) (t 69)) (.take (o 71 (.iaddr 1 (t 67) (t 70))) (.take (l1 72 (t 71)) (.take (o 73 (.iaddr 1 (t 53) (t 56))) (.alt (st 1 (t 73) (t 66)) false
  (.take (o 74 (.iaddr 1 (t 57) (t 60))) (.alt (st 1 (t 74) (t 72)) false
  (.done)
  (.none)))
  (.none))))))))))))))))))))))) [])
 (.ops [mv 75 (t 9),
 mv 8 (t 75)] [])))))))))
def zlI:List zd:=[]
def zpJ:RCode:=
 .seq (.ops [mv 2 (.const (.int .u64 0))] [])
 (.seq (.ops [mv 3 (t 0),
 o 4 (.conv .u64 (t 3)),
 ca 5 F.zaW [(t 4)],
 o 6 (.ibin .shl (.const (.int .u64 1)) (t 5)),
 mv 2 (t 6)] [])
 (.ret))
def zpK:List zd:=[.tmp 2]
def zqN:RCode:=
 .seq (.ops [mv 2 (.const (.int .u64 0))] [])
 (.seq (.draw (.take (mv 3 (t 0)) (.take (o 4 (.nilck (t 3))) (.take (l1 5 (t 4)) (.take (mv 6 (t 0)) (.take (o 7 (.nilck (t 6))) (.take (l1 8 (t 7)) (.take (o 9 (.ibin .shl (t 8) (.const (.int .u64 13)))) (.take (o 10 (.ibin .xor (t 5) (t 9))) (.take (o 11 (.nilck (t 3))) (.alt (st 1 (t 11) (t 10)) false
 (.done)
 (.none))))))))))) [])
 (.seq (.draw (.take (mv 12 (t 0)) (.take (o 13 (.nilck (t 12))) (.take (l1 14 (t 13)) (.take (mv 15 (t 0)) (.take (o 16 (.nilck (t 15))) (.take (l1 17 (t 16)) (.take (o 18 (.ibin .shr (t 17) (.const (.int .u64 7)))) (.take (o 19 (.ibin .xor (t 14) (t 18))) (.take (o 20 (.nilck (t 12))) (.alt (st 1 (t 20) (t 19)) false
 (.done)
 (.none))))))))))) [])
 (.seq (.draw (.take (mv 21 (t 0)) (.take (o 22 (.nilck (t 21))) (.take (l1 23 (t 22)) (.take (mv 24 (t 0)) (.take (o 25 (.nilck (t 24))) (.take (l1 26 (t 25)) (.take (o 27 (.ibin .shl (t 26) (.const (.int .u64 17)))) (.take (o 28 (.ibin .xor (t 23) (t 27))) (.take (o 29 (.nilck (t 21))) (.alt (st 1 (t 29) (t 28)) false
 (.done)
 (.none))))))))))) [])
 (.seq (.ops [mv 30 (t 0),
 o 31 (.nilck (t 30)),
 l1 32 (t 31),
 mv 2 (t 32)] [])
 (.ret)))))
def zqO:List zd:=[.tmp 2]
def zis:RCode:=
 .seq (.ops [mv 6 (k 0)] [])
 (.seq (.ops [mv 7 (t 0),
 mv 8 (t 1),
 o 9 (.ibin .sub (t 8) (k 1)),
 mv 10 (t 1),
 mv 11 (t 1),
 ad 12 (t 11) (k 1),
 mv 13 (t 2),
 ca 14 F.zeS [(t 7),(t 9),(t 10),(t 12),(t 13)],
 mv 6 (t 14)] [])
 (.ret))
def zit:List zd:=[.tmp 6]
def zmC:RCode:=
 .seq (.ops [mv 10 (k 0)] [])
 (.seq (.ops [mv 12 (t 0),
 mv 13 (t 1),
 mv 14 (t 2),
 mv 15 (t 4),
 ca 16 F.zbx [(t 12),(t 13),(t 14),(t 15)],
 mv 11 (t 16),
 ex 17 (t 11) 0,
 ex 18 (t 11) 1,
 mv 1 (t 17),
 mv 2 (t 18)] [])
 (.seq (.ops [mv 20 (t 0),
 mv 21 (t 2),
 mv 22 (t 3),
 mv 23 (t 4),
 ca 24 F.zbx [(t 20),(t 21),(t 22),(t 23)],
 mv 19 (t 24),
 ex 25 (t 19) 0,
 ex 26 (t 19) 1,
 mv 2 (t 25),
 mv 3 (t 26)] [])
 (.seq (.ops [mv 28 (t 0),
 mv 29 (t 1),
 mv 30 (t 2),
 mv 31 (t 4),
 ca 32 F.zbx [(t 28),(t 29),(t 30),(t 31)],
 mv 27 (t 32),
 ex 33 (t 27) 0,
 ex 34 (t 27) 1,
 mv 1 (t 33),
 mv 2 (t 34)] [])
 (.seq (.ops [mv 35 (t 2),
 mv 10 (t 35)] [])
 (.ret)))))
def zmD:List zd:=[.tmp 10]
def zt8:RCode:=
 .seq (.ops [mv 2 (kb false)] [])
 (.seq (.ops [mv 3 (t 0),
 mv 4 (t 0),
 o 5 (.strE .neq (t 3) (t 4)),
 mv 2 (t 5)] [])
 (.ret))
def zt9:List zd:=[.tmp 2]
def zCF:RCode:=
 .seq (.ops [mv 2 (k 0)] [])
 (.seq (.seq (.ops [mv 6 (t 0),
 o 7 (.lenS (t 6)),
 o 8 (.ibin .neq (t 7) (k 6)),
 os 9 (.mov (t 8)),
 gf 9 10 (.mov (t 0)),
 gf 9 11 (.sidx (t 10) (k 0)),
 gf 9 12 (.ibin .neq (t 11) (.const (u 119))),
 o 13 (.pick (t 9) (kb true) (t 12))] [])
 (.cond (t 13)
 (.seq (.ops [mv 2 (k 0)] [])
 (.ret))
 (.skip)))
 (.seq (.ops [mv 3 (k 0)] [])
 (.seq (.seq (.ops [mv 14 (t 0),
 o 15 (.ssl (t 14) (some (k 1)) none),
 o 16 (.srange (t 15))] [])
 (.block 0 (.loop (.seq (.ops [o 17 (.snext (t 16)),
 ex 18 (t 17) 0] [])
 (.seq (.cond (t 18)
  (.skip)
  (.exit 0))
 (.block 1 (.seq (.ops [ex 19 (t 17) 2,
 mv 5 (t 19)] [])
 (.ops [mv 20 (t 3),
 o 21 (.ibin .mul (k 10) (t 20)),
 mv 22 (t 5),
 o 23 (.ibin .sub (t 22) (.const (.int .i32 48))),
 o 24 (.conv .i64 (t 23)),
 ad 25 (t 21) (t 24),
 mv 3 (t 25)] []))))))))
 (.seq (.seq (.ops [mv 26 (t 3),
 ca 27 F.za4 [(t 26)],
 mv 28 (t 0),
 o 29 (.strE .neq (t 27) (t 28))] [])
 (.cond (t 29)
 (.seq (.ops [mv 2 (k 0)] [])
 (.ret))
 (.skip)))
 (.seq (.ops [mv 30 (t 3),
 mv 2 (t 30)] [])
 (.ret))))))
def zCG:List zd:=[.tmp 2]
def zBB:RCode:=
 .seq (.ops [o 1 (.box 22 (t 0)),
 mv 2 (.const .nilFunc)] [])
 (.seq (.ops [o 3 (.mkfn F.zyN [(t 1)]),
 mv 2 (t 3)] [])
 (.ret))
def zBC:List zd:=[.tmp 2]
def zkY:RCode:=
 .seq (.ops [mv 6 (kb false)] [])
 (.seq (.ops [mv 7 (t 0),
 mv 8 (t 1),
 o 9 (.ibin .geq (t 7) (t 8)),
 os 10 (.mov (t 9)),
 gt 10 11 (.mov (t 0)),
 gt 10 12 (.mov (t 2)),
 gt 10 13 (.ibin .leq (t 11) (t 12)),
 o 14 (.pick (t 10) (t 13) (kb false)),
 mv 6 (t 14)] [])
 (.ret))
def zkZ:List zd:=[.tmp 6]
theorem zAr {args:List Value} {M:Mem} {R:Value→Mem→Prop} (hn:args.length≤15) (h:zj Tryz.prog zkY zkZ args M R):CallsM Tryz.prog F.znS args M R:=
 zf (kf:=fun _=>[]) Tryz.func286 (by kernel_rfl) (by kernel_rfl) hn (by kernel_rfl) h
def zjE:RCode:=
 .seq (.ops [o 3 (.box 54 (t 1)),
 mv 4 (kb false)] [])
 (.seq (.seq (.ops [mv 6 (t 0),
 o 7 (.pnil .eql (t 6) (.const (.pointer none))),
 os 8 (.mov (t 7)),
 gf 8 9 (.load true 4 (t 3)),
 gf 8 10 (.call (fn F.zbh) [(t 9)]),
 gf 8 11 (.ibin .neq (t 10) (k 0)),
 o 12 (.pick (t 8) (kb true) (t 11))] [])
 (.cond (t 12)
 (.seq (.ops [mv 4 (kb false)] [])
 (.ret))
 (.skip)))
 (.seq (.ops [mv 13 (t 0),
 la 14 4 (t 3),
 ca 15 F.zhs [(t 13),(t 14)],
 mv 5 (t 15)] [])
 (.seq (.draw (.take (fa 16 3 (t 3)) (.take (l1 17 (t 16)) (.take (mv 18 (t 5)) (.take (o 19 (.nilck (t 18))) (.take (fa 20 0 (t 19)) (.take (l1 21 (t 20)) (.take (o 22 (.ibin .leq (t 17) (t 21))) (.take (os 23 (.mov (t 22))) (.take (gf 23 24 (.mov (t 5))) (.take (gf 23 25 (.nilck (t 24))) (.take (gf 23 26 (.faddr 1 (t 25))) (.take (gf 23 27 (.load false 1 (t 26))) (.take (gf 23 28 (.faddr 3 (t 3))) (.take (gf 23 29 (.load false 1 (t 28))) (.alt (gf 23 30 (.call (fn F.zav) [(t 27),(t 29)])) false
 (.take (o 31 (.pick (t 23) (kb true) (t 30))) (.take (mv 4 (t 31)) (.done)))
 (.none)))))))))))))))) [])
 (.ret))))
def zjF:List zd:=[.tmp 4]
theorem zzr {args:List Value} {M:Mem} {R:Value→Mem→Prop} (hn:args.length≤32) (h:zj Tryz.prog zjE zjF args M R):CallsM Tryz.prog F.zjc args M R:=
 zf (kf:=fun _=>[]) Tryz.func287 (by kernel_rfl) (by kernel_rfl) hn (by kernel_rfl) h
def zua:RCode:=
 .seq (.ops [mv 2 (kb false)] [])
 (.seq (.ops [mv 3 (t 0),
 mv 4 (t 0),
 o 5 (.ibin .neq (t 3) (t 4)),
 mv 2 (t 5)] [])
 (.ret))
def zub:List zd:=[.tmp 2]
def zpq:RCode:=
 .ops [mv 4 (t 0),
 mv 5 (t 0),
 o 6 (.len (t 5)),
 mv 7 (t 1),
 o 8 (.ibin .sub (t 6) (t 7)),
 ca 9 F.zpC [(t 4),(t 8)]] []
def zpr:List zd:=[]
def zhm:RCode:=
 .seq (.ops [mv 2 (k 0)] [])
 (.seq (.ops [mv 3 (k 0)] [])
 (.seq (.seq (.ops [mv 6 (t 0),
 o 7 (.pnil .neq (t 6) (.const (.pointer none)))] [])
 (.cond (t 7)
 (.seq (.ops [mv 8 (t 0),
 o 9 (.nilck (t 8)),
 fa 10 1 (t 9),
 l1 11 (t 10),
 o 12 (.mrange (t 11))] [])
 (.block 0 (.loop (.seq (.ops [o 13 (.mnext (t 12)),
  ex 14 (t 13) 0] [])
  (.seq (.cond (t 14)
  (.skip)
  (.exit 0))
  (.block 1 (.seq (.ops [o 15 (.mentry (t 12)),
  ex 16 (t 15) 1,
  mv 5 (t 16)] [])
  (.ops [mv 17 (t 3),
  mv 18 (t 5),
  o 19 (.nilck (t 18)),
  fa 20 0 (t 19),
  l1 21 (t 20),
  o 22 (.len (t 21)),
  ad 23 (t 17) (t 22),
  mv 3 (t 23)] []))))))))
 (.skip)))
 (.seq (.ops [mv 24 (t 3),
 mv 2 (t 24)] [])
 (.ret))))
def zhn:List zd:=[.tmp 2]
theorem zv7 {args:List Value} {M:Mem} {R:Value→Mem→Prop} (hn:args.length≤25) (h:zj Tryz.prog zhm zhn args M R):CallsM Tryz.prog F.zle args M R:=
 zf (kf:=fun _=>[]) Tryz.func291 (by kernel_rfl) (by kernel_rfl) hn (by kernel_rfl) h
def zK:RCode:=
 .seq (.ops [mv 10 (t 1),
 ad 11 (t 10) (k 1),
 mv 8 (t 11)] [])
 (.block 0 (.loop (.seq (.seq (.ops [mv 12 (t 8),
 mv 13 (t 2),
 o 14 (.ibin .lss (t 12) (t 13))] [])
 (.cond (t 14)
  (.skip)
  (.exit 0)))
 (.seq (.block 1 (.seq (.ops [mv 17 (t 8),
 mv 9 (t 17)] [])
 (.block 2 (.loop (.seq (.seq (.draw (.take (mv 18 (t 9)) (.take (mv 19 (t 1)) (.take (o 20 (.ibin .gtr (t 18) (t 19))) (.take (os 21 (.mov (t 20))) (.take (gt 21 22 (.mov (t 3))) (.take (gt 21 23 (.mov (t 0))) (.take (gt 21 24 (.mov (t 9))) (.take (gt 21 25 (.iaddr 6 (t 23) (t 24))) (.take (gt 21 26 (.load true 6 (t 25))) (.take (gt 21 27 (.mov (t 0))) (.take (gt 21 28 (.mov (t 9))) (.take (gt 21 29 (.ibin .sub (t 28) (k 1))) (.take (gt 21 30 (.iaddr 6 (t 27) (t 29))) (.take (gt 21 31 (.load true 6 (t 30))) (.alt (gt 21 32 (.call (t 22) [(t 26),(t 31)])) false
  (.take (gt 21 33 (.ibin .lss (t 32) (k 0))) (.take (o 34 (.pick (t 21) (t 33) (kb false))) (.done)))
  (.none)))))))))))))))) [])
  (.cond (t 34)
  (.skip)
  (.exit 2)))
  (.seq (.block 3 (.draw (.take (mv 37 (t 0)) (.take (mv 38 (t 9)) (.take (mv 39 (t 0)) (.take (mv 40 (t 9)) (.take (o 41 (.ibin .sub (t 40) (k 1))) (.take (mv 42 (t 0)) (.take (mv 43 (t 9)) (.take (o 44 (.ibin .sub (t 43) (k 1))) (.take (o 45 (.iaddr 6 (t 42) (t 44))) (.take (la 46 6 (t 45)) (.take (mv 47 (t 0)) (.take (mv 48 (t 9)) (.take (o 49 (.iaddr 6 (t 47) (t 48))) (.take (la 50 6 (t 49)) (.take (o 51 (.iaddr 6 (t 37) (t 38))) (.alt (st 6 (t 51) (t 46)) false
  (.take (o 52 (.iaddr 6 (t 39) (t 41))) (.alt (st 6 (t 52) (t 50)) false
   (.done)
   (.none)))
  (.none))))))))))))))))) []))
  (.ops [mv 35 (t 9),
  o 36 (.ibin .sub (t 35) (k 1)),
  mv 9 (t 36)] [])))))))
 (.ops [mv 15 (t 8),
 ad 16 (t 15) (k 1),
 mv 8 (t 16)] [])))))
def zL:List zd:=[]
theorem zfO {args:List Value} {M:Mem} {R:Value→Mem→Prop} (hn:args.length≤53) (h:zj Tryz.prog zK zL args M R):CallsM Tryz.prog F.zai args M R:=
 zf (kf:=fun _=>[]) Tryz.func292 (by kernel_rfl) (by kernel_rfl) hn (by kernel_rfl) h
def ziT:RCode:=
 .seq (.ops [mv 13 (t 1),
 mv 8 (t 13)] [])
 (.seq (.ops [mv 9 (k 0)] [])
 (.seq (.ops [mv 14 (t 2),
 mv 15 (t 1),
 o 16 (.ibin .sub (t 14) (t 15)),
 mv 10 (t 16)] [])
 (.seq (.seq (.ops [mv 17 (t 10),
 o 18 (.ibin .sub (t 17) (k 1)),
 o 19 (.ibin .quo (t 18) (k 2)),
 mv 11 (t 19)] [])
 (.block 0 (.loop (.seq (.seq (.ops [mv 20 (t 11),
 o 21 (.ibin .geq (t 20) (k 0))] [])
 (.cond (t 21)
  (.skip)
  (.exit 0)))
 (.seq (.block 1 (.ops [mv 24 (t 0),
 mv 25 (t 11),
 mv 26 (t 10),
 mv 27 (t 8),
 mv 28 (t 3),
 ca 29 F.zce [(t 24),(t 25),(t 26),(t 27),(t 28)]] []))
 (.ops [mv 22 (t 11),
 o 23 (.ibin .sub (t 22) (k 1)),
 mv 11 (t 23)] []))))))
 (.seq (.ops [mv 30 (t 10),
 o 31 (.ibin .sub (t 30) (k 1)),
 mv 12 (t 31)] [])
 (.block 2 (.loop (.seq (.seq (.ops [mv 32 (t 12),
 o 33 (.ibin .geq (t 32) (k 0))] [])
 (.cond (t 33)
  (.skip)
  (.exit 2)))
 (.seq (.block 3 (.seq (.draw (.take (mv 36 (t 0)) (.take (mv 37 (t 8)) (.take (mv 38 (t 0)) (.take (mv 39 (t 8)) (.take (mv 40 (t 12)) (.take (ad 41 (t 39) (t 40)) (.take (mv 42 (t 0)) (.take (mv 43 (t 8)) (.take (mv 44 (t 12)) (.take (ad 45 (t 43) (t 44)) (.take (o 46 (.iaddr 6 (t 42) (t 45))) (.take (la 47 6 (t 46)) (.take (mv 48 (t 0)) (.take (mv 49 (t 8)) (.take (o 50 (.iaddr 6 (t 48) (t 49))) (.take (la 51 6 (t 50)) (.take (o 52 (.iaddr 6 (t 36) (t 37))) (.alt (st 6 (t 52) (t 47)) false
  (.take (o 53 (.iaddr 6 (t 38) (t 41))) (.alt (st 6 (t 53) (t 51)) false
  (.done)
  (.none)))
  (.none))))))))))))))))))) [])
 (.ops [mv 54 (t 0),
 mv 55 (t 9),
 mv 56 (t 12),
 mv 57 (t 8),
 mv 58 (t 3),
 ca 59 F.zce [(t 54),(t 55),(t 56),(t 57),(t 58)]] [])))
 (.ops [mv 34 (t 12),
 o 35 (.ibin .sub (t 34) (k 1)),
 mv 12 (t 35)] [])))))))))
def ziU:List zd:=[]
def zfU:RCode:=
 .seq (.ops [mv 13 (t 2),
 mv 14 (t 1),
 o 15 (.ibin .sub (t 13) (t 14)),
 mv 8 (t 15)] [])
 (.seq (.ops [mv 16 (t 8),
 o 17 (.ibin .geq (t 16) (k 8))] [])
 (.cond (t 17)
 (.seq (.ops [mv 18 (t 8),
 o 19 (.conv .u64 (t 18)),
 o 9 (.alloc 340 [(.int .u64 0)]),
 st 1 (t 9) (t 19)] [])
 (.seq (.ops [mv 20 (t 8),
 ca 21 F.zaP [(t 20)],
 mv 10 (t 21)] [])
 (.seq (.ops [mv 22 (t 1),
 mv 23 (t 8),
 o 24 (.ibin .quo (t 23) (k 4)),
 o 25 (.ibin .mul (t 24) (k 2)),
 ad 26 (t 22) (t 25),
 o 27 (.ibin .sub (t 26) (k 1)),
 mv 11 (t 27)] [])
 (.block 0 (.loop (.seq (.seq (.ops [mv 28 (t 11),
  mv 29 (t 1),
  mv 30 (t 8),
  o 31 (.ibin .quo (t 30) (k 4)),
  o 32 (.ibin .mul (t 31) (k 2)),
  ad 33 (t 29) (t 32),
  ad 34 (t 33) (k 1),
  o 35 (.ibin .leq (t 28) (t 34))] [])
  (.cond (t 35)
  (.skip)
  (.exit 0)))
  (.seq (.block 1 (.seq (.ops [ca 38 F.za2 [(t 9)],
  mv 39 (t 10),
  o 40 (.ibin .sub (t 39) (.const (.int .u64 1))),
  o 41 (.ibin .and (t 38) (t 40)),
  o 42 (.conv .i64 (t 41)),
  mv 12 (t 42)] [])
  (.seq (.seq (.ops [mv 43 (t 12),
  mv 44 (t 8),
  o 45 (.ibin .geq (t 43) (t 44))] [])
  (.cond (t 45)
  (.ops [mv 46 (t 12),
  mv 47 (t 8),
  o 48 (.ibin .sub (t 46) (t 47)),
  mv 12 (t 48)] [])
  (.skip)))
  (.draw (.take (mv 49 (t 0)) (.take (mv 50 (t 11)) (.take (mv 51 (t 0)) (.take (mv 52 (t 1)) (.take (mv 53 (t 12)) (.take (ad 54 (t 52) (t 53)) (.take (mv 55 (t 0)) (.take (mv 56 (t 1)) (.take (mv 57 (t 12)) (.take (ad 58 (t 56) (t 57)) (.take (o 59 (.iaddr 6 (t 55) (t 58))) (.take (la 60 6 (t 59)) (.take (mv 61 (t 0)) (.take (mv 62 (t 11)) (.take (o 63 (.iaddr 6 (t 61) (t 62))) (.take (la 64 6 (t 63)) (.take (o 65 (.iaddr 6 (t 49) (t 50))) (.alt (st 6 (t 65) (t 60)) false
  (.take (o 66 (.iaddr 6 (t 51) (t 54))) (.alt (st 6 (t 66) (t 64)) false
   (.done)
   (.none)))
  (.none))))))))))))))))))) []))))
  (.ops [mv 36 (t 11),
  ad 37 (t 36) (k 1),
  mv 11 (t 37)] []))))))))
 (.skip)))
def zfV:List zd:=[]
def zhw:RCode:=
 .seq (.ops [mv 8 (k 0),
 mv 9 (k 0)] [])
 (.seq (.ops [mv 15 (t 2),
 mv 16 (t 1),
 o 17 (.ibin .sub (t 15) (t 16)),
 mv 10 (t 17)] [])
 (.seq (.ops [o 11 (.alloc 3 [(i 0)])] [])
 (.seq (.ops [mv 18 (t 1),
 mv 19 (t 10),
 o 20 (.ibin .quo (t 19) (k 4)),
 o 21 (.ibin .mul (t 20) (k 1)),
 ad 22 (t 18) (t 21),
 mv 12 (t 22)] [])
 (.seq (.ops [mv 23 (t 1),
 mv 24 (t 10),
 o 25 (.ibin .quo (t 24) (k 4)),
 o 26 (.ibin .mul (t 25) (k 2)),
 ad 27 (t 23) (t 26),
 mv 13 (t 27)] [])
 (.seq (.ops [mv 28 (t 1),
 mv 29 (t 10),
 o 30 (.ibin .quo (t 29) (k 4)),
 o 31 (.ibin .mul (t 30) (k 3)),
 ad 32 (t 28) (t 31),
 mv 14 (t 32)] [])
 (.seq (.seq (.ops [mv 33 (t 10),
 o 34 (.ibin .geq (t 33) (k 8))] [])
 (.cond (t 34)
 (.seq (.seq (.ops [mv 35 (t 10),
 o 36 (.ibin .geq (t 35) (k 50))] [])
 (.cond (t 36)
  (.seq (.ops [mv 37 (t 0),
  mv 38 (t 12),
  mv 39 (t 3),
  ca 40 F.zad [(t 37),(t 38),(t 11),(t 39)],
  mv 12 (t 40)] [])
  (.seq (.ops [mv 41 (t 0),
  mv 42 (t 13),
  mv 43 (t 3),
  ca 44 F.zad [(t 41),(t 42),(t 11),(t 43)],
  mv 13 (t 44)] [])
  (.ops [mv 45 (t 0),
  mv 46 (t 14),
  mv 47 (t 3),
  ca 48 F.zad [(t 45),(t 46),(t 11),(t 47)],
  mv 14 (t 48)] [])))
  (.skip)))
 (.ops [mv 49 (t 0),
 mv 50 (t 12),
 mv 51 (t 13),
 mv 52 (t 14),
 mv 53 (t 3),
 ca 54 F.zcG [(t 49),(t 50),(t 51),(t 52),(t 11),(t 53)],
 mv 13 (t 54)] []))
 (.skip)))
 (.seq (.ops [l1 55 (t 11)] [])
 (.block 0 (.seq (.ops [o 58 (.ibin .eql (t 55) (k 0)),
 mv 57 (t 58)] [])
 (.cond (t 57)
 (.seq (.ops [mv 59 (t 13),
 mv 8 (t 59),
 mv 9 (k 1)] [])
 (.ret))
 (.seq (.ops [o 61 (.ibin .eql (t 55) (k 12)),
 mv 60 (t 61)] [])
 (.cond (t 60)
  (.seq (.ops [mv 62 (t 13),
  mv 8 (t 62),
  mv 9 (k 2)] [])
  (.ret))
  (.seq (.ops [mv 56 (t 13),
  mv 8 (t 56),
  mv 9 (k 0)] [])
  (.ret))))))))))))))
def zhx:List zd:=[.tmp 8,.tmp 9]
def zho:RCode:=
 .seq (.ops [mv 10 (t 1),
 mv 8 (t 10)] [])
 (.seq (.ops [mv 11 (t 2),
 o 12 (.ibin .sub (t 11) (k 1)),
 mv 9 (t 12)] [])
 (.block 0 (.loop (.seq (.seq (.ops [mv 13 (t 8),
 mv 14 (t 9),
 o 15 (.ibin .lss (t 13) (t 14))] [])
 (.cond (t 15)
  (.skip)
  (.exit 0)))
 (.block 1 (.seq (.draw (.take (mv 16 (t 0)) (.take (mv 17 (t 8)) (.take (mv 18 (t 0)) (.take (mv 19 (t 9)) (.take (mv 20 (t 0)) (.take (mv 21 (t 9)) (.take (o 22 (.iaddr 6 (t 20) (t 21))) (.take (la 23 6 (t 22)) (.take (mv 24 (t 0)) (.take (mv 25 (t 8)) (.take (o 26 (.iaddr 6 (t 24) (t 25))) (.take (la 27 6 (t 26)) (.take (o 28 (.iaddr 6 (t 16) (t 17))) (.alt (st 6 (t 28) (t 23)) false
  (.take (o 29 (.iaddr 6 (t 18) (t 19))) (.alt (st 6 (t 29) (t 27)) false
  (.done)
  (.none)))
  (.none))))))))))))))) [])
 (.seq (.ops [mv 30 (t 8),
 ad 31 (t 30) (k 1),
 mv 8 (t 31)] [])
 (.ops [mv 32 (t 9),
 o 33 (.ibin .sub (t 32) (k 1)),
 mv 9 (t 33)] []))))))))
def zhp:List zd:=[]
def zdg:RCode:=
 .seq (.ops [mv 8 (kb false)] [])
 (.seq (.ops [mv 13 (t 1),
 ad 14 (t 13) (k 1),
 mv 9 (t 14)] [])
 (.seq (.seq (.ops [mv 10 (k 0)] [])
 (.block 0 (.loop (.seq (.seq (.ops [mv 15 (t 10),
 o 16 (.ibin .lss (t 15) (k 5))] [])
 (.cond (t 16)
  (.skip)
  (.exit 0)))
 (.seq (.block 1 (.seq (.block 2 (.loop (.seq (.seq (.draw (.take (mv 19 (t 9)) (.take (mv 20 (t 2)) (.take (o 21 (.ibin .lss (t 19) (t 20))) (.take (os 22 (.mov (t 21))) (.take (gt 22 23 (.mov (t 3))) (.take (gt 22 24 (.mov (t 0))) (.take (gt 22 25 (.mov (t 9))) (.take (gt 22 26 (.iaddr 6 (t 24) (t 25))) (.take (gt 22 27 (.load true 6 (t 26))) (.take (gt 22 28 (.mov (t 0))) (.take (gt 22 29 (.mov (t 9))) (.take (gt 22 30 (.ibin .sub (t 29) (k 1))) (.take (gt 22 31 (.iaddr 6 (t 28) (t 30))) (.take (gt 22 32 (.load true 6 (t 31))) (.alt (gt 22 33 (.call (t 23) [(t 27),(t 32)])) false
  (.take (gt 22 34 (.ibin .lss (t 33) (k 0))) (.take (gt 22 35 (.not (t 34))) (.take (o 36 (.pick (t 22) (t 35) (kb false))) (.done))))
  (.none)))))))))))))))) [])
  (.cond (t 36)
  (.skip)
  (.exit 2)))
  (.block 3 (.ops [mv 37 (t 9),
  ad 38 (t 37) (k 1),
  mv 9 (t 38)] [])))))
 (.seq (.seq (.ops [mv 39 (t 9),
 mv 40 (t 2),
 o 41 (.ibin .eql (t 39) (t 40))] [])
 (.cond (t 41)
  (.seq (.ops [mv 8 (kb true)] [])
  (.ret))
  (.skip)))
 (.seq (.seq (.ops [mv 42 (t 2),
 mv 43 (t 1),
 o 44 (.ibin .sub (t 42) (t 43)),
 o 45 (.ibin .lss (t 44) (k 50))] [])
 (.cond (t 45)
  (.seq (.ops [mv 8 (kb false)] [])
  (.ret))
  (.skip)))
 (.seq (.draw (.take (mv 46 (t 0)) (.take (mv 47 (t 9)) (.take (mv 48 (t 0)) (.take (mv 49 (t 9)) (.take (o 50 (.ibin .sub (t 49) (k 1))) (.take (mv 51 (t 0)) (.take (mv 52 (t 9)) (.take (o 53 (.ibin .sub (t 52) (k 1))) (.take (o 54 (.iaddr 6 (t 51) (t 53))) (.take (la 55 6 (t 54)) (.take (mv 56 (t 0)) (.take (mv 57 (t 9)) (.take (o 58 (.iaddr 6 (t 56) (t 57))) (.take (la 59 6 (t 58)) (.take (o 60 (.iaddr 6 (t 46) (t 47))) (.alt (st 6 (t 60) (t 55)) false
  (.take (o 61 (.iaddr 6 (t 48) (t 50))) (.alt (st 6 (t 61) (t 59)) false
  (.done)
  (.none)))
  (.none))))))))))))))))) [])
 (.seq (.seq (.ops [mv 62 (t 9),
 mv 63 (t 1),
 o 64 (.ibin .sub (t 62) (t 63)),
 o 65 (.ibin .geq (t 64) (k 2))] [])
 (.cond (t 65)
  (.seq (.ops [mv 66 (t 9),
  o 67 (.ibin .sub (t 66) (k 1)),
  mv 11 (t 67)] [])
  (.block 4 (.loop (.seq (.seq (.ops [mv 68 (t 11),
  o 69 (.ibin .geq (t 68) (k 1))] [])
  (.cond (t 69)
   (.skip)
   (.exit 4)))
  (.seq (.block 5 (.seq (.seq (.draw (.take (mv 72 (t 3)) (.take (mv 73 (t 0)) (.take (mv 74 (t 11)) (.take (o 75 (.iaddr 6 (t 73) (t 74))) (.take (la 76 6 (t 75)) (.take (mv 77 (t 0)) (.take (mv 78 (t 11)) (.take (o 79 (.ibin .sub (t 78) (k 1))) (.take (o 80 (.iaddr 6 (t 77) (t 79))) (.take (la 81 6 (t 80)) (.alt (o 82 (.call (t 72) [(t 76),(t 81)])) false
   (.take (o 83 (.ibin .lss (t 82) (k 0))) (.take (o 84 (.not (t 83))) (.done)))
   (.none)))))))))))) [])
  (.cond (t 84)
   (.exit 4)
   (.skip)))
  (.draw (.take (mv 85 (t 0)) (.take (mv 86 (t 11)) (.take (mv 87 (t 0)) (.take (mv 88 (t 11)) (.take (o 89 (.ibin .sub (t 88) (k 1))) (.take (mv 90 (t 0)) (.take (mv 91 (t 11)) (.take (o 92 (.ibin .sub (t 91) (k 1))) (.take (o 93 (.iaddr 6 (t 90) (t 92))) (.take (la 94 6 (t 93)) (.take (mv 95 (t 0)) (.take (mv 96 (t 11)) (.take (o 97 (.iaddr 6 (t 95) (t 96))) (.take (la 98 6 (t 97)) (.take (o 99 (.iaddr 6 (t 85) (t 86))) (.alt (st 6 (t 99) (t 94)) false
   (.take (o 100 (.iaddr 6 (t 87) (t 89))) (.alt (st 6 (t 100) (t 98)) false
   (.done)
   (.none)))
   (.none))))))))))))))))) [])))
  (.ops [mv 70 (t 11),
  o 71 (.ibin .sub (t 70) (k 1)),
  mv 11 (t 71)] []))))))
  (.skip)))
 (.seq (.ops [mv 101 (t 2),
 mv 102 (t 9),
 o 103 (.ibin .sub (t 101) (t 102)),
 o 104 (.ibin .geq (t 103) (k 2))] [])
 (.cond (t 104)
  (.seq (.ops [mv 105 (t 9),
  ad 106 (t 105) (k 1),
  mv 12 (t 106)] [])
  (.block 6 (.loop (.seq (.seq (.ops [mv 107 (t 12),
  mv 108 (t 2),
  o 109 (.ibin .lss (t 107) (t 108))] [])
  (.cond (t 109)
   (.skip)
   (.exit 6)))
  (.seq (.block 7 (.seq (.seq (.draw (.take (mv 112 (t 3)) (.take (mv 113 (t 0)) (.take (mv 114 (t 12)) (.take (o 115 (.iaddr 6 (t 113) (t 114))) (.take (la 116 6 (t 115)) (.take (mv 117 (t 0)) (.take (mv 118 (t 12)) (.take (o 119 (.ibin .sub (t 118) (k 1))) (.take (o 120 (.iaddr 6 (t 117) (t 119))) (.take (la 121 6 (t 120)) (.alt (o 122 (.call (t 112) [(t 116),(t 121)])) false
   (.take (o 123 (.ibin .lss (t 122) (k 0))) (.take (o 124 (.not (t 123))) (.done)))
   (.none)))))))))))) [])
  (.cond (t 124)
   (.exit 6)
   (.skip)))
  (.draw (.take (mv 125 (t 0)) (.take (mv 126 (t 12)) (.take (mv 127 (t 0)) (.take (mv 128 (t 12)) (.take (o 129 (.ibin .sub (t 128) (k 1))) (.take (mv 130 (t 0)) (.take (mv 131 (t 12)) (.take (o 132 (.ibin .sub (t 131) (k 1))) (.take (o 133 (.iaddr 6 (t 130) (t 132))) (.take (la 134 6 (t 133)) (.take (mv 135 (t 0)) (.take (mv 136 (t 12)) (.take (o 137 (.iaddr 6 (t 135) (t 136))) (.take (la 138 6 (t 137)) (.take (o 139 (.iaddr 6 (t 125) (t 126))) (.alt (st 6 (t 139) (t 134)) false
   (.take (o 140 (.iaddr 6 (t 127) (t 129))) (.alt (st 6 (t 140) (t 138)) false
   (.done)
   (.none)))
   (.none))))))))))))))))) [])))
  (.ops [mv 110 (t 12),
  ad 111 (t 110) (k 1),
  mv 12 (t 111)] []))))))
  (.skip)))))))))
 (.ops [mv 17 (t 10),
 ad 18 (t 17) (k 1),
 mv 10 (t 18)] []))))))
 (.seq (.ops [mv 8 (kb false)] [])
 (.ret))))
def zdh:List zd:=[.tmp 8]
def zfP:RCode:=
 .seq (.ops [mv 10 (k 0)] [])
 (.seq (.draw (.take (mv 13 (t 0)) (.take (mv 14 (t 1)) (.take (mv 15 (t 0)) (.take (mv 16 (t 3)) (.take (mv 17 (t 0)) (.take (mv 18 (t 3)) (.take (o 19 (.iaddr 6 (t 17) (t 18))) (.take (la 20 6 (t 19)) (.take (mv 21 (t 0)) (.take (mv 22 (t 1)) (.take (o 23 (.iaddr 6 (t 21) (t 22))) (.take (la 24 6 (t 23)) (.take (o 25 (.iaddr 6 (t 13) (t 14))) (.alt (st 6 (t 25) (t 20)) false
 (.take (o 26 (.iaddr 6 (t 15) (t 16))) (.alt (st 6 (t 26) (t 24)) false
  (.done)
  (.none)))
 (.none))))))))))))))) [])
 (.seq (.ops [mv 27 (t 1),
 ad 28 (t 27) (k 1),
 mv 29 (t 2),
 o 30 (.ibin .sub (t 29) (k 1)),
 mv 11 (t 28),
 mv 12 (t 30)] [])
 (.seq (.block 0 (.loop (.block 1 (.seq (.block 2 (.loop (.seq (.seq (.draw (.take (mv 31 (t 11)) (.take (mv 32 (t 12)) (.take (o 33 (.ibin .leq (t 31) (t 32))) (.take (os 34 (.mov (t 33))) (.take (gt 34 35 (.mov (t 4))) (.take (gt 34 36 (.mov (t 0))) (.take (gt 34 37 (.mov (t 1))) (.take (gt 34 38 (.iaddr 6 (t 36) (t 37))) (.take (gt 34 39 (.load true 6 (t 38))) (.take (gt 34 40 (.mov (t 0))) (.take (gt 34 41 (.mov (t 11))) (.take (gt 34 42 (.iaddr 6 (t 40) (t 41))) (.take (gt 34 43 (.load true 6 (t 42))) (.alt (gt 34 44 (.call (t 35) [(t 39),(t 43)])) false
  (.take (gt 34 45 (.ibin .lss (t 44) (k 0))) (.take (gt 34 46 (.not (t 45))) (.take (o 47 (.pick (t 34) (t 46) (kb false))) (.done))))
  (.none))))))))))))))) [])
  (.cond (t 47)
  (.skip)
  (.exit 2)))
  (.block 3 (.ops [mv 48 (t 11),
  ad 49 (t 48) (k 1),
  mv 11 (t 49)] [])))))
 (.seq (.block 4 (.loop (.seq (.seq (.draw (.take (mv 50 (t 11)) (.take (mv 51 (t 12)) (.take (o 52 (.ibin .leq (t 50) (t 51))) (.take (os 53 (.mov (t 52))) (.take (gt 53 54 (.mov (t 4))) (.take (gt 53 55 (.mov (t 0))) (.take (gt 53 56 (.mov (t 1))) (.take (gt 53 57 (.iaddr 6 (t 55) (t 56))) (.take (gt 53 58 (.load true 6 (t 57))) (.take (gt 53 59 (.mov (t 0))) (.take (gt 53 60 (.mov (t 12))) (.take (gt 53 61 (.iaddr 6 (t 59) (t 60))) (.take (gt 53 62 (.load true 6 (t 61))) (.alt (gt 53 63 (.call (t 54) [(t 58),(t 62)])) false
  (.take (gt 53 64 (.ibin .lss (t 63) (k 0))) (.take (o 65 (.pick (t 53) (t 64) (kb false))) (.done)))
  (.none))))))))))))))) [])
  (.cond (t 65)
  (.skip)
  (.exit 4)))
  (.block 5 (.ops [mv 66 (t 12),
  o 67 (.ibin .sub (t 66) (k 1)),
  mv 12 (t 67)] [])))))
 (.seq (.seq (.ops [mv 68 (t 11),
 mv 69 (t 12),
 o 70 (.ibin .gtr (t 68) (t 69))] [])
 (.cond (t 70)
  (.exit 0)
  (.skip)))
 (.seq (.draw (.take (mv 71 (t 0)) (.take (mv 72 (t 11)) (.take (mv 73 (t 0)) (.take (mv 74 (t 12)) (.take (mv 75 (t 0)) (.take (mv 76 (t 12)) (.take (o 77 (.iaddr 6 (t 75) (t 76))) (.take (la 78 6 (t 77)) (.take (mv 79 (t 0)) (.take (mv 80 (t 11)) (.take (o 81 (.iaddr 6 (t 79) (t 80))) (.take (la 82 6 (t 81)) (.take (o 83 (.iaddr 6 (t 71) (t 72))) (.alt (st 6 (t 83) (t 78)) false
  (.take (o 84 (.iaddr 6 (t 73) (t 74))) (.alt (st 6 (t 84) (t 82)) false
  (.done)
  (.none)))
  (.none))))))))))))))) [])
 (.seq (.ops [mv 85 (t 11),
 ad 86 (t 85) (k 1),
 mv 11 (t 86)] [])
 (.ops [mv 87 (t 12),
 o 88 (.ibin .sub (t 87) (k 1)),
 mv 12 (t 88)] [])))))))))
 (.seq (.ops [mv 89 (t 11),
 mv 10 (t 89)] [])
 (.ret)))))
def zfQ:List zd:=[.tmp 10]
end Go.Proofs.YtdgikhhkgnjalaaGreat
