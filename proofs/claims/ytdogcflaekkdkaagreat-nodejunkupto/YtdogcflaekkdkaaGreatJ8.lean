/- Part of this proof;laid by program. -/
import Derived.Test.YtdogcflaekkdkaaGreatJ6
import Derived.Test.YtdogcflaekkdkaaGreatJ7
set_option linter.unusedVariables false
set_option linter.unusedSimpArgs false
namespace Go.Proofs.YtdogcflaekkdkaaGreat
open Go.Vm Go.Vm.S
section
def zO3 (i:Nat):List Nat:=match i with|0=>[2]|1=>[4,5,6]|2=>[0,3,7,8,9,10,11,12,13,14,15,16]|_=>[]
def zxX (i:Nat):List Nat:=match i with|0=>[2,3]|1=>[6]|3=>[7,8,9]|5=>[13,14,15,16]|7=>[18,19,20,21]|8=>[23,24,25,26,27,28,29]|9=>[30,31,32,33,34,35,36,37,38,39,40,41,42,43,44,45,46,47,48,49]|11=>[51,52,53,54,55,56,57,58,59]|12=>[60,61]|4=>[11,12]|13=>[4,62]|_=>[]
def zxY:RCode := .seq (.ops [mv 2 (.const sn),mv 3 (k 0)] [2,3]) (.seq (.ops [o 6 (.mkSl false 5 0 [] []),mv 4 (t 6)] [6]) (.seq (.seq (.ops [mv 5 (k 0)] []) (.block 0 (.loop (.seq (.seq (.ops [mv 7 (t 5),mv 8 (t 0),o 9 (.len (t 8)),o 10 (.ibin .lss (t 7) (t 9))] [7,8,9]) (.cond (t 10) (.skip) (.exit 0))) (.seq (.block 1 (.seq (.seq (.ops [mv 13 (t 0),mv 14 (t 5),o 15 (.iaddr 1 (t 13) (t 14)),l1 16 (t 15),o 17 (.ibin .eql (t 16) (.const (u 126)))] [13,14,15,16]) (.cond (t 17) (.seq (.ops [mv 2 (.const sn),mv 3 (k 2)] []) (.ret)) (.skip))) (.seq (.seq (.ops [mv 18 (t 0),mv 19 (t 5),o 20 (.iaddr 1 (t 18) (t 19)),l1 21 (t 20),o 22 (.ibin .neq (t 21) (.const (u 125)))] [18,19,20,21]) (.cond (t 22) (.seq (.ops [mv 23 (t 4),mv 24 (t 0),mv 25 (t 5),o 26 (.iaddr 1 (t 24) (t 25)),l1 27 (t 26),o 28 (.mkSl true 5 1 [(u 0)] [(0,1,(t 27))]),o 29 (.app 5 1 1 [(u 0)] (t 23) (t 28)),mv 4 (t 29)] [23,24,25,26,27,28,29]) (.exit 1)) (.skip))) (.seq (.seq (.ops [mv 30 (t 5),ad 31 (t 30) (k 1),mv 32 (t 0),o 33 (.len (t 32)),o 34 (.ibin .geq (t 31) (t 33)),os 35 (.mov (t 34)),gf 35 36 (.mov (t 0)),gf 35 37 (.mov (t 5)),gf 35 38 (.ibin .add (t 37) (k 1)),gf 35 39 (.iaddr 1 (t 36) (t 38)),gf 35 40 (.load false 1 (t 39)),gf 35 41 (.ibin .neq (t 40) (.const (u 94))),⟨(some 42),.mov (t 41),some (35,false),true⟩,gt 42 43 (.mov (t 0)),gt 42 44 (.mov (t 5)),gt 42 45 (.ibin .add (t 44) (k 1)),gt 42 46 (.iaddr 1 (t 43) (t 45)),gt 42 47 (.load false 1 (t 46)),gt 42 48 (.ibin .neq (t 47) (.const (u 93))),gf 35 49 (.pick (t 42) (t 48) (kb false)),o 50 (.pick (t 35) (kb true) (t 49))] [30,31,32,33,34,35,36,37,38,39,40,41,42,43,44,45,46,47,48,49]) (.cond (t 50) (.seq (.ops [mv 2 (.const sn),mv 3 (k 2)] []) (.ret)) (.skip))) (.seq (.ops [mv 51 (t 4),mv 52 (t 0),mv 53 (t 5),ad 54 (t 53) (k 1),o 55 (.iaddr 1 (t 52) (t 54)),l1 56 (t 55),o 57 (.ibin .xor (t 56) (.const (u 32))),o 58 (.mkSl true 5 1 [(u 0)] [(0,1,(t 57))]),o 59 (.app 5 1 1 [(u 0)] (t 51) (t 58)),mv 4 (t 59)] [51,52,53,54,55,56,57,58,59]) (.ops [mv 60 (t 5),ad 61 (t 60) (k 1),mv 5 (t 61)] [60,61])))))) (.ops [mv 11 (t 5),ad 12 (t 11) (k 1),mv 5 (t 12)] [11,12])))))) (.seq (.ops [mv 62 (t 4),mv 2 (t 62),mv 3 (k 0)] [4,62]) (.ret))))
def zxZ:List zd:=[.tmp 2,.tmp 3]
theorem zws {args:List Value} {M:Mem} {R:Value→Mem→Prop} (hn:args.length≤63) (h:zi Tryz.prog zxY zxZ args M R):CallsM Tryz.prog F.zhS args M R:=zf (kf:=zxX) Tryz.func131 (by kernel_rfl) (by kernel_rfl) hn (by kernel_rfl) h
def zAF (i:Nat):List Nat:=match i with|0=>[2]|1=>[0,3,4,5,6,7,8,9,10,11,12,13,14,15,16,17]|_=>[]
def zAG:RCode := .seq (.ops [mv 2 (kb false)] [2]) (.seq (.draw (.take (mv 3 (t 0)) (.take (o 4 (.len (t 3))) (.take (o 5 (.ibin .geq (t 4) (k 2))) (.take (os 6 (.mov (t 5))) (.take (gt 6 7 (.mov (t 0))) (.take (gt 6 8 (.mov (t 0))) (.take (gt 6 9 (.len (t 8))) (.take (gt 6 10 (.ibin .sub (t 9) (k 2))) (.take (gt 6 11 (.slx 1 (t 7) none (some (t 10)))) (.take (gt 6 14 (.mov (t 0))) (.take (gt 6 15 (.strOf (t 14))) (.alt (gt 6 12 (.call (fn F.znt) [(t 11)])) true (.take (gt 6 13 (.strOf (t 12))) (.take (gt 6 16 (.strE .eql (t 13) (t 15))) (.take (o 17 (.pick (t 6) (t 16) (kb false))) (.take (mv 2 (t 17)) (.done))))) (.none))))))))))))) [0,3,4,5,6,7,8,9,10,11,12,13,14,15,16,17]) (.ret))
def zAH:List zd:=[.tmp 2]
theorem zza {args:List Value} {M:Mem} {R:Value→Mem→Prop} (hn:args.length≤18) (h:zi Tryz.prog zAG zAH args M R):CallsM Tryz.prog F.zkG args M R:=zf (kf:=zAF) Tryz.func132 (by kernel_rfl) (by kernel_rfl) hn (by kernel_rfl) h
def ztN (i:Nat):List Nat:=match i with|0=>[4,5,6,7,8,9,10,11]|1=>[3,13,14]|2=>[0,15,16,17,18,19,20,21,22,23]|3=>[25,26,27]|4=>[0,28,29,30,31,32,33,34,35,36]|5=>[38,39,40]|6=>[0,41,42,43,44,45,46,47,48,49]|7=>[51,52,53,54]|8=>[0,55,56,57,58,59,60,61,62,63]|9=>[64,65,66,67,68,69,70,71,72]|10=>[0,2,73,74,75,76,77,78,79,80,81,82,83,84,85,86,87,88]|_=>[]
def ztO:RCode := .scope (.seq (.ops [mv 5 (t 0),o 6 (.nilck (t 5)),fa 7 1 (t 6),l1 8 (t 7),ca 9 F.zcG [(t 8)],mv 4 (t 9),ex 10 (t 4) 0,ex 11 (t 4) 1,mv 2 (t 10),mv 3 (t 11)] [4,5,6,7,8,9,10,11]) (.seq (.skip) (.block 0 (.loop (.block 1 (.seq (.block 2 (.seq (.ops [mv 13 (t 3),o 14 (.ibin .neq (t 13) (k 0)),mv 12 (t 14)] [3,13,14]) (.cond (t 12) (.seq (.ops [mv 15 (t 0),o 16 (.nilck (t 15)),fa 17 2 (t 16),fa 18 4 (t 17),l1 19 (t 18),ad 20 (t 19) (k 1),o 21 (.nilck (t 15)),fa 22 2 (t 21),fa 23 4 (t 22),st 1 (t 23) (t 20)] [0,15,16,17,18,19,20,21,22,23]) (.exit 0)) (.seq (.ops [mv 25 (t 2),o 26 (.len (t 25)),o 27 (.ibin .lss (t 26) (k 3)),mv 24 (t 27)] [25,26,27]) (.cond (t 24) (.seq (.ops [mv 28 (t 0),o 29 (.nilck (t 28)),fa 30 2 (t 29),fa 31 2 (t 30),l1 32 (t 31),ad 33 (t 32) (k 1),o 34 (.nilck (t 28)),fa 35 2 (t 34),fa 36 2 (t 35),st 1 (t 36) (t 33)] [0,28,29,30,31,32,33,34,35,36]) (.exit 0)) (.seq (.ops [mv 38 (t 2),ca 39 F.zhG [(t 38)],o 40 (.not (t 39)),mv 37 (t 40)] [38,39,40]) (.cond (t 37) (.seq (.ops [mv 41 (t 0),o 42 (.nilck (t 41)),fa 43 2 (t 42),fa 44 1 (t 43),l1 45 (t 44),ad 46 (t 45) (k 1),o 47 (.nilck (t 41)),fa 48 2 (t 47),fa 49 1 (t 48),st 1 (t 49) (t 46)] [0,41,42,43,44,45,46,47,48,49]) (.exit 0)) (.seq (.ops [mv 51 (t 2),o 52 (.len (t 51)),o 53 (.ibin .sub (t 52) (k 2)),o 54 (.ibin .gtr (t 53) (k 128)),mv 50 (t 54)] [51,52,53,54]) (.cond (t 50) (.seq (.ops [mv 55 (t 0),o 56 (.nilck (t 55)),fa 57 2 (t 56),fa 58 3 (t 57),l1 59 (t 58),ad 60 (t 59) (k 1),o 61 (.nilck (t 55)),fa 62 2 (t 61),fa 63 3 (t 62),st 1 (t 63) (t 60)] [0,55,56,57,58,59,60,61,62,63]) (.exit 0)) (.skip)))))))))) (.seq (.ops [mv 64 (t 0),o 65 (.nilck (t 64)),fa 66 2 (t 65),fa 67 0 (t 66),l1 68 (t 67),ad 69 (t 68) (k 1),o 70 (.nilck (t 64)),fa 71 2 (t 70),fa 72 0 (t 71),st 1 (t 72) (t 69)] [64,65,66,67,68,69,70,71,72]) (.seq (.draw (.take (mv 73 (t 0)) (.take (mv 74 (t 0)) (.take (o 75 (.nilck (t 74))) (.take (fa 76 7 (t 75)) (.take (l1 77 (t 76)) (.take (mv 79 (t 2)) (.take (mv 80 (t 2)) (.take (o 81 (.len (t 80))) (.take (o 82 (.ibin .sub (t 81) (k 2))) (.take (o 83 (.slx 1 (t 79) none (some (t 82)))) (.alt (o 78 (.mkSl false 5 0 [] [])) false (.alt (o 84 (.app 5 1 1 [(u 0)] (t 78) (t 83))) true (.alt (o 85 (.mkSl true 30 1 [sn] [(0,1,(t 84))])) false (.alt (o 86 (.app 30 1 24 [sn] (t 77) (t 85))) false (.take (o 87 (.nilck (t 73))) (.take (fa 88 7 (t 87)) (.alt (st 1 (t 88) (t 86)) false (.done) (.none)))) (.none)) (.none)) (.none)) (.none)))))))))))) [0,2,73,74,75,76,77,78,79,80,81,82,83,84,85,86,87,88]) (.exit 0)))))))))
def ztP:List zd:=[]
theorem zsT {args:List Value} {M:Mem} {R:Value→Mem→Prop} (hn:args.length≤89) (h:zi Tryz.prog ztO ztP args M R):CallsM Tryz.prog F.zbk args M R:=zf (kf:=ztN) Tryz.func135 (by kernel_rfl) (by kernel_rfl) hn (by kernel_rfl) h
def zI4 (i:Nat):List Nat:=match i with|0=>[2,3,4,5,6]|1=>[7,8,9,10,11]|2=>[12,13,14,15,16,17,18]|3=>[0,19,20,21,22,23,24,25,26,27]|_=>[]
def zAI (i:Nat):List Nat:=match i with|0=>[0,1,4]|1=>[2,3,5]|_=>[]
def zAJ:RCode := .seq (.ops [o 2 (.box 3 (t 0)),o 3 (.box 3 (t 1)),mv 4 (.const .nilFunc)] [0,1,4]) (.seq (.ops [o 5 (.mkfn F.zhU [(t 3),(t 2)]),mv 4 (t 5)] [2,3,5]) (.ret))
def zAK:List zd:=[.tmp 4]
theorem zzb {args:List Value} {M:Mem} {R:Value→Mem→Prop} (hn:args.length≤6) (h:zi Tryz.prog zAJ zAK args M R):CallsM Tryz.prog F.zc2 args M R:=zf (kf:=zAI) Tryz.func154 (by kernel_rfl) (by kernel_rfl) hn (by kernel_rfl) h
def zHU (i:Nat):List Nat:=match i with|0=>[2]|2=>[0]|4=>[12,13]|5=>[5]|7=>[18,19]|8=>[7,20,21,22]|9=>[23]|10=>[24]|11=>[3,25,26]|_=>[]
def zHV:RCode := .seq (.ops [mv 2 (.const (.int .u16 0))] [2]) (.seq (.ops [mv 3 (.const (.int .u16 65535))] []) (.seq (.seq (.ops [mv 8 (t 0),o 9 (.len (t 8)),mv 10 (k 0)] [0]) (.block 0 (.loop (.seq (.ops [o 11 (.ibin .lss (t 10) (t 9))] []) (.seq (.cond (t 11) (.skip) (.exit 0)) (.seq (.block 1 (.seq (.ops [o 12 (.iaddr 1 (t 8) (t 10)),l1 13 (t 12),mv 5 (t 13)] [12,13]) (.seq (.ops [mv 14 (t 5),o 15 (.len (t 14)),mv 16 (k 0)] [5]) (.block 2 (.loop (.seq (.ops [o 17 (.ibin .lss (t 16) (t 15))] []) (.seq (.cond (t 17) (.skip) (.exit 2)) (.seq (.block 3 (.seq (.ops [o 18 (.iaddr 1 (t 14) (t 16)),l1 19 (t 18),mv 7 (t 19)] [18,19]) (.ops [mv 20 (t 3),mv 21 (t 7),ca 22 F.zjb [(t 20),(t 21)],mv 3 (t 22)] [7,20,21,22]))) (.ops [ad 23 (t 16) (k 1),mv 16 (t 23)] [23]))))))))) (.ops [ad 24 (t 10) (k 1),mv 10 (t 24)] [24]))))))) (.seq (.ops [mv 25 (t 3),o 26 (.ucom (t 25)),mv 2 (t 26)] [3,25,26]) (.ret))))
def zHW:List zd:=[.tmp 2]
theorem zE7 {args:List Value} {M:Mem} {R:Value→Mem→Prop} (hn:args.length≤27) (h:zi Tryz.prog zHV zHW args M R):CallsM Tryz.prog F.ziD args M R:=zf (kf:=zHU) Tryz.func189 (by kernel_rfl) (by kernel_rfl) hn (by kernel_rfl) h
def zDD (i:Nat):List Nat:=match i with|0=>[2]|1=>[5,6]|2=>[0,7,8,9]|3=>[3,4,10,11,12,13,14,15,16,17,18]|_=>[]
def zDE:RCode := .seq (.ops [mv 2 (.const sn)] [2]) (.seq (.ops [mv 5 (t 0),ca 6 F.znu [(t 5)],mv 3 (t 6)] [5,6]) (.seq (.ops [o 7 (.mkSl false 5 0 [] []),mv 8 (t 0),o 9 (.app 5 1 1 [(u 0)] (t 7) (t 8)),mv 4 (t 9)] [0,7,8,9]) (.seq (.ops [mv 10 (t 4),mv 11 (t 3),o 12 (.ibin .rem (t 11) (.const (.int .u16 256))),o 13 (.conv .u8 (t 12)),mv 14 (t 3),o 15 (.ibin .quo (t 14) (.const (.int .u16 256))),o 16 (.conv .u8 (t 15)),o 17 (.mkSl true 5 2 [(u 0),(u 0)] [(0,1,(t 13)),(1,1,(t 16))]),o 18 (.app 5 1 1 [(u 0)] (t 10) (t 17)),mv 2 (t 18)] [3,4,10,11,12,13,14,15,16,17,18]) (.ret))))
def zDF:List zd:=[.tmp 2]
theorem zCb {args:List Value} {M:Mem} {R:Value→Mem→Prop} (hn:args.length≤19) (h:zi Tryz.prog zDE zDF args M R):CallsM Tryz.prog F.znt args M R:=zf (kf:=zDD) Tryz.func190 (by kernel_rfl) (by kernel_rfl) hn (by kernel_rfl) h
def zx0 (i:Nat):List Nat:=match i with|0=>[2,3]|3=>[0]|5=>[12,13]|7=>[19,20]|9=>[22,23,24,25,26,27,28,29,30]|11=>[32]|12=>[7,33,34,35,36,37]|14=>[39,40]|6=>[7,14,15,16,17]|16=>[41]|17=>[5]|19=>[4,43]|_=>[]
def zx1:RCode := .seq (.ops [mv 2 (.const sn),mv 3 (k 0)] [2,3]) (.seq (.ops [mv 4 (.const sn)] []) (.seq (.ops [mv 5 (kb false)] []) (.seq (.seq (.ops [mv 8 (t 0),o 9 (.len (t 8)),mv 10 (k 0)] [0]) (.block 0 (.loop (.seq (.ops [o 11 (.ibin .lss (t 10) (t 9))] []) (.seq (.cond (t 11) (.skip) (.exit 0)) (.seq (.block 1 (.seq (.ops [o 12 (.iaddr 1 (t 8) (t 10)),l1 13 (t 12),mv 7 (t 13)] [12,13]) (.block 2 (.seq (.ops [mv 19 (t 7),o 20 (.ibin .eql (t 19) (.const (u 126))),mv 18 (t 20)] [19,20]) (.cond (t 18) (.seq (.ops [mv 2 (.const sn),mv 3 (k 2)] []) (.ret)) (.seq (.ops [mv 22 (t 5),os 23 (.mov (t 22)),gt 23 24 (.mov (t 7)),gt 23 25 (.ibin .neq (t 24) (.const (u 94))),o 26 (.pick (t 23) (t 25) (kb false)),os 27 (.mov (t 26)),gt 27 28 (.mov (t 7)),gt 27 29 (.ibin .neq (t 28) (.const (u 93))),o 30 (.pick (t 27) (t 29) (kb false)),mv 21 (t 30)] [22,23,24,25,26,27,28,29,30]) (.cond (t 21) (.seq (.ops [mv 2 (.const sn),mv 3 (k 2)] []) (.ret)) (.seq (.ops [mv 32 (t 5),mv 31 (t 32)] [32]) (.cond (t 31) (.seq (.ops [mv 33 (t 4),mv 34 (t 7),o 35 (.ibin .xor (t 34) (.const (u 32))),o 36 (.mkSl true 5 1 [(u 0)] [(0,1,(t 35))]),o 37 (.app 5 1 1 [(u 0)] (t 33) (t 36)),mv 4 (t 37)] [7,33,34,35,36,37]) (.ops [mv 5 (kb false)] [])) (.seq (.ops [mv 39 (t 7),o 40 (.ibin .eql (t 39) (.const (u 125))),mv 38 (t 40)] [39,40]) (.cond (t 38) (.ops [mv 5 (kb true)] []) (.ops [mv 14 (t 4),mv 15 (t 7),o 16 (.mkSl true 5 1 [(u 0)] [(0,1,(t 15))]),o 17 (.app 5 1 1 [(u 0)] (t 14) (t 16)),mv 4 (t 17)] [7,14,15,16,17])))))))))))) (.ops [ad 41 (t 10) (k 1),mv 10 (t 41)] [41]))))))) (.seq (.seq (.ops [mv 42 (t 5)] [5]) (.cond (t 42) (.seq (.ops [mv 2 (.const sn),mv 3 (k 2)] []) (.ret)) (.skip))) (.seq (.ops [mv 43 (t 4),mv 2 (t 43),mv 3 (k 0)] [4,43]) (.ret))))))
def zx2:List zd:=[.tmp 2,.tmp 3]
theorem zwt {args:List Value} {M:Mem} {R:Value→Mem→Prop} (hn:args.length≤44) (h:zi Tryz.prog zx1 zx2 args M R):CallsM Tryz.prog F.zcG args M R:=zf (kf:=zx0) Tryz.func196 (by kernel_rfl) (by kernel_rfl) hn (by kernel_rfl) h
def zDG (i:Nat):List Nat:=match i with|0=>[2]|1=>[4,5,6]|2=>[0,3,7,8,9,10,11,12,13,14,15,16,17,18,19,20,21,22,23,24,25,26,27,28,29]|_=>[]
def zDH:RCode := .seq (.ops [mv 2 (kb false)] [2]) (.seq (.ops [mv 4 (t 0),o 5 (.len (t 4)),o 6 (.ibin .sub (t 5) (k 2)),mv 3 (t 6)] [4,5,6]) (.seq (.draw (.take (mv 7 (t 3)) (.take (o 8 (.ibin .geq (t 7) (k 0))) (.take (os 9 (.mov (t 8))) (.take (gt 9 10 (.mov (t 0))) (.take (gt 9 11 (.mov (t 3))) (.take (gt 9 12 (.slx 1 (t 10) none (some (t 11)))) (.take (gt 9 15 (.mov (t 0))) (.take (gt 9 16 (.mov (t 3))) (.take (gt 9 17 (.iaddr 1 (t 15) (t 16))) (.take (gt 9 18 (.load false 1 (t 17))) (.take (gt 9 19 (.conv .u16 (t 18))) (.take (gt 9 20 (.mov (t 0))) (.take (gt 9 21 (.mov (t 3))) (.take (gt 9 22 (.ibin .add (t 21) (k 1))) (.take (gt 9 23 (.iaddr 1 (t 20) (t 22))) (.take (gt 9 24 (.load false 1 (t 23))) (.take (gt 9 25 (.conv .u16 (t 24))) (.take (gt 9 26 (.ibin .shl (t 25) (.const (.int .u64 8)))) (.take (gt 9 27 (.ibin .or (t 19) (t 26))) (.alt (gt 9 13 (.mkSl false 30 1 [sn] [(0,1,(t 12))])) false (.alt (gt 9 14 (.call (fn F.ziD) [(t 13)])) true (.take (gt 9 28 (.ibin .eql (t 14) (t 27))) (.take (o 29 (.pick (t 9) (t 28) (kb false))) (.take (mv 2 (t 29)) (.done)))) (.none)) (.none))))))))))))))))))))) [0,3,7,8,9,10,11,12,13,14,15,16,17,18,19,20,21,22,23,24,25,26,27,28,29]) (.ret)))
def zDI:List zd:=[.tmp 2]
theorem zCc {args:List Value} {M:Mem} {R:Value→Mem→Prop} (hn:args.length≤30) (h:zi Tryz.prog zDH zDI args M R):CallsM Tryz.prog F.zhG args M R:=zf (kf:=zDG) Tryz.func197 (by kernel_rfl) (by kernel_rfl) hn (by kernel_rfl) h
def zx3 (i:Nat):List Nat:=match i with|0=>[2]|1=>[0,3,4]|_=>[]
def zx4:RCode := .seq (.ops [mv 2 (k 0)] [2]) (.seq (.ops [mv 3 (t 0),o 4 (.ibin .and (t 3) (k 127)),mv 2 (t 4)] [0,3,4]) (.ret))
def zx5:List zd:=[.tmp 2]
theorem zwu {args:List Value} {M:Mem} {R:Value→Mem→Prop} (hn:args.length≤5) (h:zi Tryz.prog zx4 zx5 args M R):CallsM Tryz.prog F.zF args M R:=zf (kf:=zx3) Tryz.func220 (by kernel_rfl) (by kernel_rfl) hn (by kernel_rfl) h
def zE8 (i:Nat):List Nat:=match i with|0=>[4]|1=>[0,1,6,7,8,9,10]|4=>[13,14]|5=>[15]|6=>[5,16,17]|_=>[]
def zE9:RCode := .seq (.ops [mv 4 (.const (.int .u16 0))] [4]) (.seq (.ops [mv 6 (t 0),mv 7 (t 1),o 8 (.conv .u16 (t 7)),o 9 (.ibin .xor (t 6) (t 8)),o 10 (.conv .u32 (t 9)),mv 5 (t 10)] [0,1,6,7,8,9,10]) (.seq (.seq (.ops [mv 11 (k 0)] []) (.block 0 (.loop (.seq (.ops [o 12 (.ibin .lss (t 11) (k 8))] []) (.seq (.cond (t 12) (.skip) (.exit 0)) (.seq (.block 1 (.ops [mv 13 (t 5),ca 14 F.zgz [(t 13),(.const (.int .u32 33800))],mv 5 (t 14)] [13,14])) (.ops [ad 15 (t 11) (k 1),mv 11 (t 15)] [15]))))))) (.seq (.ops [mv 16 (t 5),o 17 (.conv .u16 (t 16)),mv 4 (t 17)] [5,16,17]) (.ret))))
def zFa:List zd:=[.tmp 4]
theorem zDJ {args:List Value} {M:Mem} {R:Value→Mem→Prop} (hn:args.length≤18) (h:zi Tryz.prog zE9 zFa args M R):CallsM Tryz.prog F.zjb args M R:=zf (kf:=zE8) Tryz.func244 (by kernel_rfl) (by kernel_rfl) hn (by kernel_rfl) h
def zDK (i:Nat):List Nat:=match i with|0=>[2]|1=>[0,3,4,5]|_=>[]
def zDL:RCode := .seq (.ops [mv 2 (.const (.int .u16 0))] [2]) (.seq (.ops [mv 3 (t 0),ca 4 F.zgA [(t 3)],o 5 (.ibin .sub (.const (.int .u16 65535)) (t 4)),mv 2 (t 5)] [0,3,4,5]) (.ret))
def zDM:List zd:=[.tmp 2]
theorem zCd {args:List Value} {M:Mem} {R:Value→Mem→Prop} (hn:args.length≤6) (h:zi Tryz.prog zDL zDM args M R):CallsM Tryz.prog F.znu args M R:=zf (kf:=zDK) Tryz.func245 (by kernel_rfl) (by kernel_rfl) hn (by kernel_rfl) h
end
section
def zFb (i:Nat):List Nat:=match i with|0=>[4]|1=>[5,6]|2=>[0,1,8,9,10,11]|3=>[0,12,13]|_=>[]
def zFc:RCode := .seq (.ops [mv 4 (.const (.int .u32 0))] [4]) (.seq (.seq (.ops [mv 5 (t 0),o 6 (.ibin .and (t 5) (.const (.int .u32 1))),o 7 (.ibin .eql (t 6) (.const (.int .u32 1)))] [5,6]) (.cond (t 7) (.seq (.ops [mv 8 (t 0),o 9 (.ibin .shr (t 8) (.const (.int .u64 1))),mv 10 (t 1),o 11 (.ibin .xor (t 9) (t 10)),mv 4 (t 11)] [0,1,8,9,10,11]) (.ret)) (.skip))) (.seq (.ops [mv 12 (t 0),o 13 (.ibin .shr (t 12) (.const (.int .u64 1))),mv 4 (t 13)] [0,12,13]) (.ret)))
def zFd:List zd:=[.tmp 4]
theorem zDN {args:List Value} {M:Mem} {R:Value→Mem→Prop} (hn:args.length≤14) (h:zi Tryz.prog zFc zFd args M R):CallsM Tryz.prog F.zgz args M R:=zf (kf:=zFb) Tryz.func260 (by kernel_rfl) (by kernel_rfl) hn (by kernel_rfl) h
def zwv (i:Nat):List Nat:=match i with|0=>[2]|3=>[5,6,7]|5=>[11,12,13,14,15,16]|4=>[9,10]|6=>[3,17,18]|_=>[]
def zww:RCode := .seq (.ops [mv 2 (.const (.int .u16 0))] [2]) (.seq (.ops [mv 3 (.const (.int .u32 65535))] []) (.seq (.seq (.ops [mv 4 (k 0)] []) (.block 0 (.loop (.seq (.seq (.ops [mv 5 (t 4),mv 6 (t 0),o 7 (.len (t 6)),o 8 (.ibin .lss (t 5) (t 7))] [5,6,7]) (.cond (t 8) (.skip) (.exit 0))) (.seq (.block 1 (.ops [mv 11 (t 3),mv 12 (t 0),mv 13 (t 4),o 14 (.iaddr 1 (t 12) (t 13)),l1 15 (t 14),ca 16 F.zmd [(t 11),(t 15),(.const (.int .u32 33800))],mv 3 (t 16)] [11,12,13,14,15,16])) (.ops [mv 9 (t 4),ad 10 (t 9) (k 1),mv 4 (t 10)] [9,10])))))) (.seq (.ops [mv 17 (t 3),o 18 (.conv .u16 (t 17)),mv 2 (t 18)] [3,17,18]) (.ret))))
def zwx:List zd:=[.tmp 2]
theorem zu5 {args:List Value} {M:Mem} {R:Value→Mem→Prop} (hn:args.length≤19) (h:zi Tryz.prog zww zwx args M R):CallsM Tryz.prog F.zgA args M R:=zf (kf:=zwv) Tryz.func281 (by kernel_rfl) (by kernel_rfl) hn (by kernel_rfl) h
def zJh (i:Nat):List Nat:=match i with|0=>[6]|1=>[2,10,11]|3=>[0,1,12,13,14,15]|4=>[17]|5=>[7,18,19,20]|6=>[9,22,23,24,25]|7=>[8,26]|_=>[]
def zCe (i:Nat):List Nat:=match i with|0=>[6]|1=>[1,9,10,11,12]|3=>[13]|5=>[17,18]|6=>[19,20]|7=>[8,21]|8=>[23,24,25]|4=>[15,16]|9=>[0,26]|_=>[]
def zCf:RCode := .seq (.ops [mv 6 (.const (.int .u32 0))] [6]) (.seq (.ops [mv 9 (t 0),mv 10 (t 1),o 11 (.conv .u32 (t 10)),o 12 (.ibin .xor (t 9) (t 11)),mv 0 (t 12)] [1,9,10,11,12]) (.seq (.seq (.ops [mv 7 (k 0)] []) (.block 0 (.loop (.seq (.seq (.ops [mv 13 (t 7),o 14 (.ibin .lss (t 13) (k 8))] [13]) (.cond (t 14) (.skip) (.exit 0))) (.seq (.block 1 (.seq (.ops [mv 17 (t 0),o 18 (.ibin .rem (t 17) (.const (.int .u32 2))),mv 8 (t 18)] [17,18]) (.seq (.ops [mv 19 (t 0),o 20 (.ibin .quo (t 19) (.const (.int .u32 2))),mv 0 (t 20)] [19,20]) (.seq (.ops [mv 21 (t 8),o 22 (.ibin .eql (t 21) (.const (.int .u32 1)))] [8,21]) (.cond (t 22) (.ops [mv 23 (t 0),mv 24 (t 2),o 25 (.ibin .xor (t 23) (t 24)),mv 0 (t 25)] [23,24,25]) (.skip)))))) (.ops [mv 15 (t 7),ad 16 (t 15) (k 1),mv 7 (t 16)] [15,16])))))) (.seq (.ops [mv 26 (t 0),mv 6 (t 26)] [0,26]) (.ret))))
def zCg:List zd:=[.tmp 6]
theorem zAL {args:List Value} {M:Mem} {R:Value→Mem→Prop} (hn:args.length≤27) (h:zi Tryz.prog zCf zCg args M R):CallsM Tryz.prog F.zmd args M R:=zf (kf:=zCe) Tryz.func307 (by kernel_rfl) (by kernel_rfl) hn (by kernel_rfl) h
def zAM (i:Nat):List Nat:=match i with|0=>[4]|1=>[1,8,9]|3=>[0,10]|4=>[12]|5=>[5,13,14]|6=>[7,16,17,18,19]|7=>[6,20]|_=>[]
def zAN:RCode := .seq (.ops [mv 4 (.const sn)] [4]) (.seq (.ops [mv 8 (t 1),ca 9 F.zcx [(t 8)],o 5 (.alloc 370 [(.bool false),(.bool false),(.bool false),(.bool false),(.bool false),(.bool false),(.bool false),(.bool false),(.bool false),(.bool false),(.bool false),(.bool false),(.bool false),(.bool false),(.bool false),(.bool false),(.bool false),(.bool false),(.bool false),(.bool false),(.bool false),(.bool false),(.bool false),(.bool false),(.bool false),(.bool false),(.bool false),(.bool false),(.bool false),(.bool false),(.bool false),(.bool false),(.bool false),(.bool false),(.bool false),(.bool false),(.bool false),(.bool false),(.bool false),(.bool false),(.bool false),(.bool false),(.bool false),(.bool false),(.bool false),(.bool false),(.bool false),(.bool false),(.bool false),(.bool false),(.bool false),(.bool false),(.bool false),(.bool false),(.bool false),(.bool false),(.bool false),(.bool false),(.bool false),(.bool false),(.bool false),(.bool false),(.bool false),(.bool false),(.bool false),(.bool false),(.bool false),(.bool false),(.bool false),(.bool false),(.bool false),(.bool false),(.bool false),(.bool false),(.bool false),(.bool false),(.bool false),(.bool false),(.bool false),(.bool false),(.bool false),(.bool false),(.bool false),(.bool false),(.bool false),(.bool false),(.bool false),(.bool false),(.bool false),(.bool false),(.bool false),(.bool false),(.bool false),(.bool false),(.bool false),(.bool false),(.bool false),(.bool false),(.bool false),(.bool false),(.bool false),(.bool false),(.bool false),(.bool false),(.bool false),(.bool false),(.bool false),(.bool false),(.bool false),(.bool false),(.bool false),(.bool false),(.bool false),(.bool false),(.bool false),(.bool false),(.bool false),(.bool false),(.bool false),(.bool false),(.bool false),(.bool false),(.bool false),(.bool false),(.bool false),(.bool false),(.bool false),(.bool false)]),st 128 (t 5) (t 9)] [1,8,9]) (.seq (.ops [o 6 (.alloc 84 [sn])] []) (.seq (.seq (.ops [mv 10 (t 0),ca 11 F.zc2 [(t 10),(k 128)]] [0,10]) (.block 0 (.rfun ((t 11)) [12] (.ops [mv 7 (t 12)] [12]) (.block 1 (.seq (.ops [mv 13 (t 7),o 14 (.iaddrA 128 1 (t 5) (t 13)),l1 15 (t 14)] [5,13,14]) (.cond (t 15) (.ops [l1 16 (t 6),mv 17 (t 7),o 18 (.mkSl true 3 1 [(i 0)] [(0,1,(t 17))]),o 19 (.app 3 1 8 [(i 0)] (t 16) (t 18)),st 1 (t 6) (t 19)] [7,16,17,18,19]) (.skip))))))) (.seq (.ops [l1 20 (t 6),mv 4 (t 20)] [6,20]) (.ret)))))
def zAO:List zd:=[.tmp 4]
theorem zzc {args:List Value} {M:Mem} {R:Value→Mem→Prop} (hn:args.length≤21) (h:zi Tryz.prog zAN zAO args M R):CallsM Tryz.prog F.zkH args M R:=zf (kf:=zAM) Tryz.func314 (by kernel_rfl) (by kernel_rfl) hn (by kernel_rfl) h
end
end Go.Proofs.YtdogcflaekkdkaaGreat
namespace Go.Proofs.YtdogcflaekkdkaaGreat
open Go Go.Vm
@[reducible] def zFe (n:Int):Value := .int .i64 n
@[reducible] def ptr (p:Nat):Value := .pointer (some ⟨p,0,none⟩)
end Go.Proofs.YtdogcflaekkdkaaGreat
namespace Go.Vm
set_option linter.unusedSectionVars false
set_option linter.unusedSimpArgs false
section
variable {κ α:Type} [DecidableEq κ]
def zBD (kv:κ→Value):Prop:=∀ a b,zi1 (kv a) (kv b)=some (decide (a=b))
def zmg (kv:κ→Value) (vv:α→Value) (p:Nat×κ×α):MapEntry:={ key:=kv p.2.1,val:=vv p.2.2,born:=p.1 }
def zHX (kv:κ→Value) (vv:α→Value) (l:List (Nat×κ×α)) (clock:Nat):Obj := .map (l.map (zmg kv vv)).toArray clock
structure zOy (l:List (Nat×κ×α)) (clock:Nat):Prop where
 keys:(l.map (·.2.1)).Nodup
 old:∀ p∈l,p.1<clock
 apart:(l.map (·.1)).Nodup
def zmh:List (κ×α)→κ→Option α
 | [],_=>none
 | (k,x)::r,i=>if k=i then some x else zmh r i
theorem zOq {l:List (κ×α)} (hn:(l.map (·.1)).Nodup) {k:κ} {x:α} (h:(k,x)∈l):zmh l k=some x:=by
 induction l with
 | nil=>cases h
 | cons p r ih=>
  obtain⟨a,y⟩:=p
  simp only[List.map_cons,List.nodup_cons] at hn
  simp only[zmh]
  rcases List.mem_cons.1 h with e|e
  ·cases e;simp
  ·split
   ·rename_i ha;subst ha
    exact absurd (List.mem_map.2 ⟨_,e,rfl⟩) hn.1
   ·exact ih hn.2 e
def bset:List (Nat×κ×α)→κ→α→List (Nat×κ×α)
 | [],_,_=>[]
 | (b,k,y)::r,i,x=>if k=i then (b,i,x)::r else (b,k,y)::bset r i x
def zJi (l:List (Nat×κ×α)) (k:κ):List (Nat×κ×α):=l.filter fun p=>decide (p.2.1≠k)
variable {kv:κ→Value} {vv:α→Value}
theorem zx6 (hk:zBD kv) {k:κ}:∀ {l:List (Nat×κ×α)} (i:Nat),zmh (l.map (·.2)) k=none→kfind (kv k) (l.map (zmg kv vv)) i=some none
 | [],_,_=>rfl
 | (b,a,y)::r,i,h=>by
  simp only[List.map_cons,zmh] at h
  split at h
  ·cases h
  ·rename_i hne
   simp only[List.map_cons,kfind,zmg,hk k a]
   rw[decide_eq_false (fun e=>hne e.symm)]
   exact zx6 hk (i+1) h
theorem zx7 (hk:zBD kv) {k:κ} {x:α}:∀ {l:List (Nat×κ×α)} (i:Nat),zmh (l.map (·.2)) k=some x→∃ j,kfind (kv k) (l.map (zmg kv vv)) i=some (some (i+j,vv x)) ∧
   (∀ y,((l.map (zmg kv vv)).modify j fun e=>{ e with key:=kv k,val:=vv y })=(bset l k y).map (zmg kv vv))∧(∀ (_:(l.map (·.2.1)).Nodup),(l.map (zmg kv vv)).eraseIdx j=(zJi l k).map (zmg kv vv))∧j<l.length
 | [],_,h=>by cases h
 | (b,a,y)::r,i,h=>by
  simp only[List.map_cons,zmh] at h
  split at h
  ·rename_i e;subst e;cases h
   refine⟨0,?_,?_,?_,by simp⟩
   ·simp[kfind,zmg,hk a a]
   ·intro y';simp[zmg,bset]
   ·intro hn
    simp only[List.map_cons,List.nodup_cons] at hn
    have:∀ p∈r,p.2.1≠a:=fun p hp e=>hn.1 (e▸List.mem_map.2 ⟨p,hp,rfl⟩)
    simp only[List.map_cons,List.eraseIdx_cons_zero,zJi,List.filter_cons,ne_eq,not_true_eq_false,decide_false,Bool.false_eq_true,if_false]
    rw[List.filter_eq_self.2]
    intro p hp;simpa using this p hp
  ·rename_i hne
   obtain⟨j,h1,h3,h4,h5⟩:=zx7 hk (i+1) h
   refine⟨j+1,?_,?_,?_,by simp;omega⟩
   ·simp only[List.map_cons,kfind,zmg,hk k a]
    rw[decide_eq_false (fun e=>hne e.symm)]
    simp only
    rw[h1]
    congr 3
    omega
   ·intro y';simp only[List.map_cons,List.modify_succ_cons,bset,if_neg hne];rw[h3]
   ·intro hn
    simp only[List.map_cons,List.nodup_cons] at hn
    simp only[List.map_cons,List.eraseIdx_cons_succ]
    rw[h4 hn.2]
    simp[zJi,List.filter_cons,hne]
def MapAt (kv:κ→Value) (vv:α→Value) (M:Mem) (b:Nat) (m:List (κ×α)):Prop:=∃ l clock,M b=some (zHX kv vv l clock)∧zOy l clock∧l.map (·.2)=m
theorem MapAt.get {M:Mem} {b:Nat} {m:List (κ×α)} (h:MapAt kv vv M b m) (hk:zBD kv) (k:κ) {K:Option (Nat×Value)→Prop} (h0:zmh m k=none→K none) (h1:∀ x i,zmh m k=some x→K (some (i,vv x))) :
  onO (M.mapAt b) fun p=>onO (kfind (kv k) p.1.toList 0) K:=by
 obtain⟨l,c,hM,_,rfl⟩:=h
 simp only[Mem.mapAt,hM,zHX,onO]
 cases hg:zmh (l.map (·.2)) k with
 | none=>simp only[zx6 hk 0 hg];exact h0 hg
 | some x=>
  obtain⟨j,hj,_⟩:=zx7 (vv:=vv) hk 0 hg
  simp only[hj];exact h1 x _ hg
end
end Go.Vm
namespace Go.Vm
end Go.Vm
namespace Go.Vm
section
variable {κ α:Type} {kv:κ→Value} {vv:α→Value}
end
end Go.Vm
namespace Go.Vm
end Go.Vm
namespace Go.Vm
theorem CallsM.frame {P:Program} {f:Nat} {args:List Value} {A M:Mem} {R:Value→Mem→Prop} (h:CallsM P f args A R) (hA:A.le M) :
  CallsM P f args M fun v M'=>∃ A',R v A'∧A'.le M'∧∀ x o,A x=none→M x=some o→M' x=some o∧A' x=none:=by
 refine⟨h.1,fun F w hM hF hdj=>?_⟩
 obtain⟨F',hF'⟩:∃ F':Mem,F'=fun x=>if A x=none then (if M x=none then F x else M x) else none:=⟨_,rfl⟩
 have hFF:F.le F':=fun x o hx=>by
  have hMx:M x=none:=(hdj x).resolve_right (by rw[hx];simp)
  have hAx:A x=none:=by
   cases e:A x with
   | none=>rfl
   | some y=>rw[hA x y e] at hMx;cases hMx
  rw[hF'];dsimp only;rw[if_pos hAx,if_pos hMx];exact hx
 have hF'w:F'.le (zk w):=fun x o hx=>by
  rw[hF'] at hx;dsimp only at hx
  split at hx
  ·split at hx
   ·exact hF x o hx
   ·exact hM x o hx
  ·cases hx
 have hdj':A.disj F':=fun x=>by
  by_cases e:A x=none
  ·exact .inl e
  ·right;rw[hF'];dsimp only;rw[if_neg e]
 refine(h.2 F' w (fun x o hx=>hM x o (hA x o hx)) hF'w hdj').mono ?_
 rintro e w' ⟨v,A',he,hR,hA',hFw',hdA,hrest⟩
 have hin:∀ x o,A x=none→M x=some o→F' x=some o:=fun x o h1 h2=>by
  rw[hF'];dsimp only;rw[if_pos h1,if_neg (by rw[h2];simp)];exact h2
 obtain⟨M',hM'⟩:∃ M':Mem,M'=fun x=>if A' x=none then (if A x=none then M x else none) else A' x:=⟨_,rfl⟩
 refine⟨v,M',he,⟨A',hR,fun x o hx=>by rw[hM'];dsimp only;rw[if_neg (by rw[hx];simp)];exact hx,fun x o h1 h2=>?_⟩,fun x o hx=>?_,fun x o hx=>hFw' x o (hFF x o hx),fun x=>?_,hrest⟩
 ·have:=hin x o h1 h2
  have hn:A' x=none:=(hdA x).resolve_right (by rw[this];simp)
  exact⟨by rw[hM'];dsimp only;rw[if_pos hn,if_pos h1];exact h2,hn⟩
 ·rw[hM'] at hx;dsimp only at hx
  split at hx
  ·split at hx
   ·exact hFw' x o (hin x o ‹_› hx)
   ·cases hx
  ·exact hA' x o hx
 ·cases e:F x with
  | none=>exact .inr rfl
  | some o=>
   left
   have hFx:=hFF x o e
   have hn:A' x=none:=(hdA x).resolve_right (by rw[hFx];simp)
   have hMx:M x=none:=(hdj x).resolve_right (by rw[e];simp)
   rw[hM'];dsimp only;rw[if_pos hn];split
   ·exact hMx
   ·rfl
end Go.Vm
namespace Go.Vm
end Go.Vm
namespace Go.Vm
open Go.RowKit
theorem WLe.refl (W:World):WLe W W:=⟨rfl,rfl,rfl,Nat.le_refl _,Nat.le_refl _,fun _ _ h=>h⟩
theorem CallsM.world {P:Program} {f:Nat} {args:List Value} {M:Mem} {R:Value→Mem→Prop} (h:CallsM P f args M R) {w:World} (hM:M.le (zk w)) (hR:∀ v M',R v M'→M.le M') :
  Calls P f args.toArray w fun e w'=>∃ v M',e = .returned v∧R v M'∧M'.le (zk w')∧WLe w w'∧∀ b,M b=none→M' b≠none→w.heap.size≤b:=by
 obtain⟨F,hF⟩:∃ F:Mem,F=fun b=>if M b=none then zk w b else none:=⟨_,rfl⟩
 refine(h.2 F w hM (fun b o hb=>?_) (fun b=>?_)).mono ?_
 ·rw[hF] at hb;dsimp only at hb
  split at hb
  ·exact hb
  ·cases hb
 ·by_cases e:M b=none
  ·exact .inl e
  ·right;rw[hF];dsimp only;rw[if_neg e]
 ·rintro e w' ⟨v,M',he,hr,hM',hF',hdj,h1,h2,h3,h4,h5⟩
  refine⟨v,M',he,hr,hM',⟨h1,h2,h3,h5,h4,fun k o hk=>?_⟩,fun b hb hb'=>?_⟩
  ·by_cases e:M k=none
   ·exact hF' k o (by rw[hF];dsimp only;rw[if_pos e];exact hk)
   ·obtain⟨z,hz⟩:=Option.ne_none_iff_exists'.1 e
    have h6:=hM k z hz
    have:o=z:=Option.some.inj (hk.symm.trans h6)
    subst this
    exact hM' k o (hR v M' hr k o hz)
  ·have h6:=(hdj b).resolve_left hb'
   rw[hF] at h6
   dsimp only at h6
   rw[if_pos hb] at h6
   apply Classical.byContradiction
   intro hlt
   have:w.heap[b]? = none:=h6
   rw[Array.getElem?_eq_none_iff] at this
   exact hlt this
theorem zHY {P:Program} {asg body:(Exit→St→Prop)→St→Prop} {ps:List Nat} {gf:Nat} {lb:List Value} {Q:Exit→St→Prop} {fr:List (Nat×SV)} {bx:List BE} {M:Mem} {α:Type} {encs:α→List Value} {A:Mem} {N:Nat} {PM:α→Mem→Prop} {D:List α→Prop}
  (hit:zER P gf lb encs A N PM D) (hen:znK P gf=true) (hbx:bx.all zLw=true) (hA:A.le M) (hlen:∀ x,(encs x).length=ps.length) (I:List α→Mem→Prop) (M0:Mem) (hM0:M0.le M) (hAM:∀ b,A b≠none→M0 b=none) (hI:I [] M0)
  (hround:∀ pre x M Mx M1,I pre M→pre.length<N→PM x Mx→(∀ b,Mx b≠none→M b=none∧A b=none)→M.le M1→Mx.le M1 →
   asg (fun e t=>e = .normal∧body (fun e t'=>e = .normal∧∃ M2,I (pre++[x]) M2∧M2.le t'.M) t) ⟨zES ps (encs x) fr,bx,M1⟩)
  (hdone:∀ xs M M1,D xs→I xs M→(∀ b,A b≠none→M b=none)→M.le M1→A.le M1→Q .normal ⟨fr,bx,M1⟩):zEj P asg body ps gf lb Q ⟨fr,bx,M⟩:=
 ⟨hen,hbx,α,encs,A,N,PM,D,I,hit,hA,hlen,⟨M0,hM0,hAM,hI⟩,hround,hdone⟩
end Go.Vm
