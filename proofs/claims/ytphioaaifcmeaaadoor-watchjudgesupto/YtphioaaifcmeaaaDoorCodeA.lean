/- The resolved texts of the functions; made by program. -/
import Derived.Test.YtphioaaifcmeaaaDoorNames
namespace Go.Proofs.YtphioaaifcmeaaaDoor
open Go.Vm Go.Vm.S
/-- portage/portagelaw24.WatchJudges -/
def k_law24_WatchJudges (i : Nat) : List Nat := match i with | 0 => [4] | 1 => [6, 7, 8, 9, 10, 11, 12] | 2 => [14] | 3 => [15, 16, 17] | 4 => [0, 1, 5, 18, 19, 20, 21, 22, 23, 24, 25, 26, 27, 28, 29, 30, 31, 32, 33] | _ => []
def c_law24_WatchJudges : RCode :=
 .seq (.ops [mv 4 (kb false)] [4])
 (.seq (.seq (.ops [mv 6 (t 1),
 o 7 (.len (t 6)),
 o 8 (.ibin .gtr (t 7) (k 60)),
 os 9 (.mov (t 8)),
 gf 9 10 (.mov (t 0)),
 gf 9 11 (.len (t 10)),
 gf 9 12 (.ibin .gtr (t 11) (k 300)),
 o 13 (.pick (t 9) (kb true) (t 12))] [6, 7, 8, 9, 10, 11, 12])
 (.cond (t 13)
  (.seq (.ops [ca 14 F.law24_awake [],
  mv 4 (t 14)] [14])
  (.ret))
  (.skip)))
 (.seq (.ops [mv 15 (t 0),
 mv 16 (t 1),
 ca 17 F.watch_Judge [(t 15), (t 16)],
 mv 5 (t 17)] [15, 16, 17])
 (.seq (.ops [mv 18 (t 5),
 mv 19 (t 0),
 mv 20 (t 1),
 ca 21 F.ref24_Judge [(t 19), (t 20)],
 ca 22 F.ref24_Same [(t 18), (t 21)],
 os 23 (.mov (t 22)),
 gt 23 24 (.mov (t 5)),
 gt 23 25 (.call (fn F.watch_Right) [(t 24)]),
 gt 23 26 (.mov (t 5)),
 gt 23 27 (.len (t 26)),
 gt 23 28 (.ibin .eql (t 27) (k 0)),
 gt 23 29 (.bbin .eql (t 25) (t 28)),
 o 30 (.pick (t 23) (t 29) (kb false)),
 os 31 (.mov (t 30)),
 gt 31 32 (.call (fn F.law24_awake) []),
 o 33 (.pick (t 31) (t 32) (kb false)),
 mv 4 (t 33)] [0, 1, 5, 18, 19, 20, 21, 22, 23, 24, 25, 26, 27, 28, 29, 30, 31, 32, 33])
 (.ret))))
def r_law24_WatchJudges : List RRes := [.tmp 4]
theorem fo_law24_WatchJudges {args : List Value} {M : Mem} {R : Value → Mem → Prop} (hn : args.length ≤ 34) (h : vfn Tryd.prog c_law24_WatchJudges r_law24_WatchJudges args M R) : CallsM Tryd.prog F.law24_WatchJudges args M R :=
  fn_ok (kf := k_law24_WatchJudges) Tryd.func3 (by kernel_rfl) (by kernel_rfl) hn (by kernel_rfl) h
/-- portage/portagelaw24.WatchTexts -/
def k_law24_WatchTexts (i : Nat) : List Nat := match i with | 0 => [0, 2] | 1 => [1, 3, 4, 5, 6, 7, 8, 9, 10] | _ => []
def c_law24_WatchTexts : RCode :=
 .seq (.ops [o 1 (.box 33 (t 0)),
 mv 2 (kb false)] [0, 2])
 (.seq (.draw (.take (la 3 6 (t 1)) (.take (la 5 6 (t 1)) (.alt (ca 4 F.watch_Text [(t 3)]) true
  (.alt (ca 6 F.ref24_Text [(t 5)]) false
   (.take (o 7 (.strE .eql (t 4) (t 6))) (.take (os 8 (.mov (t 7))) (.alt (gt 8 9 (.call (fn F.law24_awake) [])) false
    (.take (o 10 (.pick (t 8) (t 9) (kb false))) (.take (mv 2 (t 10)) (.done)))
    (.none))))
   (.none))
  (.none)))) [1, 3, 4, 5, 6, 7, 8, 9, 10])
 (.ret))
def r_law24_WatchTexts : List RRes := [.tmp 2]
theorem fo_law24_WatchTexts {args : List Value} {M : Mem} {R : Value → Mem → Prop} (hn : args.length ≤ 11) (h : vfn Tryd.prog c_law24_WatchTexts r_law24_WatchTexts args M R) : CallsM Tryd.prog F.law24_WatchTexts args M R :=
  fn_ok (kf := k_law24_WatchTexts) Tryd.func4 (by kernel_rfl) (by kernel_rfl) hn (by kernel_rfl) h
/-- portage/portagelaw24.awake -/
def k_law24_awake (i : Nat) : List Nat := match i with | 0 => [0] | 1 => [5] | 2 => [6, 7, 8, 9] | 3 => [10, 11, 12, 13] | 4 => [2, 3, 14, 15, 16, 17, 18] | 5 => [1, 4, 19, 20, 21, 22, 23, 24, 25, 26, 27, 28, 29, 30, 31, 32, 33, 34, 35, 36, 37, 38, 39, 40, 41, 42, 43, 44] | _ => []
def c_law24_awake : RCode :=
 .seq (.ops [mv 0 (kb false)] [0])
 (.seq (.ops [o 5 (.build [(i 0), (i 0), (i 0), (i 0)] [(1, 1, (k 1)), (2, 1, (k 1)), (3, 1, (k 1))]),
 o 1 (.alloc 31 [(i 0), (i 0), (i 0), (i 0)]),
 st 4 (t 1) (t 5)] [5])
 (.seq (.ops [o 6 (.mkSl false 5 1 [(u 0)] [(0, 1, (.const (u 120)))]),
 o 7 (.strish (t 6)),
 o 8 (.build [(i 0), (i 0), (i 0), (i 0), sn] [(0, 1, (k 1)), (2, 1, (k 1)), (4, 1, (t 7))]),
 o 9 (.mkSl false 38 1 [(i 0), (i 0), (i 0), (i 0), sn] [(0, 5, (t 8))]),
 mv 2 (t 9)] [6, 7, 8, 9])
 (.seq (.ops [la 10 4 (t 1),
 o 11 (.mkSl false 5 1 [(u 0)] [(0, 1, (.const (u 120)))]),
 o 12 (.strish (t 11)),
 o 13 (.build [(i 0), (i 0), (i 0), (i 0), (i 0), (i 0), (i 0), sn, (.bool false)] [(1, 1, (k 1)), (2, 4, (t 10)), (7, 1, (t 12)), (8, 1, (kb true))]),
 o 3 (.alloc 41 [(i 0), (i 0), (i 0), (i 0), (i 0), (i 0), (i 0), sn, (.bool false)]),
 st 9 (t 3) (t 13)] [10, 11, 12, 13])
 (.seq (.ops [mv 14 (t 2),
 la 15 9 (t 3),
 la 16 9 (t 3),
 o 17 (.mkSl false 41 2 [(i 0), (i 0), (i 0), (i 0), (i 0), (i 0), (i 0), sn, (.bool false), (i 0), (i 0), (i 0), (i 0), (i 0), (i 0), (i 0), sn, (.bool false)] [(0, 9, (t 15)), (9, 9, (t 16))]),
 ca 18 F.watch_Judge [(t 14), (t 17)],
 mv 4 (t 18)] [2, 3, 14, 15, 16, 17, 18])
 (.seq (.draw (.take (mv 19 (t 4)) (.take (o 20 (.len (t 19))) (.take (o 21 (.ibin .eql (t 20) (k 1))) (.take (os 22 (.mov (t 21))) (.take (gt 22 23 (.mov (t 4))) (.take (gt 22 24 (.iaddr 6 (t 23) (k 0))) (.take (gt 22 25 (.load true 6 (t 24))) (.take (gt 22 26 (.load true 4 (t 1))) (.take (gt 22 27 (.build [(i 0), (i 0), (i 0), (i 0), (i 0), (i 0)] [(0, 1, (k 1)), (1, 1, (k 1)), (2, 4, (t 26))])) (.take (gt 22 28 (.aeq .eql 6 (t 25) (t 27))) (.take (o 29 (.pick (t 22) (t 28) (kb false))) (.take (os 30 (.mov (t 29))) (.take (gt 30 31 (.mov (t 4))) (.take (gt 30 32 (.iaddr 6 (t 31) (k 0))) (.take (gt 30 33 (.load true 6 (t 32))) (.alt (gt 30 34 (.call (fn F.watch_Text) [(t 33)])) false
  (.take (gt 30 35 (.strE .eql (t 34) (.const (.string ⟨#[116, 119, 105, 99, 101, 32, 49, 32, 48, 62, 49, 58, 49, 46, 49]⟩)))) (.take (o 36 (.pick (t 30) (t 35) (kb false))) (.take (os 37 (.mov (t 36))) (.take (gt 37 38 (.mov (t 4))) (.alt (gt 37 39 (.call (fn F.watch_Right) [(t 38)])) true
   (.take (gt 37 40 (.not (t 39))) (.take (o 41 (.pick (t 37) (t 40) (kb false))) (.take (os 42 (.mov (t 41))) (.alt (gt 42 43 (.call (fn F.watch_Right) [(.const sn)])) true
    (.take (o 44 (.pick (t 42) (t 43) (kb false))) (.take (mv 0 (t 44)) (.done)))
    (.none)))))
   (.none))))))
  (.none))))))))))))))))) [1, 4, 19, 20, 21, 22, 23, 24, 25, 26, 27, 28, 29, 30, 31, 32, 33, 34, 35, 36, 37, 38, 39, 40, 41, 42, 43, 44])
 (.ret))))))
def r_law24_awake : List RRes := [.tmp 0]
theorem fo_law24_awake {args : List Value} {M : Mem} {R : Value → Mem → Prop} (hn : args.length ≤ 45) (h : vfn Tryd.prog c_law24_awake r_law24_awake args M R) : CallsM Tryd.prog F.law24_awake args M R :=
  fn_ok (kf := k_law24_awake) Tryd.func5 (by kernel_rfl) (by kernel_rfl) hn (by kernel_rfl) h
/-- portage/watch.Judge -/
def k_watch_Judge (i : Nat) : List Nat := match i with | 0 => [4] | 4 => [13, 14, 15] | 5 => [16] | 6 => [17] | 7 => [19, 20, 21, 22, 23, 24, 25, 26] | 8 => [27, 28, 29, 30, 31, 32, 33, 34] | 9 => [35, 36, 37, 38, 39] | 10 => [6, 7, 8, 40, 41, 42, 43, 44, 45, 46, 47, 48, 49, 50, 51, 52, 53, 54, 55, 56, 57] | 11 => [58] | 12 => [5, 59] | _ => []
def c_watch_Judge : RCode :=
 .seq (.ops [mv 4 (.const sn)] [4])
 (.seq (.ops [o 5 (.alloc 25 [sn])] [])
 (.seq (.seq (.ops [mv 9 (t 1),
 o 10 (.len (t 9)),
 mv 11 (k 0)] [])
 (.block 0 (.loop (.seq (.ops [o 12 (.ibin .lss (t 11) (t 10))] [])
  (.seq (.cond (t 12)
   (.skip)
   (.exit 0))
  (.seq (.block 1 (.seq (.ops [mv 13 (t 11),
  o 14 (.iaddr 9 (t 9) (t 11)),
  la 15 9 (t 14),
  o 6 (.alloc 3 [(i 0)]),
  o 7 (.alloc 41 [(i 0), (i 0), (i 0), (i 0), (i 0), (i 0), (i 0), sn, (.bool false)]),
  st 1 (t 6) (t 13),
  st 9 (t 7) (t 15)] [13, 14, 15])
  (.seq (.ops [o 16 (.mkfn F.watch_Judge_1 [(t 5), (t 6), (t 7)]),
  mv 8 (t 16)] [16])
  (.seq (.seq (.ops [fa 17 8 (t 7),
  l1 18 (t 17)] [17])
  (.cond (t 18)
   (.seq (.draw (.take (mv 19 (t 8)) (.take (mv 20 (t 1)) (.take (l1 21 (t 6)) (.take (o 22 (.slx 9 (t 20) none (some (t 21)))) (.take (fa 23 2 (t 7)) (.take (la 24 4 (t 23)) (.alt (ca 25 F.watch_twice [(t 22), (t 24)]) false
    (.alt (o 26 (.call (t 19) [(k 1), (t 25)])) false
     (.done)
     (.none))
    (.none)))))))) [19, 20, 21, 22, 23, 24, 25, 26])
   (.seq (.ops [mv 27 (t 8),
   fa 28 1 (t 7),
   l1 29 (t 28),
   fa 30 2 (t 7),
   fa 31 1 (t 30),
   l1 32 (t 31),
   o 33 (.ibin .neq (t 29) (t 32)),
   o 34 (.call (t 27) [(k 2), (t 33)])] [27, 28, 29, 30, 31, 32, 33, 34])
   (.ops [mv 35 (t 8),
   mv 36 (t 0),
   la 37 9 (t 7),
   ca 38 F.watch_strange [(t 36), (t 37)],
   o 39 (.call (t 35) [(k 3), (t 38)])] [35, 36, 37, 38, 39])))
   (.skip)))
  (.draw (.take (mv 40 (t 8)) (.take (fa 41 8 (t 7)) (.take (l1 42 (t 41)) (.take (o 43 (.not (t 42))) (.take (os 44 (.mov (t 43))) (.take (gt 44 45 (.faddr 6 (t 7))) (.take (gt 44 46 (.load false 1 (t 45))) (.take (gt 44 47 (.ibin .eql (t 46) (k 0))) (.take (o 48 (.pick (t 44) (t 47) (kb false))) (.take (os 49 (.mov (t 48))) (.take (gt 49 50 (.mov (t 1))) (.take (gt 49 51 (.load false 1 (t 6))) (.take (gt 49 52 (.slx 9 (t 50) none (some (t 51)))) (.take (gt 49 53 (.faddr 2 (t 7))) (.take (gt 49 54 (.load true 4 (t 53))) (.alt (gt 49 55 (.call (fn F.watch_again) [(t 52), (t 54)])) false
   (.take (o 56 (.pick (t 49) (t 55) (kb false))) (.alt (o 57 (.call (t 40) [(k 4), (t 56)])) false
    (.done)
    (.none)))
   (.none))))))))))))))))) [6, 7, 8, 40, 41, 42, 43, 44, 45, 46, 47, 48, 49, 50, 51, 52, 53, 54, 55, 56, 57])))))
  (.ops [ad 58 (t 11) (k 1),
  mv 11 (t 58)] [58])))))))
 (.seq (.ops [l1 59 (t 5),
 mv 4 (t 59)] [5, 59])
 (.ret))))
def r_watch_Judge : List RRes := [.tmp 4]
theorem fo_watch_Judge {args : List Value} {M : Mem} {R : Value → Mem → Prop} (hn : args.length ≤ 60) (h : vfn Tryd.prog c_watch_Judge r_watch_Judge args M R) : CallsM Tryd.prog F.watch_Judge args M R :=
  fn_ok (kf := k_watch_Judge) Tryd.func6 (by kernel_rfl) (by kernel_rfl) hn (by kernel_rfl) h
/-- portage/portageref24.Same -/
def k_ref24_Same (i : Nat) : List Nat := match i with | 0 => [4] | 1 => [6, 7, 8, 9] | 4 => [11, 12, 13] | 6 => [17, 18, 19, 20, 21, 22, 23, 24] | 5 => [15, 16] | _ => []
def c_ref24_Same : RCode :=
 .seq (.ops [mv 4 (kb false)] [4])
 (.seq (.seq (.ops [mv 6 (t 0),
 o 7 (.len (t 6)),
 mv 8 (t 1),
 o 9 (.len (t 8)),
 o 10 (.ibin .neq (t 7) (t 9))] [6, 7, 8, 9])
 (.cond (t 10)
  (.seq (.ops [mv 4 (kb false)] [])
  (.ret))
  (.skip)))
 (.seq (.seq (.ops [mv 5 (k 0)] [])
 (.block 0 (.loop (.seq (.seq (.ops [mv 11 (t 5),
  mv 12 (t 0),
  o 13 (.len (t 12)),
  o 14 (.ibin .lss (t 11) (t 13))] [11, 12, 13])
  (.cond (t 14)
   (.skip)
   (.exit 0)))
  (.seq (.block 1 (.seq (.draw (.take (mv 17 (t 0)) (.take (mv 18 (t 5)) (.take (o 19 (.iaddr 6 (t 17) (t 18))) (.take (la 20 6 (t 19)) (.take (mv 21 (t 1)) (.take (mv 22 (t 5)) (.take (o 23 (.iaddr 6 (t 21) (t 22))) (.take (la 24 6 (t 23)) (.take (o 25 (.aeq .neq 6 (t 20) (t 24))) (.done)))))))))) [17, 18, 19, 20, 21, 22, 23, 24])
  (.cond (t 25)
   (.seq (.ops [mv 4 (kb false)] [])
   (.ret))
   (.skip))))
  (.ops [mv 15 (t 5),
  ad 16 (t 15) (k 1),
  mv 5 (t 16)] [15, 16]))))))
 (.seq (.ops [mv 4 (kb true)] [])
 (.ret))))
def r_ref24_Same : List RRes := [.tmp 4]
theorem fo_ref24_Same {args : List Value} {M : Mem} {R : Value → Mem → Prop} (hn : args.length ≤ 26) (h : vfn Tryd.prog c_ref24_Same r_ref24_Same args M R) : CallsM Tryd.prog F.ref24_Same args M R :=
  fn_ok (kf := k_ref24_Same) Tryd.func7 (by kernel_rfl) (by kernel_rfl) hn (by kernel_rfl) h
/-- portage/portageref24.Judge -/
def k_ref24_Judge (i : Nat) : List Nat := match i with | 0 => [4] | 1 => [8] | 3 => [9, 10, 11] | 5 => [15, 16, 17, 18] | 6 => [19, 20, 21, 22, 23, 24] | 7 => [26, 27, 28, 29, 30, 31, 32] | 8 => [33, 34, 35, 36, 37, 38, 39, 40, 41] | 9 => [43, 44, 45, 46, 47, 48, 49] | 10 => [50, 51, 52, 53, 54, 55, 56] | 11 => [58, 59, 60, 61, 62, 63, 64] | 12 => [65, 66, 67, 68, 69, 70, 71, 72, 73, 74, 75, 76] | 13 => [7, 78, 79, 80, 81, 82, 83, 84] | 4 => [13, 14] | 14 => [5, 85] | _ => []
def c_ref24_Judge : RCode :=
 .seq (.ops [mv 4 (.const sn)] [4])
 (.seq (.ops [o 8 (.mkSl false 33 0 [] []),
 mv 5 (t 8)] [8])
 (.seq (.seq (.ops [mv 6 (k 0)] [])
 (.block 0 (.loop (.seq (.seq (.ops [mv 9 (t 6),
  mv 10 (t 1),
  o 11 (.len (t 10)),
  o 12 (.ibin .lss (t 9) (t 11))] [9, 10, 11])
  (.cond (t 12)
   (.skip)
   (.exit 0)))
  (.seq (.block 1 (.seq (.ops [mv 15 (t 1),
  mv 16 (t 6),
  o 17 (.iaddr 9 (t 15) (t 16)),
  la 18 9 (t 17),
  o 7 (.alloc 41 [(i 0), (i 0), (i 0), (i 0), (i 0), (i 0), (i 0), sn, (.bool false)]),
  st 9 (t 7) (t 18)] [15, 16, 17, 18])
  (.seq (.seq (.ops [fa 19 8 (t 7),
  l1 20 (t 19),
  os 21 (.mov (t 20)),
  gt 21 22 (.mov (t 1)),
  gt 21 23 (.mov (t 6)),
  gt 21 24 (.call (fn F.ref24_twice) [(t 22), (t 23)]),
  o 25 (.pick (t 21) (t 24) (kb false))] [19, 20, 21, 22, 23, 24])
  (.cond (t 25)
   (.ops [mv 26 (t 5),
   mv 27 (t 6),
   fa 28 2 (t 7),
   la 29 4 (t 28),
   o 30 (.build [(i 0), (i 0), (i 0), (i 0), (i 0), (i 0)] [(0, 1, (k 1)), (1, 1, (t 27)), (2, 4, (t 29))]),
   o 31 (.mkSl true 33 1 [(i 0), (i 0), (i 0), (i 0), (i 0), (i 0)] [(0, 6, (t 30))]),
   o 32 (.app 33 6 48 [(i 0), (i 0), (i 0), (i 0), (i 0), (i 0)] (t 26) (t 31)),
   mv 5 (t 32)] [26, 27, 28, 29, 30, 31, 32])
   (.skip)))
  (.seq (.seq (.ops [fa 33 8 (t 7),
  l1 34 (t 33),
  os 35 (.mov (t 34)),
  gt 35 36 (.faddr 1 (t 7)),
  gt 35 37 (.load false 1 (t 36)),
  gt 35 38 (.faddr 2 (t 7)),
  gt 35 39 (.faddr 1 (t 38)),
  gt 35 40 (.load false 1 (t 39)),
  gt 35 41 (.ibin .neq (t 37) (t 40)),
  o 42 (.pick (t 35) (t 41) (kb false))] [33, 34, 35, 36, 37, 38, 39, 40, 41])
  (.cond (t 42)
   (.ops [mv 43 (t 5),
   mv 44 (t 6),
   fa 45 2 (t 7),
   la 46 4 (t 45),
   o 47 (.build [(i 0), (i 0), (i 0), (i 0), (i 0), (i 0)] [(0, 1, (k 2)), (1, 1, (t 44)), (2, 4, (t 46))]),
   o 48 (.mkSl true 33 1 [(i 0), (i 0), (i 0), (i 0), (i 0), (i 0)] [(0, 6, (t 47))]),
   o 49 (.app 33 6 48 [(i 0), (i 0), (i 0), (i 0), (i 0), (i 0)] (t 43) (t 48)),
   mv 5 (t 49)] [43, 44, 45, 46, 47, 48, 49])
   (.skip)))
  (.seq (.seq (.ops [fa 50 8 (t 7),
  l1 51 (t 50),
  os 52 (.mov (t 51)),
  gt 52 53 (.mov (t 0)),
  gt 52 54 (.load true 9 (t 7)),
  gt 52 55 (.call (fn F.ref24_given) [(t 53), (t 54)]),
  gt 52 56 (.not (t 55)),
  o 57 (.pick (t 52) (t 56) (kb false))] [50, 51, 52, 53, 54, 55, 56])
  (.cond (t 57)
   (.ops [mv 58 (t 5),
   mv 59 (t 6),
   fa 60 2 (t 7),
   la 61 4 (t 60),
   o 62 (.build [(i 0), (i 0), (i 0), (i 0), (i 0), (i 0)] [(0, 1, (k 3)), (1, 1, (t 59)), (2, 4, (t 61))]),
   o 63 (.mkSl true 33 1 [(i 0), (i 0), (i 0), (i 0), (i 0), (i 0)] [(0, 6, (t 62))]),
   o 64 (.app 33 6 48 [(i 0), (i 0), (i 0), (i 0), (i 0), (i 0)] (t 58) (t 63)),
   mv 5 (t 64)] [58, 59, 60, 61, 62, 63, 64])
   (.skip)))
  (.seq (.ops [fa 65 8 (t 7),
  l1 66 (t 65),
  o 67 (.not (t 66)),
  os 68 (.mov (t 67)),
  gt 68 69 (.faddr 6 (t 7)),
  gt 68 70 (.load false 1 (t 69)),
  gt 68 71 (.ibin .eql (t 70) (k 0)),
  o 72 (.pick (t 68) (t 71) (kb false)),
  os 73 (.mov (t 72)),
  gt 73 74 (.mov (t 1)),
  gt 73 75 (.mov (t 6)),
  gt 73 76 (.call (fn F.ref24_again) [(t 74), (t 75)]),
  o 77 (.pick (t 73) (t 76) (kb false))] [65, 66, 67, 68, 69, 70, 71, 72, 73, 74, 75, 76])
  (.cond (t 77)
   (.ops [mv 78 (t 5),
   mv 79 (t 6),
   fa 80 2 (t 7),
   la 81 4 (t 80),
   o 82 (.build [(i 0), (i 0), (i 0), (i 0), (i 0), (i 0)] [(0, 1, (k 4)), (1, 1, (t 79)), (2, 4, (t 81))]),
   o 83 (.mkSl true 33 1 [(i 0), (i 0), (i 0), (i 0), (i 0), (i 0)] [(0, 6, (t 82))]),
   o 84 (.app 33 6 48 [(i 0), (i 0), (i 0), (i 0), (i 0), (i 0)] (t 78) (t 83)),
   mv 5 (t 84)] [7, 78, 79, 80, 81, 82, 83, 84])
   (.skip))))))))
  (.ops [mv 13 (t 6),
  ad 14 (t 13) (k 1),
  mv 6 (t 14)] [13, 14]))))))
 (.seq (.ops [mv 85 (t 5),
 mv 4 (t 85)] [5, 85])
 (.ret))))
def r_ref24_Judge : List RRes := [.tmp 4]
theorem fo_ref24_Judge {args : List Value} {M : Mem} {R : Value → Mem → Prop} (hn : args.length ≤ 86) (h : vfn Tryd.prog c_ref24_Judge r_ref24_Judge args M R) : CallsM Tryd.prog F.ref24_Judge args M R :=
  fn_ok (kf := k_ref24_Judge) Tryd.func8 (by kernel_rfl) (by kernel_rfl) hn (by kernel_rfl) h
/-- portage/watch.Right -/
def k_watch_Right (i : Nat) : List Nat := match i with | 0 => [2] | 1 => [0, 3, 4, 5] | _ => []
def c_watch_Right : RCode :=
 .seq (.ops [mv 2 (kb false)] [2])
 (.seq (.ops [mv 3 (t 0),
 o 4 (.len (t 3)),
 o 5 (.ibin .eql (t 4) (k 0)),
 mv 2 (t 5)] [0, 3, 4, 5])
 (.ret))
def r_watch_Right : List RRes := [.tmp 2]
theorem fo_watch_Right {args : List Value} {M : Mem} {R : Value → Mem → Prop} (hn : args.length ≤ 6) (h : vfn Tryd.prog c_watch_Right r_watch_Right args M R) : CallsM Tryd.prog F.watch_Right args M R :=
  fn_ok (kf := k_watch_Right) Tryd.func9 (by kernel_rfl) (by kernel_rfl) hn (by kernel_rfl) h
/-- portage/watch.Text -/
def k_watch_Text (i : Nat) : List Nat := match i with | 0 => [0, 2] | 1 => [7] | 2 => [8, 9, 10, 11, 12, 13, 14] | 4 => [3, 16, 17, 18, 19] | 5 => [20, 21] | 6 => [23, 24, 25, 26, 27, 28] | 7 => [1, 29, 30, 31, 32, 33, 34] | 8 => [6, 35] | 10 => [4, 5, 37, 38, 39, 40] | _ => []
def c_watch_Text : RCode :=
 .seq (.ops [o 1 (.box 33 (t 0)),
 mv 2 (.const (.string ByteArray.empty))] [0, 2])
 (.seq (.ops [o 7 (.build [(.string ByteArray.empty), (.string ByteArray.empty), (.string ByteArray.empty), (.string ByteArray.empty), (.string ByteArray.empty), (.string ByteArray.empty)] [(0, 1, (.const (.string ByteArray.empty))), (1, 1, (.const (.string ⟨#[116, 119, 105, 99, 101]⟩))), (2, 1, (.const (.string ⟨#[119, 104, 101, 114, 101]⟩))), (3, 1, (.const (.string ⟨#[115, 116, 114, 97, 110, 103, 101]⟩))), (4, 1, (.const (.string ⟨#[97, 103, 97, 105, 110]⟩))), (5, 1, (.const (.string ⟨#[108, 111, 115, 116]⟩)))]),
 o 3 (.alloc 46 [(.string ByteArray.empty), (.string ByteArray.empty), (.string ByteArray.empty), (.string ByteArray.empty), (.string ByteArray.empty), (.string ByteArray.empty)]),
 st 6 (t 3) (t 7)] [7])
 (.seq (.seq (.ops [fa 8 0 (t 1),
 l1 9 (t 8),
 o 10 (.ibin .lss (t 9) (k 1)),
 os 11 (.mov (t 10)),
 gf 11 12 (.faddr 0 (t 1)),
 gf 11 13 (.load false 1 (t 12)),
 gf 11 14 (.ibin .geq (t 13) (k 6)),
 o 15 (.pick (t 11) (kb true) (t 14))] [8, 9, 10, 11, 12, 13, 14])
 (.cond (t 15)
  (.seq (.ops [mv 2 (.const (.string ByteArray.empty))] [])
  (.ret))
  (.skip)))
 (.seq (.ops [fa 16 0 (t 1),
 l1 17 (t 16),
 o 18 (.iaddrA 6 1 (t 3) (t 17)),
 l1 19 (t 18),
 mv 4 (t 19)] [3, 16, 17, 18, 19])
 (.seq (.seq (.ops [fa 20 0 (t 1),
 l1 21 (t 20),
 o 22 (.ibin .neq (t 21) (k 5))] [20, 21])
 (.cond (t 22)
  (.ops [mv 23 (t 4),
  fa 24 1 (t 1),
  l1 25 (t 24),
  ca 26 F.strconv_Itoa [(t 25)],
  o 27 (.strE .add (.const (.string ⟨#[32]⟩)) (t 26)),
  o 28 (.strE .add (t 23) (t 27)),
  mv 4 (t 28)] [23, 24, 25, 26, 27, 28])
  (.skip)))
 (.seq (.ops [fa 30 2 (t 1),
 la 31 4 (t 30),
 ca 32 F.msg_Text [(t 31)],
 mv 29 (t 32),
 ex 33 (t 29) 0,
 ex 34 (t 29) 1,
 mv 5 (t 33),
 mv 6 (t 34)] [1, 29, 30, 31, 32, 33, 34])
 (.seq (.seq (.ops [mv 35 (t 6),
 o 36 (.ibin .neq (t 35) (k 0))] [6, 35])
 (.cond (t 36)
  (.ops [mv 5 (.const (.string ⟨#[63]⟩))] [])
  (.skip)))
 (.seq (.ops [mv 37 (t 4),
 o 38 (.strE .add (t 37) (.const (.string ⟨#[32]⟩))),
 mv 39 (t 5),
 o 40 (.strE .add (t 38) (t 39)),
 mv 2 (t 40)] [4, 5, 37, 38, 39, 40])
 (.ret))))))))
def r_watch_Text : List RRes := [.tmp 2]
theorem fo_watch_Text {args : List Value} {M : Mem} {R : Value → Mem → Prop} (hn : args.length ≤ 41) (h : vfn Tryd.prog c_watch_Text r_watch_Text args M R) : CallsM Tryd.prog F.watch_Text args M R :=
  fn_ok (kf := k_watch_Text) Tryd.func10 (by kernel_rfl) (by kernel_rfl) hn (by kernel_rfl) h
/-- portage/portageref24.Text -/
def k_ref24_Text (i : Nat) : List Nat := match i with | 0 => [0, 2] | 1 => [5, 6, 7, 8, 9, 10] | 2 => [4, 11] | 4 => [13] | 5 => [16] | 6 => [1, 3, 17, 18, 19, 20, 21, 22, 23] | 7 => [25] | 8 => [1, 3, 26, 27, 28, 29, 30, 31, 32] | 9 => [34] | 10 => [1, 3, 35, 36, 37, 38, 39, 40, 41] | 11 => [43] | 12 => [1, 3, 44, 45, 46, 47, 48, 49, 50] | 13 => [14, 52] | 14 => [3, 53, 54] | _ => []
def c_ref24_Text : RCode :=
 .seq (.ops [o 1 (.box 33 (t 0)),
 mv 2 (.const (.string ByteArray.empty))] [0, 2])
 (.seq (.ops [fa 6 2 (t 1),
 la 7 4 (t 6),
 ca 8 F.ref13_Text [(t 7)],
 mv 5 (t 8),
 ex 9 (t 5) 0,
 ex 10 (t 5) 1,
 mv 3 (t 9),
 mv 4 (t 10)] [5, 6, 7, 8, 9, 10])
 (.seq (.seq (.ops [mv 11 (t 4),
 o 12 (.ibin .neq (t 11) (k 0))] [4, 11])
 (.cond (t 12)
  (.ops [mv 3 (.const (.string ⟨#[63]⟩))] [])
  (.skip)))
 (.seq (.seq (.ops [fa 13 0 (t 1),
 l1 14 (t 13)] [13])
 (.block 0 (.seq (.ops [o 16 (.ibin .eql (t 14) (k 1)),
 mv 15 (t 16)] [16])
 (.cond (t 15)
  (.seq (.ops [fa 17 1 (t 1),
  l1 18 (t 17),
  ca 19 F.ref24_number [(t 18)],
  o 20 (.strE .add (.const (.string ⟨#[116, 119, 105, 99, 101, 32]⟩)) (t 19)),
  o 21 (.strE .add (t 20) (.const (.string ⟨#[32]⟩))),
  mv 22 (t 3),
  o 23 (.strE .add (t 21) (t 22)),
  mv 2 (t 23)] [1, 3, 17, 18, 19, 20, 21, 22, 23])
  (.ret))
  (.seq (.ops [o 25 (.ibin .eql (t 14) (k 2)),
  mv 24 (t 25)] [25])
  (.cond (t 24)
   (.seq (.ops [fa 26 1 (t 1),
   l1 27 (t 26),
   ca 28 F.ref24_number [(t 27)],
   o 29 (.strE .add (.const (.string ⟨#[119, 104, 101, 114, 101, 32]⟩)) (t 28)),
   o 30 (.strE .add (t 29) (.const (.string ⟨#[32]⟩))),
   mv 31 (t 3),
   o 32 (.strE .add (t 30) (t 31)),
   mv 2 (t 32)] [1, 3, 26, 27, 28, 29, 30, 31, 32])
   (.ret))
   (.seq (.ops [o 34 (.ibin .eql (t 14) (k 3)),
   mv 33 (t 34)] [34])
   (.cond (t 33)
    (.seq (.ops [fa 35 1 (t 1),
    l1 36 (t 35),
    ca 37 F.ref24_number [(t 36)],
    o 38 (.strE .add (.const (.string ⟨#[115, 116, 114, 97, 110, 103, 101, 32]⟩)) (t 37)),
    o 39 (.strE .add (t 38) (.const (.string ⟨#[32]⟩))),
    mv 40 (t 3),
    o 41 (.strE .add (t 39) (t 40)),
    mv 2 (t 41)] [1, 3, 35, 36, 37, 38, 39, 40, 41])
    (.ret))
    (.seq (.ops [o 43 (.ibin .eql (t 14) (k 4)),
    mv 42 (t 43)] [43])
    (.cond (t 42)
     (.seq (.ops [fa 44 1 (t 1),
     l1 45 (t 44),
     ca 46 F.ref24_number [(t 45)],
     o 47 (.strE .add (.const (.string ⟨#[97, 103, 97, 105, 110, 32]⟩)) (t 46)),
     o 48 (.strE .add (t 47) (.const (.string ⟨#[32]⟩))),
     mv 49 (t 3),
     o 50 (.strE .add (t 48) (t 49)),
     mv 2 (t 50)] [1, 3, 44, 45, 46, 47, 48, 49, 50])
     (.ret))
     (.seq (.ops [o 52 (.ibin .eql (t 14) (k 5)),
     mv 51 (t 52)] [14, 52])
     (.cond (t 51)
      (.seq (.ops [mv 53 (t 3),
      o 54 (.strE .add (.const (.string ⟨#[108, 111, 115, 116, 32]⟩)) (t 53)),
      mv 2 (t 54)] [3, 53, 54])
      (.ret))
      (.skip)))))))))))))
 (.seq (.ops [mv 2 (.const (.string ByteArray.empty))] [])
 (.ret)))))
def r_ref24_Text : List RRes := [.tmp 2]
theorem fo_ref24_Text {args : List Value} {M : Mem} {R : Value → Mem → Prop} (hn : args.length ≤ 55) (h : vfn Tryd.prog c_ref24_Text r_ref24_Text args M R) : CallsM Tryd.prog F.ref24_Text args M R :=
  fn_ok (kf := k_ref24_Text) Tryd.func11 (by kernel_rfl) (by kernel_rfl) hn (by kernel_rfl) h
/-- portage/watch.Judge$1 -/
def k_watch_Judge_1 (i : Nat) : List Nat := match i with | 0 => [1] | 1 => [0, 2, 3, 4, 8, 9, 10, 11, 12, 13, 14, 15] | _ => []
def c_watch_Judge_1 : RCode :=
 .seq (.ops [mv 7 (t 1)] [1])
 (.cond (t 7)
  (.ops [l1 8 (t 2),
  mv 9 (t 0),
  l1 10 (t 3),
  fa 11 2 (t 4),
  la 12 4 (t 11),
  o 13 (.build [(i 0), (i 0), (i 0), (i 0), (i 0), (i 0)] [(0, 1, (t 9)), (1, 1, (t 10)), (2, 4, (t 12))]),
  o 14 (.mkSl true 33 1 [(i 0), (i 0), (i 0), (i 0), (i 0), (i 0)] [(0, 6, (t 13))]),
  o 15 (.app 33 6 48 [(i 0), (i 0), (i 0), (i 0), (i 0), (i 0)] (t 8) (t 14)),
  st 1 (t 2) (t 15)] [0, 2, 3, 4, 8, 9, 10, 11, 12, 13, 14, 15])
  (.skip))
def r_watch_Judge_1 : List RRes := []
theorem fo_watch_Judge_1 {args : List Value} {M : Mem} {R : Value → Mem → Prop} (hn : args.length ≤ 16) (h : vfn Tryd.prog c_watch_Judge_1 r_watch_Judge_1 args M R) : CallsM Tryd.prog F.watch_Judge_1 args M R :=
  fn_ok (kf := k_watch_Judge_1) Tryd.func12 (by kernel_rfl) (by kernel_rfl) hn (by kernel_rfl) h
/-- portage/watch.twice -/
def k_watch_twice (i : Nat) : List Nat := match i with | 0 => [1, 4] | 1 => [0, 3, 5, 6, 7, 8, 9] | _ => []
def c_watch_twice : RCode :=
 .seq (.ops [o 3 (.box 31 (t 1)),
 mv 4 (kb false)] [1, 4])
 (.seq (.ops [mv 5 (t 0),
 o 6 (.mkfn F.watch_twice_1 [(t 3)]),
 ca 7 F.watch_some_api_Told [(t 5), (t 6)],
 o 8 (.len (t 7)),
 o 9 (.ibin .gtr (t 8) (k 0)),
 mv 4 (t 9)] [0, 3, 5, 6, 7, 8, 9])
 (.ret))
def r_watch_twice : List RRes := [.tmp 4]
theorem fo_watch_twice {args : List Value} {M : Mem} {R : Value → Mem → Prop} (hn : args.length ≤ 10) (h : vfn Tryd.prog c_watch_twice r_watch_twice args M R) : CallsM Tryd.prog F.watch_twice args M R :=
  fn_ok (kf := k_watch_twice) Tryd.func13 (by kernel_rfl) (by kernel_rfl) hn (by kernel_rfl) h
/-- portage/watch.strange -/
def k_watch_strange (i : Nat) : List Nat := match i with | 0 => [1, 4] | 1 => [5, 6, 7, 8] | 2 => [10, 11, 12, 13, 14, 15] | 3 => [0, 3, 16, 17, 18, 19, 20] | _ => []
def c_watch_strange : RCode :=
 .seq (.ops [o 3 (.box 41 (t 1)),
 mv 4 (kb false)] [1, 4])
 (.seq (.seq (.ops [fa 5 0 (t 3),
 l1 6 (t 5),
 mv 7 (t 0),
 o 8 (.len (t 7)),
 o 9 (.ibin .lss (t 6) (t 8))] [5, 6, 7, 8])
 (.cond (t 9)
  (.ops [mv 10 (t 0),
  fa 11 0 (t 3),
  l1 12 (t 11),
  o 13 (.imm true (t 12) (k (-1))),
  ad 14 (t 13) (k 1),
  o 15 (.slx 5 (t 10) none (some (t 14))),
  mv 0 (t 15)] [10, 11, 12, 13, 14, 15])
  (.skip)))
 (.seq (.ops [mv 16 (t 0),
 o 17 (.mkfn F.watch_strange_1 [(t 3)]),
 ca 18 F.watch_some_api_Step [(t 16), (t 17)],
 o 19 (.len (t 18)),
 o 20 (.ibin .eql (t 19) (k 0)),
 mv 4 (t 20)] [0, 3, 16, 17, 18, 19, 20])
 (.ret)))
def r_watch_strange : List RRes := [.tmp 4]
theorem fo_watch_strange {args : List Value} {M : Mem} {R : Value → Mem → Prop} (hn : args.length ≤ 21) (h : vfn Tryd.prog c_watch_strange r_watch_strange args M R) : CallsM Tryd.prog F.watch_strange args M R :=
  fn_ok (kf := k_watch_strange) Tryd.func14 (by kernel_rfl) (by kernel_rfl) hn (by kernel_rfl) h
/-- portage/watch.again -/
def k_watch_again (i : Nat) : List Nat := match i with | 0 => [1, 4] | 1 => [0, 6, 7, 8] | 2 => [3, 5, 9, 10, 11, 12, 13, 14, 15, 16, 17, 18, 19, 20, 21, 22, 23] | _ => []
def c_watch_again : RCode :=
 .seq (.ops [o 3 (.box 31 (t 1)),
 mv 4 (kb false)] [1, 4])
 (.seq (.ops [mv 6 (t 0),
 o 7 (.mkfn F.watch_again_1 [(t 3)]),
 ca 8 F.watch_some_api_Told [(t 6), (t 7)],
 mv 5 (t 8)] [0, 6, 7, 8])
 (.seq (.draw (.take (mv 9 (t 5)) (.take (o 10 (.len (t 9))) (.take (o 11 (.ibin .gtr (t 10) (k 0))) (.take (os 12 (.mov (t 11))) (.take (gt 12 13 (.mov (t 5))) (.take (gt 12 14 (.mov (t 5))) (.take (gt 12 15 (.len (t 14))) (.take (gt 12 16 (.ibin .sub (t 15) (k 1))) (.take (gt 12 17 (.iaddr 9 (t 13) (t 16))) (.take (gt 12 18 (.faddr 2 (t 17))) (.take (gt 12 19 (.load true 4 (t 18))) (.take (gt 12 20 (.load true 4 (t 3))) (.alt (gt 12 21 (.call (fn F.msg_Less) [(t 19), (t 20)])) false
  (.take (gt 12 22 (.not (t 21))) (.take (o 23 (.pick (t 12) (t 22) (kb false))) (.take (mv 4 (t 23)) (.done))))
  (.none)))))))))))))) [3, 5, 9, 10, 11, 12, 13, 14, 15, 16, 17, 18, 19, 20, 21, 22, 23])
 (.ret)))
def r_watch_again : List RRes := [.tmp 4]
theorem fo_watch_again {args : List Value} {M : Mem} {R : Value → Mem → Prop} (hn : args.length ≤ 24) (h : vfn Tryd.prog c_watch_again r_watch_again args M R) : CallsM Tryd.prog F.watch_again args M R :=
  fn_ok (kf := k_watch_again) Tryd.func15 (by kernel_rfl) (by kernel_rfl) hn (by kernel_rfl) h
/-- portage/portageref24.twice -/
def k_ref24_twice (i : Nat) : List Nat := match i with | 0 => [4] | 2 => [6, 7] | 4 => [11, 12, 13, 14, 15, 16, 17, 18, 19, 20, 21, 22, 23, 24, 25, 26, 27] | 3 => [9, 10] | _ => []
def c_ref24_twice : RCode :=
 .seq (.ops [mv 4 (kb false)] [4])
 (.seq (.seq (.ops [mv 5 (k 0)] [])
 (.block 0 (.loop (.seq (.seq (.ops [mv 6 (t 5),
  mv 7 (t 1),
  o 8 (.ibin .lss (t 6) (t 7))] [6, 7])
  (.cond (t 8)
   (.skip)
   (.exit 0)))
  (.seq (.block 1 (.seq (.draw (.take (mv 11 (t 0)) (.take (mv 12 (t 5)) (.take (o 13 (.iaddr 9 (t 11) (t 12))) (.take (fa 14 8 (t 13)) (.take (l1 15 (t 14)) (.take (os 16 (.mov (t 15))) (.take (gt 16 17 (.mov (t 0))) (.take (gt 16 18 (.mov (t 5))) (.take (gt 16 19 (.iaddr 9 (t 17) (t 18))) (.take (gt 16 20 (.faddr 2 (t 19))) (.take (gt 16 21 (.load true 4 (t 20))) (.take (gt 16 22 (.mov (t 0))) (.take (gt 16 23 (.mov (t 1))) (.take (gt 16 24 (.iaddr 9 (t 22) (t 23))) (.take (gt 16 25 (.faddr 2 (t 24))) (.take (gt 16 26 (.load true 4 (t 25))) (.take (gt 16 27 (.aeq .eql 4 (t 21) (t 26))) (.take (o 28 (.pick (t 16) (t 27) (kb false))) (.done))))))))))))))))))) [11, 12, 13, 14, 15, 16, 17, 18, 19, 20, 21, 22, 23, 24, 25, 26, 27])
  (.cond (t 28)
   (.seq (.ops [mv 4 (kb true)] [])
   (.ret))
   (.skip))))
  (.ops [mv 9 (t 5),
  ad 10 (t 9) (k 1),
  mv 5 (t 10)] [9, 10]))))))
 (.seq (.ops [mv 4 (kb false)] [])
 (.ret)))
def r_ref24_twice : List RRes := [.tmp 4]
theorem fo_ref24_twice {args : List Value} {M : Mem} {R : Value → Mem → Prop} (hn : args.length ≤ 29) (h : vfn Tryd.prog c_ref24_twice r_ref24_twice args M R) : CallsM Tryd.prog F.ref24_twice args M R :=
  fn_ok (kf := k_ref24_twice) Tryd.func16 (by kernel_rfl) (by kernel_rfl) hn (by kernel_rfl) h
/-- portage/portageref24.given -/
def k_ref24_given (i : Nat) : List Nat := match i with | 0 => [1, 4] | 2 => [7, 8, 9, 10, 11, 12, 13, 14, 15] | 4 => [19, 20, 21, 22] | 5 => [6, 23, 24, 25, 26, 27, 28, 29, 30, 31, 32, 33, 34, 35, 36, 37, 38, 39, 40, 41, 42, 43, 44, 45, 46, 47, 48, 49] | 3 => [17, 18] | _ => []
def c_ref24_given : RCode :=
 .seq (.ops [o 3 (.box 41 (t 1)),
 mv 4 (kb false)] [1, 4])
 (.seq (.seq (.ops [mv 5 (k 0)] [])
 (.block 0 (.loop (.seq (.seq (.ops [mv 7 (t 5),
  mv 8 (t 0),
  o 9 (.len (t 8)),
  o 10 (.ibin .lss (t 7) (t 9)),
  os 11 (.mov (t 10)),
  gt 11 12 (.mov (t 5)),
  gt 11 13 (.faddr 0 (t 3)),
  gt 11 14 (.load false 1 (t 13)),
  gt 11 15 (.ibin .leq (t 12) (t 14)),
  o 16 (.pick (t 11) (t 15) (kb false))] [7, 8, 9, 10, 11, 12, 13, 14, 15])
  (.cond (t 16)
   (.skip)
   (.exit 0)))
  (.seq (.block 1 (.seq (.ops [mv 19 (t 0),
  mv 20 (t 5),
  o 21 (.iaddr 5 (t 19) (t 20)),
  la 22 5 (t 21),
  o 6 (.alloc 38 [(i 0), (i 0), (i 0), (i 0), sn]),
  st 5 (t 6) (t 22)] [19, 20, 21, 22])
  (.seq (.ops [fa 23 0 (t 6),
  l1 24 (t 23),
  o 25 (.ibin .eql (t 24) (k 1)),
  os 26 (.mov (t 25)),
  gt 26 27 (.faddr 1 (t 6)),
  gt 26 28 (.load false 1 (t 27)),
  gt 26 29 (.faddr 2 (t 3)),
  gt 26 30 (.faddr 0 (t 29)),
  gt 26 31 (.load false 1 (t 30)),
  gt 26 32 (.ibin .eql (t 28) (t 31)),
  o 33 (.pick (t 26) (t 32) (kb false)),
  os 34 (.mov (t 33)),
  gt 34 35 (.faddr 2 (t 6)),
  gt 34 36 (.load false 1 (t 35)),
  gt 34 37 (.faddr 2 (t 3)),
  gt 34 38 (.faddr 1 (t 37)),
  gt 34 39 (.load false 1 (t 38)),
  gt 34 40 (.ibin .eql (t 36) (t 39)),
  o 41 (.pick (t 34) (t 40) (kb false)),
  os 42 (.mov (t 41)),
  gt 42 43 (.faddr 4 (t 6)),
  gt 42 44 (.load false 1 (t 43)),
  gt 42 45 (.strOf (t 44)),
  gt 42 46 (.faddr 7 (t 3)),
  gt 42 47 (.load false 1 (t 46)),
  gt 42 48 (.strOf (t 47)),
  gt 42 49 (.strE .eql (t 45) (t 48)),
  o 50 (.pick (t 42) (t 49) (kb false))] [6, 23, 24, 25, 26, 27, 28, 29, 30, 31, 32, 33, 34, 35, 36, 37, 38, 39, 40, 41, 42, 43, 44, 45, 46, 47, 48, 49])
  (.cond (t 50)
   (.seq (.ops [mv 4 (kb true)] [])
   (.ret))
   (.skip)))))
  (.ops [mv 17 (t 5),
  ad 18 (t 17) (k 1),
  mv 5 (t 18)] [17, 18]))))))
 (.seq (.ops [mv 4 (kb false)] [])
 (.ret)))
def r_ref24_given : List RRes := [.tmp 4]
theorem fo_ref24_given {args : List Value} {M : Mem} {R : Value → Mem → Prop} (hn : args.length ≤ 51) (h : vfn Tryd.prog c_ref24_given r_ref24_given args M R) : CallsM Tryd.prog F.ref24_given args M R :=
  fn_ok (kf := k_ref24_given) Tryd.func17 (by kernel_rfl) (by kernel_rfl) hn (by kernel_rfl) h
/-- portage/portageref24.again -/
def k_ref24_again (i : Nat) : List Nat := match i with | 0 => [4] | 3 => [7, 8] | 5 => [12, 13, 14, 15, 16, 17, 18, 19, 20, 21, 22, 23, 24, 25, 26, 27, 28, 29, 30, 31, 32, 33, 34, 35, 36, 37, 38, 39, 40, 41, 42, 43, 44, 45, 46, 47, 48, 49, 50, 51, 52, 53, 54] | 6 => [56] | 4 => [10, 11] | 7 => [0, 1, 5, 57, 58, 59, 60, 61, 62, 63, 64, 65, 66, 67, 68, 69, 70, 71, 72] | _ => []
def c_ref24_again : RCode :=
 .seq (.ops [mv 4 (kb false)] [4])
 (.seq (.ops [mv 5 (k (-1))] [])
 (.seq (.seq (.ops [mv 6 (k 0)] [])
 (.block 0 (.loop (.seq (.seq (.ops [mv 7 (t 6),
  mv 8 (t 1),
  o 9 (.ibin .lss (t 7) (t 8))] [7, 8])
  (.cond (t 9)
   (.skip)
   (.exit 0)))
  (.seq (.block 1 (.seq (.draw (.take (mv 12 (t 0)) (.take (mv 13 (t 6)) (.take (o 14 (.iaddr 9 (t 12) (t 13))) (.take (fa 15 8 (t 14)) (.take (l1 16 (t 15)) (.take (o 17 (.not (t 16))) (.take (os 18 (.mov (t 17))) (.take (gt 18 19 (.mov (t 0))) (.take (gt 18 20 (.mov (t 6))) (.take (gt 18 21 (.iaddr 9 (t 19) (t 20))) (.take (gt 18 22 (.faddr 6 (t 21))) (.take (gt 18 23 (.load false 1 (t 22))) (.take (gt 18 24 (.ibin .eql (t 23) (k 0))) (.take (o 25 (.pick (t 18) (t 24) (kb false))) (.take (os 26 (.mov (t 25))) (.take (gt 26 27 (.mov (t 0))) (.take (gt 26 28 (.mov (t 6))) (.take (gt 26 29 (.iaddr 9 (t 27) (t 28))) (.take (gt 26 30 (.faddr 2 (t 29))) (.take (gt 26 31 (.faddr 0 (t 30))) (.take (gt 26 32 (.load false 1 (t 31))) (.take (gt 26 33 (.mov (t 0))) (.take (gt 26 34 (.mov (t 1))) (.take (gt 26 35 (.iaddr 9 (t 33) (t 34))) (.take (gt 26 36 (.faddr 2 (t 35))) (.take (gt 26 37 (.faddr 0 (t 36))) (.take (gt 26 38 (.load false 1 (t 37))) (.take (gt 26 39 (.ibin .eql (t 32) (t 38))) (.take (o 40 (.pick (t 26) (t 39) (kb false))) (.take (os 41 (.mov (t 40))) (.take (gt 41 42 (.mov (t 0))) (.take (gt 41 43 (.mov (t 6))) (.take (gt 41 44 (.iaddr 9 (t 42) (t 43))) (.take (gt 41 45 (.faddr 2 (t 44))) (.take (gt 41 46 (.faddr 1 (t 45))) (.take (gt 41 47 (.load false 1 (t 46))) (.take (gt 41 48 (.mov (t 0))) (.take (gt 41 49 (.mov (t 1))) (.take (gt 41 50 (.iaddr 9 (t 48) (t 49))) (.take (gt 41 51 (.faddr 2 (t 50))) (.take (gt 41 52 (.faddr 1 (t 51))) (.take (gt 41 53 (.load false 1 (t 52))) (.take (gt 41 54 (.ibin .eql (t 47) (t 53))) (.take (o 55 (.pick (t 41) (t 54) (kb false))) (.done))))))))))))))))))))))))))))))))))))))))))))) [12, 13, 14, 15, 16, 17, 18, 19, 20, 21, 22, 23, 24, 25, 26, 27, 28, 29, 30, 31, 32, 33, 34, 35, 36, 37, 38, 39, 40, 41, 42, 43, 44, 45, 46, 47, 48, 49, 50, 51, 52, 53, 54])
  (.cond (t 55)
   (.ops [mv 56 (t 6),
   mv 5 (t 56)] [56])
   (.skip))))
  (.ops [mv 10 (t 6),
  ad 11 (t 10) (k 1),
  mv 6 (t 11)] [10, 11]))))))
 (.seq (.draw (.take (mv 57 (t 5)) (.take (o 58 (.ibin .geq (t 57) (k 0))) (.take (os 59 (.mov (t 58))) (.take (gt 59 60 (.mov (t 0))) (.take (gt 59 61 (.mov (t 5))) (.take (gt 59 62 (.iaddr 9 (t 60) (t 61))) (.take (gt 59 63 (.faddr 2 (t 62))) (.take (gt 59 64 (.load true 4 (t 63))) (.take (gt 59 65 (.mov (t 0))) (.take (gt 59 66 (.mov (t 1))) (.take (gt 59 67 (.iaddr 9 (t 65) (t 66))) (.take (gt 59 68 (.faddr 2 (t 67))) (.take (gt 59 69 (.load true 4 (t 68))) (.alt (gt 59 70 (.call (fn F.ref13_Less) [(t 64), (t 69)])) false
  (.take (gt 59 71 (.not (t 70))) (.take (o 72 (.pick (t 59) (t 71) (kb false))) (.take (mv 4 (t 72)) (.done))))
  (.none))))))))))))))) [0, 1, 5, 57, 58, 59, 60, 61, 62, 63, 64, 65, 66, 67, 68, 69, 70, 71, 72])
 (.ret))))
def r_ref24_again : List RRes := [.tmp 4]
theorem fo_ref24_again {args : List Value} {M : Mem} {R : Value → Mem → Prop} (hn : args.length ≤ 73) (h : vfn Tryd.prog c_ref24_again r_ref24_again args M R) : CallsM Tryd.prog F.ref24_again args M R :=
  fn_ok (kf := k_ref24_again) Tryd.func18 (by kernel_rfl) (by kernel_rfl) hn (by kernel_rfl) h
/-- strconv.Itoa -/
def k_strconv_Itoa (i : Nat) : List Nat := match i with | 0 => [2] | 1 => [0, 3, 4] | _ => []
def c_strconv_Itoa : RCode :=
 .seq (.ops [mv 2 (.const (.string ByteArray.empty))] [2])
 (.seq (.ops [mv 3 (t 0),
 ca 4 F.internal_strconv_Itoa [(t 3)],
 mv 2 (t 4)] [0, 3, 4])
 (.ret))
def r_strconv_Itoa : List RRes := [.tmp 2]
theorem fo_strconv_Itoa {args : List Value} {M : Mem} {R : Value → Mem → Prop} (hn : args.length ≤ 5) (h : vfn Tryd.prog c_strconv_Itoa r_strconv_Itoa args M R) : CallsM Tryd.prog F.strconv_Itoa args M R :=
  fn_ok (kf := k_strconv_Itoa) Tryd.func19 (by kernel_rfl) (by kernel_rfl) hn (by kernel_rfl) h
/-- portage/msg.Text -/
def k_msg_Text (i : Nat) : List Nat := match i with | 0 => [0, 2, 3] | 1 => [6, 7] | 2 => [8] | 3 => [4, 10] | 5 => [1, 5, 11, 12, 13, 14, 15, 16, 17, 18, 19, 20, 21, 22, 23, 24, 25, 26, 27, 28, 29, 30, 31, 32] | _ => []
def c_msg_Text : RCode :=
 .seq (.ops [o 1 (.box 31 (t 0)),
 mv 2 (.const (.string ByteArray.empty)),
 mv 3 (k 0)] [0, 2, 3])
 (.seq (.seq (.ops [la 6 4 (t 1),
 ca 7 F.msg_Check [(t 6)],
 mv 4 (t 7)] [6, 7])
 (.seq (.ops [mv 8 (t 4),
 o 9 (.ibin .neq (t 8) (k 0))] [8])
 (.cond (t 9)
  (.seq (.ops [mv 10 (t 4),
  mv 2 (.const (.string ByteArray.empty)),
  mv 3 (t 10)] [4, 10])
  (.ret))
  (.skip))))
 (.seq (.ops [mv 5 (fn F.strconv_Itoa)] [])
 (.seq (.draw (.take (mv 11 (t 5)) (.take (fa 12 0 (t 1)) (.take (l1 13 (t 12)) (.take (mv 16 (t 5)) (.take (fa 17 1 (t 1)) (.take (l1 18 (t 17)) (.take (mv 22 (t 5)) (.take (fa 23 2 (t 1)) (.take (l1 24 (t 23)) (.take (mv 28 (t 5)) (.take (fa 29 3 (t 1)) (.take (l1 30 (t 29)) (.alt (o 14 (.call (t 11) [(t 13)])) true
  (.take (o 15 (.strE .add (t 14) (.const (.string ⟨#[62]⟩)))) (.alt (o 19 (.call (t 16) [(t 18)])) true
   (.take (o 20 (.strE .add (t 15) (t 19))) (.take (o 21 (.strE .add (t 20) (.const (.string ⟨#[58]⟩)))) (.alt (o 25 (.call (t 22) [(t 24)])) true
    (.take (o 26 (.strE .add (t 21) (t 25))) (.take (o 27 (.strE .add (t 26) (.const (.string ⟨#[46]⟩)))) (.alt (o 31 (.call (t 28) [(t 30)])) false
     (.take (o 32 (.strE .add (t 27) (t 31))) (.take (mv 2 (t 32)) (.take (mv 3 (k 0)) (.done))))
     (.none))))
    (.none))))
   (.none)))
  (.none)))))))))))))) [1, 5, 11, 12, 13, 14, 15, 16, 17, 18, 19, 20, 21, 22, 23, 24, 25, 26, 27, 28, 29, 30, 31, 32])
 (.ret))))
def r_msg_Text : List RRes := [.tmp 2, .tmp 3]
theorem fo_msg_Text {args : List Value} {M : Mem} {R : Value → Mem → Prop} (hn : args.length ≤ 33) (h : vfn Tryd.prog c_msg_Text r_msg_Text args M R) : CallsM Tryd.prog F.msg_Text args M R :=
  fn_ok (kf := k_msg_Text) Tryd.func20 (by kernel_rfl) (by kernel_rfl) hn (by kernel_rfl) h
/-- portage/portageref13.Text -/
def k_ref13_Text (i : Nat) : List Nat := match i with | 0 => [0, 2, 3] | 1 => [4, 5] | 2 => [1, 7, 8] | 3 => [1, 9, 10, 11, 12, 13, 14, 15, 16, 17, 18, 19, 20, 21, 22, 23, 24, 25, 26] | _ => []
def c_ref13_Text : RCode :=
 .seq (.ops [o 1 (.box 31 (t 0)),
 mv 2 (.const (.string ByteArray.empty)),
 mv 3 (k 0)] [0, 2, 3])
 (.seq (.seq (.ops [la 4 4 (t 1),
 ca 5 F.ref13_Check [(t 4)],
 o 6 (.ibin .neq (t 5) (k 0))] [4, 5])
 (.cond (t 6)
  (.seq (.ops [la 7 4 (t 1),
  ca 8 F.ref13_Check [(t 7)],
  mv 2 (.const (.string ByteArray.empty)),
  mv 3 (t 8)] [1, 7, 8])
  (.ret))
  (.skip)))
 (.seq (.draw (.take (fa 9 0 (t 1)) (.take (l1 10 (t 9)) (.take (fa 13 1 (t 1)) (.take (l1 14 (t 13)) (.take (fa 18 2 (t 1)) (.take (l1 19 (t 18)) (.take (fa 23 3 (t 1)) (.take (l1 24 (t 23)) (.alt (ca 11 F.ref13_Digits [(t 10)]) true
  (.take (o 12 (.strE .add (t 11) (.const (.string ⟨#[62]⟩)))) (.alt (ca 15 F.ref13_Digits [(t 14)]) true
   (.take (o 16 (.strE .add (t 12) (t 15))) (.take (o 17 (.strE .add (t 16) (.const (.string ⟨#[58]⟩)))) (.alt (ca 20 F.ref13_Digits [(t 19)]) true
    (.take (o 21 (.strE .add (t 17) (t 20))) (.take (o 22 (.strE .add (t 21) (.const (.string ⟨#[46]⟩)))) (.alt (ca 25 F.ref13_Digits [(t 24)]) false
     (.take (o 26 (.strE .add (t 22) (t 25))) (.take (mv 2 (t 26)) (.take (mv 3 (k 0)) (.done))))
     (.none))))
    (.none))))
   (.none)))
  (.none)))))))))) [1, 9, 10, 11, 12, 13, 14, 15, 16, 17, 18, 19, 20, 21, 22, 23, 24, 25, 26])
 (.ret)))
def r_ref13_Text : List RRes := [.tmp 2, .tmp 3]
theorem fo_ref13_Text {args : List Value} {M : Mem} {R : Value → Mem → Prop} (hn : args.length ≤ 27) (h : vfn Tryd.prog c_ref13_Text r_ref13_Text args M R) : CallsM Tryd.prog F.ref13_Text args M R :=
  fn_ok (kf := k_ref13_Text) Tryd.func21 (by kernel_rfl) (by kernel_rfl) hn (by kernel_rfl) h
/-- portage/portageref24.number -/
def k_ref24_number (i : Nat) : List Nat := match i with | 0 => [2] | 1 => [4] | 2 => [0, 6, 7] | 3 => [8, 9, 10] | 4 => [11] | 5 => [3, 13, 14, 15] | 6 => [0, 3, 16, 17, 18, 19, 20, 21, 22, 23] | _ => []
def c_ref24_number : RCode :=
 .seq (.ops [mv 2 (.const (.string ByteArray.empty))] [2])
 (.seq (.seq (.ops [mv 4 (t 0),
 o 5 (.ibin .geq (t 4) (k 0))] [4])
 (.cond (t 5)
  (.seq (.ops [mv 6 (t 0),
  ca 7 F.ref13_Digits [(t 6)],
  mv 2 (t 7)] [0, 6, 7])
  (.ret))
  (.skip)))
 (.seq (.ops [mv 8 (t 0),
 o 9 (.ibin .rem (t 8) (k 10)),
 o 10 (.uneg (t 9)),
 mv 3 (t 10)] [8, 9, 10])
 (.seq (.seq (.ops [mv 11 (t 0),
 o 12 (.ibin .gtr (t 11) (k (-10)))] [11])
 (.cond (t 12)
  (.seq (.ops [mv 13 (t 3),
  ca 14 F.ref13_Digits [(t 13)],
  o 15 (.strE .add (.const (.string ⟨#[45]⟩)) (t 14)),
  mv 2 (t 15)] [3, 13, 14, 15])
  (.ret))
  (.skip)))
 (.seq (.ops [mv 16 (t 0),
 o 17 (.ibin .quo (t 16) (k 10)),
 o 18 (.uneg (t 17)),
 ca 19 F.ref13_Digits [(t 18)],
 o 20 (.strE .add (.const (.string ⟨#[45]⟩)) (t 19)),
 mv 21 (t 3),
 ca 22 F.ref13_Digits [(t 21)],
 o 23 (.strE .add (t 20) (t 22)),
 mv 2 (t 23)] [0, 3, 16, 17, 18, 19, 20, 21, 22, 23])
 (.ret)))))
def r_ref24_number : List RRes := [.tmp 2]
theorem fo_ref24_number {args : List Value} {M : Mem} {R : Value → Mem → Prop} (hn : args.length ≤ 24) (h : vfn Tryd.prog c_ref24_number r_ref24_number args M R) : CallsM Tryd.prog F.ref24_number args M R :=
  fn_ok (kf := k_ref24_number) Tryd.func22 (by kernel_rfl) (by kernel_rfl) hn (by kernel_rfl) h
/-- portage/watch.some[portage/api.Told] -/
def k_watch_some_api_Told (i : Nat) : List Nat := match i with | 0 => [4] | 2 => [0] | 4 => [12, 13] | 5 => [14, 15] | 6 => [7, 17, 18, 19, 20] | 7 => [21] | 8 => [5, 22] | _ => []
def c_watch_some_api_Told : RCode :=
 .seq (.ops [mv 4 (.const sn)] [4])
 (.seq (.ops [mv 5 (.const sn)] [])
 (.seq (.seq (.ops [mv 8 (t 0),
 o 9 (.len (t 8)),
 mv 10 (k 0)] [0])
 (.block 0 (.loop (.seq (.ops [o 11 (.ibin .lss (t 10) (t 9))] [])
  (.seq (.cond (t 11)
   (.skip)
   (.exit 0))
  (.seq (.block 1 (.seq (.ops [o 12 (.iaddr 9 (t 8) (t 10)),
  la 13 9 (t 12),
  o 7 (.alloc 41 [(i 0), (i 0), (i 0), (i 0), (i 0), (i 0), (i 0), sn, (.bool false)]),
  st 9 (t 7) (t 13)] [12, 13])
  (.seq (.ops [mv 14 (t 1),
  la 15 9 (t 7),
  o 16 (.call (t 14) [(t 15)])] [14, 15])
  (.cond (t 16)
   (.ops [mv 17 (t 5),
   la 18 9 (t 7),
   o 19 (.mkSl true 41 1 [(i 0), (i 0), (i 0), (i 0), (i 0), (i 0), (i 0), sn, (.bool false)] [(0, 9, (t 18))]),
   o 20 (.app 41 9 88 [(i 0), (i 0), (i 0), (i 0), (i 0), (i 0), (i 0), sn, (.bool false)] (t 17) (t 19)),
   mv 5 (t 20)] [7, 17, 18, 19, 20])
   (.skip)))))
  (.ops [ad 21 (t 10) (k 1),
  mv 10 (t 21)] [21])))))))
 (.seq (.ops [mv 22 (t 5),
 mv 4 (t 22)] [5, 22])
 (.ret))))
def r_watch_some_api_Told : List RRes := [.tmp 4]
theorem fo_watch_some_api_Told {args : List Value} {M : Mem} {R : Value → Mem → Prop} (hn : args.length ≤ 23) (h : vfn Tryd.prog c_watch_some_api_Told r_watch_some_api_Told args M R) : CallsM Tryd.prog F.watch_some_api_Told args M R :=
  fn_ok (kf := k_watch_some_api_Told) Tryd.func23 (by kernel_rfl) (by kernel_rfl) hn (by kernel_rfl) h
/-- portage/watch.twice$1 -/
def k_watch_twice_1 (i : Nat) : List Nat := match i with | 0 => [0, 3] | 1 => [1, 2, 4, 5, 6, 7, 8, 9, 10, 11] | _ => []
def c_watch_twice_1 : RCode :=
 .seq (.ops [o 2 (.box 41 (t 0)),
 mv 3 (kb false)] [0, 3])
 (.seq (.ops [fa 4 8 (t 2),
 l1 5 (t 4),
 os 6 (.mov (t 5)),
 gt 6 7 (.faddr 2 (t 2)),
 gt 6 8 (.load true 4 (t 7)),
 gt 6 9 (.load true 4 (t 1)),
 gt 6 10 (.aeq .eql 4 (t 8) (t 9)),
 o 11 (.pick (t 6) (t 10) (kb false)),
 mv 3 (t 11)] [1, 2, 4, 5, 6, 7, 8, 9, 10, 11])
 (.ret))
def r_watch_twice_1 : List RRes := [.tmp 3]
theorem fo_watch_twice_1 {args : List Value} {M : Mem} {R : Value → Mem → Prop} (hn : args.length ≤ 12) (h : vfn Tryd.prog c_watch_twice_1 r_watch_twice_1 args M R) : CallsM Tryd.prog F.watch_twice_1 args M R :=
  fn_ok (kf := k_watch_twice_1) Tryd.func24 (by kernel_rfl) (by kernel_rfl) hn (by kernel_rfl) h
/-- portage/watch.some[portage/api.Step] -/
def k_watch_some_api_Step (i : Nat) : List Nat := match i with | 0 => [4] | 2 => [0] | 4 => [12, 13] | 5 => [14, 15] | 6 => [7, 17, 18, 19, 20] | 7 => [21] | 8 => [5, 22] | _ => []
def c_watch_some_api_Step : RCode :=
 .seq (.ops [mv 4 (.const sn)] [4])
 (.seq (.ops [mv 5 (.const sn)] [])
 (.seq (.seq (.ops [mv 8 (t 0),
 o 9 (.len (t 8)),
 mv 10 (k 0)] [0])
 (.block 0 (.loop (.seq (.ops [o 11 (.ibin .lss (t 10) (t 9))] [])
  (.seq (.cond (t 11)
   (.skip)
   (.exit 0))
  (.seq (.block 1 (.seq (.ops [o 12 (.iaddr 5 (t 8) (t 10)),
  la 13 5 (t 12),
  o 7 (.alloc 38 [(i 0), (i 0), (i 0), (i 0), sn]),
  st 5 (t 7) (t 13)] [12, 13])
  (.seq (.ops [mv 14 (t 1),
  la 15 5 (t 7),
  o 16 (.call (t 14) [(t 15)])] [14, 15])
  (.cond (t 16)
   (.ops [mv 17 (t 5),
   la 18 5 (t 7),
   o 19 (.mkSl true 38 1 [(i 0), (i 0), (i 0), (i 0), sn] [(0, 5, (t 18))]),
   o 20 (.app 38 5 56 [(i 0), (i 0), (i 0), (i 0), sn] (t 17) (t 19)),
   mv 5 (t 20)] [7, 17, 18, 19, 20])
   (.skip)))))
  (.ops [ad 21 (t 10) (k 1),
  mv 10 (t 21)] [21])))))))
 (.seq (.ops [mv 22 (t 5),
 mv 4 (t 22)] [5, 22])
 (.ret))))
def r_watch_some_api_Step : List RRes := [.tmp 4]
theorem fo_watch_some_api_Step {args : List Value} {M : Mem} {R : Value → Mem → Prop} (hn : args.length ≤ 23) (h : vfn Tryd.prog c_watch_some_api_Step r_watch_some_api_Step args M R) : CallsM Tryd.prog F.watch_some_api_Step args M R :=
  fn_ok (kf := k_watch_some_api_Step) Tryd.func25 (by kernel_rfl) (by kernel_rfl) hn (by kernel_rfl) h
/-- portage/watch.strange$1 -/
def k_watch_strange_1 (i : Nat) : List Nat := match i with | 0 => [0, 3] | 1 => [1, 2, 4, 5, 6, 7, 8, 9, 10, 11, 12, 13, 14, 15, 16, 17, 18, 19, 20, 21, 22, 23, 24, 25, 26, 27, 28, 29, 30, 31] | _ => []
def c_watch_strange_1 : RCode :=
 .seq (.ops [o 2 (.box 38 (t 0)),
 mv 3 (kb false)] [0, 3])
 (.seq (.ops [fa 4 0 (t 2),
 l1 5 (t 4),
 o 6 (.ibin .eql (t 5) (k 1)),
 os 7 (.mov (t 6)),
 gt 7 8 (.faddr 1 (t 2)),
 gt 7 9 (.load false 1 (t 8)),
 gt 7 10 (.faddr 2 (t 1)),
 gt 7 11 (.faddr 0 (t 10)),
 gt 7 12 (.load false 1 (t 11)),
 gt 7 13 (.ibin .eql (t 9) (t 12)),
 o 14 (.pick (t 7) (t 13) (kb false)),
 os 15 (.mov (t 14)),
 gt 15 16 (.faddr 2 (t 2)),
 gt 15 17 (.load false 1 (t 16)),
 gt 15 18 (.faddr 2 (t 1)),
 gt 15 19 (.faddr 1 (t 18)),
 gt 15 20 (.load false 1 (t 19)),
 gt 15 21 (.ibin .eql (t 17) (t 20)),
 o 22 (.pick (t 15) (t 21) (kb false)),
 os 23 (.mov (t 22)),
 gt 23 24 (.faddr 4 (t 2)),
 gt 23 25 (.load false 1 (t 24)),
 gt 23 26 (.strOf (t 25)),
 gt 23 27 (.faddr 7 (t 1)),
 gt 23 28 (.load false 1 (t 27)),
 gt 23 29 (.strOf (t 28)),
 gt 23 30 (.strE .eql (t 26) (t 29)),
 o 31 (.pick (t 23) (t 30) (kb false)),
 mv 3 (t 31)] [1, 2, 4, 5, 6, 7, 8, 9, 10, 11, 12, 13, 14, 15, 16, 17, 18, 19, 20, 21, 22, 23, 24, 25, 26, 27, 28, 29, 30, 31])
 (.ret))
def r_watch_strange_1 : List RRes := [.tmp 3]
theorem fo_watch_strange_1 {args : List Value} {M : Mem} {R : Value → Mem → Prop} (hn : args.length ≤ 32) (h : vfn Tryd.prog c_watch_strange_1 r_watch_strange_1 args M R) : CallsM Tryd.prog F.watch_strange_1 args M R :=
  fn_ok (kf := k_watch_strange_1) Tryd.func26 (by kernel_rfl) (by kernel_rfl) hn (by kernel_rfl) h
/-- portage/watch.again$1 -/
def k_watch_again_1 (i : Nat) : List Nat := match i with | 0 => [0, 3] | 1 => [1, 2, 4, 5, 6, 7, 8, 9, 10, 11, 12, 13, 14, 15, 16, 17, 18, 19, 20, 21, 22, 23, 24, 25, 26, 27] | _ => []
def c_watch_again_1 : RCode :=
 .seq (.ops [o 2 (.box 41 (t 0)),
 mv 3 (kb false)] [0, 3])
 (.seq (.ops [fa 4 8 (t 2),
 l1 5 (t 4),
 o 6 (.not (t 5)),
 os 7 (.mov (t 6)),
 gt 7 8 (.faddr 6 (t 2)),
 gt 7 9 (.load false 1 (t 8)),
 gt 7 10 (.ibin .eql (t 9) (k 0)),
 o 11 (.pick (t 7) (t 10) (kb false)),
 os 12 (.mov (t 11)),
 gt 12 13 (.faddr 2 (t 2)),
 gt 12 14 (.faddr 0 (t 13)),
 gt 12 15 (.load false 1 (t 14)),
 gt 12 16 (.faddr 0 (t 1)),
 gt 12 17 (.load false 1 (t 16)),
 gt 12 18 (.ibin .eql (t 15) (t 17)),
 o 19 (.pick (t 12) (t 18) (kb false)),
 os 20 (.mov (t 19)),
 gt 20 21 (.faddr 2 (t 2)),
 gt 20 22 (.faddr 1 (t 21)),
 gt 20 23 (.load false 1 (t 22)),
 gt 20 24 (.faddr 1 (t 1)),
 gt 20 25 (.load false 1 (t 24)),
 gt 20 26 (.ibin .eql (t 23) (t 25)),
 o 27 (.pick (t 20) (t 26) (kb false)),
 mv 3 (t 27)] [1, 2, 4, 5, 6, 7, 8, 9, 10, 11, 12, 13, 14, 15, 16, 17, 18, 19, 20, 21, 22, 23, 24, 25, 26, 27])
 (.ret))
def r_watch_again_1 : List RRes := [.tmp 3]
theorem fo_watch_again_1 {args : List Value} {M : Mem} {R : Value → Mem → Prop} (hn : args.length ≤ 28) (h : vfn Tryd.prog c_watch_again_1 r_watch_again_1 args M R) : CallsM Tryd.prog F.watch_again_1 args M R :=
  fn_ok (kf := k_watch_again_1) Tryd.func27 (by kernel_rfl) (by kernel_rfl) hn (by kernel_rfl) h
/-- portage/msg.Less -/
def k_msg_Less (i : Nat) : List Nat := match i with | 0 => [0, 1, 4] | 1 => [6, 7, 8, 9, 10] | 2 => [2, 3, 11, 12, 13, 14, 15] | 3 => [17, 18, 19, 20, 21] | 4 => [2, 3, 22, 23, 24, 25, 26] | 5 => [28, 29, 30, 31, 32] | 6 => [2, 3, 33, 34, 35, 36, 37] | 7 => [2, 3, 38, 39, 40, 41, 42] | _ => []
def c_msg_Less : RCode :=
 .seq (.ops [o 2 (.box 31 (t 0)),
 o 3 (.box 31 (t 1)),
 mv 4 (kb false)] [0, 1, 4])
 (.seq (.block 0 (.seq (.ops [fa 6 0 (t 2),
 l1 7 (t 6),
 fa 8 0 (t 3),
 l1 9 (t 8),
 o 10 (.ibin .neq (t 7) (t 9)),
 mv 5 (t 10)] [6, 7, 8, 9, 10])
 (.cond (t 5)
  (.seq (.ops [fa 11 0 (t 2),
  l1 12 (t 11),
  fa 13 0 (t 3),
  l1 14 (t 13),
  o 15 (.ibin .lss (t 12) (t 14)),
  mv 4 (t 15)] [2, 3, 11, 12, 13, 14, 15])
  (.ret))
  (.seq (.ops [fa 17 1 (t 2),
  l1 18 (t 17),
  fa 19 1 (t 3),
  l1 20 (t 19),
  o 21 (.ibin .neq (t 18) (t 20)),
  mv 16 (t 21)] [17, 18, 19, 20, 21])
  (.cond (t 16)
   (.seq (.ops [fa 22 1 (t 2),
   l1 23 (t 22),
   fa 24 1 (t 3),
   l1 25 (t 24),
   o 26 (.ibin .lss (t 23) (t 25)),
   mv 4 (t 26)] [2, 3, 22, 23, 24, 25, 26])
   (.ret))
   (.seq (.ops [fa 28 2 (t 2),
   l1 29 (t 28),
   fa 30 2 (t 3),
   l1 31 (t 30),
   o 32 (.ibin .neq (t 29) (t 31)),
   mv 27 (t 32)] [28, 29, 30, 31, 32])
   (.cond (t 27)
    (.seq (.ops [fa 33 2 (t 2),
    l1 34 (t 33),
    fa 35 2 (t 3),
    l1 36 (t 35),
    o 37 (.ibin .lss (t 34) (t 36)),
    mv 4 (t 37)] [2, 3, 33, 34, 35, 36, 37])
    (.ret))
    (.skip))))))))
 (.seq (.ops [fa 38 3 (t 2),
 l1 39 (t 38),
 fa 40 3 (t 3),
 l1 41 (t 40),
 o 42 (.ibin .lss (t 39) (t 41)),
 mv 4 (t 42)] [2, 3, 38, 39, 40, 41, 42])
 (.ret)))
def r_msg_Less : List RRes := [.tmp 4]
theorem fo_msg_Less {args : List Value} {M : Mem} {R : Value → Mem → Prop} (hn : args.length ≤ 43) (h : vfn Tryd.prog c_msg_Less r_msg_Less args M R) : CallsM Tryd.prog F.msg_Less args M R :=
  fn_ok (kf := k_msg_Less) Tryd.func28 (by kernel_rfl) (by kernel_rfl) hn (by kernel_rfl) h
/-- portage/portageref13.Less -/
def k_ref13_Less (i : Nat) : List Nat := match i with | 0 => [0, 1, 4] | 1 => [2, 8, 9] | 2 => [3, 10, 11] | 4 => [12] | 6 => [16, 17, 18, 19, 20, 21, 22, 23] | 7 => [5, 6, 7, 25, 26, 27, 28, 29, 30, 31, 32, 33] | 5 => [14, 15] | _ => []
def c_ref13_Less : RCode :=
 .seq (.ops [o 2 (.box 31 (t 0)),
 o 3 (.box 31 (t 1)),
 mv 4 (kb false)] [0, 1, 4])
 (.seq (.ops [la 8 4 (t 2),
 ca 9 F.ref13_Numbers [(t 8)],
 mv 5 (t 9)] [2, 8, 9])
 (.seq (.ops [la 10 4 (t 3),
 ca 11 F.ref13_Numbers [(t 10)],
 mv 6 (t 11)] [3, 10, 11])
 (.seq (.seq (.ops [mv 7 (k 0)] [])
 (.block 0 (.loop (.seq (.seq (.ops [mv 12 (t 7),
  o 13 (.ibin .lss (t 12) (k 4))] [12])
  (.cond (t 13)
   (.skip)
   (.exit 0)))
  (.seq (.block 1 (.seq (.draw (.take (mv 16 (t 5)) (.take (mv 17 (t 7)) (.take (o 18 (.iaddr 1 (t 16) (t 17))) (.take (l1 19 (t 18)) (.take (mv 20 (t 6)) (.take (mv 21 (t 7)) (.take (o 22 (.iaddr 1 (t 20) (t 21))) (.take (l1 23 (t 22)) (.take (o 24 (.ibin .neq (t 19) (t 23))) (.done)))))))))) [16, 17, 18, 19, 20, 21, 22, 23])
  (.cond (t 24)
   (.seq (.draw (.take (mv 25 (t 5)) (.take (mv 26 (t 7)) (.take (o 27 (.iaddr 1 (t 25) (t 26))) (.take (l1 28 (t 27)) (.take (mv 29 (t 6)) (.take (mv 30 (t 7)) (.take (o 31 (.iaddr 1 (t 29) (t 30))) (.take (l1 32 (t 31)) (.take (o 33 (.ibin .lss (t 28) (t 32))) (.take (mv 4 (t 33)) (.done))))))))))) [5, 6, 7, 25, 26, 27, 28, 29, 30, 31, 32, 33])
   (.ret))
   (.skip))))
  (.ops [mv 14 (t 7),
  ad 15 (t 14) (k 1),
  mv 7 (t 15)] [14, 15]))))))
 (.seq (.ops [mv 4 (kb false)] [])
 (.ret)))))
def r_ref13_Less : List RRes := [.tmp 4]
theorem fo_ref13_Less {args : List Value} {M : Mem} {R : Value → Mem → Prop} (hn : args.length ≤ 34) (h : vfn Tryd.prog c_ref13_Less r_ref13_Less args M R) : CallsM Tryd.prog F.ref13_Less args M R :=
  fn_ok (kf := k_ref13_Less) Tryd.func29 (by kernel_rfl) (by kernel_rfl) hn (by kernel_rfl) h
/-- portage/msg.Check -/
def k_msg_Check (i : Nat) : List Nat := match i with | 0 => [0, 2] | 2 => [3, 4, 5, 6, 7, 8, 9, 10, 11, 12, 13, 14, 15, 16, 17, 18, 19, 20, 21, 22, 23, 24, 25, 26, 27, 28] | 4 => [1, 30, 31, 32, 33] | _ => []
def c_msg_Check : RCode :=
 .seq (.ops [o 1 (.box 31 (t 0)),
 mv 2 (k 0)] [0, 2])
 (.seq (.ops [mv 3 (fn F.msg_Check_1)] [])
 (.seq (.seq (.ops [mv 4 (t 3),
 fa 5 0 (t 1),
 l1 6 (t 5),
 o 7 (.call (t 4) [(t 6), (k 0), (k 63)]),
 o 8 (.not (t 7)),
 os 9 (.mov (t 8)),
 gf 9 10 (.mov (t 3)),
 gf 9 11 (.faddr 1 (t 1)),
 gf 9 12 (.load false 1 (t 11)),
 gf 9 13 (.call (t 10) [(t 12), (k 0), (k 63)]),
 gf 9 14 (.not (t 13)),
 o 15 (.pick (t 9) (kb true) (t 14)),
 os 16 (.mov (t 15)),
 gf 16 17 (.mov (t 3)),
 gf 16 18 (.faddr 2 (t 1)),
 gf 16 19 (.load false 1 (t 18)),
 gf 16 20 (.call (t 17) [(t 19), (k 1), (k 65535)]),
 gf 16 21 (.not (t 20)),
 o 22 (.pick (t 16) (kb true) (t 21)),
 os 23 (.mov (t 22)),
 gf 23 24 (.mov (t 3)),
 gf 23 25 (.faddr 3 (t 1)),
 gf 23 26 (.load false 1 (t 25)),
 gf 23 27 (.call (t 24) [(t 26), (k 1), (k 65535)]),
 gf 23 28 (.not (t 27)),
 o 29 (.pick (t 23) (kb true) (t 28))] [3, 4, 5, 6, 7, 8, 9, 10, 11, 12, 13, 14, 15, 16, 17, 18, 19, 20, 21, 22, 23, 24, 25, 26, 27, 28])
 (.cond (t 29)
  (.seq (.ops [mv 2 (k 1)] [])
  (.ret))
  (.skip)))
 (.seq (.seq (.ops [fa 30 0 (t 1),
 l1 31 (t 30),
 fa 32 1 (t 1),
 l1 33 (t 32),
 o 34 (.ibin .eql (t 31) (t 33))] [1, 30, 31, 32, 33])
 (.cond (t 34)
  (.seq (.ops [mv 2 (k 2)] [])
  (.ret))
  (.skip)))
 (.seq (.ops [mv 2 (k 0)] [])
 (.ret)))))
def r_msg_Check : List RRes := [.tmp 2]
theorem fo_msg_Check {args : List Value} {M : Mem} {R : Value → Mem → Prop} (hn : args.length ≤ 35) (h : vfn Tryd.prog c_msg_Check r_msg_Check args M R) : CallsM Tryd.prog F.msg_Check args M R :=
  fn_ok (kf := k_msg_Check) Tryd.func31 (by kernel_rfl) (by kernel_rfl) hn (by kernel_rfl) h
/-- portage/portageref13.Check -/
def k_ref13_Check (i : Nat) : List Nat := match i with | 0 => [0, 2] | 1 => [3, 4, 5, 6, 7, 8, 9, 10, 11, 12, 13, 14, 15, 16, 17, 18, 19, 20, 21, 22, 23, 24, 25, 26, 27, 28, 29, 30, 31, 32, 33, 34, 35, 36, 37, 38, 39] | 3 => [1, 41, 42, 43, 44] | _ => []
def c_ref13_Check : RCode :=
 .seq (.ops [o 1 (.box 31 (t 0)),
 mv 2 (k 0)] [0, 2])
 (.seq (.seq (.ops [fa 3 0 (t 1),
 l1 4 (t 3),
 o 5 (.ibin .lss (t 4) (k 0)),
 os 6 (.mov (t 5)),
 gf 6 7 (.faddr 0 (t 1)),
 gf 6 8 (.load false 1 (t 7)),
 gf 6 9 (.ibin .geq (t 8) (k 64)),
 o 10 (.pick (t 6) (kb true) (t 9)),
 os 11 (.mov (t 10)),
 gf 11 12 (.faddr 1 (t 1)),
 gf 11 13 (.load false 1 (t 12)),
 gf 11 14 (.ibin .lss (t 13) (k 0)),
 o 15 (.pick (t 11) (kb true) (t 14)),
 os 16 (.mov (t 15)),
 gf 16 17 (.faddr 1 (t 1)),
 gf 16 18 (.load false 1 (t 17)),
 gf 16 19 (.ibin .geq (t 18) (k 64)),
 o 20 (.pick (t 16) (kb true) (t 19)),
 os 21 (.mov (t 20)),
 gf 21 22 (.faddr 2 (t 1)),
 gf 21 23 (.load false 1 (t 22)),
 gf 21 24 (.ibin .lss (t 23) (k 1)),
 o 25 (.pick (t 21) (kb true) (t 24)),
 os 26 (.mov (t 25)),
 gf 26 27 (.faddr 2 (t 1)),
 gf 26 28 (.load false 1 (t 27)),
 gf 26 29 (.ibin .gtr (t 28) (k 65535)),
 o 30 (.pick (t 26) (kb true) (t 29)),
 os 31 (.mov (t 30)),
 gf 31 32 (.faddr 3 (t 1)),
 gf 31 33 (.load false 1 (t 32)),
 gf 31 34 (.ibin .lss (t 33) (k 1)),
 o 35 (.pick (t 31) (kb true) (t 34)),
 os 36 (.mov (t 35)),
 gf 36 37 (.faddr 3 (t 1)),
 gf 36 38 (.load false 1 (t 37)),
 gf 36 39 (.ibin .gtr (t 38) (k 65535)),
 o 40 (.pick (t 36) (kb true) (t 39))] [3, 4, 5, 6, 7, 8, 9, 10, 11, 12, 13, 14, 15, 16, 17, 18, 19, 20, 21, 22, 23, 24, 25, 26, 27, 28, 29, 30, 31, 32, 33, 34, 35, 36, 37, 38, 39])
 (.cond (t 40)
  (.seq (.ops [mv 2 (k 1)] [])
  (.ret))
  (.skip)))
 (.seq (.seq (.ops [fa 41 0 (t 1),
 l1 42 (t 41),
 fa 43 1 (t 1),
 l1 44 (t 43),
 o 45 (.ibin .eql (t 42) (t 44))] [1, 41, 42, 43, 44])
 (.cond (t 45)
  (.seq (.ops [mv 2 (k 2)] [])
  (.ret))
  (.skip)))
 (.seq (.ops [mv 2 (k 0)] [])
 (.ret))))
def r_ref13_Check : List RRes := [.tmp 2]
theorem fo_ref13_Check {args : List Value} {M : Mem} {R : Value → Mem → Prop} (hn : args.length ≤ 46) (h : vfn Tryd.prog c_ref13_Check r_ref13_Check args M R) : CallsM Tryd.prog F.ref13_Check args M R :=
  fn_ok (kf := k_ref13_Check) Tryd.func32 (by kernel_rfl) (by kernel_rfl) hn (by kernel_rfl) h
/-- portage/portageref13.Digits -/
def k_ref13_Digits (i : Nat) : List Nat := match i with | 0 => [2] | 2 => [4] | 3 => [6, 7, 8, 9, 10, 11, 12, 13] | 4 => [14, 15] | 5 => [0, 3, 16, 17, 18, 19, 20, 21, 22] | _ => []
def c_ref13_Digits : RCode :=
 .seq (.ops [mv 2 (.const (.string ByteArray.empty))] [2])
 (.seq (.ops [mv 3 (.const (.string ByteArray.empty))] [])
 (.seq (.block 0 (.loop (.seq (.seq (.ops [mv 4 (t 0),
  o 5 (.ibin .gtr (t 4) (k 9))] [4])
  (.cond (t 5)
   (.skip)
   (.exit 0)))
  (.block 1 (.seq (.ops [mv 6 (t 0),
  o 7 (.ibin .rem (t 6) (k 10)),
  ad 8 (k 48) (t 7),
  o 9 (.conv .u8 (t 8)),
  o 10 (.mkSl false 5 1 [(u 0)] [(0, 1, (t 9))]),
  o 11 (.strOf (t 10)),
  mv 12 (t 3),
  o 13 (.strE .add (t 11) (t 12)),
  mv 3 (t 13)] [6, 7, 8, 9, 10, 11, 12, 13])
  (.ops [mv 14 (t 0),
  o 15 (.ibin .quo (t 14) (k 10)),
  mv 0 (t 15)] [14, 15]))))))
 (.seq (.ops [mv 16 (t 0),
 ad 17 (k 48) (t 16),
 o 18 (.conv .u8 (t 17)),
 o 19 (.mkSl false 5 1 [(u 0)] [(0, 1, (t 18))]),
 o 20 (.strOf (t 19)),
 mv 21 (t 3),
 o 22 (.strE .add (t 20) (t 21)),
 mv 2 (t 22)] [0, 3, 16, 17, 18, 19, 20, 21, 22])
 (.ret))))
def r_ref13_Digits : List RRes := [.tmp 2]
theorem fo_ref13_Digits {args : List Value} {M : Mem} {R : Value → Mem → Prop} (hn : args.length ≤ 23) (h : vfn Tryd.prog c_ref13_Digits r_ref13_Digits args M R) : CallsM Tryd.prog F.ref13_Digits args M R :=
  fn_ok (kf := k_ref13_Digits) Tryd.func33 (by kernel_rfl) (by kernel_rfl) hn (by kernel_rfl) h
/-- portage/portageref13.Numbers -/
def k_ref13_Numbers (i : Nat) : List Nat := match i with | 0 => [0, 2] | 1 => [1, 3, 4, 5, 6, 7, 8, 9, 10, 11] | _ => []
def c_ref13_Numbers : RCode :=
 .seq (.ops [o 1 (.box 31 (t 0)),
 mv 2 (.const sn)] [0, 2])
 (.seq (.ops [fa 3 0 (t 1),
 l1 4 (t 3),
 fa 5 1 (t 1),
 l1 6 (t 5),
 fa 7 2 (t 1),
 l1 8 (t 7),
 fa 9 3 (t 1),
 l1 10 (t 9),
 o 11 (.mkSl false 3 4 [(i 0), (i 0), (i 0), (i 0)] [(0, 1, (t 4)), (1, 1, (t 6)), (2, 1, (t 8)), (3, 1, (t 10))]),
 mv 2 (t 11)] [1, 3, 4, 5, 6, 7, 8, 9, 10, 11])
 (.ret))
def r_ref13_Numbers : List RRes := [.tmp 2]
theorem fo_ref13_Numbers {args : List Value} {M : Mem} {R : Value → Mem → Prop} (hn : args.length ≤ 12) (h : vfn Tryd.prog c_ref13_Numbers r_ref13_Numbers args M R) : CallsM Tryd.prog F.ref13_Numbers args M R :=
  fn_ok (kf := k_ref13_Numbers) Tryd.func34 (by kernel_rfl) (by kernel_rfl) hn (by kernel_rfl) h
/-- portage/msg.Check$1 -/
def k_msg_Check_1 (i : Nat) : List Nat := match i with | 0 => [6] | 1 => [0, 1, 2, 7, 8, 9, 10, 11, 12, 13, 14] | _ => []
def c_msg_Check_1 : RCode :=
 .seq (.ops [mv 6 (kb false)] [6])
 (.seq (.ops [mv 7 (t 0),
 mv 8 (t 1),
 o 9 (.ibin .geq (t 7) (t 8)),
 os 10 (.mov (t 9)),
 gt 10 11 (.mov (t 0)),
 gt 10 12 (.mov (t 2)),
 gt 10 13 (.ibin .leq (t 11) (t 12)),
 o 14 (.pick (t 10) (t 13) (kb false)),
 mv 6 (t 14)] [0, 1, 2, 7, 8, 9, 10, 11, 12, 13, 14])
 (.ret))
def r_msg_Check_1 : List RRes := [.tmp 6]
theorem fo_msg_Check_1 {args : List Value} {M : Mem} {R : Value → Mem → Prop} (hn : args.length ≤ 15) (h : vfn Tryd.prog c_msg_Check_1 r_msg_Check_1 args M R) : CallsM Tryd.prog F.msg_Check_1 args M R :=
  fn_ok (kf := k_msg_Check_1) Tryd.func36 (by kernel_rfl) (by kernel_rfl) hn (by kernel_rfl) h
/-- math/bits.Len64 -/
def k_math_bits_Len64 (i : Nat) : List Nat := match i with | 1 => [3] | 2 => [5, 6] | 4 => [7] | 5 => [9, 10] | 6 => [11, 12] | 7 => [13] | 8 => [15, 16] | 9 => [17, 18] | 10 => [0, 19, 20, 21, 22, 23, 24] | _ => []
def c_math_bits_Len64 : RCode :=
 .seq (.ops [mv 2 (k 0)] [])
 (.seq (.seq (.ops [mv 3 (t 0),
 o 4 (.ibin .geq (t 3) (.const (.int .u64 4294967296)))] [3])
 (.cond (t 4)
  (.seq (.ops [mv 5 (t 0),
  o 6 (.ibin .shr (t 5) (.const (.int .u64 32))),
  mv 0 (t 6)] [5, 6])
  (.ops [mv 2 (k 32)] []))
  (.skip)))
 (.seq (.seq (.ops [mv 7 (t 0),
 o 8 (.ibin .geq (t 7) (.const (.int .u64 65536)))] [7])
 (.cond (t 8)
  (.seq (.ops [mv 9 (t 0),
  o 10 (.ibin .shr (t 9) (.const (.int .u64 16))),
  mv 0 (t 10)] [9, 10])
  (.ops [mv 11 (t 2),
  ad 12 (t 11) (k 16),
  mv 2 (t 12)] [11, 12]))
  (.skip)))
 (.seq (.seq (.ops [mv 13 (t 0),
 o 14 (.ibin .geq (t 13) (.const (.int .u64 256)))] [13])
 (.cond (t 14)
  (.seq (.ops [mv 15 (t 0),
  o 16 (.ibin .shr (t 15) (.const (.int .u64 8))),
  mv 0 (t 16)] [15, 16])
  (.ops [mv 17 (t 2),
  ad 18 (t 17) (k 8),
  mv 2 (t 18)] [17, 18]))
  (.skip)))
 (.seq (.ops [mv 19 (t 2),
 mv 20 (t 0),
 o 21 (.conv .u8 (t 20)),
 o 22 (.sidx (.const (.string ⟨#[0, 1, 2, 2, 3, 3, 3, 3, 4, 4, 4, 4, 4, 4, 4, 4, 5, 5, 5, 5, 5, 5, 5, 5, 5, 5, 5, 5, 5, 5, 5, 5, 6, 6, 6, 6, 6, 6, 6, 6, 6, 6, 6, 6, 6, 6, 6, 6, 6, 6, 6, 6, 6, 6, 6, 6, 6, 6, 6, 6, 6, 6, 6, 6, 7, 7, 7, 7, 7, 7, 7, 7, 7, 7, 7, 7, 7, 7, 7, 7, 7, 7, 7, 7, 7, 7, 7, 7, 7, 7, 7, 7, 7, 7, 7, 7, 7, 7, 7, 7, 7, 7, 7, 7, 7, 7, 7, 7, 7, 7, 7, 7, 7, 7, 7, 7, 7, 7, 7, 7, 7, 7, 7, 7, 7, 7, 7, 7, 8, 8, 8, 8, 8, 8, 8, 8, 8, 8, 8, 8, 8, 8, 8, 8, 8, 8, 8, 8, 8, 8, 8, 8, 8, 8, 8, 8, 8, 8, 8, 8, 8, 8, 8, 8, 8, 8, 8, 8, 8, 8, 8, 8, 8, 8, 8, 8, 8, 8, 8, 8, 8, 8, 8, 8, 8, 8, 8, 8, 8, 8, 8, 8, 8, 8, 8, 8, 8, 8, 8, 8, 8, 8, 8, 8, 8, 8, 8, 8, 8, 8, 8, 8, 8, 8, 8, 8, 8, 8, 8, 8, 8, 8, 8, 8, 8, 8, 8, 8, 8, 8, 8, 8, 8, 8, 8, 8, 8, 8, 8, 8, 8, 8, 8, 8, 8, 8, 8, 8, 8, 8, 8, 8, 8, 8, 8, 8]⟩)) (t 21)),
 o 23 (.conv .i64 (t 22)),
 ad 24 (t 19) (t 23),
 mv 2 (t 24)] [0, 19, 20, 21, 22, 23, 24])
 (.ret)))))
def r_math_bits_Len64 : List RRes := [.tmp 2]
theorem fo_math_bits_Len64 {args : List Value} {M : Mem} {R : Value → Mem → Prop} (hn : args.length ≤ 25) (h : vfn Tryd.prog c_math_bits_Len64 r_math_bits_Len64 args M R) : CallsM Tryd.prog F.math_bits_Len64 args M R :=
  fn_ok (kf := k_math_bits_Len64) Tryd.func42 (by kernel_rfl) (by kernel_rfl) hn (by kernel_rfl) h
/-- math/bits.TrailingZeros -/
def k_math_bits_TrailingZeros (i : Nat) : List Nat := match i with | 0 => [2] | 1 => [0, 3, 4, 5] | 2 => [0, 6, 7] | _ => []
def c_math_bits_TrailingZeros : RCode :=
 .seq (.ops [mv 2 (k 0)] [2])
 (.seq (.cond (kb false)
  (.seq (.ops [mv 3 (t 0),
  o 4 (.conv .u32 (t 3)),
  ca 5 F.math_bits_TrailingZeros32 [(t 4)],
  mv 2 (t 5)] [0, 3, 4, 5])
  (.ret))
  (.skip))
 (.seq (.ops [mv 6 (t 0),
 ca 7 F.math_bits_TrailingZeros64 [(t 6)],
 mv 2 (t 7)] [0, 6, 7])
 (.ret)))
def r_math_bits_TrailingZeros : List RRes := [.tmp 2]
theorem fo_math_bits_TrailingZeros {args : List Value} {M : Mem} {R : Value → Mem → Prop} (hn : args.length ≤ 8) (h : vfn Tryd.prog c_math_bits_TrailingZeros r_math_bits_TrailingZeros args M R) : CallsM Tryd.prog F.math_bits_TrailingZeros args M R :=
  fn_ok (kf := k_math_bits_TrailingZeros) Tryd.func45 (by kernel_rfl) (by kernel_rfl) hn (by kernel_rfl) h
/-- math/bits.TrailingZeros32 -/
def k_math_bits_TrailingZeros32 (i : Nat) : List Nat := match i with | 0 => [2] | 1 => [3] | 3 => [0, 5, 6, 7, 8, 9, 10, 11, 12, 13] | _ => []
def c_math_bits_TrailingZeros32 : RCode :=
 .seq (.ops [mv 2 (k 0)] [2])
 (.seq (.seq (.ops [mv 3 (t 0),
 o 4 (.ibin .eql (t 3) (.const (.int .u32 0)))] [3])
 (.cond (t 4)
  (.seq (.ops [mv 2 (k 32)] [])
  (.ret))
  (.skip)))
 (.seq (.ops [mv 5 (t 0),
 mv 6 (t 0),
 o 7 (.uneg (t 6)),
 o 8 (.ibin .and (t 5) (t 7)),
 o 9 (.ibin .mul (t 8) (.const (.int .u32 125613361))),
 o 10 (.ibin .shr (t 9) (.const (.int .u64 27))),
 o 11 (.iaddrA 32 1 (.global 1) (t 10)),
 l1 12 (t 11),
 o 13 (.conv .i64 (t 12)),
 mv 2 (t 13)] [0, 5, 6, 7, 8, 9, 10, 11, 12, 13])
 (.ret)))
def r_math_bits_TrailingZeros32 : List RRes := [.tmp 2]
theorem fo_math_bits_TrailingZeros32 {args : List Value} {M : Mem} {R : Value → Mem → Prop} (hn : args.length ≤ 14) (h : vfn Tryd.prog c_math_bits_TrailingZeros32 r_math_bits_TrailingZeros32 args M R) : CallsM Tryd.prog F.math_bits_TrailingZeros32 args M R :=
  fn_ok (kf := k_math_bits_TrailingZeros32) Tryd.func46 (by kernel_rfl) (by kernel_rfl) hn (by kernel_rfl) h
/-- math/bits.TrailingZeros64 -/
def k_math_bits_TrailingZeros64 (i : Nat) : List Nat := match i with | 0 => [2] | 1 => [3] | 3 => [0, 5, 6, 7, 8, 9, 10, 11, 12, 13] | _ => []
def c_math_bits_TrailingZeros64 : RCode :=
 .seq (.ops [mv 2 (k 0)] [2])
 (.seq (.seq (.ops [mv 3 (t 0),
 o 4 (.ibin .eql (t 3) (.const (.int .u64 0)))] [3])
 (.cond (t 4)
  (.seq (.ops [mv 2 (k 64)] [])
  (.ret))
  (.skip)))
 (.seq (.ops [mv 5 (t 0),
 mv 6 (t 0),
 o 7 (.uneg (t 6)),
 o 8 (.ibin .and (t 5) (t 7)),
 o 9 (.ibin .mul (t 8) (.const (.int .u64 285870213051353865))),
 o 10 (.ibin .shr (t 9) (.const (.int .u64 58))),
 o 11 (.iaddrA 64 1 (.global 2) (t 10)),
 l1 12 (t 11),
 o 13 (.conv .i64 (t 12)),
 mv 2 (t 13)] [0, 5, 6, 7, 8, 9, 10, 11, 12, 13])
 (.ret)))
def r_math_bits_TrailingZeros64 : List RRes := [.tmp 2]
theorem fo_math_bits_TrailingZeros64 {args : List Value} {M : Mem} {R : Value → Mem → Prop} (hn : args.length ≤ 14) (h : vfn Tryd.prog c_math_bits_TrailingZeros64 r_math_bits_TrailingZeros64 args M R) : CallsM Tryd.prog F.math_bits_TrailingZeros64 args M R :=
  fn_ok (kf := k_math_bits_TrailingZeros64) Tryd.func47 (by kernel_rfl) (by kernel_rfl) hn (by kernel_rfl) h

end Go.Proofs.YtphioaaifcmeaaaDoor
