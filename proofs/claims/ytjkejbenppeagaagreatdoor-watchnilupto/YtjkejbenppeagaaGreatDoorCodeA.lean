/- The resolved texts of the functions; made by program. -/
import Derived.Test.YtjkejbenppeagaaGreatDoorNames
namespace Go.Proofs.YtjkejbenppeagaaGreatDoor
open Go.Vm Go.Vm.S
/-- portage/portagelaw24.WatchNil -/
def k_law24_WatchNil (i : Nat) : List Nat := match i with | 0 => [2] | 1 => [0, 3, 4, 5, 6, 7, 8, 9, 10, 11, 12, 13] | _ => []
def c_law24_WatchNil : RCode :=
 .seq (.ops [mv 2 (kb false)] [2])
 (.seq (.ops [ca 3 F.watch_Lost [(.const (.pointer none))],
 o 4 (.len (t 3)),
 o 5 (.ibin .eql (t 4) (k 0)),
 os 6 (.mov (t 5)),
 gt 6 7 (.mov (t 0)),
 gt 6 8 (.call (fn F.watch_Look) [(.const (.pointer none)), (t 7)]),
 gt 6 9 (.call (fn F.watch_Right) [(t 8)]),
 o 10 (.pick (t 6) (t 9) (kb false)),
 os 11 (.mov (t 10)),
 gt 11 12 (.call (fn F.law24_awake) []),
 o 13 (.pick (t 11) (t 12) (kb false)),
 mv 2 (t 13)] [0, 3, 4, 5, 6, 7, 8, 9, 10, 11, 12, 13])
 (.ret))
def r_law24_WatchNil : List RRes := [.tmp 2]
theorem fo_law24_WatchNil {args : List Value} {M : Mem} {R : Value → Mem → Prop} (hn : args.length ≤ 14) (h : vfn Tryz.prog c_law24_WatchNil r_law24_WatchNil args M R) : CallsM Tryz.prog F.law24_WatchNil args M R :=
  fn_ok (kf := k_law24_WatchNil) Tryz.func3 (by kernel_rfl) (by kernel_rfl) hn (by kernel_rfl) h
/-- portage/watch.Lost -/
def k_watch_Lost (i : Nat) : List Nat := match i with | 0 => [2] | 2 => [9] | 4 => [13] | 5 => [4, 14, 15, 16, 17, 18, 19] | 6 => [20] | 8 => [0, 21] | 10 => [26, 27] | 11 => [28, 29, 30, 31, 32, 33, 34, 35, 36, 37, 38, 39, 40, 41, 42, 43, 44, 45, 46, 47, 48, 49, 50, 51, 52] | 12 => [54, 55, 56] | 13 => [8, 57, 58] | 14 => [7, 60, 61, 62, 63, 64] | 15 => [65] | 16 => [5, 66] | _ => []
def c_watch_Lost : RCode :=
 .seq (.ops [mv 2 (.const sn)] [2])
 (.seq (.ops [mv 3 (.const sn)] [])
 (.seq (.seq (.ops [mv 9 (t 0),
 ca 10 F.mesh_Mesh_Size [(t 9)],
 mv 11 (k 0)] [9])
 (.block 0 (.loop (.seq (.ops [o 12 (.ibin .lss (t 11) (t 10))] [])
  (.seq (.cond (t 12)
   (.skip)
   (.exit 0))
  (.seq (.block 1 (.seq (.ops [mv 13 (t 11),
  mv 4 (t 13)] [13])
  (.ops [mv 14 (t 3),
  mv 15 (t 0),
  mv 16 (t 4),
  ca 17 F.mesh_Mesh_Safe [(t 15), (t 16)],
  o 18 (.mkSl true 37 1 [(i 0), (i 0), sn, sn, sn] [(0, 5, (t 17))]),
  o 19 (.app 37 5 88 [(i 0), (i 0), sn, sn, sn] (t 14) (t 18)),
  mv 3 (t 19)] [4, 14, 15, 16, 17, 18, 19])))
  (.ops [ad 20 (t 11) (k 1),
  mv 11 (t 20)] [20])))))))
 (.seq (.ops [mv 5 (.const sn)] [])
 (.seq (.seq (.ops [mv 21 (t 0),
 ca 22 F.mesh_Mesh_Told [(t 21)],
 o 23 (.len (t 22)),
 mv 24 (k 0)] [0, 21])
 (.block 2 (.loop (.seq (.ops [o 25 (.ibin .lss (t 24) (t 23))] [])
  (.seq (.cond (t 25)
   (.skip)
   (.exit 2))
  (.seq (.block 3 (.seq (.ops [o 26 (.iaddr 9 (t 22) (t 24)),
  la 27 9 (t 26),
  o 7 (.alloc 46 [(i 0), (i 0), (i 0), (i 0), (i 0), (i 0), (i 0), sn, (.bool false)]),
  st 9 (t 7) (t 27)] [26, 27])
  (.seq (.seq (.draw (.take (fa 28 8 (t 7)) (.take (l1 29 (t 28)) (.take (os 30 (.mov (t 29))) (.take (gf 30 31 (.faddr 6 (t 7))) (.take (gf 30 32 (.load false 1 (t 31))) (.take (gf 30 33 (.ibin .neq (t 32) (k 0))) (.take (o 34 (.pick (t 30) (kb true) (t 33))) (.take (os 35 (.mov (t 34))) (.take (gf 35 36 (.faddr 2 (t 7))) (.take (gf 35 37 (.faddr 1 (t 36))) (.take (gf 35 38 (.load false 1 (t 37))) (.take (gf 35 39 (.mov (t 3))) (.take (gf 35 40 (.len (t 39))) (.take (gf 35 41 (.ibin .lss (t 38) (t 40))) (.take (⟨(some 42), .mov (t 41), some (35, false), true⟩) (.take (gt 42 43 (.mov (t 3))) (.take (gt 42 44 (.faddr 2 (t 7))) (.take (gt 42 45 (.faddr 1 (t 44))) (.take (gt 42 46 (.load false 1 (t 45))) (.take (gt 42 47 (.iaddr 5 (t 43) (t 46))) (.take (gt 42 48 (.load true 5 (t 47))) (.take (gt 42 49 (.faddr 2 (t 7))) (.take (gt 42 50 (.load true 4 (t 49))) (.alt (gt 42 51 (.call (fn F.watch_delivered) [(t 48), (t 50)])) false
   (.take (gf 35 52 (.pick (t 42) (t 51) (kb false))) (.take (o 53 (.pick (t 35) (kb true) (t 52))) (.done)))
   (.none))))))))))))))))))))))))) [28, 29, 30, 31, 32, 33, 34, 35, 36, 37, 38, 39, 40, 41, 42, 43, 44, 45, 46, 47, 48, 49, 50, 51, 52])
  (.cond (t 53)
   (.exit 3)
   (.skip)))
  (.seq (.ops [mv 54 (t 3),
  o 55 (.mkfn F.watch_Lost_1 [(t 7)]),
  ca 56 F.watch_some_api_State [(t 54), (t 55)],
  mv 8 (t 56)] [54, 55, 56])
  (.seq (.ops [mv 57 (t 8),
  o 58 (.len (t 57)),
  o 59 (.ibin .eql (t 58) (k 0))] [8, 57, 58])
  (.cond (t 59)
   (.ops [mv 60 (t 5),
   fa 61 2 (t 7),
   la 62 4 (t 61),
   o 63 (.mkSl true 42 1 [(i 0), (i 0), (i 0), (i 0)] [(0, 4, (t 62))]),
   o 64 (.app 42 4 32 [(i 0), (i 0), (i 0), (i 0)] (t 60) (t 63)),
   mv 5 (t 64)] [7, 60, 61, 62, 63, 64])
   (.skip)))))))
  (.ops [ad 65 (t 24) (k 1),
  mv 24 (t 65)] [65])))))))
 (.seq (.ops [mv 66 (t 5),
 mv 2 (t 66)] [5, 66])
 (.ret))))))
def r_watch_Lost : List RRes := [.tmp 2]
theorem fo_watch_Lost {args : List Value} {M : Mem} {R : Value → Mem → Prop} (hn : args.length ≤ 67) (h : vfn Tryz.prog c_watch_Lost r_watch_Lost args M R) : CallsM Tryz.prog F.watch_Lost args M R :=
  fn_ok (kf := k_watch_Lost) Tryz.func4 (by kernel_rfl) (by kernel_rfl) hn (by kernel_rfl) h
/-- portage/watch.Right -/
def k_watch_Right (i : Nat) : List Nat := match i with | 0 => [2] | 1 => [0, 3, 4, 5] | _ => []
def c_watch_Right : RCode :=
 .seq (.ops [mv 2 (kb false)] [2])
 (.seq (.ops [mv 3 (t 0),
 o 4 (.len (t 3)),
 o 5 (.ibin .eql (t 4) (k 0)),
 mv 2 (t 5)] [0, 3, 4, 5])
 (.ret))
def r_watch_Right : List RRes := [.tmp 2]
theorem fo_watch_Right {args : List Value} {M : Mem} {R : Value → Mem → Prop} (hn : args.length ≤ 6) (h : vfn Tryz.prog c_watch_Right r_watch_Right args M R) : CallsM Tryz.prog F.watch_Right args M R :=
  fn_ok (kf := k_watch_Right) Tryz.func5 (by kernel_rfl) (by kernel_rfl) hn (by kernel_rfl) h
/-- portage/watch.Look -/
def k_watch_Look (i : Nat) : List Nat := match i with | 0 => [4] | 1 => [1, 8, 9, 10, 11] | 2 => [0, 12] | 4 => [17, 18] | 5 => [7, 19, 20, 21, 22, 23] | 6 => [24] | 7 => [5, 25] | _ => []
def c_watch_Look : RCode :=
 .seq (.ops [mv 4 (.const sn)] [4])
 (.seq (.ops [mv 8 (t 1),
 mv 9 (t 0),
 ca 10 F.mesh_Mesh_Told [(t 9)],
 ca 11 F.watch_Judge [(t 8), (t 10)],
 mv 5 (t 11)] [1, 8, 9, 10, 11])
 (.seq (.seq (.ops [mv 12 (t 0),
 ca 13 F.watch_Lost [(t 12)],
 o 14 (.len (t 13)),
 mv 15 (k 0)] [0, 12])
 (.block 0 (.loop (.seq (.ops [o 16 (.ibin .lss (t 15) (t 14))] [])
  (.seq (.cond (t 16)
   (.skip)
   (.exit 0))
  (.seq (.block 1 (.seq (.ops [o 17 (.iaddr 4 (t 13) (t 15)),
  la 18 4 (t 17),
  o 7 (.alloc 42 [(i 0), (i 0), (i 0), (i 0)]),
  st 4 (t 7) (t 18)] [17, 18])
  (.ops [mv 19 (t 5),
  la 20 4 (t 7),
  o 21 (.build [(i 0), (i 0), (i 0), (i 0), (i 0), (i 0)] [(0, 1, (k 5)), (1, 1, (k (-1))), (2, 4, (t 20))]),
  o 22 (.mkSl true 56 1 [(i 0), (i 0), (i 0), (i 0), (i 0), (i 0)] [(0, 6, (t 21))]),
  o 23 (.app 56 6 48 [(i 0), (i 0), (i 0), (i 0), (i 0), (i 0)] (t 19) (t 22)),
  mv 5 (t 23)] [7, 19, 20, 21, 22, 23])))
  (.ops [ad 24 (t 15) (k 1),
  mv 15 (t 24)] [24])))))))
 (.seq (.ops [mv 25 (t 5),
 mv 4 (t 25)] [5, 25])
 (.ret))))
def r_watch_Look : List RRes := [.tmp 4]
theorem fo_watch_Look {args : List Value} {M : Mem} {R : Value → Mem → Prop} (hn : args.length ≤ 26) (h : vfn Tryz.prog c_watch_Look r_watch_Look args M R) : CallsM Tryz.prog F.watch_Look args M R :=
  fn_ok (kf := k_watch_Look) Tryz.func6 (by kernel_rfl) (by kernel_rfl) hn (by kernel_rfl) h
/-- portage/portagelaw24.awake -/
def k_law24_awake (i : Nat) : List Nat := match i with | 0 => [0] | 1 => [5] | 2 => [6, 7, 8, 9] | 3 => [10, 11, 12, 13] | 4 => [2, 3, 14, 15, 16, 17, 18] | 5 => [1, 4, 19, 20, 21, 22, 23, 24, 25, 26, 27, 28, 29, 30, 31, 32, 33, 34, 35, 36, 37, 38, 39, 40, 41, 42, 43, 44] | _ => []
def c_law24_awake : RCode :=
 .seq (.ops [mv 0 (kb false)] [0])
 (.seq (.ops [o 5 (.build [(i 0), (i 0), (i 0), (i 0)] [(1, 1, (k 1)), (2, 1, (k 1)), (3, 1, (k 1))]),
 o 1 (.alloc 42 [(i 0), (i 0), (i 0), (i 0)]),
 st 4 (t 1) (t 5)] [5])
 (.seq (.ops [o 6 (.mkSl false 5 1 [(u 0)] [(0, 1, (.const (u 120)))]),
 o 7 (.strish (t 6)),
 o 8 (.build [(i 0), (i 0), (i 0), (i 0), sn] [(0, 1, (k 1)), (2, 1, (k 1)), (4, 1, (t 7))]),
 o 9 (.mkSl false 58 1 [(i 0), (i 0), (i 0), (i 0), sn] [(0, 5, (t 8))]),
 mv 2 (t 9)] [6, 7, 8, 9])
 (.seq (.ops [la 10 4 (t 1),
 o 11 (.mkSl false 5 1 [(u 0)] [(0, 1, (.const (u 120)))]),
 o 12 (.strish (t 11)),
 o 13 (.build [(i 0), (i 0), (i 0), (i 0), (i 0), (i 0), (i 0), sn, (.bool false)] [(1, 1, (k 1)), (2, 4, (t 10)), (7, 1, (t 12)), (8, 1, (kb true))]),
 o 3 (.alloc 46 [(i 0), (i 0), (i 0), (i 0), (i 0), (i 0), (i 0), sn, (.bool false)]),
 st 9 (t 3) (t 13)] [10, 11, 12, 13])
 (.seq (.ops [mv 14 (t 2),
 la 15 9 (t 3),
 la 16 9 (t 3),
 o 17 (.mkSl false 46 2 [(i 0), (i 0), (i 0), (i 0), (i 0), (i 0), (i 0), sn, (.bool false), (i 0), (i 0), (i 0), (i 0), (i 0), (i 0), (i 0), sn, (.bool false)] [(0, 9, (t 15)), (9, 9, (t 16))]),
 ca 18 F.watch_Judge [(t 14), (t 17)],
 mv 4 (t 18)] [2, 3, 14, 15, 16, 17, 18])
 (.seq (.draw (.take (mv 19 (t 4)) (.take (o 20 (.len (t 19))) (.take (o 21 (.ibin .eql (t 20) (k 1))) (.take (os 22 (.mov (t 21))) (.take (gt 22 23 (.mov (t 4))) (.take (gt 22 24 (.iaddr 6 (t 23) (k 0))) (.take (gt 22 25 (.load true 6 (t 24))) (.take (gt 22 26 (.load true 4 (t 1))) (.take (gt 22 27 (.build [(i 0), (i 0), (i 0), (i 0), (i 0), (i 0)] [(0, 1, (k 1)), (1, 1, (k 1)), (2, 4, (t 26))])) (.take (gt 22 28 (.aeq .eql 6 (t 25) (t 27))) (.take (o 29 (.pick (t 22) (t 28) (kb false))) (.take (os 30 (.mov (t 29))) (.take (gt 30 31 (.mov (t 4))) (.take (gt 30 32 (.iaddr 6 (t 31) (k 0))) (.take (gt 30 33 (.load true 6 (t 32))) (.alt (gt 30 34 (.call (fn F.watch_Text) [(t 33)])) false
  (.take (gt 30 35 (.strE .eql (t 34) (.const (.string ⟨#[116, 119, 105, 99, 101, 32, 49, 32, 48, 62, 49, 58, 49, 46, 49]⟩)))) (.take (o 36 (.pick (t 30) (t 35) (kb false))) (.take (os 37 (.mov (t 36))) (.take (gt 37 38 (.mov (t 4))) (.alt (gt 37 39 (.call (fn F.watch_Right) [(t 38)])) true
   (.take (gt 37 40 (.not (t 39))) (.take (o 41 (.pick (t 37) (t 40) (kb false))) (.take (os 42 (.mov (t 41))) (.alt (gt 42 43 (.call (fn F.watch_Right) [(.const sn)])) true
    (.take (o 44 (.pick (t 42) (t 43) (kb false))) (.take (mv 0 (t 44)) (.done)))
    (.none)))))
   (.none))))))
  (.none))))))))))))))))) [1, 4, 19, 20, 21, 22, 23, 24, 25, 26, 27, 28, 29, 30, 31, 32, 33, 34, 35, 36, 37, 38, 39, 40, 41, 42, 43, 44])
 (.ret))))))
def r_law24_awake : List RRes := [.tmp 0]
theorem fo_law24_awake {args : List Value} {M : Mem} {R : Value → Mem → Prop} (hn : args.length ≤ 45) (h : vfn Tryz.prog c_law24_awake r_law24_awake args M R) : CallsM Tryz.prog F.law24_awake args M R :=
  fn_ok (kf := k_law24_awake) Tryz.func7 (by kernel_rfl) (by kernel_rfl) hn (by kernel_rfl) h
/-- (*portage/mesh.Mesh).Size -/
def k_mesh_Mesh_Size (i : Nat) : List Nat := match i with | 0 => [2] | 1 => [3] | 3 => [0, 5, 6, 7, 8, 9] | _ => []
def c_mesh_Mesh_Size : RCode :=
 .seq (.ops [mv 2 (k 0)] [2])
 (.seq (.seq (.ops [mv 3 (t 0),
 o 4 (.pnil .eql (t 3) (.const (.pointer none)))] [3])
 (.cond (t 4)
  (.seq (.ops [mv 2 (k 0)] [])
  (.ret))
  (.skip)))
 (.seq (.ops [mv 5 (t 0),
 o 6 (.nilck (t 5)),
 fa 7 12 (t 6),
 l1 8 (t 7),
 o 9 (.len (t 8)),
 mv 2 (t 9)] [0, 5, 6, 7, 8, 9])
 (.ret)))
def r_mesh_Mesh_Size : List RRes := [.tmp 2]
theorem fo_mesh_Mesh_Size {args : List Value} {M : Mem} {R : Value → Mem → Prop} (hn : args.length ≤ 10) (h : vfn Tryz.prog c_mesh_Mesh_Size r_mesh_Mesh_Size args M R) : CallsM Tryz.prog F.mesh_Mesh_Size args M R :=
  fn_ok (kf := k_mesh_Mesh_Size) Tryz.func8 (by kernel_rfl) (by kernel_rfl) hn (by kernel_rfl) h
/-- (*portage/mesh.Mesh).Safe -/
def k_mesh_Mesh_Safe (i : Nat) : List Nat := match i with | 1 => [9, 10, 11] | 2 => [13] | 3 => [14, 15, 16, 17, 18, 19, 20, 21] | 4 => [22, 23] | 5 => [24, 25] | 6 => [0, 1, 5, 26, 27, 28, 29, 30, 31, 32, 33, 34, 35, 36, 37, 38, 39, 40, 41] | 7 => [7, 42] | 8 => [44] | 9 => [6, 45, 46] | 10 => [47, 48, 49, 50] | 11 => [8, 51] | _ => []
def c_mesh_Mesh_Safe : RCode :=
 .seq (.ops [o 4 (.alloc 37 [(i 0), (i 0), sn, sn, sn])] [])
 (.seq (.seq (.ops [mv 9 (t 0),
 mv 10 (t 1),
 ca 11 F.mesh_Mesh_is [(t 9), (t 10)],
 o 12 (.not (t 11))] [9, 10, 11])
 (.cond (t 12)
  (.seq (.ops [o 13 (.build [(i 0), (i 0), sn, sn, sn] []),
  st 5 (t 4) (t 13)] [13])
  (.ret))
  (.skip)))
 (.seq (.ops [mv 14 (t 0),
 o 15 (.nilck (t 14)),
 fa 16 11 (t 15),
 l1 17 (t 16),
 mv 18 (t 1),
 o 19 (.iaddr 1 (t 17) (t 18)),
 l1 20 (t 19),
 ca 21 F.disk_Disk_Fork [(t 20)],
 mv 5 (t 21)] [14, 15, 16, 17, 18, 19, 20, 21])
 (.seq (.ops [mv 22 (t 5),
 ca 23 F.disk_Disk_Crash [(t 22), (.const sn)]] [22, 23])
 (.seq (.ops [mv 24 (t 5),
 ca 25 F.disk_Disk_Limit [(t 24), (k 1048576)]] [24, 25])
 (.seq (.draw (.take (mv 27 (t 5)) (.take (mv 28 (t 1)) (.take (mv 29 (t 0)) (.take (o 30 (.nilck (t 29))) (.take (fa 31 0 (t 30)) (.take (fa 32 0 (t 31)) (.take (la 33 3 (t 32)) (.take (mv 34 (t 0)) (.take (o 35 (.nilck (t 34))) (.take (fa 36 0 (t 35)) (.take (fa 37 4 (t 36)) (.take (l1 38 (t 37)) (.alt (ca 39 F.custody_Open [(t 27), (t 28), (t 33), (t 38)]) false
  (.take (mv 26 (t 39)) (.take (ex 40 (t 26) 0) (.take (ex 41 (t 26) 1) (.take (mv 6 (t 40)) (.take (mv 7 (t 41)) (.done))))))
  (.none)))))))))))))) [0, 1, 5, 26, 27, 28, 29, 30, 31, 32, 33, 34, 35, 36, 37, 38, 39, 40, 41])
 (.seq (.seq (.ops [mv 42 (t 7),
 o 43 (.ibin .neq (t 42) (k 0))] [7, 42])
 (.cond (t 43)
  (.seq (.ops [o 44 (.build [(i 0), (i 0), sn, sn, sn] []),
  st 5 (t 4) (t 44)] [44])
  (.ret))
  (.skip)))
 (.seq (.ops [mv 45 (t 6),
 ca 46 F.custody_Custody_State [(t 45)],
 o 8 (.alloc 37 [(i 0), (i 0), sn, sn, sn]),
 st 5 (t 8) (t 46)] [6, 45, 46])
 (.seq (.ops [fa 47 1 (t 8),
 l1 48 (t 47),
 o 49 (.ibin .sub (t 48) (k 1)),
 fa 50 1 (t 8),
 st 1 (t 50) (t 49)] [47, 48, 49, 50])
 (.seq (.ops [la 51 5 (t 8),
 st 5 (t 4) (t 51)] [8, 51])
 (.ret))))))))))
def r_mesh_Mesh_Safe : List RRes := [.cell true 5 4]
theorem fo_mesh_Mesh_Safe {args : List Value} {M : Mem} {R : Value → Mem → Prop} (hn : args.length ≤ 52) (h : vfn Tryz.prog c_mesh_Mesh_Safe r_mesh_Mesh_Safe args M R) : CallsM Tryz.prog F.mesh_Mesh_Safe args M R :=
  fn_ok (kf := k_mesh_Mesh_Safe) Tryz.func9 (by kernel_rfl) (by kernel_rfl) hn (by kernel_rfl) h
/-- (*portage/mesh.Mesh).Told -/
def k_mesh_Mesh_Told (i : Nat) : List Nat := match i with | 0 => [2] | 1 => [6] | 4 => [0, 8, 9, 10] | 6 => [15, 16] | 7 => [17, 18, 19, 20, 21] | 8 => [5, 22, 23, 24, 25] | 9 => [26] | 10 => [3, 27] | _ => []
def c_mesh_Mesh_Told : RCode :=
 .seq (.ops [mv 2 (.const sn)] [2])
 (.seq (.seq (.ops [mv 6 (t 0),
 o 7 (.pnil .eql (t 6) (.const (.pointer none)))] [6])
 (.cond (t 7)
  (.seq (.ops [mv 2 (.const sn)] [])
  (.ret))
  (.skip)))
 (.seq (.ops [mv 3 (.const sn)] [])
 (.seq (.seq (.ops [mv 8 (t 0),
 o 9 (.nilck (t 8)),
 fa 10 14 (t 9),
 l1 11 (t 10),
 o 12 (.len (t 11)),
 mv 13 (k 0)] [0, 8, 9, 10])
 (.block 0 (.loop (.seq (.ops [o 14 (.ibin .lss (t 13) (t 12))] [])
  (.seq (.cond (t 14)
   (.skip)
   (.exit 0))
  (.seq (.block 1 (.seq (.ops [o 15 (.iaddr 9 (t 11) (t 13)),
  la 16 9 (t 15),
  o 5 (.alloc 46 [(i 0), (i 0), (i 0), (i 0), (i 0), (i 0), (i 0), sn, (.bool false)]),
  st 9 (t 5) (t 16)] [15, 16])
  (.seq (.ops [o 17 (.mkSl false 5 0 [] []),
  fa 18 7 (t 5),
  l1 19 (t 18),
  o 20 (.app 5 1 1 [(u 0)] (t 17) (t 19)),
  fa 21 7 (t 5),
  st 1 (t 21) (t 20)] [17, 18, 19, 20, 21])
  (.ops [mv 22 (t 3),
  la 23 9 (t 5),
  o 24 (.mkSl true 46 1 [(i 0), (i 0), (i 0), (i 0), (i 0), (i 0), (i 0), sn, (.bool false)] [(0, 9, (t 23))]),
  o 25 (.app 46 9 88 [(i 0), (i 0), (i 0), (i 0), (i 0), (i 0), (i 0), sn, (.bool false)] (t 22) (t 24)),
  mv 3 (t 25)] [5, 22, 23, 24, 25]))))
  (.ops [ad 26 (t 13) (k 1),
  mv 13 (t 26)] [26])))))))
 (.seq (.ops [mv 27 (t 3),
 mv 2 (t 27)] [3, 27])
 (.ret)))))
def r_mesh_Mesh_Told : List RRes := [.tmp 2]
theorem fo_mesh_Mesh_Told {args : List Value} {M : Mem} {R : Value → Mem → Prop} (hn : args.length ≤ 28) (h : vfn Tryz.prog c_mesh_Mesh_Told r_mesh_Mesh_Told args M R) : CallsM Tryz.prog F.mesh_Mesh_Told args M R :=
  fn_ok (kf := k_mesh_Mesh_Told) Tryz.func10 (by kernel_rfl) (by kernel_rfl) hn (by kernel_rfl) h
/-- portage/watch.delivered -/
def k_watch_delivered (i : Nat) : List Nat := match i with | 0 => [0, 1, 4] | 1 => [2, 7] | 3 => [12, 13] | 4 => [14, 15, 16, 17, 18, 19, 20, 21, 22, 23, 24] | 5 => [6, 26, 27, 28, 29, 30, 31, 32, 33, 34, 35, 36, 37] | 7 => [39] | _ => []
def c_watch_delivered : RCode :=
 .seq (.ops [o 2 (.box 37 (t 0)),
 o 3 (.box 42 (t 1)),
 mv 4 (kb false)] [0, 1, 4])
 (.seq (.seq (.ops [fa 7 4 (t 2),
 l1 8 (t 7),
 o 9 (.len (t 8)),
 mv 10 (k 0)] [2, 7])
 (.block 0 (.loop (.seq (.ops [o 11 (.ibin .lss (t 10) (t 9))] [])
  (.seq (.cond (t 11)
   (.skip)
   (.exit 0))
  (.seq (.block 1 (.seq (.ops [o 12 (.iaddr 4 (t 8) (t 10)),
  la 13 4 (t 12),
  o 6 (.alloc 81 [(i 0), (i 0), (i 0), sn]),
  st 4 (t 6) (t 13)] [12, 13])
  (.seq (.seq (.ops [fa 14 0 (t 6),
  l1 15 (t 14),
  fa 16 0 (t 3),
  l1 17 (t 16),
  o 18 (.ibin .neq (t 15) (t 17)),
  os 19 (.mov (t 18)),
  gf 19 20 (.faddr 1 (t 6)),
  gf 19 21 (.load false 1 (t 20)),
  gf 19 22 (.faddr 2 (t 3)),
  gf 19 23 (.load false 1 (t 22)),
  gf 19 24 (.ibin .neq (t 21) (t 23)),
  o 25 (.pick (t 19) (kb true) (t 24))] [14, 15, 16, 17, 18, 19, 20, 21, 22, 23, 24])
  (.cond (t 25)
   (.exit 1)
   (.skip)))
  (.seq (.ops [fa 26 3 (t 3),
  l1 27 (t 26),
  fa 28 2 (t 6),
  l1 29 (t 28),
  o 30 (.ibin .leq (t 27) (t 29)),
  os 31 (.mov (t 30)),
  gf 31 32 (.faddr 3 (t 6)),
  gf 31 33 (.load false 1 (t 32)),
  gf 31 34 (.mkfn F.watch_delivered_1 [(t 3)]),
  gf 31 35 (.call (fn F.watch_some_int) [(t 33), (t 34)]),
  gf 31 36 (.len (t 35)),
  gf 31 37 (.ibin .gtr (t 36) (k 0)),
  o 38 (.pick (t 31) (kb true) (t 37))] [6, 26, 27, 28, 29, 30, 31, 32, 33, 34, 35, 36, 37])
  (.cond (t 38)
   (.seq (.ops [mv 4 (kb true)] [])
   (.ret))
   (.skip))))))
  (.ops [ad 39 (t 10) (k 1),
  mv 10 (t 39)] [39])))))))
 (.seq (.ops [mv 4 (kb false)] [])
 (.ret)))
def r_watch_delivered : List RRes := [.tmp 4]
theorem fo_watch_delivered {args : List Value} {M : Mem} {R : Value → Mem → Prop} (hn : args.length ≤ 40) (h : vfn Tryz.prog c_watch_delivered r_watch_delivered args M R) : CallsM Tryz.prog F.watch_delivered args M R :=
  fn_ok (kf := k_watch_delivered) Tryz.func11 (by kernel_rfl) (by kernel_rfl) hn (by kernel_rfl) h
/-- portage/watch.some[portage/api.State] -/
def k_watch_some_api_State (i : Nat) : List Nat := match i with | 0 => [4] | 2 => [0] | 4 => [12, 13] | 5 => [14, 15] | 6 => [7, 17, 18, 19, 20] | 7 => [21] | 8 => [5, 22] | _ => []
def c_watch_some_api_State : RCode :=
 .seq (.ops [mv 4 (.const sn)] [4])
 (.seq (.ops [mv 5 (.const sn)] [])
 (.seq (.seq (.ops [mv 8 (t 0),
 o 9 (.len (t 8)),
 mv 10 (k 0)] [0])
 (.block 0 (.loop (.seq (.ops [o 11 (.ibin .lss (t 10) (t 9))] [])
  (.seq (.cond (t 11)
   (.skip)
   (.exit 0))
  (.seq (.block 1 (.seq (.ops [o 12 (.iaddr 5 (t 8) (t 10)),
  la 13 5 (t 12),
  o 7 (.alloc 37 [(i 0), (i 0), sn, sn, sn]),
  st 5 (t 7) (t 13)] [12, 13])
  (.seq (.ops [mv 14 (t 1),
  la 15 5 (t 7),
  o 16 (.call (t 14) [(t 15)])] [14, 15])
  (.cond (t 16)
   (.ops [mv 17 (t 5),
   la 18 5 (t 7),
   o 19 (.mkSl true 37 1 [(i 0), (i 0), sn, sn, sn] [(0, 5, (t 18))]),
   o 20 (.app 37 5 88 [(i 0), (i 0), sn, sn, sn] (t 17) (t 19)),
   mv 5 (t 20)] [7, 17, 18, 19, 20])
   (.skip)))))
  (.ops [ad 21 (t 10) (k 1),
  mv 10 (t 21)] [21])))))))
 (.seq (.ops [mv 22 (t 5),
 mv 4 (t 22)] [5, 22])
 (.ret))))
def r_watch_some_api_State : List RRes := [.tmp 4]
theorem fo_watch_some_api_State {args : List Value} {M : Mem} {R : Value → Mem → Prop} (hn : args.length ≤ 23) (h : vfn Tryz.prog c_watch_some_api_State r_watch_some_api_State args M R) : CallsM Tryz.prog F.watch_some_api_State args M R :=
  fn_ok (kf := k_watch_some_api_State) Tryz.func12 (by kernel_rfl) (by kernel_rfl) hn (by kernel_rfl) h
/-- portage/watch.Lost$1 -/
def k_watch_Lost_1 (i : Nat) : List Nat := match i with | 0 => [0, 3] | 1 => [1, 2, 4, 5, 6, 7, 8, 9] | _ => []
def c_watch_Lost_1 : RCode :=
 .seq (.ops [o 2 (.box 37 (t 0)),
 mv 3 (kb false)] [0, 3])
 (.seq (.ops [fa 4 3 (t 2),
 l1 5 (t 4),
 o 6 (.mkfn F.watch_Lost_1_1 [(t 1)]),
 ca 7 F.watch_some_api_Msg [(t 5), (t 6)],
 o 8 (.len (t 7)),
 o 9 (.ibin .gtr (t 8) (k 0)),
 mv 3 (t 9)] [1, 2, 4, 5, 6, 7, 8, 9])
 (.ret))
def r_watch_Lost_1 : List RRes := [.tmp 3]
theorem fo_watch_Lost_1 {args : List Value} {M : Mem} {R : Value → Mem → Prop} (hn : args.length ≤ 10) (h : vfn Tryz.prog c_watch_Lost_1 r_watch_Lost_1 args M R) : CallsM Tryz.prog F.watch_Lost_1 args M R :=
  fn_ok (kf := k_watch_Lost_1) Tryz.func13 (by kernel_rfl) (by kernel_rfl) hn (by kernel_rfl) h
/-- portage/watch.some[portage/api.Msg] -/
def k_watch_some_api_Msg (i : Nat) : List Nat := match i with | 0 => [4] | 2 => [0] | 4 => [12, 13] | 5 => [14, 15] | 6 => [7, 17, 18, 19, 20] | 7 => [21] | 8 => [5, 22] | _ => []
def c_watch_some_api_Msg : RCode :=
 .seq (.ops [mv 4 (.const sn)] [4])
 (.seq (.ops [mv 5 (.const sn)] [])
 (.seq (.seq (.ops [mv 8 (t 0),
 o 9 (.len (t 8)),
 mv 10 (k 0)] [0])
 (.block 0 (.loop (.seq (.ops [o 11 (.ibin .lss (t 10) (t 9))] [])
  (.seq (.cond (t 11)
   (.skip)
   (.exit 0))
  (.seq (.block 1 (.seq (.ops [o 12 (.iaddr 5 (t 8) (t 10)),
  la 13 5 (t 12),
  o 7 (.alloc 51 [(i 0), (i 0), (i 0), (i 0), sn]),
  st 5 (t 7) (t 13)] [12, 13])
  (.seq (.ops [mv 14 (t 1),
  la 15 5 (t 7),
  o 16 (.call (t 14) [(t 15)])] [14, 15])
  (.cond (t 16)
   (.ops [mv 17 (t 5),
   la 18 5 (t 7),
   o 19 (.mkSl true 51 1 [(i 0), (i 0), (i 0), (i 0), sn] [(0, 5, (t 18))]),
   o 20 (.app 51 5 56 [(i 0), (i 0), (i 0), (i 0), sn] (t 17) (t 19)),
   mv 5 (t 20)] [7, 17, 18, 19, 20])
   (.skip)))))
  (.ops [ad 21 (t 10) (k 1),
  mv 10 (t 21)] [21])))))))
 (.seq (.ops [mv 22 (t 5),
 mv 4 (t 22)] [5, 22])
 (.ret))))
def r_watch_some_api_Msg : List RRes := [.tmp 4]
theorem fo_watch_some_api_Msg {args : List Value} {M : Mem} {R : Value → Mem → Prop} (hn : args.length ≤ 23) (h : vfn Tryz.prog c_watch_some_api_Msg r_watch_some_api_Msg args M R) : CallsM Tryz.prog F.watch_some_api_Msg args M R :=
  fn_ok (kf := k_watch_some_api_Msg) Tryz.func14 (by kernel_rfl) (by kernel_rfl) hn (by kernel_rfl) h
/-- portage/watch.Lost$1$1 -/
def k_watch_Lost_1_1 (i : Nat) : List Nat := match i with | 0 => [0, 3] | 1 => [1, 2, 4, 5, 6, 7, 8] | _ => []
def c_watch_Lost_1_1 : RCode :=
 .seq (.ops [o 2 (.box 51 (t 0)),
 mv 3 (kb false)] [0, 3])
 (.seq (.ops [fa 4 0 (t 2),
 la 5 4 (t 4),
 fa 6 2 (t 1),
 la 7 4 (t 6),
 o 8 (.aeq .eql 4 (t 5) (t 7)),
 mv 3 (t 8)] [1, 2, 4, 5, 6, 7, 8])
 (.ret))
def r_watch_Lost_1_1 : List RRes := [.tmp 3]
theorem fo_watch_Lost_1_1 {args : List Value} {M : Mem} {R : Value → Mem → Prop} (hn : args.length ≤ 9) (h : vfn Tryz.prog c_watch_Lost_1_1 r_watch_Lost_1_1 args M R) : CallsM Tryz.prog F.watch_Lost_1_1 args M R :=
  fn_ok (kf := k_watch_Lost_1_1) Tryz.func15 (by kernel_rfl) (by kernel_rfl) hn (by kernel_rfl) h
/-- portage/watch.Judge -/
def k_watch_Judge (i : Nat) : List Nat := match i with | 0 => [4] | 4 => [13, 14, 15] | 5 => [16] | 6 => [17] | 7 => [19, 20, 21, 22, 23, 24, 25, 26] | 8 => [27, 28, 29, 30, 31, 32, 33, 34] | 9 => [35, 36, 37, 38, 39] | 10 => [6, 7, 8, 40, 41, 42, 43, 44, 45, 46, 47, 48, 49, 50, 51, 52, 53, 54, 55, 56, 57] | 11 => [58] | 12 => [5, 59] | _ => []
def c_watch_Judge : RCode :=
 .seq (.ops [mv 4 (.const sn)] [4])
 (.seq (.ops [o 5 (.alloc 26 [sn])] [])
 (.seq (.seq (.ops [mv 9 (t 1),
 o 10 (.len (t 9)),
 mv 11 (k 0)] [])
 (.block 0 (.loop (.seq (.ops [o 12 (.ibin .lss (t 11) (t 10))] [])
  (.seq (.cond (t 12)
   (.skip)
   (.exit 0))
  (.seq (.block 1 (.seq (.ops [mv 13 (t 11),
  o 14 (.iaddr 9 (t 9) (t 11)),
  la 15 9 (t 14),
  o 6 (.alloc 3 [(i 0)]),
  o 7 (.alloc 46 [(i 0), (i 0), (i 0), (i 0), (i 0), (i 0), (i 0), sn, (.bool false)]),
  st 1 (t 6) (t 13),
  st 9 (t 7) (t 15)] [13, 14, 15])
  (.seq (.ops [o 16 (.mkfn F.watch_Judge_1 [(t 5), (t 6), (t 7)]),
  mv 8 (t 16)] [16])
  (.seq (.seq (.ops [fa 17 8 (t 7),
  l1 18 (t 17)] [17])
  (.cond (t 18)
   (.seq (.draw (.take (mv 19 (t 8)) (.take (mv 20 (t 1)) (.take (l1 21 (t 6)) (.take (o 22 (.slx 9 (t 20) none (some (t 21)))) (.take (fa 23 2 (t 7)) (.take (la 24 4 (t 23)) (.alt (ca 25 F.watch_twice [(t 22), (t 24)]) false
    (.alt (o 26 (.call (t 19) [(k 1), (t 25)])) false
     (.done)
     (.none))
    (.none)))))))) [19, 20, 21, 22, 23, 24, 25, 26])
   (.seq (.ops [mv 27 (t 8),
   fa 28 1 (t 7),
   l1 29 (t 28),
   fa 30 2 (t 7),
   fa 31 1 (t 30),
   l1 32 (t 31),
   o 33 (.ibin .neq (t 29) (t 32)),
   o 34 (.call (t 27) [(k 2), (t 33)])] [27, 28, 29, 30, 31, 32, 33, 34])
   (.ops [mv 35 (t 8),
   mv 36 (t 0),
   la 37 9 (t 7),
   ca 38 F.watch_strange [(t 36), (t 37)],
   o 39 (.call (t 35) [(k 3), (t 38)])] [35, 36, 37, 38, 39])))
   (.skip)))
  (.draw (.take (mv 40 (t 8)) (.take (fa 41 8 (t 7)) (.take (l1 42 (t 41)) (.take (o 43 (.not (t 42))) (.take (os 44 (.mov (t 43))) (.take (gt 44 45 (.faddr 6 (t 7))) (.take (gt 44 46 (.load false 1 (t 45))) (.take (gt 44 47 (.ibin .eql (t 46) (k 0))) (.take (o 48 (.pick (t 44) (t 47) (kb false))) (.take (os 49 (.mov (t 48))) (.take (gt 49 50 (.mov (t 1))) (.take (gt 49 51 (.load false 1 (t 6))) (.take (gt 49 52 (.slx 9 (t 50) none (some (t 51)))) (.take (gt 49 53 (.faddr 2 (t 7))) (.take (gt 49 54 (.load true 4 (t 53))) (.alt (gt 49 55 (.call (fn F.watch_again) [(t 52), (t 54)])) false
   (.take (o 56 (.pick (t 49) (t 55) (kb false))) (.alt (o 57 (.call (t 40) [(k 4), (t 56)])) false
    (.done)
    (.none)))
   (.none))))))))))))))))) [6, 7, 8, 40, 41, 42, 43, 44, 45, 46, 47, 48, 49, 50, 51, 52, 53, 54, 55, 56, 57])))))
  (.ops [ad 58 (t 11) (k 1),
  mv 11 (t 58)] [58])))))))
 (.seq (.ops [l1 59 (t 5),
 mv 4 (t 59)] [5, 59])
 (.ret))))
def r_watch_Judge : List RRes := [.tmp 4]
theorem fo_watch_Judge {args : List Value} {M : Mem} {R : Value → Mem → Prop} (hn : args.length ≤ 60) (h : vfn Tryz.prog c_watch_Judge r_watch_Judge args M R) : CallsM Tryz.prog F.watch_Judge args M R :=
  fn_ok (kf := k_watch_Judge) Tryz.func16 (by kernel_rfl) (by kernel_rfl) hn (by kernel_rfl) h
/-- portage/watch.Text -/
def k_watch_Text (i : Nat) : List Nat := match i with | 0 => [0, 2] | 1 => [7] | 2 => [8, 9, 10, 11, 12, 13, 14] | 4 => [3, 16, 17, 18, 19] | 5 => [20, 21] | 6 => [23, 24, 25, 26, 27, 28] | 7 => [1, 29, 30, 31, 32, 33, 34] | 8 => [6, 35] | 10 => [4, 5, 37, 38, 39, 40] | _ => []
def c_watch_Text : RCode :=
 .seq (.ops [o 1 (.box 56 (t 0)),
 mv 2 (.const (.string ByteArray.empty))] [0, 2])
 (.seq (.ops [o 7 (.build [(.string ByteArray.empty), (.string ByteArray.empty), (.string ByteArray.empty), (.string ByteArray.empty), (.string ByteArray.empty), (.string ByteArray.empty)] [(0, 1, (.const (.string ByteArray.empty))), (1, 1, (.const (.string ⟨#[116, 119, 105, 99, 101]⟩))), (2, 1, (.const (.string ⟨#[119, 104, 101, 114, 101]⟩))), (3, 1, (.const (.string ⟨#[115, 116, 114, 97, 110, 103, 101]⟩))), (4, 1, (.const (.string ⟨#[97, 103, 97, 105, 110]⟩))), (5, 1, (.const (.string ⟨#[108, 111, 115, 116]⟩)))]),
 o 3 (.alloc 86 [(.string ByteArray.empty), (.string ByteArray.empty), (.string ByteArray.empty), (.string ByteArray.empty), (.string ByteArray.empty), (.string ByteArray.empty)]),
 st 6 (t 3) (t 7)] [7])
 (.seq (.seq (.ops [fa 8 0 (t 1),
 l1 9 (t 8),
 o 10 (.ibin .lss (t 9) (k 1)),
 os 11 (.mov (t 10)),
 gf 11 12 (.faddr 0 (t 1)),
 gf 11 13 (.load false 1 (t 12)),
 gf 11 14 (.ibin .geq (t 13) (k 6)),
 o 15 (.pick (t 11) (kb true) (t 14))] [8, 9, 10, 11, 12, 13, 14])
 (.cond (t 15)
  (.seq (.ops [mv 2 (.const (.string ByteArray.empty))] [])
  (.ret))
  (.skip)))
 (.seq (.ops [fa 16 0 (t 1),
 l1 17 (t 16),
 o 18 (.iaddrA 6 1 (t 3) (t 17)),
 l1 19 (t 18),
 mv 4 (t 19)] [3, 16, 17, 18, 19])
 (.seq (.seq (.ops [fa 20 0 (t 1),
 l1 21 (t 20),
 o 22 (.ibin .neq (t 21) (k 5))] [20, 21])
 (.cond (t 22)
  (.ops [mv 23 (t 4),
  fa 24 1 (t 1),
  l1 25 (t 24),
  ca 26 F.strconv_Itoa [(t 25)],
  o 27 (.strE .add (.const (.string ⟨#[32]⟩)) (t 26)),
  o 28 (.strE .add (t 23) (t 27)),
  mv 4 (t 28)] [23, 24, 25, 26, 27, 28])
  (.skip)))
 (.seq (.ops [fa 30 2 (t 1),
 la 31 4 (t 30),
 ca 32 F.msg_Text [(t 31)],
 mv 29 (t 32),
 ex 33 (t 29) 0,
 ex 34 (t 29) 1,
 mv 5 (t 33),
 mv 6 (t 34)] [1, 29, 30, 31, 32, 33, 34])
 (.seq (.seq (.ops [mv 35 (t 6),
 o 36 (.ibin .neq (t 35) (k 0))] [6, 35])
 (.cond (t 36)
  (.ops [mv 5 (.const (.string ⟨#[63]⟩))] [])
  (.skip)))
 (.seq (.ops [mv 37 (t 4),
 o 38 (.strE .add (t 37) (.const (.string ⟨#[32]⟩))),
 mv 39 (t 5),
 o 40 (.strE .add (t 38) (t 39)),
 mv 2 (t 40)] [4, 5, 37, 38, 39, 40])
 (.ret))))))))
def r_watch_Text : List RRes := [.tmp 2]
theorem fo_watch_Text {args : List Value} {M : Mem} {R : Value → Mem → Prop} (hn : args.length ≤ 41) (h : vfn Tryz.prog c_watch_Text r_watch_Text args M R) : CallsM Tryz.prog F.watch_Text args M R :=
  fn_ok (kf := k_watch_Text) Tryz.func17 (by kernel_rfl) (by kernel_rfl) hn (by kernel_rfl) h
/-- (*portage/mesh.Mesh).is -/
def k_mesh_Mesh_is (i : Nat) : List Nat := match i with | 0 => [4] | 1 => [0, 1, 5, 6, 7, 8, 9, 10, 11, 12] | _ => []
def c_mesh_Mesh_is : RCode :=
 .seq (.ops [mv 4 (kb false)] [4])
 (.seq (.ops [mv 5 (t 1),
 o 6 (.ibin .geq (t 5) (k 0)),
 os 7 (.mov (t 6)),
 gt 7 8 (.mov (t 1)),
 gt 7 9 (.mov (t 0)),
 gt 7 10 (.call (fn F.mesh_Mesh_Size) [(t 9)]),
 gt 7 11 (.ibin .lss (t 8) (t 10)),
 o 12 (.pick (t 7) (t 11) (kb false)),
 mv 4 (t 12)] [0, 1, 5, 6, 7, 8, 9, 10, 11, 12])
 (.ret))
def r_mesh_Mesh_is : List RRes := [.tmp 4]
theorem fo_mesh_Mesh_is {args : List Value} {M : Mem} {R : Value → Mem → Prop} (hn : args.length ≤ 13) (h : vfn Tryz.prog c_mesh_Mesh_is r_mesh_Mesh_is args M R) : CallsM Tryz.prog F.mesh_Mesh_is args M R :=
  fn_ok (kf := k_mesh_Mesh_is) Tryz.func18 (by kernel_rfl) (by kernel_rfl) hn (by kernel_rfl) h
/-- (*portage/disk.Disk).Fork -/
def k_disk_Disk_Fork (i : Nat) : List Nat := match i with | 0 => [2] | 1 => [6] | 3 => [8, 9, 10, 11, 12, 13, 14, 15, 16, 17, 18, 19, 20, 21, 22] | 4 => [0, 23, 24, 25, 26] | 5 => [28] | 6 => [30, 31, 32] | 7 => [4, 5, 33, 34, 35, 36, 37, 38, 39, 40, 41, 42, 43, 44, 45, 46, 47, 48, 49] | 8 => [3, 50] | _ => []
def c_disk_Disk_Fork : RCode :=
 .seq (.ops [mv 2 (.const (.pointer none))] [2])
 (.seq (.seq (.ops [mv 6 (t 0),
 o 7 (.pnil .eql (t 6) (.const (.pointer none)))] [6])
 (.cond (t 7)
  (.seq (.ops [mv 2 (.const (.pointer none))] [])
  (.ret))
  (.skip)))
 (.seq (.draw (.take (mv 8 (t 0)) (.take (o 9 (.nilck (t 8))) (.take (fa 10 0 (t 9)) (.take (l1 11 (t 10)) (.take (mv 13 (t 0)) (.take (o 14 (.nilck (t 13))) (.take (fa 15 2 (t 14)) (.take (l1 16 (t 15)) (.take (mv 17 (t 0)) (.take (o 18 (.nilck (t 17))) (.take (fa 19 3 (t 18)) (.take (l1 20 (t 19)) (.alt (o 12 (.mkMap)) true
  (.take (o 21 (.build [(i 0), (.map none), (i 0), (.bool false)] [(0, 1, (t 11)), (1, 1, (t 12)), (2, 1, (t 16)), (3, 1, (t 20))])) (.alt (o 22 (.box 92 (t 21))) false
   (.take (mv 3 (t 22)) (.done))
   (.none)))
  (.none)))))))))))))) [8, 9, 10, 11, 12, 13, 14, 15, 16, 17, 18, 19, 20, 21, 22])
 (.seq (.seq (.ops [mv 23 (t 0),
 o 24 (.nilck (t 23)),
 fa 25 1 (t 24),
 l1 26 (t 25),
 o 27 (.mrange (t 26))] [0, 23, 24, 25, 26])
 (.block 0 (.loop (.seq (.ops [o 28 (.mnext (t 27)),
  ex 29 (t 28) 0] [28])
  (.seq (.cond (t 29)
   (.skip)
   (.exit 0))
  (.block 1 (.seq (.ops [o 30 (.mentry (t 27)),
  ex 31 (t 30) 0,
  ex 32 (t 30) 1,
  mv 4 (t 31),
  mv 5 (t 32)] [30, 31, 32])
  (.draw (.take (mv 33 (t 3)) (.take (o 34 (.nilck (t 33))) (.take (fa 35 1 (t 34)) (.take (l1 36 (t 35)) (.take (mv 37 (t 4)) (.take (mv 39 (t 5)) (.take (o 40 (.nilck (t 39))) (.take (fa 41 0 (t 40)) (.take (l1 42 (t 41)) (.take (mv 44 (t 5)) (.take (o 45 (.nilck (t 44))) (.take (fa 46 1 (t 45)) (.take (l1 47 (t 46)) (.alt (o 38 (.mkSl false 5 0 [] [])) false
   (.alt (o 43 (.app 5 1 1 [(u 0)] (t 38) (t 42))) true
    (.take (o 48 (.build [sn, (i 0)] [(0, 1, (t 43)), (1, 1, (t 47))])) (.alt (o 49 (.box 95 (t 48))) false
     (.alt (e (.mset .str (t 36) (t 37) (t 49))) false
      (.done)
      (.none))
     (.none)))
    (.none))
   (.none))))))))))))))) [4, 5, 33, 34, 35, 36, 37, 38, 39, 40, 41, 42, 43, 44, 45, 46, 47, 48, 49]))))))))
 (.seq (.ops [mv 50 (t 3),
 mv 2 (t 50)] [3, 50])
 (.ret)))))
def r_disk_Disk_Fork : List RRes := [.tmp 2]
theorem fo_disk_Disk_Fork {args : List Value} {M : Mem} {R : Value → Mem → Prop} (hn : args.length ≤ 51) (h : vfn Tryz.prog c_disk_Disk_Fork r_disk_Disk_Fork args M R) : CallsM Tryz.prog F.disk_Disk_Fork args M R :=
  fn_ok (kf := k_disk_Disk_Fork) Tryz.func19 (by kernel_rfl) (by kernel_rfl) hn (by kernel_rfl) h
/-- (*portage/disk.Disk).Crash -/
def k_disk_Disk_Crash (i : Nat) : List Nat := match i with | 0 => [4] | 1 => [9] | 3 => [11] | 5 => [16, 17, 18] | 6 => [6, 19, 20, 21, 22, 23, 24] | 8 => [25, 26, 27] | 9 => [5, 29, 30, 31, 32, 33, 34, 35, 36, 37, 38, 39, 40, 41, 42, 43, 44] | 10 => [8, 45, 46, 47, 48, 49, 50, 51, 52] | 11 => [7, 53, 54, 55, 56, 57, 58, 59, 60, 61, 62, 63, 64] | 12 => [65] | 13 => [0, 66, 67, 68, 69, 70, 71] | _ => []
def c_disk_Disk_Crash : RCode :=
 .seq (.ops [mv 4 (k 0)] [4])
 (.seq (.seq (.ops [mv 9 (t 0),
 o 10 (.pnil .eql (t 9) (.const (.pointer none)))] [9])
 (.cond (t 10)
  (.seq (.ops [mv 4 (k 7)] [])
  (.ret))
  (.skip)))
 (.seq (.seq (.ops [mv 11 (t 0),
 ca 12 F.disk_Disk_Names [(t 11)],
 o 13 (.len (t 12)),
 mv 14 (k 0)] [11])
 (.block 0 (.loop (.seq (.ops [o 15 (.ibin .lss (t 14) (t 13))] [])
  (.seq (.cond (t 15)
   (.skip)
   (.exit 0))
  (.seq (.block 1 (.seq (.ops [mv 16 (t 14),
  o 17 (.iaddr 1 (t 12) (t 14)),
  l1 18 (t 17),
  mv 5 (t 16),
  mv 6 (t 18)] [16, 17, 18])
  (.seq (.ops [mv 19 (t 0),
  o 20 (.nilck (t 19)),
  fa 21 1 (t 20),
  l1 22 (t 21),
  mv 23 (t 6),
  o 24 (.mget .str false (.pointer none) (t 22) (t 23)),
  mv 7 (t 24)] [6, 19, 20, 21, 22, 23, 24])
  (.seq (.ops [mv 8 (k 0)] [])
  (.seq (.seq (.ops [mv 25 (t 5),
  mv 26 (t 1),
  o 27 (.len (t 26)),
  o 28 (.ibin .lss (t 25) (t 27))] [25, 26, 27])
  (.cond (t 28)
   (.draw (.take (mv 29 (t 1)) (.take (mv 30 (t 5)) (.take (o 31 (.iaddr 1 (t 29) (t 30))) (.take (l1 32 (t 31)) (.take (mv 33 (t 7)) (.take (o 34 (.nilck (t 33))) (.take (fa 35 0 (t 34)) (.take (l1 36 (t 35)) (.take (o 37 (.len (t 36))) (.take (mv 38 (t 7)) (.take (o 39 (.nilck (t 38))) (.take (fa 40 1 (t 39)) (.take (l1 41 (t 40)) (.take (o 42 (.ibin .sub (t 37) (t 41))) (.take (o 43 (.imm false (t 32) (t 42))) (.take (o 44 (.imm true (k 0) (t 43))) (.take (mv 8 (t 44)) (.done)))))))))))))))))) [5, 29, 30, 31, 32, 33, 34, 35, 36, 37, 38, 39, 40, 41, 42, 43, 44])
   (.skip)))
  (.seq (.ops [mv 45 (t 7),
  o 46 (.nilck (t 45)),
  fa 47 1 (t 46),
  l1 48 (t 47),
  mv 49 (t 8),
  ad 50 (t 48) (t 49),
  o 51 (.nilck (t 45)),
  fa 52 1 (t 51),
  st 1 (t 52) (t 50)] [8, 45, 46, 47, 48, 49, 50, 51, 52])
  (.draw (.take (mv 53 (t 7)) (.take (mv 54 (t 7)) (.take (o 55 (.nilck (t 54))) (.take (fa 56 0 (t 55)) (.take (l1 57 (t 56)) (.take (mv 58 (t 7)) (.take (o 59 (.nilck (t 58))) (.take (fa 60 1 (t 59)) (.take (l1 61 (t 60)) (.take (o 62 (.slx 1 (t 57) none (some (t 61)))) (.take (o 63 (.nilck (t 53))) (.take (fa 64 0 (t 63)) (.alt (st 1 (t 64) (t 62)) false
   (.done)
   (.none)))))))))))))) [7, 53, 54, 55, 56, 57, 58, 59, 60, 61, 62, 63, 64])))))))
  (.ops [ad 65 (t 14) (k 1),
  mv 14 (t 65)] [65])))))))
 (.seq (.ops [mv 66 (t 0),
 mv 67 (t 0),
 o 68 (.nilck (t 66)),
 fa 69 3 (t 68),
 st 1 (t 69) (kb false),
 o 70 (.nilck (t 67)),
 fa 71 2 (t 70),
 st 1 (t 71) (k (-1))] [0, 66, 67, 68, 69, 70, 71])
 (.seq (.ops [mv 4 (k 0)] [])
 (.ret)))))
def r_disk_Disk_Crash : List RRes := [.tmp 4]
theorem fo_disk_Disk_Crash {args : List Value} {M : Mem} {R : Value → Mem → Prop} (hn : args.length ≤ 72) (h : vfn Tryz.prog c_disk_Disk_Crash r_disk_Disk_Crash args M R) : CallsM Tryz.prog F.disk_Disk_Crash args M R :=
  fn_ok (kf := k_disk_Disk_Crash) Tryz.func20 (by kernel_rfl) (by kernel_rfl) hn (by kernel_rfl) h
/-- (*portage/disk.Disk).Limit -/
def k_disk_Disk_Limit (i : Nat) : List Nat := match i with | 0 => [4] | 1 => [5] | 3 => [7, 8, 9, 10, 11] | 5 => [0, 1, 13, 14, 15, 16] | _ => []
def c_disk_Disk_Limit : RCode :=
 .seq (.ops [mv 4 (k 0)] [4])
 (.seq (.seq (.ops [mv 5 (t 0),
 o 6 (.pnil .eql (t 5) (.const (.pointer none)))] [5])
 (.cond (t 6)
  (.seq (.ops [mv 4 (k 7)] [])
  (.ret))
  (.skip)))
 (.seq (.seq (.ops [mv 7 (t 1),
 o 8 (.ibin .lss (t 7) (k 0)),
 os 9 (.mov (t 8)),
 gf 9 10 (.mov (t 1)),
 gf 9 11 (.ibin .gtr (t 10) (k 1048576)),
 o 12 (.pick (t 9) (kb true) (t 11))] [7, 8, 9, 10, 11])
 (.cond (t 12)
  (.seq (.ops [mv 4 (k 1)] [])
  (.ret))
  (.skip)))
 (.seq (.ops [mv 13 (t 0),
 mv 14 (t 1),
 o 15 (.nilck (t 13)),
 fa 16 0 (t 15),
 st 1 (t 16) (t 14)] [0, 1, 13, 14, 15, 16])
 (.seq (.ops [mv 4 (k 0)] [])
 (.ret)))))
def r_disk_Disk_Limit : List RRes := [.tmp 4]
theorem fo_disk_Disk_Limit {args : List Value} {M : Mem} {R : Value → Mem → Prop} (hn : args.length ≤ 17) (h : vfn Tryz.prog c_disk_Disk_Limit r_disk_Disk_Limit args M R) : CallsM Tryz.prog F.disk_Disk_Limit args M R :=
  fn_ok (kf := k_disk_Disk_Limit) Tryz.func21 (by kernel_rfl) (by kernel_rfl) hn (by kernel_rfl) h
/-- portage/custody.Open -/
def k_custody_Open (i : Nat) : List Nat := match i with | 0 => [2, 8, 9] | 1 => [17] | 3 => [19, 20, 21, 22, 23, 24] | 4 => [26, 27] | 5 => [11, 28] | 6 => [30, 31, 32, 33, 34, 35] | 8 => [37, 38] | 10 => [0, 10, 39, 40, 41, 42, 43] | 11 => [44, 45] | 12 => [46] | 13 => [13, 48] | 14 => [1, 6, 49, 50, 51, 52] | 15 => [53] | 16 => [14, 55] | 17 => [3, 56, 57, 58] | 18 => [59] | 19 => [15, 61] | 20 => [62, 63] | 21 => [64] | 22 => [16, 66] | 23 => [12, 67] | _ => []
def c_custody_Open : RCode :=
 .seq (.ops [o 6 (.box 61 (t 2)),
 mv 8 (.const (.pointer none)),
 mv 9 (k 0)] [2, 8, 9])
 (.seq (.seq (.ops [mv 17 (t 0),
 o 18 (.pnil .eql (t 17) (.const (.pointer none)))] [17])
 (.cond (t 18)
  (.seq (.ops [mv 8 (.const (.pointer none)),
  mv 9 (k 7)] [])
  (.ret))
  (.skip)))
 (.seq (.ops [mv 20 (t 1),
 la 21 3 (t 6),
 ca 22 F.store_New [(t 20), (t 21)],
 mv 19 (t 22),
 ex 23 (t 19) 0,
 ex 24 (t 19) 1,
 mv 10 (t 23),
 mv 11 (t 24)] [19, 20, 21, 22, 23, 24])
 (.seq (.block 0 (.seq (.ops [mv 26 (t 11),
 o 27 (.ibin .neq (t 26) (k 0)),
 mv 25 (t 27)] [26, 27])
 (.cond (t 25)
  (.seq (.ops [mv 28 (t 11),
  mv 8 (.const (.pointer none)),
  mv 9 (t 28)] [11, 28])
  (.ret))
  (.seq (.ops [mv 30 (t 3),
  o 31 (.ibin .lss (t 30) (k 16)),
  os 32 (.mov (t 31)),
  gf 32 33 (.mov (t 3)),
  gf 32 34 (.ibin .gtr (t 33) (k 1048576)),
  o 35 (.pick (t 32) (kb true) (t 34)),
  mv 29 (t 35)] [30, 31, 32, 33, 34, 35])
  (.cond (t 29)
   (.seq (.ops [mv 8 (.const (.pointer none)),
   mv 9 (k 1)] [])
   (.ret))
   (.seq (.ops [mv 37 (t 0),
   ca 38 F.disk_Disk_Down [(t 37)],
   mv 36 (t 38)] [37, 38])
   (.cond (t 36)
    (.seq (.ops [mv 8 (.const (.pointer none)),
    mv 9 (k 9)] [])
    (.ret))
    (.skip))))))))
 (.seq (.ops [mv 39 (t 10),
 o 40 (.build [(.pointer none)] [(0, 1, (t 39))]),
 mv 41 (t 0),
 o 42 (.build [(.pointer none), (.pointer none), (.pointer none), (i 0), (.bool false), (.bool false)] [(0, 1, (t 40)), (1, 1, (t 41))]),
 o 43 (.box 105 (t 42)),
 mv 12 (t 43)] [0, 10, 39, 40, 41, 42, 43])
 (.seq (.seq (.ops [mv 44 (t 12),
 ca 45 F.custody_Custody_sweep [(t 44)],
 mv 13 (t 45)] [44, 45])
 (.seq (.ops [mv 46 (t 13),
 o 47 (.ibin .neq (t 46) (k 0))] [46])
 (.cond (t 47)
  (.seq (.ops [mv 48 (t 13),
  mv 8 (.const (.pointer none)),
  mv 9 (t 48)] [13, 48])
  (.ret))
  (.skip))))
 (.seq (.seq (.ops [mv 49 (t 12),
 mv 50 (t 1),
 la 51 3 (t 6),
 ca 52 F.custody_Custody_load [(t 49), (t 50), (t 51)],
 mv 14 (t 52)] [1, 6, 49, 50, 51, 52])
 (.seq (.ops [mv 53 (t 14),
 o 54 (.ibin .neq (t 53) (k 0))] [53])
 (.cond (t 54)
  (.seq (.ops [mv 55 (t 14),
  mv 8 (.const (.pointer none)),
  mv 9 (t 55)] [14, 55])
  (.ret))
  (.skip))))
 (.seq (.seq (.ops [mv 56 (t 12),
 mv 57 (t 3),
 ca 58 F.custody_Custody_replay [(t 56), (t 57)],
 mv 15 (t 58)] [3, 56, 57, 58])
 (.seq (.ops [mv 59 (t 15),
 o 60 (.ibin .neq (t 59) (k 0))] [59])
 (.cond (t 60)
  (.seq (.ops [mv 61 (t 15),
  mv 8 (.const (.pointer none)),
  mv 9 (t 61)] [15, 61])
  (.ret))
  (.skip))))
 (.seq (.seq (.ops [mv 62 (t 12),
 ca 63 F.custody_Custody_boot [(t 62)],
 mv 16 (t 63)] [62, 63])
 (.seq (.ops [mv 64 (t 16),
 o 65 (.ibin .neq (t 64) (k 0))] [64])
 (.cond (t 65)
  (.seq (.ops [mv 66 (t 16),
  mv 8 (.const (.pointer none)),
  mv 9 (t 66)] [16, 66])
  (.ret))
  (.skip))))
 (.seq (.ops [mv 67 (t 12),
 mv 8 (t 67),
 mv 9 (k 0)] [12, 67])
 (.ret))))))))))
def r_custody_Open : List RRes := [.tmp 8, .tmp 9]
theorem fo_custody_Open {args : List Value} {M : Mem} {R : Value → Mem → Prop} (hn : args.length ≤ 68) (h : vfn Tryz.prog c_custody_Open r_custody_Open args M R) : CallsM Tryz.prog F.custody_Open args M R :=
  fn_ok (kf := k_custody_Open) Tryz.func22 (by kernel_rfl) (by kernel_rfl) hn (by kernel_rfl) h
/-- (*portage/custody.Custody).State -/
def k_custody_Custody_State (i : Nat) : List Nat := match i with | 1 => [3] | 2 => [5] | 3 => [0, 6, 7, 8, 9, 10, 11] | _ => []
def c_custody_Custody_State : RCode :=
 .seq (.ops [o 2 (.alloc 37 [(i 0), (i 0), sn, sn, sn])] [])
 (.seq (.seq (.ops [mv 3 (t 0),
 o 4 (.pnil .eql (t 3) (.const (.pointer none)))] [3])
 (.cond (t 4)
  (.seq (.ops [o 5 (.build [(i 0), (i 0), sn, sn, sn] []),
  st 5 (t 2) (t 5)] [5])
  (.ret))
  (.skip)))
 (.seq (.ops [mv 6 (t 0),
 o 7 (.nilck (t 6)),
 fa 8 0 (t 7),
 fa 9 0 (t 8),
 l1 10 (t 9),
 ca 11 F.store_Store_State [(t 10)],
 st 5 (t 2) (t 11)] [0, 6, 7, 8, 9, 10, 11])
 (.ret)))
def r_custody_Custody_State : List RRes := [.cell true 5 2]
theorem fo_custody_Custody_State {args : List Value} {M : Mem} {R : Value → Mem → Prop} (hn : args.length ≤ 12) (h : vfn Tryz.prog c_custody_Custody_State r_custody_Custody_State args M R) : CallsM Tryz.prog F.custody_Custody_State args M R :=
  fn_ok (kf := k_custody_Custody_State) Tryz.func23 (by kernel_rfl) (by kernel_rfl) hn (by kernel_rfl) h
/-- portage/watch.some[int] -/
def k_watch_some_int (i : Nat) : List Nat := match i with | 0 => [4] | 2 => [0] | 4 => [12, 13] | 5 => [14, 15] | 6 => [7, 17, 18, 19, 20] | 7 => [21] | 8 => [5, 22] | _ => []
def c_watch_some_int : RCode :=
 .seq (.ops [mv 4 (.const sn)] [4])
 (.seq (.ops [mv 5 (.const sn)] [])
 (.seq (.seq (.ops [mv 8 (t 0),
 o 9 (.len (t 8)),
 mv 10 (k 0)] [0])
 (.block 0 (.loop (.seq (.ops [o 11 (.ibin .lss (t 10) (t 9))] [])
  (.seq (.cond (t 11)
   (.skip)
   (.exit 0))
  (.seq (.block 1 (.seq (.ops [o 12 (.iaddr 1 (t 8) (t 10)),
  l1 13 (t 12),
  mv 7 (t 13)] [12, 13])
  (.seq (.ops [mv 14 (t 1),
  mv 15 (t 7),
  o 16 (.call (t 14) [(t 15)])] [14, 15])
  (.cond (t 16)
   (.ops [mv 17 (t 5),
   mv 18 (t 7),
   o 19 (.mkSl true 3 1 [(i 0)] [(0, 1, (t 18))]),
   o 20 (.app 3 1 8 [(i 0)] (t 17) (t 19)),
   mv 5 (t 20)] [7, 17, 18, 19, 20])
   (.skip)))))
  (.ops [ad 21 (t 10) (k 1),
  mv 10 (t 21)] [21])))))))
 (.seq (.ops [mv 22 (t 5),
 mv 4 (t 22)] [5, 22])
 (.ret))))
def r_watch_some_int : List RRes := [.tmp 4]
theorem fo_watch_some_int {args : List Value} {M : Mem} {R : Value → Mem → Prop} (hn : args.length ≤ 23) (h : vfn Tryz.prog c_watch_some_int r_watch_some_int args M R) : CallsM Tryz.prog F.watch_some_int args M R :=
  fn_ok (kf := k_watch_some_int) Tryz.func24 (by kernel_rfl) (by kernel_rfl) hn (by kernel_rfl) h
/-- portage/watch.delivered$1 -/
def k_watch_delivered_1 (i : Nat) : List Nat := match i with | 0 => [3] | 1 => [0, 1, 4, 5, 6, 7] | _ => []
def c_watch_delivered_1 : RCode :=
 .seq (.ops [mv 3 (kb false)] [3])
 (.seq (.ops [mv 4 (t 0),
 fa 5 3 (t 1),
 l1 6 (t 5),
 o 7 (.ibin .eql (t 4) (t 6)),
 mv 3 (t 7)] [0, 1, 4, 5, 6, 7])
 (.ret))
def r_watch_delivered_1 : List RRes := [.tmp 3]
theorem fo_watch_delivered_1 {args : List Value} {M : Mem} {R : Value → Mem → Prop} (hn : args.length ≤ 8) (h : vfn Tryz.prog c_watch_delivered_1 r_watch_delivered_1 args M R) : CallsM Tryz.prog F.watch_delivered_1 args M R :=
  fn_ok (kf := k_watch_delivered_1) Tryz.func25 (by kernel_rfl) (by kernel_rfl) hn (by kernel_rfl) h
/-- portage/watch.Judge$1 -/
def k_watch_Judge_1 (i : Nat) : List Nat := match i with | 0 => [1] | 1 => [0, 2, 3, 4, 8, 9, 10, 11, 12, 13, 14, 15] | _ => []
def c_watch_Judge_1 : RCode :=
 .seq (.ops [mv 7 (t 1)] [1])
 (.cond (t 7)
  (.ops [l1 8 (t 2),
  mv 9 (t 0),
  l1 10 (t 3),
  fa 11 2 (t 4),
  la 12 4 (t 11),
  o 13 (.build [(i 0), (i 0), (i 0), (i 0), (i 0), (i 0)] [(0, 1, (t 9)), (1, 1, (t 10)), (2, 4, (t 12))]),
  o 14 (.mkSl true 56 1 [(i 0), (i 0), (i 0), (i 0), (i 0), (i 0)] [(0, 6, (t 13))]),
  o 15 (.app 56 6 48 [(i 0), (i 0), (i 0), (i 0), (i 0), (i 0)] (t 8) (t 14)),
  st 1 (t 2) (t 15)] [0, 2, 3, 4, 8, 9, 10, 11, 12, 13, 14, 15])
  (.skip))
def r_watch_Judge_1 : List RRes := []
theorem fo_watch_Judge_1 {args : List Value} {M : Mem} {R : Value → Mem → Prop} (hn : args.length ≤ 16) (h : vfn Tryz.prog c_watch_Judge_1 r_watch_Judge_1 args M R) : CallsM Tryz.prog F.watch_Judge_1 args M R :=
  fn_ok (kf := k_watch_Judge_1) Tryz.func26 (by kernel_rfl) (by kernel_rfl) hn (by kernel_rfl) h
/-- portage/watch.twice -/
def k_watch_twice (i : Nat) : List Nat := match i with | 0 => [1, 4] | 1 => [0, 3, 5, 6, 7, 8, 9] | _ => []
def c_watch_twice : RCode :=
 .seq (.ops [o 3 (.box 42 (t 1)),
 mv 4 (kb false)] [1, 4])
 (.seq (.ops [mv 5 (t 0),
 o 6 (.mkfn F.watch_twice_1 [(t 3)]),
 ca 7 F.watch_some_api_Told [(t 5), (t 6)],
 o 8 (.len (t 7)),
 o 9 (.ibin .gtr (t 8) (k 0)),
 mv 4 (t 9)] [0, 3, 5, 6, 7, 8, 9])
 (.ret))
def r_watch_twice : List RRes := [.tmp 4]
theorem fo_watch_twice {args : List Value} {M : Mem} {R : Value → Mem → Prop} (hn : args.length ≤ 10) (h : vfn Tryz.prog c_watch_twice r_watch_twice args M R) : CallsM Tryz.prog F.watch_twice args M R :=
  fn_ok (kf := k_watch_twice) Tryz.func27 (by kernel_rfl) (by kernel_rfl) hn (by kernel_rfl) h
/-- portage/watch.strange -/
def k_watch_strange (i : Nat) : List Nat := match i with | 0 => [1, 4] | 1 => [5, 6, 7, 8] | 2 => [10, 11, 12, 13, 14, 15] | 3 => [0, 3, 16, 17, 18, 19, 20] | _ => []
def c_watch_strange : RCode :=
 .seq (.ops [o 3 (.box 46 (t 1)),
 mv 4 (kb false)] [1, 4])
 (.seq (.seq (.ops [fa 5 0 (t 3),
 l1 6 (t 5),
 mv 7 (t 0),
 o 8 (.len (t 7)),
 o 9 (.ibin .lss (t 6) (t 8))] [5, 6, 7, 8])
 (.cond (t 9)
  (.ops [mv 10 (t 0),
  fa 11 0 (t 3),
  l1 12 (t 11),
  o 13 (.imm true (t 12) (k (-1))),
  ad 14 (t 13) (k 1),
  o 15 (.slx 5 (t 10) none (some (t 14))),
  mv 0 (t 15)] [10, 11, 12, 13, 14, 15])
  (.skip)))
 (.seq (.ops [mv 16 (t 0),
 o 17 (.mkfn F.watch_strange_1 [(t 3)]),
 ca 18 F.watch_some_api_Step [(t 16), (t 17)],
 o 19 (.len (t 18)),
 o 20 (.ibin .eql (t 19) (k 0)),
 mv 4 (t 20)] [0, 3, 16, 17, 18, 19, 20])
 (.ret)))
def r_watch_strange : List RRes := [.tmp 4]
theorem fo_watch_strange {args : List Value} {M : Mem} {R : Value → Mem → Prop} (hn : args.length ≤ 21) (h : vfn Tryz.prog c_watch_strange r_watch_strange args M R) : CallsM Tryz.prog F.watch_strange args M R :=
  fn_ok (kf := k_watch_strange) Tryz.func28 (by kernel_rfl) (by kernel_rfl) hn (by kernel_rfl) h
/-- portage/watch.again -/
def k_watch_again (i : Nat) : List Nat := match i with | 0 => [1, 4] | 1 => [0, 6, 7, 8] | 2 => [3, 5, 9, 10, 11, 12, 13, 14, 15, 16, 17, 18, 19, 20, 21, 22, 23] | _ => []
def c_watch_again : RCode :=
 .seq (.ops [o 3 (.box 42 (t 1)),
 mv 4 (kb false)] [1, 4])
 (.seq (.ops [mv 6 (t 0),
 o 7 (.mkfn F.watch_again_1 [(t 3)]),
 ca 8 F.watch_some_api_Told [(t 6), (t 7)],
 mv 5 (t 8)] [0, 6, 7, 8])
 (.seq (.draw (.take (mv 9 (t 5)) (.take (o 10 (.len (t 9))) (.take (o 11 (.ibin .gtr (t 10) (k 0))) (.take (os 12 (.mov (t 11))) (.take (gt 12 13 (.mov (t 5))) (.take (gt 12 14 (.mov (t 5))) (.take (gt 12 15 (.len (t 14))) (.take (gt 12 16 (.ibin .sub (t 15) (k 1))) (.take (gt 12 17 (.iaddr 9 (t 13) (t 16))) (.take (gt 12 18 (.faddr 2 (t 17))) (.take (gt 12 19 (.load true 4 (t 18))) (.take (gt 12 20 (.load true 4 (t 3))) (.alt (gt 12 21 (.call (fn F.msg_Less) [(t 19), (t 20)])) false
  (.take (gt 12 22 (.not (t 21))) (.take (o 23 (.pick (t 12) (t 22) (kb false))) (.take (mv 4 (t 23)) (.done))))
  (.none)))))))))))))) [3, 5, 9, 10, 11, 12, 13, 14, 15, 16, 17, 18, 19, 20, 21, 22, 23])
 (.ret)))
def r_watch_again : List RRes := [.tmp 4]
theorem fo_watch_again {args : List Value} {M : Mem} {R : Value → Mem → Prop} (hn : args.length ≤ 24) (h : vfn Tryz.prog c_watch_again r_watch_again args M R) : CallsM Tryz.prog F.watch_again args M R :=
  fn_ok (kf := k_watch_again) Tryz.func29 (by kernel_rfl) (by kernel_rfl) hn (by kernel_rfl) h
/-- strconv.Itoa -/
def k_strconv_Itoa (i : Nat) : List Nat := match i with | 0 => [2] | 1 => [0, 3, 4] | _ => []
def c_strconv_Itoa : RCode :=
 .seq (.ops [mv 2 (.const (.string ByteArray.empty))] [2])
 (.seq (.ops [mv 3 (t 0),
 ca 4 F.internal_strconv_Itoa [(t 3)],
 mv 2 (t 4)] [0, 3, 4])
 (.ret))
def r_strconv_Itoa : List RRes := [.tmp 2]
theorem fo_strconv_Itoa {args : List Value} {M : Mem} {R : Value → Mem → Prop} (hn : args.length ≤ 5) (h : vfn Tryz.prog c_strconv_Itoa r_strconv_Itoa args M R) : CallsM Tryz.prog F.strconv_Itoa args M R :=
  fn_ok (kf := k_strconv_Itoa) Tryz.func30 (by kernel_rfl) (by kernel_rfl) hn (by kernel_rfl) h
/-- portage/msg.Text -/
def k_msg_Text (i : Nat) : List Nat := match i with | 0 => [0, 2, 3] | 1 => [6, 7] | 2 => [8] | 3 => [4, 10] | 5 => [1, 5, 11, 12, 13, 14, 15, 16, 17, 18, 19, 20, 21, 22, 23, 24, 25, 26, 27, 28, 29, 30, 31, 32] | _ => []
def c_msg_Text : RCode :=
 .seq (.ops [o 1 (.box 42 (t 0)),
 mv 2 (.const (.string ByteArray.empty)),
 mv 3 (k 0)] [0, 2, 3])
 (.seq (.seq (.ops [la 6 4 (t 1),
 ca 7 F.msg_Check [(t 6)],
 mv 4 (t 7)] [6, 7])
 (.seq (.ops [mv 8 (t 4),
 o 9 (.ibin .neq (t 8) (k 0))] [8])
 (.cond (t 9)
  (.seq (.ops [mv 10 (t 4),
  mv 2 (.const (.string ByteArray.empty)),
  mv 3 (t 10)] [4, 10])
  (.ret))
  (.skip))))
 (.seq (.ops [mv 5 (fn F.strconv_Itoa)] [])
 (.seq (.draw (.take (mv 11 (t 5)) (.take (fa 12 0 (t 1)) (.take (l1 13 (t 12)) (.take (mv 16 (t 5)) (.take (fa 17 1 (t 1)) (.take (l1 18 (t 17)) (.take (mv 22 (t 5)) (.take (fa 23 2 (t 1)) (.take (l1 24 (t 23)) (.take (mv 28 (t 5)) (.take (fa 29 3 (t 1)) (.take (l1 30 (t 29)) (.alt (o 14 (.call (t 11) [(t 13)])) true
  (.take (o 15 (.strE .add (t 14) (.const (.string ⟨#[62]⟩)))) (.alt (o 19 (.call (t 16) [(t 18)])) true
   (.take (o 20 (.strE .add (t 15) (t 19))) (.take (o 21 (.strE .add (t 20) (.const (.string ⟨#[58]⟩)))) (.alt (o 25 (.call (t 22) [(t 24)])) true
    (.take (o 26 (.strE .add (t 21) (t 25))) (.take (o 27 (.strE .add (t 26) (.const (.string ⟨#[46]⟩)))) (.alt (o 31 (.call (t 28) [(t 30)])) false
     (.take (o 32 (.strE .add (t 27) (t 31))) (.take (mv 2 (t 32)) (.take (mv 3 (k 0)) (.done))))
     (.none))))
    (.none))))
   (.none)))
  (.none)))))))))))))) [1, 5, 11, 12, 13, 14, 15, 16, 17, 18, 19, 20, 21, 22, 23, 24, 25, 26, 27, 28, 29, 30, 31, 32])
 (.ret))))
def r_msg_Text : List RRes := [.tmp 2, .tmp 3]
theorem fo_msg_Text {args : List Value} {M : Mem} {R : Value → Mem → Prop} (hn : args.length ≤ 33) (h : vfn Tryz.prog c_msg_Text r_msg_Text args M R) : CallsM Tryz.prog F.msg_Text args M R :=
  fn_ok (kf := k_msg_Text) Tryz.func31 (by kernel_rfl) (by kernel_rfl) hn (by kernel_rfl) h
/-- (*portage/disk.Disk).Names -/
def k_disk_Disk_Names (i : Nat) : List Nat := match i with | 0 => [2] | 1 => [5] | 4 => [0, 7, 8, 9, 10] | 5 => [12] | 6 => [14, 15] | 7 => [4, 16, 17, 18, 19] | 8 => [20, 21] | 9 => [3, 22] | _ => []
def c_disk_Disk_Names : RCode :=
 .seq (.ops [mv 2 (.const sn)] [2])
 (.seq (.seq (.ops [mv 5 (t 0),
 o 6 (.pnil .eql (t 5) (.const (.pointer none)))] [5])
 (.cond (t 6)
  (.seq (.ops [mv 2 (.const sn)] [])
  (.ret))
  (.skip)))
 (.seq (.ops [mv 3 (.const sn)] [])
 (.seq (.seq (.ops [mv 7 (t 0),
 o 8 (.nilck (t 7)),
 fa 9 1 (t 8),
 l1 10 (t 9),
 o 11 (.mrange (t 10))] [0, 7, 8, 9, 10])
 (.block 0 (.loop (.seq (.ops [o 12 (.mnext (t 11)),
  ex 13 (t 12) 0] [12])
  (.seq (.cond (t 13)
   (.skip)
   (.exit 0))
  (.block 1 (.seq (.ops [o 14 (.mentry (t 11)),
  ex 15 (t 14) 0,
  mv 4 (t 15)] [14, 15])
  (.ops [mv 16 (t 3),
  mv 17 (t 4),
  o 18 (.mkSl true 9 1 [(.string ByteArray.empty)] [(0, 1, (t 17))]),
  o 19 (.app 9 1 16 [(.string ByteArray.empty)] (t 16) (t 18)),
  mv 3 (t 19)] [4, 16, 17, 18, 19]))))))))
 (.seq (.ops [mv 20 (t 3),
 ca 21 F.slices_Sort_string_string [(t 20)]] [20, 21])
 (.seq (.ops [mv 22 (t 3),
 mv 2 (t 22)] [3, 22])
 (.ret))))))
def r_disk_Disk_Names : List RRes := [.tmp 2]
theorem fo_disk_Disk_Names {args : List Value} {M : Mem} {R : Value → Mem → Prop} (hn : args.length ≤ 23) (h : vfn Tryz.prog c_disk_Disk_Names r_disk_Disk_Names args M R) : CallsM Tryz.prog F.disk_Disk_Names args M R :=
  fn_ok (kf := k_disk_Disk_Names) Tryz.func32 (by kernel_rfl) (by kernel_rfl) hn (by kernel_rfl) h
/-- portage/store.New -/
def k_store_New (i : Nat) : List Nat := match i with | 0 => [1, 4, 5] | 1 => [8, 9, 10, 11, 12, 13, 14, 15, 16, 17, 18, 19, 20, 21, 22, 23, 24, 25, 26, 27] | 3 => [7, 29, 30, 31, 32, 33, 34] | 4 => [0, 3, 6, 35, 36, 37, 38, 39, 40] | _ => []
def c_store_New : RCode :=
 .seq (.ops [o 3 (.box 61 (t 1)),
 mv 4 (.const (.pointer none)),
 mv 5 (k 0)] [1, 4, 5])
 (.seq (.seq (.ops [mv 8 (t 0),
 ca 9 F.store_in [(t 8), (k 63)],
 o 10 (.not (t 9)),
 os 11 (.mov (t 10)),
 gf 11 12 (.faddr 0 (t 3)),
 gf 11 13 (.load false 1 (t 12)),
 gf 11 14 (.call (fn F.store_in) [(t 13), (k 256)]),
 gf 11 15 (.not (t 14)),
 o 16 (.pick (t 11) (kb true) (t 15)),
 os 17 (.mov (t 16)),
 gf 17 18 (.faddr 1 (t 3)),
 gf 17 19 (.load false 1 (t 18)),
 gf 17 20 (.call (fn F.store_in) [(t 19), (k 1048576)]),
 gf 17 21 (.not (t 20)),
 o 22 (.pick (t 17) (kb true) (t 21)),
 os 23 (.mov (t 22)),
 gf 23 24 (.faddr 2 (t 3)),
 gf 23 25 (.load false 1 (t 24)),
 gf 23 26 (.call (fn F.store_in) [(t 25), (k 256)]),
 gf 23 27 (.not (t 26)),
 o 28 (.pick (t 23) (kb true) (t 27))] [8, 9, 10, 11, 12, 13, 14, 15, 16, 17, 18, 19, 20, 21, 22, 23, 24, 25, 26, 27])
 (.cond (t 28)
  (.seq (.ops [mv 4 (.const (.pointer none)),
  mv 5 (k 1)] [])
  (.ret))
  (.skip)))
 (.seq (.ops [fa 30 2 (t 3),
 l1 31 (t 30),
 ca 32 F.seen_New [(t 31)],
 mv 29 (t 32),
 ex 33 (t 29) 0,
 ex 34 (t 29) 1,
 mv 6 (t 33),
 mv 7 (t 34)] [7, 29, 30, 31, 32, 33, 34])
 (.seq (.ops [mv 35 (t 0),
 la 36 3 (t 3),
 o 37 (.mkMap),
 mv 38 (t 6),
 o 39 (.build [(i 0), (i 0), (i 0), (i 0), (i 0), (i 0), (i 0), (i 0), (i 0), (i 0), (i 0), (i 0), (i 0), (i 0), (i 0), (i 0), (i 0), (i 0), (i 0), (i 0), (i 0), (i 0), (i 0), (i 0), (i 0), (i 0), (i 0), (i 0), (i 0), (i 0), (i 0), (i 0), (i 0), (i 0), (i 0), (i 0), (i 0), (i 0), (i 0), (i 0), (i 0), (i 0), (i 0), (i 0), (i 0), (i 0), (i 0), (i 0), (i 0), (i 0), (i 0), (i 0), (i 0), (i 0), (i 0), (i 0), (i 0), (i 0), (i 0), (i 0), (i 0), (i 0), (i 0), (i 0), (i 0), (i 0), (i 0), (i 0), (i 0), (.map none), (i 0), (i 0), (.pointer none)] [(0, 1, (t 35)), (1, 3, (t 36)), (69, 1, (t 37)), (72, 1, (t 38))]),
 o 40 (.box 122 (t 39)),
 mv 4 (t 40),
 mv 5 (k 0)] [0, 3, 6, 35, 36, 37, 38, 39, 40])
 (.ret))))
def r_store_New : List RRes := [.tmp 4, .tmp 5]
theorem fo_store_New {args : List Value} {M : Mem} {R : Value → Mem → Prop} (hn : args.length ≤ 41) (h : vfn Tryz.prog c_store_New r_store_New args M R) : CallsM Tryz.prog F.store_New args M R :=
  fn_ok (kf := k_store_New) Tryz.func33 (by kernel_rfl) (by kernel_rfl) hn (by kernel_rfl) h
/-- (*portage/disk.Disk).Down -/
def k_disk_Disk_Down (i : Nat) : List Nat := match i with | 0 => [2] | 1 => [0, 3, 4, 5, 6, 7, 8, 9, 10] | _ => []
def c_disk_Disk_Down : RCode :=
 .seq (.ops [mv 2 (kb false)] [2])
 (.seq (.ops [mv 3 (t 0),
 o 4 (.pnil .neq (t 3) (.const (.pointer none))),
 os 5 (.mov (t 4)),
 gt 5 6 (.mov (t 0)),
 gt 5 7 (.nilck (t 6)),
 gt 5 8 (.faddr 3 (t 7)),
 gt 5 9 (.load false 1 (t 8)),
 o 10 (.pick (t 5) (t 9) (kb false)),
 mv 2 (t 10)] [0, 3, 4, 5, 6, 7, 8, 9, 10])
 (.ret))
def r_disk_Disk_Down : List RRes := [.tmp 2]
theorem fo_disk_Disk_Down {args : List Value} {M : Mem} {R : Value → Mem → Prop} (hn : args.length ≤ 11) (h : vfn Tryz.prog c_disk_Disk_Down r_disk_Disk_Down args M R) : CallsM Tryz.prog F.disk_Disk_Down args M R :=
  fn_ok (kf := k_disk_Disk_Down) Tryz.func34 (by kernel_rfl) (by kernel_rfl) hn (by kernel_rfl) h
/-- (*portage/custody.Custody).sweep -/
def k_custody_Custody_sweep (i : Nat) : List Nat := match i with | 0 => [2] | 1 => [3] | 2 => [0, 5, 6, 7, 8, 9] | _ => []
def c_custody_Custody_sweep : RCode :=
 .seq (.ops [mv 2 (k 0)] [2])
 (.seq (.seq (.ops [mv 3 (t 0),
 ca 4 F.custody_Custody_has [(t 3), (.const (.string ⟨#[116]⟩))]] [3])
 (.cond (t 4)
  (.seq (.ops [mv 5 (t 0),
  o 6 (.nilck (t 5)),
  fa 7 1 (t 6),
  l1 8 (t 7),
  ca 9 F.disk_Disk_Remove [(t 8), (.const (.string ⟨#[116]⟩))],
  mv 2 (t 9)] [0, 5, 6, 7, 8, 9])
  (.ret))
  (.skip)))
 (.seq (.ops [mv 2 (k 0)] [])
 (.ret)))
def r_custody_Custody_sweep : List RRes := [.tmp 2]
theorem fo_custody_Custody_sweep {args : List Value} {M : Mem} {R : Value → Mem → Prop} (hn : args.length ≤ 10) (h : vfn Tryz.prog c_custody_Custody_sweep r_custody_Custody_sweep args M R) : CallsM Tryz.prog F.custody_Custody_sweep args M R :=
  fn_ok (kf := k_custody_Custody_sweep) Tryz.func35 (by kernel_rfl) (by kernel_rfl) hn (by kernel_rfl) h
/-- (*portage/custody.Custody).load -/
def k_custody_Custody_load (i : Nat) : List Nat := match i with | 0 => [2, 6] | 1 => [15, 16] | 2 => [17, 18] | 4 => [20, 21, 22, 23, 24, 25, 26, 27, 28] | 5 => [29, 30, 31, 32, 33, 34, 35, 36, 37, 38, 39, 40, 41] | 6 => [42] | 7 => [9, 44] | 8 => [7, 45, 46, 47, 48] | 10 => [53, 54] | 11 => [11, 55, 56, 57, 58, 59, 60, 61] | 12 => [62] | 13 => [12, 64] | 14 => [65] | 15 => [8, 66, 67, 68, 69, 70] | 16 => [1, 9, 71, 72, 73, 74, 75, 76, 77] | 18 => [5, 13, 79, 80, 81, 82, 83, 84] | 19 => [9, 85] | 21 => [0, 14, 87, 88, 89, 90, 91] | _ => []
def c_custody_Custody_load : RCode :=
 .seq (.ops [o 5 (.box 61 (t 2)),
 mv 6 (k 0)] [2, 6])
 (.seq (.ops [mv 15 (t 0),
 ca 16 F.custody_Custody_snaps [(t 15)],
 mv 7 (t 16)] [15, 16])
 (.seq (.seq (.ops [mv 17 (t 7),
 o 18 (.len (t 17)),
 o 19 (.ibin .eql (t 18) (k 0))] [17, 18])
 (.cond (t 19)
  (.seq (.ops [mv 6 (k 0)] [])
  (.ret))
  (.skip)))
 (.seq (.ops [mv 20 (t 0),
 mv 21 (t 7),
 mv 22 (t 7),
 o 23 (.len (t 22)),
 o 24 (.ibin .sub (t 23) (k 1)),
 o 25 (.iaddr 1 (t 21) (t 24)),
 l1 26 (t 25),
 o 27 (.nilck (t 20)),
 fa 28 3 (t 27),
 st 1 (t 28) (t 26)] [20, 21, 22, 23, 24, 25, 26, 27, 28])
 (.seq (.draw (.take (mv 30 (t 0)) (.take (o 31 (.nilck (t 30))) (.take (fa 32 1 (t 31)) (.take (l1 33 (t 32)) (.take (mv 34 (t 0)) (.take (o 35 (.nilck (t 34))) (.take (fa 36 3 (t 35)) (.take (l1 37 (t 36)) (.alt (ca 38 F.custody_name [(t 37)]) true
  (.alt (ca 39 F.disk_Disk_Read [(t 33), (t 38)]) false
   (.take (mv 29 (t 39)) (.take (ex 40 (t 29) 0) (.take (ex 41 (t 29) 1) (.take (mv 8 (t 40)) (.take (mv 9 (t 41)) (.done))))))
   (.none))
  (.none)))))))))) [29, 30, 31, 32, 33, 34, 35, 36, 37, 38, 39, 40, 41])
 (.seq (.seq (.ops [mv 42 (t 9),
 o 43 (.ibin .neq (t 42) (k 0))] [42])
 (.cond (t 43)
  (.seq (.ops [mv 44 (t 9),
  mv 6 (t 44)] [9, 44])
  (.ret))
  (.skip)))
 (.seq (.seq (.ops [mv 45 (t 7),
 mv 46 (t 7),
 o 47 (.len (t 46)),
 o 48 (.ibin .sub (t 47) (k 1)),
 o 49 (.slx 1 (t 45) none (some (t 48))),
 o 50 (.len (t 49)),
 mv 51 (k 0)] [7, 45, 46, 47, 48])
 (.block 0 (.loop (.seq (.ops [o 52 (.ibin .lss (t 51) (t 50))] [])
  (.seq (.cond (t 52)
   (.skip)
   (.exit 0))
  (.seq (.block 1 (.seq (.ops [o 53 (.iaddr 1 (t 49) (t 51)),
  l1 54 (t 53),
  mv 11 (t 54)] [53, 54])
  (.seq (.draw (.take (mv 55 (t 0)) (.take (o 56 (.nilck (t 55))) (.take (fa 57 1 (t 56)) (.take (l1 58 (t 57)) (.take (mv 59 (t 11)) (.alt (ca 60 F.custody_name [(t 59)]) true
   (.alt (ca 61 F.disk_Disk_Remove [(t 58), (t 60)]) false
    (.take (mv 12 (t 61)) (.done))
    (.none))
   (.none))))))) [11, 55, 56, 57, 58, 59, 60, 61])
  (.seq (.ops [mv 62 (t 12),
  o 63 (.ibin .neq (t 62) (k 0))] [62])
  (.cond (t 63)
   (.seq (.ops [mv 64 (t 12),
   mv 6 (t 64)] [12, 64])
   (.ret))
   (.skip))))))
  (.ops [ad 65 (t 51) (k 1),
  mv 51 (t 65)] [65])))))))
 (.seq (.ops [mv 67 (t 8),
 ca 68 F.snap_Get [(t 67)],
 mv 66 (t 68),
 ex 69 (t 66) 0,
 ex 70 (t 66) 1,
 o 13 (.alloc 37 [(i 0), (i 0), sn, sn, sn]),
 st 5 (t 13) (t 69),
 mv 9 (t 70)] [8, 66, 67, 68, 69, 70])
 (.seq (.seq (.ops [mv 71 (t 9),
 o 72 (.ibin .neq (t 71) (k 0)),
 os 73 (.mov (t 72)),
 gf 73 74 (.faddr 0 (t 13)),
 gf 73 75 (.load false 1 (t 74)),
 gf 73 76 (.mov (t 1)),
 gf 73 77 (.ibin .neq (t 75) (t 76)),
 o 78 (.pick (t 73) (kb true) (t 77))] [1, 9, 71, 72, 73, 74, 75, 76, 77])
 (.cond (t 78)
  (.seq (.ops [mv 6 (k 2)] [])
  (.ret))
  (.skip)))
 (.seq (.ops [la 80 3 (t 5),
 la 81 5 (t 13),
 ca 82 F.store_From [(t 80), (t 81)],
 mv 79 (t 82),
 ex 83 (t 79) 0,
 ex 84 (t 79) 1,
 mv 14 (t 83),
 mv 9 (t 84)] [5, 13, 79, 80, 81, 82, 83, 84])
 (.seq (.seq (.ops [mv 85 (t 9),
 o 86 (.ibin .neq (t 85) (k 0))] [9, 85])
 (.cond (t 86)
  (.seq (.ops [mv 6 (k 6)] [])
  (.ret))
  (.skip)))
 (.seq (.ops [mv 87 (t 0),
 mv 88 (t 14),
 o 89 (.build [(.pointer none)] [(0, 1, (t 88))]),
 o 90 (.nilck (t 87)),
 fa 91 0 (t 90),
 st 1 (t 91) (t 89)] [0, 14, 87, 88, 89, 90, 91])
 (.seq (.ops [mv 6 (k 0)] [])
 (.ret)))))))))))))
def r_custody_Custody_load : List RRes := [.tmp 6]
theorem fo_custody_Custody_load {args : List Value} {M : Mem} {R : Value → Mem → Prop} (hn : args.length ≤ 92) (h : vfn Tryz.prog c_custody_Custody_load r_custody_Custody_load args M R) : CallsM Tryz.prog F.custody_Custody_load args M R :=
  fn_ok (kf := k_custody_Custody_load) Tryz.func36 (by kernel_rfl) (by kernel_rfl) hn (by kernel_rfl) h
/-- (*portage/custody.Custody).replay -/
def k_custody_Custody_replay (i : Nat) : List Nat := match i with | 0 => [4] | 1 => [1, 12, 13, 14, 15, 16, 17, 18, 19, 20, 21, 22, 23, 24, 25, 26] | 2 => [27] | 3 => [7, 29] | 4 => [5, 30, 31, 32, 33] | 5 => [6] | 7 => [38, 39] | 8 => [9, 40, 41, 42, 43, 44] | 9 => [10, 11, 45, 46, 47, 48, 49, 50, 51, 52, 53, 54, 55] | 11 => [57] | _ => []
def c_custody_Custody_replay : RCode :=
 .seq (.ops [mv 4 (k 0)] [4])
 (.seq (.draw (.take (mv 13 (t 0)) (.take (o 14 (.nilck (t 13))) (.take (fa 15 1 (t 14)) (.take (l1 16 (t 15)) (.take (mv 17 (t 0)) (.take (o 18 (.nilck (t 17))) (.take (fa 19 3 (t 18)) (.take (l1 20 (t 19)) (.take (o 21 (.imm true (t 20) (k 1))) (.take (mv 22 (t 1)) (.alt (ca 23 F.wal_Open [(t 16), (t 21), (t 22)]) false
  (.take (mv 12 (t 23)) (.take (ex 24 (t 12) 0) (.take (ex 25 (t 12) 1) (.take (ex 26 (t 12) 2) (.take (mv 5 (t 24)) (.take (mv 6 (t 25)) (.take (mv 7 (t 26)) (.done))))))))
  (.none)))))))))))) [1, 12, 13, 14, 15, 16, 17, 18, 19, 20, 21, 22, 23, 24, 25, 26])
 (.seq (.seq (.ops [mv 27 (t 7),
 o 28 (.ibin .neq (t 27) (k 0))] [27])
 (.cond (t 28)
  (.seq (.ops [mv 29 (t 7),
  mv 4 (t 29)] [7, 29])
  (.ret))
  (.skip)))
 (.seq (.ops [mv 30 (t 0),
 mv 31 (t 5),
 o 32 (.nilck (t 30)),
 fa 33 2 (t 32),
 st 1 (t 33) (t 31)] [5, 30, 31, 32, 33])
 (.seq (.seq (.ops [mv 34 (t 6),
 o 35 (.len (t 34)),
 mv 36 (k 0)] [6])
 (.block 0 (.loop (.seq (.ops [o 37 (.ibin .lss (t 36) (t 35))] [])
  (.seq (.cond (t 37)
   (.skip)
   (.exit 0))
  (.seq (.block 1 (.seq (.ops [o 38 (.iaddr 1 (t 34) (t 36)),
  l1 39 (t 38),
  mv 9 (t 39)] [38, 39])
  (.seq (.ops [mv 41 (t 9),
  ca 42 F.store_GetEv [(t 41)],
  mv 40 (t 42),
  ex 43 (t 40) 0,
  ex 44 (t 40) 1,
  o 10 (.alloc 135 [(i 0), (i 0), (i 0), (i 0), (i 0), sn]),
  st 6 (t 10) (t 43),
  mv 11 (t 44)] [9, 40, 41, 42, 43, 44])
  (.seq (.draw (.take (mv 45 (t 11)) (.take (o 46 (.ibin .neq (t 45) (k 0))) (.take (os 47 (.mov (t 46))) (.take (gf 47 48 (.mov (t 0))) (.take (gf 47 49 (.nilck (t 48))) (.take (gf 47 50 (.faddr 0 (t 49))) (.take (gf 47 51 (.faddr 0 (t 50))) (.take (gf 47 52 (.load false 1 (t 51))) (.take (gf 47 53 (.load true 6 (t 10))) (.alt (gf 47 54 (.call (fn F.store_Store_Apply) [(t 52), (t 53)])) false
   (.take (gf 47 55 (.ibin .neq (t 54) (k 0))) (.take (o 56 (.pick (t 47) (kb true) (t 55))) (.done)))
   (.none))))))))))) [10, 11, 45, 46, 47, 48, 49, 50, 51, 52, 53, 54, 55])
  (.cond (t 56)
   (.seq (.ops [mv 4 (k 2)] [])
   (.ret))
   (.skip))))))
  (.ops [ad 57 (t 36) (k 1),
  mv 36 (t 57)] [57])))))))
 (.seq (.ops [mv 4 (k 0)] [])
 (.ret))))))
def r_custody_Custody_replay : List RRes := [.tmp 4]
theorem fo_custody_Custody_replay {args : List Value} {M : Mem} {R : Value → Mem → Prop} (hn : args.length ≤ 58) (h : vfn Tryz.prog c_custody_Custody_replay r_custody_Custody_replay args M R) : CallsM Tryz.prog F.custody_Custody_replay args M R :=
  fn_ok (kf := k_custody_Custody_replay) Tryz.func37 (by kernel_rfl) (by kernel_rfl) hn (by kernel_rfl) h
/-- (*portage/custody.Custody).boot -/
def k_custody_Custody_boot (i : Nat) : List Nat := match i with | 0 => [2] | 1 => [4, 5, 6] | 2 => [7] | 3 => [0, 9, 10, 11] | 5 => [3, 12] | _ => []
def c_custody_Custody_boot : RCode :=
 .seq (.ops [mv 2 (k 0)] [2])
 (.seq (.ops [mv 4 (t 0),
 o 5 (.build [(i 0), (i 0), (i 0), (i 0), (i 0), sn] [(0, 1, (k 1))]),
 ca 6 F.custody_Custody_put [(t 4), (t 5), (kb true)],
 mv 3 (t 6)] [4, 5, 6])
 (.seq (.seq (.ops [mv 7 (t 3),
 o 8 (.ibin .eql (t 7) (k 10))] [7])
 (.cond (t 8)
  (.seq (.ops [mv 9 (t 0),
  o 10 (.nilck (t 9)),
  fa 11 5 (t 10),
  st 1 (t 11) (kb true)] [0, 9, 10, 11])
  (.seq (.ops [mv 2 (k 0)] [])
  (.ret)))
  (.skip)))
 (.seq (.ops [mv 12 (t 3),
 mv 2 (t 12)] [3, 12])
 (.ret))))
def r_custody_Custody_boot : List RRes := [.tmp 2]
theorem fo_custody_Custody_boot {args : List Value} {M : Mem} {R : Value → Mem → Prop} (hn : args.length ≤ 13) (h : vfn Tryz.prog c_custody_Custody_boot r_custody_Custody_boot args M R) : CallsM Tryz.prog F.custody_Custody_boot args M R :=
  fn_ok (kf := k_custody_Custody_boot) Tryz.func38 (by kernel_rfl) (by kernel_rfl) hn (by kernel_rfl) h
/-- (*portage/store.Store).State -/
def k_store_Store_State (i : Nat) : List Nat := match i with | 1 => [6] | 2 => [8] | 3 => [9, 10, 11, 12, 13, 14, 15, 16, 17, 18, 19, 20, 21, 22, 23, 24] | 4 => [0, 25, 26, 27] | 6 => [31, 32] | 7 => [33] | 8 => [4, 5, 35, 36, 37, 38, 39, 40, 41, 42] | 9 => [43] | 10 => [3, 44] | _ => []
def c_store_Store_State : RCode :=
 .seq (.ops [o 2 (.alloc 37 [(i 0), (i 0), sn, sn, sn])] [])
 (.seq (.seq (.ops [mv 6 (t 0),
 o 7 (.pnil .eql (t 6) (.const (.pointer none)))] [6])
 (.cond (t 7)
  (.seq (.ops [o 8 (.build [(i 0), (i 0), sn, sn, sn] []),
  st 5 (t 2) (t 8)] [8])
  (.ret))
  (.skip)))
 (.seq (.draw (.take (mv 9 (t 0)) (.take (o 10 (.nilck (t 9))) (.take (fa 11 0 (t 10)) (.take (l1 12 (t 11)) (.take (mv 13 (t 0)) (.take (o 14 (.nilck (t 13))) (.take (fa 15 4 (t 14)) (.take (l1 16 (t 15)) (.take (mv 17 (t 0)) (.take (mv 19 (t 0)) (.take (o 20 (.nilck (t 19))) (.take (fa 21 72 (t 20)) (.take (l1 22 (t 21)) (.alt (ca 18 F.store_Store_Held [(t 17)]) true
  (.alt (ca 23 F.seen_Set_Marks [(t 22)]) true
   (.take (o 24 (.build [(i 0), (i 0), sn, sn, sn] [(0, 1, (t 12)), (1, 1, (t 16)), (3, 1, (t 18)), (4, 1, (t 23))])) (.alt (o 3 (.alloc 37 [(i 0), (i 0), sn, sn, sn])) false
    (.alt (st 5 (t 3) (t 24)) false
     (.done)
     (.none))
    (.none)))
   (.alt (o 3 (.alloc 37 [(i 0), (i 0), sn, sn, sn])) false
    (.alt (ca 23 F.seen_Set_Marks [(t 22)]) true
     (.take (o 24 (.build [(i 0), (i 0), sn, sn, sn] [(0, 1, (t 12)), (1, 1, (t 16)), (3, 1, (t 18)), (4, 1, (t 23))])) (.alt (st 5 (t 3) (t 24)) false
      (.done)
      (.none)))
     (.none))
    (.none)))
  (.alt (o 3 (.alloc 37 [(i 0), (i 0), sn, sn, sn])) false
   (.alt (ca 18 F.store_Store_Held [(t 17)]) true
    (.alt (ca 23 F.seen_Set_Marks [(t 22)]) true
     (.take (o 24 (.build [(i 0), (i 0), sn, sn, sn] [(0, 1, (t 12)), (1, 1, (t 16)), (3, 1, (t 18)), (4, 1, (t 23))])) (.alt (st 5 (t 3) (t 24)) false
      (.done)
      (.none)))
     (.none))
    (.none))
   (.none)))))))))))))))) [9, 10, 11, 12, 13, 14, 15, 16, 17, 18, 19, 20, 21, 22, 23, 24])
 (.seq (.seq (.ops [mv 25 (t 0),
 o 26 (.nilck (t 25)),
 fa 27 5 (t 26),
 la 28 64 (t 27),
 mv 29 (k 0)] [0, 25, 26, 27])
 (.block 0 (.loop (.seq (.ops [o 30 (.ibin .lss (t 29) (k 64))] [])
  (.seq (.cond (t 30)
   (.skip)
   (.exit 0))
  (.seq (.block 1 (.seq (.ops [mv 31 (t 29),
  o 32 (.aidx false 64 1 (t 28) (t 29)),
  mv 4 (t 31),
  mv 5 (t 32)] [31, 32])
  (.seq (.ops [mv 33 (t 5),
  o 34 (.ibin .gtr (t 33) (k 0))] [33])
  (.cond (t 34)
   (.ops [fa 35 2 (t 3),
   l1 36 (t 35),
   mv 37 (t 4),
   mv 38 (t 5),
   o 39 (.build [(i 0), (i 0)] [(0, 1, (t 37)), (1, 1, (t 38))]),
   o 40 (.mkSl true 143 1 [(i 0), (i 0)] [(0, 2, (t 39))]),
   o 41 (.app 143 2 16 [(i 0), (i 0)] (t 36) (t 40)),
   fa 42 2 (t 3),
   st 1 (t 42) (t 41)] [4, 5, 35, 36, 37, 38, 39, 40, 41, 42])
   (.skip)))))
  (.ops [ad 43 (t 29) (k 1),
  mv 29 (t 43)] [43])))))))
 (.seq (.ops [la 44 5 (t 3),
 st 5 (t 2) (t 44)] [3, 44])
 (.ret)))))
def r_store_Store_State : List RRes := [.cell true 5 2]
theorem fo_store_Store_State {args : List Value} {M : Mem} {R : Value → Mem → Prop} (hn : args.length ≤ 45) (h : vfn Tryz.prog c_store_Store_State r_store_Store_State args M R) : CallsM Tryz.prog F.store_Store_State args M R :=
  fn_ok (kf := k_store_Store_State) Tryz.func39 (by kernel_rfl) (by kernel_rfl) hn (by kernel_rfl) h
/-- portage/watch.some[portage/api.Told] -/
def k_watch_some_api_Told (i : Nat) : List Nat := match i with | 0 => [4] | 2 => [0] | 4 => [12, 13] | 5 => [14, 15] | 6 => [7, 17, 18, 19, 20] | 7 => [21] | 8 => [5, 22] | _ => []
def c_watch_some_api_Told : RCode :=
 .seq (.ops [mv 4 (.const sn)] [4])
 (.seq (.ops [mv 5 (.const sn)] [])
 (.seq (.seq (.ops [mv 8 (t 0),
 o 9 (.len (t 8)),
 mv 10 (k 0)] [0])
 (.block 0 (.loop (.seq (.ops [o 11 (.ibin .lss (t 10) (t 9))] [])
  (.seq (.cond (t 11)
   (.skip)
   (.exit 0))
  (.seq (.block 1 (.seq (.ops [o 12 (.iaddr 9 (t 8) (t 10)),
  la 13 9 (t 12),
  o 7 (.alloc 46 [(i 0), (i 0), (i 0), (i 0), (i 0), (i 0), (i 0), sn, (.bool false)]),
  st 9 (t 7) (t 13)] [12, 13])
  (.seq (.ops [mv 14 (t 1),
  la 15 9 (t 7),
  o 16 (.call (t 14) [(t 15)])] [14, 15])
  (.cond (t 16)
   (.ops [mv 17 (t 5),
   la 18 9 (t 7),
   o 19 (.mkSl true 46 1 [(i 0), (i 0), (i 0), (i 0), (i 0), (i 0), (i 0), sn, (.bool false)] [(0, 9, (t 18))]),
   o 20 (.app 46 9 88 [(i 0), (i 0), (i 0), (i 0), (i 0), (i 0), (i 0), sn, (.bool false)] (t 17) (t 19)),
   mv 5 (t 20)] [7, 17, 18, 19, 20])
   (.skip)))))
  (.ops [ad 21 (t 10) (k 1),
  mv 10 (t 21)] [21])))))))
 (.seq (.ops [mv 22 (t 5),
 mv 4 (t 22)] [5, 22])
 (.ret))))
def r_watch_some_api_Told : List RRes := [.tmp 4]
theorem fo_watch_some_api_Told {args : List Value} {M : Mem} {R : Value → Mem → Prop} (hn : args.length ≤ 23) (h : vfn Tryz.prog c_watch_some_api_Told r_watch_some_api_Told args M R) : CallsM Tryz.prog F.watch_some_api_Told args M R :=
  fn_ok (kf := k_watch_some_api_Told) Tryz.func40 (by kernel_rfl) (by kernel_rfl) hn (by kernel_rfl) h
/-- portage/watch.twice$1 -/
def k_watch_twice_1 (i : Nat) : List Nat := match i with | 0 => [0, 3] | 1 => [1, 2, 4, 5, 6, 7, 8, 9, 10, 11] | _ => []
def c_watch_twice_1 : RCode :=
 .seq (.ops [o 2 (.box 46 (t 0)),
 mv 3 (kb false)] [0, 3])
 (.seq (.ops [fa 4 8 (t 2),
 l1 5 (t 4),
 os 6 (.mov (t 5)),
 gt 6 7 (.faddr 2 (t 2)),
 gt 6 8 (.load true 4 (t 7)),
 gt 6 9 (.load true 4 (t 1)),
 gt 6 10 (.aeq .eql 4 (t 8) (t 9)),
 o 11 (.pick (t 6) (t 10) (kb false)),
 mv 3 (t 11)] [1, 2, 4, 5, 6, 7, 8, 9, 10, 11])
 (.ret))
def r_watch_twice_1 : List RRes := [.tmp 3]
theorem fo_watch_twice_1 {args : List Value} {M : Mem} {R : Value → Mem → Prop} (hn : args.length ≤ 12) (h : vfn Tryz.prog c_watch_twice_1 r_watch_twice_1 args M R) : CallsM Tryz.prog F.watch_twice_1 args M R :=
  fn_ok (kf := k_watch_twice_1) Tryz.func41 (by kernel_rfl) (by kernel_rfl) hn (by kernel_rfl) h
/-- portage/watch.some[portage/api.Step] -/
def k_watch_some_api_Step (i : Nat) : List Nat := match i with | 0 => [4] | 2 => [0] | 4 => [12, 13] | 5 => [14, 15] | 6 => [7, 17, 18, 19, 20] | 7 => [21] | 8 => [5, 22] | _ => []
def c_watch_some_api_Step : RCode :=
 .seq (.ops [mv 4 (.const sn)] [4])
 (.seq (.ops [mv 5 (.const sn)] [])
 (.seq (.seq (.ops [mv 8 (t 0),
 o 9 (.len (t 8)),
 mv 10 (k 0)] [0])
 (.block 0 (.loop (.seq (.ops [o 11 (.ibin .lss (t 10) (t 9))] [])
  (.seq (.cond (t 11)
   (.skip)
   (.exit 0))
  (.seq (.block 1 (.seq (.ops [o 12 (.iaddr 5 (t 8) (t 10)),
  la 13 5 (t 12),
  o 7 (.alloc 58 [(i 0), (i 0), (i 0), (i 0), sn]),
  st 5 (t 7) (t 13)] [12, 13])
  (.seq (.ops [mv 14 (t 1),
  la 15 5 (t 7),
  o 16 (.call (t 14) [(t 15)])] [14, 15])
  (.cond (t 16)
   (.ops [mv 17 (t 5),
   la 18 5 (t 7),
   o 19 (.mkSl true 58 1 [(i 0), (i 0), (i 0), (i 0), sn] [(0, 5, (t 18))]),
   o 20 (.app 58 5 56 [(i 0), (i 0), (i 0), (i 0), sn] (t 17) (t 19)),
   mv 5 (t 20)] [7, 17, 18, 19, 20])
   (.skip)))))
  (.ops [ad 21 (t 10) (k 1),
  mv 10 (t 21)] [21])))))))
 (.seq (.ops [mv 22 (t 5),
 mv 4 (t 22)] [5, 22])
 (.ret))))
def r_watch_some_api_Step : List RRes := [.tmp 4]
theorem fo_watch_some_api_Step {args : List Value} {M : Mem} {R : Value → Mem → Prop} (hn : args.length ≤ 23) (h : vfn Tryz.prog c_watch_some_api_Step r_watch_some_api_Step args M R) : CallsM Tryz.prog F.watch_some_api_Step args M R :=
  fn_ok (kf := k_watch_some_api_Step) Tryz.func42 (by kernel_rfl) (by kernel_rfl) hn (by kernel_rfl) h
/-- portage/watch.strange$1 -/
def k_watch_strange_1 (i : Nat) : List Nat := match i with | 0 => [0, 3] | 1 => [1, 2, 4, 5, 6, 7, 8, 9, 10, 11, 12, 13, 14, 15, 16, 17, 18, 19, 20, 21, 22, 23, 24, 25, 26, 27, 28, 29, 30, 31] | _ => []
def c_watch_strange_1 : RCode :=
 .seq (.ops [o 2 (.box 58 (t 0)),
 mv 3 (kb false)] [0, 3])
 (.seq (.ops [fa 4 0 (t 2),
 l1 5 (t 4),
 o 6 (.ibin .eql (t 5) (k 1)),
 os 7 (.mov (t 6)),
 gt 7 8 (.faddr 1 (t 2)),
 gt 7 9 (.load false 1 (t 8)),
 gt 7 10 (.faddr 2 (t 1)),
 gt 7 11 (.faddr 0 (t 10)),
 gt 7 12 (.load false 1 (t 11)),
 gt 7 13 (.ibin .eql (t 9) (t 12)),
 o 14 (.pick (t 7) (t 13) (kb false)),
 os 15 (.mov (t 14)),
 gt 15 16 (.faddr 2 (t 2)),
 gt 15 17 (.load false 1 (t 16)),
 gt 15 18 (.faddr 2 (t 1)),
 gt 15 19 (.faddr 1 (t 18)),
 gt 15 20 (.load false 1 (t 19)),
 gt 15 21 (.ibin .eql (t 17) (t 20)),
 o 22 (.pick (t 15) (t 21) (kb false)),
 os 23 (.mov (t 22)),
 gt 23 24 (.faddr 4 (t 2)),
 gt 23 25 (.load false 1 (t 24)),
 gt 23 26 (.strOf (t 25)),
 gt 23 27 (.faddr 7 (t 1)),
 gt 23 28 (.load false 1 (t 27)),
 gt 23 29 (.strOf (t 28)),
 gt 23 30 (.strE .eql (t 26) (t 29)),
 o 31 (.pick (t 23) (t 30) (kb false)),
 mv 3 (t 31)] [1, 2, 4, 5, 6, 7, 8, 9, 10, 11, 12, 13, 14, 15, 16, 17, 18, 19, 20, 21, 22, 23, 24, 25, 26, 27, 28, 29, 30, 31])
 (.ret))
def r_watch_strange_1 : List RRes := [.tmp 3]
theorem fo_watch_strange_1 {args : List Value} {M : Mem} {R : Value → Mem → Prop} (hn : args.length ≤ 32) (h : vfn Tryz.prog c_watch_strange_1 r_watch_strange_1 args M R) : CallsM Tryz.prog F.watch_strange_1 args M R :=
  fn_ok (kf := k_watch_strange_1) Tryz.func43 (by kernel_rfl) (by kernel_rfl) hn (by kernel_rfl) h
/-- portage/watch.again$1 -/
def k_watch_again_1 (i : Nat) : List Nat := match i with | 0 => [0, 3] | 1 => [1, 2, 4, 5, 6, 7, 8, 9, 10, 11, 12, 13, 14, 15, 16, 17, 18, 19, 20, 21, 22, 23, 24, 25, 26, 27] | _ => []
def c_watch_again_1 : RCode :=
 .seq (.ops [o 2 (.box 46 (t 0)),
 mv 3 (kb false)] [0, 3])
 (.seq (.ops [fa 4 8 (t 2),
 l1 5 (t 4),
 o 6 (.not (t 5)),
 os 7 (.mov (t 6)),
 gt 7 8 (.faddr 6 (t 2)),
 gt 7 9 (.load false 1 (t 8)),
 gt 7 10 (.ibin .eql (t 9) (k 0)),
 o 11 (.pick (t 7) (t 10) (kb false)),
 os 12 (.mov (t 11)),
 gt 12 13 (.faddr 2 (t 2)),
 gt 12 14 (.faddr 0 (t 13)),
 gt 12 15 (.load false 1 (t 14)),
 gt 12 16 (.faddr 0 (t 1)),
 gt 12 17 (.load false 1 (t 16)),
 gt 12 18 (.ibin .eql (t 15) (t 17)),
 o 19 (.pick (t 12) (t 18) (kb false)),
 os 20 (.mov (t 19)),
 gt 20 21 (.faddr 2 (t 2)),
 gt 20 22 (.faddr 1 (t 21)),
 gt 20 23 (.load false 1 (t 22)),
 gt 20 24 (.faddr 1 (t 1)),
 gt 20 25 (.load false 1 (t 24)),
 gt 20 26 (.ibin .eql (t 23) (t 25)),
 o 27 (.pick (t 20) (t 26) (kb false)),
 mv 3 (t 27)] [1, 2, 4, 5, 6, 7, 8, 9, 10, 11, 12, 13, 14, 15, 16, 17, 18, 19, 20, 21, 22, 23, 24, 25, 26, 27])
 (.ret))
def r_watch_again_1 : List RRes := [.tmp 3]
theorem fo_watch_again_1 {args : List Value} {M : Mem} {R : Value → Mem → Prop} (hn : args.length ≤ 28) (h : vfn Tryz.prog c_watch_again_1 r_watch_again_1 args M R) : CallsM Tryz.prog F.watch_again_1 args M R :=
  fn_ok (kf := k_watch_again_1) Tryz.func44 (by kernel_rfl) (by kernel_rfl) hn (by kernel_rfl) h
/-- portage/msg.Less -/
def k_msg_Less (i : Nat) : List Nat := match i with | 0 => [0, 1, 4] | 1 => [6, 7, 8, 9, 10] | 2 => [2, 3, 11, 12, 13, 14, 15] | 3 => [17, 18, 19, 20, 21] | 4 => [2, 3, 22, 23, 24, 25, 26] | 5 => [28, 29, 30, 31, 32] | 6 => [2, 3, 33, 34, 35, 36, 37] | 7 => [2, 3, 38, 39, 40, 41, 42] | _ => []
def c_msg_Less : RCode :=
 .seq (.ops [o 2 (.box 42 (t 0)),
 o 3 (.box 42 (t 1)),
 mv 4 (kb false)] [0, 1, 4])
 (.seq (.block 0 (.seq (.ops [fa 6 0 (t 2),
 l1 7 (t 6),
 fa 8 0 (t 3),
 l1 9 (t 8),
 o 10 (.ibin .neq (t 7) (t 9)),
 mv 5 (t 10)] [6, 7, 8, 9, 10])
 (.cond (t 5)
  (.seq (.ops [fa 11 0 (t 2),
  l1 12 (t 11),
  fa 13 0 (t 3),
  l1 14 (t 13),
  o 15 (.ibin .lss (t 12) (t 14)),
  mv 4 (t 15)] [2, 3, 11, 12, 13, 14, 15])
  (.ret))
  (.seq (.ops [fa 17 1 (t 2),
  l1 18 (t 17),
  fa 19 1 (t 3),
  l1 20 (t 19),
  o 21 (.ibin .neq (t 18) (t 20)),
  mv 16 (t 21)] [17, 18, 19, 20, 21])
  (.cond (t 16)
   (.seq (.ops [fa 22 1 (t 2),
   l1 23 (t 22),
   fa 24 1 (t 3),
   l1 25 (t 24),
   o 26 (.ibin .lss (t 23) (t 25)),
   mv 4 (t 26)] [2, 3, 22, 23, 24, 25, 26])
   (.ret))
   (.seq (.ops [fa 28 2 (t 2),
   l1 29 (t 28),
   fa 30 2 (t 3),
   l1 31 (t 30),
   o 32 (.ibin .neq (t 29) (t 31)),
   mv 27 (t 32)] [28, 29, 30, 31, 32])
   (.cond (t 27)
    (.seq (.ops [fa 33 2 (t 2),
    l1 34 (t 33),
    fa 35 2 (t 3),
    l1 36 (t 35),
    o 37 (.ibin .lss (t 34) (t 36)),
    mv 4 (t 37)] [2, 3, 33, 34, 35, 36, 37])
    (.ret))
    (.skip))))))))
 (.seq (.ops [fa 38 3 (t 2),
 l1 39 (t 38),
 fa 40 3 (t 3),
 l1 41 (t 40),
 o 42 (.ibin .lss (t 39) (t 41)),
 mv 4 (t 42)] [2, 3, 38, 39, 40, 41, 42])
 (.ret)))
def r_msg_Less : List RRes := [.tmp 4]
theorem fo_msg_Less {args : List Value} {M : Mem} {R : Value → Mem → Prop} (hn : args.length ≤ 43) (h : vfn Tryz.prog c_msg_Less r_msg_Less args M R) : CallsM Tryz.prog F.msg_Less args M R :=
  fn_ok (kf := k_msg_Less) Tryz.func45 (by kernel_rfl) (by kernel_rfl) hn (by kernel_rfl) h
/-- portage/msg.Check -/
def k_msg_Check (i : Nat) : List Nat := match i with | 0 => [0, 2] | 2 => [3, 4, 5, 6, 7, 8, 9, 10, 11, 12, 13, 14, 15, 16, 17, 18, 19, 20, 21, 22, 23, 24, 25, 26, 27, 28] | 4 => [1, 30, 31, 32, 33] | _ => []
def c_msg_Check : RCode :=
 .seq (.ops [o 1 (.box 42 (t 0)),
 mv 2 (k 0)] [0, 2])
 (.seq (.ops [mv 3 (fn F.msg_Check_1)] [])
 (.seq (.seq (.ops [mv 4 (t 3),
 fa 5 0 (t 1),
 l1 6 (t 5),
 o 7 (.call (t 4) [(t 6), (k 0), (k 63)]),
 o 8 (.not (t 7)),
 os 9 (.mov (t 8)),
 gf 9 10 (.mov (t 3)),
 gf 9 11 (.faddr 1 (t 1)),
 gf 9 12 (.load false 1 (t 11)),
 gf 9 13 (.call (t 10) [(t 12), (k 0), (k 63)]),
 gf 9 14 (.not (t 13)),
 o 15 (.pick (t 9) (kb true) (t 14)),
 os 16 (.mov (t 15)),
 gf 16 17 (.mov (t 3)),
 gf 16 18 (.faddr 2 (t 1)),
 gf 16 19 (.load false 1 (t 18)),
 gf 16 20 (.call (t 17) [(t 19), (k 1), (k 65535)]),
 gf 16 21 (.not (t 20)),
 o 22 (.pick (t 16) (kb true) (t 21)),
 os 23 (.mov (t 22)),
 gf 23 24 (.mov (t 3)),
 gf 23 25 (.faddr 3 (t 1)),
 gf 23 26 (.load false 1 (t 25)),
 gf 23 27 (.call (t 24) [(t 26), (k 1), (k 65535)]),
 gf 23 28 (.not (t 27)),
 o 29 (.pick (t 23) (kb true) (t 28))] [3, 4, 5, 6, 7, 8, 9, 10, 11, 12, 13, 14, 15, 16, 17, 18, 19, 20, 21, 22, 23, 24, 25, 26, 27, 28])
 (.cond (t 29)
  (.seq (.ops [mv 2 (k 1)] [])
  (.ret))
  (.skip)))
 (.seq (.seq (.ops [fa 30 0 (t 1),
 l1 31 (t 30),
 fa 32 1 (t 1),
 l1 33 (t 32),
 o 34 (.ibin .eql (t 31) (t 33))] [1, 30, 31, 32, 33])
 (.cond (t 34)
  (.seq (.ops [mv 2 (k 2)] [])
  (.ret))
  (.skip)))
 (.seq (.ops [mv 2 (k 0)] [])
 (.ret)))))
def r_msg_Check : List RRes := [.tmp 2]
theorem fo_msg_Check {args : List Value} {M : Mem} {R : Value → Mem → Prop} (hn : args.length ≤ 35) (h : vfn Tryz.prog c_msg_Check r_msg_Check args M R) : CallsM Tryz.prog F.msg_Check args M R :=
  fn_ok (kf := k_msg_Check) Tryz.func47 (by kernel_rfl) (by kernel_rfl) hn (by kernel_rfl) h
/-- slices.Sort[[]string,string] -/
def k_slices_Sort_string_string (i : Nat) : List Nat := match i with | 0 => [3, 4] | 1 => [0, 2, 5, 6, 7, 8, 9, 10] | _ => []
def c_slices_Sort_string_string : RCode :=
 .seq (.ops [mv 3 (t 0),
 o 4 (.len (t 3)),
 mv 2 (t 4)] [3, 4])
 (.ops [mv 5 (t 0),
 mv 6 (t 2),
 mv 7 (t 2),
 o 8 (.conv .u64 (t 7)),
 ca 9 F.math_bits_Len [(t 8)],
 ca 10 F.slices_pdqsortOrdered_string [(t 5), (k 0), (t 6), (t 9)]] [0, 2, 5, 6, 7, 8, 9, 10])
def r_slices_Sort_string_string : List RRes := []
theorem fo_slices_Sort_string_string {args : List Value} {M : Mem} {R : Value → Mem → Prop} (hn : args.length ≤ 11) (h : vfn Tryz.prog c_slices_Sort_string_string r_slices_Sort_string_string args M R) : CallsM Tryz.prog F.slices_Sort_string_string args M R :=
  fn_ok (kf := k_slices_Sort_string_string) Tryz.func48 (by kernel_rfl) (by kernel_rfl) hn (by kernel_rfl) h
/-- portage/store.in -/
def k_store_in (i : Nat) : List Nat := match i with | 0 => [4] | 1 => [0, 1, 5, 6, 7, 8, 9, 10, 11] | _ => []
def c_store_in : RCode :=
 .seq (.ops [mv 4 (kb false)] [4])
 (.seq (.ops [mv 5 (t 0),
 o 6 (.ibin .geq (t 5) (k 0)),
 os 7 (.mov (t 6)),
 gt 7 8 (.mov (t 0)),
 gt 7 9 (.mov (t 1)),
 gt 7 10 (.ibin .leq (t 8) (t 9)),
 o 11 (.pick (t 7) (t 10) (kb false)),
 mv 4 (t 11)] [0, 1, 5, 6, 7, 8, 9, 10, 11])
 (.ret))
def r_store_in : List RRes := [.tmp 4]
theorem fo_store_in {args : List Value} {M : Mem} {R : Value → Mem → Prop} (hn : args.length ≤ 12) (h : vfn Tryz.prog c_store_in r_store_in args M R) : CallsM Tryz.prog F.store_in args M R :=
  fn_ok (kf := k_store_in) Tryz.func49 (by kernel_rfl) (by kernel_rfl) hn (by kernel_rfl) h
/-- portage/seen.New -/
def k_seen_New (i : Nat) : List Nat := match i with | 0 => [2, 3] | 1 => [4, 5, 6, 7, 8] | 3 => [0, 10, 11, 12, 13] | _ => []
def c_seen_New : RCode :=
 .seq (.ops [mv 2 (.const (.pointer none)),
 mv 3 (k 0)] [2, 3])
 (.seq (.seq (.ops [mv 4 (t 0),
 o 5 (.ibin .lss (t 4) (k 0)),
 os 6 (.mov (t 5)),
 gf 6 7 (.mov (t 0)),
 gf 6 8 (.ibin .gtr (t 7) (k 256)),
 o 9 (.pick (t 6) (kb true) (t 8))] [4, 5, 6, 7, 8])
 (.cond (t 9)
  (.seq (.ops [mv 2 (.const (.pointer none)),
  mv 3 (k 1)] [])
  (.ret))
  (.skip)))
 (.seq (.ops [mv 10 (t 0),
 o 11 (.mkMap),
 o 12 (.build [(i 0), (.map none)] [(0, 1, (t 10)), (1, 1, (t 11))]),
 o 13 (.box 151 (t 12)),
 mv 2 (t 13),
 mv 3 (k 0)] [0, 10, 11, 12, 13])
 (.ret)))
def r_seen_New : List RRes := [.tmp 2, .tmp 3]
theorem fo_seen_New {args : List Value} {M : Mem} {R : Value → Mem → Prop} (hn : args.length ≤ 14) (h : vfn Tryz.prog c_seen_New r_seen_New args M R) : CallsM Tryz.prog F.seen_New args M R :=
  fn_ok (kf := k_seen_New) Tryz.func50 (by kernel_rfl) (by kernel_rfl) hn (by kernel_rfl) h
/-- (*portage/custody.Custody).has -/
def k_custody_Custody_has (i : Nat) : List Nat := match i with | 0 => [4] | 1 => [0, 7, 8, 9, 10] | 3 => [15, 16] | 4 => [6, 17, 18] | 6 => [20] | _ => []
def c_custody_Custody_has : RCode :=
 .seq (.ops [mv 4 (kb false)] [4])
 (.seq (.seq (.ops [mv 7 (t 0),
 o 8 (.nilck (t 7)),
 fa 9 1 (t 8),
 l1 10 (t 9),
 ca 11 F.disk_Disk_Names [(t 10)],
 o 12 (.len (t 11)),
 mv 13 (k 0)] [0, 7, 8, 9, 10])
 (.block 0 (.loop (.seq (.ops [o 14 (.ibin .lss (t 13) (t 12))] [])
  (.seq (.cond (t 14)
   (.skip)
   (.exit 0))
  (.seq (.block 1 (.seq (.ops [o 15 (.iaddr 1 (t 11) (t 13)),
  l1 16 (t 15),
  mv 6 (t 16)] [15, 16])
  (.seq (.ops [mv 17 (t 6),
  mv 18 (t 1),
  o 19 (.strE .eql (t 17) (t 18))] [6, 17, 18])
  (.cond (t 19)
   (.seq (.ops [mv 4 (kb true)] [])
   (.ret))
   (.skip)))))
  (.ops [ad 20 (t 13) (k 1),
  mv 13 (t 20)] [20])))))))
 (.seq (.ops [mv 4 (kb false)] [])
 (.ret)))
def r_custody_Custody_has : List RRes := [.tmp 4]
theorem fo_custody_Custody_has {args : List Value} {M : Mem} {R : Value → Mem → Prop} (hn : args.length ≤ 21) (h : vfn Tryz.prog c_custody_Custody_has r_custody_Custody_has args M R) : CallsM Tryz.prog F.custody_Custody_has args M R :=
  fn_ok (kf := k_custody_Custody_has) Tryz.func51 (by kernel_rfl) (by kernel_rfl) hn (by kernel_rfl) h
/-- (*portage/disk.Disk).Remove -/
def k_disk_Disk_Remove (i : Nat) : List Nat := match i with | 0 => [4] | 1 => [5, 7, 8, 9, 10, 11, 12] | 2 => [13] | 3 => [6, 15] | 4 => [1, 16, 17, 18, 19, 20] | 5 => [0, 21, 22] | _ => []
def c_disk_Disk_Remove : RCode :=
 .seq (.ops [mv 4 (k 0)] [4])
 (.seq (.seq (.ops [mv 8 (t 0),
 mv 9 (t 1),
 ca 10 F.disk_Disk_there [(t 8), (t 9)],
 mv 7 (t 10),
 ex 11 (t 7) 0,
 ex 12 (t 7) 1,
 mv 5 (t 11),
 mv 6 (t 12)] [5, 7, 8, 9, 10, 11, 12])
 (.seq (.ops [mv 13 (t 6),
 o 14 (.ibin .neq (t 13) (k 0))] [13])
 (.cond (t 14)
  (.seq (.ops [mv 15 (t 6),
  mv 4 (t 15)] [6, 15])
  (.ret))
  (.skip))))
 (.seq (.ops [mv 16 (t 0),
 o 17 (.nilck (t 16)),
 fa 18 1 (t 17),
 l1 19 (t 18),
 mv 20 (t 1),
 e (.mdel .str (t 19) (t 20))] [1, 16, 17, 18, 19, 20])
 (.seq (.ops [mv 21 (t 0),
 ca 22 F.disk_Disk_changed [(t 21)],
 mv 4 (t 22)] [0, 21, 22])
 (.ret))))
def r_disk_Disk_Remove : List RRes := [.tmp 4]
theorem fo_disk_Disk_Remove {args : List Value} {M : Mem} {R : Value → Mem → Prop} (hn : args.length ≤ 23) (h : vfn Tryz.prog c_disk_Disk_Remove r_disk_Disk_Remove args M R) : CallsM Tryz.prog F.disk_Disk_Remove args M R :=
  fn_ok (kf := k_disk_Disk_Remove) Tryz.func52 (by kernel_rfl) (by kernel_rfl) hn (by kernel_rfl) h
/-- (*portage/custody.Custody).snaps -/
def k_custody_Custody_snaps (i : Nat) : List Nat := match i with | 0 => [2] | 2 => [0, 9, 10, 11, 12] | 4 => [17, 18] | 5 => [19, 20, 21, 22, 23, 24, 25] | 7 => [27, 28] | 9 => [30, 32] | 10 => [8, 33, 34, 35, 36, 37, 38] | 11 => [5, 39, 40, 41] | 12 => [6, 43, 44, 45, 46] | 13 => [47] | 14 => [3, 48] | _ => []
def c_custody_Custody_snaps : RCode :=
 .seq (.ops [mv 2 (.const sn)] [2])
 (.seq (.ops [mv 3 (.const sn)] [])
 (.seq (.seq (.ops [mv 9 (t 0),
 o 10 (.nilck (t 9)),
 fa 11 1 (t 10),
 l1 12 (t 11),
 ca 13 F.disk_Disk_Names [(t 12)],
 o 14 (.len (t 13)),
 mv 15 (k 0)] [0, 9, 10, 11, 12])
 (.block 0 (.loop (.seq (.ops [o 16 (.ibin .lss (t 15) (t 14))] [])
  (.seq (.cond (t 16)
   (.skip)
   (.exit 0))
  (.seq (.block 1 (.seq (.ops [o 17 (.iaddr 1 (t 13) (t 15)),
  l1 18 (t 17),
  mv 5 (t 18)] [17, 18])
  (.seq (.seq (.ops [mv 19 (t 5),
  o 20 (.lenS (t 19)),
  o 21 (.ibin .neq (t 20) (k 6)),
  os 22 (.mov (t 21)),
  gf 22 23 (.mov (t 5)),
  gf 22 24 (.sidx (t 23) (k 0)),
  gf 22 25 (.ibin .neq (t 24) (.const (u 115))),
  o 26 (.pick (t 22) (kb true) (t 25))] [19, 20, 21, 22, 23, 24, 25])
  (.cond (t 26)
   (.exit 1)
   (.skip)))
  (.seq (.ops [mv 6 (k 0)] [])
  (.seq (.seq (.ops [mv 27 (t 5),
  o 28 (.ssl (t 27) (some (k 1)) none),
  o 29 (.srange (t 28))] [27, 28])
  (.block 2 (.loop (.seq (.ops [o 30 (.snext (t 29)),
   ex 31 (t 30) 0] [])
   (.seq (.cond (t 31)
    (.skip)
    (.exit 2))
   (.block 3 (.seq (.ops [ex 32 (t 30) 2,
   mv 8 (t 32)] [30, 32])
   (.ops [mv 33 (t 6),
   o 34 (.ibin .mul (k 10) (t 33)),
   mv 35 (t 8),
   o 36 (.ibin .sub (t 35) (.const (.int .i32 48))),
   o 37 (.conv .i64 (t 36)),
   ad 38 (t 34) (t 37),
   mv 6 (t 38)] [8, 33, 34, 35, 36, 37, 38]))))))))
  (.seq (.ops [mv 39 (t 6),
  ca 40 F.custody_name [(t 39)],
  mv 41 (t 5),
  o 42 (.strE .eql (t 40) (t 41))] [5, 39, 40, 41])
  (.cond (t 42)
   (.ops [mv 43 (t 3),
   mv 44 (t 6),
   o 45 (.mkSl true 3 1 [(i 0)] [(0, 1, (t 44))]),
   o 46 (.app 3 1 8 [(i 0)] (t 43) (t 45)),
   mv 3 (t 46)] [6, 43, 44, 45, 46])
   (.skip))))))))
  (.ops [ad 47 (t 15) (k 1),
  mv 15 (t 47)] [47])))))))
 (.seq (.ops [mv 48 (t 3),
 mv 2 (t 48)] [3, 48])
 (.ret))))
def r_custody_Custody_snaps : List RRes := [.tmp 2]
theorem fo_custody_Custody_snaps {args : List Value} {M : Mem} {R : Value → Mem → Prop} (hn : args.length ≤ 49) (h : vfn Tryz.prog c_custody_Custody_snaps r_custody_Custody_snaps args M R) : CallsM Tryz.prog F.custody_Custody_snaps args M R :=
  fn_ok (kf := k_custody_Custody_snaps) Tryz.func53 (by kernel_rfl) (by kernel_rfl) hn (by kernel_rfl) h
/-- (*portage/disk.Disk).Read -/
def k_disk_Disk_Read (i : Nat) : List Nat := match i with | 0 => [4, 5] | 1 => [0, 1, 9, 10, 11, 12, 13, 14] | 2 => [15] | 3 => [7, 17] | 4 => [18, 19, 20, 21, 22, 23] | 5 => [6, 24, 25, 26, 27, 28, 29] | 6 => [8, 30] | _ => []
def c_disk_Disk_Read : RCode :=
 .seq (.ops [mv 4 (.const sn),
 mv 5 (k 0)] [4, 5])
 (.seq (.ops [mv 10 (t 0),
 mv 11 (t 1),
 ca 12 F.disk_Disk_there [(t 10), (t 11)],
 mv 9 (t 12),
 ex 13 (t 9) 0,
 ex 14 (t 9) 1,
 mv 6 (t 13),
 mv 7 (t 14)] [0, 1, 9, 10, 11, 12, 13, 14])
 (.seq (.seq (.ops [mv 15 (t 7),
 o 16 (.ibin .neq (t 15) (k 0))] [15])
 (.cond (t 16)
  (.seq (.ops [mv 17 (t 7),
  mv 4 (.const sn),
  mv 5 (t 17)] [7, 17])
  (.ret))
  (.skip)))
 (.seq (.ops [mv 18 (t 6),
 o 19 (.nilck (t 18)),
 fa 20 0 (t 19),
 l1 21 (t 20),
 o 22 (.len (t 21)),
 o 23 (.mkSlN 5 1 [(u 0)] (t 22) (t 22)),
 mv 8 (t 23)] [18, 19, 20, 21, 22, 23])
 (.seq (.ops [mv 24 (t 8),
 mv 25 (t 6),
 o 26 (.nilck (t 25)),
 fa 27 0 (t 26),
 l1 28 (t 27),
 o 29 (.cpy 1 (t 24) (t 28))] [6, 24, 25, 26, 27, 28, 29])
 (.seq (.ops [mv 30 (t 8),
 mv 4 (t 30),
 mv 5 (k 0)] [8, 30])
 (.ret))))))
def r_disk_Disk_Read : List RRes := [.tmp 4, .tmp 5]
theorem fo_disk_Disk_Read {args : List Value} {M : Mem} {R : Value → Mem → Prop} (hn : args.length ≤ 31) (h : vfn Tryz.prog c_disk_Disk_Read r_disk_Disk_Read args M R) : CallsM Tryz.prog F.disk_Disk_Read args M R :=
  fn_ok (kf := k_disk_Disk_Read) Tryz.func54 (by kernel_rfl) (by kernel_rfl) hn (by kernel_rfl) h
/-- portage/custody.name -/
def k_custody_name (i : Nat) : List Nat := match i with | 0 => [2] | 1 => [0, 4, 5] | 2 => [6] | 3 => [3, 8, 9, 10] | _ => []
def c_custody_name : RCode :=
 .seq (.ops [mv 2 (.const (.string ByteArray.empty))] [2])
 (.seq (.seq (.ops [mv 4 (t 0),
 ca 5 F.wal_Name [(t 4)],
 mv 3 (t 5)] [0, 4, 5])
 (.seq (.ops [mv 6 (t 3),
 o 7 (.strE .neq (t 6) (.const (.string ByteArray.empty)))] [6])
 (.cond (t 7)
  (.seq (.ops [mv 8 (t 3),
  o 9 (.ssl (t 8) (some (k 1)) none),
  o 10 (.strE .add (.const (.string ⟨#[115]⟩)) (t 9)),
  mv 2 (t 10)] [3, 8, 9, 10])
  (.ret))
  (.skip))))
 (.seq (.ops [mv 2 (.const (.string ByteArray.empty))] [])
 (.ret)))
def r_custody_name : List RRes := [.tmp 2]
theorem fo_custody_name {args : List Value} {M : Mem} {R : Value → Mem → Prop} (hn : args.length ≤ 11) (h : vfn Tryz.prog c_custody_name r_custody_name args M R) : CallsM Tryz.prog F.custody_name args M R :=
  fn_ok (kf := k_custody_name) Tryz.func55 (by kernel_rfl) (by kernel_rfl) hn (by kernel_rfl) h
/-- portage/snap.Get -/
def k_snap_Get (i : Nat) : List Nat := match i with | 0 => [3] | 1 => [16, 17] | 2 => [19] | 3 => [20, 21, 22, 23, 24] | 4 => [0, 6, 25, 26, 27, 28, 29, 30, 31] | 5 => [5, 32, 33, 34, 35, 36] | 6 => [38] | 8 => [39] | 9 => [40, 41, 42, 43, 44] | 10 => [45] | 12 => [49, 50, 51, 52, 53, 54, 55, 56, 57, 58] | 13 => [59] | 14 => [60] | 16 => [64, 65] | 17 => [66, 67, 68, 69, 70, 71, 72, 73, 74, 75, 76, 77, 78, 79] | 18 => [81] | 19 => [13, 82, 83, 84, 85, 86, 87, 88, 89, 90, 91] | 20 => [11, 92, 93, 94] | 21 => [12, 95, 96, 97, 98, 99, 100] | 22 => [101] | 23 => [102] | 25 => [106, 107, 108, 109, 110, 111, 112] | 26 => [113, 114] | 27 => [115, 116, 117, 118, 119] | 29 => [123, 124, 125, 126, 127, 128, 129] | 28 => [121, 122] | 31 => [131] | 32 => [14, 132, 133, 134, 135, 136, 137] | 33 => [138] | 34 => [4, 7, 8, 139, 140, 141, 142, 143, 144, 145, 146, 147, 148, 149] | 35 => [151] | 36 => [10, 152] | _ => []
def c_snap_Get : RCode :=
 .seq (.ops [o 2 (.alloc 37 [(i 0), (i 0), sn, sn, sn]),
 mv 3 (k 0)] [3])
 (.seq (.seq (.ops [mv 16 (t 0),
 o 17 (.len (t 16)),
 o 18 (.ibin .lss (t 17) (k 4))] [16, 17])
 (.cond (t 18)
  (.seq (.ops [o 19 (.build [(i 0), (i 0), sn, sn, sn] []),
  st 5 (t 2) (t 19),
  mv 3 (k 2)] [19])
  (.ret))
  (.skip)))
 (.seq (.ops [mv 20 (t 0),
 mv 21 (t 0),
 o 22 (.len (t 21)),
 o 23 (.ibin .sub (t 22) (k 4)),
 o 24 (.slx 1 (t 20) none (some (t 23))),
 o 4 (.alloc 44 [sn]),
 st 1 (t 4) (t 24)] [20, 21, 22, 23, 24])
 (.seq (.seq (.ops [mv 26 (t 0),
 l1 27 (t 4),
 o 28 (.len (t 27)),
 ca 29 F.bits_Get [(t 26), (t 28), (k 4)],
 mv 25 (t 29),
 ex 30 (t 25) 0,
 ex 31 (t 25) 1,
 mv 5 (t 30),
 mv 6 (t 31)] [0, 6, 25, 26, 27, 28, 29, 30, 31])
 (.seq (.ops [mv 32 (t 5),
 l1 33 (t 4),
 o 34 (.mkSl false 44 1 [sn] [(0, 1, (t 33))]),
 ca 35 F.crc_Sum [(t 34)],
 o 36 (.conv .u64 (t 35)),
 o 37 (.ibin .neq (t 32) (t 36))] [5, 32, 33, 34, 35, 36])
 (.cond (t 37)
  (.seq (.ops [o 38 (.build [(i 0), (i 0), sn, sn, sn] []),
  st 5 (t 2) (t 38),
  mv 3 (k 2)] [38])
  (.ret))
  (.skip))))
 (.seq (.ops [o 7 (.alloc 3 [(i 0)]),
 o 8 (.alloc 4 [(.bool false)]),
 st 1 (t 7) (k 0),
 st 1 (t 8) (kb false)] [])
 (.seq (.ops [o 39 (.mkfn F.snap_Get_1 [(t 4), (t 7), (t 8)]),
 mv 9 (t 39)] [39])
 (.seq (.ops [mv 40 (t 9),
 o 41 (.call (t 40) [(k 1)]),
 mv 42 (t 9),
 o 43 (.call (t 42) [(k 2)]),
 o 44 (.build [(i 0), (i 0), sn, sn, sn] [(0, 1, (t 41)), (1, 1, (t 43))]),
 o 10 (.alloc 37 [(i 0), (i 0), sn, sn, sn]),
 st 5 (t 10) (t 44)] [40, 41, 42, 43, 44])
 (.seq (.seq (.ops [mv 45 (t 9),
 o 46 (.call (t 45) [(k 1)]),
 mv 47 (k 0)] [45])
 (.block 0 (.loop (.seq (.ops [o 48 (.ibin .lss (t 47) (t 46))] [])
  (.seq (.cond (t 48)
   (.skip)
   (.exit 0))
  (.seq (.block 1 (.draw (.take (fa 49 2 (t 10)) (.take (l1 50 (t 49)) (.take (mv 51 (t 9)) (.take (mv 53 (t 9)) (.alt (o 52 (.call (t 51) [(k 1)])) true
   (.alt (o 54 (.call (t 53) [(k 2)])) true
    (.take (o 55 (.build [(i 0), (i 0)] [(0, 1, (t 52)), (1, 1, (t 54))])) (.alt (o 56 (.mkSl true 143 1 [(i 0), (i 0)] [(0, 2, (t 55))])) false
     (.alt (o 57 (.app 143 2 16 [(i 0), (i 0)] (t 50) (t 56))) false
      (.take (fa 58 2 (t 10)) (.alt (st 1 (t 58) (t 57)) false
       (.done)
       (.none)))
      (.none))
     (.none)))
    (.none))
   (.none)))))) [49, 50, 51, 52, 53, 54, 55, 56, 57, 58]))
  (.ops [ad 59 (t 47) (k 1),
  mv 47 (t 59)] [59])))))))
 (.seq (.seq (.ops [mv 60 (t 9),
 o 61 (.call (t 60) [(k 2)]),
 mv 62 (k 0)] [60])
 (.block 2 (.loop (.seq (.ops [o 63 (.ibin .lss (t 62) (t 61))] [])
  (.seq (.cond (t 63)
   (.skip)
   (.exit 2))
  (.seq (.block 3 (.seq (.ops [mv 64 (t 9),
  o 65 (.call (t 64) [(k 1)]),
  mv 11 (t 65)] [64, 65])
  (.seq (.seq (.ops [l1 66 (t 8),
  os 67 (.mov (t 66)),
  gf 67 68 (.load false 1 (t 7)),
  gf 67 69 (.load false 1 (t 4)),
  gf 67 70 (.len (t 69)),
  gf 67 71 (.ibin .gtr (t 68) (t 70)),
  o 72 (.pick (t 67) (kb true) (t 71)),
  os 73 (.mov (t 72)),
  gf 73 74 (.mov (t 11)),
  gf 73 75 (.load false 1 (t 4)),
  gf 73 76 (.len (t 75)),
  gf 73 77 (.load false 1 (t 7)),
  gf 73 78 (.ibin .sub (t 76) (t 77)),
  gf 73 79 (.ibin .gtr (t 74) (t 78)),
  o 80 (.pick (t 73) (kb true) (t 79))] [66, 67, 68, 69, 70, 71, 72, 73, 74, 75, 76, 77, 78, 79])
  (.cond (t 80)
   (.seq (.ops [o 81 (.build [(i 0), (i 0), sn, sn, sn] []),
   st 5 (t 2) (t 81),
   mv 3 (k 2)] [81])
   (.ret))
   (.skip)))
  (.seq (.ops [l1 83 (t 4),
  l1 84 (t 7),
  l1 85 (t 7),
  mv 86 (t 11),
  ad 87 (t 85) (t 86),
  o 88 (.slx 1 (t 83) (some (t 84)) (some (t 87))),
  ca 89 F.msg_Get [(t 88)],
  mv 82 (t 89),
  ex 90 (t 82) 0,
  ex 91 (t 82) 1,
  o 12 (.alloc 51 [(i 0), (i 0), (i 0), (i 0), sn]),
  st 5 (t 12) (t 90),
  mv 13 (t 91)] [13, 82, 83, 84, 85, 86, 87, 88, 89, 90, 91])
  (.seq (.ops [l1 92 (t 7),
  mv 93 (t 11),
  ad 94 (t 92) (t 93),
  st 1 (t 7) (t 94)] [11, 92, 93, 94])
  (.ops [fa 95 3 (t 10),
  l1 96 (t 95),
  la 97 5 (t 12),
  o 98 (.mkSl true 51 1 [(i 0), (i 0), (i 0), (i 0), sn] [(0, 5, (t 97))]),
  o 99 (.app 51 5 56 [(i 0), (i 0), (i 0), (i 0), sn] (t 96) (t 98)),
  fa 100 3 (t 10),
  st 1 (t 100) (t 99)] [12, 95, 96, 97, 98, 99, 100]))))))
  (.ops [ad 101 (t 62) (k 1),
  mv 62 (t 101)] [101])))))))
 (.seq (.seq (.ops [mv 102 (t 9),
 o 103 (.call (t 102) [(k 2)]),
 mv 104 (k 0)] [102])
 (.block 4 (.loop (.seq (.ops [o 105 (.ibin .lss (t 104) (t 103))] [])
  (.seq (.cond (t 105)
   (.skip)
   (.exit 4))
  (.seq (.block 5 (.seq (.ops [mv 106 (t 9),
  o 107 (.call (t 106) [(k 1)]),
  mv 108 (t 9),
  o 109 (.call (t 108) [(k 2)]),
  mv 110 (t 9),
  o 111 (.call (t 110) [(k 2)]),
  o 112 (.build [(i 0), (i 0), (i 0), sn] [(0, 1, (t 107)), (1, 1, (t 109)), (2, 1, (t 111))]),
  o 14 (.alloc 81 [(i 0), (i 0), (i 0), sn]),
  st 4 (t 14) (t 112)] [106, 107, 108, 109, 110, 111, 112])
  (.seq (.seq (.ops [mv 113 (t 9),
  o 114 (.call (t 113) [(k 2)]),
  mv 15 (t 114)] [113, 114])
  (.block 6 (.loop (.seq (.seq (.ops [mv 115 (t 15),
   o 116 (.ibin .gtr (t 115) (k 0)),
   os 117 (.mov (t 116)),
   gt 117 118 (.load false 1 (t 8)),
   gt 117 119 (.not (t 118)),
   o 120 (.pick (t 117) (t 119) (kb false))] [115, 116, 117, 118, 119])
   (.cond (t 120)
    (.skip)
    (.exit 6)))
   (.seq (.block 7 (.draw (.take (fa 123 3 (t 14)) (.take (l1 124 (t 123)) (.take (mv 125 (t 9)) (.alt (o 126 (.call (t 125) [(k 2)])) true
    (.alt (o 127 (.mkSl true 3 1 [(i 0)] [(0, 1, (t 126))])) false
     (.alt (o 128 (.app 3 1 8 [(i 0)] (t 124) (t 127))) false
      (.take (fa 129 3 (t 14)) (.alt (st 1 (t 129) (t 128)) false
       (.done)
       (.none)))
      (.none))
     (.none))
    (.none))))) [123, 124, 125, 126, 127, 128, 129]))
   (.ops [mv 121 (t 15),
   o 122 (.ibin .sub (t 121) (k 1)),
   mv 15 (t 122)] [121, 122]))))))
  (.seq (.seq (.ops [l1 130 (t 8)] [])
  (.cond (t 130)
   (.seq (.ops [o 131 (.build [(i 0), (i 0), sn, sn, sn] []),
   st 5 (t 2) (t 131),
   mv 3 (k 2)] [131])
   (.ret))
   (.skip)))
  (.ops [fa 132 4 (t 10),
  l1 133 (t 132),
  la 134 4 (t 14),
  o 135 (.mkSl true 81 1 [(i 0), (i 0), (i 0), sn] [(0, 4, (t 134))]),
  o 136 (.app 81 4 48 [(i 0), (i 0), (i 0), sn] (t 133) (t 135)),
  fa 137 4 (t 10),
  st 1 (t 137) (t 136)] [14, 132, 133, 134, 135, 136, 137])))))
  (.ops [ad 138 (t 104) (k 1),
  mv 104 (t 138)] [138])))))))
 (.seq (.seq (.ops [l1 139 (t 8),
 os 140 (.mov (t 139)),
 gf 140 141 (.load false 1 (t 7)),
 gf 140 142 (.load false 1 (t 4)),
 gf 140 143 (.len (t 142)),
 gf 140 144 (.ibin .neq (t 141) (t 143)),
 o 145 (.pick (t 140) (kb true) (t 144)),
 os 146 (.mov (t 145)),
 gf 146 147 (.load true 5 (t 10)),
 gf 146 148 (.call (fn F.snap_Check) [(t 147)]),
 gf 146 149 (.ibin .neq (t 148) (k 0)),
 o 150 (.pick (t 146) (kb true) (t 149))] [4, 7, 8, 139, 140, 141, 142, 143, 144, 145, 146, 147, 148, 149])
 (.cond (t 150)
  (.seq (.ops [o 151 (.build [(i 0), (i 0), sn, sn, sn] []),
  st 5 (t 2) (t 151),
  mv 3 (k 2)] [151])
  (.ret))
  (.skip)))
 (.seq (.ops [la 152 5 (t 10),
 st 5 (t 2) (t 152),
 mv 3 (k 0)] [10, 152])
 (.ret))))))))))))
def r_snap_Get : List RRes := [.cell true 5 2, .tmp 3]
theorem fo_snap_Get {args : List Value} {M : Mem} {R : Value → Mem → Prop} (hn : args.length ≤ 153) (h : vfn Tryz.prog c_snap_Get r_snap_Get args M R) : CallsM Tryz.prog F.snap_Get args M R :=
  fn_ok (kf := k_snap_Get) Tryz.func56 (by kernel_rfl) (by kernel_rfl) hn (by kernel_rfl) h
/-- portage/store.From -/
def k_store_From (i : Nat) : List Nat := match i with | 0 => [0, 1, 4, 5] | 1 => [16, 17, 18, 19, 20, 21, 22] | 2 => [23] | 3 => [7, 25] | 4 => [26, 27] | 6 => [29, 30, 31, 32, 33] | 7 => [34] | 9 => [39, 40] | 10 => [9, 41, 42, 43, 44, 45, 46, 47, 48] | 11 => [49] | 12 => [50, 51, 52, 53] | 13 => [54, 55, 56, 57, 58, 59, 60, 61, 62, 63, 64, 65, 66, 67, 68] | 14 => [69] | 16 => [74, 75] | 17 => [12, 76, 77, 78, 79] | 19 => [81] | 20 => [82, 83, 84, 85] | 21 => [10, 86, 87, 88, 89, 90] | 23 => [92] | 25 => [97, 98] | 26 => [14, 99, 100, 101, 102] | 28 => [104] | 29 => [3, 105, 106, 107, 108, 109, 110, 111, 112] | 30 => [113] | 31 => [7, 115] | 32 => [2, 7, 116, 117, 118, 119, 120, 121, 122, 123, 124, 125, 126, 127, 128, 129, 130, 131, 132, 133, 134, 135] | 34 => [15, 137, 138, 139, 140] | 35 => [6, 141] | _ => []
def c_store_From : RCode :=
 .seq (.ops [o 2 (.box 61 (t 0)),
 o 3 (.box 37 (t 1)),
 mv 4 (.const (.pointer none)),
 mv 5 (k 0)] [0, 1, 4, 5])
 (.seq (.ops [fa 17 0 (t 3),
 l1 18 (t 17),
 la 19 3 (t 2),
 ca 20 F.store_New [(t 18), (t 19)],
 mv 16 (t 20),
 ex 21 (t 16) 0,
 ex 22 (t 16) 1,
 mv 6 (t 21),
 mv 7 (t 22)] [16, 17, 18, 19, 20, 21, 22])
 (.seq (.seq (.ops [mv 23 (t 7),
 o 24 (.ibin .neq (t 23) (k 0))] [23])
 (.cond (t 24)
  (.seq (.ops [mv 25 (t 7),
  mv 4 (.const (.pointer none)),
  mv 5 (t 25)] [7, 25])
  (.ret))
  (.skip)))
 (.seq (.seq (.ops [la 26 5 (t 3),
 ca 27 F.store_nexts [(t 26)],
 o 28 (.not (t 27))] [26, 27])
 (.cond (t 28)
  (.seq (.ops [mv 4 (.const (.pointer none)),
  mv 5 (k 2)] [])
  (.ret))
  (.skip)))
 (.seq (.ops [mv 29 (t 6),
 fa 30 1 (t 3),
 l1 31 (t 30),
 o 32 (.nilck (t 29)),
 fa 33 4 (t 32),
 st 1 (t 33) (t 31)] [29, 30, 31, 32, 33])
 (.seq (.seq (.ops [fa 34 2 (t 3),
 l1 35 (t 34),
 o 36 (.len (t 35)),
 mv 37 (k 0)] [34])
 (.block 0 (.loop (.seq (.ops [o 38 (.ibin .lss (t 37) (t 36))] [])
  (.seq (.cond (t 38)
   (.skip)
   (.exit 0))
  (.seq (.block 1 (.seq (.ops [o 39 (.iaddr 2 (t 35) (t 37)),
  la 40 2 (t 39),
  o 9 (.alloc 143 [(i 0), (i 0)]),
  st 2 (t 9) (t 40)] [39, 40])
  (.draw (.take (mv 41 (t 6)) (.take (fa 42 0 (t 9)) (.take (l1 43 (t 42)) (.take (fa 44 1 (t 9)) (.take (l1 45 (t 44)) (.take (o 46 (.nilck (t 41))) (.take (fa 47 5 (t 46)) (.take (o 48 (.iaddrA 64 1 (t 47) (t 43))) (.alt (st 1 (t 48) (t 45)) false
   (.done)
   (.none)))))))))) [9, 41, 42, 43, 44, 45, 46, 47, 48])))
  (.ops [ad 49 (t 37) (k 1),
  mv 37 (t 49)] [49])))))))
 (.seq (.ops [mv 50 (t 6),
 o 51 (.nilck (t 50)),
 fa 52 5 (t 51),
 la 53 64 (t 52),
 o 10 (.alloc 120 [(i 0), (i 0), (i 0), (i 0), (i 0), (i 0), (i 0), (i 0), (i 0), (i 0), (i 0), (i 0), (i 0), (i 0), (i 0), (i 0), (i 0), (i 0), (i 0), (i 0), (i 0), (i 0), (i 0), (i 0), (i 0), (i 0), (i 0), (i 0), (i 0), (i 0), (i 0), (i 0), (i 0), (i 0), (i 0), (i 0), (i 0), (i 0), (i 0), (i 0), (i 0), (i 0), (i 0), (i 0), (i 0), (i 0), (i 0), (i 0), (i 0), (i 0), (i 0), (i 0), (i 0), (i 0), (i 0), (i 0), (i 0), (i 0), (i 0), (i 0), (i 0), (i 0), (i 0), (i 0)]),
 st 64 (t 10) (t 53)] [50, 51, 52, 53])
 (.seq (.draw (.take (mv 54 (t 6)) (.take (mv 55 (t 6)) (.take (fa 56 3 (t 3)) (.take (l1 57 (t 56)) (.take (o 58 (.len (t 57))) (.take (fa 59 3 (t 3)) (.take (l1 60 (t 59)) (.take (o 61 (.len (t 60))) (.take (o 62 (.ibin .mul (k 48) (t 61))) (.take (o 63 (.nilck (t 54))) (.take (fa 64 1 (t 63)) (.take (fa 65 0 (t 64)) (.alt (st 1 (t 65) (t 58)) true
  (.take (o 66 (.nilck (t 55))) (.take (fa 67 1 (t 66)) (.take (fa 68 1 (t 67)) (.alt (st 1 (t 68) (t 62)) false
   (.done)
   (.none)))))
  (.none)))))))))))))) [54, 55, 56, 57, 58, 59, 60, 61, 62, 63, 64, 65, 66, 67, 68])
 (.seq (.seq (.ops [fa 69 3 (t 3),
 l1 70 (t 69),
 o 71 (.len (t 70)),
 mv 72 (k 0)] [69])
 (.block 2 (.loop (.seq (.ops [o 73 (.ibin .lss (t 72) (t 71))] [])
  (.seq (.cond (t 73)
   (.skip)
   (.exit 2))
  (.seq (.block 3 (.seq (.ops [o 74 (.iaddr 5 (t 70) (t 72)),
  la 75 5 (t 74),
  o 12 (.alloc 51 [(i 0), (i 0), (i 0), (i 0), sn]),
  st 5 (t 12) (t 75)] [74, 75])
  (.seq (.ops [mv 76 (t 6),
  la 77 5 (t 12),
  o 78 (.build [(i 0), (i 0), (i 0), (i 0), (i 0), sn] [(0, 1, (k 2)), (1, 5, (t 77))]),
  ca 79 F.store_Store_Apply [(t 76), (t 78)],
  o 80 (.ibin .neq (t 79) (k 0))] [12, 76, 77, 78, 79])
  (.cond (t 80)
   (.seq (.ops [mv 4 (.const (.pointer none)),
   mv 5 (k 2)] [])
   (.ret))
   (.skip)))))
  (.ops [ad 81 (t 72) (k 1),
  mv 72 (t 81)] [81])))))))
 (.seq (.ops [mv 82 (t 6),
 la 83 3 (t 2),
 o 84 (.nilck (t 82)),
 fa 85 1 (t 84),
 st 3 (t 85) (t 83)] [82, 83, 84, 85])
 (.seq (.seq (.draw (.take (mv 86 (t 6)) (.take (o 87 (.nilck (t 86))) (.take (fa 88 5 (t 87)) (.take (la 89 64 (t 88)) (.take (la 90 64 (t 10)) (.take (o 91 (.aeq .neq 64 (t 89) (t 90))) (.done))))))) [10, 86, 87, 88, 89, 90])
 (.cond (t 91)
  (.seq (.ops [mv 4 (.const (.pointer none)),
  mv 5 (k 2)] [])
  (.ret))
  (.skip)))
 (.seq (.seq (.ops [fa 92 4 (t 3),
 l1 93 (t 92),
 o 94 (.len (t 93)),
 mv 95 (k 0)] [92])
 (.block 4 (.loop (.seq (.ops [o 96 (.ibin .lss (t 95) (t 94))] [])
  (.seq (.cond (t 96)
   (.skip)
   (.exit 4))
  (.seq (.block 5 (.seq (.ops [o 97 (.iaddr 4 (t 93) (t 95)),
  la 98 4 (t 97),
  o 14 (.alloc 81 [(i 0), (i 0), (i 0), sn]),
  st 4 (t 14) (t 98)] [97, 98])
  (.seq (.ops [fa 99 0 (t 14),
  l1 100 (t 99),
  fa 101 0 (t 3),
  l1 102 (t 101),
  o 103 (.ibin .eql (t 100) (t 102))] [14, 99, 100, 101, 102])
  (.cond (t 103)
   (.seq (.ops [mv 4 (.const (.pointer none)),
   mv 5 (k 2)] [])
   (.ret))
   (.skip)))))
  (.ops [ad 104 (t 95) (k 1),
  mv 95 (t 104)] [104])))))))
 (.seq (.ops [fa 106 2 (t 2),
 l1 107 (t 106),
 fa 108 4 (t 3),
 l1 109 (t 108),
 ca 110 F.seen_From [(t 107), (t 109)],
 mv 105 (t 110),
 ex 111 (t 105) 0,
 ex 112 (t 105) 1,
 mv 15 (t 111),
 mv 7 (t 112)] [3, 105, 106, 107, 108, 109, 110, 111, 112])
 (.seq (.seq (.ops [mv 113 (t 7),
 o 114 (.ibin .eql (t 113) (k 2))] [113])
 (.cond (t 114)
  (.seq (.ops [mv 115 (t 7),
  mv 4 (.const (.pointer none)),
  mv 5 (t 115)] [7, 115])
  (.ret))
  (.skip)))
 (.seq (.seq (.draw (.take (mv 116 (t 7)) (.take (o 117 (.ibin .neq (t 116) (k 0))) (.take (os 118 (.mov (t 117))) (.take (gf 118 119 (.mov (t 6))) (.take (gf 118 120 (.nilck (t 119))) (.take (gf 118 121 (.faddr 69 (t 120))) (.take (gf 118 122 (.load false 1 (t 121))) (.take (gf 118 123 (.mlen (t 122))) (.take (gf 118 124 (.faddr 0 (t 2))) (.take (gf 118 125 (.load false 1 (t 124))) (.take (gf 118 126 (.ibin .gtr (t 123) (t 125))) (.take (o 127 (.pick (t 118) (kb true) (t 126))) (.take (os 128 (.mov (t 127))) (.take (gf 128 129 (.mov (t 6))) (.take (gf 128 130 (.nilck (t 129))) (.take (gf 128 131 (.faddr 71 (t 130))) (.take (gf 128 132 (.load false 1 (t 131))) (.take (gf 128 133 (.faddr 1 (t 2))) (.take (gf 128 134 (.load false 1 (t 133))) (.take (gf 128 135 (.ibin .gtr (t 132) (t 134))) (.take (o 136 (.pick (t 128) (kb true) (t 135))) (.done)))))))))))))))))))))) [2, 7, 116, 117, 118, 119, 120, 121, 122, 123, 124, 125, 126, 127, 128, 129, 130, 131, 132, 133, 134, 135])
 (.cond (t 136)
  (.seq (.ops [mv 4 (.const (.pointer none)),
  mv 5 (k 6)] [])
  (.ret))
  (.skip)))
 (.seq (.ops [mv 137 (t 6),
 mv 138 (t 15),
 o 139 (.nilck (t 137)),
 fa 140 72 (t 139),
 st 1 (t 140) (t 138)] [15, 137, 138, 139, 140])
 (.seq (.ops [mv 141 (t 6),
 mv 4 (t 141),
 mv 5 (k 0)] [6, 141])
 (.ret)))))))))))))))))
def r_store_From : List RRes := [.tmp 4, .tmp 5]
theorem fo_store_From {args : List Value} {M : Mem} {R : Value → Mem → Prop} (hn : args.length ≤ 142) (h : vfn Tryz.prog c_store_From r_store_From args M R) : CallsM Tryz.prog F.store_From args M R :=
  fn_ok (kf := k_store_From) Tryz.func57 (by kernel_rfl) (by kernel_rfl) hn (by kernel_rfl) h
/-- portage/wal.Open -/
def k_wal_Open (i : Nat) : List Nat := match i with | 0 => [6, 7, 8] | 1 => [13, 14] | 3 => [16, 17, 18, 19, 20, 21, 22, 23, 24, 25, 26, 27, 28, 29] | 5 => [31, 32] | 7 => [0, 1, 2, 33, 34, 35, 36, 37, 38] | 8 => [39, 40, 41, 42, 43] | 9 => [44] | 10 => [11, 46] | 11 => [9, 10, 47, 48] | _ => []
def c_wal_Open : RCode :=
 .seq (.ops [mv 6 (.const (.pointer none)),
 mv 7 (.const sn),
 mv 8 (k 0)] [6, 7, 8])
 (.seq (.block 0 (.seq (.ops [mv 13 (t 0),
 o 14 (.pnil .eql (t 13) (.const (.pointer none))),
 mv 12 (t 14)] [13, 14])
 (.cond (t 12)
  (.seq (.ops [mv 6 (.const (.pointer none)),
  mv 7 (.const sn),
  mv 8 (k 7)] [])
  (.ret))
  (.seq (.ops [mv 16 (t 1),
  o 17 (.ibin .lss (t 16) (k 1)),
  os 18 (.mov (t 17)),
  gf 18 19 (.mov (t 1)),
  gf 18 20 (.ibin .gtr (t 19) (k 99999)),
  o 21 (.pick (t 18) (kb true) (t 20)),
  os 22 (.mov (t 21)),
  gf 22 23 (.mov (t 2)),
  gf 22 24 (.ibin .lss (t 23) (k 16)),
  o 25 (.pick (t 22) (kb true) (t 24)),
  os 26 (.mov (t 25)),
  gf 26 27 (.mov (t 2)),
  gf 26 28 (.ibin .gtr (t 27) (k 1048576)),
  o 29 (.pick (t 26) (kb true) (t 28)),
  mv 15 (t 29)] [16, 17, 18, 19, 20, 21, 22, 23, 24, 25, 26, 27, 28, 29])
  (.cond (t 15)
   (.seq (.ops [mv 6 (.const (.pointer none)),
   mv 7 (.const sn),
   mv 8 (k 1)] [])
   (.ret))
   (.seq (.ops [mv 31 (t 0),
   ca 32 F.disk_Disk_Down [(t 31)],
   mv 30 (t 32)] [31, 32])
   (.cond (t 30)
    (.seq (.ops [mv 6 (.const (.pointer none)),
    mv 7 (.const sn),
    mv 8 (k 9)] [])
    (.ret))
    (.skip))))))))
 (.seq (.ops [mv 33 (t 0),
 mv 34 (t 1),
 mv 35 (t 1),
 mv 36 (t 2),
 o 37 (.build [(.pointer none), (i 0), (i 0), (i 0), (.bool false)] [(0, 1, (t 33)), (1, 1, (t 34)), (2, 1, (t 35)), (3, 1, (t 36))]),
 o 38 (.box 165 (t 37)),
 mv 9 (t 38)] [0, 1, 2, 33, 34, 35, 36, 37, 38])
 (.seq (.ops [mv 40 (t 9),
 ca 41 F.wal_Log_open [(t 40)],
 mv 39 (t 41),
 ex 42 (t 39) 0,
 ex 43 (t 39) 1,
 mv 10 (t 42),
 mv 11 (t 43)] [39, 40, 41, 42, 43])
 (.seq (.seq (.ops [mv 44 (t 11),
 o 45 (.ibin .neq (t 44) (k 0))] [44])
 (.cond (t 45)
  (.seq (.ops [mv 46 (t 11),
  mv 6 (.const (.pointer none)),
  mv 7 (.const sn),
  mv 8 (t 46)] [11, 46])
  (.ret))
  (.skip)))
 (.seq (.ops [mv 47 (t 9),
 mv 48 (t 10),
 mv 6 (t 47),
 mv 7 (t 48),
 mv 8 (k 0)] [9, 10, 47, 48])
 (.ret))))))
def r_wal_Open : List RRes := [.tmp 6, .tmp 7, .tmp 8]
theorem fo_wal_Open {args : List Value} {M : Mem} {R : Value → Mem → Prop} (hn : args.length ≤ 49) (h : vfn Tryz.prog c_wal_Open r_wal_Open args M R) : CallsM Tryz.prog F.wal_Open args M R :=
  fn_ok (kf := k_wal_Open) Tryz.func58 (by kernel_rfl) (by kernel_rfl) hn (by kernel_rfl) h
/-- portage/store.GetEv -/
def k_store_GetEv (i : Nat) : List Nat := match i with | 0 => [3] | 1 => [6, 7] | 2 => [9] | 3 => [10, 11, 12, 13, 14] | 5 => [15] | 7 => [18] | 8 => [0, 19, 20] | 10 => [23] | 11 => [0, 24, 25, 26, 27, 28, 29, 30] | 12 => [32] | 13 => [16, 33] | 14 => [0, 34, 35, 36, 37, 38, 39, 40, 41] | 15 => [5, 42] | 16 => [44] | 17 => [4, 45] | _ => []
def c_store_GetEv : RCode :=
 .seq (.ops [o 2 (.alloc 135 [(i 0), (i 0), (i 0), (i 0), (i 0), sn]),
 mv 3 (k 0)] [3])
 (.seq (.seq (.ops [mv 6 (t 0),
 o 7 (.len (t 6)),
 o 8 (.ibin .eql (t 7) (k 0))] [6, 7])
 (.cond (t 8)
  (.seq (.ops [o 9 (.build [(i 0), (i 0), (i 0), (i 0), (i 0), sn] []),
  st 6 (t 2) (t 9),
  mv 3 (k 2)] [9])
  (.ret))
  (.skip)))
 (.seq (.ops [mv 10 (t 0),
 o 11 (.iaddr 1 (t 10) (k 0)),
 l1 12 (t 11),
 o 13 (.conv .i64 (t 12)),
 o 14 (.build [(i 0), (i 0), (i 0), (i 0), (i 0), sn] [(0, 1, (t 13))]),
 o 4 (.alloc 135 [(i 0), (i 0), (i 0), (i 0), (i 0), sn]),
 st 6 (t 4) (t 14)] [10, 11, 12, 13, 14])
 (.seq (.ops [mv 5 (k 0)] [])
 (.seq (.seq (.ops [fa 15 0 (t 4),
 l1 16 (t 15)] [15])
 (.block 0 (.seq (.ops [o 18 (.ibin .eql (t 16) (k 1)),
 mv 17 (t 18)] [18])
 (.cond (t 17)
  (.seq (.ops [mv 19 (t 0),
  o 20 (.len (t 19)),
  o 21 (.ibin .gtr (t 20) (k 1))] [0, 19, 20])
  (.cond (t 21)
   (.ops [mv 5 (k 2)] [])
   (.skip)))
  (.seq (.ops [o 23 (.ibin .eql (t 16) (k 2)),
  mv 22 (t 23)] [23])
  (.cond (t 22)
   (.ops [mv 25 (t 0),
   o 26 (.slx 1 (t 25) (some (k 1)) none),
   ca 27 F.msg_Get [(t 26)],
   mv 24 (t 27),
   ex 28 (t 24) 0,
   ex 29 (t 24) 1,
   fa 30 1 (t 4),
   st 5 (t 30) (t 28),
   mv 5 (t 29)] [0, 24, 25, 26, 27, 28, 29, 30])
   (.seq (.seq (.ops [o 32 (.ibin .eql (t 16) (k 3)),
   mv 31 (t 32)] [32])
   (.cond (t 31)
    (.skip)
    (.ops [o 33 (.ibin .eql (t 16) (k 4)),
    mv 31 (t 33)] [16, 33])))
   (.cond (t 31)
    (.ops [mv 35 (t 0),
    o 36 (.slx 1 (t 35) (some (k 1)) none),
    ca 37 F.msg_GetId [(t 36)],
    mv 34 (t 37),
    ex 38 (t 34) 0,
    ex 39 (t 34) 1,
    fa 40 1 (t 4),
    fa 41 0 (t 40),
    st 4 (t 41) (t 38),
    mv 5 (t 39)] [0, 34, 35, 36, 37, 38, 39, 40, 41])
    (.ops [mv 5 (k 2)] [])))))))))
 (.seq (.seq (.ops [mv 42 (t 5),
 o 43 (.ibin .neq (t 42) (k 0))] [5, 42])
 (.cond (t 43)
  (.seq (.ops [o 44 (.build [(i 0), (i 0), (i 0), (i 0), (i 0), sn] []),
  st 6 (t 2) (t 44),
  mv 3 (k 2)] [44])
  (.ret))
  (.skip)))
 (.seq (.ops [la 45 6 (t 4),
 st 6 (t 2) (t 45),
 mv 3 (k 0)] [4, 45])
 (.ret)))))))
def r_store_GetEv : List RRes := [.cell true 6 2, .tmp 3]
theorem fo_store_GetEv {args : List Value} {M : Mem} {R : Value → Mem → Prop} (hn : args.length ≤ 46) (h : vfn Tryz.prog c_store_GetEv r_store_GetEv args M R) : CallsM Tryz.prog F.store_GetEv args M R :=
  fn_ok (kf := k_store_GetEv) Tryz.func59 (by kernel_rfl) (by kernel_rfl) hn (by kernel_rfl) h
/-- (*portage/store.Store).Apply -/
def k_store_Store_Apply (i : Nat) : List Nat := match i with | 0 => [1, 4] | 1 => [7, 8, 9] | 2 => [10] | 3 => [5, 12] | 4 => [13, 14, 15] | 5 => [16] | 7 => [25] | 8 => [26, 27, 28, 29, 30, 31, 32] | 9 => [0, 33, 34, 35, 36] | 10 => [38] | 11 => [39, 40, 41, 42, 43, 44, 45, 46, 47, 48, 49, 50, 51, 52, 53, 54, 55] | 12 => [56, 57, 58, 59, 60, 61, 62] | 13 => [3, 63, 64, 65, 66, 67, 68, 69, 70, 71, 72, 73] | 14 => [74, 75, 76, 77, 78, 79, 80, 81, 82, 83, 84, 85, 86, 87, 88] | 15 => [0, 6, 90, 91, 92, 93, 94, 95, 96, 97, 98, 99, 100, 101, 102, 103, 104, 105] | 16 => [17, 107] | 17 => [108, 109, 110, 111, 112, 113, 114, 115, 116, 117, 118, 119, 120, 121, 122, 123] | 18 => [0, 6, 124, 125, 126, 127, 128] | 6 => [0, 6, 18, 19, 20, 21, 22, 23] | _ => []
def c_store_Store_Apply : RCode :=
 .seq (.ops [o 3 (.box 135 (t 1)),
 mv 4 (k 0)] [1, 4])
 (.seq (.seq (.ops [mv 7 (t 0),
 la 8 6 (t 3),
 ca 9 F.store_Store_May [(t 7), (t 8)],
 mv 5 (t 9)] [7, 8, 9])
 (.seq (.ops [mv 10 (t 5),
 o 11 (.ibin .neq (t 10) (k 0))] [10])
 (.cond (t 11)
  (.seq (.ops [mv 12 (t 5),
  mv 4 (t 12)] [5, 12])
  (.ret))
  (.skip))))
 (.seq (.ops [fa 13 1 (t 3),
 fa 14 0 (t 13),
 la 15 4 (t 14),
 o 6 (.alloc 42 [(i 0), (i 0), (i 0), (i 0)]),
 st 4 (t 6) (t 15)] [13, 14, 15])
 (.seq (.seq (.ops [fa 16 0 (t 3),
 l1 17 (t 16)] [16])
 (.block 0 (.seq (.ops [o 25 (.ibin .eql (t 17) (k 1)),
 mv 24 (t 25)] [25])
 (.cond (t 24)
  (.seq (.ops [mv 26 (t 0),
  o 27 (.nilck (t 26)),
  fa 28 4 (t 27),
  l1 29 (t 28),
  ad 30 (t 29) (k 1),
  o 31 (.nilck (t 26)),
  fa 32 4 (t 31),
  st 1 (t 32) (t 30)] [26, 27, 28, 29, 30, 31, 32])
  (.ops [mv 33 (t 0),
  o 34 (.build [(i 0), (i 0), (i 0), (i 0), (i 0), (i 0), (i 0), (i 0), (i 0), (i 0), (i 0), (i 0), (i 0), (i 0), (i 0), (i 0), (i 0), (i 0), (i 0), (i 0), (i 0), (i 0), (i 0), (i 0), (i 0), (i 0), (i 0), (i 0), (i 0), (i 0), (i 0), (i 0), (i 0), (i 0), (i 0), (i 0), (i 0), (i 0), (i 0), (i 0), (i 0), (i 0), (i 0), (i 0), (i 0), (i 0), (i 0), (i 0), (i 0), (i 0), (i 0), (i 0), (i 0), (i 0), (i 0), (i 0), (i 0), (i 0), (i 0), (i 0), (i 0), (i 0), (i 0), (i 0)] []),
  o 35 (.nilck (t 33)),
  fa 36 5 (t 35),
  st 64 (t 36) (t 34)] [0, 33, 34, 35, 36]))
  (.seq (.ops [o 38 (.ibin .eql (t 17) (k 2)),
  mv 37 (t 38)] [38])
  (.cond (t 37)
   (.seq (.draw (.take (mv 39 (t 0)) (.take (o 40 (.nilck (t 39))) (.take (fa 41 69 (t 40)) (.take (l1 42 (t 41)) (.take (la 43 4 (t 6)) (.take (la 44 4 (t 6)) (.take (fa 46 1 (t 3)) (.take (fa 47 4 (t 46)) (.take (l1 48 (t 47)) (.take (mv 51 (t 0)) (.take (o 52 (.nilck (t 51))) (.take (fa 53 70 (t 52)) (.take (l1 54 (t 53)) (.alt (o 45 (.mkSl false 5 0 [] [])) false
    (.alt (o 49 (.app 5 1 1 [(u 0)] (t 45) (t 48))) true
     (.take (o 50 (.build [(i 0), (i 0), (i 0), (i 0), sn] [(0, 4, (t 44)), (4, 1, (t 49))])) (.take (o 55 (.build [(i 0), (i 0), (i 0), (i 0), sn, (i 0)] [(0, 5, (t 50)), (5, 1, (t 54))])) (.alt (e (.mset (.agg 4) (t 42) (t 43) (t 55))) false
      (.done)
      (.none))))
     (.none))
    (.none))))))))))))))) [39, 40, 41, 42, 43, 44, 45, 46, 47, 48, 49, 50, 51, 52, 53, 54, 55])
   (.seq (.ops [mv 56 (t 0),
   o 57 (.nilck (t 56)),
   fa 58 70 (t 57),
   l1 59 (t 58),
   ad 60 (t 59) (k 1),
   o 61 (.nilck (t 56)),
   fa 62 70 (t 61),
   st 1 (t 62) (t 60)] [56, 57, 58, 59, 60, 61, 62])
   (.seq (.draw (.take (mv 63 (t 0)) (.take (o 64 (.nilck (t 63))) (.take (fa 65 71 (t 64)) (.take (l1 66 (t 65)) (.take (fa 67 1 (t 3)) (.take (fa 68 4 (t 67)) (.take (l1 69 (t 68)) (.take (o 70 (.len (t 69))) (.take (ad 71 (t 66) (t 70)) (.take (o 72 (.nilck (t 63))) (.take (fa 73 71 (t 72)) (.alt (st 1 (t 73) (t 71)) false
    (.done)
    (.none))))))))))))) [3, 63, 64, 65, 66, 67, 68, 69, 70, 71, 72, 73])
   (.seq (.draw (.take (fa 74 0 (t 6)) (.take (l1 75 (t 74)) (.take (mv 76 (t 0)) (.take (o 77 (.nilck (t 76))) (.take (fa 78 0 (t 77)) (.take (l1 79 (t 78)) (.take (o 80 (.ibin .eql (t 75) (t 79))) (.take (os 81 (.mov (t 80))) (.take (gt 81 82 (.faddr 2 (t 6))) (.take (gt 81 83 (.load false 1 (t 82))) (.take (gt 81 84 (.mov (t 0))) (.take (gt 81 85 (.nilck (t 84))) (.take (gt 81 86 (.faddr 4 (t 85))) (.take (gt 81 87 (.load false 1 (t 86))) (.take (gt 81 88 (.ibin .eql (t 83) (t 87))) (.take (o 89 (.pick (t 81) (t 88) (kb false))) (.done))))))))))))))))) [74, 75, 76, 77, 78, 79, 80, 81, 82, 83, 84, 85, 86, 87, 88])
   (.cond (t 89)
    (.draw (.take (mv 90 (t 0)) (.take (fa 91 1 (t 6)) (.take (l1 92 (t 91)) (.take (mv 93 (t 0)) (.take (fa 94 1 (t 6)) (.take (l1 95 (t 94)) (.take (o 96 (.nilck (t 93))) (.take (fa 97 5 (t 96)) (.take (o 98 (.iaddrA 64 1 (t 97) (t 95))) (.take (l1 99 (t 98)) (.take (fa 100 3 (t 6)) (.take (l1 101 (t 100)) (.take (o 102 (.imm true (t 99) (t 101))) (.take (o 103 (.nilck (t 90))) (.take (fa 104 5 (t 103)) (.take (o 105 (.iaddrA 64 1 (t 104) (t 92))) (.alt (st 1 (t 105) (t 102)) false
     (.done)
     (.none)))))))))))))))))) [0, 6, 90, 91, 92, 93, 94, 95, 96, 97, 98, 99, 100, 101, 102, 103, 104, 105])
    (.skip))))))
   (.seq (.ops [o 107 (.ibin .eql (t 17) (k 3)),
   mv 106 (t 107)] [17, 107])
   (.cond (t 106)
    (.seq (.draw (.take (mv 108 (t 0)) (.take (o 109 (.nilck (t 108))) (.take (fa 110 71 (t 109)) (.take (l1 111 (t 110)) (.take (mv 112 (t 0)) (.take (o 113 (.nilck (t 112))) (.take (fa 114 69 (t 113)) (.take (l1 115 (t 114)) (.take (la 116 4 (t 6)) (.take (o 117 (.mget (.agg 4) false (.agg #[(i 0), (i 0), (i 0), (i 0), sn, (i 0)]) (t 115) (t 116))) (.take (o 118 (.field true 0 5 (t 117))) (.take (o 119 (.field false 4 1 (t 118))) (.take (o 120 (.len (t 119))) (.take (o 121 (.ibin .sub (t 111) (t 120))) (.take (o 122 (.nilck (t 108))) (.take (fa 123 71 (t 122)) (.alt (st 1 (t 123) (t 121)) false
     (.done)
     (.none)))))))))))))))))) [108, 109, 110, 111, 112, 113, 114, 115, 116, 117, 118, 119, 120, 121, 122, 123])
    (.draw (.take (mv 124 (t 0)) (.take (o 125 (.nilck (t 124))) (.take (fa 126 69 (t 125)) (.take (l1 127 (t 126)) (.take (la 128 4 (t 6)) (.alt (e (.mdel (.agg 4) (t 127) (t 128))) false
     (.done)
     (.none))))))) [0, 6, 124, 125, 126, 127, 128]))
    (.draw (.take (mv 18 (t 0)) (.take (o 19 (.nilck (t 18))) (.take (fa 20 72 (t 19)) (.take (l1 21 (t 20)) (.take (la 22 4 (t 6)) (.alt (ca 23 F.seen_Set_Add [(t 21), (t 22)]) false
     (.done)
     (.none))))))) [0, 6, 18, 19, 20, 21, 22, 23])))))))))
 (.seq (.ops [mv 4 (k 0)] [])
 (.ret)))))
def r_store_Store_Apply : List RRes := [.tmp 4]
theorem fo_store_Store_Apply {args : List Value} {M : Mem} {R : Value → Mem → Prop} (hn : args.length ≤ 129) (h : vfn Tryz.prog c_store_Store_Apply r_store_Store_Apply args M R) : CallsM Tryz.prog F.store_Store_Apply args M R :=
  fn_ok (kf := k_store_Store_Apply) Tryz.func60 (by kernel_rfl) (by kernel_rfl) hn (by kernel_rfl) h
/-- (*portage/custody.Custody).put -/
def k_custody_Custody_put (i : Nat) : List Nat := match i with | 0 => [1, 6] | 1 => [13, 14] | 2 => [15] | 3 => [7, 17] | 4 => [18, 19, 20, 21, 22, 23, 24] | 5 => [25] | 6 => [8, 27] | 7 => [28, 29, 30, 31, 32] | 8 => [33] | 9 => [10, 35] | 10 => [9, 36, 37, 38, 39, 40, 41, 42, 43] | 11 => [44] | 12 => [11, 46] | 13 => [2] | 14 => [48, 49, 50, 51, 52, 53, 54] | 15 => [55] | 16 => [12, 57] | 17 => [0, 4, 58, 59, 60, 61, 62, 63, 64] | _ => []
def c_custody_Custody_put : RCode :=
 .seq (.ops [o 4 (.box 135 (t 1)),
 mv 6 (k 0)] [1, 6])
 (.seq (.seq (.ops [mv 13 (t 0),
 ca 14 F.custody_Custody_ready [(t 13)],
 mv 7 (t 14)] [13, 14])
 (.seq (.ops [mv 15 (t 7),
 o 16 (.ibin .neq (t 15) (k 0))] [15])
 (.cond (t 16)
  (.seq (.ops [mv 17 (t 7),
  mv 6 (t 17)] [7, 17])
  (.ret))
  (.skip))))
 (.seq (.seq (.draw (.take (mv 18 (t 0)) (.take (o 19 (.nilck (t 18))) (.take (fa 20 0 (t 19)) (.take (fa 21 0 (t 20)) (.take (l1 22 (t 21)) (.take (la 23 6 (t 4)) (.alt (ca 24 F.store_Store_May [(t 22), (t 23)]) false
  (.take (mv 8 (t 24)) (.done))
  (.none)))))))) [18, 19, 20, 21, 22, 23, 24])
 (.seq (.ops [mv 25 (t 8),
 o 26 (.ibin .neq (t 25) (k 0))] [25])
 (.cond (t 26)
  (.seq (.ops [mv 27 (t 8),
  mv 6 (t 27)] [8, 27])
  (.ret))
  (.skip))))
 (.seq (.ops [la 29 6 (t 4),
 ca 30 F.store_PutEv [(t 29)],
 mv 28 (t 30),
 ex 31 (t 28) 0,
 ex 32 (t 28) 1,
 mv 9 (t 31),
 mv 10 (t 32)] [28, 29, 30, 31, 32])
 (.seq (.seq (.ops [mv 33 (t 10),
 o 34 (.ibin .neq (t 33) (k 0))] [33])
 (.cond (t 34)
  (.seq (.ops [mv 35 (t 10),
  mv 6 (t 35)] [10, 35])
  (.ret))
  (.skip)))
 (.seq (.seq (.ops [mv 36 (t 0),
 mv 37 (t 0),
 o 38 (.nilck (t 37)),
 fa 39 2 (t 38),
 l1 40 (t 39),
 mv 41 (t 9),
 ca 42 F.wal_Log_Append [(t 40), (t 41)],
 ca 43 F.custody_Custody_told [(t 36), (t 42)],
 mv 11 (t 43)] [9, 36, 37, 38, 39, 40, 41, 42, 43])
 (.seq (.ops [mv 44 (t 11),
 o 45 (.ibin .neq (t 44) (k 0))] [44])
 (.cond (t 45)
  (.seq (.ops [mv 46 (t 11),
  mv 6 (t 46)] [11, 46])
  (.ret))
  (.skip))))
 (.seq (.seq (.ops [mv 47 (t 2)] [2])
 (.cond (t 47)
  (.seq (.ops [mv 48 (t 0),
  mv 49 (t 0),
  o 50 (.nilck (t 49)),
  fa 51 2 (t 50),
  l1 52 (t 51),
  ca 53 F.wal_Log_Sync [(t 52)],
  ca 54 F.custody_Custody_told [(t 48), (t 53)],
  mv 12 (t 54)] [48, 49, 50, 51, 52, 53, 54])
  (.seq (.ops [mv 55 (t 12),
  o 56 (.ibin .neq (t 55) (k 0))] [55])
  (.cond (t 56)
   (.seq (.ops [mv 57 (t 12),
   mv 6 (t 57)] [12, 57])
   (.ret))
   (.skip))))
  (.skip)))
 (.seq (.draw (.take (mv 58 (t 0)) (.take (o 59 (.nilck (t 58))) (.take (fa 60 0 (t 59)) (.take (fa 61 0 (t 60)) (.take (l1 62 (t 61)) (.take (la 63 6 (t 4)) (.alt (ca 64 F.store_Store_Apply [(t 62), (t 63)]) false
  (.take (mv 6 (t 64)) (.done))
  (.none)))))))) [0, 4, 58, 59, 60, 61, 62, 63, 64])
 (.ret))))))))
def r_custody_Custody_put : List RRes := [.tmp 6]
theorem fo_custody_Custody_put {args : List Value} {M : Mem} {R : Value → Mem → Prop} (hn : args.length ≤ 65) (h : vfn Tryz.prog c_custody_Custody_put r_custody_Custody_put args M R) : CallsM Tryz.prog F.custody_Custody_put args M R :=
  fn_ok (kf := k_custody_Custody_put) Tryz.func61 (by kernel_rfl) (by kernel_rfl) hn (by kernel_rfl) h
/-- (*portage/store.Store).Held -/
def k_store_Store_Held (i : Nat) : List Nat := match i with | 0 => [2] | 1 => [9] | 4 => [0, 11, 12, 13, 14] | 5 => [16] | 6 => [18, 19] | 7 => [5, 20, 21, 22, 23] | 8 => [24, 25] | 10 => [3] | 12 => [30, 31] | 13 => [8, 32, 33, 34, 35, 36, 37, 38, 39, 40, 41, 42, 43] | 14 => [44] | 15 => [6, 45] | _ => []
def c_store_Store_Held : RCode :=
 .seq (.ops [mv 2 (.const sn)] [2])
 (.seq (.seq (.ops [mv 9 (t 0),
 o 10 (.pnil .eql (t 9) (.const (.pointer none)))] [9])
 (.cond (t 10)
  (.seq (.ops [mv 2 (.const sn)] [])
  (.ret))
  (.skip)))
 (.seq (.ops [mv 3 (.const sn)] [])
 (.seq (.seq (.ops [mv 11 (t 0),
 o 12 (.nilck (t 11)),
 fa 13 69 (t 12),
 l1 14 (t 13),
 o 15 (.mrange (t 14))] [0, 11, 12, 13, 14])
 (.block 0 (.loop (.seq (.ops [o 16 (.mnext (t 15)),
  ex 17 (t 16) 0] [16])
  (.seq (.cond (t 17)
   (.skip)
   (.exit 0))
  (.block 1 (.seq (.ops [o 18 (.mentry (t 15)),
  ex 19 (t 18) 1,
  o 5 (.alloc 171 [(i 0), (i 0), (i 0), (i 0), sn, (i 0)]),
  st 6 (t 5) (t 19)] [18, 19])
  (.ops [mv 20 (t 3),
  la 21 6 (t 5),
  o 22 (.mkSl true 171 1 [(i 0), (i 0), (i 0), (i 0), sn, (i 0)] [(0, 6, (t 21))]),
  o 23 (.app 171 6 64 [(i 0), (i 0), (i 0), (i 0), sn, (i 0)] (t 20) (t 22)),
  mv 3 (t 23)] [5, 20, 21, 22, 23]))))))))
 (.seq (.ops [mv 24 (t 3),
 ca 25 F.slices_SortFunc_store_place_store_place [(t 24), (fn F.store_Store_Held_1)]] [24, 25])
 (.seq (.ops [mv 6 (.const sn)] [])
 (.seq (.seq (.ops [mv 26 (t 3),
 o 27 (.len (t 26)),
 mv 28 (k 0)] [3])
 (.block 2 (.loop (.seq (.ops [o 29 (.ibin .lss (t 28) (t 27))] [])
  (.seq (.cond (t 29)
   (.skip)
   (.exit 2))
  (.seq (.block 3 (.seq (.ops [o 30 (.iaddr 6 (t 26) (t 28)),
  la 31 6 (t 30),
  o 8 (.alloc 171 [(i 0), (i 0), (i 0), (i 0), sn, (i 0)]),
  st 6 (t 8) (t 31)] [30, 31])
  (.draw (.take (mv 32 (t 6)) (.take (fa 33 0 (t 8)) (.take (fa 34 0 (t 33)) (.take (la 35 4 (t 34)) (.take (fa 37 0 (t 8)) (.take (fa 38 4 (t 37)) (.take (l1 39 (t 38)) (.alt (o 36 (.mkSl false 5 0 [] [])) false
   (.alt (o 40 (.app 5 1 1 [(u 0)] (t 36) (t 39))) true
    (.take (o 41 (.build [(i 0), (i 0), (i 0), (i 0), sn] [(0, 4, (t 35)), (4, 1, (t 40))])) (.alt (o 42 (.mkSl true 51 1 [(i 0), (i 0), (i 0), (i 0), sn] [(0, 5, (t 41))])) false
     (.alt (o 43 (.app 51 5 56 [(i 0), (i 0), (i 0), (i 0), sn] (t 32) (t 42))) false
      (.take (mv 6 (t 43)) (.done))
      (.none))
     (.none)))
    (.none))
   (.none))))))))) [8, 32, 33, 34, 35, 36, 37, 38, 39, 40, 41, 42, 43])))
  (.ops [ad 44 (t 28) (k 1),
  mv 28 (t 44)] [44])))))))
 (.seq (.ops [mv 45 (t 6),
 mv 2 (t 45)] [6, 45])
 (.ret))))))))
def r_store_Store_Held : List RRes := [.tmp 2]
theorem fo_store_Store_Held {args : List Value} {M : Mem} {R : Value → Mem → Prop} (hn : args.length ≤ 46) (h : vfn Tryz.prog c_store_Store_Held r_store_Store_Held args M R) : CallsM Tryz.prog F.store_Store_Held args M R :=
  fn_ok (kf := k_store_Store_Held) Tryz.func62 (by kernel_rfl) (by kernel_rfl) hn (by kernel_rfl) h
/-- (*portage/seen.Set).Marks -/
def k_seen_Set_Marks (i : Nat) : List Nat := match i with | 0 => [2] | 1 => [6] | 4 => [0, 8, 9, 10, 11] | 5 => [13] | 6 => [15, 16, 17] | 7 => [4, 5, 18, 19, 20, 21, 22, 23, 24, 25, 26, 27, 28, 29, 30, 31, 32, 33, 34, 35] | 8 => [36, 37] | 9 => [3, 38] | _ => []
def c_seen_Set_Marks : RCode :=
 .seq (.ops [mv 2 (.const sn)] [2])
 (.seq (.seq (.ops [mv 6 (t 0),
 o 7 (.pnil .eql (t 6) (.const (.pointer none)))] [6])
 (.cond (t 7)
  (.seq (.ops [mv 2 (.const sn)] [])
  (.ret))
  (.skip)))
 (.seq (.ops [mv 3 (.const sn)] [])
 (.seq (.seq (.ops [mv 8 (t 0),
 o 9 (.nilck (t 8)),
 fa 10 1 (t 9),
 l1 11 (t 10),
 o 12 (.mrange (t 11))] [0, 8, 9, 10, 11])
 (.block 0 (.loop (.seq (.ops [o 13 (.mnext (t 12)),
  ex 14 (t 13) 0] [13])
  (.seq (.cond (t 14)
   (.skip)
   (.exit 0))
  (.block 1 (.seq (.ops [o 15 (.mentry (t 12)),
  ex 16 (t 15) 0,
  ex 17 (t 15) 1,
  o 4 (.alloc 178 [(i 0), (i 0)]),
  st 2 (t 4) (t 16),
  mv 5 (t 17)] [15, 16, 17])
  (.draw (.take (mv 18 (t 3)) (.take (o 19 (.iaddrA 2 1 (t 4) (k 0))) (.take (l1 20 (t 19)) (.take (o 21 (.iaddrA 2 1 (t 4) (k 1))) (.take (l1 22 (t 21)) (.take (mv 23 (t 5)) (.take (o 24 (.nilck (t 23))) (.take (fa 25 0 (t 24)) (.take (l1 26 (t 25)) (.take (mv 28 (t 5)) (.take (o 29 (.nilck (t 28))) (.take (fa 30 1 (t 29)) (.take (l1 31 (t 30)) (.alt (o 27 (.mkSl false 3 0 [] [])) false
   (.alt (o 32 (.app 3 1 8 [(i 0)] (t 27) (t 31))) true
    (.take (o 33 (.build [(i 0), (i 0), (i 0), sn] [(0, 1, (t 20)), (1, 1, (t 22)), (2, 1, (t 26)), (3, 1, (t 32))])) (.alt (o 34 (.mkSl true 81 1 [(i 0), (i 0), (i 0), sn] [(0, 4, (t 33))])) false
     (.alt (o 35 (.app 81 4 48 [(i 0), (i 0), (i 0), sn] (t 18) (t 34))) false
      (.take (mv 3 (t 35)) (.done))
      (.none))
     (.none)))
    (.none))
   (.none))))))))))))))) [4, 5, 18, 19, 20, 21, 22, 23, 24, 25, 26, 27, 28, 29, 30, 31, 32, 33, 34, 35]))))))))
 (.seq (.ops [mv 36 (t 3),
 ca 37 F.slices_SortFunc_api_Mark_api_Mark [(t 36), (fn F.seen_Set_Marks_1)]] [36, 37])
 (.seq (.ops [mv 38 (t 3),
 mv 2 (t 38)] [3, 38])
 (.ret))))))
def r_seen_Set_Marks : List RRes := [.tmp 2]
theorem fo_seen_Set_Marks {args : List Value} {M : Mem} {R : Value → Mem → Prop} (hn : args.length ≤ 39) (h : vfn Tryz.prog c_seen_Set_Marks r_seen_Set_Marks args M R) : CallsM Tryz.prog F.seen_Set_Marks args M R :=
  fn_ok (kf := k_seen_Set_Marks) Tryz.func63 (by kernel_rfl) (by kernel_rfl) hn (by kernel_rfl) h
/-- portage/msg.Check$1 -/
def k_msg_Check_1 (i : Nat) : List Nat := match i with | 0 => [6] | 1 => [0, 1, 2, 7, 8, 9, 10, 11, 12, 13, 14] | _ => []
def c_msg_Check_1 : RCode :=
 .seq (.ops [mv 6 (kb false)] [6])
 (.seq (.ops [mv 7 (t 0),
 mv 8 (t 1),
 o 9 (.ibin .geq (t 7) (t 8)),
 os 10 (.mov (t 9)),
 gt 10 11 (.mov (t 0)),
 gt 10 12 (.mov (t 2)),
 gt 10 13 (.ibin .leq (t 11) (t 12)),
 o 14 (.pick (t 10) (t 13) (kb false)),
 mv 6 (t 14)] [0, 1, 2, 7, 8, 9, 10, 11, 12, 13, 14])
 (.ret))
def r_msg_Check_1 : List RRes := [.tmp 6]
theorem fo_msg_Check_1 {args : List Value} {M : Mem} {R : Value → Mem → Prop} (hn : args.length ≤ 15) (h : vfn Tryz.prog c_msg_Check_1 r_msg_Check_1 args M R) : CallsM Tryz.prog F.msg_Check_1 args M R :=
  fn_ok (kf := k_msg_Check_1) Tryz.func65 (by kernel_rfl) (by kernel_rfl) hn (by kernel_rfl) h
/-- slices.pdqsortOrdered[string] -/
def k_slices_pdqsortOrdered_string (i : Nat) : List Nat := match i with | 2 => [19, 20, 21] | 3 => [22] | 4 => [0, 1, 2, 24, 25, 26, 27] | 5 => [28] | 6 => [0, 1, 2, 30, 31, 32, 33] | 7 => [34] | 8 => [36, 37, 38, 39] | 9 => [40, 41] | 10 => [42, 43, 44, 45, 46, 47, 48] | 11 => [49] | 12 => [51, 52, 53, 54] | 13 => [55, 56, 57, 58, 59, 60] | 15 => [12, 61, 62, 63, 64, 65, 66, 67] | 16 => [69, 70, 71] | 17 => [73, 74, 75, 76, 77, 78, 79, 80, 81, 82, 83, 84, 85, 86] | 18 => [1, 11, 88, 89, 90, 91, 92] | 19 => [13, 93] | 20 => [11, 94, 95, 96, 97, 98, 99, 100, 101] | 21 => [15, 102] | 22 => [103, 104, 105, 106, 107, 108] | 23 => [10, 109, 110] | 24 => [111, 112] | 25 => [16, 18, 114, 115, 116] | 26 => [1, 117, 118, 119, 120, 121] | 27 => [14, 122, 123] | 28 => [17, 18, 124, 125, 126] | 29 => [2, 127, 128, 129, 130, 131, 132] | 30 => [14, 133] | _ => []
def c_slices_pdqsortOrdered_string : RCode :=
 .seq (.ops [mv 8 (kb true)] [])
 (.seq (.ops [mv 9 (kb true)] [])
 (.block 0 (.loop (.block 1 (.seq (.ops [mv 19 (t 2),
  mv 20 (t 1),
  o 21 (.ibin .sub (t 19) (t 20)),
  mv 10 (t 21)] [19, 20, 21])
  (.seq (.seq (.ops [mv 22 (t 10),
  o 23 (.ibin .leq (t 22) (k 12))] [22])
  (.cond (t 23)
   (.seq (.ops [mv 24 (t 0),
   mv 25 (t 1),
   mv 26 (t 2),
   ca 27 F.slices_insertionSortOrdered_string [(t 24), (t 25), (t 26)]] [0, 1, 2, 24, 25, 26, 27])
   (.ret))
   (.skip)))
  (.seq (.seq (.ops [mv 28 (t 3),
  o 29 (.ibin .eql (t 28) (k 0))] [28])
  (.cond (t 29)
   (.seq (.ops [mv 30 (t 0),
   mv 31 (t 1),
   mv 32 (t 2),
   ca 33 F.slices_heapSortOrdered_string [(t 30), (t 31), (t 32)]] [0, 1, 2, 30, 31, 32, 33])
   (.ret))
   (.skip)))
  (.seq (.seq (.ops [mv 34 (t 8),
  o 35 (.not (t 34))] [34])
  (.cond (t 35)
   (.seq (.ops [mv 36 (t 0),
   mv 37 (t 1),
   mv 38 (t 2),
   ca 39 F.slices_breakPatternsOrdered_string [(t 36), (t 37), (t 38)]] [36, 37, 38, 39])
   (.ops [mv 40 (t 3),
   o 41 (.ibin .sub (t 40) (k 1)),
   mv 3 (t 41)] [40, 41]))
   (.skip)))
  (.seq (.ops [mv 43 (t 0),
  mv 44 (t 1),
  mv 45 (t 2),
  ca 46 F.slices_choosePivotOrdered_string [(t 43), (t 44), (t 45)],
  mv 42 (t 46),
  ex 47 (t 42) 0,
  ex 48 (t 42) 1,
  mv 11 (t 47),
  mv 12 (t 48)] [42, 43, 44, 45, 46, 47, 48])
  (.seq (.seq (.ops [mv 49 (t 12),
  o 50 (.ibin .eql (t 49) (k 2))] [49])
  (.cond (t 50)
   (.seq (.ops [mv 51 (t 0),
   mv 52 (t 1),
   mv 53 (t 2),
   ca 54 F.slices_reverseRangeOrdered_string [(t 51), (t 52), (t 53)]] [51, 52, 53, 54])
   (.seq (.ops [mv 55 (t 2),
   o 56 (.ibin .sub (t 55) (k 1)),
   mv 57 (t 11),
   mv 58 (t 1),
   o 59 (.ibin .sub (t 57) (t 58)),
   o 60 (.ibin .sub (t 56) (t 59)),
   mv 11 (t 60)] [55, 56, 57, 58, 59, 60])
   (.ops [mv 12 (k 1)] [])))
   (.skip)))
  (.seq (.seq (.ops [mv 61 (t 8),
  os 62 (.mov (t 61)),
  gt 62 63 (.mov (t 9)),
  o 64 (.pick (t 62) (t 63) (kb false)),
  os 65 (.mov (t 64)),
  gt 65 66 (.mov (t 12)),
  gt 65 67 (.ibin .eql (t 66) (k 1)),
  o 68 (.pick (t 65) (t 67) (kb false))] [12, 61, 62, 63, 64, 65, 66, 67])
  (.cond (t 68)
   (.seq (.ops [mv 69 (t 0),
   mv 70 (t 1),
   mv 71 (t 2),
   ca 72 F.slices_partialInsertionSortOrdered_string [(t 69), (t 70), (t 71)]] [69, 70, 71])
   (.cond (t 72)
    (.ret)
    (.skip)))
   (.skip)))
  (.seq (.seq (.draw (.take (mv 73 (t 1)) (.take (o 74 (.ibin .gtr (t 73) (k 0))) (.take (os 75 (.mov (t 74))) (.take (gt 75 76 (.mov (t 0))) (.take (gt 75 77 (.mov (t 1))) (.take (gt 75 78 (.ibin .sub (t 77) (k 1))) (.take (gt 75 79 (.iaddr 1 (t 76) (t 78))) (.take (gt 75 80 (.load false 1 (t 79))) (.take (gt 75 81 (.mov (t 0))) (.take (gt 75 82 (.mov (t 11))) (.take (gt 75 83 (.iaddr 1 (t 81) (t 82))) (.take (gt 75 84 (.load false 1 (t 83))) (.alt (gt 75 85 (.call (fn F.cmp_Less_string) [(t 80), (t 84)])) false
   (.take (gt 75 86 (.not (t 85))) (.take (o 87 (.pick (t 75) (t 86) (kb false))) (.done)))
   (.none)))))))))))))) [73, 74, 75, 76, 77, 78, 79, 80, 81, 82, 83, 84, 85, 86])
  (.cond (t 87)
   (.seq (.ops [mv 88 (t 0),
   mv 89 (t 1),
   mv 90 (t 2),
   mv 91 (t 11),
   ca 92 F.slices_partitionEqualOrdered_string [(t 88), (t 89), (t 90), (t 91)],
   mv 13 (t 92)] [1, 11, 88, 89, 90, 91, 92])
   (.seq (.ops [mv 93 (t 13),
   mv 1 (t 93)] [13, 93])
   (.exit 1)))
   (.skip)))
  (.seq (.ops [mv 95 (t 0),
  mv 96 (t 1),
  mv 97 (t 2),
  mv 98 (t 11),
  ca 99 F.slices_partitionOrdered_string [(t 95), (t 96), (t 97), (t 98)],
  mv 94 (t 99),
  ex 100 (t 94) 0,
  ex 101 (t 94) 1,
  mv 14 (t 100),
  mv 15 (t 101)] [11, 94, 95, 96, 97, 98, 99, 100, 101])
  (.seq (.ops [mv 102 (t 15),
  mv 9 (t 102)] [15, 102])
  (.seq (.ops [mv 103 (t 14),
  mv 104 (t 1),
  o 105 (.ibin .sub (t 103) (t 104)),
  mv 106 (t 2),
  mv 107 (t 14),
  o 108 (.ibin .sub (t 106) (t 107)),
  mv 16 (t 105),
  mv 17 (t 108)] [103, 104, 105, 106, 107, 108])
  (.seq (.ops [mv 109 (t 10),
  o 110 (.ibin .quo (t 109) (k 8)),
  mv 18 (t 110)] [10, 109, 110])
  (.seq (.ops [mv 111 (t 16),
  mv 112 (t 17),
  o 113 (.ibin .lss (t 111) (t 112))] [111, 112])
  (.cond (t 113)
   (.seq (.ops [mv 114 (t 16),
   mv 115 (t 18),
   o 116 (.ibin .geq (t 114) (t 115)),
   mv 8 (t 116)] [16, 18, 114, 115, 116])
   (.seq (.ops [mv 117 (t 0),
   mv 118 (t 1),
   mv 119 (t 14),
   mv 120 (t 3),
   ca 121 F.slices_pdqsortOrdered_string [(t 117), (t 118), (t 119), (t 120)]] [1, 117, 118, 119, 120, 121])
   (.ops [mv 122 (t 14),
   ad 123 (t 122) (k 1),
   mv 1 (t 123)] [14, 122, 123])))
   (.seq (.ops [mv 124 (t 17),
   mv 125 (t 18),
   o 126 (.ibin .geq (t 124) (t 125)),
   mv 8 (t 126)] [17, 18, 124, 125, 126])
   (.seq (.ops [mv 127 (t 0),
   mv 128 (t 14),
   ad 129 (t 128) (k 1),
   mv 130 (t 2),
   mv 131 (t 3),
   ca 132 F.slices_pdqsortOrdered_string [(t 127), (t 129), (t 130), (t 131)]] [2, 127, 128, 129, 130, 131, 132])
   (.ops [mv 133 (t 14),
   mv 2 (t 133)] [14, 133])))))))))))))))))))))
def r_slices_pdqsortOrdered_string : List RRes := []
theorem fo_slices_pdqsortOrdered_string {args : List Value} {M : Mem} {R : Value → Mem → Prop} (hn : args.length ≤ 134) (h : vfn Tryz.prog c_slices_pdqsortOrdered_string r_slices_pdqsortOrdered_string args M R) : CallsM Tryz.prog F.slices_pdqsortOrdered_string args M R :=
  fn_ok (kf := k_slices_pdqsortOrdered_string) Tryz.func66 (by kernel_rfl) (by kernel_rfl) hn (by kernel_rfl) h
/-- math/bits.Len -/
def k_math_bits_Len (i : Nat) : List Nat := match i with | 0 => [2] | 1 => [0, 3, 4, 5] | 2 => [0, 6, 7] | _ => []
def c_math_bits_Len : RCode :=
 .seq (.ops [mv 2 (k 0)] [2])
 (.seq (.cond (kb false)
  (.seq (.ops [mv 3 (t 0),
  o 4 (.conv .u32 (t 3)),
  ca 5 F.math_bits_Len32 [(t 4)],
  mv 2 (t 5)] [0, 3, 4, 5])
  (.ret))
  (.skip))
 (.seq (.ops [mv 6 (t 0),
 ca 7 F.math_bits_Len64 [(t 6)],
 mv 2 (t 7)] [0, 6, 7])
 (.ret)))
def r_math_bits_Len : List RRes := [.tmp 2]
theorem fo_math_bits_Len {args : List Value} {M : Mem} {R : Value → Mem → Prop} (hn : args.length ≤ 8) (h : vfn Tryz.prog c_math_bits_Len r_math_bits_Len args M R) : CallsM Tryz.prog F.math_bits_Len args M R :=
  fn_ok (kf := k_math_bits_Len) Tryz.func67 (by kernel_rfl) (by kernel_rfl) hn (by kernel_rfl) h
/-- (*portage/disk.Disk).there -/
def k_disk_Disk_there (i : Nat) : List Nat := match i with | 0 => [4, 5] | 1 => [8, 9, 10, 11] | 2 => [12] | 3 => [6, 14] | 4 => [0, 1, 15, 16, 17, 18, 19, 20] | 5 => [21] | 7 => [7, 23] | _ => []
def c_disk_Disk_there : RCode :=
 .seq (.ops [mv 4 (.const (.pointer none)),
 mv 5 (k 0)] [4, 5])
 (.seq (.seq (.ops [mv 8 (t 0),
 mv 9 (t 1),
 o 10 (.mkSl false 9 1 [(.string ByteArray.empty)] [(0, 1, (t 9))]),
 ca 11 F.disk_Disk_ready [(t 8), (t 10)],
 mv 6 (t 11)] [8, 9, 10, 11])
 (.seq (.ops [mv 12 (t 6),
 o 13 (.ibin .neq (t 12) (k 0))] [12])
 (.cond (t 13)
  (.seq (.ops [mv 14 (t 6),
  mv 4 (.const (.pointer none)),
  mv 5 (t 14)] [6, 14])
  (.ret))
  (.skip))))
 (.seq (.ops [mv 15 (t 0),
 o 16 (.nilck (t 15)),
 fa 17 1 (t 16),
 l1 18 (t 17),
 mv 19 (t 1),
 o 20 (.mget .str false (.pointer none) (t 18) (t 19)),
 mv 7 (t 20)] [0, 1, 15, 16, 17, 18, 19, 20])
 (.seq (.seq (.ops [mv 21 (t 7),
 o 22 (.pnil .eql (t 21) (.const (.pointer none)))] [21])
 (.cond (t 22)
  (.seq (.ops [mv 4 (.const (.pointer none)),
  mv 5 (k 4)] [])
  (.ret))
  (.skip)))
 (.seq (.ops [mv 23 (t 7),
 mv 4 (t 23),
 mv 5 (k 0)] [7, 23])
 (.ret)))))
def r_disk_Disk_there : List RRes := [.tmp 4, .tmp 5]
theorem fo_disk_Disk_there {args : List Value} {M : Mem} {R : Value → Mem → Prop} (hn : args.length ≤ 24) (h : vfn Tryz.prog c_disk_Disk_there r_disk_Disk_there args M R) : CallsM Tryz.prog F.disk_Disk_there args M R :=
  fn_ok (kf := k_disk_Disk_there) Tryz.func68 (by kernel_rfl) (by kernel_rfl) hn (by kernel_rfl) h
/-- (*portage/disk.Disk).changed -/
def k_disk_Disk_changed (i : Nat) : List Nat := match i with | 0 => [2] | 1 => [3, 4, 5, 6] | 2 => [8, 9, 10, 11, 12, 13, 14] | 3 => [0, 15, 16, 17, 18, 19, 20, 21, 22] | _ => []
def c_disk_Disk_changed : RCode :=
 .seq (.ops [mv 2 (k 0)] [2])
 (.seq (.seq (.ops [mv 3 (t 0),
 o 4 (.nilck (t 3)),
 fa 5 2 (t 4),
 l1 6 (t 5),
 o 7 (.ibin .gtr (t 6) (k 0))] [3, 4, 5, 6])
 (.cond (t 7)
  (.seq (.ops [mv 8 (t 0),
  o 9 (.nilck (t 8)),
  fa 10 2 (t 9),
  l1 11 (t 10),
  o 12 (.ibin .sub (t 11) (k 1)),
  o 13 (.nilck (t 8)),
  fa 14 2 (t 13),
  st 1 (t 14) (t 12)] [8, 9, 10, 11, 12, 13, 14])
  (.ops [mv 15 (t 0),
  mv 16 (t 0),
  o 17 (.nilck (t 16)),
  fa 18 2 (t 17),
  l1 19 (t 18),
  o 20 (.ibin .eql (t 19) (k 0)),
  o 21 (.nilck (t 15)),
  fa 22 3 (t 21),
  st 1 (t 22) (t 20)] [0, 15, 16, 17, 18, 19, 20, 21, 22]))
  (.skip)))
 (.seq (.ops [mv 2 (k 0)] [])
 (.ret)))
def r_disk_Disk_changed : List RRes := [.tmp 2]
theorem fo_disk_Disk_changed {args : List Value} {M : Mem} {R : Value → Mem → Prop} (hn : args.length ≤ 23) (h : vfn Tryz.prog c_disk_Disk_changed r_disk_Disk_changed args M R) : CallsM Tryz.prog F.disk_Disk_changed args M R :=
  fn_ok (kf := k_disk_Disk_changed) Tryz.func69 (by kernel_rfl) (by kernel_rfl) hn (by kernel_rfl) h
/-- portage/wal.Name -/
def k_wal_Name (i : Nat) : List Nat := match i with | 0 => [2] | 1 => [5, 6, 7, 8, 9] | 6 => [13] | 7 => [4, 14, 15, 16, 17, 18, 19, 20] | 8 => [21, 22] | 9 => [23] | 10 => [3, 24, 25, 26] | _ => []
def c_wal_Name : RCode :=
 .seq (.ops [mv 2 (.const (.string ByteArray.empty))] [2])
 (.seq (.seq (.ops [mv 5 (t 0),
 o 6 (.ibin .lss (t 5) (k 1)),
 os 7 (.mov (t 6)),
 gf 7 8 (.mov (t 0)),
 gf 7 9 (.ibin .gtr (t 8) (k 99999)),
 o 10 (.pick (t 7) (kb true) (t 9))] [5, 6, 7, 8, 9])
 (.cond (t 10)
  (.seq (.ops [mv 2 (.const (.string ByteArray.empty))] [])
  (.ret))
  (.skip)))
 (.seq (.ops [o 3 (.alloc 201 [(u 0), (u 0), (u 0), (u 0), (u 0)])] [])
 (.seq (.seq (.ops [mv 11 (k 0)] [])
 (.block 0 (.loop (.seq (.ops [o 12 (.ibin .lss (t 11) (k 5))] [])
  (.seq (.cond (t 12)
   (.skip)
   (.exit 0))
  (.seq (.block 1 (.seq (.ops [mv 13 (t 11),
  mv 4 (t 13)] [13])
  (.seq (.ops [mv 14 (t 4),
  o 15 (.ibin .sub (k 4) (t 14)),
  mv 16 (t 0),
  o 17 (.ibin .rem (t 16) (k 10)),
  ad 18 (k 48) (t 17),
  o 19 (.conv .u8 (t 18)),
  o 20 (.iaddrA 5 1 (t 3) (t 15)),
  st 1 (t 20) (t 19)] [4, 14, 15, 16, 17, 18, 19, 20])
  (.ops [mv 21 (t 0),
  o 22 (.ibin .quo (t 21) (k 10)),
  mv 0 (t 22)] [21, 22]))))
  (.ops [ad 23 (t 11) (k 1),
  mv 11 (t 23)] [23])))))))
 (.seq (.ops [o 24 (.slA 5 (t 3)),
 o 25 (.strOf (t 24)),
 o 26 (.strE .add (.const (.string ⟨#[119]⟩)) (t 25)),
 mv 2 (t 26)] [3, 24, 25, 26])
 (.ret)))))
def r_wal_Name : List RRes := [.tmp 2]
theorem fo_wal_Name {args : List Value} {M : Mem} {R : Value → Mem → Prop} (hn : args.length ≤ 27) (h : vfn Tryz.prog c_wal_Name r_wal_Name args M R) : CallsM Tryz.prog F.wal_Name args M R :=
  fn_ok (kf := k_wal_Name) Tryz.func70 (by kernel_rfl) (by kernel_rfl) hn (by kernel_rfl) h
/-- portage/bits.Get -/
def k_bits_Get (i : Nat) : List Nat := match i with | 0 => [6, 7] | 1 => [11, 12, 13, 14, 15, 16, 17, 18, 19] | 3 => [21, 22, 23, 24, 25, 26, 27, 28, 29, 30, 31] | 6 => [0, 1, 2, 33, 34, 35, 36, 37] | 8 => [42, 43] | 9 => [10, 44, 45, 46, 47, 48] | 10 => [49] | 11 => [8, 50] | _ => []
def c_bits_Get : RCode :=
 .seq (.ops [mv 6 (.const (.int .u64 0)),
 mv 7 (k 0)] [6, 7])
 (.seq (.seq (.ops [mv 11 (t 2),
 o 12 (.ibin .lss (t 11) (k 1)),
 os 13 (.mov (t 12)),
 gf 13 14 (.mov (t 2)),
 gf 13 15 (.ibin .gtr (t 14) (k 8)),
 o 16 (.pick (t 13) (kb true) (t 15)),
 os 17 (.mov (t 16)),
 gf 17 18 (.mov (t 1)),
 gf 17 19 (.ibin .lss (t 18) (k 0)),
 o 20 (.pick (t 17) (kb true) (t 19))] [11, 12, 13, 14, 15, 16, 17, 18, 19])
 (.cond (t 20)
  (.seq (.ops [mv 6 (.const (.int .u64 0)),
  mv 7 (k 1)] [])
  (.ret))
  (.skip)))
 (.seq (.seq (.ops [mv 21 (t 1),
 mv 22 (t 0),
 o 23 (.len (t 22)),
 o 24 (.ibin .gtr (t 21) (t 23)),
 os 25 (.mov (t 24)),
 gf 25 26 (.mov (t 0)),
 gf 25 27 (.len (t 26)),
 gf 25 28 (.mov (t 1)),
 gf 25 29 (.ibin .sub (t 27) (t 28)),
 gf 25 30 (.mov (t 2)),
 gf 25 31 (.ibin .lss (t 29) (t 30)),
 o 32 (.pick (t 25) (kb true) (t 31))] [21, 22, 23, 24, 25, 26, 27, 28, 29, 30, 31])
 (.cond (t 32)
  (.seq (.ops [mv 6 (.const (.int .u64 0)),
  mv 7 (k 2)] [])
  (.ret))
  (.skip)))
 (.seq (.ops [mv 8 (.const (.int .u64 0))] [])
 (.seq (.seq (.ops [mv 33 (t 0),
 mv 34 (t 1),
 mv 35 (t 1),
 mv 36 (t 2),
 ad 37 (t 35) (t 36),
 o 38 (.slx 1 (t 33) (some (t 34)) (some (t 37))),
 o 39 (.len (t 38)),
 mv 40 (k 0)] [0, 1, 2, 33, 34, 35, 36, 37])
 (.block 0 (.loop (.seq (.ops [o 41 (.ibin .lss (t 40) (t 39))] [])
  (.seq (.cond (t 41)
   (.skip)
   (.exit 0))
  (.seq (.block 1 (.seq (.ops [o 42 (.iaddr 1 (t 38) (t 40)),
  l1 43 (t 42),
  mv 10 (t 43)] [42, 43])
  (.ops [mv 44 (t 8),
  o 45 (.ibin .shl (t 44) (.const (.int .u64 8))),
  mv 46 (t 10),
  o 47 (.conv .u64 (t 46)),
  o 48 (.ibin .or (t 45) (t 47)),
  mv 8 (t 48)] [10, 44, 45, 46, 47, 48])))
  (.ops [ad 49 (t 40) (k 1),
  mv 40 (t 49)] [49])))))))
 (.seq (.ops [mv 50 (t 8),
 mv 6 (t 50),
 mv 7 (k 0)] [8, 50])
 (.ret))))))
def r_bits_Get : List RRes := [.tmp 6, .tmp 7]
theorem fo_bits_Get {args : List Value} {M : Mem} {R : Value → Mem → Prop} (hn : args.length ≤ 51) (h : vfn Tryz.prog c_bits_Get r_bits_Get args M R) : CallsM Tryz.prog F.bits_Get args M R :=
  fn_ok (kf := k_bits_Get) Tryz.func71 (by kernel_rfl) (by kernel_rfl) hn (by kernel_rfl) h
/-- portage/crc.Sum -/
def k_crc_Sum (i : Nat) : List Nat := match i with | 0 => [2] | 2 => [0] | 4 => [12, 13] | 5 => [5] | 7 => [18, 19] | 8 => [7, 20, 21, 22, 23] | 11 => [26, 27] | 12 => [28] | 13 => [29] | 14 => [30] | 15 => [3, 31, 32] | _ => []
def c_crc_Sum : RCode :=
 .seq (.ops [mv 2 (.const (.int .u32 0))] [2])
 (.seq (.ops [mv 3 (.const (.int .u32 4294967295))] [])
 (.seq (.seq (.ops [mv 8 (t 0),
 o 9 (.len (t 8)),
 mv 10 (k 0)] [0])
 (.block 0 (.loop (.seq (.ops [o 11 (.ibin .lss (t 10) (t 9))] [])
  (.seq (.cond (t 11)
   (.skip)
   (.exit 0))
  (.seq (.block 1 (.seq (.ops [o 12 (.iaddr 1 (t 8) (t 10)),
  l1 13 (t 12),
  mv 5 (t 13)] [12, 13])
  (.seq (.ops [mv 14 (t 5),
  o 15 (.len (t 14)),
  mv 16 (k 0)] [5])
  (.block 2 (.loop (.seq (.ops [o 17 (.ibin .lss (t 16) (t 15))] [])
   (.seq (.cond (t 17)
    (.skip)
    (.exit 2))
   (.seq (.block 3 (.seq (.ops [o 18 (.iaddr 1 (t 14) (t 16)),
   l1 19 (t 18),
   mv 7 (t 19)] [18, 19])
   (.seq (.ops [mv 20 (t 3),
   mv 21 (t 7),
   o 22 (.conv .u32 (t 21)),
   o 23 (.ibin .xor (t 20) (t 22)),
   mv 3 (t 23)] [7, 20, 21, 22, 23])
   (.seq (.ops [mv 24 (k 0)] [])
   (.block 4 (.loop (.seq (.ops [o 25 (.ibin .lss (t 24) (k 8))] [])
    (.seq (.cond (t 25)
     (.skip)
     (.exit 4))
    (.seq (.block 5 (.ops [mv 26 (t 3),
    ca 27 F.crc_down [(t 26), (.const (.int .u32 3988292384))],
    mv 3 (t 27)] [26, 27]))
    (.ops [ad 28 (t 24) (k 1),
    mv 24 (t 28)] [28]))))))))))
   (.ops [ad 29 (t 16) (k 1),
   mv 16 (t 29)] [29])))))))))
  (.ops [ad 30 (t 10) (k 1),
  mv 10 (t 30)] [30])))))))
 (.seq (.ops [mv 31 (t 3),
 o 32 (.ucom (t 31)),
 mv 2 (t 32)] [3, 31, 32])
 (.ret))))
def r_crc_Sum : List RRes := [.tmp 2]
theorem fo_crc_Sum {args : List Value} {M : Mem} {R : Value → Mem → Prop} (hn : args.length ≤ 33) (h : vfn Tryz.prog c_crc_Sum r_crc_Sum args M R) : CallsM Tryz.prog F.crc_Sum args M R :=
  fn_ok (kf := k_crc_Sum) Tryz.func72 (by kernel_rfl) (by kernel_rfl) hn (by kernel_rfl) h
/-- portage/snap.Get$1 -/
def k_snap_Get_1 (i : Nat) : List Nat := match i with | 0 => [5] | 1 => [1, 8, 9, 10, 11, 12, 13, 14] | 2 => [3, 7, 15, 16, 17, 18, 19] | 3 => [0, 2, 20, 21, 22] | 4 => [6, 23, 24] | _ => []
def c_snap_Get_1 : RCode :=
 .seq (.ops [mv 5 (k 0)] [5])
 (.seq (.ops [l1 9 (t 1),
 l1 10 (t 2),
 mv 11 (t 0),
 ca 12 F.bits_Get [(t 9), (t 10), (t 11)],
 mv 8 (t 12),
 ex 13 (t 8) 0,
 ex 14 (t 8) 1,
 mv 6 (t 13),
 mv 7 (t 14)] [1, 8, 9, 10, 11, 12, 13, 14])
 (.seq (.ops [l1 15 (t 3),
 os 16 (.mov (t 15)),
 gf 16 17 (.mov (t 7)),
 gf 16 18 (.ibin .neq (t 17) (k 0)),
 o 19 (.pick (t 16) (kb true) (t 18)),
 st 1 (t 3) (t 19)] [3, 7, 15, 16, 17, 18, 19])
 (.seq (.ops [l1 20 (t 2),
 mv 21 (t 0),
 ad 22 (t 20) (t 21),
 st 1 (t 2) (t 22)] [0, 2, 20, 21, 22])
 (.seq (.ops [mv 23 (t 6),
 o 24 (.conv .i64 (t 23)),
 mv 5 (t 24)] [6, 23, 24])
 (.ret)))))
def r_snap_Get_1 : List RRes := [.tmp 5]
theorem fo_snap_Get_1 {args : List Value} {M : Mem} {R : Value → Mem → Prop} (hn : args.length ≤ 25) (h : vfn Tryz.prog c_snap_Get_1 r_snap_Get_1 args M R) : CallsM Tryz.prog F.snap_Get_1 args M R :=
  fn_ok (kf := k_snap_Get_1) Tryz.func73 (by kernel_rfl) (by kernel_rfl) hn (by kernel_rfl) h
/-- portage/msg.Get -/
def k_msg_Get (i : Nat) : List Nat := match i with | 0 => [3] | 1 => [7, 8] | 2 => [10] | 3 => [11, 12, 13, 14, 15, 16] | 4 => [17] | 5 => [5, 19, 20] | 6 => [0, 4, 21, 22, 23, 24, 25, 26] | 7 => [27, 28] | 8 => [30] | 9 => [6, 31] | _ => []
def c_msg_Get : RCode :=
 .seq (.ops [o 2 (.alloc 51 [(i 0), (i 0), (i 0), (i 0), sn]),
 mv 3 (k 0)] [3])
 (.seq (.seq (.ops [mv 7 (t 0),
 o 8 (.len (t 7)),
 o 9 (.ibin .lss (t 8) (k 6))] [7, 8])
 (.cond (t 9)
  (.seq (.ops [o 10 (.build [(i 0), (i 0), (i 0), (i 0), sn] []),
  st 5 (t 2) (t 10),
  mv 3 (k 2)] [10])
  (.ret))
  (.skip)))
 (.seq (.ops [mv 12 (t 0),
 o 13 (.slx 1 (t 12) none (some (k 6))),
 ca 14 F.msg_GetId [(t 13)],
 mv 11 (t 14),
 ex 15 (t 11) 0,
 ex 16 (t 11) 1,
 o 4 (.alloc 42 [(i 0), (i 0), (i 0), (i 0)]),
 st 4 (t 4) (t 15),
 mv 5 (t 16)] [11, 12, 13, 14, 15, 16])
 (.seq (.seq (.ops [mv 17 (t 5),
 o 18 (.ibin .neq (t 17) (k 0))] [17])
 (.cond (t 18)
  (.seq (.ops [o 19 (.build [(i 0), (i 0), (i 0), (i 0), sn] []),
  mv 20 (t 5),
  st 5 (t 2) (t 19),
  mv 3 (t 20)] [5, 19, 20])
  (.ret))
  (.skip)))
 (.seq (.draw (.take (la 21 4 (t 4)) (.take (mv 23 (t 0)) (.take (o 24 (.slx 1 (t 23) (some (k 6)) none)) (.alt (o 22 (.mkSl false 5 0 [] [])) false
  (.alt (o 25 (.app 5 1 1 [(u 0)] (t 22) (t 24))) true
   (.take (o 26 (.build [(i 0), (i 0), (i 0), (i 0), sn] [(0, 4, (t 21)), (4, 1, (t 25))])) (.alt (o 6 (.alloc 51 [(i 0), (i 0), (i 0), (i 0), sn])) false
    (.alt (st 5 (t 6) (t 26)) false
     (.done)
     (.none))
    (.none)))
   (.alt (o 6 (.alloc 51 [(i 0), (i 0), (i 0), (i 0), sn])) false
    (.alt (o 25 (.app 5 1 1 [(u 0)] (t 22) (t 24))) true
     (.take (o 26 (.build [(i 0), (i 0), (i 0), (i 0), sn] [(0, 4, (t 21)), (4, 1, (t 25))])) (.alt (st 5 (t 6) (t 26)) false
      (.done)
      (.none)))
     (.none))
    (.none)))
  (.alt (o 6 (.alloc 51 [(i 0), (i 0), (i 0), (i 0), sn])) false
   (.alt (o 22 (.mkSl false 5 0 [] [])) false
    (.alt (o 25 (.app 5 1 1 [(u 0)] (t 22) (t 24))) true
     (.take (o 26 (.build [(i 0), (i 0), (i 0), (i 0), sn] [(0, 4, (t 21)), (4, 1, (t 25))])) (.alt (st 5 (t 6) (t 26)) false
      (.done)
      (.none)))
     (.none))
    (.none))
   (.none)))))) [0, 4, 21, 22, 23, 24, 25, 26])
 (.seq (.seq (.ops [la 27 5 (t 6),
 ca 28 F.msg_CheckMsg [(t 27)],
 o 29 (.ibin .neq (t 28) (k 0))] [27, 28])
 (.cond (t 29)
  (.seq (.ops [o 30 (.build [(i 0), (i 0), (i 0), (i 0), sn] []),
  st 5 (t 2) (t 30),
  mv 3 (k 2)] [30])
  (.ret))
  (.skip)))
 (.seq (.ops [la 31 5 (t 6),
 st 5 (t 2) (t 31),
 mv 3 (k 0)] [6, 31])
 (.ret)))))))
def r_msg_Get : List RRes := [.cell true 5 2, .tmp 3]
theorem fo_msg_Get {args : List Value} {M : Mem} {R : Value → Mem → Prop} (hn : args.length ≤ 32) (h : vfn Tryz.prog c_msg_Get r_msg_Get args M R) : CallsM Tryz.prog F.msg_Get args M R :=
  fn_ok (kf := k_msg_Get) Tryz.func74 (by kernel_rfl) (by kernel_rfl) hn (by kernel_rfl) h
/-- portage/snap.Check -/
def k_snap_Check (i : Nat) : List Nat := match i with | 0 => [0, 2] | 1 => [3, 5, 6, 7, 8, 9, 10] | 2 => [11] | 3 => [4, 13] | 4 => [1, 14, 15, 16] | _ => []
def c_snap_Check : RCode :=
 .seq (.ops [o 1 (.box 37 (t 0)),
 mv 2 (k 0)] [0, 2])
 (.seq (.seq (.ops [o 6 (.build [(i 0), (i 0), (i 0)] [(0, 1, (k 256)), (1, 1, (k 1048576)), (2, 1, (k 256))]),
 la 7 5 (t 1),
 ca 8 F.store_From [(t 6), (t 7)],
 mv 5 (t 8),
 ex 9 (t 5) 0,
 ex 10 (t 5) 1,
 mv 3 (t 9),
 mv 4 (t 10)] [3, 5, 6, 7, 8, 9, 10])
 (.seq (.ops [mv 11 (t 4),
 o 12 (.ibin .neq (t 11) (k 0))] [11])
 (.cond (t 12)
  (.seq (.ops [mv 13 (t 4),
  mv 2 (t 13)] [4, 13])
  (.ret))
  (.skip))))
 (.seq (.seq (.ops [fa 14 4 (t 1),
 l1 15 (t 14),
 o 16 (.len (t 15)),
 o 17 (.ibin .gtr (t 16) (k 65535))] [1, 14, 15, 16])
 (.cond (t 17)
  (.seq (.ops [mv 2 (k 6)] [])
  (.ret))
  (.skip)))
 (.seq (.ops [mv 2 (k 0)] [])
 (.ret))))
def r_snap_Check : List RRes := [.tmp 2]
theorem fo_snap_Check {args : List Value} {M : Mem} {R : Value → Mem → Prop} (hn : args.length ≤ 18) (h : vfn Tryz.prog c_snap_Check r_snap_Check args M R) : CallsM Tryz.prog F.snap_Check args M R :=
  fn_ok (kf := k_snap_Check) Tryz.func75 (by kernel_rfl) (by kernel_rfl) hn (by kernel_rfl) h
/-- portage/store.nexts -/
def k_store_nexts (i : Nat) : List Nat := match i with | 0 => [0, 2] | 2 => [6] | 4 => [11, 12] | 5 => [3, 13, 14, 15, 16, 17, 18, 19, 20, 21, 22, 23, 24, 25, 26, 27, 28, 29, 30, 31, 32, 33, 34, 35, 36, 37, 38, 39, 40, 41, 42, 43] | 7 => [5, 45, 46] | 8 => [47] | 9 => [1, 48, 49, 50] | _ => []
def c_store_nexts : RCode :=
 .seq (.ops [o 1 (.box 37 (t 0)),
 mv 2 (kb false)] [0, 2])
 (.seq (.ops [mv 3 (k (-1))] [])
 (.seq (.seq (.ops [fa 6 2 (t 1),
 l1 7 (t 6),
 o 8 (.len (t 7)),
 mv 9 (k 0)] [6])
 (.block 0 (.loop (.seq (.ops [o 10 (.ibin .lss (t 9) (t 8))] [])
  (.seq (.cond (t 10)
   (.skip)
   (.exit 0))
  (.seq (.block 1 (.seq (.ops [o 11 (.iaddr 2 (t 7) (t 9)),
  la 12 2 (t 11),
  o 5 (.alloc 143 [(i 0), (i 0)]),
  st 2 (t 5) (t 12)] [11, 12])
  (.seq (.seq (.ops [fa 13 0 (t 5),
  l1 14 (t 13),
  mv 15 (t 3),
  o 16 (.ibin .leq (t 14) (t 15)),
  os 17 (.mov (t 16)),
  gf 17 18 (.faddr 0 (t 5)),
  gf 17 19 (.load false 1 (t 18)),
  gf 17 20 (.call (fn F.store_in) [(t 19), (k 63)]),
  gf 17 21 (.not (t 20)),
  o 22 (.pick (t 17) (kb true) (t 21)),
  os 23 (.mov (t 22)),
  gf 23 24 (.faddr 0 (t 5)),
  gf 23 25 (.load false 1 (t 24)),
  gf 23 26 (.faddr 0 (t 1)),
  gf 23 27 (.load false 1 (t 26)),
  gf 23 28 (.ibin .eql (t 25) (t 27)),
  o 29 (.pick (t 23) (kb true) (t 28)),
  os 30 (.mov (t 29)),
  gf 30 31 (.faddr 1 (t 5)),
  gf 30 32 (.load false 1 (t 31)),
  gf 30 33 (.ibin .lss (t 32) (k 1)),
  o 34 (.pick (t 30) (kb true) (t 33)),
  os 35 (.mov (t 34)),
  gf 35 36 (.faddr 1 (t 5)),
  gf 35 37 (.load false 1 (t 36)),
  gf 35 38 (.ibin .gtr (t 37) (k 65535)),
  o 39 (.pick (t 35) (kb true) (t 38)),
  os 40 (.mov (t 39)),
  gf 40 41 (.faddr 1 (t 1)),
  gf 40 42 (.load false 1 (t 41)),
  gf 40 43 (.ibin .eql (t 42) (k 0)),
  o 44 (.pick (t 40) (kb true) (t 43))] [3, 13, 14, 15, 16, 17, 18, 19, 20, 21, 22, 23, 24, 25, 26, 27, 28, 29, 30, 31, 32, 33, 34, 35, 36, 37, 38, 39, 40, 41, 42, 43])
  (.cond (t 44)
   (.seq (.ops [mv 2 (kb false)] [])
   (.ret))
   (.skip)))
  (.ops [fa 45 0 (t 5),
  l1 46 (t 45),
  mv 3 (t 46)] [5, 45, 46]))))
  (.ops [ad 47 (t 9) (k 1),
  mv 9 (t 47)] [47])))))))
 (.seq (.ops [fa 48 1 (t 1),
 l1 49 (t 48),
 ca 50 F.store_in [(t 49), (k 65535)],
 mv 2 (t 50)] [1, 48, 49, 50])
 (.ret))))
def r_store_nexts : List RRes := [.tmp 2]
theorem fo_store_nexts {args : List Value} {M : Mem} {R : Value → Mem → Prop} (hn : args.length ≤ 51) (h : vfn Tryz.prog c_store_nexts r_store_nexts args M R) : CallsM Tryz.prog F.store_nexts args M R :=
  fn_ok (kf := k_store_nexts) Tryz.func76 (by kernel_rfl) (by kernel_rfl) hn (by kernel_rfl) h
/-- portage/seen.From -/
def k_seen_From (i : Nat) : List Nat := match i with | 0 => [4, 5] | 1 => [10, 11, 12, 13, 14] | 2 => [15] | 3 => [7, 17] | 6 => [22, 23, 24] | 7 => [8, 25, 26, 27, 28, 29, 30, 31, 32, 33, 34, 35, 36, 37, 38, 39, 40, 41, 42, 43, 44, 45, 46, 47, 48, 49, 50, 51, 52] | 9 => [9, 54, 55, 56, 57, 58, 59, 60, 61, 62, 63, 64, 65, 66, 67, 68, 69, 70] | 10 => [71] | 11 => [0, 72, 73, 74] | 13 => [6, 76] | _ => []
def c_seen_From : RCode :=
 .seq (.ops [mv 4 (.const (.pointer none)),
 mv 5 (k 0)] [4, 5])
 (.seq (.ops [mv 11 (t 0),
 ca 12 F.seen_New [(t 11)],
 mv 10 (t 12),
 ex 13 (t 10) 0,
 ex 14 (t 10) 1,
 mv 6 (t 13),
 mv 7 (t 14)] [10, 11, 12, 13, 14])
 (.seq (.seq (.ops [mv 15 (t 7),
 o 16 (.ibin .neq (t 15) (k 0))] [15])
 (.cond (t 16)
  (.seq (.ops [mv 17 (t 7),
  mv 4 (.const (.pointer none)),
  mv 5 (t 17)] [7, 17])
  (.ret))
  (.skip)))
 (.seq (.seq (.ops [mv 18 (t 1),
 o 19 (.len (t 18)),
 mv 20 (k 0)] [])
 (.block 0 (.loop (.seq (.ops [o 21 (.ibin .lss (t 20) (t 19))] [])
  (.seq (.cond (t 21)
   (.skip)
   (.exit 0))
  (.seq (.block 1 (.seq (.ops [mv 22 (t 20),
  o 23 (.iaddr 4 (t 18) (t 20)),
  la 24 4 (t 23),
  o 9 (.alloc 81 [(i 0), (i 0), (i 0), sn]),
  mv 8 (t 22),
  st 4 (t 9) (t 24)] [22, 23, 24])
  (.seq (.seq (.draw (.take (la 25 4 (t 9)) (.alt (ca 26 F.seen_right [(t 25)]) true
   (.take (o 27 (.not (t 26))) (.take (os 28 (.mov (t 27))) (.take (gf 28 29 (.mov (t 8))) (.take (gf 28 30 (.ibin .gtr (t 29) (k 0))) (.take (⟨(some 31), .mov (t 30), some (28, false), true⟩) (.take (gt 31 32 (.mov (t 1))) (.take (gt 31 33 (.mov (t 8))) (.take (gt 31 34 (.ibin .sub (t 33) (k 1))) (.take (gt 31 35 (.iaddr 4 (t 32) (t 34))) (.take (gt 31 36 (.faddr 0 (t 35))) (.take (gt 31 37 (.load false 1 (t 36))) (.take (gt 31 38 (.mov (t 1))) (.take (gt 31 39 (.mov (t 8))) (.take (gt 31 40 (.ibin .sub (t 39) (k 1))) (.take (gt 31 41 (.iaddr 4 (t 38) (t 40))) (.take (gt 31 42 (.faddr 1 (t 41))) (.take (gt 31 43 (.load false 1 (t 42))) (.take (gt 31 45 (.faddr 0 (t 9))) (.take (gt 31 46 (.load false 1 (t 45))) (.take (gt 31 47 (.faddr 1 (t 9))) (.take (gt 31 48 (.load false 1 (t 47))) (.alt (gt 31 44 (.mkSl false 3 2 [(i 0), (i 0)] [(0, 1, (t 37)), (1, 1, (t 43))])) false
    (.alt (gt 31 49 (.mkSl false 3 2 [(i 0), (i 0)] [(0, 1, (t 46)), (1, 1, (t 48))])) false
     (.alt (gt 31 50 (.call (fn F.slices_Compare_int_int) [(t 44), (t 49)])) false
      (.take (gt 31 51 (.ibin .geq (t 50) (k 0))) (.take (gf 28 52 (.pick (t 31) (t 51) (kb false))) (.take (o 53 (.pick (t 28) (kb true) (t 52))) (.done))))
      (.none))
     (.none))
    (.alt (gt 31 49 (.mkSl false 3 2 [(i 0), (i 0)] [(0, 1, (t 46)), (1, 1, (t 48))])) false
     (.alt (gt 31 44 (.mkSl false 3 2 [(i 0), (i 0)] [(0, 1, (t 37)), (1, 1, (t 43))])) false
      (.alt (gt 31 50 (.call (fn F.slices_Compare_int_int) [(t 44), (t 49)])) false
       (.take (gt 31 51 (.ibin .geq (t 50) (k 0))) (.take (gf 28 52 (.pick (t 31) (t 51) (kb false))) (.take (o 53 (.pick (t 28) (kb true) (t 52))) (.done))))
       (.none))
      (.none))
     (.none))))))))))))))))))))))))
   (.none))) [8, 25, 26, 27, 28, 29, 30, 31, 32, 33, 34, 35, 36, 37, 38, 39, 40, 41, 42, 43, 44, 45, 46, 47, 48, 49, 50, 51, 52])
  (.cond (t 53)
   (.seq (.ops [mv 4 (.const (.pointer none)),
   mv 5 (k 2)] [])
   (.ret))
   (.skip)))
  (.draw (.take (mv 54 (t 6)) (.take (o 55 (.nilck (t 54))) (.take (fa 56 1 (t 55)) (.take (l1 57 (t 56)) (.take (fa 58 0 (t 9)) (.take (l1 59 (t 58)) (.take (fa 60 1 (t 9)) (.take (l1 61 (t 60)) (.take (o 62 (.build [(i 0), (i 0)] [(0, 1, (t 59)), (1, 1, (t 61))])) (.take (fa 63 2 (t 9)) (.take (l1 64 (t 63)) (.take (fa 66 3 (t 9)) (.take (l1 67 (t 66)) (.alt (o 65 (.mkSl false 3 0 [] [])) false
   (.alt (o 68 (.app 3 1 8 [(i 0)] (t 65) (t 67))) true
    (.take (o 69 (.build [(i 0), sn] [(0, 1, (t 64)), (1, 1, (t 68))])) (.alt (o 70 (.box 181 (t 69))) false
     (.alt (e (.mset (.agg 2) (t 57) (t 62) (t 70))) false
      (.done)
      (.none))
     (.none)))
    (.none))
   (.none))))))))))))))) [9, 54, 55, 56, 57, 58, 59, 60, 61, 62, 63, 64, 65, 66, 67, 68, 69, 70]))))
  (.ops [ad 71 (t 20) (k 1),
  mv 20 (t 71)] [71])))))))
 (.seq (.seq (.ops [mv 72 (t 6),
 ca 73 F.seen_Set_Gaps [(t 72)],
 mv 74 (t 0),
 o 75 (.ibin .gtr (t 73) (t 74))] [0, 72, 73, 74])
 (.cond (t 75)
  (.seq (.ops [mv 4 (.const (.pointer none)),
  mv 5 (k 6)] [])
  (.ret))
  (.skip)))
 (.seq (.ops [mv 76 (t 6),
 mv 4 (t 76),
 mv 5 (k 0)] [6, 76])
 (.ret))))))
def r_seen_From : List RRes := [.tmp 4, .tmp 5]
theorem fo_seen_From {args : List Value} {M : Mem} {R : Value → Mem → Prop} (hn : args.length ≤ 77) (h : vfn Tryz.prog c_seen_From r_seen_From args M R) : CallsM Tryz.prog F.seen_From args M R :=
  fn_ok (kf := k_seen_From) Tryz.func77 (by kernel_rfl) (by kernel_rfl) hn (by kernel_rfl) h
/-- (*portage/wal.Log).open -/
def k_wal_Log_open (i : Nat) : List Nat := match i with | 0 => [0, 2, 3] | 1 => [13, 14, 15, 16, 17] | 2 => [18] | 3 => [4, 20] | 5 => [21, 22, 23, 24] | 6 => [25, 26, 27, 28, 29, 30, 31, 32, 33, 34] | 7 => [36, 37, 38, 39, 40, 41] | 8 => [43, 44] | 9 => [8, 45] | 10 => [46, 47, 48, 49] | 11 => [50, 51] | 12 => [52, 53, 54, 55, 56] | 13 => [9, 57, 58, 59] | 14 => [7, 60, 61, 62] | 15 => [10, 64, 65, 66, 67, 68, 69, 70, 71, 72, 73, 74] | 16 => [75] | 17 => [11, 77] | 18 => [6, 78, 79, 80] | 19 => [81, 82] | 20 => [1, 5, 12, 83, 84, 85, 86] | _ => []
def c_wal_Log_open : RCode :=
 .seq (.ops [o 1 (.box 103 (t 0)),
 mv 2 (.const sn),
 mv 3 (k 0)] [0, 2, 3])
 (.scope (.seq (.seq (.draw (.take (l1 13 (t 1)) (.take (l1 14 (t 1)) (.take (o 15 (.mkfn F.wal_Log_open_1 [(t 1)])) (.alt (ca 16 F.wal_Log_segments [(t 14), (t 15)]) true
  (.alt (ca 17 F.wal_Log_remove [(t 13), (t 16)]) false
   (.take (mv 4 (t 17)) (.done))
   (.none))
  (.none))))) [13, 14, 15, 16, 17])
 (.seq (.ops [mv 18 (t 4),
 o 19 (.ibin .neq (t 18) (k 0))] [18])
 (.cond (t 19)
  (.seq (.ops [mv 20 (t 4),
  mv 2 (.const sn),
  mv 3 (t 20)] [4, 20])
  (.ret))
  (.skip))))
 (.seq (.ops [mv 5 (.const sn)] [])
 (.seq (.ops [l1 21 (t 1),
 o 22 (.nilck (t 21)),
 fa 23 1 (t 22),
 l1 24 (t 23),
 o 6 (.alloc 3 [(i 0)]),
 st 1 (t 6) (t 24)] [21, 22, 23, 24])
 (.seq (.skip)
 (.seq (.block 0 (.loop (.block 1 (.seq (.draw (.take (l1 26 (t 1)) (.take (o 27 (.nilck (t 26))) (.take (fa 28 0 (t 27)) (.take (l1 29 (t 28)) (.take (l1 30 (t 6)) (.alt (ca 31 F.wal_Name [(t 30)]) true
   (.alt (ca 32 F.disk_Disk_Read [(t 29), (t 31)]) false
    (.take (mv 25 (t 32)) (.take (ex 33 (t 25) 0) (.take (ex 34 (t 25) 1) (.take (mv 7 (t 33)) (.take (mv 8 (t 34)) (.done))))))
    (.none))
   (.none))))))) [25, 26, 27, 28, 29, 30, 31, 32, 33, 34])
  (.seq (.block 2 (.seq (.ops [l1 36 (t 6),
  o 37 (.ibin .gtr (t 36) (k 99999)),
  os 38 (.mov (t 37)),
  gf 38 39 (.mov (t 8)),
  gf 38 40 (.ibin .eql (t 39) (k 4)),
  o 41 (.pick (t 38) (kb true) (t 40)),
  mv 35 (t 41)] [36, 37, 38, 39, 40, 41])
  (.cond (t 35)
   (.exit 0)
   (.seq (.ops [mv 43 (t 8),
   o 44 (.ibin .neq (t 43) (k 0)),
   mv 42 (t 44)] [43, 44])
   (.cond (t 42)
    (.seq (.ops [mv 45 (t 8),
    mv 2 (.const sn),
    mv 3 (t 45)] [8, 45])
    (.ret))
    (.skip))))))
  (.seq (.ops [l1 46 (t 1),
  l1 47 (t 6),
  o 48 (.nilck (t 46)),
  fa 49 2 (t 48),
  st 1 (t 49) (t 47)] [46, 47, 48, 49])
  (.seq (.ops [l1 50 (t 6),
  ad 51 (t 50) (k 1),
  st 1 (t 6) (t 51)] [50, 51])
  (.seq (.ops [mv 53 (t 7),
  ca 54 F.record_Scan [(t 53)],
  mv 52 (t 54),
  ex 55 (t 52) 0,
  ex 56 (t 52) 1,
  mv 9 (t 55),
  mv 10 (t 56)] [52, 53, 54, 55, 56])
  (.seq (.ops [mv 57 (t 5),
  mv 58 (t 9),
  o 59 (.app 44 1 24 [sn] (t 57) (t 58)),
  mv 5 (t 59)] [9, 57, 58, 59])
  (.seq (.ops [mv 60 (t 10),
  mv 61 (t 7),
  o 62 (.len (t 61)),
  o 63 (.ibin .lss (t 60) (t 62))] [7, 60, 61, 62])
  (.cond (t 63)
   (.seq (.seq (.draw (.take (l1 64 (t 1)) (.take (o 65 (.nilck (t 64))) (.take (fa 66 0 (t 65)) (.take (l1 67 (t 66)) (.take (l1 68 (t 1)) (.take (o 69 (.nilck (t 68))) (.take (fa 70 2 (t 69)) (.take (l1 71 (t 70)) (.take (mv 73 (t 10)) (.alt (ca 72 F.wal_Name [(t 71)]) true
    (.alt (ca 74 F.disk_Disk_Cut [(t 67), (t 72), (t 73)]) false
     (.take (mv 11 (t 74)) (.done))
     (.none))
    (.none))))))))))) [10, 64, 65, 66, 67, 68, 69, 70, 71, 72, 73, 74])
   (.seq (.ops [mv 75 (t 11),
   o 76 (.ibin .neq (t 75) (k 0))] [75])
   (.cond (t 76)
    (.seq (.ops [mv 77 (t 11),
    mv 2 (.const sn),
    mv 3 (t 77)] [11, 77])
    (.ret))
    (.skip))))
   (.exit 0))
   (.skip))))))))))))
 (.seq (.ops [l1 78 (t 1),
 o 79 (.mkfn F.wal_Log_open_2 [(t 6)]),
 ca 80 F.wal_Log_segments [(t 78), (t 79)],
 mv 12 (t 80)] [6, 78, 79, 80])
 (.seq (.ops [mv 81 (t 12),
 ca 82 F.slices_Reverse_int_int [(t 81)]] [81, 82])
 (.seq (.ops [mv 83 (t 5),
 l1 84 (t 1),
 mv 85 (t 12),
 ca 86 F.wal_Log_remove [(t 84), (t 85)],
 mv 2 (t 83),
 mv 3 (t 86)] [1, 5, 12, 83, 84, 85, 86])
 (.ret))))))))))
def r_wal_Log_open : List RRes := [.tmp 2, .tmp 3]
theorem fo_wal_Log_open {args : List Value} {M : Mem} {R : Value → Mem → Prop} (hn : args.length ≤ 87) (h : vfn Tryz.prog c_wal_Log_open r_wal_Log_open args M R) : CallsM Tryz.prog F.wal_Log_open args M R :=
  fn_ok (kf := k_wal_Log_open) Tryz.func78 (by kernel_rfl) (by kernel_rfl) hn (by kernel_rfl) h
/-- portage/msg.GetId -/
def k_msg_GetId (i : Nat) : List Nat := match i with | 0 => [3] | 1 => [9, 10] | 2 => [12] | 3 => [5, 13, 14, 15, 16, 17] | 4 => [7, 18, 19, 20, 21, 22] | 5 => [0, 4, 6, 23, 24, 25, 26, 27, 28, 29, 30, 31, 32, 33, 34, 35] | 6 => [36, 37] | 7 => [39] | 8 => [8, 40] | _ => []
def c_msg_GetId : RCode :=
 .seq (.ops [o 2 (.alloc 42 [(i 0), (i 0), (i 0), (i 0)]),
 mv 3 (k 0)] [3])
 (.seq (.seq (.ops [mv 9 (t 0),
 o 10 (.len (t 9)),
 o 11 (.ibin .neq (t 10) (k 6))] [9, 10])
 (.cond (t 11)
  (.seq (.ops [o 12 (.build [(i 0), (i 0), (i 0), (i 0)] []),
  st 4 (t 2) (t 12),
  mv 3 (k 2)] [12])
  (.ret))
  (.skip)))
 (.seq (.ops [mv 14 (t 0),
 ca 15 F.bits_Get [(t 14), (k 2), (k 2)],
 mv 13 (t 15),
 ex 16 (t 13) 0,
 ex 17 (t 13) 1,
 mv 4 (t 16),
 mv 5 (t 17)] [5, 13, 14, 15, 16, 17])
 (.seq (.ops [mv 19 (t 0),
 ca 20 F.bits_Get [(t 19), (k 4), (k 2)],
 mv 18 (t 20),
 ex 21 (t 18) 0,
 ex 22 (t 18) 1,
 mv 6 (t 21),
 mv 7 (t 22)] [7, 18, 19, 20, 21, 22])
 (.seq (.draw (.take (mv 23 (t 0)) (.take (o 24 (.iaddr 1 (t 23) (k 0))) (.take (l1 25 (t 24)) (.take (o 26 (.conv .i64 (t 25))) (.take (mv 27 (t 0)) (.take (o 28 (.iaddr 1 (t 27) (k 1))) (.take (l1 29 (t 28)) (.take (o 30 (.conv .i64 (t 29))) (.take (mv 31 (t 4)) (.take (o 32 (.conv .i64 (t 31))) (.take (mv 33 (t 6)) (.take (o 34 (.conv .i64 (t 33))) (.take (o 35 (.build [(i 0), (i 0), (i 0), (i 0)] [(0, 1, (t 26)), (1, 1, (t 30)), (2, 1, (t 32)), (3, 1, (t 34))])) (.alt (o 8 (.alloc 42 [(i 0), (i 0), (i 0), (i 0)])) false
  (.alt (st 4 (t 8) (t 35)) false
   (.done)
   (.none))
  (.none))))))))))))))) [0, 4, 6, 23, 24, 25, 26, 27, 28, 29, 30, 31, 32, 33, 34, 35])
 (.seq (.seq (.ops [la 36 4 (t 8),
 ca 37 F.msg_Check [(t 36)],
 o 38 (.ibin .neq (t 37) (k 0))] [36, 37])
 (.cond (t 38)
  (.seq (.ops [o 39 (.build [(i 0), (i 0), (i 0), (i 0)] []),
  st 4 (t 2) (t 39),
  mv 3 (k 2)] [39])
  (.ret))
  (.skip)))
 (.seq (.ops [la 40 4 (t 8),
 st 4 (t 2) (t 40),
 mv 3 (k 0)] [8, 40])
 (.ret)))))))
def r_msg_GetId : List RRes := [.cell true 4 2, .tmp 3]
theorem fo_msg_GetId {args : List Value} {M : Mem} {R : Value → Mem → Prop} (hn : args.length ≤ 41) (h : vfn Tryz.prog c_msg_GetId r_msg_GetId args M R) : CallsM Tryz.prog F.msg_GetId args M R :=
  fn_ok (kf := k_msg_GetId) Tryz.func79 (by kernel_rfl) (by kernel_rfl) hn (by kernel_rfl) h
/-- (*portage/store.Store).May -/
def k_store_Store_May (i : Nat) : List Nat := match i with | 0 => [1, 4] | 1 => [9] | 3 => [11, 12] | 4 => [13] | 5 => [5, 15] | 6 => [16, 17, 18] | 7 => [7, 19, 20, 21, 22, 23, 24, 25, 26, 27] | 8 => [29, 30, 31, 32, 33, 34, 35, 36, 37, 38] | 10 => [40, 41, 42, 43, 44, 45, 46, 47, 48, 49, 50, 51, 52, 53, 54, 55, 56, 57, 58, 59, 60, 61, 62, 63, 64, 65, 66, 67, 68, 69] | 11 => [70, 71, 72, 73, 74, 75, 76, 77, 78, 79, 80, 81] | 13 => [83, 84, 85, 86, 87, 88] | 15 => [90, 91, 92, 93, 94, 95, 96, 97, 98, 99, 100, 101, 102, 103, 104, 105, 106, 107, 108, 109, 110, 111, 112, 113, 114, 115, 116, 117, 118, 119, 120, 121, 122] | 17 => [8, 124, 125, 126, 127, 128, 129, 130] | 19 => [3, 132, 133, 134] | 20 => [0, 6, 135, 136, 137, 138, 139, 140] | _ => []
def c_store_Store_May : RCode :=
 .seq (.ops [o 3 (.box 135 (t 1)),
 mv 4 (k 0)] [1, 4])
 (.seq (.seq (.ops [mv 9 (t 0),
 o 10 (.pnil .eql (t 9) (.const (.pointer none)))] [9])
 (.cond (t 10)
  (.seq (.ops [mv 4 (k 7)] [])
  (.ret))
  (.skip)))
 (.seq (.seq (.ops [la 11 6 (t 3),
 ca 12 F.store_form [(t 11)],
 mv 5 (t 12)] [11, 12])
 (.seq (.ops [mv 13 (t 5),
 o 14 (.ibin .neq (t 13) (k 0))] [13])
 (.cond (t 14)
  (.seq (.ops [mv 15 (t 5),
  mv 4 (t 15)] [5, 15])
  (.ret))
  (.skip))))
 (.seq (.ops [fa 16 1 (t 3),
 fa 17 0 (t 16),
 la 18 4 (t 17),
 o 6 (.alloc 42 [(i 0), (i 0), (i 0), (i 0)]),
 st 4 (t 6) (t 18)] [16, 17, 18])
 (.seq (.draw (.take (mv 20 (t 0)) (.take (o 21 (.nilck (t 20))) (.take (fa 22 69 (t 21)) (.take (l1 23 (t 22)) (.take (la 24 4 (t 6)) (.take (o 25 (.mget (.agg 4) true (.agg #[(i 0), (i 0), (i 0), (i 0), sn, (i 0)]) (t 23) (t 24))) (.take (mv 19 (t 25)) (.take (ex 26 (t 19) 0) (.take (ex 27 (t 19) 1) (.alt (o 7 (.alloc 171 [(i 0), (i 0), (i 0), (i 0), sn, (i 0)])) false
  (.alt (st 6 (t 7) (t 26)) false
   (.take (mv 8 (t 27)) (.done))
   (.none))
  (.none))))))))))) [7, 19, 20, 21, 22, 23, 24, 25, 26, 27])
 (.seq (.block 0 (.seq (.ops [fa 29 0 (t 3),
 l1 30 (t 29),
 o 31 (.ibin .eql (t 30) (k 1)),
 os 32 (.mov (t 31)),
 gt 32 33 (.mov (t 0)),
 gt 32 34 (.nilck (t 33)),
 gt 32 35 (.faddr 4 (t 34)),
 gt 32 36 (.load false 1 (t 35)),
 gt 32 37 (.ibin .eql (t 36) (k 65535)),
 o 38 (.pick (t 32) (t 37) (kb false)),
 mv 28 (t 38)] [29, 30, 31, 32, 33, 34, 35, 36, 37, 38])
 (.cond (t 28)
  (.seq (.ops [mv 4 (k 10)] [])
  (.ret))
  (.seq (.seq (.draw (.take (fa 40 0 (t 3)) (.take (l1 41 (t 40)) (.take (o 42 (.ibin .eql (t 41) (k 2))) (.take (os 43 (.mov (t 42))) (.take (gt 43 44 (.faddr 1 (t 6))) (.take (gt 43 45 (.load false 1 (t 44))) (.take (gt 43 46 (.mov (t 0))) (.take (gt 43 47 (.nilck (t 46))) (.take (gt 43 48 (.faddr 0 (t 47))) (.take (gt 43 49 (.load false 1 (t 48))) (.take (gt 43 50 (.ibin .eql (t 45) (t 49))) (.take (⟨(some 51), .mov (t 50), some (43, true), true⟩) (.take (gf 51 52 (.faddr 0 (t 6))) (.take (gf 51 53 (.load false 1 (t 52))) (.take (gf 51 54 (.mov (t 0))) (.take (gf 51 55 (.nilck (t 54))) (.take (gf 51 56 (.faddr 0 (t 55))) (.take (gf 51 57 (.load false 1 (t 56))) (.take (gf 51 58 (.ibin .eql (t 53) (t 57))) (.take (⟨(some 59), .mov (t 58), some (51, false), true⟩) (.take (gt 59 60 (.faddr 2 (t 6))) (.take (gt 59 61 (.load false 1 (t 60))) (.take (gt 59 62 (.mov (t 0))) (.take (gt 59 63 (.nilck (t 62))) (.take (gt 59 64 (.faddr 4 (t 63))) (.take (gt 59 65 (.load false 1 (t 64))) (.take (gt 59 66 (.ibin .gtr (t 61) (t 65))) (.take (gf 51 67 (.pick (t 59) (t 66) (kb false))) (.take (gt 43 68 (.pick (t 51) (kb true) (t 67))) (.take (o 69 (.pick (t 43) (t 68) (kb false))) (.take (mv 39 (t 69)) (.done)))))))))))))))))))))))))))))))) [40, 41, 42, 43, 44, 45, 46, 47, 48, 49, 50, 51, 52, 53, 54, 55, 56, 57, 58, 59, 60, 61, 62, 63, 64, 65, 66, 67, 68, 69])
  (.cond (t 39)
   (.skip)
   (.draw (.take (fa 70 0 (t 3)) (.take (l1 71 (t 70)) (.take (o 72 (.ibin .eql (t 71) (k 4))) (.take (os 73 (.mov (t 72))) (.take (gt 73 74 (.faddr 1 (t 6))) (.take (gt 73 75 (.load false 1 (t 74))) (.take (gt 73 76 (.mov (t 0))) (.take (gt 73 77 (.nilck (t 76))) (.take (gt 73 78 (.faddr 0 (t 77))) (.take (gt 73 79 (.load false 1 (t 78))) (.take (gt 73 80 (.ibin .neq (t 75) (t 79))) (.take (o 81 (.pick (t 73) (t 80) (kb false))) (.take (mv 39 (t 81)) (.done)))))))))))))) [70, 71, 72, 73, 74, 75, 76, 77, 78, 79, 80, 81])))
  (.cond (t 39)
   (.seq (.ops [mv 4 (k 2)] [])
   (.ret))
   (.seq (.ops [fa 83 0 (t 3),
   l1 84 (t 83),
   o 85 (.ibin .eql (t 84) (k 2)),
   os 86 (.mov (t 85)),
   gt 86 87 (.mov (t 8)),
   o 88 (.pick (t 86) (t 87) (kb false)),
   mv 82 (t 88)] [83, 84, 85, 86, 87, 88])
   (.cond (t 82)
    (.seq (.ops [mv 4 (k 5)] [])
    (.ret))
    (.seq (.draw (.take (fa 90 0 (t 3)) (.take (l1 91 (t 90)) (.take (o 92 (.ibin .eql (t 91) (k 2))) (.take (os 93 (.mov (t 92))) (.take (gt 93 94 (.mov (t 0))) (.take (gt 93 95 (.nilck (t 94))) (.take (gt 93 96 (.faddr 69 (t 95))) (.take (gt 93 97 (.load false 1 (t 96))) (.take (gt 93 98 (.mlen (t 97))) (.take (gt 93 99 (.mov (t 0))) (.take (gt 93 100 (.nilck (t 99))) (.take (gt 93 101 (.faddr 1 (t 100))) (.take (gt 93 102 (.faddr 0 (t 101))) (.take (gt 93 103 (.load false 1 (t 102))) (.take (gt 93 104 (.ibin .geq (t 98) (t 103))) (.take (⟨(some 105), .mov (t 104), some (93, true), true⟩) (.take (gf 105 106 (.faddr 1 (t 3))) (.take (gf 105 107 (.faddr 4 (t 106))) (.take (gf 105 108 (.load false 1 (t 107))) (.take (gf 105 109 (.len (t 108))) (.take (gf 105 110 (.mov (t 0))) (.take (gf 105 111 (.nilck (t 110))) (.take (gf 105 112 (.faddr 1 (t 111))) (.take (gf 105 113 (.faddr 1 (t 112))) (.take (gf 105 114 (.load false 1 (t 113))) (.take (gf 105 115 (.mov (t 0))) (.take (gf 105 116 (.nilck (t 115))) (.take (gf 105 117 (.faddr 71 (t 116))) (.take (gf 105 118 (.load false 1 (t 117))) (.take (gf 105 119 (.ibin .sub (t 114) (t 118))) (.take (gf 105 120 (.ibin .gtr (t 109) (t 119))) (.take (gt 93 121 (.pick (t 105) (kb true) (t 120))) (.take (o 122 (.pick (t 93) (t 121) (kb false))) (.take (mv 89 (t 122)) (.done))))))))))))))))))))))))))))))))))) [90, 91, 92, 93, 94, 95, 96, 97, 98, 99, 100, 101, 102, 103, 104, 105, 106, 107, 108, 109, 110, 111, 112, 113, 114, 115, 116, 117, 118, 119, 120, 121, 122])
    (.cond (t 89)
     (.seq (.ops [mv 4 (k 6)] [])
     (.ret))
     (.seq (.ops [fa 124 0 (t 3),
     l1 125 (t 124),
     o 126 (.ibin .eql (t 125) (k 3)),
     os 127 (.mov (t 126)),
     gt 127 128 (.mov (t 8)),
     gt 127 129 (.not (t 128)),
     o 130 (.pick (t 127) (t 129) (kb false)),
     mv 123 (t 130)] [8, 124, 125, 126, 127, 128, 129, 130])
     (.cond (t 123)
      (.seq (.ops [mv 4 (k 4)] [])
      (.ret))
      (.seq (.ops [fa 132 0 (t 3),
      l1 133 (t 132),
      o 134 (.ibin .eql (t 133) (k 4)),
      mv 131 (t 134)] [3, 132, 133, 134])
      (.cond (t 131)
       (.seq (.draw (.take (mv 135 (t 0)) (.take (o 136 (.nilck (t 135))) (.take (fa 137 72 (t 136)) (.take (l1 138 (t 137)) (.take (la 139 4 (t 6)) (.alt (ca 140 F.seen_Set_May [(t 138), (t 139)]) false
        (.take (mv 4 (t 140)) (.done))
        (.none))))))) [0, 6, 135, 136, 137, 138, 139, 140])
       (.ret))
       (.skip))))))))))))))
 (.seq (.ops [mv 4 (k 0)] [])
 (.ret)))))))
def r_store_Store_May : List RRes := [.tmp 4]
theorem fo_store_Store_May {args : List Value} {M : Mem} {R : Value → Mem → Prop} (hn : args.length ≤ 141) (h : vfn Tryz.prog c_store_Store_May r_store_Store_May args M R) : CallsM Tryz.prog F.store_Store_May args M R :=
  fn_ok (kf := k_store_Store_May) Tryz.func80 (by kernel_rfl) (by kernel_rfl) hn (by kernel_rfl) h
/-- (*portage/seen.Set).Add -/
def k_seen_Set_Add (i : Nat) : List Nat := match i with | 0 => [1, 4] | 1 => [9, 10, 11] | 2 => [12] | 3 => [5, 14] | 4 => [15, 16, 17] | 5 => [0, 18, 19, 20, 21, 22, 23, 24, 25, 26, 27] | 6 => [8, 28, 29, 30, 31, 32, 33, 34, 35, 36, 37] | 7 => [3, 7, 38, 39, 40, 41, 42, 43, 44, 45, 46, 47, 48, 49] | 8 => [50, 51, 52, 53, 54, 55, 56, 57, 58, 59, 60, 61, 62, 63, 64, 65, 66, 67, 68] | 9 => [70, 71, 72, 73, 74, 75, 76] | 10 => [77, 78, 79, 80, 81, 82, 83, 84, 85, 86, 87, 88, 89, 90, 91, 92, 93, 94] | _ => []
def c_seen_Set_Add : RCode :=
 .seq (.ops [o 3 (.box 42 (t 1)),
 mv 4 (k 0)] [1, 4])
 (.seq (.seq (.ops [mv 9 (t 0),
 la 10 4 (t 3),
 ca 11 F.seen_Set_May [(t 9), (t 10)],
 mv 5 (t 11)] [9, 10, 11])
 (.seq (.ops [mv 12 (t 5),
 o 13 (.ibin .neq (t 12) (k 0))] [12])
 (.cond (t 13)
  (.seq (.ops [mv 14 (t 5),
  mv 4 (t 14)] [5, 14])
  (.ret))
  (.skip))))
 (.seq (.ops [mv 15 (t 0),
 la 16 4 (t 3),
 ca 17 F.seen_Set_of [(t 15), (t 16)],
 mv 6 (t 17)] [15, 16, 17])
 (.seq (.draw (.take (mv 18 (t 0)) (.take (o 19 (.nilck (t 18))) (.take (fa 20 1 (t 19)) (.take (l1 21 (t 20)) (.take (fa 22 0 (t 3)) (.take (l1 23 (t 22)) (.take (fa 24 2 (t 3)) (.take (l1 25 (t 24)) (.take (o 26 (.build [(i 0), (i 0)] [(0, 1, (t 23)), (1, 1, (t 25))])) (.take (mv 27 (t 6)) (.alt (e (.mset (.agg 2) (t 21) (t 26) (t 27))) false
  (.done)
  (.none)))))))))))) [0, 18, 19, 20, 21, 22, 23, 24, 25, 26, 27])
 (.seq (.draw (.take (mv 29 (t 6)) (.take (o 30 (.nilck (t 29))) (.take (fa 31 1 (t 30)) (.take (l1 32 (t 31)) (.take (fa 33 3 (t 3)) (.take (l1 34 (t 33)) (.alt (ca 35 F.slices_BinarySearch_int_int [(t 32), (t 34)]) false
  (.take (mv 28 (t 35)) (.take (ex 36 (t 28) 0) (.take (ex 37 (t 28) 1) (.take (mv 7 (t 36)) (.take (mv 8 (t 37)) (.done))))))
  (.none)))))))) [8, 28, 29, 30, 31, 32, 33, 34, 35, 36, 37])
 (.seq (.draw (.take (mv 38 (t 6)) (.take (mv 39 (t 6)) (.take (o 40 (.nilck (t 39))) (.take (fa 41 1 (t 40)) (.take (l1 42 (t 41)) (.take (mv 43 (t 7)) (.take (fa 44 3 (t 3)) (.take (l1 45 (t 44)) (.alt (o 46 (.mkSl false 3 1 [(i 0)] [(0, 1, (t 45))])) false
  (.alt (ca 47 F.slices_Insert_int_int [(t 42), (t 43), (t 46)]) false
   (.take (o 48 (.nilck (t 38))) (.take (fa 49 1 (t 48)) (.alt (st 1 (t 49) (t 47)) false
    (.done)
    (.none))))
   (.none))
  (.none)))))))))) [3, 7, 38, 39, 40, 41, 42, 43, 44, 45, 46, 47, 48, 49])
 (.seq (.block 0 (.loop (.seq (.seq (.draw (.take (mv 50 (t 6)) (.take (o 51 (.nilck (t 50))) (.take (fa 52 1 (t 51)) (.take (l1 53 (t 52)) (.take (o 54 (.len (t 53))) (.take (o 55 (.ibin .gtr (t 54) (k 0))) (.take (os 56 (.mov (t 55))) (.take (gt 56 57 (.mov (t 6))) (.take (gt 56 58 (.nilck (t 57))) (.take (gt 56 59 (.faddr 1 (t 58))) (.take (gt 56 60 (.load false 1 (t 59))) (.take (gt 56 61 (.iaddr 1 (t 60) (k 0))) (.take (gt 56 62 (.load false 1 (t 61))) (.take (gt 56 63 (.mov (t 6))) (.take (gt 56 64 (.nilck (t 63))) (.take (gt 56 65 (.faddr 0 (t 64))) (.take (gt 56 66 (.load false 1 (t 65))) (.take (gt 56 67 (.ibin .add (t 66) (k 1))) (.take (gt 56 68 (.ibin .eql (t 62) (t 67))) (.take (o 69 (.pick (t 56) (t 68) (kb false))) (.done))))))))))))))))))))) [50, 51, 52, 53, 54, 55, 56, 57, 58, 59, 60, 61, 62, 63, 64, 65, 66, 67, 68])
  (.cond (t 69)
   (.skip)
   (.exit 0)))
  (.block 1 (.seq (.ops [mv 70 (t 6),
  o 71 (.nilck (t 70)),
  fa 72 0 (t 71),
  l1 73 (t 72),
  ad 74 (t 73) (k 1),
  o 75 (.nilck (t 70)),
  fa 76 0 (t 75),
  st 1 (t 76) (t 74)] [70, 71, 72, 73, 74, 75, 76])
  (.draw (.take (mv 77 (t 6)) (.take (mv 78 (t 6)) (.take (o 79 (.nilck (t 78))) (.take (fa 80 1 (t 79)) (.take (l1 81 (t 80)) (.take (mv 82 (t 6)) (.take (o 83 (.nilck (t 82))) (.take (fa 84 1 (t 83)) (.take (l1 85 (t 84)) (.take (o 86 (.len (t 85))) (.take (mv 87 (t 6)) (.take (o 88 (.nilck (t 87))) (.take (fa 89 1 (t 88)) (.take (l1 90 (t 89)) (.take (o 91 (.len (t 90))) (.take (o 92 (.slx3 1 (t 81) (k 1) (t 86) (t 91))) (.take (o 93 (.nilck (t 77))) (.take (fa 94 1 (t 93)) (.alt (st 1 (t 94) (t 92)) false
   (.done)
   (.none)))))))))))))))))))) [77, 78, 79, 80, 81, 82, 83, 84, 85, 86, 87, 88, 89, 90, 91, 92, 93, 94]))))))
 (.seq (.ops [mv 4 (k 0)] [])
 (.ret))))))))
def r_seen_Set_Add : List RRes := [.tmp 4]
theorem fo_seen_Set_Add {args : List Value} {M : Mem} {R : Value → Mem → Prop} (hn : args.length ≤ 95) (h : vfn Tryz.prog c_seen_Set_Add r_seen_Set_Add args M R) : CallsM Tryz.prog F.seen_Set_Add args M R :=
  fn_ok (kf := k_seen_Set_Add) Tryz.func81 (by kernel_rfl) (by kernel_rfl) hn (by kernel_rfl) h
/-- (*portage/custody.Custody).ready -/
def k_custody_Custody_ready (i : Nat) : List Nat := match i with | 0 => [2] | 1 => [0, 3, 4, 5, 6, 7, 8, 9] | _ => []
def c_custody_Custody_ready : RCode :=
 .seq (.ops [mv 2 (k 0)] [2])
 (.seq (.seq (.ops [mv 3 (t 0),
 o 4 (.pnil .eql (t 3) (.const (.pointer none))),
 os 5 (.mov (t 4)),
 gf 5 6 (.mov (t 0)),
 gf 5 7 (.nilck (t 6)),
 gf 5 8 (.faddr 4 (t 7)),
 gf 5 9 (.load false 1 (t 8)),
 o 10 (.pick (t 5) (kb true) (t 9))] [0, 3, 4, 5, 6, 7, 8, 9])
 (.cond (t 10)
  (.seq (.ops [mv 2 (k 7)] [])
  (.ret))
  (.skip)))
 (.seq (.ops [mv 2 (k 0)] [])
 (.ret)))
def r_custody_Custody_ready : List RRes := [.tmp 2]
theorem fo_custody_Custody_ready {args : List Value} {M : Mem} {R : Value → Mem → Prop} (hn : args.length ≤ 11) (h : vfn Tryz.prog c_custody_Custody_ready r_custody_Custody_ready args M R) : CallsM Tryz.prog F.custody_Custody_ready args M R :=
  fn_ok (kf := k_custody_Custody_ready) Tryz.func82 (by kernel_rfl) (by kernel_rfl) hn (by kernel_rfl) h
/-- portage/store.PutEv -/
def k_store_PutEv (i : Nat) : List Nat := match i with | 0 => [0, 2, 3] | 1 => [6, 7] | 2 => [8] | 3 => [4, 10] | 5 => [11] | 6 => [14] | 7 => [15, 16, 17, 18, 19, 20] | 8 => [22] | 9 => [12, 23] | 10 => [24, 25, 26, 27, 28, 29, 30] | 11 => [1, 5, 31, 32, 33, 34, 35, 36] | _ => []
def c_store_PutEv : RCode :=
 .seq (.ops [o 1 (.box 135 (t 0)),
 mv 2 (.const sn),
 mv 3 (k 0)] [0, 2, 3])
 (.seq (.seq (.ops [la 6 6 (t 1),
 ca 7 F.store_form [(t 6)],
 mv 4 (t 7)] [6, 7])
 (.seq (.ops [mv 8 (t 4),
 o 9 (.ibin .neq (t 8) (k 0))] [8])
 (.cond (t 9)
  (.seq (.ops [mv 10 (t 4),
  mv 2 (.const sn),
  mv 3 (t 10)] [4, 10])
  (.ret))
  (.skip))))
 (.seq (.ops [mv 5 (.const sn)] [])
 (.seq (.seq (.ops [fa 11 0 (t 1),
 l1 12 (t 11)] [11])
 (.block 0 (.seq (.ops [o 14 (.ibin .eql (t 12) (k 2)),
 mv 13 (t 14)] [14])
 (.cond (t 13)
  (.ops [fa 16 1 (t 1),
  la 17 5 (t 16),
  ca 18 F.msg_Put [(t 17)],
  mv 15 (t 18),
  ex 19 (t 15) 0,
  ex 20 (t 15) 1,
  mv 5 (t 19)] [15, 16, 17, 18, 19, 20])
  (.seq (.seq (.ops [o 22 (.ibin .eql (t 12) (k 3)),
  mv 21 (t 22)] [22])
  (.cond (t 21)
   (.skip)
   (.ops [o 23 (.ibin .eql (t 12) (k 4)),
   mv 21 (t 23)] [12, 23])))
  (.cond (t 21)
   (.ops [fa 25 1 (t 1),
   fa 26 0 (t 25),
   la 27 4 (t 26),
   ca 28 F.msg_PutId [(t 27)],
   mv 24 (t 28),
   ex 29 (t 24) 0,
   ex 30 (t 24) 1,
   mv 5 (t 29)] [24, 25, 26, 27, 28, 29, 30])
   (.skip)))))))
 (.seq (.ops [fa 31 0 (t 1),
 l1 32 (t 31),
 o 33 (.conv .u8 (t 32)),
 o 34 (.mkSl false 5 1 [(u 0)] [(0, 1, (t 33))]),
 mv 35 (t 5),
 o 36 (.app 5 1 1 [(u 0)] (t 34) (t 35)),
 mv 2 (t 36),
 mv 3 (k 0)] [1, 5, 31, 32, 33, 34, 35, 36])
 (.ret)))))
def r_store_PutEv : List RRes := [.tmp 2, .tmp 3]
theorem fo_store_PutEv {args : List Value} {M : Mem} {R : Value → Mem → Prop} (hn : args.length ≤ 37) (h : vfn Tryz.prog c_store_PutEv r_store_PutEv args M R) : CallsM Tryz.prog F.store_PutEv args M R :=
  fn_ok (kf := k_store_PutEv) Tryz.func83 (by kernel_rfl) (by kernel_rfl) hn (by kernel_rfl) h
/-- (*portage/custody.Custody).told -/
def k_custody_Custody_told (i : Nat) : List Nat := match i with | 0 => [4] | 1 => [0, 5, 6, 7, 8, 9, 10, 11, 12, 13, 14, 15] | 2 => [1, 16] | _ => []
def c_custody_Custody_told : RCode :=
 .seq (.ops [mv 4 (k 0)] [4])
 (.seq (.ops [mv 5 (t 0),
 mv 6 (t 0),
 o 7 (.nilck (t 6)),
 fa 8 4 (t 7),
 l1 9 (t 8),
 os 10 (.mov (t 9)),
 gf 10 11 (.mov (t 1)),
 gf 10 12 (.ibin .eql (t 11) (k 9)),
 o 13 (.pick (t 10) (kb true) (t 12)),
 o 14 (.nilck (t 5)),
 fa 15 4 (t 14),
 st 1 (t 15) (t 13)] [0, 5, 6, 7, 8, 9, 10, 11, 12, 13, 14, 15])
 (.seq (.ops [mv 16 (t 1),
 mv 4 (t 16)] [1, 16])
 (.ret)))
def r_custody_Custody_told : List RRes := [.tmp 4]
theorem fo_custody_Custody_told {args : List Value} {M : Mem} {R : Value → Mem → Prop} (hn : args.length ≤ 17) (h : vfn Tryz.prog c_custody_Custody_told r_custody_Custody_told args M R) : CallsM Tryz.prog F.custody_Custody_told args M R :=
  fn_ok (kf := k_custody_Custody_told) Tryz.func84 (by kernel_rfl) (by kernel_rfl) hn (by kernel_rfl) h
/-- (*portage/wal.Log).Append -/
def k_wal_Log_Append (i : Nat) : List Nat := match i with | 0 => [4] | 1 => [11, 12] | 2 => [13] | 3 => [5, 15] | 4 => [1, 16, 17, 18, 19, 20] | 5 => [21] | 6 => [7, 23] | 7 => [24, 25, 26, 27] | 8 => [0, 29, 30] | 9 => [31, 32, 33, 34, 35, 36] | 10 => [8, 37, 38, 39, 40, 41, 42, 43, 44, 45, 46, 47, 48] | 11 => [9, 50, 51, 52, 53, 54] | 12 => [55] | 13 => [10, 57] | 14 => [0, 6, 58, 59, 60, 61, 62, 63, 64, 65, 66, 67, 68, 69, 70] | _ => []
def c_wal_Log_Append : RCode :=
 .seq (.ops [mv 4 (k 0)] [4])
 (.seq (.seq (.ops [mv 11 (t 0),
 ca 12 F.wal_Log_ready [(t 11)],
 mv 5 (t 12)] [11, 12])
 (.seq (.ops [mv 13 (t 5),
 o 14 (.ibin .neq (t 13) (k 0))] [13])
 (.cond (t 14)
  (.seq (.ops [mv 15 (t 5),
  mv 4 (t 15)] [5, 15])
  (.ret))
  (.skip))))
 (.seq (.ops [mv 17 (t 1),
 ca 18 F.record_Put [(t 17)],
 mv 16 (t 18),
 ex 19 (t 16) 0,
 ex 20 (t 16) 1,
 mv 6 (t 19),
 mv 7 (t 20)] [1, 16, 17, 18, 19, 20])
 (.seq (.seq (.ops [mv 21 (t 7),
 o 22 (.ibin .neq (t 21) (k 0))] [21])
 (.cond (t 22)
  (.seq (.ops [mv 23 (t 7),
  mv 4 (t 23)] [7, 23])
  (.ret))
  (.skip)))
 (.seq (.seq (.ops [mv 24 (t 0),
 o 25 (.nilck (t 24)),
 fa 26 0 (t 25),
 l1 27 (t 26),
 ca 28 F.disk_Disk_Down [(t 27)]] [24, 25, 26, 27])
 (.cond (t 28)
  (.seq (.ops [mv 29 (t 0),
  ca 30 F.wal_Log_told [(t 29), (k 9)],
  mv 4 (t 30)] [0, 29, 30])
  (.ret))
  (.skip)))
 (.seq (.seq (.ops [mv 31 (t 0),
 mv 32 (t 0),
 o 33 (.nilck (t 32)),
 fa 34 2 (t 33),
 l1 35 (t 34),
 ca 36 F.wal_Log_length [(t 31), (t 35)],
 mv 8 (t 36)] [31, 32, 33, 34, 35, 36])
 (.seq (.ops [mv 37 (t 8),
 o 38 (.ibin .gtr (t 37) (k 0)),
 os 39 (.mov (t 38)),
 gt 39 40 (.mov (t 6)),
 gt 39 41 (.len (t 40)),
 gt 39 42 (.mov (t 0)),
 gt 39 43 (.nilck (t 42)),
 gt 39 44 (.faddr 3 (t 43)),
 gt 39 45 (.load false 1 (t 44)),
 gt 39 46 (.mov (t 8)),
 gt 39 47 (.ibin .sub (t 45) (t 46)),
 gt 39 48 (.ibin .gtr (t 41) (t 47)),
 o 49 (.pick (t 39) (t 48) (kb false))] [8, 37, 38, 39, 40, 41, 42, 43, 44, 45, 46, 47, 48])
 (.cond (t 49)
  (.seq (.ops [mv 51 (t 0),
  ca 52 F.wal_Log_Begin [(t 51)],
  mv 50 (t 52),
  ex 53 (t 50) 0,
  ex 54 (t 50) 1,
  mv 9 (t 53),
  mv 10 (t 54)] [9, 50, 51, 52, 53, 54])
  (.seq (.ops [mv 55 (t 10),
  o 56 (.ibin .neq (t 55) (k 0))] [55])
  (.cond (t 56)
   (.seq (.ops [mv 57 (t 10),
   mv 4 (t 57)] [10, 57])
   (.ret))
   (.skip))))
  (.skip))))
 (.seq (.draw (.take (mv 58 (t 0)) (.take (mv 59 (t 0)) (.take (o 60 (.nilck (t 59))) (.take (fa 61 0 (t 60)) (.take (l1 62 (t 61)) (.take (mv 63 (t 0)) (.take (o 64 (.nilck (t 63))) (.take (fa 65 2 (t 64)) (.take (l1 66 (t 65)) (.take (mv 68 (t 6)) (.alt (ca 67 F.wal_Name [(t 66)]) true
  (.alt (ca 69 F.disk_Disk_Append [(t 62), (t 67), (t 68)]) false
   (.alt (ca 70 F.wal_Log_told [(t 58), (t 69)]) false
    (.take (mv 4 (t 70)) (.done))
    (.none))
   (.none))
  (.none)))))))))))) [0, 6, 58, 59, 60, 61, 62, 63, 64, 65, 66, 67, 68, 69, 70])
 (.ret)))))))
def r_wal_Log_Append : List RRes := [.tmp 4]
theorem fo_wal_Log_Append {args : List Value} {M : Mem} {R : Value → Mem → Prop} (hn : args.length ≤ 71) (h : vfn Tryz.prog c_wal_Log_Append r_wal_Log_Append args M R) : CallsM Tryz.prog F.wal_Log_Append args M R :=
  fn_ok (kf := k_wal_Log_Append) Tryz.func85 (by kernel_rfl) (by kernel_rfl) hn (by kernel_rfl) h
/-- (*portage/wal.Log).Sync -/
def k_wal_Log_Sync (i : Nat) : List Nat := match i with | 0 => [2] | 1 => [4, 5] | 2 => [6] | 3 => [3, 8] | 4 => [9, 10, 11, 12] | 5 => [0, 14, 15] | 6 => [16, 17, 18, 19, 20, 21, 22, 23, 24, 25, 26, 27, 28, 29, 30, 31] | 8 => [0, 33, 34, 35, 36, 37, 38, 39, 40, 41, 42, 43, 44] | _ => []
def c_wal_Log_Sync : RCode :=
 .seq (.ops [mv 2 (k 0)] [2])
 (.seq (.seq (.ops [mv 4 (t 0),
 ca 5 F.wal_Log_ready [(t 4)],
 mv 3 (t 5)] [4, 5])
 (.seq (.ops [mv 6 (t 3),
 o 7 (.ibin .neq (t 6) (k 0))] [6])
 (.cond (t 7)
  (.seq (.ops [mv 8 (t 3),
  mv 2 (t 8)] [3, 8])
  (.ret))
  (.skip))))
 (.seq (.seq (.ops [mv 9 (t 0),
 o 10 (.nilck (t 9)),
 fa 11 0 (t 10),
 l1 12 (t 11),
 ca 13 F.disk_Disk_Down [(t 12)]] [9, 10, 11, 12])
 (.cond (t 13)
  (.seq (.ops [mv 14 (t 0),
  ca 15 F.wal_Log_told [(t 14), (k 9)],
  mv 2 (t 15)] [0, 14, 15])
  (.ret))
  (.skip)))
 (.seq (.seq (.draw (.take (mv 16 (t 0)) (.take (mv 17 (t 0)) (.take (o 18 (.nilck (t 17))) (.take (fa 19 2 (t 18)) (.take (l1 20 (t 19)) (.take (mv 22 (t 0)) (.take (o 23 (.nilck (t 22))) (.take (fa 24 0 (t 23)) (.take (l1 25 (t 24)) (.take (mv 26 (t 0)) (.take (o 27 (.nilck (t 26))) (.take (fa 28 2 (t 27)) (.take (l1 29 (t 28)) (.alt (ca 21 F.wal_Log_length [(t 16), (t 20)]) true
  (.alt (ca 30 F.wal_Name [(t 29)]) true
   (.alt (ca 31 F.disk_Disk_Safe [(t 25), (t 30)]) false
    (.take (o 32 (.ibin .eql (t 21) (t 31))) (.done))
    (.none))
   (.none))
  (.none))))))))))))))) [16, 17, 18, 19, 20, 21, 22, 23, 24, 25, 26, 27, 28, 29, 30, 31])
 (.cond (t 32)
  (.seq (.ops [mv 2 (k 0)] [])
  (.ret))
  (.skip)))
 (.seq (.draw (.take (mv 33 (t 0)) (.take (mv 34 (t 0)) (.take (o 35 (.nilck (t 34))) (.take (fa 36 0 (t 35)) (.take (l1 37 (t 36)) (.take (mv 38 (t 0)) (.take (o 39 (.nilck (t 38))) (.take (fa 40 2 (t 39)) (.take (l1 41 (t 40)) (.alt (ca 42 F.wal_Name [(t 41)]) true
  (.alt (ca 43 F.disk_Disk_Sync [(t 37), (t 42)]) false
   (.alt (ca 44 F.wal_Log_told [(t 33), (t 43)]) false
    (.take (mv 2 (t 44)) (.done))
    (.none))
   (.none))
  (.none))))))))))) [0, 33, 34, 35, 36, 37, 38, 39, 40, 41, 42, 43, 44])
 (.ret)))))
def r_wal_Log_Sync : List RRes := [.tmp 2]
theorem fo_wal_Log_Sync {args : List Value} {M : Mem} {R : Value → Mem → Prop} (hn : args.length ≤ 45) (h : vfn Tryz.prog c_wal_Log_Sync r_wal_Log_Sync args M R) : CallsM Tryz.prog F.wal_Log_Sync args M R :=
  fn_ok (kf := k_wal_Log_Sync) Tryz.func86 (by kernel_rfl) (by kernel_rfl) hn (by kernel_rfl) h
/-- slices.SortFunc[[]portage/store.place,portage/store.place] -/
def k_slices_SortFunc_store_place_store_place (i : Nat) : List Nat := match i with | 0 => [5, 6] | 1 => [0, 1, 4, 7, 8, 9, 10, 11, 12, 13] | _ => []
def c_slices_SortFunc_store_place_store_place : RCode :=
 .seq (.ops [mv 5 (t 0),
 o 6 (.len (t 5)),
 mv 4 (t 6)] [5, 6])
 (.ops [mv 7 (t 0),
 mv 8 (t 4),
 mv 9 (t 4),
 o 10 (.conv .u64 (t 9)),
 ca 11 F.math_bits_Len [(t 10)],
 mv 12 (t 1),
 ca 13 F.slices_pdqsortCmpFunc_store_place [(t 7), (k 0), (t 8), (t 11), (t 12)]] [0, 1, 4, 7, 8, 9, 10, 11, 12, 13])
def r_slices_SortFunc_store_place_store_place : List RRes := []
theorem fo_slices_SortFunc_store_place_store_place {args : List Value} {M : Mem} {R : Value → Mem → Prop} (hn : args.length ≤ 14) (h : vfn Tryz.prog c_slices_SortFunc_store_place_store_place r_slices_SortFunc_store_place_store_place args M R) : CallsM Tryz.prog F.slices_SortFunc_store_place_store_place args M R :=
  fn_ok (kf := k_slices_SortFunc_store_place_store_place) Tryz.func87 (by kernel_rfl) (by kernel_rfl) hn (by kernel_rfl) h
/-- (*portage/store.Store).Held$1 -/
def k_store_Store_Held_1 (i : Nat) : List Nat := match i with | 0 => [0, 1, 4] | 1 => [2, 3, 5, 6, 7, 8, 9] | _ => []
def c_store_Store_Held_1 : RCode :=
 .seq (.ops [o 2 (.box 171 (t 0)),
 o 3 (.box 171 (t 1)),
 mv 4 (k 0)] [0, 1, 4])
 (.seq (.ops [fa 5 5 (t 2),
 l1 6 (t 5),
 fa 7 5 (t 3),
 l1 8 (t 7),
 o 9 (.ibin .sub (t 6) (t 8)),
 mv 4 (t 9)] [2, 3, 5, 6, 7, 8, 9])
 (.ret))
def r_store_Store_Held_1 : List RRes := [.tmp 4]
theorem fo_store_Store_Held_1 {args : List Value} {M : Mem} {R : Value → Mem → Prop} (hn : args.length ≤ 10) (h : vfn Tryz.prog c_store_Store_Held_1 r_store_Store_Held_1 args M R) : CallsM Tryz.prog F.store_Store_Held_1 args M R :=
  fn_ok (kf := k_store_Store_Held_1) Tryz.func88 (by kernel_rfl) (by kernel_rfl) hn (by kernel_rfl) h
/-- slices.SortFunc[[]portage/api.Mark,portage/api.Mark] -/
def k_slices_SortFunc_api_Mark_api_Mark (i : Nat) : List Nat := match i with | 0 => [5, 6] | 1 => [0, 1, 4, 7, 8, 9, 10, 11, 12, 13] | _ => []
def c_slices_SortFunc_api_Mark_api_Mark : RCode :=
 .seq (.ops [mv 5 (t 0),
 o 6 (.len (t 5)),
 mv 4 (t 6)] [5, 6])
 (.ops [mv 7 (t 0),
 mv 8 (t 4),
 mv 9 (t 4),
 o 10 (.conv .u64 (t 9)),
 ca 11 F.math_bits_Len [(t 10)],
 mv 12 (t 1),
 ca 13 F.slices_pdqsortCmpFunc_api_Mark [(t 7), (k 0), (t 8), (t 11), (t 12)]] [0, 1, 4, 7, 8, 9, 10, 11, 12, 13])
def r_slices_SortFunc_api_Mark_api_Mark : List RRes := []
theorem fo_slices_SortFunc_api_Mark_api_Mark {args : List Value} {M : Mem} {R : Value → Mem → Prop} (hn : args.length ≤ 14) (h : vfn Tryz.prog c_slices_SortFunc_api_Mark_api_Mark r_slices_SortFunc_api_Mark_api_Mark args M R) : CallsM Tryz.prog F.slices_SortFunc_api_Mark_api_Mark args M R :=
  fn_ok (kf := k_slices_SortFunc_api_Mark_api_Mark) Tryz.func89 (by kernel_rfl) (by kernel_rfl) hn (by kernel_rfl) h
/-- (*portage/seen.Set).Marks$1 -/
def k_seen_Set_Marks_1 (i : Nat) : List Nat := match i with | 0 => [0, 1, 4] | 1 => [2, 3, 5, 6, 7, 8, 9, 10, 11, 12, 13, 14, 15] | _ => []
def c_seen_Set_Marks_1 : RCode :=
 .seq (.ops [o 2 (.box 81 (t 0)),
 o 3 (.box 81 (t 1)),
 mv 4 (k 0)] [0, 1, 4])
 (.seq (.ops [fa 5 0 (t 2),
 l1 6 (t 5),
 fa 7 1 (t 2),
 l1 8 (t 7),
 o 9 (.mkSl false 3 2 [(i 0), (i 0)] [(0, 1, (t 6)), (1, 1, (t 8))]),
 fa 10 0 (t 3),
 l1 11 (t 10),
 fa 12 1 (t 3),
 l1 13 (t 12),
 o 14 (.mkSl false 3 2 [(i 0), (i 0)] [(0, 1, (t 11)), (1, 1, (t 13))]),
 ca 15 F.slices_Compare_int_int [(t 9), (t 14)],
 mv 4 (t 15)] [2, 3, 5, 6, 7, 8, 9, 10, 11, 12, 13, 14, 15])
 (.ret))
def r_seen_Set_Marks_1 : List RRes := [.tmp 4]
theorem fo_seen_Set_Marks_1 {args : List Value} {M : Mem} {R : Value → Mem → Prop} (hn : args.length ≤ 16) (h : vfn Tryz.prog c_seen_Set_Marks_1 r_seen_Set_Marks_1 args M R) : CallsM Tryz.prog F.seen_Set_Marks_1 args M R :=
  fn_ok (kf := k_seen_Set_Marks_1) Tryz.func90 (by kernel_rfl) (by kernel_rfl) hn (by kernel_rfl) h
/-- slices.Compare[[]int,int] -/
def k_slices_Compare_int_int (i : Nat) : List Nat := match i with | 0 => [4] | 3 => [13, 14, 15] | 4 => [16, 17, 18] | 6 => [5, 20, 21, 22, 23] | 7 => [6, 7, 24, 25, 26] | 8 => [27] | 9 => [8, 29] | 10 => [30] | 11 => [0, 1, 31, 32, 33, 34] | _ => []
def c_slices_Compare_int_int : RCode :=
 .seq (.ops [mv 4 (k 0)] [4])
 (.seq (.seq (.ops [mv 9 (t 0),
 o 10 (.len (t 9)),
 mv 11 (k 0)] [])
 (.block 0 (.loop (.seq (.ops [o 12 (.ibin .lss (t 11) (t 10))] [])
  (.seq (.cond (t 12)
   (.skip)
   (.exit 0))
  (.seq (.block 1 (.seq (.ops [mv 13 (t 11),
  o 14 (.iaddr 1 (t 9) (t 11)),
  l1 15 (t 14),
  mv 5 (t 13),
  mv 6 (t 15)] [13, 14, 15])
  (.seq (.seq (.ops [mv 16 (t 5),
  mv 17 (t 1),
  o 18 (.len (t 17)),
  o 19 (.ibin .geq (t 16) (t 18))] [16, 17, 18])
  (.cond (t 19)
   (.seq (.ops [mv 4 (k 1)] [])
   (.ret))
   (.skip)))
  (.seq (.ops [mv 20 (t 1),
  mv 21 (t 5),
  o 22 (.iaddr 1 (t 20) (t 21)),
  l1 23 (t 22),
  mv 7 (t 23)] [5, 20, 21, 22, 23])
  (.seq (.ops [mv 24 (t 6),
  mv 25 (t 7),
  ca 26 F.cmp_Compare_int [(t 24), (t 25)],
  mv 8 (t 26)] [6, 7, 24, 25, 26])
  (.seq (.ops [mv 27 (t 8),
  o 28 (.ibin .neq (t 27) (k 0))] [27])
  (.cond (t 28)
   (.seq (.ops [mv 29 (t 8),
   mv 4 (t 29)] [8, 29])
   (.ret))
   (.skip))))))))
  (.ops [ad 30 (t 11) (k 1),
  mv 11 (t 30)] [30])))))))
 (.seq (.seq (.ops [mv 31 (t 0),
 o 32 (.len (t 31)),
 mv 33 (t 1),
 o 34 (.len (t 33)),
 o 35 (.ibin .lss (t 32) (t 34))] [0, 1, 31, 32, 33, 34])
 (.cond (t 35)
  (.seq (.ops [mv 4 (k (-1))] [])
  (.ret))
  (.skip)))
 (.seq (.ops [mv 4 (k 0)] [])
 (.ret))))
def r_slices_Compare_int_int : List RRes := [.tmp 4]
theorem fo_slices_Compare_int_int {args : List Value} {M : Mem} {R : Value → Mem → Prop} (hn : args.length ≤ 36) (h : vfn Tryz.prog c_slices_Compare_int_int r_slices_Compare_int_int args M R) : CallsM Tryz.prog F.slices_Compare_int_int args M R :=
  fn_ok (kf := k_slices_Compare_int_int) Tryz.func91 (by kernel_rfl) (by kernel_rfl) hn (by kernel_rfl) h
/-- slices.insertionSortOrdered[string] -/
def k_slices_insertionSortOrdered_string (i : Nat) : List Nat := match i with | 0 => [8, 9] | 1 => [10, 11] | 3 => [15] | 4 => [16, 17, 18, 19, 20, 21, 22, 23, 24, 25, 26, 27, 28, 29] | 6 => [33, 34, 35, 36, 37, 38, 39, 40, 41, 42, 43, 44, 45, 46, 47, 48] | 5 => [31, 32] | 2 => [13, 14] | _ => []
def c_slices_insertionSortOrdered_string : RCode :=
 .seq (.ops [mv 8 (t 1),
 ad 9 (t 8) (k 1),
 mv 6 (t 9)] [8, 9])
 (.block 0 (.loop (.seq (.seq (.ops [mv 10 (t 6),
  mv 11 (t 2),
  o 12 (.ibin .lss (t 10) (t 11))] [10, 11])
  (.cond (t 12)
   (.skip)
   (.exit 0)))
  (.seq (.block 1 (.seq (.ops [mv 15 (t 6),
  mv 7 (t 15)] [15])
  (.block 2 (.loop (.seq (.seq (.draw (.take (mv 16 (t 7)) (.take (mv 17 (t 1)) (.take (o 18 (.ibin .gtr (t 16) (t 17))) (.take (os 19 (.mov (t 18))) (.take (gt 19 20 (.mov (t 0))) (.take (gt 19 21 (.mov (t 7))) (.take (gt 19 22 (.iaddr 1 (t 20) (t 21))) (.take (gt 19 23 (.load false 1 (t 22))) (.take (gt 19 24 (.mov (t 0))) (.take (gt 19 25 (.mov (t 7))) (.take (gt 19 26 (.ibin .sub (t 25) (k 1))) (.take (gt 19 27 (.iaddr 1 (t 24) (t 26))) (.take (gt 19 28 (.load false 1 (t 27))) (.alt (gt 19 29 (.call (fn F.cmp_Less_string) [(t 23), (t 28)])) false
    (.take (o 30 (.pick (t 19) (t 29) (kb false))) (.done))
    (.none))))))))))))))) [16, 17, 18, 19, 20, 21, 22, 23, 24, 25, 26, 27, 28, 29])
   (.cond (t 30)
    (.skip)
    (.exit 2)))
   (.seq (.block 3 (.draw (.take (mv 33 (t 0)) (.take (mv 34 (t 7)) (.take (mv 35 (t 0)) (.take (mv 36 (t 7)) (.take (o 37 (.ibin .sub (t 36) (k 1))) (.take (mv 38 (t 0)) (.take (mv 39 (t 7)) (.take (o 40 (.ibin .sub (t 39) (k 1))) (.take (o 41 (.iaddr 1 (t 38) (t 40))) (.take (l1 42 (t 41)) (.take (mv 43 (t 0)) (.take (mv 44 (t 7)) (.take (o 45 (.iaddr 1 (t 43) (t 44))) (.take (l1 46 (t 45)) (.take (o 47 (.iaddr 1 (t 33) (t 34))) (.alt (st 1 (t 47) (t 42)) false
    (.take (o 48 (.iaddr 1 (t 35) (t 37))) (.alt (st 1 (t 48) (t 46)) false
     (.done)
     (.none)))
    (.none))))))))))))))))) [33, 34, 35, 36, 37, 38, 39, 40, 41, 42, 43, 44, 45, 46, 47, 48]))
   (.ops [mv 31 (t 7),
   o 32 (.ibin .sub (t 31) (k 1)),
   mv 7 (t 32)] [31, 32])))))))
  (.ops [mv 13 (t 6),
  ad 14 (t 13) (k 1),
  mv 6 (t 14)] [13, 14])))))
def r_slices_insertionSortOrdered_string : List RRes := []
theorem fo_slices_insertionSortOrdered_string {args : List Value} {M : Mem} {R : Value → Mem → Prop} (hn : args.length ≤ 49) (h : vfn Tryz.prog c_slices_insertionSortOrdered_string r_slices_insertionSortOrdered_string args M R) : CallsM Tryz.prog F.slices_insertionSortOrdered_string args M R :=
  fn_ok (kf := k_slices_insertionSortOrdered_string) Tryz.func96 (by kernel_rfl) (by kernel_rfl) hn (by kernel_rfl) h
/-- slices.heapSortOrdered[string] -/
def k_slices_heapSortOrdered_string (i : Nat) : List Nat := match i with | 0 => [11] | 2 => [1, 2, 12, 13, 14] | 3 => [15, 16, 17] | 4 => [18] | 6 => [22, 23, 24, 25, 26] | 5 => [20, 21] | 7 => [8, 27, 28] | 8 => [29] | 10 => [33, 34, 35, 36, 37, 38, 39, 40, 41, 42, 43, 44, 45, 46, 47, 48, 49, 50] | 11 => [51, 52, 53, 54, 55] | 9 => [31, 32] | _ => []
def c_slices_heapSortOrdered_string : RCode :=
 .seq (.ops [mv 11 (t 1),
 mv 6 (t 11)] [11])
 (.seq (.ops [mv 7 (k 0)] [])
 (.seq (.ops [mv 12 (t 2),
 mv 13 (t 1),
 o 14 (.ibin .sub (t 12) (t 13)),
 mv 8 (t 14)] [1, 2, 12, 13, 14])
 (.seq (.seq (.ops [mv 15 (t 8),
 o 16 (.ibin .sub (t 15) (k 1)),
 o 17 (.ibin .quo (t 16) (k 2)),
 mv 9 (t 17)] [15, 16, 17])
 (.block 0 (.loop (.seq (.seq (.ops [mv 18 (t 9),
  o 19 (.ibin .geq (t 18) (k 0))] [18])
  (.cond (t 19)
   (.skip)
   (.exit 0)))
  (.seq (.block 1 (.ops [mv 22 (t 0),
  mv 23 (t 9),
  mv 24 (t 8),
  mv 25 (t 6),
  ca 26 F.slices_siftDownOrdered_string [(t 22), (t 23), (t 24), (t 25)]] [22, 23, 24, 25, 26]))
  (.ops [mv 20 (t 9),
  o 21 (.ibin .sub (t 20) (k 1)),
  mv 9 (t 21)] [20, 21]))))))
 (.seq (.ops [mv 27 (t 8),
 o 28 (.ibin .sub (t 27) (k 1)),
 mv 10 (t 28)] [8, 27, 28])
 (.block 2 (.loop (.seq (.seq (.ops [mv 29 (t 10),
  o 30 (.ibin .geq (t 29) (k 0))] [29])
  (.cond (t 30)
   (.skip)
   (.exit 2)))
  (.seq (.block 3 (.seq (.draw (.take (mv 33 (t 0)) (.take (mv 34 (t 6)) (.take (mv 35 (t 0)) (.take (mv 36 (t 6)) (.take (mv 37 (t 10)) (.take (ad 38 (t 36) (t 37)) (.take (mv 39 (t 0)) (.take (mv 40 (t 6)) (.take (mv 41 (t 10)) (.take (ad 42 (t 40) (t 41)) (.take (o 43 (.iaddr 1 (t 39) (t 42))) (.take (l1 44 (t 43)) (.take (mv 45 (t 0)) (.take (mv 46 (t 6)) (.take (o 47 (.iaddr 1 (t 45) (t 46))) (.take (l1 48 (t 47)) (.take (o 49 (.iaddr 1 (t 33) (t 34))) (.alt (st 1 (t 49) (t 44)) false
   (.take (o 50 (.iaddr 1 (t 35) (t 38))) (.alt (st 1 (t 50) (t 48)) false
    (.done)
    (.none)))
   (.none))))))))))))))))))) [33, 34, 35, 36, 37, 38, 39, 40, 41, 42, 43, 44, 45, 46, 47, 48, 49, 50])
  (.ops [mv 51 (t 0),
  mv 52 (t 7),
  mv 53 (t 10),
  mv 54 (t 6),
  ca 55 F.slices_siftDownOrdered_string [(t 51), (t 52), (t 53), (t 54)]] [51, 52, 53, 54, 55])))
  (.ops [mv 31 (t 10),
  o 32 (.ibin .sub (t 31) (k 1)),
  mv 10 (t 32)] [31, 32])))))))))
def r_slices_heapSortOrdered_string : List RRes := []
theorem fo_slices_heapSortOrdered_string {args : List Value} {M : Mem} {R : Value → Mem → Prop} (hn : args.length ≤ 56) (h : vfn Tryz.prog c_slices_heapSortOrdered_string r_slices_heapSortOrdered_string args M R) : CallsM Tryz.prog F.slices_heapSortOrdered_string args M R :=
  fn_ok (kf := k_slices_heapSortOrdered_string) Tryz.func97 (by kernel_rfl) (by kernel_rfl) hn (by kernel_rfl) h
/-- slices.breakPatternsOrdered[string] -/
def k_slices_breakPatternsOrdered_string (i : Nat) : List Nat := match i with | 0 => [2, 11, 12, 13] | 1 => [14] | 2 => [16, 17] | 3 => [18, 19] | 4 => [20, 21, 22, 23, 24, 25] | 5 => [26, 27, 28, 29, 30, 31, 32] | 7 => [36, 37, 38, 39, 40] | 8 => [41, 42] | 9 => [44, 45, 46] | 10 => [10, 47, 48, 49, 50, 51, 52, 53, 54, 55, 56, 57, 58, 59, 60, 61, 62, 63, 64] | 6 => [34, 35] | _ => []
def c_slices_breakPatternsOrdered_string : RCode :=
 .seq (.ops [mv 11 (t 2),
 mv 12 (t 1),
 o 13 (.ibin .sub (t 11) (t 12)),
 mv 6 (t 13)] [2, 11, 12, 13])
 (.seq (.ops [mv 14 (t 6),
 o 15 (.ibin .geq (t 14) (k 8))] [14])
 (.cond (t 15)
  (.seq (.ops [mv 16 (t 6),
  o 17 (.conv .u64 (t 16)),
  o 7 (.alloc 227 [(.int .u64 0)]),
  st 1 (t 7) (t 17)] [16, 17])
  (.seq (.ops [mv 18 (t 6),
  ca 19 F.slices_nextPowerOfTwo [(t 18)],
  mv 8 (t 19)] [18, 19])
  (.seq (.ops [mv 20 (t 1),
  mv 21 (t 6),
  o 22 (.ibin .quo (t 21) (k 4)),
  o 23 (.ibin .mul (t 22) (k 2)),
  ad 24 (t 20) (t 23),
  o 25 (.ibin .sub (t 24) (k 1)),
  mv 9 (t 25)] [20, 21, 22, 23, 24, 25])
  (.block 0 (.loop (.seq (.seq (.ops [mv 26 (t 9),
   mv 27 (t 1),
   mv 28 (t 6),
   o 29 (.ibin .quo (t 28) (k 4)),
   o 30 (.ibin .mul (t 29) (k 2)),
   ad 31 (t 27) (t 30),
   ad 32 (t 31) (k 1),
   o 33 (.ibin .leq (t 26) (t 32))] [26, 27, 28, 29, 30, 31, 32])
   (.cond (t 33)
    (.skip)
    (.exit 0)))
   (.seq (.block 1 (.seq (.ops [ca 36 F.slices_xorshift_Next [(t 7)],
   mv 37 (t 8),
   o 38 (.ibin .sub (t 37) (.const (.int .u64 1))),
   o 39 (.ibin .and (t 36) (t 38)),
   o 40 (.conv .i64 (t 39)),
   mv 10 (t 40)] [36, 37, 38, 39, 40])
   (.seq (.seq (.ops [mv 41 (t 10),
   mv 42 (t 6),
   o 43 (.ibin .geq (t 41) (t 42))] [41, 42])
   (.cond (t 43)
    (.ops [mv 44 (t 10),
    mv 45 (t 6),
    o 46 (.ibin .sub (t 44) (t 45)),
    mv 10 (t 46)] [44, 45, 46])
    (.skip)))
   (.draw (.take (mv 47 (t 0)) (.take (mv 48 (t 9)) (.take (mv 49 (t 0)) (.take (mv 50 (t 1)) (.take (mv 51 (t 10)) (.take (ad 52 (t 50) (t 51)) (.take (mv 53 (t 0)) (.take (mv 54 (t 1)) (.take (mv 55 (t 10)) (.take (ad 56 (t 54) (t 55)) (.take (o 57 (.iaddr 1 (t 53) (t 56))) (.take (l1 58 (t 57)) (.take (mv 59 (t 0)) (.take (mv 60 (t 9)) (.take (o 61 (.iaddr 1 (t 59) (t 60))) (.take (l1 62 (t 61)) (.take (o 63 (.iaddr 1 (t 47) (t 48))) (.alt (st 1 (t 63) (t 58)) false
    (.take (o 64 (.iaddr 1 (t 49) (t 52))) (.alt (st 1 (t 64) (t 62)) false
     (.done)
     (.none)))
    (.none))))))))))))))))))) [10, 47, 48, 49, 50, 51, 52, 53, 54, 55, 56, 57, 58, 59, 60, 61, 62, 63, 64]))))
   (.ops [mv 34 (t 9),
   ad 35 (t 34) (k 1),
   mv 9 (t 35)] [34, 35]))))))))
  (.skip)))
def r_slices_breakPatternsOrdered_string : List RRes := []
theorem fo_slices_breakPatternsOrdered_string {args : List Value} {M : Mem} {R : Value → Mem → Prop} (hn : args.length ≤ 65) (h : vfn Tryz.prog c_slices_breakPatternsOrdered_string r_slices_breakPatternsOrdered_string args M R) : CallsM Tryz.prog F.slices_breakPatternsOrdered_string args M R :=
  fn_ok (kf := k_slices_breakPatternsOrdered_string) Tryz.func98 (by kernel_rfl) (by kernel_rfl) hn (by kernel_rfl) h
/-- slices.choosePivotOrdered[string] -/
def k_slices_choosePivotOrdered_string (i : Nat) : List Nat := match i with | 0 => [6, 7] | 1 => [2, 13, 14, 15] | 3 => [16, 17, 18, 19, 20] | 4 => [21, 22, 23, 24, 25] | 5 => [1, 26, 27, 28, 29, 30] | 6 => [31] | 7 => [8, 33] | 8 => [35, 36, 37] | 9 => [38, 39, 40] | 10 => [41, 42, 43] | 11 => [0, 10, 12, 44, 45, 46, 47, 48] | 12 => [9] | 14 => [52] | 15 => [11, 53] | 16 => [49, 55] | 17 => [11, 56] | 13 => [11, 50] | _ => []
def c_slices_choosePivotOrdered_string : RCode :=
 .seq (.ops [mv 6 (k 0),
 mv 7 (k 0)] [6, 7])
 (.seq (.ops [mv 13 (t 2),
 mv 14 (t 1),
 o 15 (.ibin .sub (t 13) (t 14)),
 mv 8 (t 15)] [2, 13, 14, 15])
 (.seq (.ops [o 9 (.alloc 3 [(i 0)])] [])
 (.seq (.ops [mv 16 (t 1),
 mv 17 (t 8),
 o 18 (.ibin .quo (t 17) (k 4)),
 o 19 (.ibin .mul (t 18) (k 1)),
 ad 20 (t 16) (t 19),
 mv 10 (t 20)] [16, 17, 18, 19, 20])
 (.seq (.ops [mv 21 (t 1),
 mv 22 (t 8),
 o 23 (.ibin .quo (t 22) (k 4)),
 o 24 (.ibin .mul (t 23) (k 2)),
 ad 25 (t 21) (t 24),
 mv 11 (t 25)] [21, 22, 23, 24, 25])
 (.seq (.ops [mv 26 (t 1),
 mv 27 (t 8),
 o 28 (.ibin .quo (t 27) (k 4)),
 o 29 (.ibin .mul (t 28) (k 3)),
 ad 30 (t 26) (t 29),
 mv 12 (t 30)] [1, 26, 27, 28, 29, 30])
 (.seq (.seq (.ops [mv 31 (t 8),
 o 32 (.ibin .geq (t 31) (k 8))] [31])
 (.cond (t 32)
  (.seq (.seq (.ops [mv 33 (t 8),
  o 34 (.ibin .geq (t 33) (k 50))] [8, 33])
  (.cond (t 34)
   (.seq (.ops [mv 35 (t 0),
   mv 36 (t 10),
   ca 37 F.slices_medianAdjacentOrdered_string [(t 35), (t 36), (t 9)],
   mv 10 (t 37)] [35, 36, 37])
   (.seq (.ops [mv 38 (t 0),
   mv 39 (t 11),
   ca 40 F.slices_medianAdjacentOrdered_string [(t 38), (t 39), (t 9)],
   mv 11 (t 40)] [38, 39, 40])
   (.ops [mv 41 (t 0),
   mv 42 (t 12),
   ca 43 F.slices_medianAdjacentOrdered_string [(t 41), (t 42), (t 9)],
   mv 12 (t 43)] [41, 42, 43])))
   (.skip)))
  (.ops [mv 44 (t 0),
  mv 45 (t 10),
  mv 46 (t 11),
  mv 47 (t 12),
  ca 48 F.slices_medianOrdered_string [(t 44), (t 45), (t 46), (t 47), (t 9)],
  mv 11 (t 48)] [0, 10, 12, 44, 45, 46, 47, 48]))
  (.skip)))
 (.seq (.ops [l1 49 (t 9)] [9])
 (.block 0 (.seq (.ops [o 52 (.ibin .eql (t 49) (k 0)),
 mv 51 (t 52)] [52])
 (.cond (t 51)
  (.seq (.ops [mv 53 (t 11),
  mv 6 (t 53),
  mv 7 (k 1)] [11, 53])
  (.ret))
  (.seq (.ops [o 55 (.ibin .eql (t 49) (k 12)),
  mv 54 (t 55)] [49, 55])
  (.cond (t 54)
   (.seq (.ops [mv 56 (t 11),
   mv 6 (t 56),
   mv 7 (k 2)] [11, 56])
   (.ret))
   (.seq (.ops [mv 50 (t 11),
   mv 6 (t 50),
   mv 7 (k 0)] [11, 50])
   (.ret))))))))))))))
def r_slices_choosePivotOrdered_string : List RRes := [.tmp 6, .tmp 7]
theorem fo_slices_choosePivotOrdered_string {args : List Value} {M : Mem} {R : Value → Mem → Prop} (hn : args.length ≤ 57) (h : vfn Tryz.prog c_slices_choosePivotOrdered_string r_slices_choosePivotOrdered_string args M R) : CallsM Tryz.prog F.slices_choosePivotOrdered_string args M R :=
  fn_ok (kf := k_slices_choosePivotOrdered_string) Tryz.func99 (by kernel_rfl) (by kernel_rfl) hn (by kernel_rfl) h
/-- slices.reverseRangeOrdered[string] -/
def k_slices_reverseRangeOrdered_string (i : Nat) : List Nat := match i with | 0 => [1, 8] | 1 => [2, 9, 10] | 2 => [11, 12] | 3 => [14, 15, 16, 17, 18, 19, 20, 21, 22, 23, 24, 25, 26, 27] | 4 => [28, 29] | 5 => [30, 31] | _ => []
def c_slices_reverseRangeOrdered_string : RCode :=
 .seq (.ops [mv 8 (t 1),
 mv 6 (t 8)] [1, 8])
 (.seq (.ops [mv 9 (t 2),
 o 10 (.ibin .sub (t 9) (k 1)),
 mv 7 (t 10)] [2, 9, 10])
 (.block 0 (.loop (.seq (.seq (.ops [mv 11 (t 6),
  mv 12 (t 7),
  o 13 (.ibin .lss (t 11) (t 12))] [11, 12])
  (.cond (t 13)
   (.skip)
   (.exit 0)))
  (.block 1 (.seq (.draw (.take (mv 14 (t 0)) (.take (mv 15 (t 6)) (.take (mv 16 (t 0)) (.take (mv 17 (t 7)) (.take (mv 18 (t 0)) (.take (mv 19 (t 7)) (.take (o 20 (.iaddr 1 (t 18) (t 19))) (.take (l1 21 (t 20)) (.take (mv 22 (t 0)) (.take (mv 23 (t 6)) (.take (o 24 (.iaddr 1 (t 22) (t 23))) (.take (l1 25 (t 24)) (.take (o 26 (.iaddr 1 (t 14) (t 15))) (.alt (st 1 (t 26) (t 21)) false
   (.take (o 27 (.iaddr 1 (t 16) (t 17))) (.alt (st 1 (t 27) (t 25)) false
    (.done)
    (.none)))
   (.none))))))))))))))) [14, 15, 16, 17, 18, 19, 20, 21, 22, 23, 24, 25, 26, 27])
  (.seq (.ops [mv 28 (t 6),
  ad 29 (t 28) (k 1),
  mv 6 (t 29)] [28, 29])
  (.ops [mv 30 (t 7),
  o 31 (.ibin .sub (t 30) (k 1)),
  mv 7 (t 31)] [30, 31]))))))))
def r_slices_reverseRangeOrdered_string : List RRes := []
theorem fo_slices_reverseRangeOrdered_string {args : List Value} {M : Mem} {R : Value → Mem → Prop} (hn : args.length ≤ 32) (h : vfn Tryz.prog c_slices_reverseRangeOrdered_string r_slices_reverseRangeOrdered_string args M R) : CallsM Tryz.prog F.slices_reverseRangeOrdered_string args M R :=
  fn_ok (kf := k_slices_reverseRangeOrdered_string) Tryz.func100 (by kernel_rfl) (by kernel_rfl) hn (by kernel_rfl) h
/-- slices.partialInsertionSortOrdered[string] -/
def k_slices_partialInsertionSortOrdered_string (i : Nat) : List Nat := match i with | 0 => [6] | 1 => [11, 12] | 3 => [13] | 5 => [17, 18, 19, 20, 21, 22, 23, 24, 25, 26, 27, 28, 29, 30, 31] | 6 => [33, 34] | 7 => [35, 36] | 9 => [38, 39, 40] | 11 => [42, 43, 44, 45, 46, 47, 48, 49, 50, 51, 52, 53, 54, 55, 56, 57] | 12 => [58, 59, 60] | 13 => [62, 63] | 14 => [64] | 16 => [68, 69, 70, 71, 72, 73, 74, 75, 76, 77] | 17 => [79, 80, 81, 82, 83, 84, 85, 86, 87, 88, 89, 90, 91, 92, 93, 94] | 15 => [66, 67] | 18 => [95, 96, 97] | 19 => [99, 100] | 20 => [101, 102] | 22 => [106, 107, 108, 109, 110, 111, 112, 113, 114, 115] | 23 => [117, 118, 119, 120, 121, 122, 123, 124, 125, 126, 127, 128, 129, 130, 131, 132] | 21 => [104, 105] | 4 => [15, 16] | _ => []
def c_slices_partialInsertionSortOrdered_string : RCode :=
 .seq (.ops [mv 6 (kb false)] [6])
 (.seq (.ops [mv 11 (t 1),
 ad 12 (t 11) (k 1),
 mv 7 (t 12)] [11, 12])
 (.seq (.seq (.ops [mv 8 (k 0)] [])
 (.block 0 (.loop (.seq (.seq (.ops [mv 13 (t 8),
  o 14 (.ibin .lss (t 13) (k 5))] [13])
  (.cond (t 14)
   (.skip)
   (.exit 0)))
  (.seq (.block 1 (.seq (.block 2 (.loop (.seq (.seq (.draw (.take (mv 17 (t 7)) (.take (mv 18 (t 2)) (.take (o 19 (.ibin .lss (t 17) (t 18))) (.take (os 20 (.mov (t 19))) (.take (gt 20 21 (.mov (t 0))) (.take (gt 20 22 (.mov (t 7))) (.take (gt 20 23 (.iaddr 1 (t 21) (t 22))) (.take (gt 20 24 (.load false 1 (t 23))) (.take (gt 20 25 (.mov (t 0))) (.take (gt 20 26 (.mov (t 7))) (.take (gt 20 27 (.ibin .sub (t 26) (k 1))) (.take (gt 20 28 (.iaddr 1 (t 25) (t 27))) (.take (gt 20 29 (.load false 1 (t 28))) (.alt (gt 20 30 (.call (fn F.cmp_Less_string) [(t 24), (t 29)])) false
    (.take (gt 20 31 (.not (t 30))) (.take (o 32 (.pick (t 20) (t 31) (kb false))) (.done)))
    (.none))))))))))))))) [17, 18, 19, 20, 21, 22, 23, 24, 25, 26, 27, 28, 29, 30, 31])
   (.cond (t 32)
    (.skip)
    (.exit 2)))
   (.block 3 (.ops [mv 33 (t 7),
   ad 34 (t 33) (k 1),
   mv 7 (t 34)] [33, 34])))))
  (.seq (.seq (.ops [mv 35 (t 7),
  mv 36 (t 2),
  o 37 (.ibin .eql (t 35) (t 36))] [35, 36])
  (.cond (t 37)
   (.seq (.ops [mv 6 (kb true)] [])
   (.ret))
   (.skip)))
  (.seq (.seq (.ops [mv 38 (t 2),
  mv 39 (t 1),
  o 40 (.ibin .sub (t 38) (t 39)),
  o 41 (.ibin .lss (t 40) (k 50))] [38, 39, 40])
  (.cond (t 41)
   (.seq (.ops [mv 6 (kb false)] [])
   (.ret))
   (.skip)))
  (.seq (.draw (.take (mv 42 (t 0)) (.take (mv 43 (t 7)) (.take (mv 44 (t 0)) (.take (mv 45 (t 7)) (.take (o 46 (.ibin .sub (t 45) (k 1))) (.take (mv 47 (t 0)) (.take (mv 48 (t 7)) (.take (o 49 (.ibin .sub (t 48) (k 1))) (.take (o 50 (.iaddr 1 (t 47) (t 49))) (.take (l1 51 (t 50)) (.take (mv 52 (t 0)) (.take (mv 53 (t 7)) (.take (o 54 (.iaddr 1 (t 52) (t 53))) (.take (l1 55 (t 54)) (.take (o 56 (.iaddr 1 (t 42) (t 43))) (.alt (st 1 (t 56) (t 51)) false
   (.take (o 57 (.iaddr 1 (t 44) (t 46))) (.alt (st 1 (t 57) (t 55)) false
    (.done)
    (.none)))
   (.none))))))))))))))))) [42, 43, 44, 45, 46, 47, 48, 49, 50, 51, 52, 53, 54, 55, 56, 57])
  (.seq (.seq (.ops [mv 58 (t 7),
  mv 59 (t 1),
  o 60 (.ibin .sub (t 58) (t 59)),
  o 61 (.ibin .geq (t 60) (k 2))] [58, 59, 60])
  (.cond (t 61)
   (.seq (.ops [mv 62 (t 7),
   o 63 (.ibin .sub (t 62) (k 1)),
   mv 9 (t 63)] [62, 63])
   (.block 4 (.loop (.seq (.seq (.ops [mv 64 (t 9),
    o 65 (.ibin .geq (t 64) (k 1))] [64])
    (.cond (t 65)
     (.skip)
     (.exit 4)))
    (.seq (.block 5 (.seq (.seq (.draw (.take (mv 68 (t 0)) (.take (mv 69 (t 9)) (.take (o 70 (.iaddr 1 (t 68) (t 69))) (.take (l1 71 (t 70)) (.take (mv 72 (t 0)) (.take (mv 73 (t 9)) (.take (o 74 (.ibin .sub (t 73) (k 1))) (.take (o 75 (.iaddr 1 (t 72) (t 74))) (.take (l1 76 (t 75)) (.alt (ca 77 F.cmp_Less_string [(t 71), (t 76)]) false
     (.take (o 78 (.not (t 77))) (.done))
     (.none))))))))))) [68, 69, 70, 71, 72, 73, 74, 75, 76, 77])
    (.cond (t 78)
     (.exit 4)
     (.skip)))
    (.draw (.take (mv 79 (t 0)) (.take (mv 80 (t 9)) (.take (mv 81 (t 0)) (.take (mv 82 (t 9)) (.take (o 83 (.ibin .sub (t 82) (k 1))) (.take (mv 84 (t 0)) (.take (mv 85 (t 9)) (.take (o 86 (.ibin .sub (t 85) (k 1))) (.take (o 87 (.iaddr 1 (t 84) (t 86))) (.take (l1 88 (t 87)) (.take (mv 89 (t 0)) (.take (mv 90 (t 9)) (.take (o 91 (.iaddr 1 (t 89) (t 90))) (.take (l1 92 (t 91)) (.take (o 93 (.iaddr 1 (t 79) (t 80))) (.alt (st 1 (t 93) (t 88)) false
     (.take (o 94 (.iaddr 1 (t 81) (t 83))) (.alt (st 1 (t 94) (t 92)) false
      (.done)
      (.none)))
     (.none))))))))))))))))) [79, 80, 81, 82, 83, 84, 85, 86, 87, 88, 89, 90, 91, 92, 93, 94])))
    (.ops [mv 66 (t 9),
    o 67 (.ibin .sub (t 66) (k 1)),
    mv 9 (t 67)] [66, 67]))))))
   (.skip)))
  (.seq (.ops [mv 95 (t 2),
  mv 96 (t 7),
  o 97 (.ibin .sub (t 95) (t 96)),
  o 98 (.ibin .geq (t 97) (k 2))] [95, 96, 97])
  (.cond (t 98)
   (.seq (.ops [mv 99 (t 7),
   ad 100 (t 99) (k 1),
   mv 10 (t 100)] [99, 100])
   (.block 6 (.loop (.seq (.seq (.ops [mv 101 (t 10),
    mv 102 (t 2),
    o 103 (.ibin .lss (t 101) (t 102))] [101, 102])
    (.cond (t 103)
     (.skip)
     (.exit 6)))
    (.seq (.block 7 (.seq (.seq (.draw (.take (mv 106 (t 0)) (.take (mv 107 (t 10)) (.take (o 108 (.iaddr 1 (t 106) (t 107))) (.take (l1 109 (t 108)) (.take (mv 110 (t 0)) (.take (mv 111 (t 10)) (.take (o 112 (.ibin .sub (t 111) (k 1))) (.take (o 113 (.iaddr 1 (t 110) (t 112))) (.take (l1 114 (t 113)) (.alt (ca 115 F.cmp_Less_string [(t 109), (t 114)]) false
     (.take (o 116 (.not (t 115))) (.done))
     (.none))))))))))) [106, 107, 108, 109, 110, 111, 112, 113, 114, 115])
    (.cond (t 116)
     (.exit 6)
     (.skip)))
    (.draw (.take (mv 117 (t 0)) (.take (mv 118 (t 10)) (.take (mv 119 (t 0)) (.take (mv 120 (t 10)) (.take (o 121 (.ibin .sub (t 120) (k 1))) (.take (mv 122 (t 0)) (.take (mv 123 (t 10)) (.take (o 124 (.ibin .sub (t 123) (k 1))) (.take (o 125 (.iaddr 1 (t 122) (t 124))) (.take (l1 126 (t 125)) (.take (mv 127 (t 0)) (.take (mv 128 (t 10)) (.take (o 129 (.iaddr 1 (t 127) (t 128))) (.take (l1 130 (t 129)) (.take (o 131 (.iaddr 1 (t 117) (t 118))) (.alt (st 1 (t 131) (t 126)) false
     (.take (o 132 (.iaddr 1 (t 119) (t 121))) (.alt (st 1 (t 132) (t 130)) false
      (.done)
      (.none)))
     (.none))))))))))))))))) [117, 118, 119, 120, 121, 122, 123, 124, 125, 126, 127, 128, 129, 130, 131, 132])))
    (.ops [mv 104 (t 10),
    ad 105 (t 104) (k 1),
    mv 10 (t 105)] [104, 105]))))))
   (.skip)))))))))
  (.ops [mv 15 (t 8),
  ad 16 (t 15) (k 1),
  mv 8 (t 16)] [15, 16]))))))
 (.seq (.ops [mv 6 (kb false)] [])
 (.ret))))
def r_slices_partialInsertionSortOrdered_string : List RRes := [.tmp 6]
theorem fo_slices_partialInsertionSortOrdered_string {args : List Value} {M : Mem} {R : Value → Mem → Prop} (hn : args.length ≤ 133) (h : vfn Tryz.prog c_slices_partialInsertionSortOrdered_string r_slices_partialInsertionSortOrdered_string args M R) : CallsM Tryz.prog F.slices_partialInsertionSortOrdered_string args M R :=
  fn_ok (kf := k_slices_partialInsertionSortOrdered_string) Tryz.func101 (by kernel_rfl) (by kernel_rfl) hn (by kernel_rfl) h
/-- cmp.Less[string] -/
def k_cmp_Less_string (i : Nat) : List Nat := match i with | 0 => [4] | 1 => [0, 1, 5, 6, 7, 8, 9, 10, 11, 12, 13, 14, 15, 16] | _ => []
def c_cmp_Less_string : RCode :=
 .seq (.ops [mv 4 (kb false)] [4])
 (.seq (.ops [mv 5 (t 0),
 ca 6 F.cmp_isNaN_string [(t 5)],
 os 7 (.mov (t 6)),
 gt 7 8 (.mov (t 1)),
 gt 7 9 (.call (fn F.cmp_isNaN_string) [(t 8)]),
 gt 7 10 (.not (t 9)),
 o 11 (.pick (t 7) (t 10) (kb false)),
 os 12 (.mov (t 11)),
 gf 12 13 (.mov (t 0)),
 gf 12 14 (.mov (t 1)),
 gf 12 15 (.strE .lss (t 13) (t 14)),
 o 16 (.pick (t 12) (kb true) (t 15)),
 mv 4 (t 16)] [0, 1, 5, 6, 7, 8, 9, 10, 11, 12, 13, 14, 15, 16])
 (.ret))
def r_cmp_Less_string : List RRes := [.tmp 4]
theorem fo_cmp_Less_string {args : List Value} {M : Mem} {R : Value → Mem → Prop} (hn : args.length ≤ 17) (h : vfn Tryz.prog c_cmp_Less_string r_cmp_Less_string args M R) : CallsM Tryz.prog F.cmp_Less_string args M R :=
  fn_ok (kf := k_cmp_Less_string) Tryz.func102 (by kernel_rfl) (by kernel_rfl) hn (by kernel_rfl) h
/-- slices.partitionEqualOrdered[string] -/
def k_slices_partitionEqualOrdered_string (i : Nat) : List Nat := match i with | 0 => [8] | 1 => [3, 11, 12, 13, 14, 15, 16, 17, 18, 19, 20, 21, 22, 23, 24] | 2 => [2, 25, 26, 27, 28] | 3 => [29, 30, 31, 32, 33, 34, 35, 36, 37, 38, 39, 40, 41, 42] | 4 => [44, 45] | 5 => [46, 47, 48, 49, 50, 51, 52, 53, 54, 55, 56, 57, 58] | 6 => [60, 61] | 7 => [62, 63] | 8 => [65, 66, 67, 68, 69, 70, 71, 72, 73, 74, 75, 76, 77, 78] | 9 => [79, 80] | 10 => [81, 82] | 11 => [9, 83] | _ => []
def c_slices_partitionEqualOrdered_string : RCode :=
 .seq (.ops [mv 8 (k 0)] [8])
 (.seq (.draw (.take (mv 11 (t 0)) (.take (mv 12 (t 1)) (.take (mv 13 (t 0)) (.take (mv 14 (t 3)) (.take (mv 15 (t 0)) (.take (mv 16 (t 3)) (.take (o 17 (.iaddr 1 (t 15) (t 16))) (.take (l1 18 (t 17)) (.take (mv 19 (t 0)) (.take (mv 20 (t 1)) (.take (o 21 (.iaddr 1 (t 19) (t 20))) (.take (l1 22 (t 21)) (.take (o 23 (.iaddr 1 (t 11) (t 12))) (.alt (st 1 (t 23) (t 18)) false
  (.take (o 24 (.iaddr 1 (t 13) (t 14))) (.alt (st 1 (t 24) (t 22)) false
   (.done)
   (.none)))
  (.none))))))))))))))) [3, 11, 12, 13, 14, 15, 16, 17, 18, 19, 20, 21, 22, 23, 24])
 (.seq (.ops [mv 25 (t 1),
 ad 26 (t 25) (k 1),
 mv 27 (t 2),
 o 28 (.ibin .sub (t 27) (k 1)),
 mv 9 (t 26),
 mv 10 (t 28)] [2, 25, 26, 27, 28])
 (.seq (.block 0 (.loop (.block 1 (.seq (.block 2 (.loop (.seq (.seq (.draw (.take (mv 29 (t 9)) (.take (mv 30 (t 10)) (.take (o 31 (.ibin .leq (t 29) (t 30))) (.take (os 32 (.mov (t 31))) (.take (gt 32 33 (.mov (t 0))) (.take (gt 32 34 (.mov (t 1))) (.take (gt 32 35 (.iaddr 1 (t 33) (t 34))) (.take (gt 32 36 (.load false 1 (t 35))) (.take (gt 32 37 (.mov (t 0))) (.take (gt 32 38 (.mov (t 9))) (.take (gt 32 39 (.iaddr 1 (t 37) (t 38))) (.take (gt 32 40 (.load false 1 (t 39))) (.alt (gt 32 41 (.call (fn F.cmp_Less_string) [(t 36), (t 40)])) false
    (.take (gt 32 42 (.not (t 41))) (.take (o 43 (.pick (t 32) (t 42) (kb false))) (.done)))
    (.none)))))))))))))) [29, 30, 31, 32, 33, 34, 35, 36, 37, 38, 39, 40, 41, 42])
   (.cond (t 43)
    (.skip)
    (.exit 2)))
   (.block 3 (.ops [mv 44 (t 9),
   ad 45 (t 44) (k 1),
   mv 9 (t 45)] [44, 45])))))
  (.seq (.block 4 (.loop (.seq (.seq (.draw (.take (mv 46 (t 9)) (.take (mv 47 (t 10)) (.take (o 48 (.ibin .leq (t 46) (t 47))) (.take (os 49 (.mov (t 48))) (.take (gt 49 50 (.mov (t 0))) (.take (gt 49 51 (.mov (t 1))) (.take (gt 49 52 (.iaddr 1 (t 50) (t 51))) (.take (gt 49 53 (.load false 1 (t 52))) (.take (gt 49 54 (.mov (t 0))) (.take (gt 49 55 (.mov (t 10))) (.take (gt 49 56 (.iaddr 1 (t 54) (t 55))) (.take (gt 49 57 (.load false 1 (t 56))) (.alt (gt 49 58 (.call (fn F.cmp_Less_string) [(t 53), (t 57)])) false
    (.take (o 59 (.pick (t 49) (t 58) (kb false))) (.done))
    (.none)))))))))))))) [46, 47, 48, 49, 50, 51, 52, 53, 54, 55, 56, 57, 58])
   (.cond (t 59)
    (.skip)
    (.exit 4)))
   (.block 5 (.ops [mv 60 (t 10),
   o 61 (.ibin .sub (t 60) (k 1)),
   mv 10 (t 61)] [60, 61])))))
  (.seq (.seq (.ops [mv 62 (t 9),
  mv 63 (t 10),
  o 64 (.ibin .gtr (t 62) (t 63))] [62, 63])
  (.cond (t 64)
   (.exit 0)
   (.skip)))
  (.seq (.draw (.take (mv 65 (t 0)) (.take (mv 66 (t 9)) (.take (mv 67 (t 0)) (.take (mv 68 (t 10)) (.take (mv 69 (t 0)) (.take (mv 70 (t 10)) (.take (o 71 (.iaddr 1 (t 69) (t 70))) (.take (l1 72 (t 71)) (.take (mv 73 (t 0)) (.take (mv 74 (t 9)) (.take (o 75 (.iaddr 1 (t 73) (t 74))) (.take (l1 76 (t 75)) (.take (o 77 (.iaddr 1 (t 65) (t 66))) (.alt (st 1 (t 77) (t 72)) false
   (.take (o 78 (.iaddr 1 (t 67) (t 68))) (.alt (st 1 (t 78) (t 76)) false
    (.done)
    (.none)))
   (.none))))))))))))))) [65, 66, 67, 68, 69, 70, 71, 72, 73, 74, 75, 76, 77, 78])
  (.seq (.ops [mv 79 (t 9),
  ad 80 (t 79) (k 1),
  mv 9 (t 80)] [79, 80])
  (.ops [mv 81 (t 10),
  o 82 (.ibin .sub (t 81) (k 1)),
  mv 10 (t 82)] [81, 82])))))))))
 (.seq (.ops [mv 83 (t 9),
 mv 8 (t 83)] [9, 83])
 (.ret)))))
def r_slices_partitionEqualOrdered_string : List RRes := [.tmp 8]
theorem fo_slices_partitionEqualOrdered_string {args : List Value} {M : Mem} {R : Value → Mem → Prop} (hn : args.length ≤ 84) (h : vfn Tryz.prog c_slices_partitionEqualOrdered_string r_slices_partitionEqualOrdered_string args M R) : CallsM Tryz.prog F.slices_partitionEqualOrdered_string args M R :=
  fn_ok (kf := k_slices_partitionEqualOrdered_string) Tryz.func103 (by kernel_rfl) (by kernel_rfl) hn (by kernel_rfl) h
/-- slices.partitionOrdered[string] -/
def k_slices_partitionOrdered_string (i : Nat) : List Nat := match i with | 0 => [8, 9] | 1 => [3, 12, 13, 14, 15, 16, 17, 18, 19, 20, 21, 22, 23, 24, 25] | 2 => [2, 26, 27, 28, 29] | 3 => [30, 31, 32, 33, 34, 35, 36, 37, 38, 39, 40, 41, 42] | 4 => [44, 45] | 5 => [46, 47, 48, 49, 50, 51, 52, 53, 54, 55, 56, 57, 58, 59] | 6 => [61, 62] | 7 => [63, 64] | 8 => [0, 1, 66, 67, 68, 69, 70, 71, 72, 73, 74, 75, 76, 77, 78, 79] | 9 => [11, 80] | 10 => [81, 82, 83, 84, 85, 86, 87, 88, 89, 90, 91, 92, 93, 94] | 11 => [95, 96] | 12 => [97, 98] | 13 => [99, 100, 101, 102, 103, 104, 105, 106, 107, 108, 109, 110, 111] | 14 => [113, 114] | 15 => [115, 116, 117, 118, 119, 120, 121, 122, 123, 124, 125, 126, 127, 128] | 16 => [130, 131] | 17 => [132, 133] | 18 => [135, 136, 137, 138, 139, 140, 141, 142, 143, 144, 145, 146, 147, 148] | 19 => [149, 150] | 20 => [151, 152] | 21 => [0, 1, 153, 154, 155, 156, 157, 158, 159, 160, 161, 162, 163, 164, 165, 166] | 22 => [11, 167] | _ => []
def c_slices_partitionOrdered_string : RCode :=
 .seq (.ops [mv 8 (k 0),
 mv 9 (kb false)] [8, 9])
 (.seq (.draw (.take (mv 12 (t 0)) (.take (mv 13 (t 1)) (.take (mv 14 (t 0)) (.take (mv 15 (t 3)) (.take (mv 16 (t 0)) (.take (mv 17 (t 3)) (.take (o 18 (.iaddr 1 (t 16) (t 17))) (.take (l1 19 (t 18)) (.take (mv 20 (t 0)) (.take (mv 21 (t 1)) (.take (o 22 (.iaddr 1 (t 20) (t 21))) (.take (l1 23 (t 22)) (.take (o 24 (.iaddr 1 (t 12) (t 13))) (.alt (st 1 (t 24) (t 19)) false
  (.take (o 25 (.iaddr 1 (t 14) (t 15))) (.alt (st 1 (t 25) (t 23)) false
   (.done)
   (.none)))
  (.none))))))))))))))) [3, 12, 13, 14, 15, 16, 17, 18, 19, 20, 21, 22, 23, 24, 25])
 (.seq (.ops [mv 26 (t 1),
 ad 27 (t 26) (k 1),
 mv 28 (t 2),
 o 29 (.ibin .sub (t 28) (k 1)),
 mv 10 (t 27),
 mv 11 (t 29)] [2, 26, 27, 28, 29])
 (.seq (.block 0 (.loop (.seq (.seq (.draw (.take (mv 30 (t 10)) (.take (mv 31 (t 11)) (.take (o 32 (.ibin .leq (t 30) (t 31))) (.take (os 33 (.mov (t 32))) (.take (gt 33 34 (.mov (t 0))) (.take (gt 33 35 (.mov (t 10))) (.take (gt 33 36 (.iaddr 1 (t 34) (t 35))) (.take (gt 33 37 (.load false 1 (t 36))) (.take (gt 33 38 (.mov (t 0))) (.take (gt 33 39 (.mov (t 1))) (.take (gt 33 40 (.iaddr 1 (t 38) (t 39))) (.take (gt 33 41 (.load false 1 (t 40))) (.alt (gt 33 42 (.call (fn F.cmp_Less_string) [(t 37), (t 41)])) false
   (.take (o 43 (.pick (t 33) (t 42) (kb false))) (.done))
   (.none)))))))))))))) [30, 31, 32, 33, 34, 35, 36, 37, 38, 39, 40, 41, 42])
  (.cond (t 43)
   (.skip)
   (.exit 0)))
  (.block 1 (.ops [mv 44 (t 10),
  ad 45 (t 44) (k 1),
  mv 10 (t 45)] [44, 45])))))
 (.seq (.block 2 (.loop (.seq (.seq (.draw (.take (mv 46 (t 10)) (.take (mv 47 (t 11)) (.take (o 48 (.ibin .leq (t 46) (t 47))) (.take (os 49 (.mov (t 48))) (.take (gt 49 50 (.mov (t 0))) (.take (gt 49 51 (.mov (t 11))) (.take (gt 49 52 (.iaddr 1 (t 50) (t 51))) (.take (gt 49 53 (.load false 1 (t 52))) (.take (gt 49 54 (.mov (t 0))) (.take (gt 49 55 (.mov (t 1))) (.take (gt 49 56 (.iaddr 1 (t 54) (t 55))) (.take (gt 49 57 (.load false 1 (t 56))) (.alt (gt 49 58 (.call (fn F.cmp_Less_string) [(t 53), (t 57)])) false
   (.take (gt 49 59 (.not (t 58))) (.take (o 60 (.pick (t 49) (t 59) (kb false))) (.done)))
   (.none)))))))))))))) [46, 47, 48, 49, 50, 51, 52, 53, 54, 55, 56, 57, 58, 59])
  (.cond (t 60)
   (.skip)
   (.exit 2)))
  (.block 3 (.ops [mv 61 (t 11),
  o 62 (.ibin .sub (t 61) (k 1)),
  mv 11 (t 62)] [61, 62])))))
 (.seq (.seq (.ops [mv 63 (t 10),
 mv 64 (t 11),
 o 65 (.ibin .gtr (t 63) (t 64))] [63, 64])
 (.cond (t 65)
  (.seq (.draw (.take (mv 66 (t 0)) (.take (mv 67 (t 11)) (.take (mv 68 (t 0)) (.take (mv 69 (t 1)) (.take (mv 70 (t 0)) (.take (mv 71 (t 1)) (.take (o 72 (.iaddr 1 (t 70) (t 71))) (.take (l1 73 (t 72)) (.take (mv 74 (t 0)) (.take (mv 75 (t 11)) (.take (o 76 (.iaddr 1 (t 74) (t 75))) (.take (l1 77 (t 76)) (.take (o 78 (.iaddr 1 (t 66) (t 67))) (.alt (st 1 (t 78) (t 73)) false
   (.take (o 79 (.iaddr 1 (t 68) (t 69))) (.alt (st 1 (t 79) (t 77)) false
    (.done)
    (.none)))
   (.none))))))))))))))) [0, 1, 66, 67, 68, 69, 70, 71, 72, 73, 74, 75, 76, 77, 78, 79])
  (.seq (.ops [mv 80 (t 11),
  mv 8 (t 80),
  mv 9 (kb true)] [11, 80])
  (.ret)))
  (.skip)))
 (.seq (.draw (.take (mv 81 (t 0)) (.take (mv 82 (t 10)) (.take (mv 83 (t 0)) (.take (mv 84 (t 11)) (.take (mv 85 (t 0)) (.take (mv 86 (t 11)) (.take (o 87 (.iaddr 1 (t 85) (t 86))) (.take (l1 88 (t 87)) (.take (mv 89 (t 0)) (.take (mv 90 (t 10)) (.take (o 91 (.iaddr 1 (t 89) (t 90))) (.take (l1 92 (t 91)) (.take (o 93 (.iaddr 1 (t 81) (t 82))) (.alt (st 1 (t 93) (t 88)) false
  (.take (o 94 (.iaddr 1 (t 83) (t 84))) (.alt (st 1 (t 94) (t 92)) false
   (.done)
   (.none)))
  (.none))))))))))))))) [81, 82, 83, 84, 85, 86, 87, 88, 89, 90, 91, 92, 93, 94])
 (.seq (.ops [mv 95 (t 10),
 ad 96 (t 95) (k 1),
 mv 10 (t 96)] [95, 96])
 (.seq (.ops [mv 97 (t 11),
 o 98 (.ibin .sub (t 97) (k 1)),
 mv 11 (t 98)] [97, 98])
 (.seq (.block 4 (.loop (.block 5 (.seq (.block 6 (.loop (.seq (.seq (.draw (.take (mv 99 (t 10)) (.take (mv 100 (t 11)) (.take (o 101 (.ibin .leq (t 99) (t 100))) (.take (os 102 (.mov (t 101))) (.take (gt 102 103 (.mov (t 0))) (.take (gt 102 104 (.mov (t 10))) (.take (gt 102 105 (.iaddr 1 (t 103) (t 104))) (.take (gt 102 106 (.load false 1 (t 105))) (.take (gt 102 107 (.mov (t 0))) (.take (gt 102 108 (.mov (t 1))) (.take (gt 102 109 (.iaddr 1 (t 107) (t 108))) (.take (gt 102 110 (.load false 1 (t 109))) (.alt (gt 102 111 (.call (fn F.cmp_Less_string) [(t 106), (t 110)])) false
    (.take (o 112 (.pick (t 102) (t 111) (kb false))) (.done))
    (.none)))))))))))))) [99, 100, 101, 102, 103, 104, 105, 106, 107, 108, 109, 110, 111])
   (.cond (t 112)
    (.skip)
    (.exit 6)))
   (.block 7 (.ops [mv 113 (t 10),
   ad 114 (t 113) (k 1),
   mv 10 (t 114)] [113, 114])))))
  (.seq (.block 8 (.loop (.seq (.seq (.draw (.take (mv 115 (t 10)) (.take (mv 116 (t 11)) (.take (o 117 (.ibin .leq (t 115) (t 116))) (.take (os 118 (.mov (t 117))) (.take (gt 118 119 (.mov (t 0))) (.take (gt 118 120 (.mov (t 11))) (.take (gt 118 121 (.iaddr 1 (t 119) (t 120))) (.take (gt 118 122 (.load false 1 (t 121))) (.take (gt 118 123 (.mov (t 0))) (.take (gt 118 124 (.mov (t 1))) (.take (gt 118 125 (.iaddr 1 (t 123) (t 124))) (.take (gt 118 126 (.load false 1 (t 125))) (.alt (gt 118 127 (.call (fn F.cmp_Less_string) [(t 122), (t 126)])) false
    (.take (gt 118 128 (.not (t 127))) (.take (o 129 (.pick (t 118) (t 128) (kb false))) (.done)))
    (.none)))))))))))))) [115, 116, 117, 118, 119, 120, 121, 122, 123, 124, 125, 126, 127, 128])
   (.cond (t 129)
    (.skip)
    (.exit 8)))
   (.block 9 (.ops [mv 130 (t 11),
   o 131 (.ibin .sub (t 130) (k 1)),
   mv 11 (t 131)] [130, 131])))))
  (.seq (.seq (.ops [mv 132 (t 10),
  mv 133 (t 11),
  o 134 (.ibin .gtr (t 132) (t 133))] [132, 133])
  (.cond (t 134)
   (.exit 4)
   (.skip)))
  (.seq (.draw (.take (mv 135 (t 0)) (.take (mv 136 (t 10)) (.take (mv 137 (t 0)) (.take (mv 138 (t 11)) (.take (mv 139 (t 0)) (.take (mv 140 (t 11)) (.take (o 141 (.iaddr 1 (t 139) (t 140))) (.take (l1 142 (t 141)) (.take (mv 143 (t 0)) (.take (mv 144 (t 10)) (.take (o 145 (.iaddr 1 (t 143) (t 144))) (.take (l1 146 (t 145)) (.take (o 147 (.iaddr 1 (t 135) (t 136))) (.alt (st 1 (t 147) (t 142)) false
   (.take (o 148 (.iaddr 1 (t 137) (t 138))) (.alt (st 1 (t 148) (t 146)) false
    (.done)
    (.none)))
   (.none))))))))))))))) [135, 136, 137, 138, 139, 140, 141, 142, 143, 144, 145, 146, 147, 148])
  (.seq (.ops [mv 149 (t 10),
  ad 150 (t 149) (k 1),
  mv 10 (t 150)] [149, 150])
  (.ops [mv 151 (t 11),
  o 152 (.ibin .sub (t 151) (k 1)),
  mv 11 (t 152)] [151, 152])))))))))
 (.seq (.draw (.take (mv 153 (t 0)) (.take (mv 154 (t 11)) (.take (mv 155 (t 0)) (.take (mv 156 (t 1)) (.take (mv 157 (t 0)) (.take (mv 158 (t 1)) (.take (o 159 (.iaddr 1 (t 157) (t 158))) (.take (l1 160 (t 159)) (.take (mv 161 (t 0)) (.take (mv 162 (t 11)) (.take (o 163 (.iaddr 1 (t 161) (t 162))) (.take (l1 164 (t 163)) (.take (o 165 (.iaddr 1 (t 153) (t 154))) (.alt (st 1 (t 165) (t 160)) false
  (.take (o 166 (.iaddr 1 (t 155) (t 156))) (.alt (st 1 (t 166) (t 164)) false
   (.done)
   (.none)))
  (.none))))))))))))))) [0, 1, 153, 154, 155, 156, 157, 158, 159, 160, 161, 162, 163, 164, 165, 166])
 (.seq (.ops [mv 167 (t 11),
 mv 8 (t 167),
 mv 9 (kb false)] [11, 167])
 (.ret))))))))))))
def r_slices_partitionOrdered_string : List RRes := [.tmp 8, .tmp 9]
theorem fo_slices_partitionOrdered_string {args : List Value} {M : Mem} {R : Value → Mem → Prop} (hn : args.length ≤ 168) (h : vfn Tryz.prog c_slices_partitionOrdered_string r_slices_partitionOrdered_string args M R) : CallsM Tryz.prog F.slices_partitionOrdered_string args M R :=
  fn_ok (kf := k_slices_partitionOrdered_string) Tryz.func104 (by kernel_rfl) (by kernel_rfl) hn (by kernel_rfl) h
/-- math/bits.Len32 -/
def k_math_bits_Len32 (i : Nat) : List Nat := match i with | 1 => [3] | 2 => [5, 6] | 4 => [7] | 5 => [9, 10] | 6 => [11, 12] | 7 => [0, 13, 14, 15, 16, 17, 18] | _ => []
def c_math_bits_Len32 : RCode :=
 .seq (.ops [mv 2 (k 0)] [])
 (.seq (.seq (.ops [mv 3 (t 0),
 o 4 (.ibin .geq (t 3) (.const (.int .u32 65536)))] [3])
 (.cond (t 4)
  (.seq (.ops [mv 5 (t 0),
  o 6 (.ibin .shr (t 5) (.const (.int .u64 16))),
  mv 0 (t 6)] [5, 6])
  (.ops [mv 2 (k 16)] []))
  (.skip)))
 (.seq (.seq (.ops [mv 7 (t 0),
 o 8 (.ibin .geq (t 7) (.const (.int .u32 256)))] [7])
 (.cond (t 8)
  (.seq (.ops [mv 9 (t 0),
  o 10 (.ibin .shr (t 9) (.const (.int .u64 8))),
  mv 0 (t 10)] [9, 10])
  (.ops [mv 11 (t 2),
  ad 12 (t 11) (k 8),
  mv 2 (t 12)] [11, 12]))
  (.skip)))
 (.seq (.ops [mv 13 (t 2),
 mv 14 (t 0),
 o 15 (.conv .u8 (t 14)),
 o 16 (.sidx (.const (.string ⟨#[0, 1, 2, 2, 3, 3, 3, 3, 4, 4, 4, 4, 4, 4, 4, 4, 5, 5, 5, 5, 5, 5, 5, 5, 5, 5, 5, 5, 5, 5, 5, 5, 6, 6, 6, 6, 6, 6, 6, 6, 6, 6, 6, 6, 6, 6, 6, 6, 6, 6, 6, 6, 6, 6, 6, 6, 6, 6, 6, 6, 6, 6, 6, 6, 7, 7, 7, 7, 7, 7, 7, 7, 7, 7, 7, 7, 7, 7, 7, 7, 7, 7, 7, 7, 7, 7, 7, 7, 7, 7, 7, 7, 7, 7, 7, 7, 7, 7, 7, 7, 7, 7, 7, 7, 7, 7, 7, 7, 7, 7, 7, 7, 7, 7, 7, 7, 7, 7, 7, 7, 7, 7, 7, 7, 7, 7, 7, 7, 8, 8, 8, 8, 8, 8, 8, 8, 8, 8, 8, 8, 8, 8, 8, 8, 8, 8, 8, 8, 8, 8, 8, 8, 8, 8, 8, 8, 8, 8, 8, 8, 8, 8, 8, 8, 8, 8, 8, 8, 8, 8, 8, 8, 8, 8, 8, 8, 8, 8, 8, 8, 8, 8, 8, 8, 8, 8, 8, 8, 8, 8, 8, 8, 8, 8, 8, 8, 8, 8, 8, 8, 8, 8, 8, 8, 8, 8, 8, 8, 8, 8, 8, 8, 8, 8, 8, 8, 8, 8, 8, 8, 8, 8, 8, 8, 8, 8, 8, 8, 8, 8, 8, 8, 8, 8, 8, 8, 8, 8, 8, 8, 8, 8, 8, 8, 8, 8, 8, 8, 8, 8, 8, 8, 8, 8, 8, 8]⟩)) (t 15)),
 o 17 (.conv .i64 (t 16)),
 ad 18 (t 13) (t 17),
 mv 2 (t 18)] [0, 13, 14, 15, 16, 17, 18])
 (.ret))))
def r_math_bits_Len32 : List RRes := [.tmp 2]
theorem fo_math_bits_Len32 {args : List Value} {M : Mem} {R : Value → Mem → Prop} (hn : args.length ≤ 19) (h : vfn Tryz.prog c_math_bits_Len32 r_math_bits_Len32 args M R) : CallsM Tryz.prog F.math_bits_Len32 args M R :=
  fn_ok (kf := k_math_bits_Len32) Tryz.func105 (by kernel_rfl) (by kernel_rfl) hn (by kernel_rfl) h
/-- math/bits.Len64 -/
def k_math_bits_Len64 (i : Nat) : List Nat := match i with | 1 => [3] | 2 => [5, 6] | 4 => [7] | 5 => [9, 10] | 6 => [11, 12] | 7 => [13] | 8 => [15, 16] | 9 => [17, 18] | 10 => [0, 19, 20, 21, 22, 23, 24] | _ => []
def c_math_bits_Len64 : RCode :=
 .seq (.ops [mv 2 (k 0)] [])
 (.seq (.seq (.ops [mv 3 (t 0),
 o 4 (.ibin .geq (t 3) (.const (.int .u64 4294967296)))] [3])
 (.cond (t 4)
  (.seq (.ops [mv 5 (t 0),
  o 6 (.ibin .shr (t 5) (.const (.int .u64 32))),
  mv 0 (t 6)] [5, 6])
  (.ops [mv 2 (k 32)] []))
  (.skip)))
 (.seq (.seq (.ops [mv 7 (t 0),
 o 8 (.ibin .geq (t 7) (.const (.int .u64 65536)))] [7])
 (.cond (t 8)
  (.seq (.ops [mv 9 (t 0),
  o 10 (.ibin .shr (t 9) (.const (.int .u64 16))),
  mv 0 (t 10)] [9, 10])
  (.ops [mv 11 (t 2),
  ad 12 (t 11) (k 16),
  mv 2 (t 12)] [11, 12]))
  (.skip)))
 (.seq (.seq (.ops [mv 13 (t 0),
 o 14 (.ibin .geq (t 13) (.const (.int .u64 256)))] [13])
 (.cond (t 14)
  (.seq (.ops [mv 15 (t 0),
  o 16 (.ibin .shr (t 15) (.const (.int .u64 8))),
  mv 0 (t 16)] [15, 16])
  (.ops [mv 17 (t 2),
  ad 18 (t 17) (k 8),
  mv 2 (t 18)] [17, 18]))
  (.skip)))
 (.seq (.ops [mv 19 (t 2),
 mv 20 (t 0),
 o 21 (.conv .u8 (t 20)),
 o 22 (.sidx (.const (.string ⟨#[0, 1, 2, 2, 3, 3, 3, 3, 4, 4, 4, 4, 4, 4, 4, 4, 5, 5, 5, 5, 5, 5, 5, 5, 5, 5, 5, 5, 5, 5, 5, 5, 6, 6, 6, 6, 6, 6, 6, 6, 6, 6, 6, 6, 6, 6, 6, 6, 6, 6, 6, 6, 6, 6, 6, 6, 6, 6, 6, 6, 6, 6, 6, 6, 7, 7, 7, 7, 7, 7, 7, 7, 7, 7, 7, 7, 7, 7, 7, 7, 7, 7, 7, 7, 7, 7, 7, 7, 7, 7, 7, 7, 7, 7, 7, 7, 7, 7, 7, 7, 7, 7, 7, 7, 7, 7, 7, 7, 7, 7, 7, 7, 7, 7, 7, 7, 7, 7, 7, 7, 7, 7, 7, 7, 7, 7, 7, 7, 8, 8, 8, 8, 8, 8, 8, 8, 8, 8, 8, 8, 8, 8, 8, 8, 8, 8, 8, 8, 8, 8, 8, 8, 8, 8, 8, 8, 8, 8, 8, 8, 8, 8, 8, 8, 8, 8, 8, 8, 8, 8, 8, 8, 8, 8, 8, 8, 8, 8, 8, 8, 8, 8, 8, 8, 8, 8, 8, 8, 8, 8, 8, 8, 8, 8, 8, 8, 8, 8, 8, 8, 8, 8, 8, 8, 8, 8, 8, 8, 8, 8, 8, 8, 8, 8, 8, 8, 8, 8, 8, 8, 8, 8, 8, 8, 8, 8, 8, 8, 8, 8, 8, 8, 8, 8, 8, 8, 8, 8, 8, 8, 8, 8, 8, 8, 8, 8, 8, 8, 8, 8, 8, 8, 8, 8, 8, 8]⟩)) (t 21)),
 o 23 (.conv .i64 (t 22)),
 ad 24 (t 19) (t 23),
 mv 2 (t 24)] [0, 19, 20, 21, 22, 23, 24])
 (.ret)))))
def r_math_bits_Len64 : List RRes := [.tmp 2]
theorem fo_math_bits_Len64 {args : List Value} {M : Mem} {R : Value → Mem → Prop} (hn : args.length ≤ 25) (h : vfn Tryz.prog c_math_bits_Len64 r_math_bits_Len64 args M R) : CallsM Tryz.prog F.math_bits_Len64 args M R :=
  fn_ok (kf := k_math_bits_Len64) Tryz.func106 (by kernel_rfl) (by kernel_rfl) hn (by kernel_rfl) h
/-- (*portage/disk.Disk).ready -/
def k_disk_Disk_ready (i : Nat) : List Nat := match i with | 0 => [4] | 1 => [7] | 3 => [0, 9, 10, 11] | 5 => [1] | 7 => [17, 18] | 8 => [6, 19, 20] | 10 => [22] | _ => []
def c_disk_Disk_ready : RCode :=
 .seq (.ops [mv 4 (k 0)] [4])
 (.seq (.seq (.ops [mv 7 (t 0),
 o 8 (.pnil .eql (t 7) (.const (.pointer none)))] [7])
 (.cond (t 8)
  (.seq (.ops [mv 4 (k 7)] [])
  (.ret))
  (.skip)))
 (.seq (.seq (.ops [mv 9 (t 0),
 o 10 (.nilck (t 9)),
 fa 11 3 (t 10),
 l1 12 (t 11)] [0, 9, 10, 11])
 (.cond (t 12)
  (.seq (.ops [mv 4 (k 9)] [])
  (.ret))
  (.skip)))
 (.seq (.seq (.ops [mv 13 (t 1),
 o 14 (.len (t 13)),
 mv 15 (k 0)] [1])
 (.block 0 (.loop (.seq (.ops [o 16 (.ibin .lss (t 15) (t 14))] [])
  (.seq (.cond (t 16)
   (.skip)
   (.exit 0))
  (.seq (.block 1 (.seq (.ops [o 17 (.iaddr 1 (t 13) (t 15)),
  l1 18 (t 17),
  mv 6 (t 18)] [17, 18])
  (.seq (.ops [mv 19 (t 6),
  ca 20 F.disk_named [(t 19)],
  o 21 (.not (t 20))] [6, 19, 20])
  (.cond (t 21)
   (.seq (.ops [mv 4 (k 2)] [])
   (.ret))
   (.skip)))))
  (.ops [ad 22 (t 15) (k 1),
  mv 15 (t 22)] [22])))))))
 (.seq (.ops [mv 4 (k 0)] [])
 (.ret)))))
def r_disk_Disk_ready : List RRes := [.tmp 4]
theorem fo_disk_Disk_ready {args : List Value} {M : Mem} {R : Value → Mem → Prop} (hn : args.length ≤ 23) (h : vfn Tryz.prog c_disk_Disk_ready r_disk_Disk_ready args M R) : CallsM Tryz.prog F.disk_Disk_ready args M R :=
  fn_ok (kf := k_disk_Disk_ready) Tryz.func107 (by kernel_rfl) (by kernel_rfl) hn (by kernel_rfl) h
/-- portage/crc.down -/
def k_crc_down (i : Nat) : List Nat := match i with | 0 => [4] | 1 => [5, 6] | 2 => [0, 1, 8, 9, 10, 11] | 3 => [0, 12, 13] | _ => []
def c_crc_down : RCode :=
 .seq (.ops [mv 4 (.const (.int .u32 0))] [4])
 (.seq (.seq (.ops [mv 5 (t 0),
 o 6 (.ibin .and (t 5) (.const (.int .u32 1))),
 o 7 (.ibin .eql (t 6) (.const (.int .u32 1)))] [5, 6])
 (.cond (t 7)
  (.seq (.ops [mv 8 (t 0),
  o 9 (.ibin .shr (t 8) (.const (.int .u64 1))),
  mv 10 (t 1),
  o 11 (.ibin .xor (t 9) (t 10)),
  mv 4 (t 11)] [0, 1, 8, 9, 10, 11])
  (.ret))
  (.skip)))
 (.seq (.ops [mv 12 (t 0),
 o 13 (.ibin .shr (t 12) (.const (.int .u64 1))),
 mv 4 (t 13)] [0, 12, 13])
 (.ret)))
def r_crc_down : List RRes := [.tmp 4]
theorem fo_crc_down {args : List Value} {M : Mem} {R : Value → Mem → Prop} (hn : args.length ≤ 14) (h : vfn Tryz.prog c_crc_down r_crc_down args M R) : CallsM Tryz.prog F.crc_down args M R :=
  fn_ok (kf := k_crc_down) Tryz.func108 (by kernel_rfl) (by kernel_rfl) hn (by kernel_rfl) h
/-- portage/msg.CheckMsg -/
def k_msg_CheckMsg (i : Nat) : List Nat := match i with | 0 => [0, 2] | 1 => [4, 5, 6] | 2 => [7] | 3 => [3, 9] | 4 => [10, 11, 12] | 6 => [1, 14, 15, 16] | _ => []
def c_msg_CheckMsg : RCode :=
 .seq (.ops [o 1 (.box 51 (t 0)),
 mv 2 (k 0)] [0, 2])
 (.seq (.seq (.ops [fa 4 0 (t 1),
 la 5 4 (t 4),
 ca 6 F.msg_Check [(t 5)],
 mv 3 (t 6)] [4, 5, 6])
 (.seq (.ops [mv 7 (t 3),
 o 8 (.ibin .neq (t 7) (k 0))] [7])
 (.cond (t 8)
  (.seq (.ops [mv 9 (t 3),
  mv 2 (t 9)] [3, 9])
  (.ret))
  (.skip))))
 (.seq (.seq (.ops [fa 10 4 (t 1),
 l1 11 (t 10),
 o 12 (.len (t 11)),
 o 13 (.ibin .eql (t 12) (k 0))] [10, 11, 12])
 (.cond (t 13)
  (.seq (.ops [mv 2 (k 2)] [])
  (.ret))
  (.skip)))
 (.seq (.seq (.ops [fa 14 4 (t 1),
 l1 15 (t 14),
 o 16 (.len (t 15)),
 o 17 (.ibin .gtr (t 16) (k 48))] [1, 14, 15, 16])
 (.cond (t 17)
  (.seq (.ops [mv 2 (k 3)] [])
  (.ret))
  (.skip)))
 (.seq (.ops [mv 2 (k 0)] [])
 (.ret)))))
def r_msg_CheckMsg : List RRes := [.tmp 2]
theorem fo_msg_CheckMsg {args : List Value} {M : Mem} {R : Value → Mem → Prop} (hn : args.length ≤ 18) (h : vfn Tryz.prog c_msg_CheckMsg r_msg_CheckMsg args M R) : CallsM Tryz.prog F.msg_CheckMsg args M R :=
  fn_ok (kf := k_msg_CheckMsg) Tryz.func109 (by kernel_rfl) (by kernel_rfl) hn (by kernel_rfl) h
/-- portage/seen.right -/
def k_seen_right (i : Nat) : List Nat := match i with | 0 => [0, 2] | 1 => [6, 7, 8, 9, 10, 11, 12, 13, 14, 15, 16, 17, 18, 19, 20, 21, 22, 23, 24, 25, 26, 27, 28, 29, 30, 31, 32] | 3 => [34, 35, 36] | 4 => [37] | 6 => [42, 43] | 7 => [3, 44, 45, 46, 47, 48, 49] | 9 => [5, 51] | 10 => [52] | 11 => [1, 53, 54, 55, 56, 57, 58, 59, 60, 61] | _ => []
def c_seen_right : RCode :=
 .seq (.ops [o 1 (.box 81 (t 0)),
 mv 2 (kb false)] [0, 2])
 (.seq (.seq (.ops [fa 6 0 (t 1),
 l1 7 (t 6),
 o 8 (.ibin .lss (t 7) (k 0)),
 os 9 (.mov (t 8)),
 gf 9 10 (.faddr 0 (t 1)),
 gf 9 11 (.load false 1 (t 10)),
 gf 9 12 (.ibin .geq (t 11) (k 64)),
 o 13 (.pick (t 9) (kb true) (t 12)),
 os 14 (.mov (t 13)),
 gf 14 15 (.faddr 1 (t 1)),
 gf 14 16 (.load false 1 (t 15)),
 gf 14 17 (.ibin .lss (t 16) (k 1)),
 o 18 (.pick (t 14) (kb true) (t 17)),
 os 19 (.mov (t 18)),
 gf 19 20 (.faddr 1 (t 1)),
 gf 19 21 (.load false 1 (t 20)),
 gf 19 22 (.ibin .gtr (t 21) (k 65535)),
 o 23 (.pick (t 19) (kb true) (t 22)),
 os 24 (.mov (t 23)),
 gf 24 25 (.faddr 2 (t 1)),
 gf 24 26 (.load false 1 (t 25)),
 gf 24 27 (.ibin .lss (t 26) (k 0)),
 o 28 (.pick (t 24) (kb true) (t 27)),
 os 29 (.mov (t 28)),
 gf 29 30 (.faddr 2 (t 1)),
 gf 29 31 (.load false 1 (t 30)),
 gf 29 32 (.ibin .gtr (t 31) (k 65535)),
 o 33 (.pick (t 29) (kb true) (t 32))] [6, 7, 8, 9, 10, 11, 12, 13, 14, 15, 16, 17, 18, 19, 20, 21, 22, 23, 24, 25, 26, 27, 28, 29, 30, 31, 32])
 (.cond (t 33)
  (.seq (.ops [mv 2 (kb false)] [])
  (.ret))
  (.skip)))
 (.seq (.ops [fa 34 2 (t 1),
 l1 35 (t 34),
 ad 36 (t 35) (k 1),
 mv 3 (t 36)] [34, 35, 36])
 (.seq (.seq (.ops [fa 37 3 (t 1),
 l1 38 (t 37),
 o 39 (.len (t 38)),
 mv 40 (k 0)] [37])
 (.block 0 (.loop (.seq (.ops [o 41 (.ibin .lss (t 40) (t 39))] [])
  (.seq (.cond (t 41)
   (.skip)
   (.exit 0))
  (.seq (.block 1 (.seq (.ops [o 42 (.iaddr 1 (t 38) (t 40)),
  l1 43 (t 42),
  mv 5 (t 43)] [42, 43])
  (.seq (.seq (.ops [mv 44 (t 5),
  mv 45 (t 3),
  o 46 (.ibin .leq (t 44) (t 45)),
  os 47 (.mov (t 46)),
  gf 47 48 (.mov (t 5)),
  gf 47 49 (.ibin .gtr (t 48) (k 65535)),
  o 50 (.pick (t 47) (kb true) (t 49))] [3, 44, 45, 46, 47, 48, 49])
  (.cond (t 50)
   (.seq (.ops [mv 2 (kb false)] [])
   (.ret))
   (.skip)))
  (.ops [mv 51 (t 5),
  mv 3 (t 51)] [5, 51]))))
  (.ops [ad 52 (t 40) (k 1),
  mv 40 (t 52)] [52])))))))
 (.seq (.ops [fa 53 2 (t 1),
 l1 54 (t 53),
 o 55 (.ibin .gtr (t 54) (k 0)),
 os 56 (.mov (t 55)),
 gf 56 57 (.faddr 3 (t 1)),
 gf 56 58 (.load false 1 (t 57)),
 gf 56 59 (.len (t 58)),
 gf 56 60 (.ibin .gtr (t 59) (k 0)),
 o 61 (.pick (t 56) (kb true) (t 60)),
 mv 2 (t 61)] [1, 53, 54, 55, 56, 57, 58, 59, 60, 61])
 (.ret)))))
def r_seen_right : List RRes := [.tmp 2]
theorem fo_seen_right {args : List Value} {M : Mem} {R : Value → Mem → Prop} (hn : args.length ≤ 62) (h : vfn Tryz.prog c_seen_right r_seen_right args M R) : CallsM Tryz.prog F.seen_right args M R :=
  fn_ok (kf := k_seen_right) Tryz.func110 (by kernel_rfl) (by kernel_rfl) hn (by kernel_rfl) h
/-- (*portage/seen.Set).Gaps -/
def k_seen_Set_Gaps (i : Nat) : List Nat := match i with | 0 => [2] | 2 => [6] | 3 => [0, 8, 9, 10, 11] | 4 => [13] | 5 => [15, 16] | 6 => [5, 17, 18, 19, 20, 21, 22, 23] | 7 => [3, 24] | _ => []
def c_seen_Set_Gaps : RCode :=
 .seq (.ops [mv 2 (k 0)] [2])
 (.seq (.ops [mv 3 (k 0)] [])
 (.seq (.seq (.ops [mv 6 (t 0),
 o 7 (.pnil .neq (t 6) (.const (.pointer none)))] [6])
 (.cond (t 7)
  (.seq (.ops [mv 8 (t 0),
  o 9 (.nilck (t 8)),
  fa 10 1 (t 9),
  l1 11 (t 10),
  o 12 (.mrange (t 11))] [0, 8, 9, 10, 11])
  (.block 0 (.loop (.seq (.ops [o 13 (.mnext (t 12)),
   ex 14 (t 13) 0] [13])
   (.seq (.cond (t 14)
    (.skip)
    (.exit 0))
   (.block 1 (.seq (.ops [o 15 (.mentry (t 12)),
   ex 16 (t 15) 1,
   mv 5 (t 16)] [15, 16])
   (.ops [mv 17 (t 3),
   mv 18 (t 5),
   o 19 (.nilck (t 18)),
   fa 20 1 (t 19),
   l1 21 (t 20),
   o 22 (.len (t 21)),
   ad 23 (t 17) (t 22),
   mv 3 (t 23)] [5, 17, 18, 19, 20, 21, 22, 23]))))))))
  (.skip)))
 (.seq (.ops [mv 24 (t 3),
 mv 2 (t 24)] [3, 24])
 (.ret))))
def r_seen_Set_Gaps : List RRes := [.tmp 2]
theorem fo_seen_Set_Gaps {args : List Value} {M : Mem} {R : Value → Mem → Prop} (hn : args.length ≤ 25) (h : vfn Tryz.prog c_seen_Set_Gaps r_seen_Set_Gaps args M R) : CallsM Tryz.prog F.seen_Set_Gaps args M R :=
  fn_ok (kf := k_seen_Set_Gaps) Tryz.func111 (by kernel_rfl) (by kernel_rfl) hn (by kernel_rfl) h
/-- (*portage/wal.Log).remove -/
def k_wal_Log_remove (i : Nat) : List Nat := match i with | 0 => [4] | 1 => [1] | 3 => [12, 13] | 4 => [6, 14, 15, 16, 17, 18, 19, 20] | 5 => [21] | 6 => [7, 23] | 7 => [24] | _ => []
def c_wal_Log_remove : RCode :=
 .seq (.ops [mv 4 (k 0)] [4])
 (.seq (.seq (.ops [mv 8 (t 1),
 o 9 (.len (t 8)),
 mv 10 (k 0)] [1])
 (.block 0 (.loop (.seq (.ops [o 11 (.ibin .lss (t 10) (t 9))] [])
  (.seq (.cond (t 11)
   (.skip)
   (.exit 0))
  (.seq (.block 1 (.seq (.ops [o 12 (.iaddr 1 (t 8) (t 10)),
  l1 13 (t 12),
  mv 6 (t 13)] [12, 13])
  (.seq (.draw (.take (mv 14 (t 0)) (.take (o 15 (.nilck (t 14))) (.take (fa 16 0 (t 15)) (.take (l1 17 (t 16)) (.take (mv 18 (t 6)) (.alt (ca 19 F.wal_Name [(t 18)]) true
   (.alt (ca 20 F.disk_Disk_Remove [(t 17), (t 19)]) false
    (.take (mv 7 (t 20)) (.done))
    (.none))
   (.none))))))) [6, 14, 15, 16, 17, 18, 19, 20])
  (.seq (.ops [mv 21 (t 7),
  o 22 (.ibin .neq (t 21) (k 0))] [21])
  (.cond (t 22)
   (.seq (.ops [mv 23 (t 7),
   mv 4 (t 23)] [7, 23])
   (.ret))
   (.skip))))))
  (.ops [ad 24 (t 10) (k 1),
  mv 10 (t 24)] [24])))))))
 (.seq (.ops [mv 4 (k 0)] [])
 (.ret)))
def r_wal_Log_remove : List RRes := [.tmp 4]
theorem fo_wal_Log_remove {args : List Value} {M : Mem} {R : Value → Mem → Prop} (hn : args.length ≤ 25) (h : vfn Tryz.prog c_wal_Log_remove r_wal_Log_remove args M R) : CallsM Tryz.prog F.wal_Log_remove args M R :=
  fn_ok (kf := k_wal_Log_remove) Tryz.func112 (by kernel_rfl) (by kernel_rfl) hn (by kernel_rfl) h
/-- (*portage/wal.Log).segments -/
def k_wal_Log_segments (i : Nat) : List Nat := match i with | 0 => [4] | 2 => [0, 9, 10, 11, 12] | 4 => [17, 18] | 5 => [7, 19, 20] | 6 => [21, 22, 23, 24, 25, 26] | 7 => [8, 28, 29, 30, 31] | 8 => [32] | 9 => [5, 33] | _ => []
def c_wal_Log_segments : RCode :=
 .seq (.ops [mv 4 (.const sn)] [4])
 (.seq (.ops [mv 5 (.const sn)] [])
 (.seq (.seq (.ops [mv 9 (t 0),
 o 10 (.nilck (t 9)),
 fa 11 0 (t 10),
 l1 12 (t 11),
 ca 13 F.disk_Disk_Names [(t 12)],
 o 14 (.len (t 13)),
 mv 15 (k 0)] [0, 9, 10, 11, 12])
 (.block 0 (.loop (.seq (.ops [o 16 (.ibin .lss (t 15) (t 14))] [])
  (.seq (.cond (t 16)
   (.skip)
   (.exit 0))
  (.seq (.block 1 (.seq (.ops [o 17 (.iaddr 1 (t 13) (t 15)),
  l1 18 (t 17),
  mv 7 (t 18)] [17, 18])
  (.seq (.ops [mv 19 (t 7),
  ca 20 F.wal_number [(t 19)],
  mv 8 (t 20)] [7, 19, 20])
  (.seq (.ops [mv 21 (t 8),
  o 22 (.ibin .gtr (t 21) (k 0)),
  os 23 (.mov (t 22)),
  gt 23 24 (.mov (t 1)),
  gt 23 25 (.mov (t 8)),
  gt 23 26 (.call (t 24) [(t 25)]),
  o 27 (.pick (t 23) (t 26) (kb false))] [21, 22, 23, 24, 25, 26])
  (.cond (t 27)
   (.ops [mv 28 (t 5),
   mv 29 (t 8),
   o 30 (.mkSl true 3 1 [(i 0)] [(0, 1, (t 29))]),
   o 31 (.app 3 1 8 [(i 0)] (t 28) (t 30)),
   mv 5 (t 31)] [8, 28, 29, 30, 31])
   (.skip))))))
  (.ops [ad 32 (t 15) (k 1),
  mv 15 (t 32)] [32])))))))
 (.seq (.ops [mv 33 (t 5),
 mv 4 (t 33)] [5, 33])
 (.ret))))
def r_wal_Log_segments : List RRes := [.tmp 4]
theorem fo_wal_Log_segments {args : List Value} {M : Mem} {R : Value → Mem → Prop} (hn : args.length ≤ 34) (h : vfn Tryz.prog c_wal_Log_segments r_wal_Log_segments args M R) : CallsM Tryz.prog F.wal_Log_segments args M R :=
  fn_ok (kf := k_wal_Log_segments) Tryz.func113 (by kernel_rfl) (by kernel_rfl) hn (by kernel_rfl) h
/-- (*portage/wal.Log).open$1 -/
def k_wal_Log_open_1 (i : Nat) : List Nat := match i with | 0 => [3] | 1 => [0, 1, 4, 5, 6, 7, 8, 9] | _ => []
def c_wal_Log_open_1 : RCode :=
 .seq (.ops [mv 3 (kb false)] [3])
 (.seq (.ops [mv 4 (t 0),
 l1 5 (t 1),
 o 6 (.nilck (t 5)),
 fa 7 1 (t 6),
 l1 8 (t 7),
 o 9 (.ibin .lss (t 4) (t 8)),
 mv 3 (t 9)] [0, 1, 4, 5, 6, 7, 8, 9])
 (.ret))
def r_wal_Log_open_1 : List RRes := [.tmp 3]
theorem fo_wal_Log_open_1 {args : List Value} {M : Mem} {R : Value → Mem → Prop} (hn : args.length ≤ 10) (h : vfn Tryz.prog c_wal_Log_open_1 r_wal_Log_open_1 args M R) : CallsM Tryz.prog F.wal_Log_open_1 args M R :=
  fn_ok (kf := k_wal_Log_open_1) Tryz.func114 (by kernel_rfl) (by kernel_rfl) hn (by kernel_rfl) h
/-- portage/record.Scan -/
def k_record_Scan (i : Nat) : List Nat := match i with | 0 => [2, 3] | 3 => [0, 8] | 4 => [10] | 5 => [11] | 6 => [12, 13, 14, 15] | 7 => [6, 7, 16, 17, 18, 19, 20] | 8 => [4, 5, 21, 22] | _ => []
def c_record_Scan : RCode :=
 .seq (.ops [mv 2 (.const sn),
 mv 3 (k 0)] [2, 3])
 (.seq (.ops [o 4 (.alloc 131 [sn])] [])
 (.seq (.ops [o 5 (.alloc 3 [(i 0)]),
 st 1 (t 5) (k 0)] [])
 (.seq (.seq (.ops [mv 8 (t 0),
 ca 9 F.record_rows [(t 8)]] [0, 8])
 (.block 0 (.rfun ((t 9)) [10, 11] (.seq (.ops [mv 6 (t 10)] [10])
  (.ops [mv 7 (t 11)] [11]))
  (.block 1 (.seq (.ops [l1 12 (t 4),
  mv 13 (t 7),
  o 14 (.mkSl true 44 1 [sn] [(0, 1, (t 13))]),
  o 15 (.app 44 1 24 [sn] (t 12) (t 14)),
  st 1 (t 4) (t 15)] [12, 13, 14, 15])
  (.ops [mv 16 (t 6),
  ad 17 (t 16) (k 8),
  mv 18 (t 7),
  o 19 (.len (t 18)),
  ad 20 (t 17) (t 19),
  st 1 (t 5) (t 20)] [6, 7, 16, 17, 18, 19, 20]))))))
 (.seq (.draw (.take (l1 21 (t 4)) (.take (l1 22 (t 5)) (.take (mv 2 (t 21)) (.take (mv 3 (t 22)) (.done))))) [4, 5, 21, 22])
 (.ret)))))
def r_record_Scan : List RRes := [.tmp 2, .tmp 3]
theorem fo_record_Scan {args : List Value} {M : Mem} {R : Value → Mem → Prop} (hn : args.length ≤ 23) (h : vfn Tryz.prog c_record_Scan r_record_Scan args M R) : CallsM Tryz.prog F.record_Scan args M R :=
  fn_ok (kf := k_record_Scan) Tryz.func115 (by kernel_rfl) (by kernel_rfl) hn (by kernel_rfl) h
/-- (*portage/disk.Disk).Cut -/
def k_disk_Disk_Cut (i : Nat) : List Nat := match i with | 0 => [6] | 1 => [1, 9, 10, 11, 12, 13, 14] | 2 => [15] | 3 => [8, 17] | 4 => [18, 19, 20, 21, 22, 23, 24, 25, 26, 27] | 6 => [2, 7, 29, 30, 31, 32, 33, 34, 35, 36, 37, 38, 39, 40, 41] | 7 => [0, 42, 43] | _ => []
def c_disk_Disk_Cut : RCode :=
 .seq (.ops [mv 6 (k 0)] [6])
 (.seq (.ops [mv 10 (t 0),
 mv 11 (t 1),
 ca 12 F.disk_Disk_there [(t 10), (t 11)],
 mv 9 (t 12),
 ex 13 (t 9) 0,
 ex 14 (t 9) 1,
 mv 7 (t 13),
 mv 8 (t 14)] [1, 9, 10, 11, 12, 13, 14])
 (.seq (.seq (.ops [mv 15 (t 8),
 o 16 (.ibin .neq (t 15) (k 0))] [15])
 (.cond (t 16)
  (.seq (.ops [mv 17 (t 8),
  mv 6 (t 17)] [8, 17])
  (.ret))
  (.skip)))
 (.seq (.seq (.ops [mv 18 (t 2),
 o 19 (.ibin .lss (t 18) (k 0)),
 os 20 (.mov (t 19)),
 gf 20 21 (.mov (t 2)),
 gf 20 22 (.mov (t 7)),
 gf 20 23 (.nilck (t 22)),
 gf 20 24 (.faddr 0 (t 23)),
 gf 20 25 (.load false 1 (t 24)),
 gf 20 26 (.len (t 25)),
 gf 20 27 (.ibin .gtr (t 21) (t 26)),
 o 28 (.pick (t 20) (kb true) (t 27))] [18, 19, 20, 21, 22, 23, 24, 25, 26, 27])
 (.cond (t 28)
  (.seq (.ops [mv 6 (k 1)] [])
  (.ret))
  (.skip)))
 (.seq (.ops [mv 29 (t 7),
 mv 30 (t 7),
 mv 31 (t 7),
 o 32 (.nilck (t 31)),
 fa 33 0 (t 32),
 l1 34 (t 33),
 mv 35 (t 2),
 o 36 (.slx 1 (t 34) none (some (t 35))),
 mv 37 (t 2),
 o 38 (.nilck (t 29)),
 fa 39 0 (t 38),
 st 1 (t 39) (t 36),
 o 40 (.nilck (t 30)),
 fa 41 1 (t 40),
 st 1 (t 41) (t 37)] [2, 7, 29, 30, 31, 32, 33, 34, 35, 36, 37, 38, 39, 40, 41])
 (.seq (.ops [mv 42 (t 0),
 ca 43 F.disk_Disk_changed [(t 42)],
 mv 6 (t 43)] [0, 42, 43])
 (.ret))))))
def r_disk_Disk_Cut : List RRes := [.tmp 6]
theorem fo_disk_Disk_Cut {args : List Value} {M : Mem} {R : Value → Mem → Prop} (hn : args.length ≤ 44) (h : vfn Tryz.prog c_disk_Disk_Cut r_disk_Disk_Cut args M R) : CallsM Tryz.prog F.disk_Disk_Cut args M R :=
  fn_ok (kf := k_disk_Disk_Cut) Tryz.func116 (by kernel_rfl) (by kernel_rfl) hn (by kernel_rfl) h
/-- (*portage/wal.Log).open$2 -/
def k_wal_Log_open_2 (i : Nat) : List Nat := match i with | 0 => [3] | 1 => [0, 1, 4, 5, 6] | _ => []
def c_wal_Log_open_2 : RCode :=
 .seq (.ops [mv 3 (kb false)] [3])
 (.seq (.ops [mv 4 (t 0),
 l1 5 (t 1),
 o 6 (.ibin .geq (t 4) (t 5)),
 mv 3 (t 6)] [0, 1, 4, 5, 6])
 (.ret))
def r_wal_Log_open_2 : List RRes := [.tmp 3]
theorem fo_wal_Log_open_2 {args : List Value} {M : Mem} {R : Value → Mem → Prop} (hn : args.length ≤ 7) (h : vfn Tryz.prog c_wal_Log_open_2 r_wal_Log_open_2 args M R) : CallsM Tryz.prog F.wal_Log_open_2 args M R :=
  fn_ok (kf := k_wal_Log_open_2) Tryz.func117 (by kernel_rfl) (by kernel_rfl) hn (by kernel_rfl) h
/-- slices.Reverse[[]int,int] -/
def k_slices_Reverse_int_int (i : Nat) : List Nat := match i with | 0 => [4, 5, 6] | 1 => [7, 8] | 3 => [14, 15, 16, 17, 18, 19, 20, 21, 22, 23, 24, 25, 26, 27] | 2 => [10, 11, 12, 13] | _ => []
def c_slices_Reverse_int_int : RCode :=
 .seq (.ops [mv 4 (t 0),
 o 5 (.len (t 4)),
 o 6 (.ibin .sub (t 5) (k 1)),
 mv 2 (k 0),
 mv 3 (t 6)] [4, 5, 6])
 (.block 0 (.loop (.seq (.seq (.ops [mv 7 (t 2),
  mv 8 (t 3),
  o 9 (.ibin .lss (t 7) (t 8))] [7, 8])
  (.cond (t 9)
   (.skip)
   (.exit 0)))
  (.seq (.block 1 (.draw (.take (mv 14 (t 0)) (.take (mv 15 (t 2)) (.take (mv 16 (t 0)) (.take (mv 17 (t 3)) (.take (mv 18 (t 0)) (.take (mv 19 (t 3)) (.take (o 20 (.iaddr 1 (t 18) (t 19))) (.take (l1 21 (t 20)) (.take (mv 22 (t 0)) (.take (mv 23 (t 2)) (.take (o 24 (.iaddr 1 (t 22) (t 23))) (.take (l1 25 (t 24)) (.take (o 26 (.iaddr 1 (t 14) (t 15))) (.alt (st 1 (t 26) (t 21)) false
   (.take (o 27 (.iaddr 1 (t 16) (t 17))) (.alt (st 1 (t 27) (t 25)) false
    (.done)
    (.none)))
   (.none))))))))))))))) [14, 15, 16, 17, 18, 19, 20, 21, 22, 23, 24, 25, 26, 27]))
  (.ops [mv 10 (t 2),
  ad 11 (t 10) (k 1),
  mv 12 (t 3),
  o 13 (.ibin .sub (t 12) (k 1)),
  mv 2 (t 11),
  mv 3 (t 13)] [10, 11, 12, 13])))))
def r_slices_Reverse_int_int : List RRes := []
theorem fo_slices_Reverse_int_int {args : List Value} {M : Mem} {R : Value → Mem → Prop} (hn : args.length ≤ 28) (h : vfn Tryz.prog c_slices_Reverse_int_int r_slices_Reverse_int_int args M R) : CallsM Tryz.prog F.slices_Reverse_int_int args M R :=
  fn_ok (kf := k_slices_Reverse_int_int) Tryz.func118 (by kernel_rfl) (by kernel_rfl) hn (by kernel_rfl) h
/-- portage/store.form -/
def k_store_form (i : Nat) : List Nat := match i with | 0 => [0, 2] | 1 => [4] | 3 => [7] | 4 => [1, 8, 9, 10, 11, 12, 13, 14, 15, 16, 17, 18] | 6 => [21] | 7 => [1, 22, 23, 24] | 8 => [26] | 9 => [5, 27] | 10 => [28, 29, 30, 31] | 11 => [32] | 12 => [3, 34] | 13 => [1, 35, 36, 37, 38] | _ => []
def c_store_form : RCode :=
 .seq (.ops [o 1 (.box 135 (t 0)),
 mv 2 (k 0)] [0, 2])
 (.seq (.seq (.ops [fa 4 0 (t 1),
 l1 5 (t 4)] [4])
 (.block 0 (.seq (.ops [o 7 (.ibin .eql (t 5) (k 1)),
 mv 6 (t 7)] [7])
 (.cond (t 6)
  (.seq (.ops [fa 8 1 (t 1),
  fa 9 0 (t 8),
  la 10 4 (t 9),
  o 11 (.build [(i 0), (i 0), (i 0), (i 0)] []),
  o 12 (.aeq .neq 4 (t 10) (t 11)),
  os 13 (.mov (t 12)),
  gf 13 14 (.faddr 1 (t 1)),
  gf 13 15 (.faddr 4 (t 14)),
  gf 13 16 (.load false 1 (t 15)),
  gf 13 17 (.len (t 16)),
  gf 13 18 (.ibin .gtr (t 17) (k 0)),
  o 19 (.pick (t 13) (kb true) (t 18))] [1, 8, 9, 10, 11, 12, 13, 14, 15, 16, 17, 18])
  (.cond (t 19)
   (.seq (.ops [mv 2 (k 2)] [])
   (.ret))
   (.skip)))
  (.seq (.ops [o 21 (.ibin .eql (t 5) (k 2)),
  mv 20 (t 21)] [21])
  (.cond (t 20)
   (.seq (.ops [fa 22 1 (t 1),
   la 23 5 (t 22),
   ca 24 F.msg_CheckMsg [(t 23)],
   mv 2 (t 24)] [1, 22, 23, 24])
   (.ret))
   (.seq (.seq (.ops [o 26 (.ibin .eql (t 5) (k 3)),
   mv 25 (t 26)] [26])
   (.cond (t 25)
    (.skip)
    (.ops [o 27 (.ibin .eql (t 5) (k 4)),
    mv 25 (t 27)] [5, 27])))
   (.cond (t 25)
    (.seq (.seq (.ops [fa 28 1 (t 1),
    fa 29 0 (t 28),
    la 30 4 (t 29),
    ca 31 F.msg_Check [(t 30)],
    mv 3 (t 31)] [28, 29, 30, 31])
    (.seq (.ops [mv 32 (t 3),
    o 33 (.ibin .neq (t 32) (k 0))] [32])
    (.cond (t 33)
     (.seq (.ops [mv 34 (t 3),
     mv 2 (t 34)] [3, 34])
     (.ret))
     (.skip))))
    (.seq (.ops [fa 35 1 (t 1),
    fa 36 4 (t 35),
    l1 37 (t 36),
    o 38 (.len (t 37)),
    o 39 (.ibin .gtr (t 38) (k 0))] [1, 35, 36, 37, 38])
    (.cond (t 39)
     (.seq (.ops [mv 2 (k 2)] [])
     (.ret))
     (.skip))))
    (.seq (.ops [mv 2 (k 1)] [])
    (.ret))))))))))
 (.seq (.ops [mv 2 (k 0)] [])
 (.ret)))
def r_store_form : List RRes := [.tmp 2]
theorem fo_store_form {args : List Value} {M : Mem} {R : Value → Mem → Prop} (hn : args.length ≤ 40) (h : vfn Tryz.prog c_store_form r_store_form args M R) : CallsM Tryz.prog F.store_form args M R :=
  fn_ok (kf := k_store_form) Tryz.func119 (by kernel_rfl) (by kernel_rfl) hn (by kernel_rfl) h
/-- (*portage/seen.Set).May -/
def k_seen_Set_May (i : Nat) : List Nat := match i with | 0 => [1, 4] | 1 => [6] | 3 => [8, 9] | 4 => [10] | 5 => [5, 12] | 6 => [13, 14] | 8 => [0, 3, 16, 17, 18, 19, 20, 21, 22, 23, 24, 25, 26, 27, 28, 29, 30, 31, 32, 33] | _ => []
def c_seen_Set_May : RCode :=
 .seq (.ops [o 3 (.box 42 (t 1)),
 mv 4 (k 0)] [1, 4])
 (.seq (.seq (.ops [mv 6 (t 0),
 o 7 (.pnil .eql (t 6) (.const (.pointer none)))] [6])
 (.cond (t 7)
  (.seq (.ops [mv 4 (k 7)] [])
  (.ret))
  (.skip)))
 (.seq (.seq (.ops [la 8 4 (t 3),
 ca 9 F.msg_Check [(t 8)],
 mv 5 (t 9)] [8, 9])
 (.seq (.ops [mv 10 (t 5),
 o 11 (.ibin .neq (t 10) (k 0))] [10])
 (.cond (t 11)
  (.seq (.ops [mv 12 (t 5),
  mv 4 (t 12)] [5, 12])
  (.ret))
  (.skip))))
 (.seq (.seq (.ops [mv 13 (t 0),
 la 14 4 (t 3),
 ca 15 F.seen_Set_Has [(t 13), (t 14)]] [13, 14])
 (.cond (t 15)
  (.seq (.ops [mv 4 (k 5)] [])
  (.ret))
  (.skip)))
 (.seq (.seq (.draw (.take (fa 16 3 (t 3)) (.take (l1 17 (t 16)) (.take (mv 18 (t 0)) (.take (la 19 4 (t 3)) (.alt (ca 20 F.seen_Set_of [(t 18), (t 19)]) true
  (.take (o 21 (.nilck (t 20))) (.take (fa 22 0 (t 21)) (.take (l1 23 (t 22)) (.take (ad 24 (t 23) (k 1)) (.take (o 25 (.ibin .neq (t 17) (t 24))) (.take (os 26 (.mov (t 25))) (.take (gt 26 27 (.mov (t 0))) (.take (gt 26 29 (.mov (t 0))) (.take (gt 26 30 (.nilck (t 29))) (.take (gt 26 31 (.faddr 0 (t 30))) (.take (gt 26 32 (.load false 1 (t 31))) (.alt (gt 26 28 (.call (fn F.seen_Set_Gaps) [(t 27)])) true
   (.take (gt 26 33 (.ibin .geq (t 28) (t 32))) (.take (o 34 (.pick (t 26) (t 33) (kb false))) (.done)))
   (.none)))))))))))))
  (.none)))))) [0, 3, 16, 17, 18, 19, 20, 21, 22, 23, 24, 25, 26, 27, 28, 29, 30, 31, 32, 33])
 (.cond (t 34)
  (.seq (.ops [mv 4 (k 6)] [])
  (.ret))
  (.skip)))
 (.seq (.ops [mv 4 (k 0)] [])
 (.ret))))))
def r_seen_Set_May : List RRes := [.tmp 4]
theorem fo_seen_Set_May {args : List Value} {M : Mem} {R : Value → Mem → Prop} (hn : args.length ≤ 35) (h : vfn Tryz.prog c_seen_Set_May r_seen_Set_May args M R) : CallsM Tryz.prog F.seen_Set_May args M R :=
  fn_ok (kf := k_seen_Set_May) Tryz.func120 (by kernel_rfl) (by kernel_rfl) hn (by kernel_rfl) h
/-- (*portage/seen.Set).of -/
def k_seen_Set_of (i : Nat) : List Nat := match i with | 0 => [1, 4] | 1 => [0, 3, 6, 7, 8, 9, 10, 11, 12, 13, 14, 15] | 2 => [16] | 3 => [5, 18] | 4 => [19, 20] | _ => []
def c_seen_Set_of : RCode :=
 .seq (.ops [o 3 (.box 42 (t 1)),
 mv 4 (.const (.pointer none))] [1, 4])
 (.seq (.seq (.draw (.take (mv 6 (t 0)) (.take (o 7 (.nilck (t 6))) (.take (fa 8 1 (t 7)) (.take (l1 9 (t 8)) (.take (fa 10 0 (t 3)) (.take (l1 11 (t 10)) (.take (fa 12 2 (t 3)) (.take (l1 13 (t 12)) (.take (o 14 (.build [(i 0), (i 0)] [(0, 1, (t 11)), (1, 1, (t 13))])) (.take (o 15 (.mget (.agg 2) false (.pointer none) (t 9) (t 14))) (.take (mv 5 (t 15)) (.done)))))))))))) [0, 3, 6, 7, 8, 9, 10, 11, 12, 13, 14, 15])
 (.seq (.ops [mv 16 (t 5),
 o 17 (.pnil .neq (t 16) (.const (.pointer none)))] [16])
 (.cond (t 17)
  (.seq (.ops [mv 18 (t 5),
  mv 4 (t 18)] [5, 18])
  (.ret))
  (.skip))))
 (.seq (.ops [o 19 (.build [(i 0), sn] []),
 o 20 (.box 181 (t 19)),
 mv 4 (t 20)] [19, 20])
 (.ret)))
def r_seen_Set_of : List RRes := [.tmp 4]
theorem fo_seen_Set_of {args : List Value} {M : Mem} {R : Value → Mem → Prop} (hn : args.length ≤ 21) (h : vfn Tryz.prog c_seen_Set_of r_seen_Set_of args M R) : CallsM Tryz.prog F.seen_Set_of args M R :=
  fn_ok (kf := k_seen_Set_of) Tryz.func121 (by kernel_rfl) (by kernel_rfl) hn (by kernel_rfl) h
/-- slices.BinarySearch[[]int,int] -/
def k_slices_BinarySearch_int_int (i : Nat) : List Nat := match i with | 0 => [4, 5] | 1 => [10, 11] | 2 => [12] | 3 => [13, 14] | 4 => [16, 17, 18, 19, 20, 21] | 5 => [22, 23, 24, 25, 26] | 6 => [9, 28, 29] | 7 => [9, 30] | 8 => [0, 1, 6, 7, 31, 32, 33, 34, 35, 36, 37, 38, 39, 40, 41, 42, 43, 44, 45, 46, 47, 48, 49, 50, 51, 52, 53] | _ => []
def c_slices_BinarySearch_int_int : RCode :=
 .seq (.ops [mv 4 (k 0),
 mv 5 (kb false)] [4, 5])
 (.seq (.ops [mv 10 (t 0),
 o 11 (.len (t 10)),
 mv 6 (t 11)] [10, 11])
 (.seq (.ops [mv 12 (t 6),
 mv 7 (k 0),
 mv 8 (t 12)] [12])
 (.seq (.block 0 (.loop (.seq (.seq (.ops [mv 13 (t 7),
  mv 14 (t 8),
  o 15 (.ibin .lss (t 13) (t 14))] [13, 14])
  (.cond (t 15)
   (.skip)
   (.exit 0)))
  (.block 1 (.seq (.ops [mv 16 (t 7),
  mv 17 (t 8),
  ad 18 (t 16) (t 17),
  o 19 (.conv .u64 (t 18)),
  o 20 (.ibin .shr (t 19) (.const (.int .u64 1))),
  o 21 (.conv .i64 (t 20)),
  mv 9 (t 21)] [16, 17, 18, 19, 20, 21])
  (.seq (.ops [mv 22 (t 0),
  mv 23 (t 9),
  o 24 (.iaddr 1 (t 22) (t 23)),
  l1 25 (t 24),
  mv 26 (t 1),
  ca 27 F.cmp_Less_int [(t 25), (t 26)]] [22, 23, 24, 25, 26])
  (.cond (t 27)
   (.ops [mv 28 (t 9),
   ad 29 (t 28) (k 1),
   mv 7 (t 29)] [9, 28, 29])
   (.ops [mv 30 (t 9),
   mv 8 (t 30)] [9, 30]))))))))
 (.seq (.ops [mv 31 (t 7),
 mv 32 (t 7),
 mv 33 (t 6),
 o 34 (.ibin .lss (t 32) (t 33)),
 os 35 (.mov (t 34)),
 gt 35 36 (.mov (t 0)),
 gt 35 37 (.mov (t 7)),
 gt 35 38 (.iaddr 1 (t 36) (t 37)),
 gt 35 39 (.load false 1 (t 38)),
 gt 35 40 (.mov (t 1)),
 gt 35 41 (.ibin .eql (t 39) (t 40)),
 ⟨(some 42), .mov (t 41), some (35, true), true⟩,
 gf 42 43 (.mov (t 0)),
 gf 42 44 (.mov (t 7)),
 gf 42 45 (.iaddr 1 (t 43) (t 44)),
 gf 42 46 (.load false 1 (t 45)),
 gf 42 47 (.call (fn F.slices_isNaN_int) [(t 46)]),
 ⟨(some 48), .mov (t 47), some (42, false), true⟩,
 gt 48 49 (.mov (t 1)),
 gt 48 50 (.call (fn F.slices_isNaN_int) [(t 49)]),
 gf 42 51 (.pick (t 48) (t 50) (kb false)),
 gt 35 52 (.pick (t 42) (kb true) (t 51)),
 o 53 (.pick (t 35) (t 52) (kb false)),
 mv 4 (t 31),
 mv 5 (t 53)] [0, 1, 6, 7, 31, 32, 33, 34, 35, 36, 37, 38, 39, 40, 41, 42, 43, 44, 45, 46, 47, 48, 49, 50, 51, 52, 53])
 (.ret)))))
def r_slices_BinarySearch_int_int : List RRes := [.tmp 4, .tmp 5]
theorem fo_slices_BinarySearch_int_int {args : List Value} {M : Mem} {R : Value → Mem → Prop} (hn : args.length ≤ 54) (h : vfn Tryz.prog c_slices_BinarySearch_int_int r_slices_BinarySearch_int_int args M R) : CallsM Tryz.prog F.slices_BinarySearch_int_int args M R :=
  fn_ok (kf := k_slices_BinarySearch_int_int) Tryz.func122 (by kernel_rfl) (by kernel_rfl) hn (by kernel_rfl) h
/-- portage/msg.Put -/
def k_msg_Put (i : Nat) : List Nat := match i with | 0 => [0, 2, 3] | 1 => [7, 8] | 2 => [9] | 3 => [4, 11] | 4 => [6, 12, 13, 14, 15, 16, 17] | 5 => [1, 5, 18, 19, 20, 21] | _ => []
def c_msg_Put : RCode :=
 .seq (.ops [o 1 (.box 51 (t 0)),
 mv 2 (.const sn),
 mv 3 (k 0)] [0, 2, 3])
 (.seq (.seq (.ops [la 7 5 (t 1),
 ca 8 F.msg_CheckMsg [(t 7)],
 mv 4 (t 8)] [7, 8])
 (.seq (.ops [mv 9 (t 4),
 o 10 (.ibin .neq (t 9) (k 0))] [9])
 (.cond (t 10)
  (.seq (.ops [mv 11 (t 4),
  mv 2 (.const sn),
  mv 3 (t 11)] [4, 11])
  (.ret))
  (.skip))))
 (.seq (.ops [fa 13 0 (t 1),
 la 14 4 (t 13),
 ca 15 F.msg_PutId [(t 14)],
 mv 12 (t 15),
 ex 16 (t 12) 0,
 ex 17 (t 12) 1,
 mv 5 (t 16),
 mv 6 (t 17)] [6, 12, 13, 14, 15, 16, 17])
 (.seq (.ops [mv 18 (t 5),
 fa 19 4 (t 1),
 l1 20 (t 19),
 o 21 (.app 5 1 1 [(u 0)] (t 18) (t 20)),
 mv 2 (t 21),
 mv 3 (k 0)] [1, 5, 18, 19, 20, 21])
 (.ret))))
def r_msg_Put : List RRes := [.tmp 2, .tmp 3]
theorem fo_msg_Put {args : List Value} {M : Mem} {R : Value → Mem → Prop} (hn : args.length ≤ 22) (h : vfn Tryz.prog c_msg_Put r_msg_Put args M R) : CallsM Tryz.prog F.msg_Put args M R :=
  fn_ok (kf := k_msg_Put) Tryz.func124 (by kernel_rfl) (by kernel_rfl) hn (by kernel_rfl) h
/-- portage/msg.PutId -/
def k_msg_PutId (i : Nat) : List Nat := match i with | 0 => [0, 2, 3] | 1 => [6, 7] | 2 => [8] | 3 => [4, 10] | 4 => [11, 12, 13, 14, 15, 16, 17] | 5 => [18, 19, 20, 21, 22, 23, 24, 25] | 6 => [1, 26, 27, 28, 29, 30, 31, 32, 33] | 7 => [5, 34] | _ => []
def c_msg_PutId : RCode :=
 .seq (.ops [o 1 (.box 42 (t 0)),
 mv 2 (.const sn),
 mv 3 (k 0)] [0, 2, 3])
 (.seq (.seq (.ops [la 6 4 (t 1),
 ca 7 F.msg_Check [(t 6)],
 mv 4 (t 7)] [6, 7])
 (.seq (.ops [mv 8 (t 4),
 o 9 (.ibin .neq (t 8) (k 0))] [8])
 (.cond (t 9)
  (.seq (.ops [mv 10 (t 4),
  mv 2 (.const sn),
  mv 3 (t 10)] [4, 10])
  (.ret))
  (.skip))))
 (.seq (.ops [fa 11 0 (t 1),
 l1 12 (t 11),
 o 13 (.conv .u8 (t 12)),
 fa 14 1 (t 1),
 l1 15 (t 14),
 o 16 (.conv .u8 (t 15)),
 o 17 (.mkSl false 5 2 [(u 0), (u 0)] [(0, 1, (t 13)), (1, 1, (t 16))]),
 mv 5 (t 17)] [11, 12, 13, 14, 15, 16, 17])
 (.seq (.ops [mv 19 (t 5),
 fa 20 2 (t 1),
 l1 21 (t 20),
 o 22 (.conv .u64 (t 21)),
 ca 23 F.bits_Put [(t 19), (t 22), (k 2)],
 mv 18 (t 23),
 ex 24 (t 18) 0,
 ex 25 (t 18) 1,
 mv 5 (t 24)] [18, 19, 20, 21, 22, 23, 24, 25])
 (.seq (.ops [mv 27 (t 5),
 fa 28 3 (t 1),
 l1 29 (t 28),
 o 30 (.conv .u64 (t 29)),
 ca 31 F.bits_Put [(t 27), (t 30), (k 2)],
 mv 26 (t 31),
 ex 32 (t 26) 0,
 ex 33 (t 26) 1,
 mv 5 (t 32)] [1, 26, 27, 28, 29, 30, 31, 32, 33])
 (.seq (.ops [mv 34 (t 5),
 mv 2 (t 34),
 mv 3 (k 0)] [5, 34])
 (.ret))))))
def r_msg_PutId : List RRes := [.tmp 2, .tmp 3]
theorem fo_msg_PutId {args : List Value} {M : Mem} {R : Value → Mem → Prop} (hn : args.length ≤ 35) (h : vfn Tryz.prog c_msg_PutId r_msg_PutId args M R) : CallsM Tryz.prog F.msg_PutId args M R :=
  fn_ok (kf := k_msg_PutId) Tryz.func125 (by kernel_rfl) (by kernel_rfl) hn (by kernel_rfl) h
/-- (*portage/wal.Log).ready -/
def k_wal_Log_ready (i : Nat) : List Nat := match i with | 0 => [2] | 1 => [0, 3, 4, 5, 6, 7, 8, 9] | _ => []
def c_wal_Log_ready : RCode :=
 .seq (.ops [mv 2 (k 0)] [2])
 (.seq (.seq (.ops [mv 3 (t 0),
 o 4 (.pnil .eql (t 3) (.const (.pointer none))),
 os 5 (.mov (t 4)),
 gf 5 6 (.mov (t 0)),
 gf 5 7 (.nilck (t 6)),
 gf 5 8 (.faddr 4 (t 7)),
 gf 5 9 (.load false 1 (t 8)),
 o 10 (.pick (t 5) (kb true) (t 9))] [0, 3, 4, 5, 6, 7, 8, 9])
 (.cond (t 10)
  (.seq (.ops [mv 2 (k 7)] [])
  (.ret))
  (.skip)))
 (.seq (.ops [mv 2 (k 0)] [])
 (.ret)))
def r_wal_Log_ready : List RRes := [.tmp 2]
theorem fo_wal_Log_ready {args : List Value} {M : Mem} {R : Value → Mem → Prop} (hn : args.length ≤ 11) (h : vfn Tryz.prog c_wal_Log_ready r_wal_Log_ready args M R) : CallsM Tryz.prog F.wal_Log_ready args M R :=
  fn_ok (kf := k_wal_Log_ready) Tryz.func126 (by kernel_rfl) (by kernel_rfl) hn (by kernel_rfl) h
/-- portage/record.Put -/
def k_record_Put (i : Nat) : List Nat := match i with | 0 => [2, 3] | 1 => [8, 9] | 3 => [11, 12] | 5 => [5, 14, 15, 16, 17, 18, 19, 20] | 6 => [4, 7, 21, 22, 23, 24, 25, 26, 27, 28, 29, 30] | 7 => [0, 6, 31, 32, 33] | _ => []
def c_record_Put : RCode :=
 .seq (.ops [mv 2 (.const sn),
 mv 3 (k 0)] [2, 3])
 (.seq (.seq (.ops [mv 8 (t 0),
 o 9 (.len (t 8)),
 o 10 (.ibin .eql (t 9) (k 0))] [8, 9])
 (.cond (t 10)
  (.seq (.ops [mv 2 (.const sn),
  mv 3 (k 2)] [])
  (.ret))
  (.skip)))
 (.seq (.seq (.ops [mv 11 (t 0),
 o 12 (.len (t 11)),
 o 13 (.ibin .gtr (t 12) (k 65536))] [11, 12])
 (.cond (t 13)
  (.seq (.ops [mv 2 (.const sn),
  mv 3 (k 3)] [])
  (.ret))
  (.skip)))
 (.seq (.ops [mv 15 (t 0),
 o 16 (.len (t 15)),
 o 17 (.conv .u64 (t 16)),
 ca 18 F.bits_Put [(.const sn), (t 17), (k 4)],
 mv 14 (t 18),
 ex 19 (t 14) 0,
 ex 20 (t 14) 1,
 mv 4 (t 19),
 mv 5 (t 20)] [5, 14, 15, 16, 17, 18, 19, 20])
 (.seq (.ops [mv 22 (t 4),
 mv 23 (t 4),
 mv 24 (t 0),
 o 25 (.mkSl false 44 2 [sn, sn] [(0, 1, (t 23)), (1, 1, (t 24))]),
 ca 26 F.crc_Sum [(t 25)],
 o 27 (.conv .u64 (t 26)),
 ca 28 F.bits_Put [(t 22), (t 27), (k 4)],
 mv 21 (t 28),
 ex 29 (t 21) 0,
 ex 30 (t 21) 1,
 mv 6 (t 29),
 mv 7 (t 30)] [4, 7, 21, 22, 23, 24, 25, 26, 27, 28, 29, 30])
 (.seq (.ops [mv 31 (t 6),
 mv 32 (t 0),
 o 33 (.app 5 1 1 [(u 0)] (t 31) (t 32)),
 mv 2 (t 33),
 mv 3 (k 0)] [0, 6, 31, 32, 33])
 (.ret))))))
def r_record_Put : List RRes := [.tmp 2, .tmp 3]
theorem fo_record_Put {args : List Value} {M : Mem} {R : Value → Mem → Prop} (hn : args.length ≤ 34) (h : vfn Tryz.prog c_record_Put r_record_Put args M R) : CallsM Tryz.prog F.record_Put args M R :=
  fn_ok (kf := k_record_Put) Tryz.func127 (by kernel_rfl) (by kernel_rfl) hn (by kernel_rfl) h
/-- (*portage/wal.Log).told -/
def k_wal_Log_told (i : Nat) : List Nat := match i with | 0 => [4] | 1 => [0, 5, 6, 7, 8, 9, 10, 11, 12, 13, 14, 15] | 2 => [1, 16] | _ => []
def c_wal_Log_told : RCode :=
 .seq (.ops [mv 4 (k 0)] [4])
 (.seq (.ops [mv 5 (t 0),
 mv 6 (t 0),
 o 7 (.nilck (t 6)),
 fa 8 4 (t 7),
 l1 9 (t 8),
 os 10 (.mov (t 9)),
 gf 10 11 (.mov (t 1)),
 gf 10 12 (.ibin .eql (t 11) (k 9)),
 o 13 (.pick (t 10) (kb true) (t 12)),
 o 14 (.nilck (t 5)),
 fa 15 4 (t 14),
 st 1 (t 15) (t 13)] [0, 5, 6, 7, 8, 9, 10, 11, 12, 13, 14, 15])
 (.seq (.ops [mv 16 (t 1),
 mv 4 (t 16)] [1, 16])
 (.ret)))
def r_wal_Log_told : List RRes := [.tmp 4]
theorem fo_wal_Log_told {args : List Value} {M : Mem} {R : Value → Mem → Prop} (hn : args.length ≤ 17) (h : vfn Tryz.prog c_wal_Log_told r_wal_Log_told args M R) : CallsM Tryz.prog F.wal_Log_told args M R :=
  fn_ok (kf := k_wal_Log_told) Tryz.func128 (by kernel_rfl) (by kernel_rfl) hn (by kernel_rfl) h
/-- (*portage/wal.Log).length -/
def k_wal_Log_length (i : Nat) : List Nat := match i with | 0 => [4] | 1 => [7, 8, 9, 10, 11, 12, 13, 14, 15, 16] | 2 => [6, 17] | 3 => [0, 1, 19, 20, 21, 22, 23, 24, 25] | 4 => [5, 26, 27] | _ => []
def c_wal_Log_length : RCode :=
 .seq (.ops [mv 4 (k 0)] [4])
 (.seq (.draw (.take (mv 8 (t 0)) (.take (o 9 (.nilck (t 8))) (.take (fa 10 0 (t 9)) (.take (l1 11 (t 10)) (.take (mv 12 (t 1)) (.alt (ca 13 F.wal_Name [(t 12)]) true
  (.alt (ca 14 F.disk_Disk_Read [(t 11), (t 13)]) false
   (.take (mv 7 (t 14)) (.take (ex 15 (t 7) 0) (.take (ex 16 (t 7) 1) (.take (mv 5 (t 15)) (.take (mv 6 (t 16)) (.done))))))
   (.none))
  (.none))))))) [7, 8, 9, 10, 11, 12, 13, 14, 15, 16])
 (.seq (.seq (.ops [mv 17 (t 6),
 o 18 (.ibin .eql (t 17) (k 9))] [6, 17])
 (.cond (t 18)
  (.seq (.draw (.take (mv 19 (t 0)) (.take (o 20 (.nilck (t 19))) (.take (fa 21 0 (t 20)) (.take (l1 22 (t 21)) (.take (mv 23 (t 1)) (.alt (ca 24 F.wal_Name [(t 23)]) true
   (.alt (ca 25 F.disk_Disk_Safe [(t 22), (t 24)]) false
    (.take (mv 4 (t 25)) (.done))
    (.none))
   (.none))))))) [0, 1, 19, 20, 21, 22, 23, 24, 25])
  (.ret))
  (.skip)))
 (.seq (.ops [mv 26 (t 5),
 o 27 (.len (t 26)),
 mv 4 (t 27)] [5, 26, 27])
 (.ret))))
def r_wal_Log_length : List RRes := [.tmp 4]
theorem fo_wal_Log_length {args : List Value} {M : Mem} {R : Value → Mem → Prop} (hn : args.length ≤ 28) (h : vfn Tryz.prog c_wal_Log_length r_wal_Log_length args M R) : CallsM Tryz.prog F.wal_Log_length args M R :=
  fn_ok (kf := k_wal_Log_length) Tryz.func129 (by kernel_rfl) (by kernel_rfl) hn (by kernel_rfl) h
/-- (*portage/wal.Log).Begin -/
def k_wal_Log_Begin (i : Nat) : List Nat := match i with | 0 => [2, 3] | 1 => [5, 6] | 2 => [7] | 3 => [4, 9] | 4 => [10, 11, 12, 13, 14, 15] | 5 => [0, 17, 18, 19, 20] | 6 => [21, 22, 23, 24] | 8 => [26, 27, 28, 29, 30, 31, 32] | 9 => [0, 33, 34, 35, 36] | _ => []
def c_wal_Log_Begin : RCode :=
 .seq (.ops [mv 2 (k 0),
 mv 3 (k 0)] [2, 3])
 (.seq (.seq (.ops [mv 5 (t 0),
 ca 6 F.wal_Log_Sync [(t 5)],
 mv 4 (t 6)] [5, 6])
 (.seq (.ops [mv 7 (t 4),
 o 8 (.ibin .neq (t 7) (k 0))] [7])
 (.cond (t 8)
  (.seq (.ops [mv 9 (t 4),
  mv 2 (k 0),
  mv 3 (t 9)] [4, 9])
  (.ret))
  (.skip))))
 (.seq (.seq (.ops [mv 10 (t 0),
 mv 11 (t 0),
 o 12 (.nilck (t 11)),
 fa 13 2 (t 12),
 l1 14 (t 13),
 ca 15 F.wal_Log_length [(t 10), (t 14)],
 o 16 (.ibin .eql (t 15) (k 0))] [10, 11, 12, 13, 14, 15])
 (.cond (t 16)
  (.seq (.ops [mv 17 (t 0),
  o 18 (.nilck (t 17)),
  fa 19 2 (t 18),
  l1 20 (t 19),
  mv 2 (t 20),
  mv 3 (k 0)] [0, 17, 18, 19, 20])
  (.ret))
  (.skip)))
 (.seq (.seq (.ops [mv 21 (t 0),
 o 22 (.nilck (t 21)),
 fa 23 2 (t 22),
 l1 24 (t 23),
 o 25 (.ibin .eql (t 24) (k 99999))] [21, 22, 23, 24])
 (.cond (t 25)
  (.seq (.ops [mv 2 (k 0),
  mv 3 (k 1)] [])
  (.ret))
  (.skip)))
 (.seq (.ops [mv 26 (t 0),
 o 27 (.nilck (t 26)),
 fa 28 2 (t 27),
 l1 29 (t 28),
 ad 30 (t 29) (k 1),
 o 31 (.nilck (t 26)),
 fa 32 2 (t 31),
 st 1 (t 32) (t 30)] [26, 27, 28, 29, 30, 31, 32])
 (.seq (.ops [mv 33 (t 0),
 o 34 (.nilck (t 33)),
 fa 35 2 (t 34),
 l1 36 (t 35),
 mv 2 (t 36),
 mv 3 (k 0)] [0, 33, 34, 35, 36])
 (.ret))))))
def r_wal_Log_Begin : List RRes := [.tmp 2, .tmp 3]
theorem fo_wal_Log_Begin {args : List Value} {M : Mem} {R : Value → Mem → Prop} (hn : args.length ≤ 37) (h : vfn Tryz.prog c_wal_Log_Begin r_wal_Log_Begin args M R) : CallsM Tryz.prog F.wal_Log_Begin args M R :=
  fn_ok (kf := k_wal_Log_Begin) Tryz.func130 (by kernel_rfl) (by kernel_rfl) hn (by kernel_rfl) h
/-- (*portage/disk.Disk).Append -/
def k_disk_Disk_Append (i : Nat) : List Nat := match i with | 0 => [6] | 1 => [9, 10, 11, 12] | 2 => [13] | 3 => [7, 15] | 4 => [16, 17, 18, 19, 20, 21] | 5 => [22, 23, 24, 25, 26, 27, 28, 29, 30, 31, 32, 33, 34, 35, 36, 37, 38, 39, 40, 41, 42] | 7 => [44] | 8 => [46, 47] | 9 => [1, 48, 49, 50, 51, 52, 53] | 10 => [2, 8, 54, 55, 56, 57, 58, 59, 60, 61, 62] | 11 => [0, 63, 64] | _ => []
def c_disk_Disk_Append : RCode :=
 .seq (.ops [mv 6 (k 0)] [6])
 (.seq (.seq (.ops [mv 9 (t 0),
 mv 10 (t 1),
 o 11 (.mkSl false 9 1 [(.string ByteArray.empty)] [(0, 1, (t 10))]),
 ca 12 F.disk_Disk_ready [(t 9), (t 11)],
 mv 7 (t 12)] [9, 10, 11, 12])
 (.seq (.ops [mv 13 (t 7),
 o 14 (.ibin .neq (t 13) (k 0))] [13])
 (.cond (t 14)
  (.seq (.ops [mv 15 (t 7),
  mv 6 (t 15)] [7, 15])
  (.ret))
  (.skip))))
 (.seq (.ops [mv 16 (t 0),
 o 17 (.nilck (t 16)),
 fa 18 1 (t 17),
 l1 19 (t 18),
 mv 20 (t 1),
 o 21 (.mget .str false (.pointer none) (t 19) (t 20)),
 mv 8 (t 21)] [16, 17, 18, 19, 20, 21])
 (.seq (.seq (.draw (.take (mv 22 (t 2)) (.take (o 23 (.len (t 22))) (.take (mv 24 (t 0)) (.take (o 25 (.nilck (t 24))) (.take (fa 26 0 (t 25)) (.take (l1 27 (t 26)) (.take (mv 28 (t 0)) (.alt (ca 29 F.disk_Disk_Used [(t 28)]) true
  (.take (o 30 (.ibin .sub (t 27) (t 29))) (.take (o 31 (.ibin .gtr (t 23) (t 30))) (.take (os 32 (.mov (t 31))) (.take (gf 32 33 (.mov (t 8))) (.take (gf 32 34 (.pnil .eql (t 33) (.const (.pointer none)))) (.take (⟨(some 35), .mov (t 34), some (32, false), true⟩) (.take (gt 35 36 (.mov (t 0))) (.take (gt 35 37 (.nilck (t 36))) (.take (gt 35 38 (.faddr 1 (t 37))) (.take (gt 35 39 (.load false 1 (t 38))) (.take (gt 35 40 (.mlen (t 39))) (.take (gt 35 41 (.ibin .geq (t 40) (k 64))) (.take (gf 32 42 (.pick (t 35) (t 41) (kb false))) (.take (o 43 (.pick (t 32) (kb true) (t 42))) (.done)))))))))))))))
  (.none))))))))) [22, 23, 24, 25, 26, 27, 28, 29, 30, 31, 32, 33, 34, 35, 36, 37, 38, 39, 40, 41, 42])
 (.cond (t 43)
  (.seq (.ops [mv 6 (k 6)] [])
  (.ret))
  (.skip)))
 (.seq (.seq (.ops [mv 44 (t 8),
 o 45 (.pnil .eql (t 44) (.const (.pointer none)))] [44])
 (.cond (t 45)
  (.seq (.ops [o 46 (.build [sn, (i 0)] []),
  o 47 (.box 95 (t 46)),
  mv 8 (t 47)] [46, 47])
  (.ops [mv 48 (t 0),
  o 49 (.nilck (t 48)),
  fa 50 1 (t 49),
  l1 51 (t 50),
  mv 52 (t 1),
  mv 53 (t 8),
  e (.mset .str (t 51) (t 52) (t 53))] [1, 48, 49, 50, 51, 52, 53]))
  (.skip)))
 (.seq (.ops [mv 54 (t 8),
 mv 55 (t 8),
 o 56 (.nilck (t 55)),
 fa 57 0 (t 56),
 l1 58 (t 57),
 mv 59 (t 2),
 o 60 (.app 5 1 1 [(u 0)] (t 58) (t 59)),
 o 61 (.nilck (t 54)),
 fa 62 0 (t 61),
 st 1 (t 62) (t 60)] [2, 8, 54, 55, 56, 57, 58, 59, 60, 61, 62])
 (.seq (.ops [mv 63 (t 0),
 ca 64 F.disk_Disk_changed [(t 63)],
 mv 6 (t 64)] [0, 63, 64])
 (.ret)))))))
def r_disk_Disk_Append : List RRes := [.tmp 6]
theorem fo_disk_Disk_Append {args : List Value} {M : Mem} {R : Value → Mem → Prop} (hn : args.length ≤ 65) (h : vfn Tryz.prog c_disk_Disk_Append r_disk_Disk_Append args M R) : CallsM Tryz.prog F.disk_Disk_Append args M R :=
  fn_ok (kf := k_disk_Disk_Append) Tryz.func131 (by kernel_rfl) (by kernel_rfl) hn (by kernel_rfl) h
/-- (*portage/disk.Disk).Safe -/
def k_disk_Disk_Safe (i : Nat) : List Nat := match i with | 0 => [4] | 1 => [5, 6, 7, 8, 9, 10, 11, 12, 13, 14] | 3 => [0, 1, 16, 17, 18, 19, 20, 21, 22, 23, 24] | _ => []
def c_disk_Disk_Safe : RCode :=
 .seq (.ops [mv 4 (k 0)] [4])
 (.seq (.seq (.ops [mv 5 (t 0),
 o 6 (.pnil .eql (t 5) (.const (.pointer none))),
 os 7 (.mov (t 6)),
 gf 7 8 (.mov (t 0)),
 gf 7 9 (.nilck (t 8)),
 gf 7 10 (.faddr 1 (t 9)),
 gf 7 11 (.load false 1 (t 10)),
 gf 7 12 (.mov (t 1)),
 gf 7 13 (.mget .str false (.pointer none) (t 11) (t 12)),
 gf 7 14 (.pnil .eql (t 13) (.const (.pointer none))),
 o 15 (.pick (t 7) (kb true) (t 14))] [5, 6, 7, 8, 9, 10, 11, 12, 13, 14])
 (.cond (t 15)
  (.seq (.ops [mv 4 (k 0)] [])
  (.ret))
  (.skip)))
 (.seq (.ops [mv 16 (t 0),
 o 17 (.nilck (t 16)),
 fa 18 1 (t 17),
 l1 19 (t 18),
 mv 20 (t 1),
 o 21 (.mget .str false (.pointer none) (t 19) (t 20)),
 o 22 (.nilck (t 21)),
 fa 23 1 (t 22),
 l1 24 (t 23),
 mv 4 (t 24)] [0, 1, 16, 17, 18, 19, 20, 21, 22, 23, 24])
 (.ret)))
def r_disk_Disk_Safe : List RRes := [.tmp 4]
theorem fo_disk_Disk_Safe {args : List Value} {M : Mem} {R : Value → Mem → Prop} (hn : args.length ≤ 25) (h : vfn Tryz.prog c_disk_Disk_Safe r_disk_Disk_Safe args M R) : CallsM Tryz.prog F.disk_Disk_Safe args M R :=
  fn_ok (kf := k_disk_Disk_Safe) Tryz.func132 (by kernel_rfl) (by kernel_rfl) hn (by kernel_rfl) h
/-- (*portage/disk.Disk).Sync -/
def k_disk_Disk_Sync (i : Nat) : List Nat := match i with | 0 => [4] | 1 => [1, 7, 8, 9, 10, 11, 12] | 2 => [13] | 3 => [6, 15] | 4 => [5, 16, 17, 18, 19, 20, 21, 22, 23] | 5 => [0, 24, 25] | _ => []
def c_disk_Disk_Sync : RCode :=
 .seq (.ops [mv 4 (k 0)] [4])
 (.seq (.ops [mv 8 (t 0),
 mv 9 (t 1),
 ca 10 F.disk_Disk_there [(t 8), (t 9)],
 mv 7 (t 10),
 ex 11 (t 7) 0,
 ex 12 (t 7) 1,
 mv 5 (t 11),
 mv 6 (t 12)] [1, 7, 8, 9, 10, 11, 12])
 (.seq (.seq (.ops [mv 13 (t 6),
 o 14 (.ibin .neq (t 13) (k 0))] [13])
 (.cond (t 14)
  (.seq (.ops [mv 15 (t 6),
  mv 4 (t 15)] [6, 15])
  (.ret))
  (.skip)))
 (.seq (.ops [mv 16 (t 5),
 mv 17 (t 5),
 o 18 (.nilck (t 17)),
 fa 19 0 (t 18),
 l1 20 (t 19),
 o 21 (.len (t 20)),
 o 22 (.nilck (t 16)),
 fa 23 1 (t 22),
 st 1 (t 23) (t 21)] [5, 16, 17, 18, 19, 20, 21, 22, 23])
 (.seq (.ops [mv 24 (t 0),
 ca 25 F.disk_Disk_changed [(t 24)],
 mv 4 (t 25)] [0, 24, 25])
 (.ret)))))
def r_disk_Disk_Sync : List RRes := [.tmp 4]
theorem fo_disk_Disk_Sync {args : List Value} {M : Mem} {R : Value → Mem → Prop} (hn : args.length ≤ 26) (h : vfn Tryz.prog c_disk_Disk_Sync r_disk_Disk_Sync args M R) : CallsM Tryz.prog F.disk_Disk_Sync args M R :=
  fn_ok (kf := k_disk_Disk_Sync) Tryz.func133 (by kernel_rfl) (by kernel_rfl) hn (by kernel_rfl) h
/-- slices.pdqsortCmpFunc[portage/store.place] -/
def k_slices_pdqsortCmpFunc_store_place (i : Nat) : List Nat := match i with | 2 => [21, 22, 23] | 3 => [24] | 4 => [0, 1, 2, 4, 26, 27, 28, 29, 30] | 5 => [31] | 6 => [0, 1, 2, 4, 33, 34, 35, 36, 37] | 7 => [38] | 8 => [40, 41, 42, 43, 44] | 9 => [45, 46] | 10 => [47, 48, 49, 50, 51, 52, 53, 54] | 11 => [55] | 12 => [57, 58, 59, 60, 61] | 13 => [62, 63, 64, 65, 66, 67] | 15 => [14, 68, 69, 70, 71, 72, 73, 74] | 16 => [76, 77, 78, 79] | 17 => [81, 82, 83, 84, 85, 86, 87, 88, 89, 90, 91, 92, 93, 94, 95, 96] | 18 => [1, 13, 98, 99, 100, 101, 102, 103] | 19 => [15, 104] | 20 => [13, 105, 106, 107, 108, 109, 110, 111, 112, 113] | 21 => [17, 114] | 22 => [115, 116, 117, 118, 119, 120] | 23 => [12, 121, 122] | 24 => [123, 124] | 25 => [18, 20, 126, 127, 128] | 26 => [1, 129, 130, 131, 132, 133, 134] | 27 => [16, 135, 136] | 28 => [19, 20, 137, 138, 139] | 29 => [2, 140, 141, 142, 143, 144, 145, 146] | 30 => [16, 147] | _ => []
def c_slices_pdqsortCmpFunc_store_place : RCode :=
 .seq (.ops [mv 10 (kb true)] [])
 (.seq (.ops [mv 11 (kb true)] [])
 (.block 0 (.loop (.block 1 (.seq (.ops [mv 21 (t 2),
  mv 22 (t 1),
  o 23 (.ibin .sub (t 21) (t 22)),
  mv 12 (t 23)] [21, 22, 23])
  (.seq (.seq (.ops [mv 24 (t 12),
  o 25 (.ibin .leq (t 24) (k 12))] [24])
  (.cond (t 25)
   (.seq (.ops [mv 26 (t 0),
   mv 27 (t 1),
   mv 28 (t 2),
   mv 29 (t 4),
   ca 30 F.slices_insertionSortCmpFunc_store_place [(t 26), (t 27), (t 28), (t 29)]] [0, 1, 2, 4, 26, 27, 28, 29, 30])
   (.ret))
   (.skip)))
  (.seq (.seq (.ops [mv 31 (t 3),
  o 32 (.ibin .eql (t 31) (k 0))] [31])
  (.cond (t 32)
   (.seq (.ops [mv 33 (t 0),
   mv 34 (t 1),
   mv 35 (t 2),
   mv 36 (t 4),
   ca 37 F.slices_heapSortCmpFunc_store_place [(t 33), (t 34), (t 35), (t 36)]] [0, 1, 2, 4, 33, 34, 35, 36, 37])
   (.ret))
   (.skip)))
  (.seq (.seq (.ops [mv 38 (t 10),
  o 39 (.not (t 38))] [38])
  (.cond (t 39)
   (.seq (.ops [mv 40 (t 0),
   mv 41 (t 1),
   mv 42 (t 2),
   mv 43 (t 4),
   ca 44 F.slices_breakPatternsCmpFunc_store_place [(t 40), (t 41), (t 42), (t 43)]] [40, 41, 42, 43, 44])
   (.ops [mv 45 (t 3),
   o 46 (.ibin .sub (t 45) (k 1)),
   mv 3 (t 46)] [45, 46]))
   (.skip)))
  (.seq (.ops [mv 48 (t 0),
  mv 49 (t 1),
  mv 50 (t 2),
  mv 51 (t 4),
  ca 52 F.slices_choosePivotCmpFunc_store_place [(t 48), (t 49), (t 50), (t 51)],
  mv 47 (t 52),
  ex 53 (t 47) 0,
  ex 54 (t 47) 1,
  mv 13 (t 53),
  mv 14 (t 54)] [47, 48, 49, 50, 51, 52, 53, 54])
  (.seq (.seq (.ops [mv 55 (t 14),
  o 56 (.ibin .eql (t 55) (k 2))] [55])
  (.cond (t 56)
   (.seq (.ops [mv 57 (t 0),
   mv 58 (t 1),
   mv 59 (t 2),
   mv 60 (t 4),
   ca 61 F.slices_reverseRangeCmpFunc_store_place [(t 57), (t 58), (t 59), (t 60)]] [57, 58, 59, 60, 61])
   (.seq (.ops [mv 62 (t 2),
   o 63 (.ibin .sub (t 62) (k 1)),
   mv 64 (t 13),
   mv 65 (t 1),
   o 66 (.ibin .sub (t 64) (t 65)),
   o 67 (.ibin .sub (t 63) (t 66)),
   mv 13 (t 67)] [62, 63, 64, 65, 66, 67])
   (.ops [mv 14 (k 1)] [])))
   (.skip)))
  (.seq (.seq (.ops [mv 68 (t 10),
  os 69 (.mov (t 68)),
  gt 69 70 (.mov (t 11)),
  o 71 (.pick (t 69) (t 70) (kb false)),
  os 72 (.mov (t 71)),
  gt 72 73 (.mov (t 14)),
  gt 72 74 (.ibin .eql (t 73) (k 1)),
  o 75 (.pick (t 72) (t 74) (kb false))] [14, 68, 69, 70, 71, 72, 73, 74])
  (.cond (t 75)
   (.seq (.ops [mv 76 (t 0),
   mv 77 (t 1),
   mv 78 (t 2),
   mv 79 (t 4),
   ca 80 F.slices_partialInsertionSortCmpFunc_store_place [(t 76), (t 77), (t 78), (t 79)]] [76, 77, 78, 79])
   (.cond (t 80)
    (.ret)
    (.skip)))
   (.skip)))
  (.seq (.seq (.draw (.take (mv 81 (t 1)) (.take (o 82 (.ibin .gtr (t 81) (k 0))) (.take (os 83 (.mov (t 82))) (.take (gt 83 84 (.mov (t 4))) (.take (gt 83 85 (.mov (t 0))) (.take (gt 83 86 (.mov (t 1))) (.take (gt 83 87 (.ibin .sub (t 86) (k 1))) (.take (gt 83 88 (.iaddr 6 (t 85) (t 87))) (.take (gt 83 89 (.load true 6 (t 88))) (.take (gt 83 90 (.mov (t 0))) (.take (gt 83 91 (.mov (t 13))) (.take (gt 83 92 (.iaddr 6 (t 90) (t 91))) (.take (gt 83 93 (.load true 6 (t 92))) (.alt (gt 83 94 (.call (t 84) [(t 89), (t 93)])) false
   (.take (gt 83 95 (.ibin .lss (t 94) (k 0))) (.take (gt 83 96 (.not (t 95))) (.take (o 97 (.pick (t 83) (t 96) (kb false))) (.done))))
   (.none))))))))))))))) [81, 82, 83, 84, 85, 86, 87, 88, 89, 90, 91, 92, 93, 94, 95, 96])
  (.cond (t 97)
   (.seq (.ops [mv 98 (t 0),
   mv 99 (t 1),
   mv 100 (t 2),
   mv 101 (t 13),
   mv 102 (t 4),
   ca 103 F.slices_partitionEqualCmpFunc_store_place [(t 98), (t 99), (t 100), (t 101), (t 102)],
   mv 15 (t 103)] [1, 13, 98, 99, 100, 101, 102, 103])
   (.seq (.ops [mv 104 (t 15),
   mv 1 (t 104)] [15, 104])
   (.exit 1)))
   (.skip)))
  (.seq (.ops [mv 106 (t 0),
  mv 107 (t 1),
  mv 108 (t 2),
  mv 109 (t 13),
  mv 110 (t 4),
  ca 111 F.slices_partitionCmpFunc_store_place [(t 106), (t 107), (t 108), (t 109), (t 110)],
  mv 105 (t 111),
  ex 112 (t 105) 0,
  ex 113 (t 105) 1,
  mv 16 (t 112),
  mv 17 (t 113)] [13, 105, 106, 107, 108, 109, 110, 111, 112, 113])
  (.seq (.ops [mv 114 (t 17),
  mv 11 (t 114)] [17, 114])
  (.seq (.ops [mv 115 (t 16),
  mv 116 (t 1),
  o 117 (.ibin .sub (t 115) (t 116)),
  mv 118 (t 2),
  mv 119 (t 16),
  o 120 (.ibin .sub (t 118) (t 119)),
  mv 18 (t 117),
  mv 19 (t 120)] [115, 116, 117, 118, 119, 120])
  (.seq (.ops [mv 121 (t 12),
  o 122 (.ibin .quo (t 121) (k 8)),
  mv 20 (t 122)] [12, 121, 122])
  (.seq (.ops [mv 123 (t 18),
  mv 124 (t 19),
  o 125 (.ibin .lss (t 123) (t 124))] [123, 124])
  (.cond (t 125)
   (.seq (.ops [mv 126 (t 18),
   mv 127 (t 20),
   o 128 (.ibin .geq (t 126) (t 127)),
   mv 10 (t 128)] [18, 20, 126, 127, 128])
   (.seq (.ops [mv 129 (t 0),
   mv 130 (t 1),
   mv 131 (t 16),
   mv 132 (t 3),
   mv 133 (t 4),
   ca 134 F.slices_pdqsortCmpFunc_store_place [(t 129), (t 130), (t 131), (t 132), (t 133)]] [1, 129, 130, 131, 132, 133, 134])
   (.ops [mv 135 (t 16),
   ad 136 (t 135) (k 1),
   mv 1 (t 136)] [16, 135, 136])))
   (.seq (.ops [mv 137 (t 19),
   mv 138 (t 20),
   o 139 (.ibin .geq (t 137) (t 138)),
   mv 10 (t 139)] [19, 20, 137, 138, 139])
   (.seq (.ops [mv 140 (t 0),
   mv 141 (t 16),
   ad 142 (t 141) (k 1),
   mv 143 (t 2),
   mv 144 (t 3),
   mv 145 (t 4),
   ca 146 F.slices_pdqsortCmpFunc_store_place [(t 140), (t 142), (t 143), (t 144), (t 145)]] [2, 140, 141, 142, 143, 144, 145, 146])
   (.ops [mv 147 (t 16),
   mv 2 (t 147)] [16, 147])))))))))))))))))))))
def r_slices_pdqsortCmpFunc_store_place : List RRes := []
theorem fo_slices_pdqsortCmpFunc_store_place {args : List Value} {M : Mem} {R : Value → Mem → Prop} (hn : args.length ≤ 148) (h : vfn Tryz.prog c_slices_pdqsortCmpFunc_store_place r_slices_pdqsortCmpFunc_store_place args M R) : CallsM Tryz.prog F.slices_pdqsortCmpFunc_store_place args M R :=
  fn_ok (kf := k_slices_pdqsortCmpFunc_store_place) Tryz.func134 (by kernel_rfl) (by kernel_rfl) hn (by kernel_rfl) h

end Go.Proofs.YtjkejbenppeagaaGreatDoor
