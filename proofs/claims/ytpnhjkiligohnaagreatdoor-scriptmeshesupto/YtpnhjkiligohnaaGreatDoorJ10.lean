/- Part of this proof;laid by program. -/
import Derived.Test.YtpnhjkiligohnaaGreatDoorJ9
import Derived.RangeFuncNested
import Derived.RangeFuncBound
import Derived.RangeFuncCalls
import Derived.RangeFuncLeaves
import Derived.Shelf.Abstract
import Derived.Shelf.RegionOpen
import Derived.WalkKit
import Derived.OwnWalkIn
import Derived.TacticsInMore
import Derived.LoopNIn
import Derived.LoopIn
set_option linter.unusedVariables false
set_option linter.unusedSimpArgs false
namespace Go.Proofs.YtpnhjkiligohnaaGreatDoor
open Go Go.RowKit Go.Shelf Go.Vm Go.Proofs
attribute [local irreducible] Brn Ob Grow CallsM inR zay zav Mem.row Mem.cells Mem.setCells Mem.upd Go.Vm.Own zaU zbF zbE zaV New SrcOk zah NewSl Mem.textAt Mem.mapAt Mem.iterAt zak kfind Wr NewEls Elems
theorem zMC (n:Int):za3 .and .i64 n 127=n % 128:=by
 simp only[za3,IntKind.bits]
 have h1:(BitVec.ofInt 64 n &&& BitVec.ofInt 64 127).toNat=(n % 128).toNat:=by
  rw[BitVec.toNat_and,BitVec.toNat_ofInt,BitVec.toNat_ofInt];have e:((127:Int) % ((2 ^ 64:Nat):Int)).toNat=2 ^ 7 - 1:=by decide
  rw[e,Nat.and_two_pow_sub_one_eq_mod];omega
 erw [h1];simp[IntKind.wrap,IntKind.signed,IntKind.bits];omega
theorem zGr (n:Int) (M:Mem):CallsM Tryz.prog F.zag [.int .i64 n] M fun v M'=>v = .int .i64 (n % 128)∧M=M':=by
 refine zv4 (by simp) ?_
 repeat' ((conv=>whnf);first|refine⟨?_,True.intro⟩|refine⟨?_,?_,True.intro⟩|refine brn_t rfl ?_|refine brn_f rfl ?_|refine ob rfl ?_|refine obr rfl ?_|refine ob (by decide) ?_|refine obr (by decide) ?_|refine grow_same (Mem.le_refl _) ?_|refine ob (Mem.le_refl _) ?_|refine⟨_,Mem.le_refl _,?_⟩|fail)
 refine⟨?_,rfl⟩;rw[zMC]
def zbR (base:Int) (n:Nat):List Int:=(List.range n).map fun i:Nat=>(base+i) % 128
def zax (size:Int):Nat:=(min size 128).toNat
def PMW (x:Int) (Mx:Mem):Prop:=(0≤x∧x<128)∧∀ b,Mx b=none
theorem Reduce_in {n:Int} {w:World}:CallsIn Fence.wide 0 Tryz.prog F.zag #[.int .i64 n] w fun e w'=>WLe w w'∧e = .returned (.int .i64 (n % 128)):=by
 refine callsIn_wide.2 ?_;refine((zGr n Mem.empty).world (Mem.empty_le _) ?_).mono ?_
 ·rintro v M' ⟨-, rfl⟩;exact Mem.le_refl _
 ·rintro e w' ⟨v,M',rfl,⟨rfl, -⟩, -, hle, -⟩;exact⟨hle,rfl⟩
set_option maxRecDepth 100000 in
set_option maxHeartbeats 2000000 in
theorem zCW {A:Mem} {B1 B2:Nat} {base size:Int} (h1:A.has B1 T.int [.int .i64 size]) (h2:A.has B2 T.int [.int .i64 base]) (hs : -9223372036854775808≤size∧size<9223372036854775808) :
  zDt Tryz.prog F.zkq [.pointer (some ⟨B1,0,none⟩),.pointer (some ⟨B2,0,none⟩)] (fun x:Int=>[.int .i64 x]) A (zax size) PMW (fun xs=>xs=zbR base (zax size)):=fun lp J W hAW hY h0=>by
 refine callsIn_of_wp Tryz.func284 rfl trivial ?_ rfl;simp only[Tryz.ntmps284,List.size_toArray,List.length_cons,List.length_nil,Nat.reduceAdd,Nat.reduceSub,Array.replicate_succ,Array.replicate_zero,List.push_toArray,List.append_toArray,List.nil_append,List.cons_append]
 have cellOf:∀ {w:World} {B:Nat} {v:Value},A.le (zj w)→A.has B T.int [v]→w.cell? ⟨B,0,none⟩=some v:=fun {w B v} hle hB=>by
  have:=hle B _ hB;unfold World.cell?;rw[show w.heap[B]? = _ from this];rfl
 have hc1:=cellOf hAW h1;have H0:Hid (A.le (zj W)):=hAW
 have HS:Hid (-9223372036854775808≤size∧size<9223372036854775808):=hs;have HY:Hid _:=hY
 clear hAW hs
 gi_wp2
 ·have hK:(128:Int)=(zax size:Int):=by unfold zax;omega
  gi_loopw [8] (fun p wr=>∃ (k:Nat) (Wp:World),p = .int .i64 k∧k≤zax size∧J (zbR base k) Wp∧WLe Wp wr∧A.le (zj wr))
   (fun p _=>zax size - (intOf p).toNat)
  case atStart=>
   exact⟨0,W,rfl,Nat.zero_le _,by simpa[zbR] using h0,WLe.refl _,H0.out⟩
  case round=>
   obtain⟨k,Wp,rfl,hk,hJp,hwp,hle⟩:=hrel;have hc2:=cellOf hle h2
   have H3:Hid (A.le (zj wr)):=hle;have H9:Hid (WLe Wp wr):=hwp
   have HK:Hid (_=(zax size:Int)):=hK;have Hk:Hid (k≤zax size):=hk
   clear hle hwp hK hk
   gi_wp2
   ·refine⟨trivial,rfl,?_⟩;refine Reduce_in.mono ?_;rintro e w1 ⟨hle1,rfl⟩;have H4:Hid (WLe wr w1):=hle1
    clear hle1
    gi_wp2
    refine⟨trivial,rfl,?_⟩;refine Reduce_in.mono ?_;rintro e w2 ⟨hle2,rfl⟩;have hx:(base % 128+(k:Int)) % 128=(base+k) % 128:=by omega
    rw[hx];have hkN:k<zax size:=by have:=HK.out;omega
    obtain⟨fn,tmps,assign,body,hy,hR⟩:=hY (zbR base k) ((base+k) % 128) Wp w2 Mem.empty hJp ((H9.out.trans H4.out).trans hle2) (fun b o hb=>hle2.same b o (H4.out.same b o (H3.out b o hb))) (by simpa[zbR] using hkN) ⟨by omega,fun _=>rfl⟩ (Mem.empty_le _) (fun b hb=>absurd rfl hb);have H5:Hid (WLe w1 w2):=hle2
    clear hle2 hx
    gi_wp2
    refine⟨rfl,?_⟩;refine hR.mono ?_;rintro e W3 ⟨rfl,hJ3,hk3⟩
    gi_wp2
    refine⟨⟨k+1,W3,by rw[show ((k+1:Nat):Int)=(k:Int)+1 from rfl],hkN,?_,WLe.refl _,hk3⟩,?_⟩
    ·have:zbR base (k+1)=zbR base k++[(base+k) % 128]:=by simp[zbR,List.range_succ]
     rw[this];exact hJ3
    ·simp only[intOf];omega
   ·refine bodyPost_end (results_none rfl _ _ _) rfl ?_;have hkN:k=zax size:=by have h6:=HK.out;have h7:=Hk.out;omega
    exact⟨⟨_,rfl⟩,zbR base k,Wp,by rw[hkN],hJp,H9.out⟩
 ·have hK:size=(zax size:Int):=by unfold zax;omega
  gi_loopw [8] (fun p wr=>∃ (k:Nat) (Wp:World),p = .int .i64 k∧k≤zax size∧J (zbR base k) Wp∧WLe Wp wr∧A.le (zj wr))
   (fun p _=>zax size - (intOf p).toNat)
  case atStart=>
   exact⟨0,W,rfl,Nat.zero_le _,by simpa[zbR] using h0,WLe.refl _,H0.out⟩
  case round=>
   obtain⟨k,Wp,rfl,hk,hJp,hwp,hle⟩:=hrel;have hc2:=cellOf hle h2
   have H3:Hid (A.le (zj wr)):=hle;have H9:Hid (WLe Wp wr):=hwp
   have HK:Hid (_=(zax size:Int)):=hK;have Hk:Hid (k≤zax size):=hk
   clear hle hwp hK hk
   gi_wp2
   ·refine⟨trivial,rfl,?_⟩;refine Reduce_in.mono ?_;rintro e w1 ⟨hle1,rfl⟩;have H4:Hid (WLe wr w1):=hle1
    clear hle1
    gi_wp2
    refine⟨trivial,rfl,?_⟩;refine Reduce_in.mono ?_;rintro e w2 ⟨hle2,rfl⟩;have hx:(base % 128+(k:Int)) % 128=(base+k) % 128:=by omega
    rw[hx];have hkN:k<zax size:=by have:=HK.out;omega
    obtain⟨fn,tmps,assign,body,hy,hR⟩:=hY (zbR base k) ((base+k) % 128) Wp w2 Mem.empty hJp ((H9.out.trans H4.out).trans hle2) (fun b o hb=>hle2.same b o (H4.out.same b o (H3.out b o hb))) (by simpa[zbR] using hkN) ⟨by omega,fun _=>rfl⟩ (Mem.empty_le _) (fun b hb=>absurd rfl hb);have H5:Hid (WLe w1 w2):=hle2
    clear hle2 hx
    gi_wp2
    refine⟨rfl,?_⟩;refine hR.mono ?_;rintro e W3 ⟨rfl,hJ3,hk3⟩
    gi_wp2
    refine⟨⟨k+1,W3,by rw[show ((k+1:Nat):Int)=(k:Int)+1 from rfl],hkN,?_,WLe.refl _,hk3⟩,?_⟩
    ·have:zbR base (k+1)=zbR base k++[(base+k) % 128]:=by simp[zbR,List.range_succ]
     rw[this];exact hJ3
    ·simp only[intOf];omega
   ·refine bodyPost_end (results_none rfl _ _ _) rfl ?_;have hkN:k=zax size:=by have h6:=HK.out;have h7:=Hk.out;omega
    exact⟨⟨_,rfl⟩,zbR base k,Wp,by rw[hkN],hJp,H9.out⟩
 ·have hK:(0:Int)=(zax size:Int):=by unfold zax;omega
  gi_loopw [8] (fun p wr=>∃ (k:Nat) (Wp:World),p = .int .i64 k∧k≤zax size∧J (zbR base k) Wp∧WLe Wp wr∧A.le (zj wr))
   (fun p _=>zax size - (intOf p).toNat)
  case atStart=>
   exact⟨0,W,rfl,Nat.zero_le _,by simpa[zbR] using h0,WLe.refl _,H0.out⟩
  case round=>
   obtain⟨k,Wp,rfl,hk,hJp,hwp,hle⟩:=hrel;have hc2:=cellOf hle h2
   have H3:Hid (A.le (zj wr)):=hle;have H9:Hid (WLe Wp wr):=hwp
   have HK:Hid (_=(zax size:Int)):=hK;have Hk:Hid (k≤zax size):=hk
   clear hle hwp hK hk
   gi_wp2
   refine bodyPost_end (results_none rfl _ _ _) rfl ?_;have hkN:k=zax size:=by have h6:=HK.out;have h7:=Hk.out;omega
   exact⟨⟨_,rfl⟩,zbR base k,Wp,by rw[hkN],hJp,H9.out⟩
end Go.Proofs.YtpnhjkiligohnaaGreatDoor
