/- Part. -/
import Derived.Test.YtlgbofpennelhaaGreatJ7
import Derived.RangeFuncBound
import Derived.RangeFuncLeaves
import Derived.Shelf.Abstract
import Derived.Shelf.RegionOpen
import Derived.OwnWalkIn
import Derived.TacticsInMore
import Derived.LoopNIn
import Derived.LoopIn
set_option linter.all false
set_option maxHeartbeats 0
namespace Go.Proofs.YtlgbofpennelhaaGreat
open Go Go.RowKit Go.Shelf Go.Vm Go.Proofs
attribute [local irreducible] Brn Ob Grow CallsM inR zI zF Mem.row Mem.cells Mem.setCells Mem.upd Go.Vm.Own zZ zaj zam zO New SrcOk subA NewSl Mem.textAt Mem.mapAt Mem.iterAt zC zB Wr NewEls Elems
theorem zIi (n:Int):zD .and .i64 n 127=n % 128:=by
 simp only[zD,IntKind.bits]
 have h1:(BitVec.ofInt 64 n &&& BitVec.ofInt 64 127).toNat=(n % 128).toNat:=by
  rw[BitVec.toNat_and,BitVec.toNat_ofInt,BitVec.toNat_ofInt];have e:((127:Int) % ((2 ^ 64:Nat):Int)).toNat=2 ^ 7 - 1:=by decide
  rw[e,Nat.and_two_pow_sub_one_eq_mod];omega
 erw [h1];simp[IntKind.wrap,IntKind.signed,IntKind.bits];omega
theorem zeo (n:Int) (M:Mem):CallsM Tryz.prog 265 [.int .i64 n] M fun v M'=>v = .int .i64 (n % 128)∧M=M':=by
 refine zqy oS ?_
 repeat' (first|refine⟨?_,True.intro⟩|refine⟨?_,?_,True.intro⟩|refine brn_t rfl ?_|refine brn_f rfl ?_|refine ob rfl ?_|refine obr rfl ?_|refine ob oD ?_|refine obr oD ?_|refine grow_same (Ya _) ?_|refine ob (Ya _) ?_|refine⟨_,Ya _,?_⟩|fail)
 refine⟨?_,rfl⟩;rw[zIi]
def PMW (x:Int) (Mx:Mem):Prop:=(0≤x∧x<128)∧∀ b,Mx b=none
theorem Reduce_in {n:Int} {w:World}:CallsIn Fence.wide 0 Tryz.prog 265 #[.int .i64 n] w fun e w'=>WLe w w'∧e = .returned (.int .i64 (n % 128)):=by
 refine callsIn_wide.2 ?_;refine((zeo n Mem.empty).world (Yc6 _) ?_).mono ?_
 ·rintro v M' ⟨-, rfl⟩;exact Ya _
 ·rintro e w' ⟨v,M',rfl,⟨rfl, -⟩, -, hle, -⟩;exact⟨hle,rfl⟩
set_option maxRecDepth 100000 in
set_option maxHeartbeats 2000000 in
theorem zsY {A:Mem} {B1 B2:Nat} {base size:Int} (h1:A.has B1 3 [.int .i64 size]) (h2:A.has B2 3 [.int .i64 base]) (hs : -9223372036854775808≤size∧size<9223372036854775808) :
  zu2 Tryz.prog 264 [.pointer (some ⟨B1,0,none⟩),.pointer (some ⟨B2,0,none⟩)] (fun x:Int=>[.int .i64 x]) A (zaF size) PMW (fun xs=>xs=zbY base (zaF size)):=fun lp J W hAW hY h0=>by
 refine callsIn_of_wp Tryz.func264 rfl trivial ?_ rfl;simp only[Tryz.ntmps264,List.size_toArray,Ym,Yar,Nat.reduceAdd,Nat.reduceSub,Array.replicate_succ,Array.replicate_zero,List.push_toArray,List.append_toArray,Yaa,Yby]
 have cellOf:∀ {w:World} {B:Nat} {v:Value},A.le (zk w)→A.has B 3 [v]→w.cell? ⟨B,0,none⟩=some v:=fun {w B v} hle hB=>by
  have:=hle B _ hB;unfold World.cell?;rw[show w.heap[B]? = _ from this];rfl
 have hc1:=cellOf hAW h1;have H0:Hid (A.le (zk W)):=hAW
 have HS:Hid (-9223372036854775808≤size∧size<9223372036854775808):=hs;have HY:Hid _:=hY
 clear hAW hs
 gi_wp2
 ·have hK:(128:Int)=(zaF size:Int):=by unfold zaF;omega
  gi_loopw [8] (fun p wr=>∃ (k:Nat) (Wp:World),p = .int .i64 k∧k≤zaF size∧J (zbY base k) Wp∧WLe Wp wr∧A.le (zk wr))
   (fun p _=>zaF size - (intOf p).toNat)
  case atStart=>
   exact⟨0,W,rfl,Y5 _,by simpa[zbY] using h0,Yd1 _,H0.out⟩
  case round=>
   obtain⟨k,Wp,rfl,hk,hJp,hwp,hle⟩:=hrel;have hc2:=cellOf hle h2
   have H3:Hid (A.le (zk wr)):=hle;have H9:Hid (WLe Wp wr):=hwp
   have HK:Hid (_=(zaF size:Int)):=hK;have Hk:Hid (k≤zaF size):=hk
   clear hle hwp hK hk
   gi_wp2
   ·refine⟨trivial,rfl,?_⟩;refine Reduce_in.mono ?_;rintro e w1 ⟨hle1,rfl⟩;have H4:Hid (WLe wr w1):=hle1
    clear hle1
    gi_wp2
    refine⟨trivial,rfl,?_⟩;refine Reduce_in.mono ?_;rintro e w2 ⟨hle2,rfl⟩;have hx:(base % 128+(k:Int)) % 128=(base+k) % 128:=by omega
    rw[hx];have hkN:k<zaF size:=by have:=HK.out;omega
    obtain⟨fn,tmps,assign,body,hy,hR⟩:=hY (zbY base k) ((base+k) % 128) Wp w2 Mem.empty hJp ((H9.out.trans H4.out).trans hle2) (fun b o hb=>hle2.same b o (H4.out.same b o (H3.out b o hb))) (by simpa[zbY] using hkN) ⟨by omega,fun _=>rfl⟩ (Yc6 _) (fun b hb=>absurd rfl hb);have H5:Hid (WLe w1 w2):=hle2
    clear hle2 hx
    gi_wp2
    refine⟨rfl,?_⟩;refine hR.mono ?_;rintro e W3 ⟨rfl,hJ3,hk3⟩
    gi_wp2
    refine⟨⟨k+1,W3,by rw[show ((k+1:Nat):Int)=(k:Int)+1 from rfl],hkN,?_,Yd1 _,hk3⟩,?_⟩
    ·have:zbY base (k+1)=zbY base k++[(base+k) % 128]:=by simp[zbY,List.range_succ]
     rw[this];exact hJ3
    ·simp only[intOf];omega
   ·refine bodyPost_end (results_none rfl _ _ _) rfl ?_;have hkN:k=zaF size:=by have h6:=HK.out;have h7:=Hk.out;omega
    exact⟨⟨_,rfl⟩,zbY base k,Wp,by rw[hkN],hJp,H9.out⟩
 ·have hK:size=(zaF size:Int):=by unfold zaF;omega
  gi_loopw [8] (fun p wr=>∃ (k:Nat) (Wp:World),p = .int .i64 k∧k≤zaF size∧J (zbY base k) Wp∧WLe Wp wr∧A.le (zk wr))
   (fun p _=>zaF size - (intOf p).toNat)
  case atStart=>
   exact⟨0,W,rfl,Y5 _,by simpa[zbY] using h0,Yd1 _,H0.out⟩
  case round=>
   obtain⟨k,Wp,rfl,hk,hJp,hwp,hle⟩:=hrel;have hc2:=cellOf hle h2
   have H3:Hid (A.le (zk wr)):=hle;have H9:Hid (WLe Wp wr):=hwp
   have HK:Hid (_=(zaF size:Int)):=hK;have Hk:Hid (k≤zaF size):=hk
   clear hle hwp hK hk
   gi_wp2
   ·refine⟨trivial,rfl,?_⟩;refine Reduce_in.mono ?_;rintro e w1 ⟨hle1,rfl⟩;have H4:Hid (WLe wr w1):=hle1
    clear hle1
    gi_wp2
    refine⟨trivial,rfl,?_⟩;refine Reduce_in.mono ?_;rintro e w2 ⟨hle2,rfl⟩;have hx:(base % 128+(k:Int)) % 128=(base+k) % 128:=by omega
    rw[hx];have hkN:k<zaF size:=by have:=HK.out;omega
    obtain⟨fn,tmps,assign,body,hy,hR⟩:=hY (zbY base k) ((base+k) % 128) Wp w2 Mem.empty hJp ((H9.out.trans H4.out).trans hle2) (fun b o hb=>hle2.same b o (H4.out.same b o (H3.out b o hb))) (by simpa[zbY] using hkN) ⟨by omega,fun _=>rfl⟩ (Yc6 _) (fun b hb=>absurd rfl hb);have H5:Hid (WLe w1 w2):=hle2
    clear hle2 hx
    gi_wp2
    refine⟨rfl,?_⟩;refine hR.mono ?_;rintro e W3 ⟨rfl,hJ3,hk3⟩
    gi_wp2
    refine⟨⟨k+1,W3,by rw[show ((k+1:Nat):Int)=(k:Int)+1 from rfl],hkN,?_,Yd1 _,hk3⟩,?_⟩
    ·have:zbY base (k+1)=zbY base k++[(base+k) % 128]:=by simp[zbY,List.range_succ]
     rw[this];exact hJ3
    ·simp only[intOf];omega
   ·refine bodyPost_end (results_none rfl _ _ _) rfl ?_;have hkN:k=zaF size:=by have h6:=HK.out;have h7:=Hk.out;omega
    exact⟨⟨_,rfl⟩,zbY base k,Wp,by rw[hkN],hJp,H9.out⟩
 ·have hK:(0:Int)=(zaF size:Int):=by unfold zaF;omega
  gi_loopw [8] (fun p wr=>∃ (k:Nat) (Wp:World),p = .int .i64 k∧k≤zaF size∧J (zbY base k) Wp∧WLe Wp wr∧A.le (zk wr))
   (fun p _=>zaF size - (intOf p).toNat)
  case atStart=>
   exact⟨0,W,rfl,Y5 _,by simpa[zbY] using h0,Yd1 _,H0.out⟩
  case round=>
   obtain⟨k,Wp,rfl,hk,hJp,hwp,hle⟩:=hrel;have hc2:=cellOf hle h2
   have H3:Hid (A.le (zk wr)):=hle;have H9:Hid (WLe Wp wr):=hwp
   have HK:Hid (_=(zaF size:Int)):=hK;have Hk:Hid (k≤zaF size):=hk
   clear hle hwp hK hk
   gi_wp2
   refine bodyPost_end (results_none rfl _ _ _) rfl ?_;have hkN:k=zaF size:=by have h6:=HK.out;have h7:=Hk.out;omega
   exact⟨⟨_,rfl⟩,zbY base k,Wp,by rw[hkN],hJp,H9.out⟩
end Go.Proofs.YtlgbofpennelhaaGreat
