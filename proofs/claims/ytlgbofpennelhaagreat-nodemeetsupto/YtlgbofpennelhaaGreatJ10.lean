/- Part. -/
import Derived.Test.YtlgbofpennelhaaGreatJ9
import Derived.Test.YtlgbofpennelhaaGreatJ7
import Derived.RangeFuncBound
import Derived.RangeFuncLeaves
import Derived.Shelf.Abstract
import Derived.Shelf.RegionOpen
import Derived.OwnWalkIn
import Derived.TacticsInMore
import Derived.LoopNIn
import Derived.LoopIn
set_option linter.all false
set_option maxHeartbeats 0
namespace Go.Proofs.YtlgbofpennelhaaGreat
open Go Go.RowKit Go.Shelf Go.Vm Go.Proofs
attribute [local go_sem] Oper.semAt_some
structure zfJ where
 at':Nat
 a:Option Addr
 n:Nat
 c:Nat
 p:List UInt8
def zFQ (x:zfJ):List Value:=[.int .i64 x.at',.slice x.a x.n x.c]
def PMX (x:zfJ) (Mx:Mem):Prop:=x.at'≤2097152∧x.n≤65536∧Wr Mx 5 1 x.a x.n x.c (x.p.map zc)∧∀ b,Mx b≠none→blk x.a b
def zga:Nat→List UInt8→List (List UInt8)
 | 0,_=>[]
 | f+1,l=>match zaE l with|none=>[]|some (p,k)=>p::zga f (l.drop k)
def zay (l:List UInt8):List (List UInt8):=zga l.length l
def zah (ps:List (List UInt8)):Nat:=(ps.map fun p=>8+p.length).sum
theorem zew {l p:List UInt8} {k:Nat} (h:zaE l=some (p,k)):k=8+p.length∧k≤l.length∧1≤p.length∧p.length≤65536∧p=(l.drop 8).take p.length:=by
 unfold zaE at h;split at h
 ·cases h
 ·grind
theorem zzZ {l:List UInt8}:∀ {f g:Nat},l.length≤f→l.length≤g→zga f l=zga g l:=by
 have key:∀ (m:Nat) (l:List UInt8),l.length≤m→∀ f g,l.length≤f→l.length≤g→zga f l=zga g l:=by
  intro m
  induction m with
  | zero=>
   intro l hl f g hf hg;have h0:zaE l=none:=by unfold zaE;rw[if_pos oM]
   cases f<;>cases g<;>simp[zga,h0]
  | succ m ih=>
   intro l hl f g hf hg;cases hx:zaE l with
   | none=>cases f<;>cases g<;>simp[zga,hx]
   | some q=>
    obtain⟨p,k⟩:=q;obtain⟨h1,h2,h3, -⟩:=zew hx
    match f,g,hf,hg with
    | 0,_,hf,_=>omega
    | _+1,0,_,hg=>omega
    | f+1,g+1,hf,hg=>
     simp only[zga,hx];congr 1;exact ih _ (by grind) _ _ (by grind) (by grind)
 intro f g hf hg;exact key l.length l (Yd _) f g hf hg
theorem zjk {l:List UInt8} (h:zaE l=none):zay l=[]:=by
 unfold zay;cases l.length<;>simp[zga,h]
theorem zjl {l p:List UInt8} {k:Nat} (h:zaE l=some (p,k)):zay l=p::zay (l.drop k):=by
 obtain⟨h1,h2,h3, -⟩:=zew h;have e:zay l=zga ((l.length - 1)+1) l:=by unfold zay;rw[show l.length - 1+1=l.length by omega]
 rw[e];simp only[zga,h];congr 1;exact zzZ (by grind) (Yd _)
def AtX:Nat→List zfJ→Prop
 | _,[]=>True
 | k,x::r=>x.at'=k∧x.n=x.p.length∧AtX (k+(8+x.p.length)) r
theorem zp1 (ps qs:List (List UInt8)):zah (ps++qs)=zah ps+zah qs:=by simp[zah]
theorem AtX.snoc {x:zfJ}:∀ {k:Nat} {xs:List zfJ},AtX k xs→x.at'=k+zah (xs.map (·.p))→x.n=x.p.length→AtX k (xs++[x])
 | k,[],_,h1,h2=>⟨by assumption,h2,trivial⟩
 | k,y::r,⟨h3,h4,h5⟩,h1,h2=>⟨h3,h4,h5.snoc (by rw[h1];simp[zah];omega) h2⟩
def DX (l:List UInt8) (xs:List zfJ):Prop:=xs.map (·.p)=zay l∧AtX 0 xs
theorem zvT {M:Mem} {a:Option Addr} {n c:Nat} {l:List UInt8} (hs:SrcOk M 1 a n (l.map zc)) (hn:n≤2097152) (hnc:n≤c) {w:World} (hM:M.le (zk w)) :
  CallsIn Fence.wide 0 Tryz.prog 425 #[.slice a n c] w fun e w'=>WLe w w'∧∃ x:zfJ,(zaE l=none∧e = .returned (.tuple #[.slice none 0 0,.int .i64 0])) ∨
   (zaE l=some (x.p,8+x.p.length)∧x.n=x.p.length∧e = .returned (.tuple #[.slice x.a x.n x.c,.int .i64 ((8+x.p.length:Nat):Int)])∧∃ Mx,PMX x Mx∧Mx.le (zk w')∧∀ b,Mx b≠none→w.heap.size≤b):=by
 refine callsIn_wide.2 ?_;refine((zDJ hs hn hnc).world hM ?_).mono ?_
 ·rintro v M' (⟨-, -, h⟩|⟨p,k,a',n',c', -, -, h⟩)
  ·exact h
  ·exact h.le
 ·rintro e w' ⟨v,M',rfl,(⟨h1,rfl, -⟩|⟨p,k,a',n',c',h1,rfl,hN⟩),hM',hle,hfr⟩
  ·exact⟨hle,⟨0,none,0,0,[]⟩,.inl ⟨h1,rfl⟩⟩
  ·obtain⟨h2, -, -, h4, -⟩:=zew h1;have hl:=hN.src.maplen
   subst h2
   classical
   obtain⟨Mx,hMx⟩:∃ Mx:Mem,Mx=fun b=>if blk a' b then M' b else none:=⟨_,rfl⟩
   have hxle:Mx.le M':=fun b o hb=>by
    rw[hMx] at hb;dsimp only at hb;split at hb
    ·exact hb
    ·cases hb
   have hxb:∀ b,Mx b≠none→blk a' b:=fun b hb=>by
    rw[hMx] at hb;dsimp only at hb;split at hb
    ·assumption
    ·exact absurd rfl hb
   refine⟨hle,⟨0,a',n',c',p⟩,.inr ⟨h1,hl.symm,rfl,Mx,⟨Y5 _,?_,?_,hxb⟩,fun b o hb=>hM' b o (hxle b o hb),fun b hb=>?_⟩⟩
   ·show n'≤65536;omega
   ·refine hN.wr.mono fun q o hq ho=>?_
    rw[hMx];dsimp only;rw[if_pos ⟨q,hq,rfl⟩];exact ho
   ·obtain⟨q,hq,rfl⟩:=hxb b hb;have h5:=hN.block hq
    refine hfr _ h5.1 ?_;obtain⟨cs,hcs⟩:=h5.2;unfold Mem.has at hcs;rw[hcs];simp
set_option maxRecDepth 100000 in
set_option maxHeartbeats 2000000 in
theorem zGs {A:Mem} {a:Option Addr} {n c B:Nat} {l:List UInt8} (hs:SrcOk A 1 a n (l.map zc)) (hn:n≤2097152) (hnc:n≤c) (hB:A.has B 37 [.slice a n c]) :
  zu2 Tryz.prog 424 [.pointer (some ⟨B,0,none⟩)] zFQ A n PMX (DX l):=fun lp J W hAW hY h0=>by
 refine callsIn_of_wp Tryz.func424 rfl trivial ?_ rfl;simp only[Tryz.ntmps424,List.size_toArray,Ym,Yar,Nat.reduceAdd,Nat.reduceSub,Array.replicate_succ,Array.replicate_zero,List.push_toArray,List.append_toArray,Yaa,Yby]
 gi_wp2
 gi_loopw [3] (fun p wr=>∃ (pre:List zfJ) (k:Nat) (Wp:World),p = .int .i64 k∧k≤n∧J pre Wp∧WLe Wp wr∧A.le (zk wr)∧zay l=pre.map (·.p)++zay (l.drop k)∧k=zah (pre.map (·.p))∧AtX 0 pre)
  (fun p _=>n - (intOf p).toNat)
 case atStart=>
  exact⟨[],0,W,rfl,Y5 _,h0,Yd1 _,hAW,by simp,rfl,trivial⟩
 case round=>
  obtain⟨pre,k,Wp,rfl,hk,hJp,hwp,hle,hsc,hkl,hat⟩:=hrel
  have hb:wr.cell? ⟨B,0,none⟩=some (.slice a n c):=by
   have:=hle B _ hB;unfold World.cell?;rw[show wr.heap[B]? = _ from this];rfl
  have hsub:=hs.subm (lo:=k) (hi:=n) (c:=c) hk (Yd _) hnc;have hll:=hs.maplen
  have htk:(l.drop k).take (n - k)=l.drop k:=Yf (by simp_all);rw[htk] at hsub;have H1:Hid (k=zah (pre.map (·.p))):=hkl
  have H2:Hid (SrcOk A 1 (subA a k c 1) (n - k) ((l.drop k).map zc)):=hsub;have H3:Hid (A.le (zk wr)):=hle
  have H4:Hid (zay l=pre.map (·.p)++zay (l.drop k)):=hsc;have H5:Hid (l.length=n):=hll
  have H9:Hid (WLe Wp wr):=hwp;clear hkl hsub hle hsc htk hll hwp
  gi_wp2
  rotate_left
  refine⟨trivial,rfl,?_⟩;refine(zvT (l:=l.drop k) (a:=a.map fun x=>x.add k) (n:=n - k) (c:=c - k) (by have h2:=H2.out;unfold subA at h2;rw[if_neg h,Ybi] at h2;exact h2) oM oM H3.out).mono ?_
  rotate_left
  refine⟨trivial,rfl,?_⟩;refine(zvT (l:=l.drop k) (a:=a) (n:=n - k) (c:=0) (by have h2:=H2.out;unfold subA at h2;rw[if_pos h] at h2;exact h2) oM oM H3.out).mono ?_
  all_goals
   rintro e w' ⟨hle',x,(⟨hf,rfl⟩|⟨hf,hxn,rfl,Mx,hPM,hMx,hfr⟩)⟩
   ·have H6:Hid (zaE (l.drop k)=none):=hf;have H10:Hid (WLe wr w'):=hle'
    clear hf hle'
    gi_wp2
    refine⟨fun _ h=>(by cases h),?_⟩
    gi_wp2
    refine bodyPost_ret (results_none rfl _ _ _) rfl ?_;refine⟨⟨_,rfl⟩,pre,Wp,⟨?_,hat⟩,hJp,H9.out.trans H10.out⟩;have h4:=H4.out
    rw[zjk H6.out,Yt] at h4;exact h4.symm
   ·have hfs:=zew hf;have H6:Hid (zaE (l.drop k)=some (x.p,8+x.p.length)):=hf
    have H8:Hid (x.n=x.p.length):=hxn;have H10:Hid (WLe wr w'):=hle'
    have hlen:pre.length<n:=by
     have h1:=H1.out;have h5:=H5.out
     have h9:8*(pre.map (·.p)).length≤zah (pre.map (·.p)):=by
      generalize pre.map (·.p)=ps
      induction ps with
      | nil=>simp
      | cons y r ih=>simp only[zah,Yq,Ybb,Ym] at ih ⊢; omega
     rw[Y9] at h9;have h10:=hfs.2.1;rw[Ydc] at h10
     omega
    obtain⟨fn,tmps,assign,body,hy,hR⟩:=hY pre { x with at':=k } Wp w' Mx hJp (H9.out.trans hle') (fun b o hb=>hle'.same b o (H3.out b o hb)) hlen ⟨Yz hk hn,hPM.2⟩ hMx (fun b hb=>Yz H9.out.size (hfr b hb));dsimp only [zFQ] at hy;clear hf hfs hxn hPM hMx hfr hle'
    gi_wp2
    refine⟨rfl,?_⟩;refine hR.mono ?_;rintro e W3 ⟨rfl,hJ3,hk3⟩
    gi_wp2
    have h10:=zew H6.out;have h5:=H5.out
    have h11:=h10.2.1;rw[Ydc] at h11
    have hw64:wrap64 ((k:Int)+(8+(x.p.length:Int)))=((k+(8+x.p.length):Nat):Int):=by
     simp only[wrap64];omega
    rw[hw64];refine⟨⟨pre++[{ x with at':=k }],k+(8+x.p.length),W3,rfl,by omega,hJ3,Yd1 _,hk3,?_,?_,hat.snoc ?_ H8.out⟩,?_⟩
    ·rw[H4.out,zjl H6.out,Ybo];simp
    ·have h1:=H1.out;rw[Yv,zp1,←h1];simp[zah]
    ·have h1:=H1.out;dsimp only;omega
    ·simp only[intOf];omega
end Go.Proofs.YtlgbofpennelhaaGreat
