/- NodeSafe: what a node was given,and did not refuse,lies on its disk,held or delivered,when it is opened behind a crash that keeps nothing: for every call of bulk at most 1048576 the law returns true,and the call reads as before. -/
import Derived.Test.YtlgbofpennelhaaGreatJ18
set_option linter.all false
set_option maxHeartbeats 0
namespace Go.Proofs.YtlgbofpennelhaaGreat
open Go Go.Vm
section
section
variable {α:Type} [Pay α] {G:α→Prop}
structure EndI (G:α→Prop) (X:LnkR α) (B W:Nat):Prop where
 up:X.up=true
 nb:X.busy=false
 nh:X.held=false
 tm:X.timer=3
 sz:X.S.size=4
 rz:X.R.size=4
 base:X.S.base=(B:Int) % 128
 wait:X.R.waits=(W:Int) % 128
 kept:X.R.kept=[]
 un:X.S.under≤4∧X.S.under≤X.S.all.length
 good:∀ p∈X.S.all,G p
def Wire (G:α→Prop) (me peer:Int) (hi v:Nat):Nat→Nat→List (zfv α)→Prop
 | lo,w,[]=>lo=hi∧w=v
 | lo,w,c::Fs=>(c.me=me∧c.peer=peer∧c.p=false)∧∃ r,(lo≤r∧r≤hi)∧c.nr=(r:Int) % 128∧((c.kind=1∧c.ns=(w:Int) % 128∧G c.data∧Wire G me peer hi v r (w+1) Fs)∨(c.kind=2∧c.ns=0∧c.data=Pay.emp∧Wire G me peer hi v r w Fs))
theorem Wire.le {me peer:Int} {hi v:Nat}:∀ {Fs:List (zfv α)} {lo w:Nat},Wire G me peer hi v lo w Fs→lo≤hi∧w≤v
 | [],_,_,⟨h1,h2⟩=>⟨by omega,by omega⟩
 | c::Fs,lo,w,⟨_,r,h1,_,h3⟩=>by
  rcases h3 with ⟨_,_,_,h3⟩|⟨_,_,_,h3⟩
  ·have:=h3.le;omega
  ·have:=h3.le;omega
theorem Wire.app {me peer:Int} {hi v hi' v':Nat} {E:List (zfv α)} (hE:Wire G me peer hi' v' hi v E):∀ {Fs:List (zfv α)} {lo w:Nat},Wire G me peer hi v lo w Fs→Wire G me peer hi' v' lo w (Fs++E)
 | [],lo,w,⟨h1,h2⟩=>by simp_all
 | c::Fs,lo,w,⟨h0,r,h1,h2,h3⟩=>by
  have:=hE.le;refine⟨h0,r,⟨h1.1,by omega⟩,h2,?_⟩;rcases h3 with ⟨a,b,g,h3⟩|⟨a,b,g,h3⟩
  ·exact .inl ⟨a,b,g,Wire.app hE h3⟩
  ·exact .inr ⟨a,b,g,Wire.app hE h3⟩
def Lf (X:LnkR α) (B V0:Nat):Prop:=(X.S.under=0→X.left=0)∧(0<X.S.under→X.left=3∨(X.left=2∧B<V0))
structure ETo (G:α→Prop) (X Y:LnkR α) (B W B' W':Nat):Prop where
 e:EndI G Y B' W'
 b:B≤B'
 w:W≤W'
 v:B+X.S.under≤B'+Y.S.under
 me:Y.me=X.me∧Y.peer=X.peer
 rs:Y.resets=X.resets
 out:∃ new,Y.out=X.out++new∧new.length=(B'+Y.S.under - (B+X.S.under))+(W' - W)∧Wire G X.me X.peer W' (B'+Y.S.under) W (B+X.S.under) new
 lf:∀ V0,Lf X B V0→Lf Y B' V0
theorem ETo.refl {X:LnkR α} {B W:Nat} (h:EndI G X B W):ETo G X X B W B W:=⟨h,Yd _,Yd _,Yd _,⟨rfl,rfl⟩,rfl,⟨[],by simp,by simp,rfl,rfl⟩,fun _ h=>h⟩
theorem ETo.trans {X Y Z:LnkR α} {B W B' W' B2 W2:Nat} (h:ETo G X Y B W B' W') (k:ETo G Y Z B' W' B2 W2):ETo G X Z B W B2 W2:=by
 obtain⟨n1,a1,a2,a3⟩:=h.out;obtain⟨n2,b1,b2,b3⟩:=k.out;have:=h.v;have:=k.v;have:=h.w;have:=k.w
 refine⟨k.e,Yn h.b k.b,Yn h.w k.w,Yn h.v k.v,⟨k.me.1.trans h.me.1,k.me.2.trans h.me.2⟩,k.rs.trans h.rs,⟨n1++n2,by rw[b1,a1,Yp],by grind,?_⟩,fun V0 hl=>k.lf V0 (h.lf V0 hl)⟩;rw[h.me.1,h.me.2] at b3;exact Wire.app b3 a3
theorem zGN {X:LnkR α} {B W:Nat} (h:EndI G X B W) (hu:X.S.under≠X.S.all.length) (hs:¬(X.S.under:Int)=X.S.size) :
  ETo G X (let Y:=zdc { X with S:=zcf X.S } ((X.S.base+X.S.under) % 128) (X.S.all.getD X.S.under Pay.emp) false
   if X.left=0 then { Y with left:=X.timer } else Y) B W B W:=by
 have hun:=h.un;have hsz:=h.sz
 have hb:=h.base;have hlt:X.S.under<X.S.all.length:=by omega
 have hg:G (X.S.all.getD X.S.under Pay.emp):=by
  rw[Y0,Yb hlt];exact h.good _ (Yab hlt)
 have key:∀ Y:LnkR α,Y=(let Y:=zdc { X with S:=zcf X.S } ((X.S.base+X.S.under) % 128) (X.S.all.getD X.S.under Pay.emp) false
   if X.left=0 then { Y with left:=X.timer } else Y)→ETo G X Y B W B W:=fun Y hY=>by
  have e1:Y.S=zcf X.S:=by rw[hY];dsimp only;split<;>rfl
  have e2:Y.R=X.R:=by rw[hY];dsimp only;split<;>rfl
  have e3:Y.up=X.up∧Y.busy=X.busy∧Y.held=X.held∧Y.timer=X.timer∧Y.me=X.me∧Y.peer=X.peer∧Y.resets=X.resets:=by rw[hY];dsimp only;split<;>exact⟨rfl,rfl,rfl,rfl,rfl,rfl,rfl⟩
  have e4:Y.out=X.out++[⟨1,(X.S.base+X.S.under) % 128,X.R.waits,false,X.me,X.peer,X.S.all.getD X.S.under Pay.emp⟩]:=by rw[hY];dsimp only;split<;>rfl
  have e5:Y.left=if X.left=0 then 3 else X.left:=by
   rw[hY];dsimp only;by_cases g:X.left=0
   ·rw[if_pos g,if_pos g];exact h.tm
   ·rw[if_neg g,if_neg g];rfl
  obtain⟨f1,f2,f3,f4,f5,f6,f7⟩:=e3;have hun':Y.S.under=X.S.under+1:=by rw[e1];rfl
  refine⟨⟨f1.trans h.up,f2.trans h.nb,f3.trans h.nh,f4.trans h.tm,by rw[e1];exact h.sz,by rw[e2];exact h.rz,by rw[e1];exact h.base,by rw[e2];exact h.wait,by rw[e2];exact h.kept,⟨by omega,by rw[hun',e1];exact hlt⟩,by rw[e1];exact h.good⟩,Yd _,Yd _,by omega,⟨f5,f6⟩,f7,⟨_,e4,by simp;omega,?_⟩,fun V0 hl=>?_⟩
  ·refine⟨⟨rfl,rfl,rfl⟩,W,⟨Yd _,Yd _⟩,h.wait,.inl ⟨rfl,?_,hg,rfl,by omega⟩⟩;dsimp only;rw[hb];omega
  ·unfold Lf at hl ⊢;rw[hun',e5];refine⟨fun h0=>by omega,fun _=>?_⟩;split
   ·omega
   ·omega
 exact key _ rfl
theorem ztb:∀ (n:Nat) {X:LnkR α} {B W:Nat},EndI G X B W→ETo G X (zcJ n X) B W B W
 | 0,_,_,_,h=>ETo.refl h
 | n+1,X,B,W,h=>by
  unfold zcJ;split
  ·exact ETo.refl h
  split
  ·exact ETo.refl h
  ·rename_i g1 g2;have h1:=zGN h (fun e=>g2 (.inl e)) (fun e=>g2 (.inr e))
   exact h1.trans (ztb n h1.e)
theorem push_to {X:LnkR α} {B W:Nat} (h:EndI G X B W) {l:α} (hl:G l):ETo G X (zei X l) B W B W:=by
 unfold zei zhq;rw[if_pos h.up];split
 ·rename_i g;have e1:zeg X.S l={ X.S with all:=X.S.all++[l] }:=by unfold zeg;rw[if_pos g]
  have h1:EndI G { X with S:=zeg X.S l } B W:=by
   rw[e1];refine⟨h.up,h.nb,h.nh,h.tm,h.sz,h.rz,h.base,h.wait,h.kept,⟨h.un.1,?_⟩,fun p hp=>?_⟩
   ·have:=h.un.2;show X.S.under≤(X.S.all++[l]).length
    rw[Yi];omega
   ·rcases Yt.1 hp with hp|hp
    ·exact h.good p hp
    ·rw[Yx.1 hp];exact hl
  have h2:=ztb 65 h1;have e2:(zeg X.S l).under=X.S.under:=by rw[e1]
  refine⟨h2.e,h2.b,h2.w,?_,h2.me,h2.rs,?_,fun V0 hl=>h2.lf V0 ?_⟩
  ·have:=h2.v;dsimp only at this;rw[e2] at this;exact this
  ·have:=h2.out;dsimp only at this;rw[e2] at this;exact this
  ·unfold Lf at hl ⊢; dsimp only;rw[e2];exact hl
 ·exact ETo.refl h
theorem zIv {X:LnkR α} {B W r:Nat} (h:EndI G X B W) {nr:Int} (hnr:nr=(r:Int) % 128) (hr:B≤r∧r≤B+X.S.under):ETo G X (zdh X nr) B W r W:=by
 have hun:=h.un;have hb:=h.base
 have hw:zb7 X.S.base nr=((r - B:Nat):Int):=by unfold zb7;rw[hb,hnr];omega
 have hE:zgl X.S nr=0:=by unfold zgl;rw[if_neg oM,hw,if_neg oM]
 have hN:zgV X.S nr=r - B:=by unfold zgV;rw[if_pos hE,hw];rfl
 have hS:zen X.S nr={ X.S with all:=X.S.all.drop (r - B),under:=X.S.under - (r - B),base:=nr }:=by unfold zen;rw[if_pos hE,hN]
 have key:∀ Y:LnkR α,Y.S=zen X.S nr→Y.R=X.R→(Y.up=X.up∧Y.busy=X.busy∧Y.held=X.held∧Y.timer=X.timer∧Y.me=X.me∧Y.peer=X.peer∧Y.resets=X.resets∧Y.out=X.out)→(r=B→Y.left=X.left)→(r≠B→Y.left=if 0<X.S.under - (r - B) then 3 else 0)→ETo G X Y B W r W:=fun Y e1 e2 ⟨f1,f2,f3,f4,f5,f6,f7,f8⟩ g1 g2=>by
  have hu':Y.S.under=X.S.under - (r - B):=by rw[e1,hS]
  refine⟨⟨f1.trans h.up,f2.trans h.nb,f3.trans h.nh,f4.trans h.tm,by rw[e1,hS];exact h.sz,by rw[e2];exact h.rz,by simp_all,by rw[e2];exact h.wait,by rw[e2];exact h.kept,⟨by omega,?_⟩,fun p hp=>h.good p ?_⟩,hr.1,Yd _,by omega,⟨f5,f6⟩,f7,⟨[],by rw[f8,Ys],?_,rfl,by omega⟩,fun V0 hl=>?_⟩
  ·grind
  ·grind
  ·grind
  ·unfold Lf at hl ⊢;rw[hu'];by_cases hrb:r=B
   ·omega
   ·omega
 unfold zdh;split
 ·rename_i g;refine key _ rfl rfl ⟨rfl,rfl,rfl,rfl,rfl,rfl,rfl,rfl⟩ (fun e=>absurd (by omega) g.2) fun e=>?_
  dsimp only;rw[hS,h.tm]
 ·grind
theorem zCH {X:zfu α} {W:Nat} (hk:X.kept=[]) (hw:X.waits=(W:Int) % 128) (hs:X.size=4) {l:α} (hl:0<Pay.len l∧Pay.len l≤121) :
  zbn X X.waits l=⟨{ X with kept:=[],asked:=zbe X.asked X.waits,waits:=((W+1:Nat):Int) % 128 },[l],[],0⟩:=by
 have hc:zgy X X.waits l=0:=by
  unfold zgy;rw[if_neg oM,if_neg oM,if_neg oM,if_pos (by unfold zb7;omega),hk];rfl
 unfold zbn;rw[if_neg (by omega),hk]
 have h1:ze5 1 { X with kept:=zy [] X.waits l } []=({ X with kept:=[],asked:=zbe X.asked X.waits,waits:=(X.waits+1) % 128 },[l]):=by
  unfold ze5;have e1:zy ([]:List (Int×α)) X.waits l=[(X.waits,l)]:=rfl
  dsimp only;rw[e1];have e2:zf [(X.waits,l)] X.waits=some l:=by simp[zf]
  rw[e2];have e3:zbe [(X.waits,l)] X.waits=[]:=by simp[zbe]
  dsimp only;rw[e3];rfl
 show (let a:=ze5 1 { X with kept:=zy [] X.waits l } [];_)=_;simp only[Yal,Yan,h1]
 have h2:∀ Y:zfu α,Y.kept=[]→zeh Y=[]:=fun Y hY=>by
  have:zdY Y=[]:=by unfold zdY zhn;rw[hY];simp[zfh]
  unfold zeh;rw[this];rfl
 rw[h2 _ rfl];unfold zgJ;have:(X.waits+1) % 128=((W+1:Nat):Int) % 128:=by rw[hw];omega
 rw[this]
theorem zmM:∀ (n:Nat) (X:LnkR α),(zcJ n X).inn=X.inn
 | 0,_=>rfl
 | n+1,X=>by
  unfold zcJ;split
  ·rfl
  split
  ·rfl
  ·rw[zmM n];dsimp only;split<;>rfl
theorem zEq (X:LnkR α) (l:α):(zei X l).inn=X.inn:=by
 unfold zei;split
 ·exact zmM _ _
 ·rfl
set_option linter.unusedSectionVars false in
theorem zyF (X:LnkR α) (n:Int):(zdh X n).inn=X.inn:=by unfold zdh;split<;>rfl
theorem zGO {X:LnkR α} {B W:Nat} (h:EndI G X B W) {l:α} (hl:0<Pay.len l∧Pay.len l≤121) {t:zFf α} (ht:t=zbn X.R ((W:Int) % 128) l) :
  t.asks=[]∧t.told=[l]∧ETo G X (zeJ { X with R:=t.X,inn:=X.inn++t.told }) B W B (W+1):=by
 rw[←h.wait,zCH h.kept h.wait h.rz hl] at ht;subst ht;refine⟨rfl,rfl,⟨h.up,h.nb,h.nh,h.tm,h.sz,h.rz,h.base,rfl,rfl,h.un,h.good⟩,Yd _,Ybg _,Yd _,⟨rfl,rfl⟩,rfl,⟨_,rfl,?_,?_⟩,fun _ h=>h⟩
 ·show 1=(B+X.S.under - (B+X.S.under))+(W+1 - W);omega
 ·refine⟨⟨rfl,rfl,rfl⟩,W+1,⟨Ybg _,Yd _⟩,rfl,.inr ⟨?_,rfl,rfl,rfl,rfl⟩⟩;show (if X.held then (3:Int) else 2)=2
  rw[h.nh];rfl
theorem zGP {X:LnkR α} {B W r:Nat} (h:EndI G X B W) {c:zfv α} (hm:c.me=X.peer∧c.peer=X.me∧c.p=false) (hnr:c.nr=(r:Int) % 128) (hr:B≤r∧r≤B+X.S.under) (hk:(c.kind=1∧c.ns=(W:Int) % 128∧(0<Pay.len c.data∧Pay.len c.data≤121))∨c.kind=2) :
  ETo G X (zdZ X c) B W r (if c.kind=1 then W+1 else W)∧(zdZ X c).inn=X.inn++(if c.kind=1 then [c.data] else []):=by
 have h1:=zIv h hnr hr;have h2:=h1.trans (ztb 65 h1.e)
 obtain⟨m1,m2,m3⟩:=hm;unfold zdZ zi4;rcases hk with ⟨k1,k2,k3⟩|k1
 ·rw[if_neg oM,if_neg oM,if_neg oM,if_pos ⟨m1,m2⟩];dsimp only;rw[if_pos h.up,if_pos k1,if_pos k1,if_pos k1];obtain⟨Y,hY⟩:=oI (zcJ 65 (zdh X c.nr));have hi:Y.inn=X.inn:=by rw[hY,zmM,zyF]
  rw[←hY] at h2;obtain⟨t,ht⟩:=oI (zbn Y.R ((W:Int) % 128) c.data);obtain⟨q1,q2,q3⟩:=zGO h2.e k3 ht
  have e:zgB X c=zeJ { Y with R:=t.X,inn:=Y.inn++t.told }:=by
   unfold zgB zfA;dsimp only;rw[←hY,m3];simp only[Ybf,if_false];rw[k2,←ht,q1,h2.e.nh];rfl
  rw[e];refine⟨h2.trans q3,?_⟩;show Y.inn++t.told=_
  rw[hi,q2]
 ·rw[if_neg oM,if_neg oM,if_neg oM,if_pos ⟨m1,m2⟩];dsimp only;rw[if_pos h.up,if_neg oM,if_neg oM,if_neg oM,if_neg oM,Ys]
  have e:zhr X c=zcJ 65 (zdh X c.nr):=by
   have e0:({ X with busy:=decide (c.kind=3) }:LnkR α)=X:=by
    have:decide (c.kind=3)=X.busy:=by rw[h.nb,k1];rfl
    rw[this]
   unfold zhr zfA;dsimp only;rw[e0,m3];simp only[Ybf,if_false];exact if_neg fun g=>by rw[h2.e.nb] at g;exact Bool.noConfusion g.1
  rw[e];exact⟨h2,by rw[zmM,zyF]⟩
theorem zEr {X:LnkR α} {B W:Nat} (h:EndI G X B W) (hl:(X.S.under=0→X.left=0)∧(0<X.S.under→X.left=3)) :
  EndI G (zbN X) B W∧((zbN X).S=X.S∧(zbN X).out=X.out∧(zbN X).inn=X.inn∧(zbN X).me=X.me∧(zbN X).peer=X.peer∧(zbN X).resets=X.resets)∧Lf (zbN X) B (B+X.S.under):=by
 by_cases h0:X.S.under=0
 ·have e:zbN X=X:=by unfold zbN;rw[if_pos (hl.1 h0)]
  rw[e];exact⟨h,⟨rfl,rfl,rfl,rfl,rfl,rfl⟩,hl.1,fun g=>by omega⟩
 ·have h3:=hl.2 oM;have e:zbN X={ X with left:=2 }:=by unfold zbN;rw[h3,if_neg oD];rfl
  rw[e];exact⟨⟨h.up,h.nb,h.nh,h.tm,h.sz,h.rz,h.base,h.wait,h.kept,h.un,h.good⟩,⟨rfl,rfl,rfl,rfl,rfl,rfl⟩,fun g=>absurd g h0,fun (_:0<X.S.under) => .inr ⟨rfl,Nat.lt_add_of_pos_right (Nat.pos_of_ne_zero h0)⟩⟩
end
end
section
theorem zEs (b:UInt8) (r:List UInt8):zdj false (zhW b++r)=(zdj false r).map (b :: ·):=by
 unfold zhW;split
 ·rename_i h;rcases h with rfl|rfl
  ·rfl
  ·rfl
 ·rename_i h;have h1:b≠126:=fun e=>h (.inl e)
  have h2:b≠125:=fun e=>h (.inr e)
  simp[zdj,h1,h2]
theorem zmN:∀ l:List UInt8,zdj false (zaY l)=some l
 | []=>rfl
 | b::r=>by
  unfold zaY;rw[Ybr,zEs];have:=zmN r
  unfold zaY at this;rw[this];rfl
theorem zCI (q:List UInt8):zjx (zc9 q)=true:=by
 have h:=zyf q;unfold zjx zc9;have hl:(q++[UInt8.ofNat (zeo q % 256),UInt8.ofNat (zeo q / 256)]).length=q.length+2:=by simp
 rw[hl,show q.length+2 - 2=q.length by omega,show q.length+2 - 1=q.length+1 by omega,List.take_left']
 ·simp[Ybm];omega
 ·rfl
theorem zuc:∀ l:List UInt8,∀ b∈zaY l,b≠126
 | [],_,h=>by simp[zaY] at h
 | x::r,b,h=>by
  unfold zaY at h;rw[Ybr,Yt] at h;rcases h with h|h
  ·unfold zhW at h;split at h
   ·rename_i h2;rcases h2 with rfl|rfl<;>simp at h<;>rcases h with rfl|rfl<;>decide
   ·simp_all
  ·exact zuc r b h
theorem zud (X:zdG) (l r:List UInt8):za6 X (l++r)=za6 (za6 X l) r:=Ya2
theorem zwJ:∀ (m:List UInt8) (i:List UInt8) (t:List (List UInt8)),(∀ b∈m,b≠126)→i.length+m.length≤260→za6 ⟨false,i,t⟩ m=⟨false,i++m,t⟩
 | [],i,t,_,_=>by rw[Ys];rfl
 | b::r,i,t,h1,h2=>by
  have hb:=h1 b oS;rw[Ym] at h2;have e:za6 ⟨false,i,t⟩ (b::r)=za6 (zbY ⟨false,i,t⟩ b) r:=rfl
  have e2:zbY ⟨false,i,t⟩ b=⟨false,i++[b],t⟩:=by
   unfold zbY;rw[if_neg hb];simp only[Ybf,if_false];rw[if_neg oM]
  rw[e,e2,zwJ r (i++[b]) t (fun x hx=>h1 x (by simp[hx])) (by grind),Yp];rfl
theorem zEt (q:List UInt8):(zc9 q).length=q.length+2:=by simp[zc9]
theorem zAt (X:zdG) (hX:X.inn=[]) (q:List UInt8) (hq:0<q.length∧q.length≤128):za6 X (zdA q)=⟨false,[],X.told++[q]⟩:=by
 have h1:zbY X 126=⟨false,[],X.told⟩:=by unfold zbY;rw[if_pos rfl,if_neg (fun h=>h.2 hX)]
 have hl:=zEt q;have h2:=zhs (zc9 q)
 have hne:zaY (zc9 q)≠[]:=fun h=>by
  have:=zmN (zc9 q);rw[h] at this;have:zc9 q=[]:=by simpa[zdj] using this.symm
  rw[this] at hl;simp at hl
 have h3:zdA q=126::(zaY (zc9 q)++[126]):=rfl;rw[h3];show za6 (zbY X 126) _=_
 rw[h1,zud,zwJ _ _ _ (zuc _) (by grind),Y1];show zbY ⟨false,zaY (zc9 q),X.told⟩ 126=_
 unfold zbY;rw[if_pos rfl,if_pos ⟨rfl,hne⟩];unfold zgm;dsimp only;rw[zmN];dsimp only;rw[if_pos ⟨by omega,zCI q,by omega⟩,hl];simp[zc9]
theorem zql:∀ (qs:List (List UInt8)) (X:zdG),X.inn=[]→(∀ q∈qs,0<q.length∧q.length≤128)→(za6 X (qs.flatMap zdA)).inn=[]∧(za6 X (qs.flatMap zdA)).told=X.told++qs
 | [],X,hX,_=>⟨hX,by simp[za6]⟩
 | q::r,X,hX,h=>by
  rw[Ybr,zud,zAt X hX q (h q oS)];have:=zql r ⟨false,[],X.told++[q]⟩ rfl fun x hx=>h x (by simp[hx])
  exact⟨this.1,by simp_all⟩
def nsB (n:Int):Bool:=decide (zi6 (u8 (zjy n 1))=(1,true))&&decide (zjA (u8 (zjy n 1))=n)
def nrB (n:Int):Bool:=decide (zjA (zjz n false)=n) && !decide (zD .and .u8 ((zjz n false).toNat:Nat) 1=1)
theorem zIy:((List.range 128).all fun (n:Nat)=>nsB n&&nrB n)=true:=by rfl
theorem zFD {n:Int} (h:0≤n∧n≤127):nsB n=true∧nrB n=true:=by
 have:=Ya4.1 zIy n.toNat (List.mem_range.2 oM);rw[Ydn h.1,Yu] at this;exact this
theorem zJt:zi6 (u8 (zD .or .u8 1 (zjy (IntKind.i64.wrap (2 - 2)) 2)))=(2,true):=by rfl
theorem zCJ (x:Int) (h:0≤x∧x≤65535) (l r:List UInt8):IntKind.i64.wrap (zal (l++(be 2 x++r)) l.length 2)=x:=by
 have h1:be 2 x=[zbC x 8,zbC x 0]:=rfl
 have h2:(zbC x 8).toNat=x.toNat / 256:=by
  unfold zbC;rw[show x.fdiv (2 ^ (8:Int).toNat)=((x.toNat / 256:Nat):Int) by grind];rw[Yc6];omega
 have h3:(zbC x 0).toNat=x.toNat % 256:=by
  unfold zbC;rw[show x.fdiv (2 ^ (0:Int).toNat)=x by simp];rw[Yc6];omega
 unfold zal;rw[Yc8,List.drop_left,h1];show IntKind.i64.wrap (num [zbC x 8,zbC x 0] 0:Nat)=x
 have h4:num [zbC x 8,zbC x 0] 0=x.toNat:=by
  simp only[num,h2,h3];omega
 rw[h4,Ydn h.1];simp only[IntKind.wrap,IntKind.signed,IntKind.bits];simp;omega
theorem zGQ {c:zb9} (h:zdi c=0) (hk:c.kind=1∨(c.kind=2∧c.ns=0)) (hp:c.p=false):zc8 (zaP c)=some c:=by
 obtain⟨d1,d2,d3,d4,d5,d6⟩:=zkh h
 obtain⟨b1,b2,e0,e1,e2⟩:∃ b1 b2,hdC c=[b1,b2]∧zi6 b1=(c.kind,true)∧(c.kind=1→zjA b1=c.ns)∧b2=zjz c.nr false:=by
  rcases hk with hk|⟨hk,_⟩
  ·have:=(zFD d5).1;unfold nsB at this;rw[Yu,decide_eq_true_eq,decide_eq_true_eq] at this;exact⟨_,_,by unfold hdC;rw[if_pos hk],by simp_all,fun _=>this.2,by rw[hp]⟩
  ·refine⟨_,_,by unfold hdC;rw[if_neg oM,if_pos (.inl hk)],by rw[hk];exact zJt,fun h=>by omega,by rw[hp]⟩
 have hn:=(zFD d6).2;unfold nrB at hn;rw[Yu,decide_eq_true_eq,Yah,decide_eq_false_iff_not,←e2.2] at hn;have hP:zaP c=3::b1::b2::(be 2 c.me++(be 2 c.peer++c.data)):=by unfold zaP;rw[e0];simp
 have hlen:(zaP c).length=7+c.data.length:=by rw[hP];simp[zcI];omega
 have ha:zhV (zaP c)=3:=by
  unfold zhV;have:(zaP c).getD 1 0=b1:=by rw[hP];rfl
  rw[this,e1];rfl
 have g1:(zaP c).getD 1 0=b1:=by rw[hP];rfl
 have g2:(zaP c).getD 2 0=b2:=by rw[hP];rfl
 have n1:IntKind.i64.wrap (zal (zaP c) 3 2)=c.me:=by
  have:=zCJ c.me d2 [3,b1,b2] (be 2 c.peer++c.data);rw[hP];exact this
 have n2:IntKind.i64.wrap (zal (zaP c) (3+2) 2)=c.peer:=by
  have:=zCJ c.peer d3 ([3,b1,b2]++be 2 c.me) c.data;rw[Yp] at this;rw[hP];have hl:(([3,b1,b2]++be 2 c.me).length:Int)=3+2:=by simp[zcI]
  rw[hl] at this;exact this
 have n3:(zaP c).drop ((3:Int)+4).toNat=c.data:=by
  rw[hP];have:3::b1::b2::(be 2 c.me++(be 2 c.peer++c.data))=([3,b1,b2]++be 2 c.me++be 2 c.peer)++c.data:=by simp
  rw[this];have hl:((3:Int)+4).toNat=([3,b1,b2]++be 2 c.me++be 2 c.peer).length:=by simp[zcI]
  rw[hl,List.drop_left]
 have hX:zgn (zaP c)=c:=by
  unfold zgn;rw[ha,g1,g2,e1,n1,n2,n3];dsimp only;obtain⟨kind,ns,nr,p,me,peer,data⟩:=c;dsimp only at *;subst hp;simp only[if_true,hn.1];have h2:decide (zD .and .u8 ((b2.toNat:Nat):Int) 1=1)=false:=decide_eq_false hn.2
  rw[h2];rcases hk with hk|⟨hk,hz⟩
  ·simp_all
  ·simp_all
 unfold zc8;rw[if_neg oM,if_neg (by grind),if_neg (by omega),hX,if_pos h]
end
section
section
variable {G G':List UInt8→Prop}
theorem Wire.mono {α:Type} [Pay α] {G G':α→Prop} (hG:∀ p,G p→G' p) {me peer:Int} {hi v:Nat}:∀ {Fs:List (zfv α)} {lo w:Nat},Wire G me peer hi v lo w Fs→Wire G' me peer hi v lo w Fs
 | [],_,_,h=>h
 | c::Fs,lo,w,⟨h0,r,h1,h2,h3⟩=>by
  refine⟨h0,r,h1,h2,?_⟩;rcases h3 with ⟨a,b,g,h3⟩|⟨a,b,g,h3⟩
  ·exact .inl ⟨a,b,hG _ g,h3.mono hG⟩
  ·exact .inr ⟨a,b,g,h3.mono hG⟩
theorem EndI.mono {α:Type} {G G':α→Prop} (hG:∀ p,G p→G' p) {X:LnkR α} {B W:Nat} (h:EndI G X B W):EndI G' X B W:=⟨h.up,h.nb,h.nh,h.tm,h.sz,h.rz,h.base,h.wait,h.kept,h.un,fun p hp=>hG p (h.good p hp)⟩
theorem ETo.mono {α:Type} [Pay α] {G G':α→Prop} (hG:∀ p,G p→G' p) {X Y:LnkR α} {B W B' W':Nat} (h:ETo G X Y B W B' W'):ETo G' X Y B W B' W':=by
 obtain⟨n,a,b,c⟩:=h.out;exact⟨h.e.mono hG,h.b,h.w,h.v,h.me,h.rs,⟨n,a,b,c.mono hG⟩,h.lf⟩
structure STo (G:List UInt8→Prop) (X Y:NodX) (k:Int) (B W B' W':Nat):Prop where
 lk:ETo G (X.sd k).L (Y.sd k).L B W B' W'
 inn:(Y.sd k).L.inn=(X.sd k).L.inn
 dec:(Y.sd k).hunts=(X.sd k).hunts∧(Y.sd k).inn=(X.sd k).inn∧(Y.sd k).resets=(X.sd k).resets∧(Y.sd k).out=(X.sd k).out
 nd:Y.nb=X.nb∧Y.me=X.me∧Y.set=X.set
 told:Y.told.length+W≤X.told.length+W'
theorem STo.refl {X:NodX} {k:Int} {B W:Nat} (h:EndI G (X.sd k).L B W):STo G X X k B W B W:=⟨ETo.refl h,rfl,⟨rfl,rfl,rfl,rfl⟩,⟨rfl,rfl,rfl⟩,Yd _⟩
theorem STo.same {X Y:NodX} {k:Int} {B W:Nat} (h:EndI G (X.sd k).L B W) (e:Y.sd k=X.sd k) (n:Y.nb=X.nb∧Y.me=X.me∧Y.set=X.set) (t:Y.told.length≤X.told.length):STo G X Y k B W B W:=⟨by rw[e];exact ETo.refl h,by rw[e],by simp_all,n,by omega⟩
theorem STo.trans {X Y Z:NodX} {k:Int} {B W B' W' B2 W2:Nat} (h:STo G X Y k B W B' W') (h':STo G Y Z k B' W' B2 W2):STo G X Z k B W B2 W2:=by
 obtain⟨a1,a2,a3,a4⟩:=h.dec;obtain⟨b1,b2,b3,b4⟩:=h'.dec;obtain⟨c1,c2,c3⟩:=h.nd;obtain⟨d1,d2,d3⟩:=h'.nd;have:=h.told;have:=h'.told
 exact⟨h.lk.trans h'.lk,h'.inn.trans h.inn,⟨b1.trans a1,b2.trans a2,b3.trans a3,b4.trans a4⟩,⟨d1.trans c1,d2.trans c2,d3.trans c3⟩,by omega⟩
theorem STo.mono (hG:∀ p,G p→G' p) {X Y:NodX} {k:Int} {B W B' W':Nat} (h:STo G X Y k B W B' W'):STo G' X Y k B W B' W':=⟨h.lk.mono hG,h.inn,h.dec,h.nd,h.told⟩
theorem zq7 {X:NodX} {k:Int} {B W:Nat} (h:EndI G (X.sd k).L B W) (w:Word) (hw:w.err=0→G w.bytes):STo G X (zbf X k w).1 k B W B W∧(zbf X k w).1={ X with sd:=(zbf X k w).1.sd }:=by
 unfold zbf;split
 ·exact⟨STo.refl h,rfl⟩
 ·rename_i g;have h1:=push_to h (hw (by omega))
  refine⟨⟨?_,?_,?_,⟨rfl,rfl,rfl⟩,Yd _⟩,rfl⟩
  ·rw[za9];exact h1
  ·rw[za9];exact zEq _ _
  ·rw[za9];exact⟨rfl,rfl,rfl,rfl⟩
structure zfy (σ:Type) (k:Int) (Gin:List UInt8→Prop) where
 le:σ→σ→Prop
 rfl':∀ s,le s s
 trs:∀ s t u,le s t→le t u→le s u
 g:σ→List UInt8→Prop
 mono:∀ s t,le s t→∀ p,g s p→g t p
 len:∀ s p,g s p→0<p.length∧p.length≤121
 lin:∀ p,Gin p→0<p.length∧p.length≤121
 I:σ→NodX→Prop
 lnk:∀ s X L,I s X→L.resets=(X.sd k).L.resets→I s (X.setSd k { X.sd k with L:=L })
 word:∀ s X p B W,I s X→EndI (g s) (X.sd k).L B W→Gin p→∃ s',le s s'∧I s' (zb0 k X p)∧STo (g s') { X with told:=(zb0 k X p).told } (zb0 k X p) k B W B W∧(zb0 k X p).told.length≤X.told.length+1
 dec:∀ s X h,I s X→I s (X.setSd k { X.sd k with hunts:=h,inn:=[] })
 drain:∀ s X,I s X→I s (zcm X k)
 take:∀ s X,I s X→I s (zaQ X k)
 side:∀ s X S,I s X→S.L.resets=S.resets→I s (X.setSd k S)
 nb:∀ s X,I s X→X.nb=[k]∧(X.sd k).L.resets=(X.sd k).resets
 off:∀ s X B W,I s X→EndI (g s) (X.sd k).L B W→I s (zcl X [k])∧STo (g s) X (zcl X [k]) k B W B W
 oth:∀ s X t f d,I s X→I s { X with ticks:=t,tab:=f,dsk:=d }
 nxt:∀ s X d n,I s X→I s { X with dsk:=d,next:=n }
 vec:∀ s (w:Word),w.kind=4→w.err=0→g s w.bytes
theorem ETo.inn0 {α:Type} [Pay α] {G:α→Prop} {X Y:LnkR α} {B W B' W':Nat} (h:ETo G X Y B W B' W') (l:List α):ETo G X { Y with inn:=l } B W B' W':=
 ⟨⟨h.e.up,h.e.nb,h.e.nh,h.e.tm,h.e.sz,h.e.rz,h.e.base,h.e.wait,h.e.kept,h.e.un,h.e.good⟩,h.b,h.w,h.v,h.me,h.rs,h.out,h.lf⟩
theorem zwK {Gin:List UInt8→Prop} (hl:∀ p,Gin p→0<p.length∧p.length≤121) {c:zb9} {me peer:Int} (hm:0≤me∧me≤65535) (hp:0≤peer∧peer≤65535) {w r:Nat} (h0:c.me=me∧c.peer=peer∧c.p=false) (hr:c.nr=(r:Int) % 128) (hk:(c.kind=1∧c.ns=(w:Int) % 128∧Gin c.data)∨(c.kind=2∧c.ns=0∧c.data=Pay.emp)) :
  zdi c=0∧zc8 (zaP c)=some c∧0<(zaP c).length∧(zaP c).length≤128:=by
 obtain⟨h1,h2,h3⟩:=h0
 have hd:(c.kind=1∧0<c.data.length∧c.data.length≤121)∨(c.kind=2∧c.ns=0∧c.data.length=0):=by
  rcases hk with ⟨a,_,g⟩|⟨a,b,g⟩
  ·simp_all
  ·exact .inr ⟨a,b,by rw[g];rfl⟩
 have hns:0≤c.ns∧c.ns≤127:=by
  rcases hk with ⟨_,b,_⟩|⟨_,b,_⟩
  ·omega
  ·omega
 have hE:zdi c=0:=by
  unfold zdi;dsimp only;rw[zdS,if_neg oM,if_neg oM,if_neg oM,if_neg oM]
 have hk1:c.kind=1∨(c.kind=2∧c.ns=0):=by
  rcases hd with ⟨a,_⟩|⟨a,b,_⟩
  ·exact .inl a
  ·exact .inr ⟨a,b⟩
 refine⟨hE,zGQ hE hk1 h3,?_,?_⟩
 ·rw[zin];omega
 ·have:=zsU c;rw[zin];omega
section
variable {σ:Type} {k:Int} {Gin:List UInt8→Prop}
theorem zAu (A:zfy σ k Gin) {s:σ} {X:NodX} {B W r:Nat} (hI:A.I s X) (he:EndI (A.g s) (X.sd k).L B W) (hi:(X.sd k).L.inn=[]) {c:zb9} {me peer:Int} (hme:0≤me∧me≤65535) (hpe:0≤peer∧peer≤65535) (hm:me=(X.sd k).L.peer∧peer=(X.sd k).L.me) (h0:c.me=me∧c.peer=peer∧c.p=false) (hnr:c.nr=(r:Int) % 128) (hr:B≤r∧r≤B+(X.sd k).L.S.under) (hk:(c.kind=1∧c.ns=(W:Int) % 128∧Gin c.data)∨(c.kind=2∧c.ns=0∧c.data=Pay.emp)) :
  ∃ s',A.le s s'∧A.I s' (zez k X (zaP c))∧STo (A.g s') X (zez k X (zaP c)) k B W r (if c.kind=1 then W+1 else W):=by
 have hw:=zwK A.lin hme hpe h0 hnr hk
 obtain⟨h1,h2⟩:=zGP he (c:=c) (W:=W) ⟨h0.1.trans hm.1,h0.2.1.trans hm.2,h0.2.2⟩ hnr hr (by
  rcases hk with ⟨a,b,g⟩|⟨a,_⟩
  ·exact .inl ⟨a,b,A.lin _ g⟩
  ·exact .inr a)
 rw[hi,Y1] at h2;obtain⟨W1,hW1⟩:=oI (if c.kind=1 then W+1 else W);rw[←hW1] at h1 ⊢
 have hZ:STo (A.g s) { X with told:=X.told } (zfc X k c) k B W r W1:=by
  have h3:=h1.inn0 [];refine⟨?_,?_,?_,⟨rfl,rfl,rfl⟩,?_⟩
  ·unfold zfc;rw[za9];exact h3
  ·unfold zfc;rw[za9];exact hi.symm
  ·unfold zfc;rw[za9];exact⟨rfl,rfl,rfl,rfl⟩
  ·show X.told.length+W≤X.told.length+W1;have:=h1.w;omega
 have hIZ:A.I s (zfc X k c):=by unfold zfc;exact A.lnk s X _ hI h1.rs
 have e:zez k X (zaP c)=(zdZ (X.sd k).L c).inn.foldl (zb0 k) (zfc X k c):=by unfold zez;rw[hw.2.1]
 rw[e,h2];by_cases hk1:c.kind=1
 ·rw[if_pos hk1,Yap,Ycg]
  obtain⟨s',l1,l2,l3,l4⟩:=A.word s (zfc X k c) c.data r W1 hIZ hZ.lk.e (by
   rcases hk with ⟨_,_,g⟩|⟨a,_⟩
   ·exact g
   ·omega)
  refine⟨s',l1,l2,?_⟩;have hZ':=hZ.mono (A.mono s s' l1)
  have t1:(zfc X k c).told=X.told:=rfl;rw[t1] at l4;have t2:W1=W+1:=by rw[hW1,if_pos hk1]
  refine⟨hZ'.lk.trans l3.lk,l3.inn.trans hZ.inn,?_,?_,by omega⟩
  ·obtain⟨a1,a2,a3,a4⟩:=hZ.dec;obtain⟨b1,b2,b3,b4⟩:=l3.dec;exact⟨b1.trans a1,b2.trans a2,b3.trans a3,b4.trans a4⟩
  ·obtain⟨a1,a2,a3⟩:=l3.nd;exact⟨a1,a2,a3⟩
 ·rw[if_neg hk1,Ycg];exact⟨s,A.rfl' s,hIZ,hZ⟩
theorem zsn (A:zfy σ k Gin) {me peer:Int} (hme:0≤me∧me≤65535) (hpe:0≤peer∧peer≤65535) {hi v:Nat}:∀ (Fs:List zb9) {s:σ} {X:NodX} {B W:Nat},A.I s X→EndI (A.g s) (X.sd k).L B W→(X.sd k).L.inn=[]→(me=(X.sd k).L.peer∧peer=(X.sd k).L.me)→Wire Gin me peer hi v B W Fs→hi≤B+(X.sd k).L.S.under →
  ∃ s',A.le s s'∧A.I s' ((Fs.map zaP).foldl (zez k) X)∧STo (A.g s') X ((Fs.map zaP).foldl (zez k) X) k B W hi v
 | [],s,X,B,W,hI,he,hin,hm,⟨h1,h2⟩,hh=>by
  subst h1 h2;exact⟨s,A.rfl' s,hI,STo.refl he⟩
 | c::Fs,s,X,B,W,hI,he,hin,hm,⟨h0,r,h1,h2,h3⟩,hh=>by
  have hk:(c.kind=1∧c.ns=(W:Int) % 128∧Gin c.data)∨(c.kind=2∧c.ns=0∧c.data=Pay.emp):=by
   rcases h3 with ⟨a,b,g,_⟩|⟨a,b,g,_⟩
   ·exact .inl ⟨a,b,g⟩
   ·exact .inr ⟨a,b,g⟩
  obtain⟨s1,l1,l2,l3⟩:=zAu A hI he hin hme hpe hm h0 h2 ⟨h1.1,by omega⟩ hk
  have hW:Wire Gin me peer hi v r (if c.kind=1 then W+1 else W) Fs:=by
   rcases h3 with ⟨a,_,_,h3⟩|⟨a,_,_,h3⟩
   ·rw[if_pos a];exact h3
   ·rw[if_neg oM];exact h3
  have hv:=l3.lk.v;have hme':=l3.lk.me
  obtain⟨s2,m1,m2,m3⟩:=zsn A hme hpe Fs l2 l3.lk.e (l3.inn.trans hin) ⟨by omega,by omega⟩ hW oM;rw[Yv,Yap];exact⟨s2,A.trs _ _ _ l1 m1,m2,(l3.mono (A.mono _ _ m1)).trans m3⟩
theorem zk2 {Gin:List UInt8→Prop} (hl:∀ p,Gin p→0<p.length∧p.length≤121) {me peer:Int} (hm:0≤me∧me≤65535) (hp:0≤peer∧peer≤65535) {hi v:Nat}:∀ {Fs:List zb9} {lo w:Nat},Wire Gin me peer hi v lo w Fs→Fs.flatMap zbh=(Fs.map zaP).flatMap zdA∧∀ q∈Fs.map zaP,0<q.length∧q.length≤128
 | [],_,_,_=>⟨rfl,fun q h=>by cases h⟩
 | c::Fs,lo,w,⟨h0,r,h1,h2,h3⟩=>by
  have hk:(c.kind=1∧c.ns=(w:Int) % 128∧Gin c.data)∨(c.kind=2∧c.ns=0∧c.data=Pay.emp):=by
   rcases h3 with ⟨a,b,g,_⟩|⟨a,b,g,_⟩
   ·exact .inl ⟨a,b,g⟩
   ·exact .inr ⟨a,b,g⟩
  have hw:=zwK hl hm hp h0 h2 hk
  obtain⟨i1,i2⟩:Fs.flatMap zbh=(Fs.map zaP).flatMap zdA∧∀ q∈Fs.map zaP,0<q.length∧q.length≤128:=by
   rcases h3 with ⟨_,_,_,h3⟩|⟨_,_,_,h3⟩
   ·exact zk2 hl hm hp h3
   ·exact zk2 hl hm hp h3
  refine⟨?_,fun q hq=>?_⟩
  ·have:zbh c=zdA (zaP c):=by unfold zbh;rw[if_pos hw.1]
   rw[Ybr,Yv,Ybr,this,i1]
  ·grind
structure CTo (G:List UInt8→Prop) (X Y:NodX) (k:Int) (B W B' W':Nat):Prop where
 e:EndI G (Y.sd k).L B' W'
 b:B≤B'
 w:W≤W'
 v:B+(X.sd k).L.S.under≤B'+(Y.sd k).L.S.under
 me:(Y.sd k).L.me=(X.sd k).L.me∧(Y.sd k).L.peer=(X.sd k).L.peer
 rest:(Y.sd k).L.out=[]∧(Y.sd k).L.inn=[]
 out:∃ new,(Y.sd k).out=(X.sd k).out++new.flatMap zbh∧new.length=(B'+(Y.sd k).L.S.under - (B+(X.sd k).L.S.under))+(W' - W)∧Wire G (X.sd k).L.me (X.sd k).L.peer W' (B'+(Y.sd k).L.S.under) W (B+(X.sd k).L.S.under) new
 dec:(Y.sd k).inn=[]
 nd:Y.nb=X.nb∧Y.me=X.me∧Y.set=X.set
 told:Y.told.length+W≤X.told.length+W'
theorem zEu {X:NodX} (hn:X.nb=[k]) (hu:(X.sd k).L.up=true):ziK X=[k]:=by unfold ziK;rw[hn];simp[hu]
theorem zjb (A:zfy σ k Gin) {s:σ} {X Z:NodX} {B W B' W':Nat} (hI:A.I s Z) (h:STo (A.g s) X Z k B W B' W') (h1:(X.sd k).L.out=[]) (h2:(X.sd k).L.inn=[]) (h3:(X.sd k).inn=[]) :
  A.I s (zO Z)∧CTo (A.g s) X (zO Z) k B W B' W'∧(∀ V0,Lf (X.sd k).L B V0→Lf ((zO Z).sd k).L B' V0):=by
 obtain⟨n1,n2⟩:=A.nb s Z hI
 have hH:Z.nb.foldl zb4 Z=Z:=by
  rw[n1,Yap,Ycg];unfold zb4;rw[if_neg (by rw[n2];exact fun h=>h rfl)]
 obtain⟨Y,hY,hIY,hS⟩:∃ Y,zcb Z=Y∧A.I s Y∧STo (A.g s) X Y k B W B' W':=by
  refine⟨_,rfl,?_⟩;unfold zcb;rw[hH];split
  ·simp_all
  ·rw[zEu n1 h.lk.e.up];obtain⟨a1,a2⟩:=A.off s Z B' W' hI h.lk.e;exact⟨a1,h.trans a2⟩
 have e:zO Z=zcm Y k:=by unfold zO;rw[n1,hY];rfl
 have eL:((zcm Y k).sd k)=zfU (Y.sd k):=by unfold zcm;rw[za9]
 rw[e];refine⟨A.drain s Y hIY,?_,fun V0 hv=>by rw[eL];exact hS.lk.lf V0 hv⟩;obtain⟨new,o1,o2,o3⟩:=hS.lk.out;rw[h1,Y1] at o1;obtain⟨d1,d2,d3,d4⟩:=hS.dec;have hE:=hS.lk.e
 refine⟨?_,hS.lk.b,hS.lk.w,?_,?_,?_,⟨new,?_,?_,?_⟩,?_,hS.nd,hS.told⟩
 ·rw[eL];exact⟨hE.up,hE.nb,hE.nh,hE.tm,hE.sz,hE.rz,hE.base,hE.wait,hE.kept,hE.un,hE.good⟩
 ·rw[eL];exact hS.lk.v
 ·rw[eL];exact hS.lk.me
 ·rw[eL];exact⟨rfl,hS.inn.trans h2⟩
 ·rw[eL];show (Y.sd k).out++(Y.sd k).L.out.flatMap zbh=_;rw[d4,o1]
 ·rw[eL];exact o2
 ·rw[eL];exact o3
 ·rw[eL];exact d2.trans h3
theorem zjO (A:zfy σ k Gin) {s:σ} {X:NodX} {B W:Nat} (hI:A.I s X) (hf:X.C.w.failed=false) (he:EndI (A.g s) (X.sd k).L B W) (h1:(X.sd k).L.out=[]) (h2:(X.sd k).L.inn=[]) (h3:(X.sd k).inn=[])
  {me peer:Int} (hme:0≤me∧me≤65535) (hpe:0≤peer∧peer≤65535) (hm:me=(X.sd k).L.peer∧peer=(X.sd k).L.me) {hi v:Nat} {Fs:List zb9} (hF:Wire Gin me peer hi v B W Fs) (hh:hi≤B+(X.sd k).L.S.under) :
  ∃ s' Y,zav X k (Fs.flatMap zbh)=(Y,zit Y)∧A.le s s'∧A.I s' Y∧CTo (A.g s') X Y k B W hi v∧(∀ V0,Lf (X.sd k).L B V0→Lf (Y.sd k).L hi V0):=by
 obtain⟨n1,_⟩:=A.nb s X hI;obtain⟨q1,q2⟩:=zk2 A.lin hme hpe hF
 have hD:za6 (X.sd k).D (Fs.flatMap zbh)=⟨(za6 (X.sd k).D (Fs.flatMap zbh)).hunts,[],Fs.map zaP⟩:=by
  obtain⟨a,b⟩:=zql (Fs.map zaP) (X.sd k).D h3 q2;rw[←q1] at a b;rw[←a];have hb:(za6 (X.sd k).D (Fs.flatMap zbh)).told=Fs.map zaP:=b
  rw[←hb]
 obtain⟨h,hh0⟩:=oI ((za6 (X.sd k).D (Fs.flatMap zbh)).hunts);rw[←hh0] at hD;have e1:zgY X k (Fs.flatMap zbh)=X.setSd k { X.sd k with hunts:=h,inn:=[] }:=by unfold zgY;rw[hD]
 have e2:zdW X k (Fs.flatMap zbh)=(Fs.map zaP).foldl (zez k) (X.setSd k { X.sd k with hunts:=h,inn:=[] }):=by unfold zdW;rw[e1,hD]
 obtain⟨X1,hX1⟩:=oI (X.setSd k { X.sd k with hunts:=h,inn:=[] });rw[←hX1] at e2;have eL:X1.sd k={ X.sd k with hunts:=h,inn:=[] }:=by rw[hX1,za9]
 have hI1:A.I s X1:=by rw[hX1];exact A.dec s X h hI
 obtain⟨s',l1,l2,l3⟩:=zsn A hme hpe Fs (X:=X1) hI1 (by grind) (by grind) (by grind) hF (by grind);obtain⟨w1,w2,w3⟩:=zjb A l2 l3 (by grind) (by grind) (by rw[eL]);refine⟨s',zO (zdW X k (Fs.flatMap zbh)),?_,l1,by grind,?_,?_⟩
 ·unfold zav;rw[if_neg (by rw[hf];decide),if_pos (by rw[n1];simp)]
 ·rw[e2];have ht:X1.told=X.told:=by rw[hX1];rfl
  have hn:X1.nb=X.nb∧X1.me=X.me∧X1.set=X.set:=by rw[hX1];exact⟨rfl,rfl,rfl⟩
  obtain⟨c1,c2,c3,c4,c5,c6,c7,c8,c9,c10⟩:=w2;rw[eL] at c4 c5 c7;rw[ht] at c10;rw[hn.1,hn.2.1,hn.2.2] at c9;exact⟨c1,c2,c3,c4,c5,c6,c7,c8,c9,c10⟩
 ·grind
end
end
end
section
section
variable {σ:Type} {k:Int} {Gin:List UInt8→Prop}
theorem zIz (A:zfy σ k Gin) {s:σ} {X:NodX} {B W:Nat} (hI:A.I s X) (he:EndI (A.g s) (X.sd k).L B W) (w:Word) (hw:w.err=0→A.g s w.bytes):A.I s (zbf X k w).1:=by
 unfold zbf;split
 ·exact hI
 ·rename_i g;exact A.lnk s X _ hI (push_to he (hw (by omega))).rs
theorem zCK (A:zfy σ k Gin) {s:σ} {X:NodX} {C:CuR} {B W:Nat} (hI:A.I s { X with C:=C }) (he:EndI (A.g s) (X.sd k).L B W) (h1:(X.sd k).L.out=[]) (h2:(X.sd k).L.inn=[]) (h3:(X.sd k).inn=[]) :
  A.I s (zO { X with C:=C })∧CTo (A.g s) X (zO { X with C:=C }) k B W B W∧(∀ V0,Lf (X.sd k).L B V0→Lf ((zO { X with C:=C }).sd k).L B V0):=
 zjb A hI (X:=X) (STo.same he rfl ⟨rfl,rfl,rfl⟩ (Yd _)) h1 h2 h3
theorem zuf (A:zfy σ k Gin) {s:σ} {X:NodX} {B W:Nat} (hI:A.I s X) (hf:X.C.w.failed=false) (he:EndI (A.g s) (X.sd k).L B W) (h1:(X.sd k).L.out=[]) (h2:(X.sd k).L.inn=[]) (h3:(X.sd k).inn=[])
  (hl:((X.sd k).L.S.under=0→(X.sd k).L.left=0)∧(0<(X.sd k).L.S.under→(X.sd k).L.left=3)) :
  ∃ Y,za8 X=(Y,0)∧A.I s Y∧CTo (A.g s) X Y k B W B W∧Lf (Y.sd k).L B (B+(X.sd k).L.S.under):=by
 obtain⟨n1,_⟩:=A.nb s X hI;obtain⟨t1,⟨t2,t3,t4,t5,t6,t7⟩,t8⟩:=zEr he hl;have e1:zgb X={ X with ticks:=inc X.ticks,tab:=zd0 X.tab }.setSd k { X.sd k with L:=zbN (X.sd k).L }:=by unfold zgb;rw[n1];rfl
 obtain⟨X2,hX2⟩:=oI (zb5 X);have eX2:X2={ (X.setSd k { X.sd k with L:=zbN (X.sd k).L }) with ticks:=inc X.ticks,tab:=zd0 X.tab,dsk:=fun j=>((zgb X).dsk j).bind zfa }:=by rw[hX2];unfold zb5;rw[e1];rfl
 have eL:X2.sd k={ X.sd k with L:=zbN (X.sd k).L }:=by rw[eX2];exact za9 _ _ _
 have hI2:A.I s X2:=by rw[eX2];exact A.oth s _ _ _ _ (A.lnk s X _ hI t7)
 have hn2:X2.nb=X.nb∧X2.me=X.me∧X2.set=X.set:=by rw[eX2];exact⟨rfl,rfl,rfl⟩
 have ht2:X2.told=X.told:=by rw[eX2];rfl
 have he2:EndI (A.g s) (X2.sd k).L B W:=by rw[eL];exact t1
 obtain⟨Z,hZ,hIZ,hS⟩:∃ Z,zci X=Z∧A.I s Z∧STo (A.g s) X2 Z k B W B W:=by
  refine⟨_,rfl,?_⟩;unfold zci;rw[←hX2,n1,Yap,Ycg];split
  ·unfold zbH;split
   ·have hv:(⟨4,0,za7,[],zjK X2 k⟩:Word).err=0→A.g s (⟨4,0,za7,[],zjK X2 k⟩:Word).bytes:=A.vec s _ rfl;exact⟨zIz A hI2 he2 _ hv,(zq7 he2 _ hv).1⟩
   ·exact⟨hI2,STo.refl he2⟩
  ·exact⟨hI2,STo.refl he2⟩
 obtain⟨w1,w2,w3⟩:=zjb A hIZ hS (by simp_all) (by simp_all) (by simp_all);refine⟨zO Z,?_,w1,?_,?_⟩
 ·unfold za8;rw[if_neg (by simp_all),hZ]
 ·obtain⟨c1,c2,c3,c4,c5,c6,c7,c8,c9,c10⟩:=w2;rw[eL] at c4 c5 c7;dsimp only at c4 c5 c7;rw[t2] at c4 c7;rw[t5,t6] at c5 c7;rw[ht2] at c10;rw[hn2.1,hn2.2.1,hn2.2.2] at c9;exact⟨c1,c2,c3,c4,c5,c6,c7,c8,c9,c10⟩
 ·simp_all
end
end
section
structure Pair (σa σb:Type) where
 ga:List UInt8→Prop
 Ab:zfy σb 0 ga
 Aa:(sb:σb)→zfy σa 1 (Ab.g sb)
 hg:∀ sb s,(Aa sb).g s=ga
 hI:∀ sb sb' sa X,Ab.le sb sb'→(Aa sb).I sa X→(Aa sb').I sa X
 la:σa→σa→Prop
 hl:∀ sb,(Aa sb).le=la
 na:∀ sb sa X,(Aa sb).I sa X→X.C.w.failed=false
section
variable {σa σb:Type} (Q:Pair σa σb)
structure Sys (sa:σa) (sb:σb) (w:W2) (Ba Wa Bb Wb:Nat):Prop where
 Ia:(Q.Aa sb).I sa w.a
 Ib:Q.Ab.I sb w.b
 ea:EndI Q.ga (w.a.sd 1).L Ba Wa
 eb:EndI (Q.Ab.g sb) (w.b.sd 0).L Bb Wb
 pr:(w.a.sd 1).L.peer=(w.b.sd 0).L.me∧(w.b.sd 0).L.peer=(w.a.sd 1).L.me
 rg:(0≤(w.a.sd 1).L.me∧(w.a.sd 1).L.me≤65535)∧0≤(w.b.sd 0).L.me∧(w.b.sd 0).L.me≤65535
 ra:((w.a.sd 1).L.out=[]∧(w.a.sd 1).L.inn=[])∧(w.a.sd 1).inn=[]
 rb:((w.b.sd 0).L.out=[]∧(w.b.sd 0).L.inn=[])∧(w.b.sd 0).inn=[]
 oa:∃ Fs,(w.a.sd 1).out=Fs.flatMap zbh∧Fs.length=(Ba+(w.a.sd 1).L.S.under - Wb)+(Wa - Bb)∧Wire Q.ga (w.a.sd 1).L.me (w.a.sd 1).L.peer Wa (Ba+(w.a.sd 1).L.S.under) Bb Wb Fs
 ob:∃ Fs,(w.b.sd 0).out=Fs.flatMap zbh∧Fs.length=(Bb+(w.b.sd 0).L.S.under - Wa)+(Wb - Ba)∧Wire (Q.Ab.g sb) (w.b.sd 0).L.me (w.b.sd 0).L.peer Wb (Bb+(w.b.sd 0).L.S.under) Ba Wa Fs
variable {Q} {sa:σa} {sb:σb} {w:W2} {Ba Wa Bb Wb:Nat}
theorem Sys.few (h:Sys Q sa sb w Ba Wa Bb Wb):(∃ Fs:List zb9,(w.a.sd 1).out=Fs.flatMap zbh∧Fs.length≤8)∧(∃ Fs:List zb9,(w.b.sd 0).out=Fs.flatMap zbh∧Fs.length≤8):=by
 obtain⟨Fs,a1,a2,a3⟩:=h.oa;obtain⟨E,b1,b2,b3⟩:=h.ob;have:=a3.le;have:=b3.le;have:=h.ea.un;have:=h.eb.un
 exact⟨⟨Fs,a1,by omega⟩,⟨E,b1,by omega⟩⟩
theorem Sys.turnA (h:Sys Q sa sb w Ba Wa Bb Wb) {sa':σa} {Y:NodX} (hI:(Q.Aa sb).I sa' Y) (hc:CTo Q.ga w.a Y 1 Ba Wa Ba Wa):Sys Q sa' sb ⟨Y,w.b⟩ Ba Wa Bb Wb:=by
 obtain⟨Fs,a1,a2,a3⟩:=h.oa;obtain⟨n,b1,b2,b3⟩:=hc.out;have:=a3.le;have:=hc.v
 refine⟨hI,h.Ib,hc.e,h.eb,⟨by rw[hc.me.2];exact h.pr.1,by rw[hc.me.1];exact h.pr.2⟩,⟨by rw[hc.me.1];exact h.rg.1,h.rg.2⟩,⟨hc.rest,hc.dec⟩,h.rb,⟨Fs++n,by simp_all,by grind,?_⟩,h.ob⟩;dsimp only;rw[hc.me.1,hc.me.2];exact Wire.app b3 a3
theorem Sys.turnB (h:Sys Q sa sb w Ba Wa Bb Wb) {sb':σb} {Y:NodX} (hle:Q.Ab.le sb sb') (hI:Q.Ab.I sb' Y) (hc:CTo (Q.Ab.g sb') w.b Y 0 Bb Wb Bb Wb):Sys Q sa sb' ⟨w.a,Y⟩ Ba Wa Bb Wb:=by
 obtain⟨Fs,a1,a2,a3⟩:=h.ob;obtain⟨n,b1,b2,b3⟩:=hc.out;have:=a3.le;have:=hc.v
 refine⟨Q.hI _ _ _ _ hle h.Ia,hI,h.ea,hc.e,⟨by rw[hc.me.1];exact h.pr.1,by rw[hc.me.2];exact h.pr.2⟩,⟨h.rg.1,by rw[hc.me.1];exact h.rg.2⟩,h.ra,⟨hc.rest,hc.dec⟩,h.oa,⟨Fs++n,by simp_all,by grind,?_⟩⟩;dsimp only;rw[hc.me.1,hc.me.2];exact Wire.app b3 (a3.mono (Q.Ab.mono _ _ hle))
def Hl (X:zaX):Prop:=(X.S.under=0→X.left=0)∧(0<X.S.under→X.left=3)
theorem Lf.hl {X:zaX} {B V0:Nat} (h:Lf X B V0) (hv:V0≤B):Hl X:=⟨h.1,fun g=>(h.2 g).elim id fun e=>by omega⟩
theorem Hl.lf {X:zaX} (h:Hl X) (B V0:Nat):Lf X B V0:=⟨h.1,fun g => .inl (h.2 g)⟩
theorem Sys.tick (h:Sys Q sa sb w Ba Wa Bb Wb) (ha:Hl (w.a.sd 1).L) (hb:w.b.C.w.failed=false→Hl (w.b.sd 0).L) (hC:∀ X:NodX,X.C.w.failed=false→(za8 X).1.C=X.C) :
  Sys Q sa sb (zaE w) Ba Wa Bb Wb∧(zaE w).b.C.w.failed=w.b.C.w.failed∧Lf ((zaE w).a.sd 1).L Ba (Ba+(w.a.sd 1).L.S.under)∧(w.b.C.w.failed=false→Lf ((zaE w).b.sd 0).L Bb (Bb+(w.b.sd 0).L.S.under))∧(w.a.sd 1).L.S.under≤((zaE w).a.sd 1).L.S.under∧(w.b.sd 0).L.S.under≤((zaE w).b.sd 0).L.S.under:=by
 obtain⟨Y,y1,y2,y3,y4⟩:=zuf (Q.Aa sb) h.Ia (Q.na _ _ _ h.Ia) (by rw[Q.hg];exact h.ea) h.ra.1.1 h.ra.1.2 h.ra.2 ha;rw[Q.hg] at y3;have h1:=h.turnA y2 y3
 cases hf:w.b.C.w.failed with
 | true=>
  have e:za8 w.b=(w.b,9):=by unfold za8;rw[if_pos hf]
  have e2:zaE w=⟨Y,w.b⟩:=by unfold zaE;rw[y1,e]
  rw[e2];exact⟨h1,hf,y4,fun h=>Bool.noConfusion h,by have:=y3.v;dsimp only;omega,Yd _⟩
 | false=>
  obtain⟨Z,z1,z2,z3,z4⟩:=zuf Q.Ab h.Ib hf h.eb h.rb.1.1 h.rb.1.2 h.rb.2 (hb hf);have hZC:Z.C=w.b.C:=by have:=hC w.b hf;rw[z1] at this;exact this
  have e2:zaE w=⟨Y,Z⟩:=by unfold zaE;rw[y1,z1]
  rw[e2];exact⟨h1.turnB (Q.Ab.rfl' sb) z2 z3,by simp_all,y4,fun _=>z4,by have:=y3.v;dsimp only;omega,by have:=z3.v;dsimp only;omega⟩
theorem Sys.cross (h:Sys Q sa sb w Ba Wa Bb Wb) (hf:w.b.C.w.failed=false) :
  ∃ sa' sb',Q.la sa sa'∧Q.Ab.le sb sb'∧Sys Q sa' sb' (zZ w) Wb (Bb+(w.b.sd 0).L.S.under) Wa (Ba+(w.a.sd 1).L.S.under)∧(zZ w).a.told.length+Wa≤w.a.told.length+(Bb+(w.b.sd 0).L.S.under)∧(zZ w).b.told.length+Wb≤w.b.told.length+(Ba+(w.a.sd 1).L.S.under) ∧
   (∀ V0,Lf (w.a.sd 1).L Ba V0→Lf ((zZ w).a.sd 1).L Wb V0)∧(∀ V0,Lf (w.b.sd 0).L Bb V0→Lf ((zZ w).b.sd 0).L Wa V0)∧Ba≤Wb∧Bb≤Wa:=by
 obtain⟨Fs,f1,f2,f3⟩:=h.oa;obtain⟨E,g1,g2,g3⟩:=h.ob;have hF:=f3.le
 have hE:=g3.le;have eb0:(zaQ w.b 0).sd 0={ w.b.sd 0 with out:=[] }:=by unfold zaQ;rw[za9]
 have ea0:(zaQ w.a 1).sd 1={ w.a.sd 1 with out:=[] }:=by unfold zaQ;rw[za9]
 obtain⟨sb',Z,z1,z2,z3,z4,z5⟩:=zjO Q.Ab (X:=zaQ w.b 0) (Q.Ab.take sb _ h.Ib) hf (by rw[eb0];exact h.eb) (by rw[eb0];exact h.rb.1.1) (by rw[eb0];exact h.rb.1.2) (by rw[eb0];exact h.rb.2) h.rg.1 (by rw[h.pr.1];exact h.rg.2) (by rw[eb0];exact⟨h.pr.2.symm,h.pr.1⟩) f3 (by simp_all);have hIa:=Q.hI _ _ _ _ z2 h.Ia
 obtain⟨sa',Y,y1,y2,y3,y4,y5⟩:=zjO (Q.Aa sb') (X:=zaQ w.a 1) ((Q.Aa sb').take sa _ hIa) (show w.a.C.w.failed=false from Q.na _ _ _ h.Ia) (by rw[ea0,Q.hg];exact h.ea) (by rw[ea0];exact h.ra.1.1) (by rw[ea0];exact h.ra.1.2) (by rw[ea0];exact h.ra.2) h.rg.2 (by rw[h.pr.2];exact h.rg.1) (by rw[ea0];exact⟨h.pr.1.symm,h.pr.2⟩) (g3.mono (Q.Ab.mono _ _ z2)) (by simp_all);have e:zZ w=⟨Y,Z⟩:=by unfold zZ;rw[f1,g1,z1,y1]
 rw[e];rw[Q.hg] at y4;obtain⟨n,n1,n2,n3⟩:=y4.out;obtain⟨m,m1,m2,m3⟩:=z4.out;rw[ea0] at n1 n2 n3 y5;rw[eb0] at m1 m2 m3 z5;have my:=y4.me
 have mz:=z4.me;rw[ea0] at my;rw[eb0] at mz;have vy:=y4.v
 have vz:=z4.v;rw[ea0] at vy;rw[eb0] at vz;have ty:=y4.told
 have tz:=z4.told;refine⟨sa',sb',by rw[←Q.hl];exact y2,z2,⟨y3,z3,y4.e,z4.e,⟨?_,?_⟩,⟨?_,?_⟩,⟨y4.rest,y4.dec⟩,⟨z4.rest,z4.dec⟩,⟨n,n1,?_,?_⟩,⟨m,m1,?_,?_⟩⟩,ty,tz,y5,z5,hE.1,hF.1⟩
 ·dsimp only;rw[my.2,mz.1];exact h.pr.1
 ·dsimp only;rw[my.1,mz.2];exact h.pr.2
 ·dsimp only;rw[my.1];exact h.rg.1
 ·dsimp only;rw[mz.1];exact h.rg.2
 ·omega
 ·simp_all
 ·omega
 ·simp_all
theorem Sys.crossD (h:Sys Q sa sb w Ba Wa Bb Wb) (hf:w.b.C.w.failed=true) :
  ∃ sa',Q.la sa sa'∧(Q.Aa sb).I sa' (zZ w).a∧(zZ w).b=zaQ w.b 0∧CTo Q.ga (zaQ w.a 1) (zZ w).a 1 Ba Wa Wb (Bb+(w.b.sd 0).L.S.under):=by
 obtain⟨Fs,f1,f2,f3⟩:=h.oa;obtain⟨E,g1,g2,g3⟩:=h.ob;have hF:=f3.le
 have ea0:(zaQ w.a 1).sd 1={ w.a.sd 1 with out:=[] }:=by unfold zaQ;rw[za9]
 obtain⟨sa',Y,y1,y2,y3,y4,y5⟩:=zjO (Q.Aa sb) (X:=zaQ w.a 1) ((Q.Aa sb).take sa _ h.Ia) (show w.a.C.w.failed=false from Q.na _ _ _ h.Ia) (by rw[ea0,Q.hg];exact h.ea) (by rw[ea0];exact h.ra.1.1) (by rw[ea0];exact h.ra.1.2) (by rw[ea0];exact h.ra.2) h.rg.2 (by rw[h.pr.2];exact h.rg.1) (by rw[ea0];exact⟨h.pr.1.symm,h.pr.2⟩) g3 (by simp_all)
 have e:zZ w=⟨Y,zaQ w.b 0⟩:=by
  have:zav (zaQ w.b 0) 0 (w.a.sd 1).out=(zaQ w.b 0,9):=by unfold zav;exact if_pos hf
  unfold zZ;rw[this,g1,y1]
 rw[e];rw[Q.hg] at y4;exact⟨sa',by rw[←Q.hl];exact y2,y3,rfl,y4⟩
end
end
section
structure PTo (X Y:NodX) (k:Int):Prop where
 cl:∀ P:zaX→Prop,(∀ L l,P L→P (zei L l))→P (X.sd k).L→P (Y.sd k).L
 C:Y.C=X.C
 nd:Y.nb=X.nb∧Y.me=X.me∧Y.set=X.set
 told:Y.told=X.told
 sd:(Y.sd k).out=(X.sd k).out∧(Y.sd k).inn=(X.sd k).inn
theorem PTo.refl (X:NodX) (k:Int):PTo X X k:=⟨fun _ _ h=>h,rfl,⟨rfl,rfl,rfl⟩,rfl,rfl,rfl⟩
theorem PTo.trans {X Y Z:NodX} {k:Int} (h:PTo X Y k) (h':PTo Y Z k):PTo X Z k:=
 ⟨fun P hP hX=>h'.cl P hP (h.cl P hP hX),h'.C.trans h.C,⟨h'.nd.1.trans h.nd.1,h'.nd.2.1.trans h.nd.2.1,h'.nd.2.2.trans h.nd.2.2⟩,h'.told.trans h.told,h'.sd.1.trans h.sd.1,h'.sd.2.trans h.sd.2⟩
theorem zq8 (X:NodX) (j k:Int) (w:Word):PTo X (zbf X j w).1 k:=by
 unfold zbf;split
 ·exact PTo.refl X k
 ·refine⟨fun P hP hX=>?_,rfl,⟨rfl,rfl,rfl⟩,rfl,?_⟩
  ·unfold NodX.setSd;dsimp only;split
   ·rename_i e;subst e;exact hP _ _ hX
   ·exact hX
  ·unfold NodX.setSd;dsimp only;split
   ·simp_all
   ·simp
theorem zEv (X:NodX) (o:zfD) (k:Int):PTo X (zcX X o) k:=by
 have h:=zq8 X o.to k ⟨1,o.n,o.msg.id,o.msg.data,[]⟩;unfold zcX;dsimp only;split
 ·exact⟨h.cl,h.C,h.nd,h.told,h.sd⟩
 ·exact h
theorem zug (k:Int):∀ (l:List zfD) (X:NodX),PTo X (l.foldl zcX X) k
 | [],X=>PTo.refl X k
 | o::r,X=>(zEv X o k).trans (zug k r _)
theorem zCL (X:NodX) (up:List Int) (k:Int):PTo X (zcl X up) k:=by
 unfold zcl;split
 ·exact PTo.refl X k
 ·have h:=zug k (zdK X up).out { X with dsk:=(zdK X up).f,next:=(zdK X up).next };exact⟨h.cl,h.C,h.nd,h.told,h.sd⟩
theorem zEw (X:NodX) (j k:Int):PTo X (zb4 X j) k:=by
 unfold zb4;split
 ·refine⟨fun P hP hX=>?_,rfl,⟨rfl,rfl,rfl⟩,rfl,?_⟩
  ·unfold NodX.setSd;dsimp only;split
   ·rename_i e;subst e;exact hX
   ·exact hX
  ·unfold NodX.setSd;dsimp only;split
   ·simp_all
   ·simp
 ·exact PTo.refl X k
theorem zoE (k:Int):∀ (l:List Int) (X:NodX),PTo X (l.foldl zb4 X) k
 | [],X=>PTo.refl X k
 | o::r,X=>(zEw X o k).trans (zoE k r _)
theorem zyG (X:NodX) (k:Int):PTo X (zcb X) k:=by
 unfold zcb;split
 ·exact zoE k _ _
 ·exact(zoE k _ _).trans (zCL _ _ k)
structure Lone (X:NodX) (k:Int) (q:Nat):Prop where
 nb:X.nb=[k]
 sz:(X.sd k).L.S.size=4
 un:(X.sd k).L.S.under≤4
 lo:(X.sd k).L.out=[]∧(X.sd k).L.inn=[]
 out:(X.sd k).out.length≤q
def Few (c:Nat) (L:zaX):Prop:=(L.S.size=4∧L.S.under≤4)∧L.out.length≤c+L.S.under∧L.inn=[]
theorem zwL {c:Nat}:∀ (n:Nat) (L:zaX),Few c L→Few c (zcJ n L)
 | 0,_,h=>h
 | n+1,L,h=>by
  unfold zcJ;split
  ·exact h
  split
  ·exact h
  ·rename_i g1 g2;obtain⟨⟨h1,h2⟩,h3,h4⟩:=h;apply zwL n;have:L.S.under≠4:=fun e=>g2 (.inr (by omega))
   have key:∀ Y:zaX,Y.S=zcf L.S→Y.out.length=L.out.length+1→Y.inn=L.inn→Few c Y:=fun Y a b d=>by
    refine⟨⟨by rw[a];exact h1,by rw[a];show L.S.under+1≤4;omega⟩,by rw[a,b];show _≤c+(L.S.under+1);omega,by simp_all⟩
   dsimp only;split
   ·exact key _ rfl (by simp[zdc,LnkR.add]) rfl
   ·exact key _ rfl (by simp[zdc,LnkR.add]) rfl
theorem zwM {c:Nat} (L:zaX) (l:List UInt8) (h:Few c L):Few c (zei L l):=by
 unfold zei;split
 ·refine zwL 65 _ ?_;obtain⟨⟨h1,h2⟩,h3,h4⟩:=h;have:(zeg L.S l).size=L.S.size∧(zeg L.S l).under=L.S.under:=by unfold zeg;split<;>exact⟨rfl,rfl⟩
  exact⟨⟨this.1.trans h1,by simp_all⟩,by simp_all,h4⟩
 ·exact h
theorem zEx (L:zaX) (h:Few 0 L) (ho:L.out=[]):Few 5 (zbN L):=by
 obtain⟨⟨h1,h2⟩,h3,h4⟩:=h;have base:∀ Y:zaX,Y.S.size=4→Y.S.under≤4→Y.out.length≤5→Y.inn=[]→Few 5 Y:=fun Y a b d e=>⟨⟨a,b⟩,by omega,e⟩
 unfold zbN;split
 ·simp_all
 dsimp only;split
 ·simp_all
 split
 ·exact base _ h1 h2 (by simp[zgz,LnkR.add,ho]) h4
 split
 ·split
  ·exact base _ h1 (by show (0:Nat)≤4;omega) (by simp[zl2,zgz,zdR,LnkR.add,ho]) h4
  ·exact base _ h1 h2 (by simp[zdc,LnkR.add,ho]) h4
 split
 ·exact base _ h1 h2 (by simp[LnkR.add,ho]) h4
 ·simp_all
theorem zmO {Z:NodX} {k:Int} {q c:Nat} (hn:Z.nb=[k]) (hF:Few c (Z.sd k).L) (ho:(Z.sd k).out.length≤q):Lone (zO Z) k (q+300*(c+4))∧(zO Z).C=Z.C∧(zO Z).told=Z.told∧(zO Z).set=Z.set:=by
 have h:=zyG Z k;have e:zO Z=zcm (zcb Z) k:=by unfold zO;rw[hn];rfl
 have hF2:=h.cl (Few c) (fun L l h=>zwM L l h) hF;have eL:((zcm (zcb Z) k).sd k)=zfU ((zcb Z).sd k):=by unfold zcm;rw[za9]
 obtain⟨⟨f1,f2⟩,f3,f4⟩:=hF2;rw[e];refine⟨⟨h.nd.1.trans hn,by rw[eL];exact f1,by rw[eL];exact f2,by rw[eL];exact⟨rfl,f4⟩,?_⟩,h.C,h.told,h.nd.2.2⟩;rw[eL];show (((zcb Z).sd k).out++((zcb Z).sd k).L.out.flatMap zbh).length≤_
 have:=zoW ((zcb Z).sd k).L.out;rw[Yi,h.sd.1];omega
theorem Lone.few {X:NodX} {k:Int} {q:Nat} (h:Lone X k q):Few 0 (X.sd k).L:=⟨⟨h.sz,h.un⟩,by rw[h.lo.1];simp,h.lo.2⟩
theorem Lone.take {X:NodX} {k:Int} {q:Nat} (h:Lone X k q):Lone (zaQ X k) k 0:=by
 have e:(zaQ X k).sd k={ X.sd k with out:=[] }:=by unfold zaQ;rw[za9]
 exact⟨h.nb,by rw[e];exact h.sz,by rw[e];exact h.un,by rw[e];exact h.lo,by simp_all⟩
theorem Lone.rest {X:NodX} {k:Int} {q:Nat} (h:Lone X k q):zmK X q:=fun j hj=>by
 rw[h.nb] at hj;rw[Yx.1 hj];exact⟨h.lo.1,h.lo.2,h.out⟩
theorem Lone.cust {X:NodX} {k:Int} {q:Nat} (h:Lone X k q) (C:CuR):Lone (zO { X with C:=C }) k (q+1200)∧(zO { X with C:=C }).C=C∧(zO { X with C:=C }).told=X.told∧(zO { X with C:=C }).set=X.set:=by
 have:=zmO (Z:={ X with C:=C }) h.nb h.few h.out;simpa using this
theorem Lone.tick {X:NodX} {k:Int} {q:Nat} (h:Lone X k q) (hf:X.C.w.failed=false):Lone (za8 X).1 k (q+2700)∧(za8 X).1.C=X.C∧(za8 X).1.told=X.told∧(za8 X).1.set=X.set:=by
 have e1:zgb X={ X with ticks:=inc X.ticks,tab:=zd0 X.tab }.setSd k { X.sd k with L:=zbN (X.sd k).L }:=by unfold zgb;rw[h.nb];rfl
 obtain⟨X2,hX2⟩:=oI (zb5 X);have eX2:X2={ (X.setSd k { X.sd k with L:=zbN (X.sd k).L }) with ticks:=inc X.ticks,tab:=zd0 X.tab,dsk:=fun j=>((zgb X).dsk j).bind zfa }:=by rw[hX2];unfold zb5;rw[e1];rfl
 have eL:X2.sd k={ X.sd k with L:=zbN (X.sd k).L }:=by rw[eX2];exact za9 _ _ _
 have hn2:X2.nb=[k]∧X2.set=X.set∧X2.told=X.told∧X2.C=X.C:=by rw[eX2];exact⟨h.nb,rfl,rfl,rfl⟩
 have h2:Few 5 (X2.sd k).L:=by rw[eL];exact zEx _ h.few h.lo.1
 obtain⟨Z,hZ,hP⟩:∃ Z,zci X=Z∧PTo X2 Z k:=by
  refine⟨_,rfl,?_⟩;unfold zci;rw[←hX2,h.nb,Yap,Ycg];split
  ·unfold zbH;split
   ·exact zq8 _ _ _ _
   ·exact PTo.refl _ _
  ·exact PTo.refl _ _
 have e:za8 X=(zO Z,0):=by unfold za8;rw[if_neg (by rw[hf];decide),hZ]
 rw[e];obtain⟨w1,w2,w3,w4⟩:=zmO (Z:=Z) (q:=q) (hP.nd.1.trans hn2.1) (hP.cl (Few 5) (fun L l h=>zwM L l h) h2) (by rw[hP.sd.1,eL];exact h.out);exact⟨w1,w2.trans (hP.C.trans hn2.2.2.2),w3.trans (hP.told.trans hn2.2.2.1),w4.trans (hP.nd.2.2.trans hn2.2.1)⟩
theorem Lone.hear {X:NodX} {k:Int} {q:Nat} (h:Lone X k q) (hf:X.C.w.failed=false):Lone (zav X k []).1 k (q+1200)∧(zav X k []).1.C=X.C∧(zav X k []).1.told=X.told∧(zav X k []).1.set=X.set:=by
 have e:(zav X k []).1=zO (zgY X k []):=by
  unfold zav;rw[if_neg (by rw[hf];decide),if_pos (by rw[h.nb];simp)];rfl
 have eL:(zgY X k []).sd k={ X.sd k with hunts:=(za6 (X.sd k).D []).hunts,inn:=(za6 (X.sd k).D []).inn }:=by unfold zgY;rw[za9]
 rw[e];have:=zmO (Z:=zgY X k []) (k:=k) (q:=q) (c:=0) h.nb (by rw[eL];exact h.few) (by rw[eL];exact h.out)
 exact this
end
section
section
variable {σa σb:Type} (Q:Pair σa σb) (Ja:σb→σa→CuR→Prop) (Jb:σb→CuR→Prop)
structure Base (w:W2) (T:Nat):Prop where
 ta:w.a.told.length≤T
 tb:w.b.told.length≤T
 ma:w.a.set.timer=3
 mb:w.b.set.timer=3
 b0:w.b.nb=[0]
structure Dead (sa:σa) (sb:σb) (w:W2) (q:Nat):Prop where
 f:w.b.C.w.failed=true
 l:Lone w.a 1 q
 o:(w.b.sd 0).out=[]
 rb:(w.b.sd 0).L.out=[]∧(w.b.sd 0).L.inn=[]
 na:w.a.C.w.failed=false
 ja:Ja sb sa w.a.C
 jb:Jb sb w.b.C
def St (qm:Nat) (sa:σa) (sb:σb) (w:W2):Prop:=
 (∃ Ba Wa Bb Wb,Sys Q sa sb w Ba Wa Bb Wb∧Hl (w.a.sd 1).L∧(w.b.C.w.failed=false→Hl (w.b.sd 0).L))∨∃ q,q≤qm∧Dead Ja Jb sa sb w q
end
section
variable {σa σb:Type} {Q:Pair σa σb} {Ja:σb→σa→CuR→Prop} {Jb:σb→CuR→Prop} {sa:σa} {sb:σb} {w:W2} {T qm:Nat}
theorem Sys.fit {Ba Wa Bb Wb:Nat} (h:Sys Q sa sb w Ba Wa Bb Wb) (hb:Base w T) (hT:T≤1000000):Fit w:=by
 obtain⟨⟨Fs,f1,f2⟩,E,e1,e2⟩:=h.few;have l1:=zoW Fs
 have l2:=zoW E;have na:=((Q.Aa sb).nb sa _ h.Ia).1
 have ma:=hb.ma;have mb:=hb.mb
 refine⟨by simp_all,by rw[hb.b0];simp,fun j hj=>?_,fun j hj=>?_,Yn hb.ta hT,Yn hb.tb hT,by omega,by omega⟩
 ·rw[na] at hj;rw[Yx.1 hj];exact⟨h.ra.1.1,h.ra.1.2,by grind⟩
 ·rw[hb.b0] at hj;rw[Yx.1 hj];exact⟨h.rb.1.1,h.rb.1.2,by grind⟩
theorem Dead.fit {q:Nat} (h:Dead Ja Jb sa sb w q) (hq:q≤65536) (hb:Base w T) (hT:T≤1000000):Fit w:=by
 have ma:=hb.ma;have mb:=hb.mb
 refine⟨by rw[h.l.nb];simp,by rw[hb.b0];simp,fun j hj=>?_,fun j hj=>?_,Yn hb.ta hT,Yn hb.tb hT,by omega,by omega⟩
 ·have:=h.l.rest j hj;exact⟨this.1,this.2.1,by omega⟩
 ·rw[hb.b0] at hj;rw[Yx.1 hj];exact⟨h.rb.1,h.rb.2,by rw[h.o];simp⟩
structure Laws (Q:Pair σa σb) (Ja:σb→σa→CuR→Prop) (Jb:σb→CuR→Prop):Prop where
 ja:∀ sb sa X,(Q.Aa sb).I sa X→Ja sb sa X.C
 jb:∀ sb X,Q.Ab.I sb X→Jb sb X.C
 tC:∀ X:NodX,X.C.w.failed=false→(za8 X).1.C=X.C
 setA:∀ sb sa X,(Q.Aa sb).I sa X→X.set.timer=3
 setB:∀ sb X,Q.Ab.I sb X→X.set.timer=3
theorem St.fit (h:St Q Ja Jb qm sa sb w) (hm:qm≤20000) (hb:Base w T) (hT:T≤1000000):Fit w:=by
 rcases h with ⟨_,_,_,_,h,_⟩|⟨q,hq,h⟩
 ·exact h.fit hb hT
 ·exact h.fit oM hb hT
theorem Dead.tick {q:Nat} (h:Dead Ja Jb sa sb w q) (hb:Base w T):Dead Ja Jb sa sb (zaE w) (q+2700)∧Base (zaE w) T:=by
 have e:za8 w.b=(w.b,9):=by unfold za8;rw[if_pos h.f]
 have e2:zaE w=⟨(za8 w.a).1,w.b⟩:=by unfold zaE;rw[e]
 obtain⟨a1,a2,a3,a4⟩:=h.l.tick h.na;rw[e2];exact⟨⟨h.f,a1,h.o,h.rb,by rw[a2];exact h.na,by rw[a2];exact h.ja,h.jb⟩,by rw[show (⟨(za8 w.a).1,w.b⟩:W2).a.told=w.a.told from a3];exact hb.ta,hb.tb,by rw[show (⟨(za8 w.a).1,w.b⟩:W2).a.set=w.a.set from a4];exact hb.ma,hb.mb,hb.b0⟩
theorem Dead.cross {q:Nat} (h:Dead Ja Jb sa sb w q) (hb:Base w T):Dead Ja Jb sa sb (zZ w) 1200∧Base (zZ w) T:=by
 have hF:(zaQ w.a 1).C.w.failed=false:=h.na;obtain⟨a1,a2,a3,a4⟩:=h.l.take.hear hF;have e1:zav (zaQ w.b 0) 0 (w.a.sd 1).out=(zaQ w.b 0,9):=by unfold zav;exact if_pos h.f
 have e2:zZ w=⟨(zav (zaQ w.a 1) 1 []).1,zaQ w.b 0⟩:=by unfold zZ;rw[e1,h.o]
 have eb0:(zaQ w.b 0).sd 0={ w.b.sd 0 with out:=[] }:=by unfold zaQ;rw[za9]
 rw[e2];refine⟨⟨h.f,by omega,by rfl,by dsimp only;rw[eb0];exact h.rb,?_,?_,h.jb⟩,?_,hb.tb,?_,hb.mb,hb.b0⟩
 ·simp_all
 ·dsimp only;rw[a2];exact h.ja
 ·dsimp only;rw[a3];exact hb.ta
 ·dsimp only;rw[a4];exact hb.ma
theorem Sys.base {Ba Wa Bb Wb:Nat} (K:Laws Q Ja Jb) (h:Sys Q sa sb w Ba Wa Bb Wb) (ta:w.a.told.length≤T) (tb:w.b.told.length≤T):Base w T:=⟨ta,tb,K.setA _ _ _ h.Ia,K.setB _ _ h.Ib,(Q.Ab.nb _ _ h.Ib).1⟩
theorem Sys.die {Ba Wa Bb Wb:Nat} (K:Laws Q Ja Jb) (h:Sys Q sa sb w Ba Wa Bb Wb) (hf:w.b.C.w.failed=true) (hb:Base w T) :
  ∃ sa',Q.la sa sa'∧Dead Ja Jb sa' sb (zZ w) 2400∧Base (zZ w) (T+4):=by
 obtain⟨E,g1,g2,g3⟩:=h.ob;obtain⟨Fs,f1,f2,f3⟩:=h.oa;have hE:=g3.le
 have hF:=f3.le;obtain⟨sa',l1,l2,l3,l4⟩:=h.crossD hf;have ea0:(zaQ w.a 1).sd 1={ w.a.sd 1 with out:=[] }:=by unfold zaQ;rw[za9]
 have eb0:(zaQ w.b 0).sd 0={ w.b.sd 0 with out:=[] }:=by unfold zaQ;rw[za9]
 obtain⟨n,n1,n2,n3⟩:=l4.out;rw[ea0] at n1 n2;have l:=zoW n
 have un:=l4.e.un;have ub:=h.eb.un
 have ua:=h.ea.un;have tl:=l4.told
 have ht:(zaQ w.a 1).told=w.a.told:=rfl;rw[ht] at tl;have ta:=hb.ta
 dsimp only at n2;refine⟨sa',l1,⟨by rw[l3];exact hf,⟨l4.nd.1.trans ((Q.Aa sb).nb _ _ h.Ia).1,l4.e.sz,un.1,l4.rest,by grind⟩,by rw[l3,eb0],by rw[l3,eb0];exact h.rb.1,Q.na _ _ _ l2,K.ja _ _ _ l2,by rw[l3];exact(show Jb sb w.b.C from K.jb _ _ h.Ib)⟩,by omega,?_,K.setA _ _ _ l2,?_,?_⟩
 ·rw[l3];have:=hb.tb;show w.b.told.length≤_;omega
 ·rw[l3];exact hb.mb
 ·rw[l3];exact hb.b0
theorem Sys.cross_b {Ba Wa Bb Wb:Nat} (K:Laws Q Ja Jb) (h:Sys Q sa sb w Ba Wa Bb Wb) (hf:w.b.C.w.failed=false) (hb:Base w T) :
  ∃ sa' sb' Ba' Wa' Bb' Wb',Q.la sa sa'∧Q.Ab.le sb sb'∧Sys Q sa' sb' (zZ w) Ba' Wa' Bb' Wb'∧Base (zZ w) (T+4)∧(∀ V0,Lf (w.a.sd 1).L Ba V0→Lf ((zZ w).a.sd 1).L Ba' V0)∧(∀ V0,Lf (w.b.sd 0).L Bb V0→Lf ((zZ w).b.sd 0).L Bb' V0)∧Ba'=Wb∧Bb'=Wa∧Wb'=Ba+(w.a.sd 1).L.S.under∧Wa'=Bb+(w.b.sd 0).L.S.under:=by
 obtain⟨E,g1,g2,g3⟩:=h.ob;obtain⟨Fs,f1,f2,f3⟩:=h.oa;have hE:=g3.le
 have hF:=f3.le;have ub:=h.eb.un
 have ua:=h.ea.un;have ta:=hb.ta
 have tb:=hb.tb;obtain⟨sa',sb',l1,l2,l3,l4,l5,l6,l7,l8,l9⟩:=h.cross hf;exact⟨sa',sb',_,_,_,_,l1,l2,l3,l3.base K oM oM,l6,l7,rfl,rfl,rfl,rfl⟩
theorem Base.more {T':Nat} (h:Base w T) (hT:T≤T'):Base w T':=⟨Yn h.ta hT,Yn h.tb hT,h.ma,h.mb,h.b0⟩
theorem Sys.tick_b {Ba Wa Bb Wb:Nat} (K:Laws Q Ja Jb) (hT0:∀ X:NodX,X.C.w.failed=false→(za8 X).1.told=X.told) (h:Sys Q sa sb w Ba Wa Bb Wb) (ha:Hl (w.a.sd 1).L) (hbl:w.b.C.w.failed=false→Hl (w.b.sd 0).L) (hb:Base w T) :
  Sys Q sa sb (zaE w) Ba Wa Bb Wb∧(zaE w).b.C.w.failed=w.b.C.w.failed∧Lf ((zaE w).a.sd 1).L Ba (Ba+(w.a.sd 1).L.S.under)∧(w.b.C.w.failed=false→Lf ((zaE w).b.sd 0).L Bb (Bb+(w.b.sd 0).L.S.under))∧((w.a.sd 1).L.S.under≤((zaE w).a.sd 1).L.S.under∧(w.b.sd 0).L.S.under≤((zaE w).b.sd 0).L.S.under)∧Base (zaE w) T:=by
 obtain⟨a1,a2,a3,a4,a5⟩:=h.tick ha hbl K.tC;refine⟨a1,a2,a3,a4,a5,a1.base K ?_ ?_⟩
 ·show (za8 w.a).1.told.length≤T;rw[hT0 w.a (Q.na _ _ _ h.Ia)];exact hb.ta
 ·show (za8 w.b).1.told.length≤T;cases hf:w.b.C.w.failed with
  | true=>
   have e:za8 w.b=(w.b,9):=by unfold za8;rw[if_pos hf]
   rw[e];exact hb.tb
  | false=>rw[hT0 w.b hf];exact hb.tb
def RoundTo (Q:Pair σa σb) (Ja:σb→σa→CuR→Prop) (Jb:σb→CuR→Prop) (sa:σa) (sb:σb) (w:W2) (T:Nat):Prop:=
 Fit w∧Fit (zaE w)∧Fit (zZ (zaE w))∧Fit (zZ (zZ (zaE w)))∧∃ sa' sb',Q.la sa sa'∧Q.Ab.le sb sb'∧St Q Ja Jb 2400 sa' sb' (ziu w)∧Base (ziu w) (T+12)
theorem St.round (K:Laws Q Ja Jb) (hr:∀ s,Q.la s s) (ht:∀ a b c,Q.la a b→Q.la b c→Q.la a c) (hT0:∀ X:NodX,X.C.w.failed=false→(za8 X).1.told=X.told) (h:St Q Ja Jb qm sa sb w) (hm:qm≤20000) (hb:Base w T) (hT:T+12≤1000000):RoundTo Q Ja Jb sa sb w T:=by
 refine⟨h.fit hm hb oM,?_⟩;rcases h with ⟨Ba,Wa,Bb,Wb,h,ha,hbl⟩|⟨q,hq,h⟩
 ·obtain⟨t1,t2,t3,t4,t5,tb⟩:=h.tick_b K hT0 ha hbl hb;refine⟨t1.fit tb oM,?_⟩;cases hf:w.b.C.w.failed with
  | true=>
   obtain⟨sa1,l1,d1,b1⟩:=t1.die K (t2.trans hf) tb;obtain⟨d2,b2⟩:=d1.cross b1;obtain⟨d3,b3⟩:=d2.cross b2;exact⟨d1.fit oM b1 oM,d2.fit oM b2 oM,sa1,sb,l1,Q.Ab.rfl' _,.inr ⟨1200,by omega,d3⟩,b3.more oM⟩
  | false=>
   obtain⟨sa1,sb1,Ba1,Wa1,Bb1,Wb1,l1,l2,c1,b1,f1,f2,e1,e2,e3,e4⟩:=t1.cross_b K (t2.trans hf) tb;have g1:=f1 _ t3
   have g2:=f2 _ (t4 hf);refine⟨c1.fit b1 oM,?_⟩;cases hf1:(zZ (zaE w)).b.C.w.failed with
   | true=>
    obtain⟨sa2,l3,d2,b2⟩:=c1.die K hf1 b1;obtain⟨d3,b3⟩:=d2.cross b2;exact⟨d2.fit oM b2 oM,sa2,sb1,ht _ _ _ l1 l3,l2,.inr ⟨1200,by omega,d3⟩,b3.more oM⟩
   | false=>
    obtain⟨sa2,sb2,Ba2,Wa2,Bb2,Wb2,l3,l4,c2,b2,f3,f4,e5,e6,e7,e8⟩:=c1.cross_b K hf1 b1;have g3:=(f3 _ g1).hl oM
    have g4:=(f4 _ g2).hl oM;refine⟨c2.fit b2 oM,?_⟩;cases hf2:(zZ (zZ (zaE w))).b.C.w.failed with
    | true=>
     obtain⟨sa3,l5,d3,b3⟩:=c2.die K hf2 b2;exact⟨sa3,sb2,ht _ _ _ (ht _ _ _ l1 l3) l5,Q.Ab.trs _ _ _ l2 l4,.inr ⟨2400,by omega,d3⟩,b3.more oM⟩
    | false=>
     obtain⟨sa3,sb3,Ba3,Wa3,Bb3,Wb3,l5,l6,c3,b3,f5,f6, -, -, -, -⟩:=c2.cross_b K hf2 b2;exact⟨sa3,sb3,ht _ _ _ (ht _ _ _ l1 l3) l5,Q.Ab.trs _ _ _ (Q.Ab.trs _ _ _ l2 l4) l6,.inl ⟨Ba3,Wa3,Bb3,Wb3,c3,(f5 0 (g3.lf _ _)).hl oM,fun _=>(f6 0 (g4.lf _ _)).hl oM⟩,b3.more oM⟩
 ·obtain⟨d0,b0⟩:=h.tick hb;obtain⟨d1,b1⟩:=d0.cross b0;obtain⟨d2,b2⟩:=d1.cross b1;obtain⟨d3,b3⟩:=d2.cross b2;exact⟨d0.fit oM b0 oM,d1.fit oM b1 oM,d2.fit oM b2 oM,sa,sb,hr _,Q.Ab.rfl' _,.inr ⟨1200,by omega,d3⟩,b3.more oM⟩
theorem St.rounds (K:Laws Q Ja Jb) (hr:∀ s,Q.la s s) (ht:∀ a b c,Q.la a b→Q.la b c→Q.la a c) (hT0:∀ X:NodX,X.C.w.failed=false→(za8 X).1.told=X.told):∀ (n:Nat) {sa:σa} {sb:σb} {w:W2} {T:Nat},St Q Ja Jb 2400 sa sb w→Base w T→T+12*n≤1000000→zq6 n w∧∃ sa' sb',Q.la sa sa'∧Q.Ab.le sb sb'∧St Q Ja Jb 2400 sa' sb' (zeP n w)∧Base (zeP n w) (T+12*n)
 | 0,sa,sb,w,T,h,hb,hT=>⟨h.fit oM hb oM,sa,sb,hr _,Q.Ab.rfl' _,h,hb.more oM⟩
 | n+1,sa,sb,w,T,h,hb,hT=>by
  obtain⟨r1,r2,r3,r4,sa1,sb1,l1,l2,h1,b1⟩:=h.round K hr ht hT0 oM hb oM;obtain⟨r5,sa2,sb2,l3,l4,h2,b2⟩:=St.rounds K hr ht hT0 n h1 b1 oM;exact⟨⟨r1,r2,r3,r4,r5⟩,sa2,sb2,ht _ _ _ l1 l3,Q.Ab.trs _ _ _ l2 l4,h2,b2.more oM⟩
theorem RoundTo.rounds (K:Laws Q Ja Jb) (hr:∀ s,Q.la s s) (ht:∀ a b c,Q.la a b→Q.la b c→Q.la a c) (hT0:∀ X:NodX,X.C.w.failed=false→(za8 X).1.told=X.told) (n:Nat) (h:RoundTo Q Ja Jb sa sb w T) (hT:T+12*(n+1)≤1000000):zq6 (n+1) w∧∃ sa' sb',Q.la sa sa'∧Q.Ab.le sb sb'∧St Q Ja Jb 2400 sa' sb' (zeP (n+1) w)∧Base (zeP (n+1) w) (T+12*(n+1)):=by
 obtain⟨r1,r2,r3,r4,sa1,sb1,l1,l2,h1,b1⟩:=h;obtain⟨r5,sa2,sb2,l3,l4,h2,b2⟩:=St.rounds K hr ht hT0 n h1 b1 oM;exact⟨⟨r1,r2,r3,r4,r5⟩,sa2,sb2,ht _ _ _ l1 l3,Q.Ab.trs _ _ _ l2 l4,h2,b2.more oM⟩
end
end
section
def S00:SideR:=zfU (zeA 512 setP)
def S01:SideR:={ S00 with L:=zbN S00.L }
def zoZ (S:SideR) (p:List UInt8) (c:zb9):SideR:={ S with L:={ zdZ S.L c with inn:=[] },hunts:=(za6 S.D p).hunts,inn:=(za6 S.D p).inn }
def c00:zb9:=⟨5,0,0,false,512,0,[]⟩
def c10:zb9:=⟨6,0,0,false,512,512,[]⟩
def zmP (S:SideR):SideR:={ S with out:=[] }
def S11:SideR:=zoZ (zmP S01) S01.out c00
def S10:SideR:=zfU { S11 with resets:=S11.L.resets }
def S20:SideR:=zoZ (zmP S10) S10.out c10
theorem zEy:(za6 (zmP S01).D S01.out).told=[zaP c00]∧zc8 (zaP c00)=some c00∧(zdZ (zmP S01).L c00).inn=[]:=⟨by kernel_rfl,by kernel_rfl,by kernel_rfl⟩
theorem zEz:(za6 (zmP S10).D S10.out).told=[zaP c10]∧zc8 (zaP c10)=some c10∧(zdZ (zmP S10).L c10).inn=[]:=⟨by kernel_rfl,by kernel_rfl,by kernel_rfl⟩
theorem zCM:(S11.L.up=false∧S11.L.inn=[])∧(S10.L.up=false∧S10.L.inn=[]∧S10.L.out=[]∧S10.L.resets=S10.resets):=by decide +kernel
theorem zwN:(S00.L.up=false∧S00.L.inn=[]∧S00.L.out=[]∧S00.L.resets=S00.resets)∧(S01.L.up=false∧S01.L.inn=[]∧S01.L.out=[]∧S01.L.resets=S01.resets):=by decide +kernel
theorem zIA:S00.out.length≤300∧S01.out.length≤300∧S10.out.length≤300:=by decide +kernel
theorem zGR (G:List UInt8→Prop):EndI G S20.L 0 0:=by
 have h:S20.L.up=true∧S20.L.busy=false∧S20.L.held=false∧S20.L.timer=3∧S20.L.S.size=4∧S20.L.R.size=4∧S20.L.S.base=0∧S20.L.R.waits=0∧S20.L.R.kept.isEmpty=true∧S20.L.S.under=0∧S20.L.S.all=[]:=by decide +kernel
 obtain⟨a1,a2,a3,a4,a5,a6,a7,a8,a9,a10,a11⟩:=h;exact⟨a1,a2,a3,a4,a5,a6,by rw[a7];rfl,by rw[a8];rfl,List.isEmpty_iff.1 a9,⟨by omega,by omega⟩,fun p hp=>by rw[a11] at hp;cases hp⟩
theorem zCN:(S20.L.out=[]∧S20.L.inn=[]∧S20.inn=[]∧S20.L.resets=S20.resets)∧S20.L.me=512∧S20.L.peer=512∧S20.L.left=0∧S20.L.S.under=0∧S20.out=[]:=by decide +kernel
section
variable {σ:Type} {k:Int} {Gin:List UInt8→Prop}
theorem zso (X:NodX) (k:Int):X.setSd k (X.sd k)=X:=by
 unfold NodX.setSd;have:(fun j=>if j=k then X.sd k else X.sd j)=X.sd:=funext fun j=>by simp_all
 rw[this]
theorem ziv (A:zfy σ k Gin) {s:σ} {X:NodX} (hn:X.nb=[k]) (hu:(X.sd k).L.up=false) (hI:A.I s (X.setSd k { X.sd k with resets:=(X.sd k).L.resets })) :
  A.I s (zO X)∧(zO X).sd k=zfU { X.sd k with resets:=(X.sd k).L.resets }∧(zO X).nb=[k]∧(zO X).told=X.told∧(zO X).C=X.C∧(zO X).set=X.set:=by
 obtain⟨H,hH⟩:=oI (zb4 X k);have h0:X.nb.foldl zb4 X=H:=by rw[hn,hH];rfl
 have h1:A.I s H∧H.sd k={ X.sd k with resets:=(X.sd k).L.resets }∧H.nb=[k]∧H.told=X.told∧H.C=X.C∧H.set=X.set:=by
  rw[hH];unfold zb4;split
  ·exact⟨A.oth s (X.setSd k { X.sd k with resets:=(X.sd k).L.resets }) _ _ _ hI,za9 _ _ _,hn,rfl,rfl,rfl⟩
  ·rename_i g
   have e:(X.sd k).resets=(X.sd k).L.resets:=by
    have:=Classical.not_not.1 g;exact this.symm
   rw[←e] at hI ⊢;rw[zso] at hI;exact⟨hI,rfl,hn,rfl,rfl,rfl⟩
 obtain⟨i1,i2,i3,i4,i5,i6⟩:=h1;have hup:ziK X=[]:=by unfold ziK;rw[hn];simp[hu]
 have hm:∃ Y,zcb X=Y∧A.I s Y∧Y.sd k=H.sd k∧Y.nb=[k]∧Y.told=X.told∧Y.C=X.C∧Y.set=X.set:=by
  refine⟨_,rfl,?_⟩;unfold zcb;rw[h0,hup];split
  ·simp_all
  ·unfold zcl;split
   ·simp_all
   ·have hp:(zdK H []).out=[]:=by
     have h2:=zoV (zmG H) [] (H.C.X.S.l.map zmC) ⟨H.dsk,H.next,[]⟩ (fun o ho=>by cases ho);cases hl:(zdK H []).out with
     | nil=>rfl
     | cons o r=>exact absurd (h2 o (by show o∈(zdK H []).out;rw[hl];simp)) oS
    rw[hp,Ycg];exact⟨A.nxt s H _ _ i1,rfl,i3,i4,i5,i6⟩
 obtain⟨Y,y1,y2,y3,y4,y5,y6,y7⟩:=hm;have e:zO X=zcm Y k:=by unfold zO;rw[hn,y1];rfl
 rw[e];exact⟨A.drain s Y y2,by unfold zcm;rw[za9,y3,i2],y4,y5,y6,y7⟩
theorem zwO (A:zfy σ k Gin) {s:σ} {X:NodX} {S:SideR} {p:List UInt8} {c:zb9} (hI:A.I s X) (hS:X.sd k=S) (hf:X.C.w.failed=false) (h:(za6 S.D p).told=[zaP c]∧zc8 (zaP c)=some c∧(zdZ S.L c).inn=[]) :
  (zav X k p).1=zO (X.setSd k (zoZ S p c)):=by
 obtain⟨h1,h2,h3⟩:=h
 have e:zdW X k p=X.setSd k (zoZ S p c):=by
  unfold zdW;rw[hS,h1,Yap,Ycg];unfold zez;rw[h2];dsimp only;have:(zgY X k p).sd k={ S with hunts:=(za6 S.D p).hunts,inn:=(za6 S.D p).inn }:=by unfold zgY;rw[za9,hS]
  rw[this];dsimp only;rw[h3,Ycg];unfold zfc;rw[this];unfold zgY;rw[zoz];rfl
 unfold zav;rw[if_neg (by rw[hf];decide),if_pos (by rw[(A.nb s X hI).1];simp),e]
theorem zwP {S:SideR} (h:S.L.out=[]):zfU S=S:=by
 obtain⟨⟨a1,a2,a3,a4,a5,a6,a7,a8,a9,a10,a11,a12,a13,out,a15⟩,b1,b2,b3,b4⟩:=S;dsimp only at h;subst h;simp[zfU]
structure Pre (A:zfy σ k Gin) (s:σ) (X:NodX) (S:SideR):Prop where
 I:A.I s X
 sd:X.sd k=S
 told:X.told=[]
 set:X.set.timer=3
theorem Pre.take {A:zfy σ k Gin} {s:σ} {X:NodX} {S:SideR} (h:Pre A s X S):Pre A s (zaQ X k) (zmP S):=⟨A.take s X h.I,by unfold zaQ;rw[za9,h.sd];rfl,h.told,h.set⟩
theorem Pre.tick {A:zfy σ k Gin} {s:σ} {X:NodX} (h:Pre A s X S00) (hf:X.C.w.failed=false):Pre A s (za8 X).1 S01∧(za8 X).1.C=X.C:=by
 obtain⟨⟨z1,z2,z3,z4⟩,z5,z6,z7,z8⟩:=zwN;have hn:=(A.nb s X h.I).1
 have e1:zgb X={ X with ticks:=inc X.ticks,tab:=zd0 X.tab }.setSd k { X.sd k with L:=zbN (X.sd k).L }:=by unfold zgb;rw[hn];rfl
 obtain⟨X2,hX2⟩:=oI (zb5 X);have eX2:X2={ (X.setSd k { X.sd k with L:=zbN (X.sd k).L }) with ticks:=inc X.ticks,tab:=zd0 X.tab,dsk:=fun j=>((zgb X).dsk j).bind zfa }:=by rw[hX2];unfold zb5;rw[e1];rfl
 have eL:X2.sd k=S01:=by rw[eX2];show (X.setSd k _).sd k=_;rw[za9,h.sd];rfl
 have hI2:A.I s X2:=by rw[eX2];exact A.oth s _ _ _ _ (A.side s X _ h.I (by rw[h.sd];exact z8))
 have hn2:X2.nb=[k]∧X2.set=X.set∧X2.told=X.told∧X2.C=X.C:=by rw[eX2];exact⟨hn,rfl,rfl,rfl⟩
 have e3:zci X=X2:=by
  unfold zci;rw[←hX2,hn,Yap,Ycg];have:zbH X2 k=X2:=by unfold zbH;rw[if_neg (by rw[eL,z5];decide)]
  rw[this];split<;>rfl
 have e:za8 X=(zO X2,0):=by unfold za8;rw[if_neg (by rw[hf];decide),e3]
 obtain⟨w1,w2,w3,w4,w5,w6⟩:=ziv A hn2.1 (by simp_all) (by rw[eL,z8,←eL,zso];exact hI2);rw[e];refine⟨⟨w1,?_,by rw[w4,hn2.2.2.1,h.told],by rw[w6,hn2.2.1];exact h.set⟩,w5.trans hn2.2.2.2⟩;rw[w2,eL,z8];exact zwP z7
theorem Pre.hear {A:zfy σ k Gin} {s:σ} {X:NodX} (h:Pre A s X S01) (hf:X.C.w.failed=false):Pre A s (zav (zaQ X k) k S01.out).1 S10∧(zav (zaQ X k) k S01.out).1.C=X.C:=by
 obtain⟨⟨z1,z2⟩,z3,z4,z5,z6⟩:=zCM;have h1:=h.take
 rw[zwO A h1.I h1.sd hf zEy];obtain⟨Z,hZ⟩:=oI ((zaQ X k).setSd k (zoZ (zmP S01) S01.out c00));have eL:Z.sd k=S11:=by rw[hZ,za9];rfl
 have hn:Z.nb=[k]∧Z.told=X.told∧Z.C=X.C∧Z.set=X.set:=by rw[hZ];exact⟨(A.nb s X h.I).1,rfl,rfl,rfl⟩
 rw[←hZ];obtain⟨w1,w2,w3,w4,w5,w6⟩:=ziv A hn.1 (by simp_all) (by rw[eL,hZ,zoz];exact A.side s _ _ h1.I rfl);exact⟨⟨w1,by rw[w2,eL];rfl,by rw[w4,hn.2.1,h.told],by rw[w6,hn.2.2.2];exact h.set⟩,w5.trans hn.2.2.1⟩
theorem Pre.up {A:zfy σ k Gin} {s:σ} {X:NodX} (h:Pre A s X S10) (hf:X.C.w.failed=false) :
  ∃ Y,(zav (zaQ X k) k S10.out).1=Y∧A.I s Y∧(∃ X2:NodX,X2.sd k=S20∧X2.nb=[k]∧X2.told=[]∧CTo (A.g s) X2 Y k 0 0 0 0)∧Hl (Y.sd k).L:=by
 obtain⟨⟨z1,z2,z3,z4⟩,z5,z6,z7,z8,z9⟩:=zCN;have h1:=h.take
 rw[zwO A h1.I h1.sd hf zEz];obtain⟨Z,hZ⟩:=oI ((zaQ X k).setSd k (zoZ (zmP S10) S10.out c10));have eL:Z.sd k=S20:=by rw[hZ,za9];rfl
 have hn:Z.nb=[k]∧Z.told=X.told:=by rw[hZ];exact⟨(A.nb s X h.I).1,rfl⟩
 have hI:A.I s Z:=by rw[hZ];exact A.side s _ _ h1.I z4
 rw[←hZ];have he:EndI (A.g s) (Z.sd k).L 0 0:=by rw[eL];exact zGR _
 obtain⟨w1,w2,w3⟩:=zjb A hI (STo.refl he) (by simp_all) (by simp_all) (by simp_all);refine⟨_,rfl,w1,⟨Z,eL,hn.1,hn.2.trans h.told,w2⟩,(w3 0 ?_).hl (Yd _)⟩;rw[eL];exact⟨fun _=>z7,fun g=>by omega⟩
end
section
variable {σa σb:Type} {Q:Pair σa σb} {Ja:σb→σa→CuR→Prop} {Jb:σb→CuR→Prop} {sa:σa} {sb:σb} {w:W2} {T:Nat}
theorem zGS (h1:1∈w.a.nb) (h2:0∈w.b.nb) (n1:w.a.nb=[1]) (n2:w.b.nb=[0]) {S S':SideR} (e1:w.a.sd 1=S) (e2:w.b.sd 0=S') (z:(S.L.out=[]∧S.L.inn=[]∧S.out.length≤300)∧S'.L.out=[]∧S'.L.inn=[]∧S'.out.length≤300) (ta:w.a.told=[]) (tb:w.b.told=[]) (ma:w.a.set.timer=3) (mb:w.b.set.timer=3):Fit w:=by
 refine⟨h1,h2,fun j hj=>?_,fun j hj=>?_,by simp_all,by simp_all,by omega,by omega⟩
 ·grind
 ·grind
theorem zyI (K:Laws Q Ja Jb) (ha:Pre (Q.Aa sb) sa w.a S00) (hb:Pre Q.Ab sb w.b S00) (hf:w.b.C.w.failed=false):RoundTo Q Ja Jb sa sb w 0:=by
 obtain⟨⟨z1,z2,z3,z4⟩,z5,z6,z7,z8⟩:=zwN;obtain⟨_,y1,y2,y3,y4⟩:=zCM;obtain⟨v1,v2,v3⟩:=zIA;obtain⟨⟨x1,x2,x3,x4⟩,x5,x6,x7,x8,x9⟩:=zCN;have na:=Q.na _ _ _ ha.I
 obtain⟨t1,t2⟩:=ha.tick na;obtain⟨u1,u2⟩:=hb.tick hf;have e1:(zaE w).a=(za8 w.a).1:=rfl
 have e2:(zaE w).b=(za8 w.b).1:=rfl;rw[←e1] at t1 t2;rw[←e2] at u1 u2;obtain⟨c1,c2⟩:=t1.hear (by simp_all);obtain⟨d1,d2⟩:=u1.hear (by simp_all);have e3:(zZ (zaE w)).a=(zav (zaQ (zaE w).a 1) 1 S01.out).1:=by unfold zZ;rw[u1.sd]
 have e4:(zZ (zaE w)).b=(zav (zaQ (zaE w).b 0) 0 S01.out).1:=by unfold zZ;rw[t1.sd]
 rw[←e3] at c1 c2;rw[←e4] at d1 d2;have na1:(zZ (zaE w)).a.C.w.failed=false:=by rw[c2,t2];exact na
 have nf1:(zZ (zaE w)).b.C.w.failed=false:=by rw[d2,u2];exact hf
 obtain⟨Y,y0,yI,⟨X2,p1,p2,p3,p4⟩,yl⟩:=c1.up na1;obtain⟨Z,q0,qI,⟨X3,r1,r2,r3,r4⟩,zl⟩:=d1.up nf1
 have e5:zZ (zZ (zaE w))=⟨Y,Z⟩:=by
  have h1:zZ (zZ (zaE w))=⟨(zav (zaQ (zZ (zaE w)).a 1) 1 ((zZ (zaE w)).b.sd 0).out).1,(zav (zaQ (zZ (zaE w)).b 0) 0 ((zZ (zaE w)).a.sd 1).out).1⟩:=rfl;rw[h1,d1.sd,c1.sd,y0,q0]
 rw[Q.hg] at p4;obtain⟨n,n1,n2,n3⟩:=p4.out;obtain⟨m,m1,m2,m3⟩:=r4.out;have my:=p4.me
 have mz:=r4.me;rw[p1] at n1 n2 n3 my;rw[r1] at m1 m2 m3 mz;rw[x9,Y1] at n1 m1;rw[x5,x6] at my mz n3 m3;rw[x8] at n2 n3 m2 m3
 have hS:Sys Q sa sb ⟨Y,Z⟩ 0 0 0 0:=by
  refine⟨yI,qI,p4.e,r4.e,⟨?_,?_⟩,⟨?_,?_⟩,⟨p4.rest,p4.dec⟩,⟨r4.rest,r4.dec⟩,⟨n,n1,by omega,?_⟩,m,m1,by omega,?_⟩
  ·simp_all
  ·simp_all
  ·simp_all
  ·simp_all
  ·simp_all
  ·simp_all
 have ty:=p4.told;have tz:=r4.told
 rw[p3] at ty;rw[r3] at tz;have bS:Base ⟨Y,Z⟩ 0:=hS.base K (by omega) (by omega)
 have fit:∀ {x:W2} {S:SideR},x.a.sd 1=S→x.b.sd 0=S→(S.L.out=[]∧S.L.inn=[]∧S.out.length≤300)→x.a.nb=[1]→x.b.nb=[0]→x.a.told=[]→x.b.told=[]→x.a.set.timer=3→x.b.set.timer=3→Fit x:=fun a b c d e f g h i=>zGS (by rw[d];simp) (by rw[e];simp) d e a b ⟨c,c⟩ f g h i
 refine⟨fit ha.sd hb.sd ⟨z3,z2,v1⟩ ((Q.Aa sb).nb _ _ ha.I).1 (Q.Ab.nb _ _ hb.I).1 ha.told hb.told ha.set hb.set,fit t1.sd u1.sd ⟨z7,z6,v2⟩ ((Q.Aa sb).nb _ _ t1.I).1 (Q.Ab.nb _ _ u1.I).1 t1.told u1.told t1.set u1.set,fit c1.sd d1.sd ⟨y3,y2,v3⟩ ((Q.Aa sb).nb _ _ c1.I).1 (Q.Ab.nb _ _ d1.I).1 c1.told d1.told c1.set d1.set,?_⟩;have e6:ziu w=zZ ⟨Y,Z⟩:=by unfold ziu;rw[e5]
 rw[e5,e6];refine⟨hS.fit bS oM,?_⟩;cases hz:Z.C.w.failed with
 | true=>
  obtain⟨sa3,l5,d3,b3⟩:=hS.die K hz bS;exact⟨sa3,sb,l5,Q.Ab.rfl' _,.inr ⟨2400,by omega,d3⟩,b3.more oM⟩
 | false=>
  obtain⟨sa3,sb3,Ba3,Wa3,Bb3,Wb3,l5,l6,c3,b3,f5,f6, -, -, -, -⟩:=hS.cross_b K hz bS;exact⟨sa3,sb3,l5,l6,.inl ⟨Ba3,Wa3,Bb3,Wb3,c3,(f5 0 (yl.lf _ _)).hl oM,fun _=>(f6 0 (zl.lf _ _)).hl oM⟩,b3.more oM⟩
theorem St.sub (K:Laws Q Ja Jb) (h:St Q Ja Jb 2400 sa sb w) (hb:Base w T) {sa':σa} {C:CuR} (hI:(Q.Aa sb).I sa w.a→(Q.Aa sb).I sa' { w.a with C:=C }) (hJ:Ja sb sa' C) (hf:C.w.failed=false):St Q Ja Jb 3600 sa' sb ⟨zO { w.a with C:=C },w.b⟩∧Base ⟨zO { w.a with C:=C },w.b⟩ T:=by
 rcases h with ⟨Ba,Wa,Bb,Wb,h,ha,hbl⟩|⟨q,hq',h⟩
 ·obtain⟨c1,c2,c3⟩:=zCK (Q.Aa sb) (hI h.Ia) (by rw[Q.hg];exact h.ea) h.ra.1.1 h.ra.1.2 h.ra.2;rw[Q.hg] at c2;have h1:=h.turnA c1 c2
  have tl:=c2.told;have ta:=hb.ta
  exact⟨.inl ⟨Ba,Wa,Bb,Wb,h1,(c3 0 (ha.lf _ _)).hl oM,hbl⟩,h1.base K (by grind) hb.tb⟩
 ·obtain⟨a1,a2,a3,a4⟩:=h.l.cust C;refine⟨.inr ⟨q+1200,by omega,⟨h.f,a1,h.o,h.rb,by simp_all,by dsimp only;rw[a2];exact hJ,h.jb⟩⟩,?_,hb.tb,?_,hb.mb,hb.b0⟩
  ·dsimp only;rw[a3];exact hb.ta
  ·dsimp only;rw[a4];exact hb.ma
end
end
section
def gw (Gw:Word→Prop) (p:List UInt8):Prop:=∃ w,zcK p=some w∧(0<p.length∧p.length≤121)∧Gw w
theorem zmQ {Gw:Word→Prop} {w:Word} (h:w.err=0) (hg:Gw w):gw Gw w.bytes:=⟨w,zGM w h,zCG h,hg⟩
def okA (w:Word):Prop:=(w.kind=1∧∃ c,w.id=idC c∧1≤c∧c≤12)∨w.kind=4
def okB (cs:List Int) (w:Word):Prop:=(w.kind=2∧Dl cs w.id)∨w.kind=3∨w.kind=4
structure IB (cs:List Int) (X:NodX):Prop where
 nb:X.nb=[0]
 me:X.me=1
 set:X.set=setP
 rs:(X.sd 0).L.resets=(X.sd 0).resets
 cu:CB cs X.C
structure IA (cs:List Int) (g:GA) (X:NodX):Prop where
 nb:X.nb=[1]
 me:X.me=0
 set:X.set=setP
 rs:(X.sd 1).L.resets=(X.sd 1).resets
 cu:CA cs g X.C
theorem IB.turn {cs:List Int} {X Y:NodX} (h:IB cs X) (n:Y.nb=X.nb∧Y.me=X.me∧Y.set=X.set) (c:Y.C=X.C) (r:(Y.sd 0).L.resets=(Y.sd 0).resets):IB cs Y:=⟨n.1.trans h.nb,n.2.1.trans h.me,n.2.2.trans h.set,r,by rw[c];exact h.cu⟩
theorem IA.turn {cs:List Int} {g:GA} {X Y:NodX} (h:IA cs g X) (n:Y.nb=X.nb∧Y.me=X.me∧Y.set=X.set) (c:Y.C=X.C) (r:(Y.sd 1).L.resets=(Y.sd 1).resets):IA cs g Y:=⟨n.1.trans h.nb,n.2.1.trans h.me,n.2.2.trans h.set,r,by rw[c];exact h.cu⟩
theorem zfq (X:NodX) (k:Int) {S:SideR} (h:S.L.resets=S.resets):((X.setSd k S).sd k).L.resets=((X.setSd k S).sd k).resets:=by rw[za9];exact h
theorem zEA {cs:List Int} {X:NodX} (h:IB cs X) (hf:X.C.w.failed=false) {w:Word} {c:Int} (hw:w.id=idC c) (hc:1≤c∧c≤12) :
  ∃ cs' C' t,(∀ d∈cs,d∈cs')∧(zcn X w).1={ X with C:=C',told:=t }∧t.length≤X.told.length+1∧CB cs' C'∧(C'.w.failed=false→(zcn X w).2=0→Dl cs' w.id):=by
 unfold zcn;rw[if_pos (by rw[hw,h.me])];split
 ·rename_i g;refine⟨cs,X.C,X.told,fun _ h=>h,rfl,Ybg _,h.cu,fun _ _=>?_⟩;unfold zoT at g;rw[Yu] at g;exact h.cu.seen hf g.2
 ·obtain⟨r,hr⟩:=oI (zaC X.C 4 (idC c) [] true);rw[hw,←hr];rcases h.cu.put hf hc hr with ⟨a1,a2,a3⟩|⟨a1,a2,a3⟩|⟨a1,a2,a3⟩
  ·refine⟨cs,X.C,X.told,fun _ h=>h,by simp_all,Ybg _,h.cu,fun _ h0=>?_⟩;dsimp only at h0;by_cases h5:r.2=5
   ·exact a3 h5
   ·omega
  ·refine⟨cs++[c],r.1,X.told++[⟨idC c,w.data⟩],fun d hd=>by simp[hd],by rw[if_pos a1],by simp,a3,fun _ _=>⟨rfl,rfl,by simp⟩⟩
  ·grind
theorem zwQ {cs cs':List Int} (h:∀ d∈cs,d∈cs') {p:List UInt8} (hp:gw (okB cs) p):gw (okB cs') p:=by
 obtain⟨w,h1,h2,h3⟩:=hp;refine⟨w,h1,h2,?_⟩;rcases h3 with ⟨a,b⟩|h3
 ·exact .inl ⟨a,b.1,b.2.1,h _ b.2.2⟩
 ·exact .inr h3
theorem zIB {cs:List Int} {X:NodX} {p:List UInt8} {B W:Nat} (h:IB cs X) (he:EndI (gw (okB cs)) (X.sd 0).L B W) (hp:gw okA p) :
  ∃ cs',(∀ d∈cs,d∈cs')∧IB cs' (zb0 0 X p)∧STo (gw (okB cs')) { X with told:=(zb0 0 X p).told } (zb0 0 X p) 0 B W B W∧(zb0 0 X p).told.length≤X.told.length+1:=by
 unfold zb0;split
 ·exact⟨cs,fun _ h=>h,h,STo.refl he,Ybg _⟩
 rename_i hf;have hf:X.C.w.failed=false:=by simpa using hf
 obtain⟨w,h1,h2,h3⟩:=hp;have e:zgR X 0 p=zkp X 0 w:=by unfold zgR;rw[h1]
 rw[e];unfold zkp;rcases h3 with ⟨k1,c,hw,hc⟩|k4
 ·rw[if_pos k1];obtain⟨cs',C',t,l1,l2,l3,l4,l5⟩:=zEA h hf hw hc;have hI:IB cs' { X with C:=C',told:=t }:=⟨h.nb,h.me,h.set,h.rs,l4⟩
  have he':EndI (gw (okB cs')) (X.sd 0).L B W:=he.mono fun p hp=>zwQ l1 hp
  unfold zh0;rw[l2];split
  ·exact⟨cs',l1,hI,STo.same he' rfl ⟨rfl,rfl,rfl⟩ (Yd _),l3⟩
  ·rename_i g;have g:C'.w.failed=false:=by simpa using g
   have hG:(⟨if (zcn X w).2=0 then 2 else 3,w.n,w.id,[],[]⟩:Word).err=0→gw (okB cs') (⟨if (zcn X w).2=0 then 2 else 3,w.n,w.id,[],[]⟩:Word).bytes:=fun h0=>zmQ h0 (by
    unfold okB;dsimp only;by_cases hz:(zcn X w).2=0
    ·simp_all
    ·omega)
   obtain⟨s1,s2⟩:=zq7 (X:={ X with C:=C',told:=t }) (k:=0) he' _ hG;refine⟨cs',l1,hI.turn s1.nd (by rw[s2]) ?_,?_,?_⟩
   ·rw[s1.lk.rs,s1.dec.2.2.1];exact h.rs
   ·have e3:(zbf { X with C:=C',told:=t } 0 ⟨if (zcn X w).2=0 then 2 else 3,w.n,w.id,[],[]⟩).1.told=t:=by rw[s2]
    rw[e3];exact⟨s1.lk,s1.inn,s1.dec,s1.nd,by grind⟩
   ·grind
 ·rw[if_neg oM,if_neg oM,if_neg oM];exact⟨cs,fun _ h=>h,h.turn ⟨rfl,rfl,rfl⟩ rfl h.rs,STo.same he rfl ⟨rfl,rfl,rfl⟩ (Yd _),Ybg _⟩
theorem zIC {cs:List Int} {g:GA} {X:NodX} {p:List UInt8} {B W:Nat} (h:IA cs g X) (he:EndI (gw okA) (X.sd 1).L B W) (hp:gw (okB cs) p) :
  ∃ g',leA g g'∧IA cs g' (zb0 1 X p)∧STo (gw okA) { X with told:=(zb0 1 X p).told } (zb0 1 X p) 1 B W B W∧(zb0 1 X p).told.length≤X.told.length+1:=by
 have hf:=h.cu.live;obtain⟨w,h1,h2,h3⟩:=hp;have e:zb0 1 X p=zkp X 1 w:=by unfold zb0 zgR;rw[if_neg (by rw[hf];decide),h1]
 rw[e];unfold zkp;rcases h3 with ⟨k2,hd⟩|k3|k4
 ·rw[if_neg oM,if_pos k2];split
  ·obtain⟨g',l1,l2⟩:=h.cu.release hd;exact⟨g',l1,⟨h.nb,h.me,h.set,h.rs,l2⟩,STo.same he rfl ⟨rfl,rfl,rfl⟩ (Yd _),Ybg _⟩
  ·exact⟨g,⟨fun _ h=>h,Yd _⟩,h,STo.refl he,Ybg _⟩
 ·rw[if_neg oM,if_neg oM,if_pos k3];exact⟨g,⟨fun _ h=>h,Yd _⟩,h.turn ⟨rfl,rfl,rfl⟩ rfl h.rs,STo.same he rfl ⟨rfl,rfl,rfl⟩ (Yd _),Ybg _⟩
 ·rw[if_neg oM,if_neg oM,if_neg oM];exact⟨g,⟨fun _ h=>h,Yd _⟩,h.turn ⟨rfl,rfl,rfl⟩ rfl h.rs,STo.same he rfl ⟨rfl,rfl,rfl⟩ (Yd _),Ybg _⟩
theorem zwR (via up:List Int):∀ (held:List zeq) (s:PlF) (o:zfD),o∈(held.foldl (zdB via up) s).out→o∈s.out∨o.msg∈held
 | [],s,o,h => .inl h
 | x::r,s,o,h=>by
  rw[Yap] at h;rcases zwR via up r _ o h with h|h
  ·unfold zdB at h;split at h
   ·grind
   ·exact .inl h
  ·simp_all
theorem zyJ {cs:List Int} {g:GA} {B W:Nat}:∀ (l:List zfD) {X:NodX},IA cs g X→EndI (gw okA) (X.sd 1).L B W→(∀ o∈l,o.to=1∧∃ c,o.msg.id=idC c∧1≤c∧c≤12)→IA cs g (l.foldl zcX X)∧STo (gw okA) X (l.foldl zcX X) 1 B W B W
 | [],X,h,he,_=>⟨h,STo.refl he⟩
 | o::r,X,h,he,ho=>by
  obtain⟨h1,c,h2,h3⟩:=ho o oS;have hG:(⟨1,o.n,o.msg.id,o.msg.data,[]⟩:Word).err=0→gw okA (⟨1,o.n,o.msg.id,o.msg.data,[]⟩:Word).bytes:=fun h0=>zmQ h0 (.inl ⟨rfl,c,h2,h3⟩)
  obtain⟨s1,s2⟩:=zq7 (X:=X) (k:=1) he _ hG
  have key:IA cs g (zcX X o)∧STo (gw okA) X (zcX X o) 1 B W B W:=by
   have hI:IA cs g (zbf X 1 ⟨1,o.n,o.msg.id,o.msg.data,[]⟩).1:=h.turn s1.nd (by rw[s2]) (by rw[s1.lk.rs,s1.dec.2.2.1];exact h.rs);unfold zcX;rw[h1];dsimp only;split
   ·exact⟨hI.turn ⟨rfl,rfl,rfl⟩ rfl hI.rs,⟨s1.lk,s1.inn,s1.dec,s1.nd,s1.told⟩⟩
   ·grind
  obtain⟨k1,k2⟩:=key;obtain⟨m1,m2⟩:=zyJ r k1 k2.lk.e fun x hx=>ho x (by simp[hx])
  rw[Yap];exact⟨m1,k2.trans m2⟩
theorem zJu {cs:List Int} {g:GA} {X:NodX} {B W:Nat} (h:IA cs g X) (he:EndI (gw okA) (X.sd 1).L B W):IA cs g (zcl X [1])∧STo (gw okA) X (zcl X [1]) 1 B W B W:=by
 unfold zcl;split
 ·exact⟨h,STo.refl he⟩
 ·have hI:IA cs g { X with dsk:=(zdK X [1]).f,next:=(zdK X [1]).next }:=h.turn ⟨rfl,rfl,rfl⟩ rfl h.rs
  obtain⟨a1,a2⟩:=zyJ (zdK X [1]).out hI he fun o ho=>by
   refine⟨?_,?_⟩
   ·have:=zoV (zmG X) [1] (X.C.X.S.l.map zmC) ⟨X.dsk,X.next,[]⟩ (fun o ho=>by cases ho) o ho;simpa using this
   ·rcases zwR (zmG X) [1] (X.C.X.S.l.map zmC) ⟨X.dsk,X.next,[]⟩ o ho with h0|h0
    ·cases h0
    ·obtain⟨m,hm,e⟩:=Yj.1 h0;rw[←e];exact h.cu.held m hm
  exact⟨a1,⟨a2.lk,a2.inn,a2.dec,a2.nd,a2.told⟩⟩
def actsB:zfy (List Int) 0 (gw okA) where
 le:=fun a b=>∀ d∈a,d∈b
 rfl':=fun _ _ h=>h
 trs:=fun _ _ _ h h' d hd=>h' d (h d hd)
 g:=fun cs=>gw (okB cs)
 mono:=fun _ _ h _ hp=>zwQ h hp
 len:=fun _ _ ⟨_,_,h,_⟩=>h
 lin:=fun _ ⟨_,_,h,_⟩=>h
 I:=IB
 lnk:=fun _ X L h hr=>h.turn ⟨rfl,rfl,rfl⟩ rfl (zfq X 0 (hr.trans h.rs))
 word:=fun _ _ _ _ _ h he hp=>zIB h he hp
 dec:=fun _ X b h=>h.turn ⟨rfl,rfl,rfl⟩ rfl (zfq X 0 h.rs)
 drain:=fun _ X h=>h.turn ⟨rfl,rfl,rfl⟩ rfl (zfq X 0 h.rs)
 take:=fun _ X h=>h.turn ⟨rfl,rfl,rfl⟩ rfl (zfq X 0 h.rs)
 side:=fun _ X S h hr=>h.turn ⟨rfl,rfl,rfl⟩ rfl (zfq X 0 hr)
 nb:=fun _ _ h=>⟨h.nb,h.rs⟩
 off:=fun _ X B W h he=>by
  have e:zcl X [0]=X:=by unfold zcl;rw[if_pos (by rw[h.cu.held];rfl)]
  rw[e];exact⟨h,STo.refl he⟩
 oth:=fun _ X t f d h=>h.turn ⟨rfl,rfl,rfl⟩ rfl h.rs
 nxt:=fun _ X d n h=>h.turn ⟨rfl,rfl,rfl⟩ rfl h.rs
 vec:=fun _ w hk h0=>zmQ h0 (.inr (.inr hk))
def zks (cs:List Int):zfy GA 1 (gw (okB cs)) where
 le:=leA
 rfl':=fun _=>⟨fun _ h=>h,Yd _⟩
 trs:=fun _ _ _ h h'=>⟨fun i hi=>h'.1 i (h.1 i hi),Yn h'.2 h.2⟩
 g:=fun _=>gw okA
 mono:=fun _ _ _ _ hp=>hp
 len:=fun _ _ ⟨_,_,h,_⟩=>h
 lin:=fun _ ⟨_,_,h,_⟩=>h
 I:=IA cs
 lnk:=fun _ X L h hr=>h.turn ⟨rfl,rfl,rfl⟩ rfl (zfq X 1 (hr.trans h.rs))
 word:=fun _ _ _ _ _ h he hp=>zIC h he hp
 dec:=fun _ X b h=>h.turn ⟨rfl,rfl,rfl⟩ rfl (zfq X 1 h.rs)
 drain:=fun _ X h=>h.turn ⟨rfl,rfl,rfl⟩ rfl (zfq X 1 h.rs)
 take:=fun _ X h=>h.turn ⟨rfl,rfl,rfl⟩ rfl (zfq X 1 h.rs)
 side:=fun _ X S h hr=>h.turn ⟨rfl,rfl,rfl⟩ rfl (zfq X 1 hr)
 nb:=fun _ _ h=>⟨h.nb,h.rs⟩
 off:=fun _ X B W h he=>zJu h he
 oth:=fun _ X t f d h=>h.turn ⟨rfl,rfl,rfl⟩ rfl h.rs
 nxt:=fun _ X d n h=>h.turn ⟨rfl,rfl,rfl⟩ rfl h.rs
 vec:=fun _ w hk h0=>zmQ h0 (.inr hk)
def pairQ:Pair GA (List Int) where
 ga:=gw okA
 Ab:=actsB
 Aa:=zks
 hg:=fun _ _=>rfl
 hI:=fun _ _ _ _ h hX=>⟨hX.nb,hX.me,hX.set,hX.rs,hX.cu.more h⟩
 la:=leA
 hl:=fun _=>rfl
 na:=fun _ _ _ h=>h.cu.live
theorem zwS:∀ (l:List Int) (X:NodX),(l.foldl zcm X).C=X.C∧(l.foldl zcm X).told=X.told
 | [],_=>⟨rfl,rfl⟩
 | k::r,X=>zwS r (zcm X k)
theorem zo0 (X:NodX):(zO X).C=X.C∧(zO X).told=X.told:=by
 have h:=zyG X 0;obtain⟨a,b⟩:=zwS X.nb (zcb X);exact⟨a.trans h.C,b.trans h.told⟩
theorem zyK:∀ (l:List Int) (X:NodX),(l.foldl zdL X).C=X.C∧(l.foldl zdL X).told=X.told
 | [],_=>⟨rfl,rfl⟩
 | k::r,X=>zyK r (zdL X k)
theorem zyL:∀ (l:List Int) (X:NodX),(l.foldl zbH X).C=X.C∧(l.foldl zbH X).told=X.told
 | [],_=>⟨rfl,rfl⟩
 | k::r,X=>by
  obtain⟨a,b⟩:=zyL r (zbH X k)
  have h:(zbH X k).C=X.C∧(zbH X k).told=X.told:=by
   unfold zbH;split
   ·have:=zq8 X k k ⟨4,0,za7,[],zjK X k⟩;exact⟨this.C,this.told⟩
   ·simp
  exact⟨a.trans h.1,b.trans h.2⟩
theorem zCO {X:NodX} (hf:X.C.w.failed=false):(za8 X).1.C=X.C∧(za8 X).1.told=X.told:=by
 have e:za8 X=(zO (zci X),0):=by unfold za8;rw[if_neg (by rw[hf];decide)]
 have h1:(zb5 X).C=X.C∧(zb5 X).told=X.told:=zyK X.nb _
 have h3:(zci X).C=X.C∧(zci X).told=X.told:=by
  unfold zci;split
  ·obtain⟨a,b⟩:=zyL X.nb (zb5 X);exact⟨a.trans h1.1,b.trans h1.2⟩
  ·exact h1
 rw[e];obtain⟨a,b⟩:=zo0 (zci X);exact⟨a.trans h3.1,b.trans h3.2⟩
theorem zo1:Laws pairQ CA CB where
 ja:=fun _ _ _ h=>h.cu
 jb:=fun _ _ h=>h.cu
 tC:=fun _ h=>(zCO h).1
 setA:=fun _ _ X h=>by have:=IA.set h;rw[this]
 setB:=fun _ X h=>by have:=IB.set h;rw[this]
end
section
theorem zyM:InvD D00:=zv9 (limit:=100000) oM
theorem zJv (P:Par):RecD P 1 D00 [] [] 0:=by
 have hn:∀ f∈D00.l,False:=fun f hf=>by cases hf
 exact⟨0,1,⟨zyM,fun f hf=>(hn f hf).elim,SegI.start oM (fun f hf=>(hn f hf).elim) rfl,trivial,⟨rfl,rfl,fun f hf=>(hn f hf).elim⟩⟩,⟨by decide,by decide,by decide,by decide,rfl⟩⟩
theorem zoF {P:Par} (hb:¬zcE P.me P.qh P.qb P.qg) (hseg:16≤P.seg∧P.seg≤1048576):LiveI P 2 (zaL D00 P.me P.qh P.qb P.qg P.seg none).1 [] [bootX] 1∧PowD (zaL D00 P.me P.qh P.qb P.qg P.seg none).1.D:=by
 have hp:PowD D00:=⟨rfl,rfl⟩
 obtain⟨ld,m,h0,m1,m2,m3,m4,m5,m6, -⟩:=(zJv P).open oD (CutD.refl zyM hp) hb hseg;subst h0;have hm:m=0:=Nat.le_zero.1 m2
 subst hm;exact⟨m5,m6⟩
theorem zID:¬zcE Pa.me Pa.qh Pa.qb Pa.qg:=by show ¬zcE 0 50 2000 50;unfold zcE;omega
theorem zIE:16≤Pa.seg∧Pa.seg≤1048576:=by decide
theorem zwT:16≤Pb.seg∧Pb.seg≤1048576:=by decide
theorem zwU:¬zcE Pb.me Pb.qh Pb.qb Pb.qg:=by show ¬zcE 1 50 2000 50;unfold zcE;omega
def CA0:CuR:=(zaL D00 0 50 2000 50 200 none).1
def CB0:CuR:=(zaL D00 1 50 2000 50 200 none).1
theorem zCP {P:Par} {n s:Nat} {C:CuR} (h:LiveI P n C [] [bootX] s):C.X=zb1 P.x0 bootX:=by have:=h.X;rw[Y1] at this;exact this
theorem zCQ {X:StW} (h:zcq X 1 za7 0=0):(zb1 X bootX).S={ X.S with epoch:=X.S.epoch+1,used:=List.replicate 64 0 }∧(zb1 X bootX).sn=X.sn:=by
 unfold zb1 zck;rw[if_pos (show zcq X bootX.kind bootX.id bootX.p.length=0 from h)];exact⟨rfl,rfl⟩
theorem zwV {P:Par} {n s:Nat} {C:CuR} (h:LiveI P n C [] [bootX] s):zcq P.x0 1 za7 0=0:=h.rc.ok.1
theorem ca0:CA [] ⟨[bootX],1,0⟩ CA0:=by
 obtain⟨h1,h2⟩:=zoF zID (P:=Pa) zIE;have hX:=zCP h1
 have hS:=(zCQ (zwV h1)).1;have e:CA0.X.S={ Pa.x0.S with epoch:=Pa.x0.S.epoch+1,used:=List.replicate 64 0 }:=by rw[←hS,←hX];rfl
 have hl:zcg CA0.X.S 1=0:=by rw[e];rfl
 refine⟨⟨1,h1,Yd _⟩,h2,by rw[e];decide,by decide,fun x hx hk=>?_,fun m hm=>?_,⟨by omega,by omega⟩,by rw[e];exact⟨rfl,rfl⟩⟩
 ·simp_all
 ·rw[e] at hm;cases hm
theorem cb0 {D:ze} (hi:InvD D) (hl:D.l=CB0.D.l) (hm:D.limit=CB0.D.limit):CB [] { CB0 with D:=D }:=by
 obtain⟨h1,h2⟩:=zoF zwU (P:=Pb) zwT;have hX:=zCP h1
 have hS:=(zCQ (zwV h1)).1;have e:CB0.X.S={ Pb.x0.S with epoch:=Pb.x0.S.epoch+1,used:=List.replicate 64 0 }:=by rw[←hS,←hX];rfl
 exact⟨List.nodup_nil,by simp,by rfl,by rfl,.inl (h1.same hi hl hm)⟩
theorem zKe:zgc CA0=512:=by kernel_rfl
theorem zKf:zgc CB0=512:=by kernel_rfl
theorem zKE:zfU { zeA 512 setP with resets:=(zeA 512 setP).L.resets }=S00:=rfl
theorem zJw:Pre (zks []) ⟨[bootX],1,0⟩ w00.a S00:=by
 have hI:IA [] ⟨[bootX],1,0⟩ (zd1 0 setP [1] CA0):=⟨rfl,rfl,rfl,rfl,ca0⟩
 have hs:(zd1 0 setP [1] CA0).sd 1=zeA 512 setP:=by show zeA (zgc CA0) setP=_;rw[zKe]
 obtain⟨a1,a2,a3,a4,a5,a6⟩:=ziv (zks []) (s:=⟨[bootX],1,0⟩) (X:=zd1 0 setP [1] CA0) (k:=1) rfl rfl ((zks []).side _ _ _ hI rfl);have e:w00.a=zO (zd1 0 setP [1] CA0):=rfl
 rw[e];exact⟨a1,by rfl,a4,by rw[a6];rfl⟩
theorem zJx {D:ze} (hi:InvD D) (hl:D.l=CB0.D.l) (hm:D.limit=CB0.D.limit):Pre actsB [] { w00.b with C:={ w00.b.C with D:=D } } S00:=by
 obtain⟨h1,h2⟩:=zoF zwU (P:=Pb) zwT;have hI0:IB [] (zd1 1 setP [0] CB0):=⟨rfl,rfl,rfl,rfl,by have:=cb0 h1.rc.inv rfl rfl;exact this⟩
 have hs:(zd1 1 setP [0] CB0).sd 0=zeA 512 setP:=by show zeA (zgc CB0) setP=_;rw[zKf]
 obtain⟨a1,a2,a3,a4,a5,a6⟩:=ziv actsB (s:=[]) (X:=zd1 1 setP [0] CB0) (k:=0) rfl rfl (actsB.side _ _ _ hI0 rfl);have e:w00.b=zO (zd1 1 setP [0] CB0):=rfl
 rw[e];have hC:(zO (zd1 1 setP [0] CB0)).C=CB0:=a5
 refine⟨⟨a1.nb,a1.me,a1.set,a1.rs,?_⟩,by rfl,a4,by rfl⟩;show CB [] { (zO (zd1 1 setP [0] CB0)).C with D:=D }
 rw[hC];exact cb0 hi hl hm
def Run (g:GA) (cs:List Int) (w:W2) (T:Nat):Prop:=
 (Pre (zks cs) g w.a S00∧Pre actsB cs w.b S00∧w.b.C.w.failed=false)∨(St pairQ CA CB 2400 g cs w∧Base w T)
theorem hT0:∀ X:NodX,X.C.w.failed=false→(za8 X).1.told=X.told:=fun _ h=>(zCO h).2
theorem zwW:∀ s,pairQ.la s s:=fun _=>⟨fun _ h=>h,Yd _⟩
theorem zwX:∀ a b c,pairQ.la a b→pairQ.la b c→pairQ.la a c:=fun _ _ _ h h'=>⟨fun i hi=>h'.1 i (h.1 i hi),Yn h'.2 h.2⟩
theorem Run.first {g:GA} {cs:List Int} {w:W2} {T:Nat} (h:Run g cs w T) (hT:T+12≤1000000):RoundTo pairQ CA CB g cs w T:=by
 rcases h with ⟨h1,h2,h3⟩|⟨h1,h2⟩
 ·obtain⟨r1,r2,r3,r4,sa,sb,l1,l2,h4,b4⟩:=zyI (Q:=pairQ) zo1 h1 h2 h3;exact⟨r1,r2,r3,r4,sa,sb,l1,l2,h4,b4.more oM⟩
 ·exact h1.round zo1 zwW zwX hT0 oM h2 hT
theorem Run.fit {g:GA} {cs:List Int} {w:W2} {T:Nat} (h:Run g cs w T) (hT:T+12≤1000000):Fit w:=(h.first hT).1
theorem Run.na {g:GA} {cs:List Int} {w:W2} {T:Nat} (h:Run g cs w T):CA cs g w.a.C∧CB cs w.b.C:=by
 rcases h with ⟨h1,h2,_⟩|⟨⟨_,_,_,_,h1,_⟩|⟨_,_,h1⟩,_⟩
 ·exact⟨h1.I.cu,h2.I.cu⟩
 ·exact⟨h1.Ia.cu,h1.Ib.cu⟩
 ·exact⟨h1.ja,h1.jb⟩
theorem Run.give {g:GA} {cs:List Int} {w:W2} {T:Nat} (h:Run g cs w T) (hh:g.h+1≤12) (hT:T+12≤1000000) (p:List UInt8) :
  ∃ g',leH g g'∧g'.h≤g.h+1∧((zch w.a 1 p).2.2=0→Ha g' (zch w.a 1 p).2.1)∧RoundTo pairQ CA CB g' cs ⟨(zch w.a 1 p).1,w.b⟩ T:=by
 obtain⟨ha,_⟩:=h.na;have hf:=ha.live
 obtain⟨g',l1,l2,l3,l4⟩:=ha.submit hh p;have e:zch w.a 1 p=(zO { w.a with C:=(zbt w.a.C 1 p).1 },(zbt w.a.C 1 p).2):=by unfold zch;rw[if_neg (by rw[hf];decide)]
 rw[e];refine⟨g',l1,l2,l4,?_⟩;rcases h with ⟨h1,h2,h3⟩|⟨h1,h2⟩
 ·obtain⟨⟨z1,z2,z3,z4⟩,_⟩:=zwN;have hI:IA cs g' { w.a with C:=(zbt w.a.C 1 p).1 }:=⟨h1.I.nb,h1.I.me,h1.I.set,h1.I.rs,l3⟩
  have hs:({ w.a with C:=(zbt w.a.C 1 p).1 }:NodX).sd 1=S00:=h1.sd;obtain⟨a1,a2,a3,a4,a5,a6⟩:=ziv (zks cs) (s:=g') (X:={ w.a with C:=(zbt w.a.C 1 p).1 }) (k:=1) h1.I.nb (by simp_all) ((zks cs).side _ _ _ hI rfl)
  have hP:Pre (zks cs) g' (zO { w.a with C:=(zbt w.a.C 1 p).1 }) S00:=⟨a1,by
   rw[a2,hs,z4]
   exact zwP z3,a4.trans h1.told,by rw[a6];exact h1.set⟩
  obtain⟨r1,r2,r3,r4,sa,sb,q1,q2,h4,b4⟩:=zyI (Q:=pairQ) (w:=⟨zO { w.a with C:=(zbt w.a.C 1 p).1 },w.b⟩) zo1 hP h2 h3;exact⟨r1,r2,r3,r4,sa,sb,q1,q2,h4,b4.more oM⟩
 ·obtain⟨s1,s2⟩:=St.sub zo1 h1 h2 (sa':=g') (C:=(zbt w.a.C 1 p).1) (fun hI=>⟨hI.nb,hI.me,hI.set,hI.rs,l3⟩) l3 l3.live;exact s1.round zo1 zwW zwX hT0 oM s2 hT
theorem RoundTo.run {g:GA} {cs:List Int} {w:W2} {T:Nat} (h:RoundTo pairQ CA CB g cs w T) (n:Nat) (hT:T+12*(n+1)≤1000000):zq6 (n+1) w∧∃ g' cs',leA g g'∧Run g' cs' (zeP (n+1) w) (T+12*(n+1)):=by
 obtain⟨r1,g',cs',l1,_,l3,l4⟩:=h.rounds zo1 zwW zwX hT0 n hT;exact⟨r1,g',cs',l1,.inr ⟨l3,l4⟩⟩
theorem CA.found {cs:List Int} {g:GA} {C:CuR} (h:CA cs g C) :
  ∃ ld,ld=none∧Ld (zbE (zaR C.D [])).1 0 50 2000 50 ld∧(zaL (zaR C.D []) 0 50 2000 50 200 ld).2=0∧(zaL (zaR C.D []) 0 50 2000 50 200 ld).1.X.sn.length≤60 ∧
   ∀ i,Ha g i→Dl cs i∨zcD (zaL (zaR C.D []) 0 50 2000 50 200 ld).1.X.S.l i=true:=by
 obtain⟨s,hL,hs⟩:=h.st;have hc:=h.cnt
 have h12:=h.h12;have hi:InvD C.D:=hL.rc.inv
 obtain⟨ld,m,m0,m1,m2,m3,m4,m5,m6, -⟩:=hL.toLiveB.recd.open oM (CutD.crash hi []) zID (P:=Pa) zIE;refine⟨ld,m0,m3,m4,?_,fun i hi=>?_⟩
 ·exact Yn m5.evs.2.1 oM
 ·by_cases hr:∃ x∈g.evs.take m,x.kind=3∧x.id=i
  ·obtain⟨x,hx,hk,e⟩:=hr;left;rw[←e];exact h.rel x (List.mem_of_mem_take hx) hk
  ·right;have hX:=m5.X
   rw[Y1] at hX;have hok:=m5.rc.ok
   rw[Y1] at hok;have e:(zaL (zaR C.D []) 0 50 2000 50 200 ld).1.X=zb2 Pa.x0 (g.evs.take m++[bootX]):=hX
   rw[e];obtain⟨x,hx,hk,ei⟩:=hi;refine zub _ hok (.inr ⟨x,Ybe _ (List.take_subset_take_left _ oM hx),hk,ei⟩) fun z hz hk3 e3=>?_
   rcases Yt.1 hz with hz|hz
   ·simp_all
   ·simp_all
theorem CB.found {cs:List Int} {C:CuR} (h:CB cs C) :
  ∃ ld,ld=none∧Ld (zbE (zaR C.D [])).1 1 50 2000 50 ld∧(zaL (zaR C.D []) 1 50 2000 50 200 ld).2=0∧(zaL (zaR C.D []) 1 50 2000 50 200 ld).1.X.sn.length≤60 ∧
   ∀ i,Dl cs i→inE (zcG (zaL (zaR C.D []) 1 50 2000 50 200 ld).1.X.sn) i.o i.e i.c:=by
 have hl:=zFB h.nd h.rg
 have key:∀ {E:List EvX} {n:Nat},n≤20→RecD Pb n C.D [] (evB cs++E) (cs.length+1) →
   ∃ ld,ld=none∧Ld (zbE (zaR C.D [])).1 1 50 2000 50 ld∧(zaL (zaR C.D []) 1 50 2000 50 200 ld).2=0∧(zaL (zaR C.D []) 1 50 2000 50 200 ld).1.X.sn.length≤60 ∧
   ∀ i,Dl cs i→inE (zcG (zaL (zaR C.D []) 1 50 2000 50 200 ld).1.X.sn) i.o i.e i.c:=fun {E n} hn hR=>by
  have hi:InvD C.D:=by obtain⟨_,_,q,_⟩:=hR;exact q.inv
  obtain⟨ld,m,m0,m1,m2,m3,m4,m5,m6, -⟩:=hR.open oM (CutD.crash hi []) zwU (P:=Pb) zwT;refine⟨ld,m0,m3,m4,?_,fun i hi=>?_⟩
  ·exact Yn m5.evs.2.1 oM
  ·have hX:=m5.X;rw[Y1] at hX;have hok:=m5.rc.ok
   rw[Y1] at hok;have e:(zaL (zaR C.D []) 1 50 2000 50 200 ld).1.X=zb2 Pb.x0 ((evB cs++E).take m++[bootX]):=hX
   rw[e,zwH hok];obtain⟨h1,h2,h3⟩:=hi;refine⟨dEv i.c,Ybe _ ?_,rfl,h1.symm,h2.symm,rfl⟩;have hlen:(evB cs).length=cs.length+1:=by simp[evB]
   rw[Yd6];refine Ybe _ ?_;rw[Yf oM];exact Ybv _ (Yj.2 ⟨i.c,h3,rfl⟩)
 rcases h.st with h1|⟨_,E,h1⟩
 ·have:=h1.toLiveB.recd;exact key (E:=[]) (n:=cs.length+2) oM (by simp_all)
 ·grind
end
end Go.Proofs.YtlgbofpennelhaaGreat
namespace Go.Proofs.YtlgbofpennelhaaGreat
open Go Go.Vm Go.Proofs.Tryz
attribute [local irreducible] Brn Ob Grow CallsM inR zX zI Mem.row Mem.cells Mem.setCells Mem.upd Go.Vm.Own zac zar zas zab New SrcOk subA NewSl Mem.textAt Mem.mapAt Mem.iterAt zH zF Wr NewEls Elems zdm zeZ zgg zeD zeE
set_option maxRecDepth 10000
section
variable {B0 M0 B M B' M':Mem} {S0:Nat→Prop} {R:List Pt} {ps:List Pt}
def zAv (X:NodX):Bool:=X.nb.all fun k=>(X.sd k).L.out.isEmpty&&(X.sd k).L.inn.isEmpty&&decide ((X.sd k).out.length≤65536)
def zoG (w:W2):Bool:=decide (1∈w.a.nb)&&decide (0∈w.b.nb)&&zAv w.a&&zAv w.b&&decide (w.a.told.length≤1000000)&&decide (w.b.told.length≤1000000)&&decide (1≤w.a.set.timer∧w.a.set.timer≤64)&&decide (1≤w.b.set.timer∧w.b.set.timer≤64)
def zuU:Nat→W2→Bool
 | 0,w=>zoG w
 | n+1,w=>zoG w&&zoG (zaE w)&&zoG (zZ (zaE w))&&zoG (zZ (zZ (zaE w)))&&zuU n (ziu w)
theorem zuh {X:NodX} (h:zAv X=true):zmK X 65536:=fun k hk=>by
 have:=Ya4.1 h k hk;simp only[Yu,List.isEmpty_iff,decide_eq_true_eq] at this;exact⟨this.1.1,this.1.2,this.2⟩
theorem zh2 {w:W2} (h:zoG w=true):Fit w:=by
 simp only[zoG,Yu,decide_eq_true_eq] at h;obtain⟨⟨⟨⟨⟨⟨⟨h1,h2⟩,h3⟩,h4⟩,h5⟩,h6⟩,h7⟩,h8⟩:=h;exact⟨h1,h2,zuh h3,zuh h4,h5,h6,h7,h8⟩
theorem zui:∀ {n:Nat} {w:W2},zuU n w=true→zq6 n w
 | 0,_,h=>zh2 h
 | n+1,w,h=>by
  simp only[zuU,Yu] at h;obtain⟨⟨⟨⟨h1,h2⟩,h3⟩,h4⟩,h5⟩:=h;exact⟨zh2 h1,zh2 h2,zh2 h3,zh2 h4,zui h5⟩
def w01:W2:=⟨(zch w00.a 1 [120]).1,w00.b⟩
theorem zJy:zoG w00=true:=by kernel_rfl
theorem zIF:zuU 12 w01=true:=by kernel_rfl
theorem zJz:(zch w00.a 1 [120]).2.2=0:=by kernel_rfl
theorem zCR:(zeP 12 w01).b.told.map (fun m=>m.data)=[[120]]:=by kernel_rfl
theorem zIG:(zeP 12 w01).a.C.X.S.l.length=0:=by kernel_rfl
theorem zKg:decide ((zeP 12 w01).a.C.X.sn.length≤1048576)=true:=by kernel_rfl
end
section
variable {B0 M0 B M B' M':Mem} {S0:Nat→Prop} {R:List Pt} {ps:List Pt}
theorem awake21_ok:CallsM prog 14 [] M fun v M'=>v = .bool true∧M.le M':=by
 refine zsv oS ?_;refine zR ?_;refine plain_ok.mono ?_;rintro v _ ⟨rfl,rfl⟩;refine zR ?_;refine pair_ok.mono ?_;rintro v M1 ⟨B1,P,Q,rfl,⟨p1,p2⟩,⟨q1,q2⟩,hb1,h1⟩;refine zR ?_;(conv=>whnf)
 delta zeZ New
 intro b1 hb1';refine on Mem.textAt_setCells ?_
 have hle1:M1.le ((M1.setCells b1 5 [S.u 120]).upd b1 (.cells [S.u 120].toArray 5 (1,2))):=by
  intro c o hc;have hne:c≠b1:=fun e=>by simp_all
  unfold Mem.setCells;rw[Yg _ _ hne,Yg _ _ hne];exact hc
 have hs1:SrcOk ((M1.setCells b1 5 [S.u 120]).upd b1 (.cells [S.u 120].toArray 5 (1,2))) 1 (some ⟨b1,0,none⟩) 1 (([120]:List UInt8).map zc):=by unfold SrcOk;exact⟨rfl,.inr ⟨b1,0,rfl,Mem.row_obj (Yam _ _ _) oD⟩⟩
 obtain⟨M2,hM2⟩:=oI ((M1.setCells b1 5 [S.u 120]).upd b1 (.cells [S.u 120].toArray 5 (1,2)));rw[←hM2] at hle1 hs1;(conv=>whnf)
 erw [←hM2];have h2:=h1.upN hle1
 have hs2:SrcOk (newB B1 M1 M2) 1 (some ⟨b1,0,none⟩) 1 (([120]:List UInt8).map zc):=zc6 hs1 fun r hr=>by grind
 have hfit:=zh2 zJy;have hsub:=zsf (l:=[120]) (cc:=1) (zek h2 0 rfl) oM oM hfit.ra oD 1 hs2 oD
 have esub:(zch w00.a 1 [120]).2.2=0:=zJz;refine hsub.mono ?_;rintro v M3 ⟨rfl,h3⟩;obtain⟨B3,P3,hb3,hp3,h4⟩:=zoX h2 0 rfl h3;rw[esub];refine zR ?_;have p3N:=hp3.N
 have p3K:=hp3.K;have hr:=zkr (w:=w01) (P:=P3) (Q:=Q) (R:=[]) (n:=12) (by rw[Ys];exact h4) (zui zIF) oD oM oM oM oM
 rw[hp3.n] at hr;refine hr.mono ?_;rintro v M4 ⟨rfl,B4,P4,Q4,hb4,hp4,hq4,h5⟩;refine zR ?_;have hq:Q4.n=Q.n:=hq4.n
 have htd:=zEc (zek h5 1 rfl);rw[hq] at htd;refine htd.mono ?_;rintro v M5 ⟨B5,a5,c5,Q5,rfl,hb5,hel,hq5,h6⟩;have h7:=h5.call 1 rfl (zg9 h6)
 have hlen:(zeP 12 w01).b.told.length=1:=by
  have:=congrArg List.length zCR;simpa using this
 rw[hlen] at hel ⊢;obtain⟨q1',bt,ot,cs,rfl,hrows,hrow,hcs,pt,nt,kt,rfl,hpt,hnt⟩:=hel.at (i:=0) oD oD
 have hdat:((zeP 12 w01).b.told[0]'oM).data=[120]:=by
  have h:=zCR;have:((zeP 12 w01).b.told.map (fun m=>m.data))[0]? = some [120]:=by rw[h];rfl
  rw[Ybd,Yb oM] at this;simpa using this
 rw[hdat] at hpt;have hle5:B5.le M5:=h7.le
 refine zR ?_;refine on (Yc5 hle5 (hrows 4 1 oD)) ?_;refine zR ?_;refine zzc (hpt.le hle5) ?_;refine zR ?_;have hp4n:P4.n=P.n:=hp4.n.trans hp3.n
 have hN4:=hp4.N;have hst:=zko (zek h7 0 rfl) oM (Zd0 zKg)
 rw[hp4n] at hst;refine hst.mono ?_;rintro v M6 ⟨hle6,hS⟩;obtain⟨ua,uc,ha,hc,ms,ma,mc,mk,rfl,_,_,hms,_⟩:=hS.ex
 have hml:ms.length=0:=by
  have:=congrArg List.length hms;rw[Ya3] at this;rw[this];exact zIG
 have hle:M.le M6:=fun y o ho=>hle6 _ _ (h7.tn.keep y o (fun h=>h) ho)
 obtain rfl:ms=[]:=Yad hml;refine zR ?_;exact⟨rfl,hle⟩
end
section
variable {B0 M0 B M B' M':Mem} {S0:Nat→Prop} {R:List Pt} {ps:List Pt}
theorem zyN (x:Int):IntKind.i64.wrap x≤9223372036854775807:=by simp only[IntKind.wrap,IntKind.signed,IntKind.bits];simp;omega
def zIH (M:Mem) (cs:List Value) (x:List UInt8):Prop:=∃ a n c,cs=[.slice a n c]∧SrcOk M 1 a n (x.map zc)∧n≤1048576∧n≤c
theorem zEB {la:Option Addr} {n lc:Nat} {l:List (List UInt8)} (hl:Elems M 1 la n (zIH M) l) (hn:n≤1048576) (arm:Int) :
  CallsM prog 4 [.slice la n lc,.int .i64 arm] M fun v M'=>v = .bool true∧M.le M':=by
 obtain rfl:l.length=n:=hl.len;refine zo5 oS ?_;have h0:=Ydt M
 refine zR ?_;refine plain_ok.mono ?_;rintro v _ ⟨rfl,rfl⟩;refine zM (zz0 100000) ?_;rintro v M1 (⟨hbad,_⟩|⟨_,p,b,rfl,hd1⟩)
 ·omega
 have h1:=zmL h0 hd1;refine zM (zz0 100000) ?_;rintro v M2 (⟨hbad,_⟩|⟨_,p2,b2,rfl,hd2⟩)
 ·omega
 have h2:=zmL h1 hd2;refine zR ?_;refine h2.newRV (s:=1) (n:=1) rfl fun r1 M3 h3=>?_
 obtain⟨B3,hb3,hs3,h4⟩:=h3.cede 2 rfl;have hw1:=zh1 (c:=1) h4 0 rfl (D:=D00) (fun f hf=>by cases hf) setP 0 (nb:=[1]) hs3 oD (ld:=none) rfl (fun _ _=>rfl) (by rw[sn0];decide)
 refine zR ?_;refine hw1.mono ?_;rintro v M4 (⟨hbad,_⟩|⟨_,B4,P,rfl,hb4,hp1,hp2,hp3,h5⟩)
 ·exact absurd ne0 hbad
 refine zR ?_;refine h5.newRV (s:=1) (n:=1) rfl fun r2 M5 h6=>?_
 obtain⟨B6,hb6,hs6,h7⟩:=h6.cede 2 rfl;have hw2:=zh1 (c:=1) h7 1 rfl (D:=D00) (fun f hf=>by cases hf) setP 1 (nb:=[0]) hs6 oD (ld:=none) rfl (fun _ _=>rfl) (by rw[sn1];decide)
 refine zR ?_;refine hw2.mono ?_;rintro v M8 (⟨hbad,_⟩|⟨_,B8,Q,rfl,hb8,hq1,hq2,hq3,h9⟩)
 ·exact absurd ne1 hbad
 refine zR ?_;refine h9.newRV (s:=4) (n:=0) (E:=33) rfl fun r3 M9 h10=>?_
 refine zR ?_
 have har:∀ k:Int,k≤9223372036854775807→CallsM prog 17 [ptr p2,.int .i64 k] M9 fun v M'=>v = .int .i64 (zeI w00.b.C.D k).2∧∃ Q',Q'.n=Q.n∧Q'.p=p2∧Q'.N≤Q.N∧Q'.K≤Q.K∧At M M (fun _=>False) B8 M' [zbz P w00.a,zbz Q' (zAo w00.b k),zaW 33 4 (some ⟨r3,0,none⟩) 0 0 []]:=fun k hk=>by
  have hA:=zGJ (zek h10 1 rfl) hk;rw[hq1] at hA;refine hA.mono ?_;rintro v M' ⟨hv,Q',hs,hA2⟩;have hN:=hs.N
  exact⟨hv,Q',hs.n,hs.p.trans hq1,by omega,hs.K,h10.call 1 rfl (zg9 hA2)⟩
 refine(har _ (zyN _)).mono ?_;rintro v M10 ⟨rfl,Q1,e1,e2,e3,e4,h11⟩;obtain⟨ka,hka⟩:=oI (IntKind.i64.wrap ((IntKind.u64.wrap arm).tmod 60));rw[←hka] at h11;obtain⟨wb,hwb⟩:=oI (zAo w00.b ka);rw[←hwb] at h11
 have hrun0:Run ⟨[bootX],1,0⟩ [] ⟨w00.a,wb⟩ 0:=by
  have hi:InvD CB0.D:=(zoF zwU (P:=Pb) zwT).1.rc.inv;have hC:w00.b.C=CB0:=by show (zO (zd1 1 setP [0] CB0)).C=CB0;rw[(zo0 _).1];rfl
  have hpb:=zJx (D:=(zeI CB0.D ka).1) (zwb hi (by rw[hka];exact zyN _)) (zFA _ _).1 (zFA _ _).2;have e:wb={ w00.b with C:={ w00.b.C with D:=(zeI CB0.D ka).1 } }:=by rw[hwb];unfold zAo;rw[hC]
  refine .inl ⟨zJw,by simp_all,?_⟩;rw[e];show w00.b.C.w.failed=false
  rw[hC];exact(zoF zwU (P:=Pb) zwT).1.up.1
 refine zR ?_
 refine zan (σ:=Nat×Mem×Mem×NP×NP×W2×GA×List Int×Option Addr×Nat×List IdT) [15,14] (fun y=>[(15,.int .i64 (y.1:Nat)),(14,.slice y.2.2.2.2.2.2.2.2.1 y.2.2.2.2.2.2.2.2.2.2.length y.2.2.2.2.2.2.2.2.2.1)]) (fun _=>[.live 29 [.v (.int .i64 setP.qh),.v (.int .i64 setP.qb),.v (.int .i64 setP.qg),.v (.int .i64 setP.disk),.v (.int .i64 setP.seg),.v (.int .i64 setP.win),.v (.int .i64 setP.timer),.v (.int .i64 setP.tries),.v (.int .i64 setP.wait),.v (.int .i64 setP.delay)],.gone r1,.gone r2,.gone r3]) (fun y=>y.2.1)
  (fun|⟨i,Mc,Bc,Pc,Qc,w,g,cs,ia,ic,ids⟩=>(i≤12∧i≤l.length)∧At M M (fun _=>False) Bc Mc [zbz Pc w.a,zbz Qc w.b,zaW 33 4 ia ids.length ic (ids.flatMap zqW)]∧(Pc.n=P.n∧Pc.p=p∧Qc.n=Q.n∧Qc.p=p2)∧(Pc.N≤104857600300+76600000*i∧(Pc.K:Int)≤256+76600000*(i:Int)∧Qc.N≤104857600300+76600000*i∧(Qc.K:Int)≤256+76600000*(i:Int))∧Run g cs w (36*i)∧g.h≤i∧(∀ x∈ids,Ha g x)∧ids.length≤i) (fun y=>12 - y.1)
  ⟨0,M10,B8,P,Q1,⟨w00.a,wb⟩,⟨[bootX],1,0⟩,[],some ⟨r3,0,none⟩,0,[]⟩ ⟨⟨by omega,by omega⟩,h11,⟨rfl,hp1,e1,e2⟩,⟨by omega,by omega,by omega,by omega⟩,hrun0,Yd _,by simp,Yd _⟩ zS ?_
 rintro ⟨i,Mc,Bc,Pc,Qc,w,g,cs,ia,ic,ids⟩ ⟨⟨i1,i2⟩,hc,⟨n1,n2,n3,n4⟩,⟨k1,k2,k3,k4⟩,hr,hgh,hids,hil⟩;dsimp only at *;refine brn (fun g1=>?_) (fun g1=>?_);refine brn (fun g2=>?_) (fun g2=>?_);have hlt:i<l.length:=by have:=Zd0 g1;omega
 have h12:i<12:=by have:=Zd0 g2;omega
 obtain⟨q0,bx,ox,cx,ea,hrows,hrow,hcx,pa,pn,pc,rfl,hpa,hpn,hpc⟩:=hl.at (i:=i) oD hlt;obtain⟨x,hx⟩:=oI (l[i]);rw[←hx] at hpa;have hpl:=hpa.maplen
 subst hpl;have hMB:M.le Bc:=hc.tn.bb
 have hfit:=hr.fit oM;refine ob oM ?_;refine atp ea ?_;refine zR ?_;refine on (Yc5 (Yc hMB hc.le) hrow) ?_;refine zR ?_;have hsub:=zsf (l:=x) (cc:=pc) (zek hc 0 rfl) oM oM hfit.ra oD 1 (hpa.le hMB) hpn
 rw[n1] at hsub;refine hsub.mono ?_;rintro v M3 ⟨rfl,h3⟩;obtain⟨B3',P3,hb3',hp3',h4'⟩:=zoX hc 0 rfl h3;obtain⟨g',l1,l2,l3,l4⟩:=hr.give oM oM x;refine zR ?_;have esub:(zch w.a 1 x).2=((zch w.a 1 x).2.1,(zch w.a 1 x).2.2):=rfl
 obtain⟨id,hid⟩:=oI ((zch w.a 1 x).2.1);obtain⟨e0,he0⟩:=oI ((zch w.a 1 x).2.2);rw[←hid,←he0] at l3 ⊢;obtain⟨w1,hw1'⟩:∃ w1:W2,w1=⟨(zch w.a 1 x).1,w.b⟩:=⟨_,rfl⟩
 have hwa:(zch w.a 1 x).1=w1.a:=by rw[hw1']
 have hwb1:w.b=w1.b:=by rw[hw1']
 rw[←hw1'] at l4;rw[hwa,hwb1] at h4';obtain⟨hfits,g5,cs5,l5,l6⟩:=l4.run 2 oM;have hgh5:=l5.2
 have hp3N:=hp3'.N;have hp3K:=hp3'.K
 refine brn (fun g3=>?_) (fun g3=>?_)
 ·have hz:e0=0:=Zd0 g3;refine h4'.appV 2 rfl oM (by simp[maxLen];omega) oC fun a5 c5 M5 hc5 h5'=>?_
  have h6':At M M (fun _=>False) B3' M5 ([zbz P3 w1.a,zbz Qc w1.b]++[zaW 33 4 a5 (ids++[id]).length c5 ((ids++[id]).flatMap zqW)]):=h5'.c (by simp)
  have hid6:∀ y∈ids++[id],Ha g5 y:=fun y hy=>by
   rcases Yt.1 hy with hy|hy
   ·exact l5.1 _ (l1 _ (hids y hy))
   ·rw[Yx.1 hy];exact l5.1 _ (l3 hz)
  have hlen6:(ids++[id]).length≤i+1:=by rw[Yi,Yd9];omega
  have hidl:ids.length+1=(ids++[id]).length:=by rw[Yi];rfl
  rw[hidl];obtain⟨ids6,hids6⟩:=oI (ids++[id]);rw[←hids6] at h6' hid6 hlen6 ⊢;have hro:=zkr h6' (n:=3) hfits oD oM oM oM oM
  rw[hp3'.n,n1,n3] at hro;refine zR ?_;refine hro.mono ?_;rintro v M7 ⟨rfl,B7,P7,Q7,hb7,hp7,hq7,h7'⟩;have a1:=hp7.N
  have a2:=hp7.K;have a3:=hq7.N
  have a4:=hq7.K;have b1:P7.N≤104857600300+76600000*((i+1:Nat):Int):=by push_cast;omega
  have b2:(P7.K:Int)≤256+76600000*((i+1:Nat):Int):=by push_cast;omega
  have b3:Q7.N≤104857600300+76600000*((i+1:Nat):Int):=by push_cast;omega
  have b4:(Q7.K:Int)≤256+76600000*((i+1:Nat):Int):=by push_cast;omega
  have b5:g5.h≤i+1:=by omega
  refine zP ?_;exact⟨⟨i+1,M7,B7,P7,Q7,zeP 3 w1,g5,cs5,_,_,ids6⟩,⟨⟨by omega,by omega⟩,h7',⟨hp7.n.trans (hp3'.n.trans n1),hp7.p.trans (hp3'.p.trans n2),hq7.n.trans n3,hq7.p.trans n4⟩,⟨b1,b2,b3,b4⟩,l6,b5,hid6,hlen6⟩,by omega,zS⟩
 ·obtain⟨ids6,hids6⟩:=oI ids;have h6':At M M (fun _=>False) B3' M3 ([zbz P3 w1.a,zbz Qc w1.b]++[zaW 33 4 ia ids6.length ic (ids6.flatMap zqW)]):=by rw[hids6];exact h4'
  have hid6:∀ y∈ids6,Ha g5 y:=fun y hy=>l5.1 _ (l1 _ (hids y (hids6▸hy)))
  have hlen6:ids6.length≤i+1:=by rw[hids6];omega
  rw[←hids6];have hro:=zkr h6' (n:=3) hfits oD oM oM oM oM
  rw[hp3'.n,n1,n3] at hro;refine zR ?_;refine hro.mono ?_;rintro v M7 ⟨rfl,B7,P7,Q7,hb7,hp7,hq7,h7'⟩;have a1:=hp7.N
  have a2:=hp7.K;have a3:=hq7.N
  have a4:=hq7.K;have b1:P7.N≤104857600300+76600000*((i+1:Nat):Int):=by push_cast;omega
  have b2:(P7.K:Int)≤256+76600000*((i+1:Nat):Int):=by push_cast;omega
  have b3:Q7.N≤104857600300+76600000*((i+1:Nat):Int):=by push_cast;omega
  have b4:(Q7.K:Int)≤256+76600000*((i+1:Nat):Int):=by push_cast;omega
  have b5:g5.h≤i+1:=by omega
  refine zP ?_;exact⟨⟨i+1,M7,B7,P7,Q7,zeP 3 w1,g5,cs5,_,_,ids6⟩,⟨⟨by omega,by omega⟩,h7',⟨hp7.n.trans (hp3'.n.trans n1),hp7.p.trans (hp3'.p.trans n2),hq7.n.trans n3,hq7.p.trans n4⟩,⟨b1,b2,b3,b4⟩,l6,b5,hid6,hlen6⟩,by omega,zS⟩
 all_goals
  clear g1;obtain⟨hfits,g6,cs6,l7,l8⟩:=(hr.first oM).run 3 oM;have hro:=zkr (R:=[zaW 33 4 ia ids.length ic (ids.flatMap zqW)]) (w:=w) hc (n:=4) hfits oD oM oM oM oM
  rw[n1,n3] at hro;refine hro.mono ?_;rintro v M4' ⟨rfl,B4',P4,Q4,hb4',hp4,hq4,h4'⟩;obtain⟨haC,hbC⟩:=l8.na;obtain⟨w4,hw4⟩:=oI (zeP 4 w);rw[←hw4] at haC hbC h4';obtain⟨h5',nmb⟩:=zt7 h4' 1 rfl;obtain⟨h6',nma⟩:=zt7 h5' 0 rfl;rw[hp4.p.trans n2,hq4.p.trans n4] at h6';obtain⟨ld0,m0,m1,m2,m3,m4⟩:=haC.found;obtain⟨ld1,o0,o1,o2,o3,o4⟩:=hbC.found
  have hcr:∀ {i:Nat} {pd bd:Nat} {es:FsT} {D:ze} {ps:List Pt} {B M':Mem},At M M (fun _=>False) B M' ps→ps[i]? = some (zfE pd bd es D)→CallsM prog 18 [ptr pd,.slice none 0 0] M' fun v M2=>∃ es',v = .int .i64 0∧At M M (fun _=>False) B M2 (rpl ps i [zfE pd bd es' (zaR D [])])∧InvD D:=fun {i pd bd es D ps B M'} h hi=>by
   have h0:FreshD B M' pd bd D es:=h.part i hi;refine(zGq h0.base.1 (ka:=none) (kn:=0) (keep:=[]) (by unfold SrcOk;exact⟨rfl,.inl rfl⟩) oD).mono ?_;rintro v M2 ⟨es',rfl,h1⟩;exact⟨es',rfl,zt5 h i hi h1,h0.inv⟩
  have hnmC:∀ {D:ze},NamesC D→InvD D→NamesC (zaR D []):=fun {D} h hi=>h.less ((CutD.crash hi []).nm hi)
  refine(hcr h6' (i:=1) rfl).mono ?_;rintro v M5' ⟨es5,rfl,h7',hib⟩;refine zM (hcr h7' (i:=0) rfl) ?_;rintro v M6' ⟨es6,rfl,h8',hia⟩;refine zR ?_;refine h8'.newRV (s:=1) (n:=1) rfl fun r4 M7' h9'=>?_
  obtain⟨B7',hb7',hs7',h10'⟩:=h9'.cede 3 rfl;have hw3:=zh1 (c:=1) h10' 0 rfl (D:=zaR w4.a.C.D []) (hnmC nma hia) setP 0 (nb:=[1]) hs7' oD (ld:=ld0) m0 (fun _ _=>m1) (Yn m3 oD)
  refine zR ?_;refine hw3.mono ?_;have ne3:zfd (zaR w4.a.C.D []) 0 [1] setP ld0=0:=by unfold zfd;rw[if_neg oD,if_neg oD];exact m2
  rintro v M8' (⟨hbad,_⟩|⟨_,B8',P8,rfl,hb8',hp8,hp8N,hp8K,h11'⟩)
  ·omega
  refine zR ?_;refine h11'.newRV (s:=1) (n:=1) rfl fun r5 M9' h12'=>?_
  obtain⟨B9',hb9',hs9',h13'⟩:=h12'.cede 3 rfl;have hw4':=zh1 (c:=1) h13' 1 rfl (D:=zaR w4.b.C.D []) (hnmC nmb hib) setP 1 (nb:=[0]) hs9' oD (ld:=ld1) o0 (fun _ _=>o1) (Yn o3 oD)
  refine zR ?_;refine hw4'.mono ?_;have ne4:zfd (zaR w4.b.C.D []) 1 [0] setP ld1=0:=by unfold zfd;rw[if_neg oD,if_neg oD];exact o2
  rintro v M10' (⟨hbad,_⟩|⟨_,B10',Q8,rfl,hb10',hq8,hq8N,hq8K,h14'⟩)
  ·omega
  obtain⟨X8,hX8⟩:=oI (zO (zd1 0 setP [1] (zaL (zaR w4.a.C.D []) 0 setP.qh setP.qb setP.qg setP.seg ld0).1));obtain⟨Y8,hY8⟩:=oI (zO (zd1 1 setP [0] (zaL (zaR w4.b.C.D []) 1 setP.qh setP.qb setP.qg setP.seg ld1).1));have hXC:X8.C.X=(zaL (zaR w4.a.C.D []) 0 50 2000 50 200 ld0).1.X:=by rw[hX8,(zo0 _).1];rfl
  have hYC:Y8.C.X=(zaL (zaR w4.b.C.D []) 1 50 2000 50 200 ld1).1.X:=by rw[hY8,(zo0 _).1];rfl
  rw[←hXC] at m3 m4;rw[←hYC] at o3 o4;have h14':At M M (fun _=>False) B10' M10' [zbz P8 X8,zbz Q8 Y8,zaW 33 4 ia ids.length ic (ids.flatMap zqW)]:=by rw[hX8,hY8];exact h14'
  refine zR ?_;have hrow:SrcOk M10' 4 ia ids.length (ids.flatMap zqW):=(h14'.row 2 rfl).src
  have hMle:M.le M10':=fun y o ho=>h14'.tn.keep y o (fun h=>h) ho
  refine zan (σ:=Nat×Mem) [22] (fun y=>[(22,.int .i64 (y.1:Nat))]) (fun _=>[.live 29 [.v (.int .i64 setP.qh),.v (.int .i64 setP.qb),.v (.int .i64 setP.qg),.v (.int .i64 setP.disk),.v (.int .i64 setP.seg),.v (.int .i64 setP.win),.v (.int .i64 setP.timer),.v (.int .i64 setP.tries),.v (.int .i64 setP.wait),.v (.int .i64 setP.delay)],.gone r1,.gone r2,.gone r3,.gone r4,.gone r5]) (fun y=>y.2)
   (fun y=>y.1≤ids.length∧M10'.le y.2) (fun y=>ids.length - y.1) ⟨0,M10'⟩ ⟨Y6 _,Ya _⟩ zS ?_
  rintro ⟨j,Mc'⟩ ⟨hj,hle'⟩;dsimp only at hj hle';refine brn (fun g3=>?_) (fun g3=>?_)
  ·have hlt:j<ids.length:=by have:=Zd0 g3;dsimp only at this;omega
   have hx:ids[j]? = some ids[j]:=Yb hlt;obtain⟨bi,oi,ei,hri⟩:=(hrow.le hle').fall (enc:=zqW) (fun _=>rfl) oD hx;have hin:ids[j]∈ids:=Yab _
   generalize ids[j]=x at *;have h15:=h14'.up hle'
   have hst:=zko (zek h15 0 rfl) oM (Yn m3 oD);have hst2:=zko (zek h15 1 rfl) oM (Yn o3 oD)
   refine⟨Mc',Ya _,?_⟩;refine ob oM ?_;refine atp ei ?_;refine zR ?_;refine on hri ?_;refine zR ?_;refine hst.mono ?_;rintro v M11 ⟨hle11,hS⟩;obtain⟨ua,uc,ha,hc',ms,ma,mc,mk,rfl,hSt,hBig,hms,hmk, -, -, -⟩:=hS.ex;refine zT (hle11) ?_;refine zJ (zzS hSt.held (by have:=hSt.short;omega) x) ?_;refine zT (hle11) ?_;refine brn (fun g4=>?_) (fun g4=>?_)
   ·refine ob (by omega) ?_;refine atp ei ?_;refine zR ?_;refine on hri ?_;have hst3:=zko (zek (h15.up hle11) 1 rfl) oM (Yn o3 oD)
    refine zR ?_;refine hst3.mono ?_;rintro v M12 ⟨hle12,hS2⟩;obtain⟨ua2,uc2,ha2,hc2,ms2,ma2,mc2,mk2,rfl,hSt2,hBig2,hms2,hmk2, -, -, hMA2⟩:=hS2.ex
    have hdl:zfV mk2 x=true:=by
     have hno:zcD (ms.map MX.msg) x=false:=by simpa using g4
     refine zIr ?_;rw[hmk2];rcases m4 x ((l7.1) x (hids x hin)) with h|h
     ·exact o4 x h
     ·grind
    refine zT (Yc hle11 hle12) ?_;refine zR ?_;refine(zwD hSt2.seen (by grind) hSt2.few x).mono ?_;rintro v M13 ⟨rfl,hle13⟩;rw[hdl];refine zT (Yc hle11 (Yc hle12 hle13)) ?_;refine zR ?_;refine obr (inR_i64 (by omega)) ?_;exact⟨⟨j+1,M13⟩,⟨hlt,Yc hle' (Yc hle11 (Yc hle12 hle13))⟩,by omega,zS⟩
   ·refine zR ?_;refine obr (inR_i64 (by omega)) ?_;exact⟨⟨j+1,M11⟩,⟨hlt,Yc hle' hle11⟩,by omega,zS⟩
  ·refine zR ?_;refine awake21_ok.mono ?_;rintro v Me ⟨rfl,hle9⟩;refine zR ?_;exact⟨rfl,Yc hMle (Yc hle' hle9)⟩
end
end Go.Proofs.YtlgbofpennelhaaGreat
namespace Go.Proofs.YtlgbofpennelhaaGreat
open Go Go.Vm
attribute [local irreducible] Brn Ob Grow CallsM inR zX zI Mem.row Mem.cells Mem.setCells Mem.upd Go.Vm.Own zac zar zas zab New SrcOk subA NewSl Mem.textAt Mem.mapAt Mem.iterAt zH zF Wr NewEls Elems
set_option maxRecDepth 10000
open Br
theorem zII:Reads 3 1 fun (_:Mem) cs (n:Int)=>cs=[.int .i64 n]∧zrL .i64 n:=Reads.int (by kernel_rfl)
theorem zGT:Reads 5 1 fun (_:Mem) cs (n:Int)=>cs=[.int .u8 n]∧zrL .u8 n:=Reads.int (by kernel_rfl)
theorem zCS {α:Type} {M:Mem} {a:Option Addr} {n:Nat} {R:List Value→α→Prop} {l:List α} {β:Type} (f:β→Value) (h:Elems M 1 a n R l) (hR:∀ cs x,R cs x→∃ y,cs=[f y]):∃ l':List β,SrcOk M 1 a n (l'.map f):=by
 unfold Elems at h;obtain⟨css,h1,h2,h3,h4,h5⟩:=h
 have:∃ l':List β,css.flatten=l'.map f:=by
  clear h1 h4
  induction css generalizing l n with
  | nil=>simp
  | cons cs r ih=>
   match l,h3 with
   | [],h3=>grind
   | x::l,h3=>
    obtain⟨y,hy⟩:=hR cs x (h5 0 cs x rfl rfl);obtain⟨l',hl'⟩:=ih (n:=n - 1) (l:=l) (by grind) (by grind) (fun i c z hi hz=>h5 (i+1) c z (by simp_all) (by simp_all));exact⟨y::l',by simp_all⟩
 obtain⟨l',e⟩:=this;exact⟨l',e▸h1⟩
theorem zGU {n:Int} (h:zrL .u8 n):Value.int .u8 n=zc (UInt8.ofNat n.toNat):=by
 have:=bounds_u8 h;simp only[zc];congr 1;simp;omega
theorem zEC:Reads 37 1 fun M cs (l:List UInt8)=>∃ a n c,cs=[.slice a n c]∧SrcOk M 1 a n (l.map zc)∧n≤1048576∧n≤c:=fun H enc W fuel cs d ps h hb=>by
 obtain⟨h1,l,a,n,c,h2,h3,h4⟩:=Reads.slice (t:=37) (e:=5) (by kernel_rfl) (by kernel_rfl) oD zGT H enc W fuel cs d ps h hb;obtain⟨l',h5⟩:=zCS zc h3 (fun cs x hx=>⟨_,hx.1.trans (by rw[zGU hx.2])⟩);exact⟨h1,l',a,n,c,h2,h5,h4⟩
theorem zGV:Reads 22 1 fun M cs (l:List (List UInt8))=>∃ a n c,cs=[.slice a n c]∧Elems M 1 a n (zIH M) l∧n≤1048576∧n≤c:=fun H enc W fuel cs d ps h hb=>
 Reads.slice (t:=22) (e:=37) (by kernel_rfl) (by kernel_rfl) oD zEC H enc W fuel cs d ps h hb
end Go.Proofs.YtlgbofpennelhaaGreat
namespace Go.Proofs.YtlgbofpennelhaaGreat.nodeSafe
open Go.ChangeShapes Go.WideShapes Go.ChangeAt Go.RowKit Go.Vm Go.Proofs.YtlgbofpennelhaaGreat.Br
set_option linter.unusedVariables false
set_option maxRecDepth 100000
theorem contract (H:Type) (enc:TypeId×Value→H) (W:World) (base:Nat) (args:Array Value) (ds gs:List (DataW H)) (before:List MemPlace)
  (hval:∀ (j:Nat) t v,Tryz.f4.params[j]? = some t→args[j]? = some v→Value.okWide Tryz.prog W .any base t v)
  (hW:DataW.Whole enc Tryz.prog Tryz.f4.params.toList Rows.nodeSafeSpec.vars false W args.toList ds gs before) (hk:Rows.uptoSmall H (ds++gs)=true) :
  Calls Tryz.prog 4 args W fun e W'=>∃ v,e = .returned v∧Rows.nodeSafeSpec.post enc Tryz.prog Tryz.f4 false true false false W args v W':=by
 refine zIV (s:=Rows.nodeSafeSpec) (fn:=Tryz.f4) (fun H ds h=>by match ds,h with|[d0,d1],_=>exact⟨rfl,rfl,rfl⟩) rfl rfl (by kernel_rfl) H enc W args ds gs before hW ?_;obtain⟨p,q,hA,hV, -, -, -⟩:=hW;obtain⟨rfl,rfl⟩:=trodVars_none hV;have hb:=zIW hk
 rw[Tryz.params4] at hA hval;obtain⟨v0,vs0,d0,ds0,p0,q0,hargs0,rfl,rfl,⟨n0,h0⟩,r0⟩:=trodAll_cons hA;obtain⟨v1,vs1,d1,ds1,p1,q1,hargs1,rfl,rfl,⟨n1,h1⟩,r1⟩:=trodAll_cons r0;obtain⟨rfl,rfl,rfl⟩:=trodAll_nil r1;subst hargs1;obtain rfl:args = #[v0,v1]:=by cases args;simp_all
 obtain⟨-, L,la,ln,lc,hcs,hl,hln,hlc⟩:=zGV H enc W _ _ _ _ h0 (hb _ oS);have hv0:=hval 0 _ v0 rfl rfl
 obtain rfl:=zvE Tryz.underlying22 rfl hv0 hcs;obtain⟨-, arm,hg,hgk⟩:=zII H enc W _ _ _ _ h1 (hb _ oS);have hv1:=hval 1 _ v1 rfl rfl
 obtain rfl:=zvE (t:=3) (d := .int .i64) (by kernel_rfl) rfl hv1 hg;exact zEB hl hln arm
set_option maxRecDepth 100000 in
theorem lifted (os:Os) (started:os.Started) (H:Type) (enc:TypeId×Value→H) (F:Stop.Interp) :
  ReturnsInHanded {} Tryz.checked os 4 .any ((Rows.OpenSpec.upto Rows.nodeSafeSpec).pre6 enc Tryz.prog Tryz.f4 Rows.nodeSafeUptoRow.domain false) (((Rows.OpenSpec.upto Rows.nodeSafeSpec).at F).post enc Tryz.prog Tryz.f4 false true false false):=by
 refine returnsInHanded_of_cond (C:=Tryz.checked) (s:=Rows.OpenSpec.upto Rows.nodeSafeSpec) (k:=Rows.uptoSmall) rfl own started (by kernel_rfl) Tryz.func4
  (OpenSpec.witness (enc:=enc) (C:=Tryz.checked) (s:=Rows.OpenSpec.upto Rows.nodeSafeSpec) (k:=Rows.uptoSmall) rfl false ⟨#[], #[.slice none 0 0,.int .i64 0],[]⟩ 12 (by kernel_rfl) (by kernel_rfl) (by kernel_rfl)
   (x:=([.nil,.lit (.int .i64 0)],[],[])) (by kernel_rfl) rfl (by kernel_rfl)) ?_
 intro W base args ds gs before hval hW _ hk _;exact contract H enc W base args ds gs before hval hW hk
noncomputable abbrev Q:Program:=Tryz.pinned.checked.prog
abbrev C:OpenClaim:=Rows.nodeSafeUptoRow
theorem k2:laidOutB Q=true:=by kernel_rfl
theorem k3:mapsRowed Q=true:=by kernel_rfl
theorem k10:(C.inPlace == Q.inPlace 4)=true:=by kernel_rfl
theorem k11:(C.unfollowed == Q.unfollowed 4)=true:=by kernel_rfl
theorem k12:(C.recurses == Q.recurses 4)=true:=by kernel_rfl
theorem k13:(C.named == Q.varsNamed 4)=true:=by kernel_rfl
theorem k22:(C.plainKeys == Q.plainKeys)=true:=by kernel_rfl
theorem zKh:Q.stopsHeard=true:=by kernel_rfl
theorem k24:Q.mayEnter=true:=by kernel_rfl
theorem zKi:(C.lifted == Q.liftsFinal)=true:=by kernel_rfl
theorem zKj:(Q.make == some C.make)=true:=by kernel_rfl
theorem zIJ:joinedFacts Q 4 Tryz.f4 (Rows.OpenSpec.upto Rows.nodeSafeSpec).bare C=true:=by
 simp only[joinedFacts,Yu];exact⟨⟨⟨⟨⟨⟨⟨⟨⟨⟨⟨⟨⟨⟨⟨⟨⟨⟨⟨⟨⟨⟨⟨⟨⟨⟨⟨⟨⟨⟨⟨(by kernel_rfl),k2⟩,k3⟩,(by kernel_rfl)⟩,(by kernel_rfl)⟩,(by kernel_rfl)⟩,(by kernel_rfl)⟩,(by kernel_rfl)⟩,(by kernel_rfl)⟩,k10⟩,k11⟩,k12⟩,k13⟩,(by kernel_rfl)⟩,(by kernel_rfl)⟩,(by kernel_rfl)⟩,(by kernel_rfl)⟩,(by kernel_rfl)⟩,(by kernel_rfl)⟩,(by kernel_rfl)⟩,(by kernel_rfl)⟩,(by kernel_rfl)⟩,k22⟩,(by kernel_rfl)⟩,zKh⟩,k24⟩,zKi⟩,zKj⟩,(by kernel_rfl)⟩,(by kernel_rfl)⟩,(by kernel_rfl)⟩,(by kernel_rfl)⟩
theorem over:Rows.nodeSafeUptoRow.holds Tryz.pinned (Rows.OpenSpec.upto Rows.nodeSafeSpec):=
 OpenClaim.holds_of_cond 4 Tryz.f4 rfl rfl rfl rfl rfl rfl rfl ⟨rfl,rfl,rfl,rfl,rfl⟩ rfl rfl rfl rfl rfl (by kernel_rfl) Tryz.func4 zIJ
  (Zd0 (by kernel_rfl)) (by unfold Func.isWrapper;first|(rw[if_pos (by decide +kernel)];kernel_rfl)|(rw[if_neg (by decide +kernel)];exact⟨rfl,rfl⟩))
  (fun os started H enc _ F=>lifted os started H enc F)
theorem proved:Rows.NodeSafeUptoSaid:=
 over
end Go.Proofs.YtlgbofpennelhaaGreat.nodeSafe
