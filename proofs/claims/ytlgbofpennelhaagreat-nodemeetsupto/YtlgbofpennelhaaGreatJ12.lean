/- Part. -/
import Derived.Test.YtlgbofpennelhaaGreatJ11
import Derived.Test.YtlgbofpennelhaaGreatJ9
import Derived.Shelf.SlSortCmp.NoneTotal
import Derived.Shelf.Spec.SlicesInsertGrow
import Derived.Shelf.Slices.SearchI
set_option linter.all false
set_option maxHeartbeats 0
namespace Go.Proofs.YtlgbofpennelhaaGreat
open Go Go.Vm Go.Proofs.Tryz
attribute [local irreducible] Brn Ob Grow CallsM inR zI zF Mem.row Mem.cells Mem.setCells Mem.upd Go.Vm.Own zZ zaj zam zO New SrcOk subA NewSl Mem.textAt Mem.mapAt Mem.iterAt zC zB Wr NewEls Elems zc9 zeK zfF zef zeg
set_option maxRecDepth 10000
section
variable {B0 M0 B M:Mem} {S0:Nat→Prop}
theorem zDU {κ:Type} [DecidableEq κ] {kv:κ→Value} {b:Nat} {m:List (κ×Int)} (h:MapAt kv zi M b m) (hk:zeE kv) (key:κ) {k:SV→Prop} (hK:k (.int .i64 ((ze m key).getD 0))) :
  onO (M.mapAt b) fun p=>onO (zB (kv key) p.1.toList 0) fun f=>zsy false (.int .i64 0) f k:=
 h.get hk key (fun g=>by rw[g] at hK;exact hK) (fun x i g=>by rw[g] at hK;exact hK)
theorem ztV:∀ (l:List Int) (a:List (Int×Int)) (out:List Int),(zgK l a out).2.length≤out.length+l.length
 | [],a,out=>Yd _
 | n::r,a,out=>by
  refine Yz (ztV r _ _) ?_;split<;>simp<;>omega
section
variable {r mk ma:Nat} {X:zh7}
theorem zB1 {X:zh7} {ns:Int} {l:List UInt8} (e:zeP X ns l=0):(0≤ns∧ns<128)∧(0<l.length∧l.length≤121)∧ze X.kept ns=none:=by
 unfold zeP at e;rw[zep] at e;split at e
 ·cases e
 ·split at e
  ·cases e
  ·split at e
   ·cases e
   ·split at e
    ·split at e
     ·cases e
     ·rename_i _ h;exact⟨by omega,by omega,by simp_all⟩
    ·cases e
theorem zz7 (h0:(rcvP r mk ma X).ok B M) (ns:Int) {q:Option Addr} {c:Nat} {l:List UInt8} (hl:Row B q l) (hc:l.length≤c):CallsM prog 340 [ptr r,.int .i64 ns,.slice q l.length c] M fun v M'=>
  ∃ B' qt ct vs qa ca,v = .tuple #[.slice qt (zaG X ns l).told.length ct,.slice qa (zaG X ns l).asks.length ca,.int .i64 (zaG X ns l).e]∧B.le B'∧SrcOk B' 1 qt (zaG X ns l).told.length vs∧Brows B' vs (zaG X ns l).told∧SrcOk B' 1 qa (zaG X ns l).asks.length ((zaG X ns l).asks.map zi)∧At B M (zlb r mk ma) B' M' [rcvP r mk ma (zaG X ns l).X]:=by
 obtain⟨mv,h,hk,hI⟩:=rcvP.opn h0;have hfew:=zs1 h hk hI
 refine zlC oS ?_;refine zJ (zxO h hk ns l) ?_;refine brn (fun g=>?_) (fun g=>?_)
 ·have e:zeP X ns l≠0:=by simpa using g
  refine zR ?_;unfold zaG;rw[if_pos e];exact⟨B,none,0,[],none,0,rfl,Ya _,Ybh _ _,Ydr,Ybh _ _,rcvP.cls h hk hI⟩
 have e:zeP X ns l=0:=by simpa using g
 obtain⟨hns,hl1,hno⟩:=zB1 e;have hl121:l.length≤121:=hl1.2
 refine zA (h) ?_;have f0:=Yd0 M
 refine f0.newRV (s:=1) (n:=0) rfl fun e0 M1 f1=>?_
 refine zR ?_;refine zb2 ((hl.le h.le).le f1.le) ?_;refine f1.appV 0 rfl oM (by simp[maxLen];omega) (zaA l) fun a2 c2 M2 hc2 f2=>?_
 refine zT (f2.le) ?_;refine zR ?_;obtain⟨B1,hb1,hrow,h3⟩:=(h.newR (f2.row 0 rfl)).cede 3 rfl;rw[Yaa,Yap] at hrow
 have hno':ze mv ns=none:=by
  rcases hk.get ns with ⟨h1,_⟩|⟨_,_,_,_,h2,_⟩
  ·exact h1
  ·simp_all
 refine h3.putV 1 rfl zfp ns (.slice a2 (0+l.length) c2) fun M3 h4=>?_
 have hk1:=(hk.le hb1).snoc (k:=ns) (c:=c2) oM hrow;rw[zjT hno',Yap] at h4;have h5:=h4.row0 37 1
 obtain⟨X1,hX1⟩:∃ X1:zh7,X1={ X with kept:=zt X.kept ns l }:=⟨_,rfl⟩
 have hX1k:X1.kept=X.kept++[(ns,l)]:=by rw[hX1];exact zjT hno l
 have hkl:X.kept.length=mv.length:=by have:=congrArg List.length hk.keys;simpa using this.symm
 have hI1:zmq X1:=by
  rw[hX1];refine⟨hI.size,hI.waits,fun q hq=>?_⟩;rw[zjT hno] at hq;rcases Yy.1 hq with hq|hq
  ·exact hI.keys q hq
  ·simp_all
 obtain⟨G,hG⟩:=oI (zd1 (X.kept.length+1) X1 []);have hT:zaG X ns l=⟨{ G.1 with asked:=(zgK (zdd G.1) G.1.asked []).1 },G.2,(zgK (zdd G.1) G.1.asked []).2,0⟩:=by unfold zaG;rw[if_neg (by simp[e]),hG,hX1]
 refine zak (σ:=Nat×Mem×Mem×zh7×List (Int×Value)×Option Addr×Nat×List Value×List (List UInt8)) [10] (fun x=>[(10,.slice x.2.2.2.2.2.1 x.2.2.2.2.2.2.2.1.length x.2.2.2.2.2.2.1)]) (fun _=>[.gone e0]) (fun x=>x.2.1)
  (fun|⟨n,Mx,Bx,Y,my,qt,ct,ts,tl⟩=>At B M (zlb r mk ma) Bx Mx (zgc r mk ma Y my++[zaB 37 1 qt ts.length ct ts])∧B.le Bx∧KRel Bx my Y.kept∧Brows Bx ts tl∧zmq Y∧zd1 n Y tl=G∧Y.kept.length≤n∧n+tl.length≤200) (fun x=>x.1)
  ⟨X.kept.length+1,M3,B1,X1,mv++[(ns,.slice a2 l.length c2)],none,0,[],[]⟩ ⟨h5.c (by simp_all),hb1,by simp_all,Ydr,hI1,hG.symm,by simp_all,by simp;omega⟩ zS ?_
 rintro ⟨n,Mx,Bx,Y,my,qt,ct,ts,tl⟩ ⟨h6,hb6,hk6,hR6,hI6,hG6,hn6,hm6⟩;have hts:=hR6.1
 refine zA (h6) ?_;refine(h6.part 1 rfl).1.get zfp Y.waits (fun g=>?_) (fun x j g=>?_)
 ·have e1:ze Y.kept Y.waits=none:=by
   rcases hk6.get Y.waits with ⟨_,h2⟩|⟨_,_,_,h1,_⟩
   ·exact h2
   ·simp_all
  have hGY:G=(Y,tl):=by
   rw[←hG6];cases n with
   | zero=>rfl
   | succ n=>unfold zd1;rw[e1]
  obtain⟨B2,hb2,hts2,h7⟩:=h6.cede 3 rfl;rw[hGY] at hT;dsimp only at hT;have hR2:=hR6.le hb2
  rw[hT];dsimp only;refine zM (zuO h7 (hk6.le hb2) hI6) ?_;rintro v M8 ⟨a8,c8,rfl,h8⟩;obtain⟨L,hL⟩:=oI (zdd Y)
  have hLl:L.length≤128:=by
   rw[hL];unfold zdd;split
   ·simp
   ·exact ztT _ _ _
  rw[←hL] at h8 ⊢;have h9:=h8.row0 3 1
  refine zR ?_
  refine zak (σ:=Nat×Mem×List (Int×Int)×List Int×Option Addr×Nat) [13,76] (fun x=>[(76,.int .i64 x.1),(13,.slice x.2.2.2.2.1 x.2.2.2.1.length x.2.2.2.2.2)]) (fun _=>[.gone e0]) (fun x=>x.2.1)
   (fun|⟨i,Mx,ak,out,a5,c5⟩=>At B M (zlb r mk ma) B2 Mx (zgc r mk ma { Y with asked:=ak } my++[zaB 3 1 a8 L.length c8 (L.map zi),zaB 3 1 a5 out.length c5 (out.map zi)])∧i≤L.length∧out.length≤i∧zgK (L.drop i) ak out=zgK L Y.asked []) (fun x=>L.length - x.1)
   ⟨0,M8,Y.asked,[],none,0⟩ ⟨h9,Y5 _,Y5 _,rfl⟩ zS ?_
  rintro ⟨i,Mx,ak,out,a5,c5⟩ ⟨h10,hi,ho,hA⟩;refine brn (fun g=>?_) (fun g=>?_)
  ·have hlt:i<L.length:=by have:=Zd0 g;dsimp only at this;omega
   obtain⟨hil,b,o,hab,hrow⟩:=(h10.row 3 rfl).src.at hlt;refine ob (by omega) ?_;refine atp hab ?_;refine on hrow ?_;refine zA (h10) ?_;refine zDU (h10.part 2 rfl).1 zfp _ ?_;refine brn (fun g2=>?_) (fun g2=>?_)
   ·have g3:(ze ak L[i]).getD 0=0:=Zd0 g2;refine zR ?_;refine h10.appV 4 rfl (by grind) (by simp[maxLen];omega) (by simp[Value.oneCell',zi]) fun a6 c6 M6 hc6 h11=>?_
    have e9:(if (ze ak L[i]).getD 0=0 then out++[L[i]] else out)=out++[L[i]]:=if_pos g3;refine zA (h11) ?_;refine zDU (h11.part 2 rfl).1 zfp _ ?_;refine zR ?_;refine obw ?_;refine h11.putV 2 rfl zfp _ (inc ((ze ak L[i]).getD 0)) fun M12 h12=>?_
    refine zR ?_;refine obr (inR_i64 (by omega)) ?_;refine⟨⟨i+1,M12,zt ak L[i] (inc ((ze ak L[i]).getD 0)),(out++[L[i]]),a6,c6⟩,⟨h12.c oS,hlt,by simp_all,?_⟩,by omega,?_⟩
    ·rw[←hA,Y2 hil,zgK,e9]
    ·try simp only[Yi,Ym,Yar]
     exact zS
   ·have g3:¬(ze ak L[i]).getD 0=0:=Zd1 g2;have e9:(if (ze ak L[i]).getD 0=0 then out++[L[i]] else out)=out:=if_neg g3
    refine zA (h10) ?_;refine zDU (h10.part 2 rfl).1 zfp _ ?_;refine zR ?_;refine obw ?_;refine h10.putV 2 rfl zfp _ (inc ((ze ak L[i]).getD 0)) fun M12 h12=>?_
    refine zR ?_;refine obr (inR_i64 (by omega)) ?_;refine⟨⟨i+1,M12,zt ak L[i] (inc ((ze ak L[i]).getD 0)),out,a5,c5⟩,⟨h12.c oS,hlt,by omega,?_⟩,by omega,?_⟩
    ·rw[←hA,Y2 hil,zgK,e9]
    ·try simp only[Yi,Ym,Yar]
     exact zS
  ·have hge:i=L.length:=by have:=Zd1 g;dsimp only at this;omega
   subst hge;rw[Yaf (Yd _)] at hA;obtain⟨B3,hb3,hrow3,h12⟩:=(h10.drop 3 rfl).cede 3 rfl;refine zR ?_;have ha1:ak=(zgK L Y.asked []).1:=by rw[←hA];rfl
   have ha2:out=(zgK L Y.asked []).2:=by rw[←hA];rfl
   refine⟨B3,qt,ct,ts,a5,c5,?_,Yc hb6 (Yc hb2 hb3),hts▸hts2.le hb3,hR2.le hb3,?_,?_⟩
   ·rw[←ha2,←hts]
   ·rw[←ha2];exact hrow3
   ·rw[←ha1];exact rcvP.cls h12 ((hk6.le hb2).le hb3) ⟨hI6.size,hI6.waits,hI6.keys⟩
 ·obtain⟨q1,c1,l1,rfl,e1,hc1,hr1⟩:∃ q1 c1 l1,x = .slice q1 (List.length l1) c1∧ze Y.kept Y.waits=some l1∧List.length l1≤c1∧Row Bx q1 l1:=by
   rcases hk6.get Y.waits with ⟨h1,_⟩|⟨q1,c1,l1,h1,h2,h3⟩
   ·simp_all
   ·grind
  have hd1:=zDO e1;obtain⟨m,rfl⟩:∃ m,n=m+1:=⟨n - 1,by omega⟩
  have hG7:zd1 m { Y with kept:=zaO Y.kept Y.waits,asked:=zaO Y.asked Y.waits,waits:=(Y.waits+1) % 128 } (tl++[l1])=G:=by rw[←hG6,zd1,e1]
  refine zR ?_;refine h6.appV 3 rfl (by grind) (by simp[maxLen];omega) oC fun a4 c4 M4 hc4 h7=>?_
  refine zA (h7) ?_;refine h7.delV 1 rfl zfp Y.waits fun M5 h8=>?_
  refine zA (h8) ?_;refine h8.delV 2 rfl zfp Y.waits fun M6 h9=>?_
  refine zA (h9) ?_;refine zN (zDP Y.waits M6) ?_;refine h9.stoV 0 rfl oS fun M7 h10=>?_
  refine⟨⟨m,M7,Bx,{ Y with kept:=zaO Y.kept Y.waits,asked:=zaO Y.asked Y.waits,waits:=(Y.waits+1) % 128 },zaO my Y.waits,a4,c4,ts++[.slice q1 l1.length c1],tl++[l1]⟩,⟨h10.c ?_,hb6,hk6.del _,hR6.snoc hc1 hr1,⟨hI6.size,by grind,fun q hq=>hI6.keys q (Ya3.1 hq).1⟩,hG7,by grind,by simp;omega⟩,by omega,?_⟩
  ·simp[zd]
  ·simp only[Yi,Ym,Yar];exact zS
end
end
section
variable {B0 M0 B M:Mem} {S0:Nat→Prop} {r mk ma:Nat} {X:zh7}
theorem zv5 (h0:(rcvP r mk ma X).ok B M):CallsM prog 339 [ptr r] M fun v M'=>v = .tuple #[]∧∃ ma',At B M (zlb r mk ma) B M' [rcvP r mk ma' { X with asked:=[] }]:=by
 obtain⟨mv,h,hk,hI⟩:=rcvP.opn h0;refine zkn oS ?_;refine zR ?_;refine h.mapV (kv:=zi) (vv:=zi) fun b M1 h1=>?_
 refine zR ?_;refine h1.stoV 0 rfl oS fun M2 h2=>?_
 refine zR ?_;exact⟨rfl,b,rcvP.cls (h2.drop 2 rfl) hk ⟨hI.size,hI.waits,hI.keys⟩⟩
theorem zp3 {size:Int} {w k a:Value} (h:At B0 M0 S0 B M [zby r 290 [.int .i64 size,w,k,a]]) (hs:1≤size∧size≤63):CallsM prog 156 [ptr r] M fun v M'=>v = .tuple #[]∧∃ mk' ma',At B0 M0 S0 B M' [rcvP r mk' ma' ⟨size,0,[],[]⟩]:=by
 refine zk7 oS ?_;refine zR ?_;refine h.mapV (kv:=zi) (vv:=(id:Value→Value)) fun b M1 h1=>?_
 refine zR ?_;refine h1.mapV (kv:=zi) (vv:=zi) fun b2 M2 h2=>?_
 refine zR ?_;refine h2.stoV 0 rfl oS fun M3 h3=>?_
 refine zR ?_;refine h3.stoV 0 rfl (by simp[zd]) fun M4 h4=>?_
 refine zR ?_;refine h4.stoV 0 rfl (by simp[zd]) fun M5 h5=>?_
 refine zR ?_;exact⟨rfl,b,b2,rcvP.cls (X:=⟨size,0,[],[]⟩) h5 KRel.nil ⟨hs,⟨Yae _,by simp⟩,fun q hq=>by cases hq⟩⟩
theorem zxP (h0:(rcvP r mk ma X).ok B M):CallsM prog 156 [ptr r] M fun v M'=>v = .tuple #[]∧∃ mk' ma',At B M (zlb r mk ma) B M' [rcvP r mk' ma' (zBX X)]:=by
 obtain⟨mv,h,hk,hI⟩:=rcvP.opn h0;exact zp3 ((h.drop 1 rfl).drop 1 rfl) hI.size
theorem zB2 {ps:List Pt} (h:At B0 M0 S0 B M ps) {size:Int} (hs:1≤size∧size≤63):CallsM prog 87 [.int .i64 size] M fun v M'=>∃ r mk ma,v = .tuple #[ptr r,.int .i64 0]∧At B0 M0 S0 B M' (ps++[rcvP r mk ma ⟨size,0,[],[]⟩]):=by
 refine zxB oS ?_;refine brn_f (decide_eq_false oM) ?_;refine brn_f (decide_eq_false oM) ?_;refine zR ?_;refine h.newV fun r M1 h1=>?_
 refine zM (zp3 h1.lastIn hs) ?_;rintro v M2 ⟨rfl,mk,ma,h2⟩;refine zR ?_;exact⟨r,mk,ma,rfl,h1.last h2⟩
section
variable {s ca:Nat} {qa:Option Addr} {Y:zla}
theorem zv6 {E:TypeId} {l:List Value} (y:Nat) (hy:zc6 s none y):(zby s E l).d y:=by
 rcases hy with hy|⟨r,hr,_⟩
 ·exact hy
 ·cases hr
theorem zB3 {ps:List Pt} (h:At B0 M0 S0 B M ps) {size:Int} (hs:1≤size∧size≤63):CallsM prog 86 [.int .i64 size] M fun v M'=>∃ s,v = .tuple #[ptr s,.int .i64 0]∧At B0 M0 S0 B M' (ps++[zmp s none 0 ⟨size,0,[],0⟩]):=by
 refine zuI oS ?_;refine brn_f (decide_eq_false oM) ?_;refine brn_f (decide_eq_false oM) ?_;refine zR ?_;refine h.newV fun s M1 h1=>?_
 refine zR ?_;exact⟨s,rfl,h1.last (h1.lastIn.view 0 rfl (q:=zmp s none 0 ⟨size,0,[],0⟩) (SndAt.bare (h1.lastIn.cell 0 rfl) h1.le (h1.lastIn.part 0 rfl).2 hs oD) zv6)⟩
theorem zxQ (h:SndAt B M s qa ca Y):CallsM prog 266 [ptr s] M fun v M'=>(∃ a n c,v = .slice a n c)∧At B M (zc6 s qa) B M' [zmp s none 0 (zv1 Y)]:=by
 have h0:At B M (zc6 s qa) B M [zmp s qa ca Y]:=At.of h h.le (Tn.refl _ _ _);have h1:=h0.view 0 rfl (q:=zby s 287 (zmo Y qa ca)) ⟨h.self,h.bs⟩ fun y hy => .inl hy
 refine zk8 oS ?_;refine zA (h1) ?_;refine h1.stoV 0 rfl oS fun M2 h2=>?_
 refine zR ?_;refine h2.stoV 0 rfl (by simp[zd]) fun M3 h3=>?_
 refine zR ?_;refine h3.stoV 0 rfl (by simp[zd]) fun M4 h4=>?_
 refine zR ?_;exact⟨⟨_,_,_,rfl⟩,h4.view 0 rfl (q:=zmp s none 0 (zv1 Y)) (SndAt.bare (h4.cell 0 rfl) h4.le (h4.part 0 rfl).2 h.inv.size oD) zv6⟩
theorem zp4 (h:SndAt B M s qa ca Y) (ns:Int):CallsM prog 113 [ptr s,.int .i64 ns] M fun v M'=>∃ a c,v = .tuple #[.slice a (zcX Y ns).length c,.int .i64 (zeO Y ns)]∧NewSl M 5 1 a (zcX Y ns).length c ((zcX Y ns).map zc) M':=by
 have hI:=h.inv;have no:zeO Y ns≠0→zcX Y ns=[]:=fun e=>by unfold zcX;rw[if_neg e];rfl
 have noN:NewSl M 5 1 none 0 0 [] M:=Yaw _ _ _;refine zk4 oS ?_;by_cases g:ns<0∨128≤ns
 ·have e:zeO Y ns=1:=by unfold zeO;rw[if_pos g]
  rw[no (by omega),e];refine brn_f rfl ?_;refine brn (fun g1=>?_) (fun g1=>?_)
  ·refine zR ?_;exact⟨none,0,rfl,noN⟩
  ·refine brn_t (decide_eq_true (by grind)) ?_;refine zR ?_;exact⟨none,0,rfl,noN⟩
 refine brn_f rfl ?_;refine brn_f (decide_eq_false oM) ?_;refine brn_f (decide_eq_false oM) ?_;refine zL (h.self) ?_;refine zJ (zBZ _ _ _ M) ?_;refine brn (fun g1=>?_) (fun g1=>?_)
 ·have e:zeO Y ns=4:=by unfold zeO;rw[if_neg g,if_neg (by simp_all)]
  rw[no (by omega),e];refine zR ?_;exact⟨none,0,rfl,noN⟩
 have g2:zb9 Y.base ns<(Y.under:Int):=by simpa using g1
 have e:zeO Y ns=0:=by unfold zeO;rw[if_neg g,if_pos g2]
 have hw:0≤zb9 Y.base ns:=by unfold zb9;omega
 obtain⟨j,hj⟩:∃ j:Nat,(j:Int)=zb9 Y.base ns:=⟨(zb9 Y.base ns).toNat,by omega⟩
 have hu:=hI.under;obtain⟨l,hl⟩:∃ l,Y.all[j]? = some l:=⟨_,Yb oM⟩
 have eL:zcX Y ns=l:=by
  unfold zcX;rw[if_pos e,←hj,Yc4,Ys,hl];rfl
 rw[e,eL];have hl2:=hI.each l (Yao hl)
 obtain⟨vs,hvs,hR⟩:=h.row;obtain⟨v,hv⟩:∃ v,vs[j]? = some v:=⟨_,Yb (by have:=hR.1;have:=(Yu.1 hl).1;omega)⟩
 obtain⟨q,c,rfl,hcap,hrow⟩:=hR.2 _ _ _ hv hl;obtain⟨b,o,e1,hcell⟩:=hvs.get hv;have hrow:=hrow.le h.le
 refine zL (h.self) ?_;have f0:=Yd0 M
 refine⟨?_,?_,True.intro⟩
 ·refine f0.newRV (s:=1) (n:=0) rfl fun e0 M1 f1=>?_
  refine zT (f1.le) ?_;refine zJ (zoe _ _ _) ?_;rw[←hj];refine zT (f1.le) ?_;refine zR ?_;refine ob (by omega) ?_;refine atp e1 ?_;refine on hcell ?_;refine zR ?_;refine zb2 (hrow.le f1.le) ?_;refine f1.appV 0 rfl oM (by simp[maxLen];omega) (zaA l) fun a2 c2 M2 hc2 f2=>?_
  have hN:=f2.row 0 rfl;rw[Yaa,Yap] at hN;refine zR ?_;(conv=>whnf)
  rw[Yap];exact⟨a2,c2,rfl,hN⟩
 ·refine zJ (zoe _ _ _) ?_;rw[←hj];refine zR ?_;refine ob (by omega) ?_;refine atp e1 ?_;refine on hcell ?_;refine zR ?_;refine f0.newRV (s:=1) (n:=0) rfl fun e0 M1 f1=>?_
  refine zR ?_;refine zb2 (hrow.le f1.le) ?_;refine f1.appV 0 rfl oM (by simp[maxLen];omega) (zaA l) fun a2 c2 M2 hc2 f2=>?_
  have hN:=f2.row 0 rfl;rw[Yaa,Yap] at hN;refine zR ?_;(conv=>whnf)
  rw[Yap];exact⟨a2,c2,rfl,hN⟩
end
end
section
variable {B0 M0 B M:Mem} {S0:Nat→Prop}
abbrev za8:=LnkR (List UInt8)
abbrev zdD:=CtlR (List UInt8)
structure LP where
 s:Nat
 qa:Option Addr
 ca:Nat
 r:Nat
 km:Nat
 am:Nat
 qo:Option Addr
 co:Nat
 qi:Option Addr
 ci:Nat
structure CtlX where
 x:zdD
 q:Option Addr
 c:Nat
@[reducible] def CtlX.cs (x:CtlX):List Value:=[.int .i64 x.x.kind,.int .i64 x.x.ns,.int .i64 x.x.nr,.bool x.x.p,.int .i64 x.x.me,.int .i64 x.x.peer,.slice x.q x.x.data.length x.c]
@[reducible] def CtlX.v (x:CtlX):Value := .agg (x.cs).toArray
def CtlX.ok (B:Mem) (x:CtlX):Prop:=Row B x.q x.x.data∧x.x.data.length≤x.c
theorem CtlX.ok.le {B B':Mem} {x:CtlX} (h:x.ok B) (hle:B.le B'):x.ok B':=⟨h.1.le hle,h.2⟩
@[reducible] def zz8 (X:za8) (p:LP):List Value:=[.int .i64 X.me,.int .i64 X.peer,.bool X.up,.int .i64 X.size,.int .i64 X.timer,.int .i64 X.tries,.int .i64 X.left,.int .i64 X.tried,.int .i64 X.resets,.bool X.busy,.bool X.held,ptr p.s,ptr p.r,.slice p.qo X.out.length p.co,.slice p.qi X.inn.length p.ci]
@[reducible] def zva (e:Nat) (p:LP) (X:za8) (xs:List CtlX) (vs:List Value):List Pt:=[zby e 185 (zz8 X p),zmp p.s p.qa p.ca X.S,rcvP p.r p.km p.am X.R,zaB 163 7 p.qo X.out.length p.co (xs.flatMap CtlX.cs),zaB 37 1 p.qi X.inn.length p.ci vs]
structure LnkI (X:za8):Prop where
 me:0≤X.me∧X.me≤65535
 timer:1≤X.timer∧X.timer≤64
 left:0≤X.left∧X.left≤X.timer
 tries:1≤X.tries∧X.tries≤64
 tried:0≤X.tried∧X.tried≤X.tries
 size:X.S.size=X.size∧X.R.size=X.size
theorem LnkI.add {X:za8} (h:LnkI X) (c:zdD):LnkI (X.add c):=⟨h.me,h.timer,h.left,h.tries,h.tried,h.size⟩
structure LkAt (B0 M0:Mem) (S0:Nat→Prop) (B M:Mem) (e:Nat) (p:LP) (X:za8):Prop where
 ex:∃ xs vs,At B0 M0 S0 B M (zva e p X xs vs)∧xs.map CtlX.x=X.out∧(∀ x∈xs,x.ok B)∧Brows B vs X.inn
 inv:LnkI X
def LkTo (B0 M0:Mem) (S0:Nat→Prop) (B M':Mem) (e:Nat) (X:za8):Prop:=∃ B' p,B.le B'∧LkAt B0 M0 S0 B' M' e p X
theorem LkAt.to {e:Nat} {p:LP} {X:za8} (h:LkAt B0 M0 S0 B M e p X):LkTo B0 M0 S0 B M e X:=⟨B,p,Ya _,h⟩
theorem LkTo.le {B1:Mem} {e:Nat} {X:za8} (h:LkTo B0 M0 S0 B1 M e X) (hle:B.le B1):LkTo B0 M0 S0 B M e X:=by
 obtain⟨B',p,h1,h2⟩:=h;exact⟨B',p,Yc hle h1,h2⟩
section
variable {e:Nat} {p:LP} {X:za8}
theorem LkAt.up (h:LkAt B0 M0 S0 B M e p X) {M':Mem} (hle:M.le M'):LkAt B0 M0 S0 B M' e p X:=by
 obtain⟨xs,vs,h1,h2⟩:=h.ex;exact⟨⟨xs,vs,h1.up hle,h2⟩,h.inv⟩
theorem zcE (h:LkAt B0 M0 S0 B M e p X) (x:CtlX) (hx:x.ok B) (hn:X.out.length<1000000000):CallsM prog 116 [ptr e,x.v] M fun v M'=>v = .tuple #[]∧∃ p',LkAt B0 M0 S0 B M' e p' (X.add x.x):=by
 obtain⟨xs,vs,h1,h2,h3,h4⟩:=h.ex;refine zph oS ?_;refine zA (h1) ?_;refine h1.appV 3 rfl oM (by simp[maxLen];omega) oC fun a2 c2 M2 hc2 h5=>?_
 refine zA (h5) ?_;refine h5.stoV 0 rfl oS fun M3 h6=>?_
 refine zR ?_;refine⟨rfl,{ p with qo:=a2,co:=c2 },⟨xs++[{ x with x:={ x.x with me:=X.me } }],vs,h6.c ?_,?_,?_,h4⟩,h.inv.add _⟩
 ·simp[zd,LnkR.add,zz8]
 ·simp[LnkR.add,h2]
 ·intro y hy;rcases Yy.1 hy with hy|hy
  ·simp_all
  ·rw[Y0.1 hy];exact hx
theorem zlc (h:LkAt B0 M0 S0 B M e p X) (poll:Bool) (hn:X.out.length<1000000000):CallsM prog 88 [ptr e,.bool poll] M fun v M'=>v = .tuple #[]∧∃ p',LkAt B0 M0 S0 B M' e p' (zfN X poll):=by
 refine zn0 oS ?_;refine zM (zcE h ⟨⟨5,0,0,poll,0,0,[]⟩,none,0⟩ ⟨Ydg _,Yd _⟩ hn) ?_;rintro v M1 ⟨rfl,p1,h1⟩;have hI:=h1.inv
 obtain⟨xs,vs,h2,h3⟩:=h1.ex;refine zA (h2) ?_;refine h2.stoV 0 rfl oS fun M2 h4=>?_
 refine zR ?_;exact⟨rfl,p1,⟨xs,vs,h4,h3⟩,⟨hI.me,hI.timer,⟨by have:=hI.timer;show 0≤X.timer;exact Int.le_trans oD this.1,Yae _⟩,hI.tries,hI.tried,hI.size⟩⟩
theorem zmr (h:LkAt B0 M0 S0 B M e p X) {ns:Int} {q:Option Addr} {c:Nat} {l:List UInt8} {poll:Bool} (hl:Row B q l) (hc:l.length≤c) (hn:X.out.length<1000000000):CallsM prog 114 [ptr e,.int .i64 ns,.slice q l.length c,.bool poll] M fun v M'=>v = .tuple #[]∧∃ p',LkAt B0 M0 S0 B M' e p' (zcu X ns l poll):=by
 obtain⟨xs,vs,h1,h2⟩:=h.ex;refine zpg oS ?_;refine zA (h1) ?_;refine zJ (zil (h1.part 2 rfl)) ?_;refine zA (h1) ?_;refine(zcE h ⟨⟨1,ns,X.R.waits,poll,0,X.peer,l⟩,q,c⟩ ⟨hl,hc⟩ hn).mono ?_;rintro v M1 ⟨rfl,p1,h3⟩;refine zR ?_;exact⟨rfl,p1,h3⟩
theorem zeS (h:LkAt B0 M0 S0 B M e p X) (hn:X.out.length<1000000000):CallsM prog 341 [ptr e] M fun v M'=>v = .tuple #[]∧∃ p',LkAt B0 M0 S0 B M' e p' (zdX X):=by
 obtain⟨xs,vs,h1,h2⟩:=h.ex;refine znx oS ?_;refine zA (h1) ?_;refine zfs (fun g=>?_) (fun g=>?_)
 ·
  have e:zdX X=X.add ⟨if X.held then 3 else 2,0,X.R.waits,false,0,X.peer,[]⟩:=rfl;refine zA (h1) ?_;refine zJ (zil (h1.part 2 rfl)) ?_;refine zU ?_;refine zM (zcE h ⟨⟨3,0,X.R.waits,false,0,X.peer,[]⟩,none,0⟩ ⟨Ydg _,Yd _⟩ hn) ?_;rintro v M1 ⟨rfl,p1,h3⟩;rw[e,g];refine zR ?_;exact⟨rfl,p1,h3⟩
 ·
  have e:zdX X=X.add ⟨if X.held then 3 else 2,0,X.R.waits,false,0,X.peer,[]⟩:=rfl;refine zA (h1) ?_;refine zJ (zil (h1.part 2 rfl)) ?_;refine zU ?_;refine zM (zcE h ⟨⟨2,0,X.R.waits,false,0,X.peer,[]⟩,none,0⟩ ⟨Ydg _,Yd _⟩ hn) ?_;rintro v M1 ⟨rfl,p1,h3⟩;rw[e,g];refine zR ?_;exact⟨rfl,p1,h3⟩
end
end
section
variable {B0 M0 B M:Mem} {S0:Nat→Prop} {e:Nat} {p:LP} {X:za8}
theorem zld (h:LkAt B0 M0 S0 B M e p X):CallsM prog 177 [ptr e] M fun v M'=>v = .tuple #[]∧∃ p',LkAt B0 M0 S0 B M' e p' (zb3 X):=by
 obtain⟨xs,vs,h1,h2⟩:=h.ex;have hI:=h.inv
 refine zn2 oS ?_;refine zA (h1) ?_;refine(zxQ (h1.part 1 rfl)).mono ?_;rintro v M1 ⟨⟨a,n,c,rfl⟩,t1⟩;have h3:=h1.call 1 rfl t1
 refine zA (h3) ?_;refine(zxP (h3.part 2 rfl)).mono ?_;rintro v M2 ⟨rfl,mk,ma,t2⟩;have h4:=h3.call 2 rfl t2
 refine zA (h4) ?_;refine obw ?_;refine h4.stoV 0 rfl oS fun M3 h5=>?_
 refine zR ?_;refine h5.stoV 0 rfl (by simp[zd]) fun M4 h6=>?_
 refine zR ?_;refine h6.stoV 0 rfl (by simp[zd]) fun M5 h7=>?_
 refine zR ?_;refine h7.stoV 0 rfl (by simp[zd]) fun M6 h8=>?_
 refine zR ?_;have ht:=hI.timer
 exact⟨rfl,{ p with qa:=none,ca:=0,km:=mk,am:=ma },⟨xs,vs,h8,h2⟩,⟨hI.me,hI.timer,⟨Yae _,by show 0≤X.timer;omega⟩,hI.tries,⟨Yae _,by have:=hI.tries;show 0≤X.tries;omega⟩,hI.size⟩⟩
theorem zlf (h:LkAt B0 M0 S0 B M e p X):CallsM prog 273 [ptr e] M fun v M'=>v = .tuple #[]∧LkAt B0 M0 S0 B M' e p (zdK X):=by
 obtain⟨xs,vs,h1,h2⟩:=h.ex;have hI:=h.inv
 refine zn7 oS ?_;refine zR ?_;refine h1.stoV 0 rfl oS fun M3 h5=>?_
 refine zR ?_;refine h5.stoV 0 rfl (by simp[zd]) fun M4 h6=>?_
 refine zR ?_;refine h6.stoV 0 rfl (by simp[zd]) fun M5 h7=>?_
 refine zR ?_;have ht:=hI.timer
 exact⟨rfl,⟨xs,vs,h7,h2⟩,⟨hI.me,hI.timer,⟨Yae _,by show 0≤X.timer;omega⟩,hI.tries,⟨Yae _,by have:=hI.tries;show 0≤X.tries;omega⟩,hI.size⟩⟩
theorem zrT (h:LkAt B0 M0 S0 B M e p X) (hn:X.out.length<1000000000):CallsM prog 112 [ptr e] M fun v M'=>v = .tuple #[]∧∃ p',LkAt B0 M0 S0 B M' e p' (zjn X):=by
 obtain⟨xs,vs,h1,h2⟩:=h.ex;have hI:=h.inv
 have hm:=hI.me;refine zpf oS ?_;refine zA (h1) ?_;refine obr (inR_i64 oM) ?_;refine ob oD ?_;refine h1.stoV 0 rfl oS fun M3 h5=>?_
 refine zR ?_;refine h5.stoV 0 rfl (by simp[zd]) fun M4 h6=>?_
 refine zR ?_;refine h6.stoV 0 rfl (by simp[zd]) fun M5 h7=>?_
 refine zR ?_;have em:(X.me+1).tmod 65536=(X.me+1) % 65536:=Yb6 oM
 have h8:LkAt B0 M0 S0 B M5 e p { X with me:=(X.me+1) % 65536,up:=false,peer := -1 }:=⟨⟨xs,vs,by rw[em] at h7;exact h7,h2⟩,⟨by grind,hI.timer,hI.left,hI.tries,hI.tried,hI.size⟩⟩
 refine(zld h8).mono ?_;rintro v M6 ⟨rfl,p1,h9⟩;refine zM (zlc h9 false hn) ?_;rintro v M7 ⟨rfl,p2,h10⟩;refine zR ?_;exact⟨rfl,p2,h10⟩
theorem zms (h:LkAt B0 M0 S0 B M e p X) (hn:X.out.length+65≤1000000000):CallsM prog 183 [ptr e] M fun v M'=>v = .tuple #[]∧LkTo B0 M0 S0 B M' e (zcQ X):=by
 refine zpn oS ?_
 refine zak (σ:=Nat×Mem×za8×LP×Mem) [] (fun _=>[]) (fun _=>[]) (fun x=>x.2.1)
  (fun|⟨n,M1,X1,p1,B1⟩=>LkAt B0 M0 S0 B1 M1 e p1 X1∧B.le B1∧zcv n X1=zcQ X∧X1.S.all.length<n+X1.S.under∧X1.out.length+n≤1000000000) (fun x=>x.1) ⟨65,M,X,p,B⟩
  ⟨h,Ya _,rfl,by obtain⟨xs,vs,h1,_⟩:=h.ex;have:=(h1.part 1 rfl:SndAt B M p.s p.qa p.ca X.S).inv.few;omega,hn⟩ zS ?_
 rintro ⟨n,M1,X1,p1,B1⟩ ⟨h1,hb,hg,hf,ho⟩;obtain⟨xs,vs,h2,h3,h4,h5⟩:=h1.ex;have hI:=h1.inv
 have hS:SndAt B1 M1 p1.s p1.qa p1.ca X1.S:=h2.part 1 rfl;have hu:=hS.inv.under
 obtain⟨n,rfl⟩:∃ m,n=m+1:=⟨n - 1,by omega⟩
 refine zA (h2) ?_;refine zfs (fun u1=>?_) (fun u1=>?_)
 rotate_left
 ·
  have e1:zcv (n+1) X1=X1:=by unfold zcv;rw[if_pos (.inl u1)]
  refine zR ?_;exact⟨rfl,B1,p1,hb,by simp_all⟩
 refine zA (h2) ?_;refine zfs (fun u2=>?_) (fun u2=>?_)
 ·
  have e1:zcv (n+1) X1=X1:=by unfold zcv;rw[if_pos (.inr u2)]
  refine zR ?_;exact⟨rfl,B1,p1,hb,by simp_all⟩
 have e2:¬(X1.up=false∨X1.busy=true):=by rw[u1,u2];simp
 refine zA (h2) ?_;by_cases g:X1.S.under=X1.S.all.length∨(X1.S.under:Int)=X1.S.size
 ·refine zJ (zz3 hS g) ?_;refine brn_t rfl ?_;have e1:zcv (n+1) X1=X1:=by unfold zcv;rw[if_neg e2,if_pos g]
  refine zR ?_;exact⟨rfl,B1,p1,hb,by simp_all⟩
 ·obtain⟨g1,g2⟩:=not_or.1 g;obtain⟨l,hl⟩:∃ l,X1.S.all[X1.S.under]? = some l:=⟨_,Yb oM⟩
  refine(zz4 hS g1 g2 hl).mono ?_;rintro v M2 ⟨q,c,B2,rfl,hc,hrow,hs2,t2⟩;have h6:=h2.call 1 rfl (At.of (p:=zmp p1.s p1.qa p1.ca (zcm X1.S)) hs2 hs2.le t2)
  have h7:LkAt B0 M0 S0 B2 M2 e p1 { X1 with S:=zcm X1.S }:=⟨⟨xs,vs,h6,h3,fun x hx=>(h4 x hx).le t2.bb,h5.le t2.bb⟩,⟨hI.me,hI.timer,hI.left,hI.tries,hI.tried,hI.size⟩⟩
  have hl':X1.S.all.getD X1.S.under Pay.emp=l:=by rw[Ys,hl];rfl
  have hg1:zcv n (if X1.left=0 then { zcu { X1 with S:=zcm X1.S } ((X1.S.base+X1.S.under) % 128) l false with left:=X1.timer } else zcu { X1 with S:=zcm X1.S } ((X1.S.base+X1.S.under) % 128) l false)=zcQ X:=by
   rw[←hg,zcv,if_neg e2,if_neg g,hl']
  refine brn_f rfl ?_;refine zR ?_;refine(zmr h7 hrow hc (by grind)).mono ?_;rintro v M3 ⟨rfl,p3,h8⟩;obtain⟨xs3,vs3,h9,h10⟩:=h8.ex;have hI8:=h8.inv
  refine zA (h9) ?_;refine brn (fun g3=>?_) (fun g3=>?_)
  ·have g4:X1.left=0:=Zd0 g3;rw[if_pos g4] at hg1;refine zA (h9) ?_;refine h9.stoV 0 rfl oS fun M4 h11=>?_
   refine⟨⟨n,M4,{ zcu { X1 with S:=zcm X1.S } ((X1.S.base+X1.S.under) % 128) l false with left:=X1.timer },p3,B2⟩,⟨⟨⟨xs3,vs3,h11,h10⟩,⟨hI.me,hI.timer,⟨by have:=hI.timer;show 0≤X1.timer;omega,Yae _⟩,hI.tries,hI.tried,hI.size⟩⟩,Yc hb t2.bb,hg1,by dsimp only [zcu,LnkR.add,zcm] at hf ⊢; omega,by dsimp only [zcu,LnkR.add] at ho ⊢; simp only[Yi,Ym,Yar];omega⟩,by omega,zS⟩
  ·have g4:¬X1.left=0:=Zd1 g3;rw[if_neg g4] at hg1;refine zR ?_;refine⟨⟨n,M3,zcu { X1 with S:=zcm X1.S } ((X1.S.base+X1.S.under) % 128) l false,p3,B2⟩,⟨h8,Yc hb t2.bb,hg1,by dsimp only [zcu,LnkR.add,zcm] at hf ⊢; omega,by dsimp only [zcu,LnkR.add] at ho ⊢; simp only[Yi,Ym,Yar];omega⟩,by omega,zS⟩
end
section
variable {B0 M0 B M:Mem} {S0:Nat→Prop} {e:Nat} {p:LP} {X:za8}
theorem LkAt.S (h:LkAt B0 M0 S0 B M e p X):SndAt B M p.s p.qa p.ca X.S:=by
 obtain⟨xs,vs,h1,_⟩:=h.ex;exact h1.part 1 rfl
theorem LkAt.snd (h:LkAt B0 M0 S0 B M e p X) {B1 M1:Mem} {qa:Option Addr} {ca:Nat} {Y:zla} (hs:SndAt B1 M1 p.s qa ca Y) (t:Tn B M (zc6 p.s p.qa) B1 M1 (zc6 p.s qa)) (hz:Y.size=X.S.size):LkAt B0 M0 S0 B1 M1 e { p with qa:=qa,ca:=ca } { X with S:=Y }∧B.le B1:=by
 obtain⟨xs,vs,h1,h3,h4,h5⟩:=h.ex;have hI:=h.inv
 have h6:=h1.call 1 rfl (At.of (p:=zmp p.s qa ca Y) hs hs.le t);exact⟨⟨⟨xs,vs,h6,h3,fun x hx=>(h4 x hx).le t.bb,h5.le t.bb⟩,⟨hI.me,hI.timer,hI.left,hI.tries,hI.tried,by show Y.size=_∧_;rw[hz];exact hI.size⟩⟩,t.bb⟩
theorem zB4 (Y:zla) (nr:Int):(zdP Y nr).size=Y.size:=by unfold zdP;split<;>rfl
theorem ztW (h:LkAt B0 M0 S0 B M e p X) (nr:Int):CallsM prog 338 [ptr e,.int .i64 nr] M fun v M'=>v = .tuple #[]∧LkTo B0 M0 S0 B M' e (zcz X nr):=by
 obtain⟨xs,vs,h1,h3⟩:=h.ex;refine zqD oS ?_;refine zA (h1) ?_;refine(zB0 h.S nr).mono ?_;rintro v M1 ⟨rfl,B1,qa,ca,hs,t⟩;obtain⟨h2,hb⟩:=h.snd hs t (zB4 _ _);obtain⟨xs,vs,h4,h5⟩:=h2.ex;have hI:=h2.inv
 refine brn (fun g1=>?_) (fun g1=>?_)
 ·have g:¬zfM X.S nr=0:=by simpa using g1
  refine zR ?_;exact⟨rfl,B1,_,hb,by unfold zcz;rw[if_neg (fun h=>g h.1)];exact h2⟩
 have g:zfM X.S nr=0:=by simpa using g1
 refine brn (fun g2=>?_) (fun g2=>?_)
 ·have g':zgp X.S nr=0:=by have:=Zd0 g2;omega
  refine zR ?_;exact⟨rfl,B1,_,hb,by unfold zcz;rw[if_neg (fun h=>h.2 g')];exact h2⟩
 have g'':zgp X.S nr≠0:=by have:=Zd1 g2;omega
 have hA:zcz X nr={ X with S:=zdP X.S nr,tried:=0,left:=if 0<(zdP X.S nr).under then X.timer else 0 }:=by unfold zcz;rw[if_pos ⟨g,g''⟩]
 refine zR ?_;refine h4.stoV 0 rfl oS fun M2 h6=>?_
 refine zR ?_;refine h6.stoV 0 rfl (by simp[zd]) fun M3 h7=>?_
 have hS:SndAt B1 M3 p.s qa ca (zdP X.S nr):=h7.part 1 rfl;have hu:=hS.inv.under
 have hf:=hS.inv.few;refine zA (h7) ?_;refine(zv0 hS.self oM).mono ?_;rintro v M4 ⟨a,c,rfl,hN, -⟩;have h8:=h7.up hN.le
 have hlen:(zbY (zdP X.S nr).base (zaF ((zdP X.S nr).under:Nat))).length=(zdP X.S nr).under:=by
  rw[zmm];unfold zaF;omega
 have ht:=hI.timer;have htr:=hI.tries
 dsimp only at ht htr;rw[hlen,hA];refine brn (fun g3=>?_) (fun g3=>?_)
 ·have g4:0<(zdP X.S nr).under:=by have:=Zd0 g3;omega
  refine zA (h8) ?_;refine h8.stoV 0 rfl (by simp[zd]) fun M5 h9=>?_
  refine zR ?_;rw[if_pos g4];exact⟨rfl,B1,_,hb,⟨xs,vs,h9,h5⟩,⟨hI.me,hI.timer,⟨by grind,Yae _⟩,hI.tries,⟨Yae _,by grind⟩,hI.size⟩⟩
 ·have g4:¬0<(zdP X.S nr).under:=by have:=Zd1 g3;omega
  refine zR ?_;rw[if_neg g4];exact⟨rfl,B1,_,hb,⟨xs,vs,h8,h5⟩,⟨hI.me,hI.timer,⟨Yae _,by grind⟩,hI.tries,⟨Yae _,by grind⟩,hI.size⟩⟩
theorem zz9 (Y:zla) (l:List UInt8):(zfA Y l).size=Y.size:=by unfold zfA;split<;>rfl
theorem zAa (h:LkAt B0 M0 S0 B M e p X) {q:Option Addr} {c:Nat} {l:List UInt8} (hl:SrcOk M 1 q l.length (l.map zc)) (hn:l.length≤1048576) (ho:X.out.length+65≤1000000000) :
  CallsM prog 119 [ptr e,.slice q l.length c] M fun v M'=>v = .int .i64 (zeQ X l)∧LkTo B0 M0 S0 B M' e (zds X l):=by
 obtain⟨xs,vs,h1,h3⟩:=h.ex;refine zpi oS ?_;refine brn_f rfl ?_;refine zA (h1) ?_;refine zfs (fun u=>?_) (fun u=>?_)
 rotate_left
 ·have eE:zeQ X l=7:=by unfold zeQ;rw[if_neg (by simp_all)]
  have eP:zds X l=X:=by unfold zds;rw[eE,if_neg oD]
  refine zR ?_;rw[eE,eP];exact⟨rfl,h.to⟩
 have eE:zeQ X l=zdO X.S l:=by unfold zeQ;rw[if_pos u]
 refine zA (h1) ?_;refine(zz2 h.S hl hn).mono ?_;rintro v M1 ⟨rfl,B1,qa,ca,hs,t⟩;obtain⟨h2,hb⟩:=h.snd hs t (zz9 _ _);refine brn (fun g=>?_) (fun g=>?_)
 ·have g1:zdO X.S l≠0:=by simpa using g
  have e1:zfA X.S l=X.S:=by unfold zfA;rw[if_neg g1]
  refine zR ?_;rw[e1] at h2;unfold zds;rw[eE,if_neg g1];exact⟨rfl,h2.to.le hb⟩
 ·have g1:zdO X.S l=0:=by simpa using g
  refine zM (zms h2 ho) ?_;rintro v M2 ⟨rfl,h3⟩;refine zR ?_;unfold zds;rw[eE,if_pos g1];exact⟨by rw[g1],h3.le hb⟩
end
section
variable {B0 M0 B M:Mem} {S0:Nat→Prop} {e:Nat} {p:LP} {X:za8}
theorem zAb (h:LkAt B0 M0 S0 B M e p X) (hn:X.out.length+1<1000000000):CallsM prog 60 [ptr e] M fun v M'=>v = .int .i64 0∧LkTo B0 M0 S0 B M' e (zcR X):=by
 obtain⟨xs,vs,h1,h3⟩:=h.ex;have hI:=h.inv
 have hl:=hI.left;have ht:=hI.timer
 have hr:=hI.tried;have hs:=hI.tries
 refine zpa oS ?_;refine brn_f rfl ?_;refine zA (h1) ?_;refine brn (fun g=>?_) (fun g=>?_)
 ·have g0:X.left=0:=Zd0 g;refine zR ?_;exact⟨rfl,by unfold zcR;rw[if_pos g0];exact h.to⟩
 have g0:¬X.left=0:=Zd1 g;obtain⟨Y,hY⟩:=oI ({ X with left:=X.left - 1 })
 have hT:zcR X=if 0<Y.left then Y else if Y.up=false then zfN Y true else if 0<Y.S.under then
   (if Y.tried=Y.tries then zjn Y else { zcu { Y with tried:=Y.tried+1 } Y.S.base (zcX Y.S Y.S.base) true with left:=Y.timer }) else
   if Y.busy=true∧0<Y.S.all.length then { Y.add ⟨2,0,Y.R.waits,true,0,Y.peer,[]⟩ with left:=Y.timer } else Y:=by unfold zcR;rw[if_neg g0,hY];rfl
 refine zA (h1) ?_;refine obr (inR_i64 oM) ?_;refine h1.stoV 0 rfl oS fun M2 h4=>?_
 have hIY:LnkI Y:=by rw[hY];exact⟨hI.me,hI.timer,⟨by grind,by grind⟩,hI.tries,hI.tried,hI.size⟩
 have hSY:Y.S=X.S:=by rw[hY]
 have h5:LkAt B0 M0 S0 B M2 e p Y:=by rw[hY] at hIY ⊢; exact⟨⟨xs,vs,h4,h3⟩,hIY⟩
 have hob:Y.out.length+1<1000000000:=by rw[hY];exact hn
 clear h4;have hYl:Y.left=X.left - 1:=by rw[hY]
 have ht:1≤Y.timer∧Y.timer≤64:=hIY.timer;clear hY;obtain⟨xs,vs,h4,h3⟩:=h5.ex;refine zA (h4) ?_;refine brn (fun g1=>?_) (fun g1=>?_)
 ·have g1:0<Y.left:=Zd0 g1;refine zR ?_;rw[hT,if_pos g1];exact⟨rfl,h5.to⟩
 have g1:¬0<Y.left:=Zd1 g1;rw[hT,if_neg g1];refine zA (h4) ?_;have hu:=h5.S.inv.under
 have hf:=h5.S.inv.few;have hbs:=h5.S.inv.base
 refine(zv0 h5.S.self oM).mono ?_;rintro v M4 ⟨a,c,rfl,hN, -⟩
 have hlen:(zbY Y.S.base (zaF (Y.S.under:Nat))).length=Y.S.under:=by
  rw[zmm];unfold zaF;omega
 rw[hlen] at hN ⊢;have h6:=h4.newR hN
 have h7:=h5.up hN.le;refine zA (h6) ?_;refine zfs (fun u=>?_) (fun u=>?_)
 rotate_left
 ·rw[if_pos u];refine zM (zlc h7 true oM) ?_;rintro v M5 ⟨rfl,p5,h8⟩;refine zR ?_;exact⟨rfl,h8.to⟩
 rw[if_neg (by simp_all)];refine brn (fun g2=>?_) (fun g2=>?_)
 rotate_left
 ·have gU:¬0<Y.S.under:=by have:=Zd1 g2;omega
  refine brn_f (decide_eq_false oM) ?_;rw[if_neg gU];refine zA (h6) ?_;refine zfs (fun b=>?_) (fun b=>?_)
  rotate_left
  ·rw[if_neg (by rw[b];simp)];refine zR ?_;exact⟨rfl,h7.to⟩
  refine zA (h6) ?_;refine zJ (ztU h7.S) ?_;refine brn (fun g2=>?_) (fun g2=>?_)
  rotate_left
  ·have g2:¬0<Y.S.all.length:=by have:=Zd1 g2;omega
   rw[if_neg (fun h=>g2 h.2)];refine zR ?_;exact⟨rfl,h7.to⟩
  have g2:0<Y.S.all.length:=by have:=Zd0 g2;omega
  rw[if_pos ⟨b,g2⟩];refine zA (h6) ?_;refine zJ (zil (h6.part 2 rfl)) ?_;refine zU ?_;refine zM (zcE h7 ⟨⟨2,0,Y.R.waits,true,0,Y.peer,[]⟩,none,0⟩ ⟨Ydg _,Yd _⟩ oM) ?_;rintro v M6 ⟨rfl,p6,h8⟩;obtain⟨xs6,vs6,h9,h10⟩:=h8.ex;have hI8:=h8.inv
  refine zA (h9) ?_;refine h9.stoV 0 rfl oS fun M7 h11=>?_
  refine zR ?_;exact⟨rfl,B,p6,Ya _,⟨xs6,vs6,h11,h10⟩,⟨hI8.me,hI8.timer,⟨by grind,Yae _⟩,hI8.tries,hI8.tried,hI8.size⟩⟩
 have gU:0<Y.S.under:=by have:=Zd0 g2;omega
 rw[if_pos gU];refine zA (h6) ?_;refine brn (fun g3=>?_) (fun g3=>?_)
 ·rw[if_pos (Zd0 g3)];refine zM (zrT h7 oM) ?_;rintro v M5 ⟨rfl,p5,h8⟩;refine zR ?_;exact⟨rfl,h8.to⟩
 have g3:¬Y.tried=Y.tries:=Zd1 g3;rw[if_neg g3];refine brn_t (decide_eq_true oM) ?_;refine zA (h6) ?_;have hr:0≤Y.tried∧Y.tried≤Y.tries:=hIY.tried
 have hs:1≤Y.tries∧Y.tries≤64:=hIY.tries;refine obr (inR_i64 oM) ?_;refine h6.stoV 0 rfl oS fun M5 h8=>?_
 have hlw:0<(zbY Y.S.base (zaF (Y.S.under:Nat))).length:=by rw[hlen];exact gU
 obtain⟨hl0,b0,o0,e0,hrow0⟩:=(h8.row 5 rfl).src.at (i:=0) gU;have hw0:(zbY Y.S.base (zaF (Y.S.under:Nat)))[0]=Y.S.base:=by simp only[zbY,Yd2,Yds];omega
 rw[hw0] at hrow0;refine zA (h8) ?_;refine ob oM ?_;refine atp e0 ?_;refine on hrow0 ?_;refine zM (zp4 (h8.part 1 rfl) Y.S.base) ?_;rintro v M6 ⟨a6,c6,rfl,hN6⟩;obtain⟨B1,hb1,hrow1,h9⟩:=(h8.newR hN6).cede 6 rfl;obtain⟨hl1,b1,o1,e1,hrow2⟩:=(h9.row 5 rfl).src.at (i:=0) gU;rw[hw0] at hrow2;have hcap:(zcX Y.S Y.S.base).length≤c6:=(newSl_iff.1 hN6).2.2.1
 have h10:LkAt B0 M0 S0 B1 M6 e p { Y with tried:=Y.tried+1 }:=⟨⟨xs,vs,h9.drop 5 rfl,h3.1,fun x hx=>(h3.2.1 x hx).le hb1,h3.2.2.le hb1⟩,⟨hIY.me,hIY.timer,hIY.left,hIY.tries,by grind,hIY.size⟩⟩
 refine zP ?_;refine atp e1 ?_;refine on hrow2 ?_;refine zR ?_;refine(zmr h10 hrow1 hcap (by grind)).mono ?_;rintro v M7 ⟨rfl,p7,h11⟩;obtain⟨xs7,vs7,h12,h13⟩:=h11.ex;have hI11:=h11.inv
 refine zA (h12) ?_;refine h12.stoV 0 rfl oS fun M8 h14=>?_
 refine zR ?_;exact⟨rfl,B1,p7,hb1,⟨xs7,vs7,h14,h13⟩,⟨hI11.me,hI11.timer,⟨by grind,Yae _⟩,hI11.tries,hI11.tried,hI11.size⟩⟩
end
section
variable {B0 M0 B M:Mem} {S0:Nat→Prop} {e:Nat} {p:LP} {X:za8}
theorem zxR (h:LkAt B0 M0 S0 B M e p X) (x:CtlX) (hn:X.out.length<1000000000):CallsM prog 189 [ptr e,x.v] M fun v M'=>v = .tuple #[]∧∃ p',LkAt B0 M0 S0 B M' e p' (zd2 X x.x):=by
 obtain⟨⟨kind,ns,nr,pl,me,peer,data⟩,q,c⟩:=x;obtain⟨xs,vs,h1,h3⟩:=h.ex;have hI:=h.inv
 refine zn3 oS ?_;refine zA (h1) ?_;refine brn (fun g=>?_) (fun g=>?_)
 rotate_left
 ·have g1:me=X.peer:=by simpa using g
  refine zR ?_;have hS:zd2 X ⟨kind,ns,nr,pl,me,peer,data⟩=(X).add ⟨6,0,0,pl,0,(X).peer,[]⟩:=by unfold zd2;simp only[if_pos g1];rfl
  refine zA (h1) ?_;refine(zcE h ⟨⟨6,0,0,pl,0,(X).peer,[]⟩,none,0⟩ ⟨Ydg _,Yd _⟩ hn).mono ?_;rintro v M9 ⟨rfl,p9,h9⟩;refine zR ?_;exact⟨rfl,p9,by simp_all⟩
 have g1:¬me=X.peer:=by simpa using g
 refine zA (h1) ?_;refine h1.stoV 0 rfl oS fun M2 h2=>?_
 have h4:LkAt B0 M0 S0 B M2 e p { X with peer:=me }:=⟨⟨xs,vs,h2,h3⟩,⟨hI.me,hI.timer,hI.left,hI.tries,hI.tried,hI.size⟩⟩
 refine zM (zld h4) ?_;rintro v M3 ⟨rfl,p3,h5⟩;obtain⟨xs5,vs5,h6,h7⟩:=h5.ex;have hI5:=h5.inv
 refine zA (h6) ?_;refine zfs (fun u=>?_) (fun u=>?_)
 ·have u:X.up=true:=u;refine zR ?_;have hS:zd2 X ⟨kind,ns,nr,pl,me,peer,data⟩=((zb3 {X with peer:=me})).add ⟨6,0,0,pl,0,((zb3 {X with peer:=me})).peer,[]⟩:=by unfold zd2;simp only[if_neg g1,if_pos u];rfl
  refine zA (h6) ?_;refine(zcE h5 ⟨⟨6,0,0,pl,0,((zb3 {X with peer:=me})).peer,[]⟩,none,0⟩ ⟨Ydg _,Yd _⟩ hn).mono ?_;rintro v M9 ⟨rfl,p9,h9⟩;refine zR ?_;exact⟨rfl,p9,by simp_all⟩
 ·have u:¬X.up=true:=by have u:X.up=false:=u;rw[u];decide
  refine zR ?_;refine h6.stoV 0 rfl oS fun M4 h8=>?_
  have h9:LkAt B0 M0 S0 B M4 e p3 { zb3 { X with peer:=me } with left:=X.left }:=⟨⟨xs5,vs5,h8,h7⟩,⟨hI5.me,hI5.timer,hI.left,hI5.tries,hI5.tried,hI5.size⟩⟩
  refine zR ?_;have hS:zd2 X ⟨kind,ns,nr,pl,me,peer,data⟩=(({zb3 {X with peer:=me} with left:=X.left}:za8)).add ⟨6,0,0,pl,0,(({zb3 {X with peer:=me} with left:=X.left}:za8)).peer,[]⟩:=by unfold zd2;simp only[if_neg g1,if_neg u];rfl
  refine zA (h8) ?_;refine(zcE h9 ⟨⟨6,0,0,pl,0,(({zb3 {X with peer:=me} with left:=X.left}:za8)).peer,[]⟩,none,0⟩ ⟨Ydg _,Yd _⟩ hn).mono ?_;rintro v M9 ⟨rfl,p9,h9⟩;refine zR ?_;exact⟨rfl,p9,by simp_all⟩
theorem zDV (h:LkAt B0 M0 S0 B M e p X) (x:CtlX):CallsM prog 190 [ptr e,x.v] M fun v M'=>v = .tuple #[]∧∃ p',LkAt B0 M0 S0 B M' e p' (uaL X x.x):=by
 obtain⟨⟨kind,ns,nr,pl,me,peer,data⟩,q,c⟩:=x;obtain⟨xs,vs,h1,h3⟩:=h.ex;have hI:=h.inv
 refine zrG oS ?_;unfold uaL;dsimp only;refine zA (h1) ?_;refine brn (fun g=>?_) (fun g=>?_)
 ·have g1:peer≠X.me:=by simpa using g
  rw[if_pos (.inl g1)];refine zR ?_;exact⟨rfl,p,h⟩
 have g1:¬peer≠X.me:=by simpa using g
 refine zA (h1) ?_;refine zfs (fun u=>?_) (fun u=>?_)
 ·rw[if_pos (.inr u)];refine zR ?_;exact⟨rfl,p,h⟩
 rw[if_neg (fun h=>h.elim g1 (fun h=>by simp_all))];refine zA (h1) ?_;refine brn (fun g2=>?_) (fun g2=>?_)
 rotate_left
 ·have g3:me=X.peer:=by simpa using g2
  rw[if_pos g3];refine zM (zlf h) ?_;rintro v M9 ⟨rfl,h9⟩;refine zR ?_;exact⟨rfl,_,h9⟩
 have g3:¬me=X.peer:=by simpa using g2
 rw[if_neg g3];refine zA (h1) ?_;refine h1.stoV 0 rfl oS fun M2 h2=>?_
 have h4:LkAt B0 M0 S0 B M2 e p { X with peer:=me }:=⟨⟨xs,vs,h2,h3⟩,⟨hI.me,hI.timer,hI.left,hI.tries,hI.tried,hI.size⟩⟩
 refine zM (zld h4) ?_;rintro v M3 ⟨rfl,p3,h5⟩;refine zM (zlf h5) ?_;rintro v M9 ⟨rfl,h9⟩;refine zR ?_;exact⟨rfl,_,h9⟩
theorem zDW (h:LkAt B0 M0 S0 B M e p X) (x:CtlX) (hn:X.out.length<1000000000):CallsM prog 191 [ptr e,x.v] M fun v M'=>v = .tuple #[]∧∃ p',LkAt B0 M0 S0 B M' e p' (dmL X x.x):=by
 obtain⟨⟨kind,ns,nr,pl,me,peer,data⟩,q,c⟩:=x;obtain⟨xs,vs,h1,h3⟩:=h.ex;refine zrH oS ?_;unfold dmL;dsimp only;refine zA (h1) ?_;refine zfs (fun u=>?_) (fun u=>?_)
 rotate_left
 ·rw[if_neg (fun h=>by simp_all)];refine zR ?_;exact⟨rfl,p,h⟩
 refine zA (h1) ?_;refine brn (fun g=>?_) (fun g=>?_)
 rotate_left
 ·rw[if_neg (fun h=>Zd1 g h.2.1)];refine zR ?_;exact⟨rfl,p,h⟩
 refine zA (h1) ?_;refine brn (fun g2=>?_) (fun g2=>?_)
 rotate_left
 ·rw[if_neg (fun h=>h.2.2 (by simp_all))];refine zR ?_;exact⟨rfl,p,h⟩
 rw[if_pos ⟨u,Zd0 g,by simp_all⟩];refine zM (zrT h hn) ?_;rintro v M2 ⟨rfl,h2⟩;refine zR ?_;exact⟨rfl,h2⟩
end
section
variable {B0 M0 B M:Mem} {S0:Nat→Prop} {e:Nat} {p:LP} {X:za8}
section
variable {α:Type} [Pay α]
theorem zmt (X:LnkR α) (nr:Int):(zcz X nr).out=X.out∧(zcz X nr).inn=X.inn:=by unfold zcz;split<;>exact⟨rfl,rfl⟩
theorem zog:∀ (n:Nat) (X:LnkR α),(zcv n X).out.length≤X.out.length+n∧(zcv n X).inn=X.inn
 | 0,X=>⟨Yd _,rfl⟩
 | n+1,X=>by
  unfold zcv;split
  ·simp
  ·split
   ·simp
   ·refine⟨Yz (zog n _).1 ?_,(zog n _).2.trans ?_⟩
    ·dsimp only;split<;>simp[zcu,LnkR.add]<;>omega
    ·dsimp only;split<;>rfl
theorem ziD (X:LnkR α):(zcQ X).out.length≤X.out.length+65∧(zcQ X).inn=X.inn:=zog 65 X
theorem ztX:∀ (n:Nat) (X:RcvR α) (t:List α),(zd1 n X t).2.length≤t.length+n
 | 0,X,t=>Yd _
 | n+1,X,t=>by
  unfold zd1;split
  ·simp
  ·refine Yz (ztX n _ _) ?_;simp;omega
theorem zB5 (X:RcvR α):(zdd X).length≤128:=by
 unfold zdd;split
 ·simp
 ·exact ztT _ _ _
theorem ztY (X:RcvR α) (ns:Int) (l:α):(zaG X ns l).told.length≤X.kept.length+1∧(zaG X ns l).asks.length≤128:=by
 unfold zaG;split
 ·simp
 ·refine⟨Yz (ztX _ _ _) oS,?_⟩;have:=ztV (zdd (zd1 (X.kept.length+1) { X with kept:=zt X.kept ns l } []).1) (zd1 (X.kept.length+1) { X with kept:=zt X.kept ns l } []).1.asked []
  have:=zB5 (zd1 (X.kept.length+1) { X with kept:=zt X.kept ns l } []).1;dsimp only;simp at *; omega
theorem zAc (X:RcvR α) (ns:Int) (l:α):(zaG X ns l).X.size=X.size:=by
 have h:∀ (n:Nat) (X:RcvR α) (t:List α),(zd1 n X t).1.size=X.size:=by
  intro n
  induction n with
  | zero=>intro X t;rfl
  | succ n ih=>
   intro X t;unfold zd1;split
   ·rfl
   ·rw[ih]
 unfold zaG;split
 ·rfl
 ·simp_all
end
theorem LkAt.kept (h:LkAt B0 M0 S0 B M e p X):X.R.kept.length≤128:=by
 obtain⟨xs,vs,h1,_⟩:=h.ex;obtain⟨mv,h2,hk,hI⟩:=rcvP.opn (h1.part 2 rfl);have:=zs1 h2 hk hI
 have e:=congrArg List.length hk.keys;simp at e;omega
theorem zp5 (h:LkAt B0 M0 S0 B M e p X) (x:CtlX) (hn:X.out.length+70≤1000000000):CallsM prog 276 [ptr e,x.v] M fun v M'=>v = .tuple #[]∧LkTo B0 M0 S0 B M' e (zfO X x.x):=by
 obtain⟨⟨kind,ns,nr,pl,me,peer,data⟩,q,c⟩:=x;obtain⟨xs,vs,h1,h3⟩:=h.ex;have hI:=h.inv
 refine zoa oS ?_;unfold zfO;dsimp only;refine zR ?_;refine h1.stoV 0 rfl oS fun M2 h2=>?_
 have h4:LkAt B0 M0 S0 B M2 e p { X with busy:=decide (kind=3) }:=⟨⟨xs,vs,h2,h3⟩,⟨hI.me,hI.timer,hI.left,hI.tries,hI.tried,hI.size⟩⟩
 refine zM (ztW h4 nr) ?_;rintro v M3 ⟨rfl,B3,p3,hb3,h5⟩;have a1:=(zmt { X with busy:=decide (kind=3) } nr).1
 refine zR ?_;refine(zms h5 (by grind)).mono ?_;rintro v M4 ⟨rfl,B4,p4,hb4,h6⟩;have a2:=(ziD (zcz { X with busy:=decide (kind=3) } nr)).1
 rw[a1] at a2;dsimp only at a2;obtain⟨Y,hY⟩:=oI (zcQ (zcz { X with busy:=decide (kind=3) } nr));rw[←hY] at h6 a2 ⊢;have hb:=Yc hb3 hb4
 obtain⟨xs6,vs6,h7,h8⟩:=h6.ex;have hI6:=h6.inv
 have ht6:=hI6.timer;refine zA (h7) ?_;refine zfs (fun b=>?_) (fun b=>?_)
 rotate_left
 ·rw[if_neg (c:=Y.busy=true∧0<Y.S.all.length∧Y.left=0) (fun h=>by simp_all)];refine zR ?_;cases pl with
  | false=>
   refine zR ?_;rw[if_neg oD];exact⟨rfl,B4,p4,hb,h6⟩
  | true=>
   refine zR ?_;refine(zeS h6 (by omega)).mono ?_;rintro v M8 ⟨rfl,p8,h12⟩;refine zR ?_;rw[if_pos rfl];exact⟨rfl,B4,p8,hb,h12⟩
 refine zA (h7) ?_;refine zJ (ztU h6.S) ?_;refine brn (fun g=>?_) (fun g=>?_)
 rotate_left
 ·rw[if_neg (c:=Y.busy=true∧0<Y.S.all.length∧Y.left=0) (fun h=>by simp_all)];refine zR ?_;cases pl with
  | false=>
   refine zR ?_;rw[if_neg oD];exact⟨rfl,B4,p4,hb,h6⟩
  | true=>
   refine zR ?_;refine(zeS h6 (by omega)).mono ?_;rintro v M8 ⟨rfl,p8,h12⟩;refine zR ?_;rw[if_pos rfl];exact⟨rfl,B4,p8,hb,h12⟩
 have g1:0<Y.S.all.length:=by have:=Zd0 g;omega
 refine zA (h7) ?_;refine brn (fun g=>?_) (fun g=>?_)
 rotate_left
 ·rw[if_neg (c:=Y.busy=true∧0<Y.S.all.length∧Y.left=0) (fun h=>by simp_all)];refine zR ?_;cases pl with
  | false=>
   refine zR ?_;rw[if_neg oD];exact⟨rfl,B4,p4,hb,h6⟩
  | true=>
   refine zR ?_;refine(zeS h6 (by omega)).mono ?_;rintro v M8 ⟨rfl,p8,h12⟩;refine zR ?_;rw[if_pos rfl];exact⟨rfl,B4,p8,hb,h12⟩
 rw[if_pos (c:=Y.busy=true∧0<Y.S.all.length∧Y.left=0) ⟨b,g1,Zd0 g⟩];refine zA (h7) ?_;refine h7.stoV 0 rfl oS fun M7 h9=>?_
 have h10:LkAt B0 M0 S0 B4 M7 e p4 { Y with left:=Y.timer }:=⟨⟨xs6,vs6,h9,h8⟩,⟨hI6.me,hI6.timer,⟨by grind,Yae _⟩,hI6.tries,hI6.tried,hI6.size⟩⟩
 refine zR ?_;cases pl with
 | false=>
  refine zR ?_;rw[if_neg oD];exact⟨rfl,B4,p4,hb,h10⟩
 | true=>
  refine zR ?_;refine(zeS h10 (by grind)).mono ?_;rintro v M8 ⟨rfl,p8,h12⟩;refine zR ?_;rw[if_pos rfl];exact⟨rfl,B4,p8,hb,h12⟩
theorem zp6 (h:LkAt B0 M0 S0 B M e p X) (x:CtlX) (hn:X.out.length<1000000000):CallsM prog 275 [ptr e,x.v] M fun v M'=>v = .tuple #[]∧LkTo B0 M0 S0 B M' e (zgB X x.x):=by
 obtain⟨⟨kind,ns,nr,pl,me,peer,data⟩,q,c⟩:=x;obtain⟨xs,vs,h1,h3⟩:=h.ex;have hI:=h.inv
 refine zn9 oS ?_;unfold zgB;dsimp only;refine zA (h1) ?_;refine(zp4 (h1.part 1 rfl) nr).mono ?_;rintro v M6 ⟨a6,c6,rfl,hN6⟩;refine brn (fun g=>?_) (fun g=>?_)
 rotate_left
 ·rw[if_neg (Zd1 g)];refine zR ?_;exact⟨rfl,(h.up hN6.le).to⟩
 rw[if_pos (Zd0 g)];obtain⟨B1,hb1,hrow1,h9⟩:=(h1.newR hN6).cede 5 rfl;have hcap:(zcX X.S nr).length≤c6:=(newSl_iff.1 hN6).2.2.1
 have h10:LkAt B0 M0 S0 B1 M6 e p X:=⟨⟨xs,vs,h9,h3.1,fun x hx=>(h3.2.1 x hx).le hb1,h3.2.2.le hb1⟩,hI⟩
 refine zM (zmr h10 hrow1 hcap hn) ?_;rintro v M7 ⟨rfl,p7,h11⟩;refine zR ?_;exact⟨rfl,B1,p7,hb1,h11⟩
end
section
variable {B0 M0 B M:Mem} {S0:Nat→Prop} {e:Nat} {p:LP} {X:za8}
theorem ztZ {α:Type} [Pay α]:∀ (l:List Int) (X:LnkR α),(zdQ l X).out.length=X.out.length+l.length
 | [],X=>rfl
 | n::r,X=>by rw[zdQ,ztZ r];simp[LnkR.add];omega
theorem zDX {vs:List Value} {ls:List (List UInt8)} (h:Brows B vs ls):∀ u∈vs,u.oneCell'=true:=fun u hu=>by
 obtain⟨i,hi,e⟩:=List.mem_iff_getElem.1 hu;have hl:i<ls.length:=by have:=h.1;omega
 obtain⟨q,c,e2,_⟩:=h.2 i u ls[i] (by rw[Yb hi,e]) (Yb hl);rw[e2];rfl
theorem zDY {vs ws:List Value} {ls ms:List (List UInt8)} (h:Brows B vs ls) (h':Brows B ws ms):Brows B (vs++ws) (ls++ms):=by
 have h0:=h.1;have h1:=h'.1
 refine⟨by simp[h0,h1],fun i v l hv hl=>?_⟩;rcases Ydo i ls.length with hi|hi
 ·rw[Yag oM] at hv hl;exact h.2 i v l hv hl
 ·rw[Yan oM] at hv hl;rw[h0] at hv;exact h'.2 _ v l hv hl
theorem zp7 (h:LkAt B0 M0 S0 B M e p X) (x:CtlX) (hx:x.ok B) (hn:X.out.length+300≤1000000000) (hi:X.inn.length+200≤1000000000):CallsM prog 274 [ptr e,x.v] M fun v M'=>v = .tuple #[]∧LkTo B0 M0 S0 B M' e (zeR X x.x):=by
 obtain⟨⟨kind,ns,nr,pl,me,peer,data⟩,q,c⟩:=x;obtain⟨xs,vs,h1,h3⟩:=h.ex;have hI:=h.inv
 refine zn8 oS ?_;refine zM (ztW h nr) ?_;rintro v M3 ⟨rfl,B3,p3,hb3,h5⟩;have a1:=zmt X nr
 refine zM (zms h5 (by rw[a1.1];omega)) ?_;rintro v M4 ⟨rfl,B4,p4,hb4,h6⟩;have a2:=ziD (zcz X nr)
 rw[a1.1,a1.2] at a2;obtain⟨Y,hY⟩:=oI (zcQ (zcz X nr));rw[←hY] at h6 a2;have hb:=Yc hb3 hb4
 have hI6:=h6.inv;obtain⟨xs6,vs6,h7,h8⟩:=h6.ex;cases pl
 case' false=>
  refine zR ?_;obtain⟨Z,hZ⟩:=oI Y;obtain⟨pp,hp⟩:=oI p4;have hL:=h6
  rw[←hZ,←hp] at hL;have hC:zeR X ⟨kind,ns,nr,false,me,peer,data⟩=zdX (if Z.held then Z else zdQ (zaG Z.R ns data).asks { Z with R:=(zaG Z.R ns data).X,inn:=Z.inn++(zaG Z.R ns data).told }):=by rw[hZ,hY];rfl
 case' true=>
  refine zA (h7) ?_;refine(zv5 (h7.part 2 rfl)).mono ?_;rintro v M9 ⟨rfl,ma,t6⟩;have h29:=h7.call 2 rfl t6
  have hL:LkAt B0 M0 S0 B4 M9 e { p4 with am:=ma } { Y with R:={ Y.R with asked:=[] } }:=⟨⟨xs6,vs6,h29,h8⟩,⟨hI6.me,hI6.timer,hI6.left,hI6.tries,hI6.tried,hI6.size⟩⟩
  refine zR ?_;obtain⟨Z,hZ⟩:=oI (({ Y with R:={ Y.R with asked:=[] } }:za8));have hC:zeR X ⟨kind,ns,nr,true,me,peer,data⟩=zdX (if Z.held then Z else zdQ (zaG Z.R ns data).asks { Z with R:=(zaG Z.R ns data).X,inn:=Z.inn++(zaG Z.R ns data).told }):=by rw[hZ,hY];rfl
  obtain⟨pp,hp⟩:=oI (({ p4 with am:=ma }:LP));rw[←hZ,←hp] at hL
 all_goals
  have hZo:Z.out.length≤X.out.length+65:=by rw[hZ];exact a2.1
  have hZi:Z.inn=X.inn:=by rw[hZ];exact a2.2
  clear hZ;obtain⟨xs9,vs9,h9,h10,h11,h12⟩:=hL.ex;have hI9:=hL.inv
  have hk9:=hL.kept;refine zA (h9) ?_;refine zfs (fun u=>?_) (fun u=>?_)
  ·rw[if_pos u] at hC;refine zM (zeS hL oM) ?_;rintro v M8 ⟨rfl,p8,h13⟩;refine zR ?_;exact⟨rfl,B4,p8,hb,by rw[hC];exact h13⟩
  rw[if_neg (by rw[u];decide)] at hC;have ht:=ztY Z.R ns data
  have hts:=zAc Z.R ns data;refine zA (h9) ?_;refine(zz7 (h9.part 2 rfl) ns (hx.1.le hb) hx.2).mono ?_;rintro v M9 ⟨B5,qt,ct,ws,qa,ca,rfl,hb5,hws,hR5,has,t5⟩;have h13:=h9.call 2 rfl t5
  obtain⟨T,hT⟩:=oI (zaG Z.R ns data);rw[←hT] at ht hts hws hR5 has h13 hC ⊢;refine zA (h13) ?_;refine zb2 (hws.le h13.le) ?_;have hwl:=hws.len
  refine h13.appV 4 rfl (by rw[hZi];omega) (by rw[hZi];simp[maxLen];omega) (zDX hR5) fun a14 c14 M14 hc14 h14=>?_
  refine zA (h14) ?_;refine h14.stoV 0 rfl oS fun M15 h15=>?_
  have hil:T.told.length=ws.length:=by rw[hR5.1]
  have h16:LkAt B0 M0 S0 B5 M15 e { pp with qi:=a14,ci:=c14 } { Z with R:=T.X,inn:=Z.inn++T.told }:=⟨⟨xs9,vs9++ws,h15.c (by simp[zd,zz8]),h10,fun x hx=>(h11 x hx).le hb5,zDY (h12.le hb5) hR5⟩,⟨hI9.me,hI9.timer,hI9.left,hI9.tries,hI9.tried,by dsimp only;rw[hts];exact hI9.size⟩⟩
  refine zR ?_
  refine zak (σ:=Nat×Mem×za8×LP) [51] (fun x=>[(51,.int .i64 x.1)]) (fun _=>[]) (fun x=>x.2.1)
   (fun|⟨i,Mx,W,pw⟩=>LkAt B0 M0 S0 B5 Mx e pw W∧i≤T.asks.length∧zdQ (T.asks.drop i) W=zdQ T.asks { Z with R:=T.X,inn:=Z.inn++T.told }∧W.out.length=Z.out.length+i) (fun x=>T.asks.length - x.1)
   ⟨0,M15,{ Z with R:=T.X,inn:=Z.inn++T.told },{ pp with qi:=a14,ci:=c14 }⟩ ⟨h16,Y5 _,rfl,rfl⟩ zS ?_
  rintro ⟨i,Mx,W,pw⟩ ⟨h17,hiT,hsr,hwo⟩;obtain⟨xsw,vsw,h18,h19⟩:=h17.ex;refine brn (fun g=>?_) (fun g=>?_)
  ·have hlt:i<T.asks.length:=by have:=Zd0 g;dsimp only at this;omega
   obtain⟨hl0,b0,o0,e0,hrow0⟩:=(has.le h18.le).at hlt;refine ob oN ?_;refine atp e0 ?_;refine on hrow0 ?_;refine zA (h18) ?_;refine(zcE h17 ⟨⟨4,0,T.asks[i],false,0,W.peer,[]⟩,none,0⟩ ⟨Ydg _,Yd _⟩ oM).mono ?_;rintro v M20 ⟨rfl,p20,h20⟩;refine zP ?_;refine⟨⟨i+1,M20,W.add ⟨4,0,T.asks[i],false,0,W.peer,[]⟩,p20⟩,⟨h20,hlt,?_,by simp[LnkR.add];omega⟩,by dsimp only;omega,zS⟩;rw[←hsr,Y2 hl0];rfl
  ·have hge:i=T.asks.length:=by have:=Zd1 g;dsimp only at this;omega
   rw[hge,Yaf (Yd _)] at hsr;have hsr:W=_:=hsr
   refine zM (zeS h17 oM) ?_;rintro v M21 ⟨rfl,p21,h21⟩;refine zR ?_;exact⟨rfl,B5,p21,Yc hb hb5,by rw[hC,←hsr];exact h21⟩
end
section
def nrK (k:Int):Bool:=decide (1≤k∧k≤4)
def peK (k:Int):Bool:=decide ((1≤k∧k≤4)∨k=6∨k=7)
theorem zIp (k:Int) (M:Mem):CallsM prog 217 [.int .i64 k] M fun v M'=>v = .tuple #[.bool (decide (k=1)),.bool (nrK k),.bool (peK k),.bool (decide (k=1))]∧M=M':=by
 refine znt oS ?_
 repeat' (first|refine⟨?_,True.intro⟩|refine brn (fun g=>?_) (fun g=>?_)|fail)
 all_goals (simp only[decide_eq_true_eq,decide_eq_false_iff_not] at *)
 all_goals (
  try (refine zR ?_)
  try ((conv=>whnf))
  refine⟨?_,rfl⟩;unfold nrK peK
  congr 3<;>first|rfl|(simp;omega)|skip)
theorem zrU (n most:Int) (M:Mem):CallsM prog 218 [.int .i64 n,.int .i64 most] M fun v M'=>v = .bool (decide (0≤n∧n≤most))∧M=M':=by
 refine zn5 oS ?_;refine brn (fun g=>?_) (fun g=>?_)
 ·have g:=Zd0 g;refine zR ?_;exact⟨by simp_all,rfl⟩
 ·have g:=Zd1 g;refine zR ?_;exact⟨by grind,rfl⟩
theorem zim (x:CtlX) (M:Mem):CallsM prog 139 [x.v] M fun v M'=>v = .int .i64 (zcj x.x)∧M=M':=by
 obtain⟨⟨kind,ns,nr,pl,me,peer,data⟩,q,c⟩:=x;refine zqv (by simp) ?_;refine zR ?_;refine(zIp kind M).mono ?_;rintro v _ ⟨rfl,rfl⟩;dsimp only;(conv=>whnf);refine brn (fun g=>?_) (fun g=>?_)
 ·have g1:=Zd0 g;refine zR ?_;(conv=>whnf)
  refine⟨?_,rfl⟩;unfold zcj;rw[zep];dsimp only;rw[if_pos (.inl g1)]
 have g1:¬kind<1:=Zd1 g;(conv=>whnf);refine brn (fun g=>?_) (fun g=>?_)
 ·have g2:=Zd0 g;refine zR ?_;(conv=>whnf)
  refine⟨?_,rfl⟩;unfold zcj;rw[zep];dsimp only;rw[if_pos (.inr g2)]
 have g2:¬7<kind:=Zd1 g;refine zR ?_;refine(zrU _ _ M).mono ?_;rintro v _ ⟨rfl,rfl⟩;(conv=>whnf);refine brn (fun g=>?_) (fun g=>?_)
 ·have g3:¬(0≤ns∧ns≤127):=Zd1 (by simpa only [Yah] using g);refine zR ?_;(conv=>whnf)
  refine⟨?_,rfl⟩;unfold zcj;rw[zep];dsimp only;rw[if_neg (by omega),if_pos (by omega)]
 have g3:0≤ns∧ns≤127:=Zd0 (by simpa only [Ybq] using g);refine zR ?_;refine(zrU _ _ M).mono ?_;rintro v _ ⟨rfl,rfl⟩;(conv=>whnf);refine brn (fun g=>?_) (fun g=>?_)
 ·have g4:¬(0≤nr∧nr≤127):=Zd1 (by simpa only [Yah] using g);refine zR ?_;(conv=>whnf)
  refine⟨?_,rfl⟩;unfold zcj;rw[zep];dsimp only;rw[if_neg (by omega),if_pos (by omega)]
 have g4:0≤nr∧nr≤127:=Zd0 (by simpa only [Ybq] using g);refine zR ?_;refine(zrU _ _ M).mono ?_;rintro v _ ⟨rfl,rfl⟩;(conv=>whnf);refine brn (fun g=>?_) (fun g=>?_)
 ·have g5:¬(0≤me∧me≤65535):=Zd1 (by simpa only [Yah] using g);refine zR ?_;(conv=>whnf)
  refine⟨?_,rfl⟩;unfold zcj;rw[zep];dsimp only;rw[if_neg (by omega),if_pos (by omega)]
 have g5:0≤me∧me≤65535:=Zd0 (by simpa only [Ybq] using g);refine zR ?_;refine(zrU _ _ M).mono ?_;rintro v _ ⟨rfl,rfl⟩;(conv=>whnf);refine brn (fun g=>?_) (fun g=>?_)
 ·have g6:¬(0≤peer∧peer≤65535):=Zd1 (by simpa only [Yah] using g);refine zR ?_;(conv=>whnf)
  refine⟨?_,rfl⟩;unfold zcj;rw[zep];dsimp only;rw[if_neg (by omega),if_pos (by omega)]
 have g6:0≤peer∧peer≤65535:=Zd0 (by simpa only [Ybq] using g);have hk:kind=1∨kind=2∨kind=3∨kind=4∨kind=5∨kind=6∨kind=7:=by omega
 clear g;unfold zcj;rw[zep,if_neg (by dsimp only;omega),if_neg (by dsimp only;omega)];dsimp only;obtain⟨n,hn⟩:∃ n,n=data.length:=⟨_,rfl⟩
 rw[←hn];clear hn;rcases hk with rfl|rfl|rfl|rfl|rfl|rfl|rfl
 all_goals repeat' ((conv=>whnf);first|refine brn_t rfl ?_|refine brn_f rfl ?_|refine brn (fun g=>?_) (fun g=>?_)|fail)
 all_goals (
  try (refine zR ?_)
  try ((conv=>whnf))
  refine⟨?_,rfl⟩;congr 1
  simp at *)
 all_goals (try omega)
 all_goals (repeat' split)
 all_goals (first|omega|trace_state)
end
section
variable {B0 M0 B M:Mem} {S0:Nat→Prop} {e:Nat} {p:LP} {X:za8}
theorem zAd (h:LkAt B0 M0 S0 B M e p X) (x:CtlX) (hx:x.ok B) (hn:X.out.length+300≤1000000000) (hi:X.inn.length+200≤1000000000):CallsM prog 192 [ptr e,x.v] M fun v M'=>v = .tuple #[]∧LkTo B0 M0 S0 B M' e (zgb X x.x):=by
 obtain⟨⟨kind,ns,nr,pl,me,peer,data⟩,q,c⟩:=x;obtain⟨xs,vs,h1,h3⟩:=h.ex;refine zpo oS ?_;refine zA (h1) ?_;refine zfs (fun u=>?_) (fun u=>?_)
 ·refine zR ?_;have hF:zgb X ⟨kind,ns,nr,pl,me,peer,data⟩=if kind=1 then zeR X ⟨kind,ns,nr,pl,me,peer,data⟩ else if kind=4 then zgB X ⟨kind,ns,nr,pl,me,peer,data⟩ else zfO X ⟨kind,ns,nr,pl,me,peer,data⟩:=by unfold zgb;rw[show (if X.up=true then X else zdK X)=X from if_pos u]
  refine brn (fun g=>?_) (fun g=>?_)
  ·have g1:kind=1:=Zd0 g;refine zM (zp7 h ⟨⟨kind,ns,nr,pl,me,peer,data⟩,q,c⟩ hx hn hi) ?_;rintro v M2 ⟨rfl,h2⟩;refine zR ?_;rw[hF,if_pos g1];exact⟨rfl,h2⟩
  rw[if_neg (Zd1 g)] at hF;refine brn (fun g=>?_) (fun g=>?_)
  ·have g1:kind=4:=Zd0 g;refine zR ?_;refine(zp6 h ⟨⟨kind,ns,nr,pl,me,peer,data⟩,q,c⟩ (by omega)).mono ?_;rintro v M2 ⟨rfl,h2⟩;refine zR ?_;rw[hF,if_pos g1];exact⟨rfl,h2⟩
  rw[if_neg (Zd1 g)] at hF;refine zR ?_;refine(zp5 h ⟨⟨kind,ns,nr,pl,me,peer,data⟩,q,c⟩ (by omega)).mono ?_;rintro v M2 ⟨rfl,h2⟩;refine zR ?_;rw[hF];exact⟨rfl,h2⟩
 ·refine zM (zlf h) ?_;rintro v M1 ⟨rfl,h5⟩;refine zR ?_;have hF:zgb X ⟨kind,ns,nr,pl,me,peer,data⟩=if kind=1 then zeR (zdK X) ⟨kind,ns,nr,pl,me,peer,data⟩ else if kind=4 then zgB (zdK X) ⟨kind,ns,nr,pl,me,peer,data⟩ else zfO (zdK X) ⟨kind,ns,nr,pl,me,peer,data⟩:=by unfold zgb;rw[show (if X.up=true then X else zdK X)=(zdK X) from if_neg (by simp_all)]
  refine brn (fun g=>?_) (fun g=>?_)
  ·have g1:kind=1:=Zd0 g;refine zM (zp7 h5 ⟨⟨kind,ns,nr,pl,me,peer,data⟩,q,c⟩ hx hn hi) ?_;rintro v M2 ⟨rfl,h2⟩;refine zR ?_;rw[hF,if_pos g1];exact⟨rfl,h2⟩
  rw[if_neg (Zd1 g)] at hF;refine brn (fun g=>?_) (fun g=>?_)
  ·have g1:kind=4:=Zd0 g;refine zM (zp6 h5 ⟨⟨kind,ns,nr,pl,me,peer,data⟩,q,c⟩ (by first|omega|(dsimp only [zdK];omega))) ?_;rintro v M2 ⟨rfl,h2⟩;refine zR ?_;rw[hF,if_pos g1];exact⟨rfl,h2⟩
  rw[if_neg (Zd1 g)] at hF;refine zM (zp5 h5 ⟨⟨kind,ns,nr,pl,me,peer,data⟩,q,c⟩ (by first|omega|(dsimp only [zdK];omega))) ?_;rintro v M2 ⟨rfl,h2⟩;refine zR ?_;rw[hF];exact⟨rfl,h2⟩
theorem zuP (h:LkAt B0 M0 S0 B M e p X) (x:CtlX) (hx:x.ok B) (hn:X.out.length+300≤1000000000) (hi:X.inn.length+200≤1000000000):CallsM prog 125 [ptr e,x.v] M fun v M'=>v = .int .i64 (zcj x.x)∧LkTo B0 M0 S0 B M' e (if zcj x.x=0 then zde X x.x else X):=by
 obtain⟨xs,vs,h1,h3⟩:=h.ex;obtain⟨w,hw⟩:=oI x;obtain⟨⟨kind,ns,nr,pl,me,peer,data⟩,q,c⟩:=x;refine zl9 oS ?_;refine brn_f rfl ?_;refine zJ (zim ⟨⟨kind,ns,nr,pl,me,peer,data⟩,q,c⟩ M) ?_;refine brn (fun g=>?_) (fun g=>?_)
 ·have g1:zcj (⟨kind,ns,nr,pl,me,peer,data⟩:zdD)≠0:=by simpa using g
  refine zR ?_;rw[if_neg g1];exact⟨rfl,h.to⟩
 have g1:zcj (⟨kind,ns,nr,pl,me,peer,data⟩:zdD)=0:=by simpa using g
 rw[if_pos g1];have hR:zde X ⟨kind,ns,nr,pl,me,peer,data⟩=if kind=5 then zd2 X ⟨kind,ns,nr,pl,me,peer,data⟩ else if kind=6 then uaL X ⟨kind,ns,nr,pl,me,peer,data⟩ else if kind=7 then dmL X ⟨kind,ns,nr,pl,me,peer,data⟩ else if me=X.peer∧peer=X.me then zgb X ⟨kind,ns,nr,pl,me,peer,data⟩ else if X.up then X else X.add ⟨7,0,0,false,0,me,[]⟩:=rfl
 refine brn (fun g=>?_) (fun g=>?_)
 ·refine zM (zxR h ⟨⟨kind,ns,nr,pl,me,peer,data⟩,q,c⟩ oM) ?_;rintro v M2 ⟨rfl,p2,h2⟩;refine zR ?_;rw[hR,if_pos (Zd0 g)];exact⟨by rw[g1],h2.to⟩
 rw[if_neg (Zd1 g)] at hR;refine brn (fun g=>?_) (fun g=>?_)
 ·refine zM (zDV h ⟨⟨kind,ns,nr,pl,me,peer,data⟩,q,c⟩) ?_;rintro v M2 ⟨rfl,p2,h2⟩;refine zR ?_;rw[hR,if_pos (Zd0 g)];exact⟨by rw[g1],h2.to⟩
 rw[if_neg (Zd1 g)] at hR;refine brn (fun g=>?_) (fun g=>?_)
 ·refine zM (zDW h ⟨⟨kind,ns,nr,pl,me,peer,data⟩,q,c⟩ oM) ?_;rintro v M2 ⟨rfl,p2,h2⟩;refine zR ?_;rw[hR,if_pos (Zd0 g)];exact⟨by rw[g1],h2.to⟩
 rw[if_neg (Zd1 g)] at hR;refine zA (h1) ?_;refine brn (fun g=>?_) (fun g=>?_)
 rotate_left
 ·rw[if_neg (fun h=>Zd1 g h.1)] at hR;refine zA (h1) ?_;refine zfs (fun u=>?_) (fun u=>?_)
  ·rw[if_pos u] at hR;refine zR ?_;rw[hR];exact⟨by rw[g1],h.to⟩
  ·rw[if_neg (by simp_all)] at hR;refine zM (zcE h ⟨⟨7,0,0,false,0,me,[]⟩,none,0⟩ ⟨Ydg _,Yd _⟩ oM) ?_;rintro v M2 ⟨rfl,p2,h2⟩;refine zR ?_;rw[hR];exact⟨by rw[g1],h2.to⟩
 have g2:me=X.peer:=Zd0 g;refine zA (h1) ?_;refine brn (fun g=>?_) (fun g=>?_)
 rotate_left
 ·rw[if_neg (fun h=>Zd1 g h.2)] at hR;refine zA (h1) ?_;refine zfs (fun u=>?_) (fun u=>?_)
  ·rw[if_pos u] at hR;refine zR ?_;rw[hR];exact⟨by rw[g1],h.to⟩
  ·rw[if_neg (by simp_all)] at hR;refine zM (zcE h ⟨⟨7,0,0,false,0,me,[]⟩,none,0⟩ ⟨Ydg _,Yd _⟩ oM) ?_;rintro v M2 ⟨rfl,p2,h2⟩;refine zR ?_;rw[hR];exact⟨by rw[g1],h2.to⟩
 rw[if_pos ⟨g2,Zd0 g⟩] at hR;refine zM (zAd h ⟨⟨kind,ns,nr,pl,me,peer,data⟩,q,c⟩ hx hn hi) ?_;rintro v M2 ⟨rfl,h2⟩;refine zR ?_;rw[hR];exact⟨by rw[g1],h2⟩
theorem zv7 (h:LkAt B0 M0 S0 B M e p X):CallsM prog 62 [ptr e] M fun v M'=>v = .bool X.up∧M=M':=by
 obtain⟨xs,vs,h1,h3⟩:=h.ex;refine zrB oS ?_;refine zA (h1) ?_;exact⟨rfl,rfl⟩
theorem zoh (h:LkAt B0 M0 S0 B M e p X):CallsM prog 71 [ptr e] M fun v M'=>v = .int .i64 X.resets∧M=M':=by
 obtain⟨xs,vs,h1,h3⟩:=h.ex;refine zno oS ?_;refine zA (h1) ?_;exact⟨rfl,rfl⟩
end
section
variable {B0 M0 B M:Mem} {S0:Nat→Prop} {e:Nat} {p:LP} {X:za8}
theorem zB6 (h:LkAt B0 M0 S0 B M e p X):CallsM prog 74 [ptr e] M fun v M'=>∃ (B':Mem) (q:Option Addr) (c:Nat) (xs:List CtlX) (p':LP),v = .slice q X.out.length c∧B.le B'∧SrcOk B' 7 q X.out.length (xs.flatMap CtlX.cs)∧xs.map CtlX.x=X.out∧(∀ x∈xs,x.ok B')∧LkAt B0 M0 S0 B' M' e p' { X with out:=[] }:=by
 obtain⟨xs,vs,h1,h2,h3,h4⟩:=h.ex;have hI:=h.inv
 refine zqs oS ?_;refine zA (h1) ?_;refine h1.stoV 0 rfl oS fun M2 h5=>?_
 refine zR ?_;obtain⟨B',hb,hs,h6⟩:=h5.take 3 rfl;exact⟨B',p.qo,p.co,xs,{ p with qo:=none,co:=0 },rfl,hb,hs,h2,fun x hx=>(h3 x hx).le hb,⟨⟨[],vs,h6,rfl,fun x hx=>absurd hx oS,h4.le hb⟩,⟨hI.me,hI.timer,hI.left,hI.tries,hI.tried,hI.size⟩⟩⟩
theorem zDZ (h:LkAt B0 M0 S0 B M e p X):CallsM prog 126 [ptr e] M fun v M'=>∃ B' q c vs p',v = .slice q X.inn.length c∧B.le B'∧SrcOk B' 1 q X.inn.length vs∧Brows B' vs X.inn∧LkAt B0 M0 S0 B' M' e p' { X with inn:=[] }:=by
 obtain⟨xs,vs,h1,h2,h3,h4⟩:=h.ex;have hI:=h.inv
 refine zrC oS ?_;refine zA (h1) ?_;refine h1.stoV 0 rfl oS fun M2 h5=>?_
 refine zR ?_;obtain⟨B',hb,hs,h6⟩:=h5.take 4 rfl;exact⟨B',p.qi,p.ci,vs,{ p with qi:=none,ci:=0 },rfl,hb,hs,h4.le hb,⟨⟨xs,[],h6,h2,fun x hx=>(h3 x hx).le hb,Ydr⟩,⟨hI.me,hI.timer,hI.left,hI.tries,hI.tried,hI.size⟩⟩⟩
theorem zB7 {me size timer tries:Int} (hm:0≤me∧me≤65535) (hs:1≤size∧size≤63) (ht:1≤timer∧timer≤64) (hr:1≤tries∧tries≤64) {ps:List Pt} (h:At B0 M0 S0 B M ps) :
  CallsM prog 41 [.int .i64 me,.int .i64 size,.int .i64 timer,.int .i64 tries] M fun v M'=>∃ e p,v = .tuple #[ptr e,.int .i64 0]∧M.le M'∧LkAt B M (fun _=>False) B M' e p (zv2 me size timer tries):=by
 refine zxz oS ?_;refine brn_f (decide_eq_false oM) ?_;refine brn_f (decide_eq_false oM) ?_;refine brn_f (decide_eq_false oM) ?_;refine brn_f (decide_eq_false oM) ?_;refine brn_f (decide_eq_false oM) ?_;refine brn_f (decide_eq_false oM) ?_;refine zR ?_;have h0:At B M (fun _=>False) B M []:=⟨h.le,fun p hp=>(by cases hp),List.Pairwise.nil,⟨Ya _,Yas _ _,fun _ h => .inl h,fun y ⟨p,hp,_⟩=>by cases hp⟩⟩
 refine(zB3 h0 hs).mono ?_;rintro v M1 ⟨s,rfl,h1⟩;refine zM (zB2 h1 hs) ?_;rintro v M2 ⟨r,mk,ma,rfl,h2⟩;refine zR ?_;refine h2.newV fun e M3 h3=>?_
 have h4:=(h3.row0 163 7).row0 37 1;have h5:=h4.perm ((List.Perm.cons _ (List.Perm.swap _ _ _)).trans (List.Perm.swap _ _ _))
 have h6:LkAt B M (fun _=>False) B M3 e ⟨s,none,0,r,mk,ma,none,0,none,0⟩ ⟨me, -1,false,size,timer,tries,0,0,0,false,false,⟨size,0,[],0⟩,⟨size,0,[],[]⟩,[],[]⟩:=
  ⟨⟨[],[],h5,rfl,fun x hx=>absurd hx oS,Ydr⟩,⟨hm,ht,⟨Yae _,by grind⟩,hr,⟨Yae _,by grind⟩,rfl,rfl⟩⟩
 refine zM (zlc h6 false oS) ?_;rintro v M4 ⟨rfl,p4,h7⟩;obtain⟨xs,vs,h8,_⟩:=h7.ex;refine zR ?_;exact⟨e,p4,rfl,fun y o ho=>h8.tn.keep y o (fun h=>h) ho,h7⟩
end
end Go.Proofs.YtlgbofpennelhaaGreat
namespace Go.Proofs.YtlgbofpennelhaaGreat
open Go Go.Vm
attribute [local irreducible] Brn Ob Grow CallsM inR zI zF Mem.row Mem.cells Mem.setCells Mem.upd Go.Vm.Own zZ zaj zam zO New SrcOk subA NewSl Mem.textAt Mem.mapAt Mem.iterAt zC zB Wr NewEls Elems
set_option maxRecDepth 10000
def zdj (t:Bool):List UInt8→Option (List UInt8)
 | []=>if t then none else some []
 | x::r=>if x=126 then none else if t then (if x=94∨x=93 then (zdj false r).map ((x ^^^ 32) :: ·) else none) else if x=125 then zdj true r else (zdj false r).map (x :: ·)
def dnN (n:Nat):Nat:=if n % 2=1 then (n / 2) ^^^ 33800 else n / 2
def zs2 (n:Nat):Nat→Nat
 | 0=>n
 | k+1=>dnN (zs2 n k)
def zrV (n:Nat) (b:UInt8):Nat:=zs2 (n ^^^ b.toNat) 8
def zmu (l:List UInt8):Nat:=l.foldl zrV 65535
def zex (l:List UInt8):Nat:=65535 - zmu l
theorem zIq {n:Nat} (h:n<65536):dnN n<65536:=by
 unfold dnN;split
 ·exact Ydt (n:=16) oM oM
 ·omega
theorem zs3 {n:Nat} (h:n<65536):∀ k,zs2 n k<65536
 | 0=>h
 | k+1=>zIq (zs3 h k)
theorem zD0 {n:Nat} (h:n<65536) (b:UInt8):zrV n b<65536:=zs3 (Ydt (n:=16) oM (by have:=Ya5 b;omega)) 8
theorem zv8:∀ (l:List UInt8) {n:Nat},n<65536→l.foldl zrV n<65536
 | [],_,h=>h
 | b::l,_,h=>zv8 l (zD0 h b)
theorem zyI (l:List UInt8):zmu l<65536:=zv8 l oD
theorem zB8 (l:List UInt8) (b:UInt8):zmu (l++[b])=zrV (zmu l) b:=by unfold zmu;rw[Ya0];rfl
def zjU (q:List UInt8):Bool:=decide (2≤q.length∧zex (q.take (q.length - 2)) % 256=(q.getD (q.length - 2) 0).toNat∧zex (q.take (q.length - 2)) / 256=(q.getD (q.length - 1) 0).toNat)
theorem zqK:∀ {l:List UInt8} {t:Bool} {q:List UInt8},zdj t l=some q→q.length≤l.length
 | [],t,q,e=>by
  unfold zdj at e;split at e
  ·cases e
  ·simp_all
 | x::r,t,q,e=>by
  unfold zdj at e
  have key:∀ {y:UInt8},(zdj false r).map (y :: ·)=some q→q.length≤r.length+1:=fun {y} e=>by
   cases hr:zdj false r with
   | none=>simp_all
   | some q'=>rw[hr] at e;cases e;have:=zqK hr;simpa using this
  split at e
  ·cases e
  ·split at e
   ·grind
   ·split at e
    ·have:=zqK e;simp;omega
    ·exact key e
end Go.Proofs.YtlgbofpennelhaaGreat
namespace Go.Vm.Rn
open Go.Vm
def lim (k:IntKind):Nat:=match k with | .i8=>128 | .i16=>32768 | .i32=>2147483648 | .i64=>9223372036854775808 | .u8=>256 | .u16=>65536 | .u32=>4294967296 | .u64=>18446744073709551616
theorem zqL (k:IntKind) {n:Nat} (h:n<lim k):k.wrap (n:Int)=n:=by
 cases k<;>simp only[lim] at h<;>simp only[IntKind.wrap,IntKind.bits,IntKind.signed]<;>simp<;>omega
theorem zGz (k:IntKind):∃ m,lim k=2 ^ m∧m≤k.bits:=by
 cases k
 ·exact⟨7,rfl,by decide⟩
 ·exact⟨15,rfl,by decide⟩
 ·exact⟨31,rfl,by decide⟩
 ·exact⟨63,rfl,by decide⟩
 ·exact⟨8,rfl,by decide⟩
 ·exact⟨16,rfl,by decide⟩
 ·exact⟨32,rfl,by decide⟩
 ·exact⟨64,rfl,by decide⟩
theorem bits_nat {q:IntKind} {a b:Nat} (ha:a<lim q) (hb:b<lim q) :
  zD .and q a b=((Nat.land a b:Nat):Int)∧zD .or q a b=((Nat.lor a b:Nat):Int)∧zD .xor q a b=((Nat.xor a b:Nat):Int):=by
 obtain⟨m,hm,hmb⟩:=zGz q;have hp:2 ^ m≤2 ^ q.bits:=Yd7 oD hmb
 have ea:(BitVec.ofInt q.bits (a:Int))=BitVec.ofNat q.bits a:=Ydd ..;have eb:(BitVec.ofInt q.bits (b:Int))=BitVec.ofNat q.bits b:=Ydd ..
 rw[hm] at ha hb;have ma:a % 2 ^ q.bits=a:=Ybj oM
 have mb:b % 2 ^ q.bits=b:=Ybj oM;refine⟨?_,?_,?_⟩
 ·unfold zD;simp only[ea,eb,BitVec.toNat_and,Yct,ma,mb];exact zqL q (by rw[hm];exact Nat.and_lt_two_pow a hb)
 ·unfold zD;simp only[ea,eb,BitVec.toNat_or,Yct,ma,mb];exact zqL q (by rw[hm];exact Nat.or_lt_two_pow ha hb)
 ·unfold zD;simp only[ea,eb,BitVec.toNat_xor,Yct,ma,mb];exact zqL q (by rw[hm];exact Ydt ha hb)
end Go.Vm.Rn
namespace Go.Proofs.YtlgbofpennelhaaGreat
open Go Go.Vm Go.Proofs.Tryz
attribute [local irreducible] Brn Ob Grow CallsM inR zI zF Mem.row Mem.cells Mem.setCells Mem.upd Go.Vm.Own zZ zaj zam zO New SrcOk subA NewSl Mem.textAt Mem.mapAt Mem.iterAt zC zB Wr NewEls Elems
set_option maxRecDepth 10000
section
variable {M:Mem}
theorem zJz {a b:Nat} (ha:a<2147483648) (hb:b<2147483648):zD .xor .u32 (a:Int) (b:Int)=((a ^^^ b:Nat):Int):=(Rn.bits_nat (q := .u32) (Ycd ha oD) (Ycd hb oD)).2.2
theorem zyJ {a:Nat} (ha:a<2147483648):zD .and .u32 (a:Int) 1=((a % 2:Nat):Int):=by
 have h:=(Rn.bits_nat (q := .u32) (a:=a) (b:=1) (Ycd ha oD) oD).1;rw[show ((1:Nat):Int)=1 from rfl] at h;rw[h];exact congrArg Nat.cast (Nat.and_one_is_mod a)
theorem zD1 {r:Nat} (hr:r<65536):CallsM prog 292 [.int .u32 r,.int .u32 33800] M fun v M'=>v = .int .u32 (dnN r:Nat)∧M=M':=by
 have hd:(r:Int).fdiv (2 ^ (min (Int.toNat 1) (IntKind.bits .u32)))=((r / 2:Nat):Int):=by
  rw[show (2:Int) ^ (min (Int.toNat 1) (IntKind.bits .u32))=2 from rfl,Yb5 _ oD];rfl
 refine zpX oS ?_;refine brn (fun g=>?_) (fun g=>?_)
 ·have g':=Zd0 g;rw[zyJ oM] at g';refine zR ?_;refine⟨?_,rfl⟩;rw[hd];have h2:=zJz (a:=r / 2) (b:=33800) oM oM
  erw [h2];unfold dnN;rw[if_pos oM]
 ·have g':=Zd1 g;rw[zyJ oM] at g';refine zR ?_;refine⟨?_,rfl⟩;rw[hd];unfold dnN;rw[if_neg oM]
theorem zD2 {r:Nat} (hr:r<65536) (b:UInt8):CallsM prog 288 [.int .u16 r,zc b] M fun v M'=>v = .int .u16 (zrV r b:Nat)∧M=M':=by
 have hb:=Ya5 b
 have h0:zD .xor .u16 (r:Int) (IntKind.u16.wrap (b.toNat:Int))=((r ^^^ b.toNat:Nat):Int):=by
  rw[show IntKind.u16.wrap (b.toNat:Int)=((b.toNat:Nat):Int) by simp[IntKind.wrap,IntKind.signed,IntKind.bits];omega];exact(Rn.bits_nat (q := .u16) (Ycd hr oD) (Ycd hb oD)).2.2
 have hx:r ^^^ b.toNat<65536:=Ydt (n:=16) oM oM;have h1:IntKind.u32.wrap ((r ^^^ b.toNat:Nat):Int)=((r ^^^ b.toNat:Nat):Int):=by simp[IntKind.wrap,IntKind.signed,IntKind.bits];omega
 refine zxJ oS ?_;refine zem (σ:=Nat) [11,5] (fun q=>[(11,.int .i64 q),(5,.int .u32 (zs2 (r ^^^ b.toNat) q:Nat))]) (fun q=>q≤8) (fun q=>8 - q) 0 oM ?_ ?_
 ·erw [h0,h1];exact zS
 intro q hq;have hq':=zs3 hx q
 refine brn (fun g3=>?_) (fun g3=>?_)
 ·have hlt3:q<8:=by have:=Zd0 g3;omega
  refine zN (zD1 hq') ?_;refine obr (inR_i64 (by omega)) ?_;exact⟨q+1,by omega,by omega,zS⟩
 ·have hge:q=8:=by have:=Zd1 g3;omega
  subst hge;refine zR ?_;refine⟨?_,rfl⟩;rw[show IntKind.u16.wrap ((zs2 (r ^^^ b.toNat) 8:Nat):Int)=((zs2 (r ^^^ b.toNat) 8:Nat):Int) by simp[IntKind.wrap,IntKind.signed,IntKind.bits];omega];rfl
end
section
variable {M:Mem}
theorem zGA {r:Nat} (h:r<65536):65535 ^^^ r=65535 - r:=by
 have h1:=congrArg BitVec.toNat (BitVec.allOnes_xor (x:=BitVec.ofNat 16 r));rw[BitVec.toNat_xor,BitVec.toNat_not,Yct,BitVec.toNat_allOnes,Ybj h] at h1;exact h1
theorem zIr (x y:UInt8):zD .or .u16 (IntKind.u16.wrap (x.toNat:Int)) (IntKind.u16.wrap (IntKind.u16.wrap (y.toNat:Int)*2 ^ min (Int.toNat 8) IntKind.u16.bits))=((256*y.toNat+x.toNat:Nat):Int):=by
 have hX:=Ya5 x;have hY:=Ya5 y
 have h1:IntKind.u16.wrap (x.toNat:Int)=((x.toNat:Nat):Int):=by simp[IntKind.wrap,IntKind.signed,IntKind.bits];omega
 have h2:IntKind.u16.wrap (IntKind.u16.wrap (y.toNat:Int)*2 ^ min (Int.toNat 8) IntKind.u16.bits)=((256*y.toNat:Nat):Int):=by simp[IntKind.wrap,IntKind.signed,IntKind.bits];omega
 rw[h1,h2,(Rn.bits_nat (q := .u16) (a:=x.toNat) (b:=256*y.toNat) (show x.toNat<65536 by omega) (show 256*y.toNat<65536 by omega)).2.1];have h3:=Nat.shiftLeft_add_eq_or_of_lt (i:=8) (b:=x.toNat) oM y.toNat
 rw[Nat.shiftLeft_eq,show (2:Nat) ^ 8=256 from rfl] at h3;refine congrArg Nat.cast ?_;show x.toNat ||| (256*y.toNat)=_
 rw[Nat.or_comm,Yd6 256];omega
def zJA (l:List UInt8):Nat→Nat
 | 0=>65535
 | _+1=>zmu l
theorem zyK {b E:Nat} {a:Option Addr} {n c:Nat} {l:List UInt8} (hb:M.has b E [.slice a n c]) (hs:SrcOk M 1 a n (l.map zc)) (hn:n≤4194304) :
  CallsM prog 219 [.slice (some ⟨b,0,none⟩) 1 1] M fun v M'=>v = .int .u16 (zex l:Nat)∧M=M':=by
 refine zzS oS ?_;have hl:=hs.maplen
 refine zem (σ:=Nat) [10,3] (fun i=>[(10,.int .i64 i),(3,.int .u16 (zJA l i:Nat))]) (fun i=>i≤1) (fun i=>1 - i) 0 oM zS ?_;intro i hi;refine brn (fun g=>?_) (fun g=>?_)
 ·have hlt:i=0:=by have:=Zd0 g;omega
  subst hlt;refine zQ hb ?_;refine zem (σ:=Nat) [16,3] (fun j=>[(16,.int .i64 j),(3,.int .u16 (zmu (l.take j):Nat))]) (fun j=>j≤n) (fun j=>n - j) 0 oM zS ?_;intro j hj;refine brn (fun g2=>?_) (fun g2=>?_)
  ·have hlt2:j<n:=by have:=Zd0 g2;omega
   obtain⟨hk,b2,o2,ha2,hr2⟩:=hs.at hlt2;have htk2:l.take (j+1)=l.take j++[l[j]]:=by rw[Y1,Yb hk];rfl
   refine ob (by omega) ?_;refine atp ha2 ?_;refine on hr2 ?_;refine zN (zD2 (zyI _) _) ?_;refine obr (inR_i64 (by omega)) ?_;refine⟨j+1,by omega,by omega,?_⟩;rw[htk2,zB8];exact zS
  ·have hge:j=n:=by have:=Zd1 g2;omega
   subst hge;refine zP ?_;refine⟨1,by omega,by omega,?_⟩;rw[Yf oM];exact zS
 ·have hge:i=1:=by have:=Zd1 g;omega
  subst hge;refine zR ?_;refine⟨?_,rfl⟩;have:=zyI l
  have e:=(Rn.bits_nat (q := .u16) (a:=65535) (b:=zmu l) oD (Ycd this oD)).2.2;have e2:((Nat.xor 65535 (zmu l):Nat):Int)=((zex l:Nat):Int):=congrArg Nat.cast (zGA this)
  exact congrArg (Value.int .u16) (Eq.trans e e2)
theorem zB9 {a:Option Addr} {n c:Nat} {l:List UInt8} (hs:SrcOk M 1 a n (l.map zc)) (hn:n≤4194304) (hc:n≤c) :
  CallsM prog 337 [.slice a n c] M fun v M'=>v = .bool (zjU l)∧M.le M':=by
 refine zvK oS ?_;have hl:=hs.maplen
 (conv=>whnf);refine obr (inR_i64 (by omega)) ?_;(conv=>whnf)
 refine⟨M,Ya _,?_⟩;(conv=>whnf);refine brn (fun g=>?_) (fun g=>?_)
 ·have g':=Zd0 g;have e1:((n:Int) - 2).toNat=n - 2:=by omega
  have e2:((n:Int) - 2+1).toNat=n - 1:=by omega
  obtain⟨hk,b,o,ha,hr⟩:=hs.at (i:=n - 2) oM;obtain⟨hk2,b',o',ha',hr2⟩:=hs.at (i:=n - 1) oM;rw[ha] at ha';cases ha';obtain⟨x,hx⟩:=oI (l[n - 2]);obtain⟨y,hy⟩:=oI (l[n - 1]);rw[←hx,←e1] at hr;rw[←hy,←e2] at hr2;refine ob (by omega) ?_;refine ob (by omega) ?_;refine atp ha ?_;refine on hr ?_;refine obr (inR_i64 (by omega)) ?_;refine ob (by omega) ?_;refine atp ha ?_;refine on hr2 ?_;(conv=>whnf);refine ob (by decide) ?_;refine zR ?_;refine new (fun q hq=>?_);replace hq:M q=none:=hq;have hle:M.le (M.setCells q 37 [.slice (subA a (Int.toNat 0) c 1) (((n:Int) - 2).toNat - Int.toNat 0) (c - Int.toNat 0)]):=Yw hq
  refine zR ?_;have hsub:=(hs.subm (lo:=0) (hi:=((n:Int) - 2).toNat) oM oM hc).le hle
  refine zJ (zyK (l:=(l.drop 0).take (((n:Int) - 2).toNat - 0)) Yg hsub oM) ?_;refine grow_same hle ?_;refine⟨?_,hle⟩;congr 1;rw[e1,Ycn,Ycr];unfold zjU;have hfl:zex (l.take (n - 2))<65536:=by unfold zex;omega
  rw[hl,Ys,Yb hk,Ys,Yb hk2,Option.getD_some,Option.getD_some,←hx,←hy];have hX:=Ya5 x
  have hY:=Ya5 y;rw[zIr x y];exact decide_eq_decide.2 oM
 ·have g':=Zd1 g;refine zR ?_;exact⟨by rw[zjU,decide_eq_false oM],Ya _⟩
end
section
variable {M:Mem}
def zfb (q:List UInt8) (t:Bool) (r:List UInt8):Option (List UInt8):=(zdj t r).map (q ++ ·)
theorem zCa (q:List UInt8) (r:List UInt8):zfb q false (125::r)=zfb q true r:=rfl
theorem zCb {q:List UInt8} {x:UInt8} {r:List UInt8} (h1:x≠126) (h2:x≠125):zfb q false (x::r)=zfb (q++[x]) false r:=by
 unfold zfb;rw[zdj,if_neg h1,if_neg oD,if_neg h2];cases zdj false r<;>simp
theorem zt0 {q:List UInt8} {x:UInt8} {r:List UInt8} (h:x=94∨x=93):zfb q true (x::r)=zfb (q++[x ^^^ 32]) false r:=by
 unfold zfb;rw[zdj,if_neg (by grind),if_pos rfl,if_pos h];cases zdj false r<;>simp
theorem zJB {q:List UInt8} {t:Bool} {r:List UInt8}:zfb q t (126::r)=none:=by rfl
theorem zCc {q:List UInt8} {x:UInt8} {r:List UInt8} (h:¬(x=94∨x=93)):zfb q true (x::r)=none:=by
 unfold zfb;rw[zdj];split
 ·rfl
 ·rfl
theorem zkC {x:UInt8} {n:Nat} (hn:n<256):((x.toNat:Int)=(n:Int))↔x=UInt8.ofNat n:=by
 constructor
 ·intro h;rw[←UInt8.ofNat_toNat (x:=x)];congr 1;omega
 ·rintro rfl;rw[Yc2,Ybj hn]
theorem zmv (x:UInt8):Value.int .u8 (zD .xor .u8 (x.toNat:Int) 32)=zc (x ^^^ 32):=by
 have:=Ya5 x;have h:=(Rn.bits_nat (q := .u8) (a:=x.toNat) (b:=32) (show x.toNat<256 by omega) oD).2.2
 rw[show ((32:Nat):Int)=32 from rfl] at h;rw[h];rfl
theorem zD3 {a:Option Addr} {n c:Nat} {l:List UInt8} (hs:SrcOk M 1 a n (l.map zc)) (hn:n≤4194304) :
  CallsM prog 336 [.slice a n c] M fun v M'=>M.le M'∧((zdj false l=none∧v = .tuple #[.slice none 0 0,.int .i64 2])∨∃ q a' c',zdj false l=some q∧v = .tuple #[.slice a' q.length c',.int .i64 0]∧NewSl M 5 1 a' q.length c' (q.map zc) M'):=by
 refine zqC oS ?_;have hl:=hs.maplen
 have hK0:zdj false l=zfb [] false l:=by unfold zfb;cases zdj false l<;>simp
 refine zak (σ:=Nat×Bool×List UInt8×Nat×Option Addr×Nat×Mem) [10,4,5] (fun y=>[(10,.int .i64 y.1),(4,.slice y.2.2.2.2.1 y.2.2.2.1 y.2.2.2.2.2.1),(5,.c (.v (.bool y.2.1)))]) (fun _=>[]) (fun y=>y.2.2.2.2.2.2)
  (fun|⟨i,t,q,k,a',c',Mc⟩=>i≤n∧k≤i∧NewSl M 5 1 a' k c' (q.map zc) Mc∧zdj false l=zfb q t (l.drop i)) (fun y=>n - y.1) ⟨0,false,[],0,none,0,M⟩ ⟨by omega,by omega,Yaw M _ _,hK0⟩ zS ?_
 rintro ⟨i,t,q,k,a',c',Mc⟩ ⟨hi,hq,hN,hK⟩;have hqk:q.length=k:=by simpa using hN.src.maplen
 refine brn (fun e=>?_) (fun e=>?_)
 ·have hlt:i<n:=by have:=Zd0 e;dsimp only at this;omega
  obtain⟨hk1,b1,o1,e1,hr1⟩:=(hs.le hN.le).at hlt;rw[Y2 hk1] at hK;generalize l[i]=x at *;have hx:=Ya5 x
  refine ob (by omega) ?_;refine atp e1 ?_;refine on hr1 ?_;refine brn (fun g=>?_) (fun g=>?_)
  ·have g':x=126:=(zkC (n:=126) oD).1 (Zd0 g);subst g';refine zR ?_;refine⟨hN.le,.inl ⟨by assumption,rfl⟩⟩
  have hne:x≠126:=fun e=>Zd1 g (by subst e;rfl)
  cases t
  case true=>
   refine brn (fun k1=>?_) (fun k1=>?_)
   ·(conv=>whnf);refine brn (fun k2=>?_) (fun k2=>?_)
    ·have n1:x≠94:=fun e=>by simp_all
     have n2:x≠93:=fun e=>by simp_all
     rw[zCc (by simp_all)] at hK;refine zR ?_;exact⟨hN.le,.inl ⟨hK,rfl⟩⟩
    ·have hx1:x=93:=(zkC (n:=93) oD).1 (by simp_all);have h2:x=94∨x=93:=by first|exact .inl hx1|exact .inr hx1
     rw[zt0 h2] at hK;refine zR ?_;refine zb8 M _ hN (by grind) (by unfold maxLen;dsimp only;omega) (by intro u hu;simp at hu;subst hu;rfl) (fun a2 c2 M2 h4=>?_);rw[show [Value.int IntKind.u8 (zD BinOp.xor IntKind.u8 (x.toNat:Int) 32)]=[x ^^^ 32].map zc from congrArg (fun v=>[v]) (zmv x),←Yv] at h4;refine zR ?_;refine obr (inR_i64 (by omega)) ?_;exact⟨⟨i+1,false,q++[x ^^^ 32],k+1,a2,c2,M2⟩,⟨by omega,by omega,h4,hK⟩,by omega,zS⟩
   ·have hx1:x=94:=(zkC (n:=94) oD).1 (by simp_all);have h2:x=94∨x=93:=by first|exact .inl hx1|exact .inr hx1
    rw[zt0 h2] at hK;refine zR ?_;refine zb8 M _ hN (by grind) (by unfold maxLen;dsimp only;omega) (by intro u hu;simp at hu;subst hu;rfl) (fun a2 c2 M2 h4=>?_);rw[show [Value.int IntKind.u8 (zD BinOp.xor IntKind.u8 (x.toNat:Int) 32)]=[x ^^^ 32].map zc from congrArg (fun v=>[v]) (zmv x),←Yv] at h4;refine zR ?_;refine obr (inR_i64 (by omega)) ?_;exact⟨⟨i+1,false,q++[x ^^^ 32],k+1,a2,c2,M2⟩,⟨by omega,by omega,h4,hK⟩,by omega,zS⟩
  case false=>
   refine brn (fun k1=>?_) (fun k1=>?_)
   ·have hx1:x=125:=(zkC (n:=125) oD).1 (Zd0 k1);subst hx1;rw[zCa] at hK;refine zR ?_;refine obr (inR_i64 (by omega)) ?_;exact⟨⟨i+1,true,q,k,a',c',Mc⟩,⟨by omega,by omega,hN,hK⟩,by omega,zS⟩
   ·have hx1:x≠125:=fun e=>by simp_all
    rw[zCb hne hx1] at hK;refine zR ?_;refine zb8 M _ hN (by grind) (by unfold maxLen;dsimp only;omega) (zaA [x]) (fun a2 c2 M2 h4=>?_);rw[show [zc x]=[x].map zc from rfl,←Yv] at h4;refine zR ?_;refine obr (inR_i64 (by omega)) ?_;exact⟨⟨i+1,false,q++[x],k+1,a2,c2,M2⟩,⟨by omega,by omega,h4,hK⟩,by omega,zS⟩
 ·have hge:i=n:=by have:=Zd1 e;dsimp only at this;omega
  subst hge;rw[Yaf oM] at hK;cases t
  case true=>
   refine zR ?_;exact⟨hN.le,.inl ⟨hK,rfl⟩⟩
  case false=>
   refine zR ?_;subst hqk;exact⟨hN.le,.inr ⟨q,a',c',by rw[hK];simp[zfb,zdj],rfl,hN⟩⟩
end
end Go.Proofs.YtlgbofpennelhaaGreat
namespace Go.Proofs.YtlgbofpennelhaaGreat
open Go Go.Vm Go.Proofs.Tryz
attribute [local irreducible] Brn Ob Grow CallsM inR zI zF Mem.row Mem.cells Mem.setCells Mem.upd Go.Vm.Own zZ zaj zam zO New SrcOk subA NewSl Mem.textAt Mem.mapAt Mem.iterAt zC zB Wr NewEls Elems zc9 zeK zfF zef zeg
set_option maxRecDepth 10000
section
variable {B0 M0 B M:Mem} {S0:Nat→Prop}
structure zdR where
 hunts:Bool
 inn:List UInt8
 told:List (List UInt8)
def zgq (X:zdR):List (List UInt8):=match zdj false X.inn with
 | none=>X.told
 | some q=>if 3≤q.length∧zjU q=true∧q.length≤130 then X.told++[q.take (q.length - 2)] else X.told
def zbQ (X:zdR) (b:UInt8):zdR:=
 if b=126 then ⟨false,[],if X.hunts=false∧X.inn≠[] then zgq X else X.told⟩
 else if X.hunts then X else if X.inn.length=260 then ⟨true,[],X.told⟩ else { X with inn:=X.inn++[b] }
def zbH (X:zdR) (l:List UInt8):zdR:=l.foldl zbQ X
structure DQ where
 q:Option Addr
 c:Nat
 t:Option Addr
 tc:Nat
 s:Int×Int×Int×Int×Int
@[reducible] def zAe (X:zdR) (p:DQ):List Value:=[.bool X.hunts,.slice p.q X.inn.length p.c,.int .i64 p.s.1,.int .i64 p.s.2.1,.int .i64 p.s.2.2.1,.int .i64 p.s.2.2.2.1,.int .i64 p.s.2.2.2.2,.slice p.t X.told.length p.tc]
@[reducible] def zgL (d:Nat) (p:DQ) (X:zdR) (ts:List Value):List Pt:=[zby d 190 (zAe X p),zaB 5 1 p.q X.inn.length p.c (X.inn.map zc),zaB 37 1 p.t X.told.length p.tc ts]
def zAf (d:Nat) (p:DQ):Nat→Prop:=fun y=>y=d∨blk p.q y∨blk p.t y
theorem zCd {d:Nat} {p:DQ} {X:zdR} {ts:List Value} (h:At B0 M0 S0 B M (zgL d p X ts)) (hR:Brows B ts X.told) (hl:X.inn.length≤260) (hT:X.told.length≤100000) :
  CallsM prog 272 [ptr d] M fun v M'=>v = .tuple #[]∧∃ B' p' ts',B.le B'∧At B0 M0 S0 B' M' (zgL d p' { X with told:=zgq X } ts')∧Brows B' ts' (zgq X):=by
 refine znv oS ?_;refine zA (h) ?_;refine(zD3 (h.row 1 rfl).src oM).mono ?_;rintro v M1 ⟨hle,hv⟩;rcases hv with ⟨hu,rfl⟩|⟨q,a',c',hu,rfl,hN⟩
 ·have e:zgq X=X.told:=by unfold zgq;rw[hu]
  have h1:=h.up hle;have hbb:=Ya B
  have hRB:=hR;refine zR ?_;refine zem (σ:=Unit) [] (fun _=>[]) (fun _=>True) (fun _=>0) () trivial zS ?_;intro _ _;refine zA (h1) ?_;refine obw ?_;refine h1.stoV 0 rfl oS fun M9 h9=>?_
  refine zR ?_;exact⟨rfl,_,⟨p.q,p.c,p.t,p.tc,(p.s.1,p.s.2.1,p.s.2.2.1,p.s.2.2.2.1,inc p.s.2.2.2.2)⟩,ts,hbb,by rw[e];exact h9,by simp_all⟩
 ·have hql:=zqK hu;have hcap:q.length≤c':=(newSl_iff.1 hN).2.2.1
  obtain⟨B1,hbb,hsrc,h1⟩:=(h.newR hN).cede 3 rfl;have hRB:=hR.le hbb
  have e0:zgq X=if 3≤q.length∧zjU q=true∧q.length≤130 then X.told++[q.take (q.length - 2)] else X.told:=by unfold zgq;rw[hu]
  refine zR ?_;refine zem (σ:=Unit) [] (fun _=>[]) (fun _=>True) (fun _=>0) () trivial zS ?_;intro _ _;refine brn_f rfl ?_;refine brn (fun g=>?_) (fun g=>?_)
  ·have e:zgq X=X.told:=by rw[e0,if_neg (by grind)]
   refine zA (h1) ?_;refine obw ?_;refine h1.stoV 0 rfl oS fun M9 h9=>?_
   refine zR ?_;exact⟨rfl,_,⟨p.q,p.c,p.t,p.tc,(p.s.1,p.s.2.1,inc p.s.2.2.1,p.s.2.2.2.1,p.s.2.2.2.2)⟩,ts,hbb,by rw[e];exact h9,by simp_all⟩
  have g':=Zd1 g;refine zR ?_;refine(zB9 hN.src oM (by omega)).mono ?_;rintro v M2 ⟨rfl,hle2⟩;have h1:=h1.up hle2
  refine brn (fun g2=>?_) (fun g2=>?_)
  ·have e:zgq X=X.told:=by rw[e0,if_neg (fun h=>by simp_all)]
   refine zA (h1) ?_;refine obw ?_;refine h1.stoV 0 rfl oS fun M9 h9=>?_
   refine zR ?_;exact⟨rfl,_,⟨p.q,p.c,p.t,p.tc,(p.s.1,inc p.s.2.1,p.s.2.2.1,p.s.2.2.2.1,p.s.2.2.2.2)⟩,ts,hbb,by rw[e];exact h9,by simp_all⟩
  refine obr (inR_i64 oM) ?_;refine brn (fun g3=>?_) (fun g3=>?_)
  ·have e:zgq X=X.told:=by rw[e0,if_neg (by grind)]
   refine zA (h1) ?_;refine obw ?_;refine h1.stoV 0 rfl oS fun M9 h9=>?_
   refine zR ?_;exact⟨rfl,_,⟨p.q,p.c,p.t,p.tc,(p.s.1,p.s.2.1,p.s.2.2.1,inc p.s.2.2.2.1,p.s.2.2.2.2)⟩,ts,hbb,by rw[e];exact h9,by simp_all⟩
  have e:zgq X=X.told++[q.take (q.length - 2)]:=by rw[e0,if_pos ⟨by omega,by simp_all,by grind⟩]
  rw[e];refine zA (h1) ?_;refine obw ?_;refine h1.stoV 0 rfl oS fun M3 h3=>?_
  refine zA (h3) ?_;refine obr (inR_i64 oM) ?_;refine ob oM ?_;have f0:=Yd0 M3
  refine zR ?_;refine f0.newRV (s:=1) (n:=0) rfl fun e0 M4 f1=>?_
  refine zT (f1.le) ?_
  have hsub:SrcOk M4 1 (subA a' 0 c' 1) (q.length - 2) ((q.take (q.length - 2)).map zc):=by
   have:=((hsrc.le h3.le).le f1.le).subm (lo:=0) (hi:=q.length - 2) (c:=c') oM oM hcap
   rwa [Ycn,Ycr] at this
  refine zR ?_;rw[show ((q.length:Int) - 2).toNat - Int.toNat 0=q.length - 2 by omega];refine zb2 hsub ?_;refine f1.appV 0 rfl oM (by simp[maxLen];omega) (zaA _) fun a5 c5 M5 hc5 f2=>?_
  refine zT (f2.le) ?_;obtain⟨B2,hb2,hrow,h5⟩:=(h3.newR (f2.row 0 rfl)).cede 3 rfl;have hlen:(q.take (q.length - 2)).length=0+(q.length - 2):=by simp
  have hR2:=(hRB.le hb2).snoc (l:=q.take (q.length - 2)) (q:=a5) (c:=c5) (by omega) (by unfold Row;rw[hlen];rw[Yaa] at hrow;exact hrow);rw[hlen] at hR2;refine zR ?_;refine h5.appV 2 rfl oM (by simp[maxLen];omega) oC fun a6 c6 M6 hc6 h6=>?_
  refine zR ?_;refine h6.stoV 0 rfl (by simp[zd]) fun M7 h7=>?_
  refine zR ?_;exact⟨rfl,B2,⟨p.q,p.c,a6,c6,(inc p.s.1,p.s.2.1,p.s.2.2.1,p.s.2.2.2.1,p.s.2.2.2.2)⟩,ts++[.slice a5 (0+(q.length - 2)) c5],Yc hbb hb2,h7.c (by simp[zd,inc,zAe]),hR2⟩
end
section
variable {B0 M0 B M:Mem} {S0:Nat→Prop} {d:Nat} {p:DQ} {X:zdR}
theorem zD4 (X:zdR):(zgq X).length≤X.told.length+1:=by
 unfold zgq;split
 ·omega
 ·grind
theorem zoi (X:zdR) (b:UInt8) (h:X.inn.length≤260):(zbQ X b).inn.length≤260∧(zbQ X b).told.length≤X.told.length+1:=by
 have:=zD4 X;unfold zbQ;split
 ·grind
 ·grind
theorem zAg {ts:List Value} (h:At B0 M0 S0 B M (zgL d p X ts)) (hR:Brows B ts X.told) (hl:X.inn.length≤260) (hT:X.told.length≤100000) (b:UInt8) :
  CallsM prog 186 [ptr d,zc b] M fun v M'=>v = .tuple #[]∧∃ B' p' ts',B.le B'∧At B0 M0 S0 B' M' (zgL d p' (zbQ X b) ts')∧Brows B' ts' (zbQ X b).told:=by
 refine zmc oS ?_;have h126:((b.toNat:Int)=126)↔b=126:=zkC (n:=126) oD
 refine brn (fun g=>?_) (fun g=>?_)
 ·have g1:b=126:=h126.1 (Zd0 g);have hB:zbQ X b=⟨false,[],if X.hunts=false∧X.inn≠[] then zgq X else X.told⟩:=by unfold zbQ;rw[if_pos g1]
  refine zA (h) ?_;refine zfs (fun u=>?_) (fun u=>?_)
  ·rw[if_neg (fun h=>by simp_all)] at hB;have hbX:=Ya B
   refine zR ?_;refine h.stoV 0 rfl oS fun M8 h8=>?_
   refine zR ?_;refine h8.stoV 0 rfl (by simp[zd]) fun M9 h9=>?_
   refine zR ?_;exact⟨rfl,_,⟨none,0,p.t,p.tc,p.s⟩,ts,hbX,by rw[hB];exact h9.nil 1 rfl 5 1,by simp_all⟩
  refine zA (h) ?_;refine brn (fun g2=>?_) (fun g2=>?_)
  ·have g3:X.inn≠[]:=fun e=>by simp_all
   rw[if_pos ⟨u,g3⟩] at hB;refine zM (zCd h hR hl hT) ?_;rintro v M1 ⟨rfl,B1,p1,ts1,hb1,h1,hR1⟩;refine zR ?_;refine h1.stoV 0 rfl oS fun M8 h8=>?_
   refine zR ?_;refine h8.stoV 0 rfl (by simp[zd]) fun M9 h9=>?_
   refine zR ?_;exact⟨rfl,_,⟨none,0,p1.t,p1.tc,p1.s⟩,ts1,hb1,by rw[hB];exact h9.nil 1 rfl 5 1,by simp_all⟩
  ·have g3:X.inn=[]:=Y8 (by simp_all);rw[if_neg (fun h=>h.2 g3)] at hB;have hbX:=Ya B
   refine zR ?_;refine h.stoV 0 rfl oS fun M8 h8=>?_
   refine zR ?_;refine h8.stoV 0 rfl (by simp[zd]) fun M9 h9=>?_
   refine zR ?_;exact⟨rfl,_,⟨none,0,p.t,p.tc,p.s⟩,ts,hbX,by rw[hB];exact h9.nil 1 rfl 5 1,by simp_all⟩
 ·have g1:¬b=126:=fun e=>Zd1 g (h126.2 e)
  refine zA (h) ?_;refine zfs (fun u=>?_) (fun u=>?_)
  ·have hB:zbQ X b=X:=by unfold zbQ;rw[if_neg g1,if_pos u]
   refine zR ?_;exact⟨rfl,B,p,ts,Ya _,by simp_all,by simp_all⟩
  refine zA (h) ?_;refine brn (fun g2=>?_) (fun g2=>?_)
  ·have g3:X.inn.length=260:=by have:=Zd0 g2;omega
   have hB:zbQ X b=⟨true,[],X.told⟩:=by unfold zbQ;rw[if_neg g1,if_neg (by simp_all),if_pos g3]
   refine zA (h) ?_;refine obw ?_;refine h.stoV 0 rfl oS fun M7 h7=>?_
   refine zR ?_;refine h7.stoV 0 rfl (by simp[zd]) fun M8 h8=>?_
   refine zR ?_;refine h8.stoV 0 rfl (by simp[zd]) fun M9 h9=>?_
   refine zR ?_;exact⟨rfl,B,⟨none,0,p.t,p.tc,(p.s.1,p.s.2.1,p.s.2.2.1,inc p.s.2.2.2.1,p.s.2.2.2.2)⟩,ts,Ya _,by rw[hB];exact h9.nil 1 rfl 5 1,by simp_all⟩
  ·have g3:¬X.inn.length=260:=by have:=Zd1 g2;omega
   have hB:zbQ X b={ X with inn:=X.inn++[b] }:=by unfold zbQ;rw[if_neg g1,if_neg (by simp_all),if_neg g3]
   refine zA (h) ?_;refine h.appV 1 rfl oM (by simp[maxLen];omega) (zaA [b]) fun a4 c4 M4 hc4 h4=>?_
   refine zR ?_;refine h4.stoV 0 rfl oS fun M5 h5=>?_
   refine zR ?_;exact⟨rfl,B,⟨a4,c4,p.t,p.tc,p.s⟩,ts,Ya _,by rw[hB];exact h5.c (by simp[zd,zAe]),by simp_all⟩
theorem zt1:∀ (l:List UInt8) (X:zdR),X.inn.length≤260→(zbH X l).inn.length≤260
 | [],X,h=>h
 | b::r,X,h=>zt1 r (zbQ X b) (zoi X b h).1
theorem zAh {ts:List Value} (h:At B0 M0 S0 B M (zgL d p X ts)) (hR:Brows B ts X.told) (hl:X.inn.length≤260) (hT:X.told=[]) {a:Option Addr} {c:Nat} {l:List UInt8} (hp:SrcOk B 1 a l.length (l.map zc)) (hn:l.length≤90000) :
  CallsM prog 123 [ptr d,.slice a l.length c] M fun v M'=>∃ qt ct B' p' vs,v = .slice qt (zbH X l).told.length ct∧B.le B'∧SrcOk B' 1 qt (zbH X l).told.length vs∧Brows B' vs (zbH X l).told∧At B0 M0 S0 B' M' (zgL d p' { zbH X l with told:=[] } []):=by
 refine zl8 oS ?_;refine zR ?_
 refine zak (σ:=Nat×Mem×Mem×DQ×zdR×List Value) [15] (fun y=>[(15,.int .i64 y.1)]) (fun _=>[]) (fun y=>y.2.1)
  (fun|⟨i,Mc,Bc,pc,Y,tc⟩=>i≤l.length∧At B0 M0 S0 Bc Mc (zgL d pc Y tc)∧B.le Bc∧Brows Bc tc Y.told∧Y.inn.length≤260∧Y.told.length≤i∧zbH Y (l.drop i)=zbH X l) (fun y=>l.length - y.1) ⟨0,M,B,p,X,ts⟩ ⟨Y5 _,h,Ya _,hR,hl,by simp[hT],rfl⟩ zS ?_
 rintro ⟨i,Mc,Bc,pc,Y,tc⟩ ⟨hi,hc,hb,hRc,hlc,htc,hf⟩;refine brn (fun g=>?_) (fun g=>?_)
 ·have hlt:i<l.length:=by have:=Zd0 g;dsimp only at this;omega
  obtain⟨hk1,b1,o1,e1,hr1⟩:=((hp.le hb).le hc.le).at hlt;refine ob (by omega) ?_;refine atp e1 ?_;refine on hr1 ?_;refine zM (zAg hc hRc hlc oM l[i]) ?_;rintro v M2 ⟨rfl,B2,p2,ts2,hb2,h2,hR2⟩;have hlen:=zoi Y l[i] hlc
  refine zR ?_;refine obr (inR_i64 (by omega)) ?_;refine⟨⟨i+1,M2,B2,p2,zbQ Y l[i],ts2⟩,⟨hlt,h2,Yc hb hb2,hR2,hlen.1,by omega,?_⟩,by omega,zS⟩;rw[←hf,Y2 hk1];rfl
 ·have hge:i=l.length:=by have:=Zd1 g;dsimp only at this;omega
  rw[hge,Yaf (Yd _)] at hf;have hf:Y=zbH X l:=hf
  subst hf;refine zA (hc) ?_;refine hc.stoV 0 rfl oS fun M5 h5=>?_
  refine zR ?_;obtain⟨B',hb',hs,h6⟩:=h5.take 2 rfl;exact⟨pc.t,pc.tc,B',⟨pc.q,pc.c,none,0,pc.s⟩,tc,rfl,Yc hb hb',hs,hRc.le hb',h6⟩
end
section
variable {B0 M0 B M:Mem} {S0:Nat→Prop}
def u8 (e:Int):UInt8:=UInt8.ofNat e.toNat
theorem zIs {e:Int} (h:0≤e∧e<256):Value.int .u8 e=zc (u8 e):=by
 unfold zc u8;rw[Yc2,Ybj oM,Ydk h.1]
theorem zFT (n:Int):0≤IntKind.u8.wrap n∧IntKind.u8.wrap n<256:=by simp only[IntKind.wrap,IntKind.signed,IntKind.bits];simp;omega
theorem or8 (x y:Int):0≤zD .or .u8 x y∧zD .or .u8 x y<256:=by unfold zD;exact zFT _
def zs4 (p:Bool):Int:=if p then 1 else 0
def zjV (n k:Int):Int:=IntKind.u8.wrap (IntKind.u8.wrap n*2 ^ min (Int.toNat k) IntKind.u8.bits)
theorem zIt (n k:Int):0≤zjV n k∧zjV n k<256:=zFT _
def zjW (nr:Int) (p:Bool):UInt8:=u8 (zD .or .u8 (zjV nr 1) (zs4 p))
def hdC (c:zdD):List UInt8:=
 if c.kind=1 then [u8 (zjV c.ns 1),zjW c.nr c.p] else if c.kind=2∨c.kind=3 then [u8 (zD .or .u8 1 (zjV (IntKind.i64.wrap (c.kind - 2)) 2)),zjW c.nr c.p]
 else if c.kind=4 then [13,zjW c.nr c.p] else [u8 (zD .or .u8 (if c.kind=5 then 111 else if c.kind=6 then 99 else 15) (IntKind.u8.wrap (16*zs4 c.p)))]
def za9 (c:zdD):List UInt8:=[3]++hdC c++be 2 c.me++be 2 c.peer++c.data
def zfB (c:zdD):List UInt8:=if zcj c=0 then za9 c else []
theorem zs5 (c:zdD):(hdC c).length≤2:=by unfold hdC;by_cases h1:c.kind=1<;>by_cases h2:c.kind=2∨c.kind=3<;>by_cases h3:c.kind=4<;>simp[h1,h2,h3]
theorem zkD (c:zdD):(za9 c).length=1+(hdC c).length+4+c.data.length:=by unfold za9;simp[zcs];omega
theorem ziE {c:zdD} (h:zcj c=0):c.data.length≤121∧(0≤c.me∧c.me≤65535)∧(0≤c.peer∧c.peer≤65535)∧(1≤c.kind∧c.kind≤7)∧(0≤c.ns∧c.ns≤127)∧0≤c.nr∧c.nr≤127:=by
 unfold zcj at h;rw[zep] at h;dsimp only at h
 repeat' (split at h<;>try (first|(exfalso;revert h;decide)|skip))
 all_goals omega
theorem zrW (p:Bool) (M:Mem):CallsM prog 140 [.bool p] M fun v M'=>v = .int .u8 (zs4 p)∧M=M':=by
 refine zsL oS ?_;refine brn (fun g=>?_) (fun g=>?_)
 ·subst g;refine zR ?_;exact⟨rfl,rfl⟩
 ·subst g;refine zR ?_;exact⟨rfl,rfl⟩
theorem zv9 {a:Option Addr} {n c:Nat} {x:Int} {bs:List UInt8} (hs:SrcOk M 1 a n (bs.map zc)) (hn:n≤1000) (hx:0≤x∧x≤65535):CallsM prog 141 [.slice a n c,.int .u64 (IntKind.u64.wrap x),.int .i64 2] M fun v M'=>∃ a' c',v = .tuple #[.slice a' (n+2) c',.int .i64 0]∧NewSl M 5 1 a' (n+2) c' ((bs++be 2 x).map zc) M':=by
 have hw:IntKind.u64.wrap x=x:=by simp[IntKind.wrap,IntKind.signed,IntKind.bits];omega
 have hp:zch x 2=0:=by simp[zch,Yde];omega
 rw[hw];refine(zf8 a n c x 2 M bs hs oM).mono ?_;rintro v M1 (⟨h1, -⟩|⟨-, a1,c1,rfl,h1⟩)
 ·exact absurd hp h1
 ·exact⟨a1,c1,rfl,h1.new⟩
theorem zCe (x:CtlX) (hx:SrcOk M 1 x.q x.x.data.length (x.x.data.map zc)):CallsM prog 75 [x.v] M fun v M'=>∃ a' c',v = .tuple #[.slice a' (zfB x.x).length c',.int .i64 (zcj x.x)]∧NewSl M 5 1 a' (zfB x.x).length c' ((zfB x.x).map zc) M':=by
 have hck:=zim x M;obtain⟨⟨kind,ns,nr,pl,me,peer,data⟩,q,c⟩:=x;refine zsH oS ?_;refine zR ?_;refine hck.mono ?_;rintro v _ ⟨rfl,rfl⟩;refine brn (fun g=>?_) (fun g=>?_)
 ·have g1:zcj (⟨kind,ns,nr,pl,me,peer,data⟩:zdD)≠0:=by simpa using g
  have e:zfB ⟨kind,ns,nr,pl,me,peer,data⟩=[]:=by unfold zfB;rw[if_neg g1]
  refine zR ?_;rw[e];exact⟨none,0,rfl,Yaw _ _ _⟩
 have g1:zcj (⟨kind,ns,nr,pl,me,peer,data⟩:zdD)=0:=by simpa using g
 have e:zfB ⟨kind,ns,nr,pl,me,peer,data⟩=za9 ⟨kind,ns,nr,pl,me,peer,data⟩:=by unfold zfB;rw[if_pos g1]
 obtain⟨hd,hme,hpe,hk,hns,hnr⟩:=ziE g1;rw[e,g1];dsimp only at hd hme hpe hk hns hnr hx;have f0:=Yd0 M
 refine f0.newRV (s:=1) (n:=1) rfl fun b M1 f1=>?_
 refine zR ?_;refine(zrW pl M1).mono ?_;rintro v _ ⟨rfl,rfl⟩;refine zU ?_;refine brn (fun g=>?_) (fun g=>?_)
 focus
  have EQ:hdC ⟨kind,ns,nr,pl,me,peer,data⟩=[u8 (zjV ns 1),zjW nr pl]:=by unfold hdC;rw[if_pos (Zd0 g)]
  refine zR ?_
 rotate_left
 have n1:¬kind=1:=Zd1 g;refine brn (fun g=>?_) (fun g=>?_)
 focus
  have g2:kind=2∨kind=3 := .inl (Zd0 g);refine brn_t g ?_;have EQ:hdC ⟨kind,ns,nr,pl,me,peer,data⟩=[u8 (zD .or .u8 1 (zjV (IntKind.i64.wrap (kind - 2)) 2)),zjW nr pl]:=by unfold hdC;rw[if_neg n1,if_pos g2]
  refine obw ?_;refine zR ?_
 rotate_left
 have n2:¬kind=2:=Zd1 g;refine brn (fun g=>?_) (fun g=>?_)
 focus
  have g2:kind=2∨kind=3 := .inr (Zd0 g);have EQ:hdC ⟨kind,ns,nr,pl,me,peer,data⟩=[u8 (zD .or .u8 1 (zjV (IntKind.i64.wrap (kind - 2)) 2)),zjW nr pl]:=by unfold hdC;rw[if_neg n1,if_pos g2]
  refine obw ?_;refine zR ?_
 rotate_left
 have n3:¬kind=3:=Zd1 g;refine brn (fun g=>?_) (fun g=>?_)
 focus
  have EQ:hdC ⟨kind,ns,nr,pl,me,peer,data⟩=[13,zjW nr pl]:=by unfold hdC;rw[if_neg n1,if_neg (fun h=>h.elim n2 n3),if_pos (Zd0 g)]
  refine zR ?_
 rotate_left
 have n4:¬kind=4:=Zd1 g;refine brn (fun g=>?_) (fun g=>?_)
 focus
  have EQ:hdC ⟨kind,ns,nr,pl,me,peer,data⟩=[u8 (zD .or .u8 111 (IntKind.u8.wrap (16*zs4 pl)))]:=by
   unfold hdC;rw[if_neg n1,if_neg (fun h=>h.elim n2 n3),if_neg n4];dsimp only;rw[if_pos (Zd0 g)]
  refine zR ?_;refine(zrW pl M1).mono ?_;rintro v _ ⟨rfl,rfl⟩;refine zR ?_
 rotate_left
 have n5:¬kind=5:=Zd1 g;refine brn (fun g=>?_) (fun g=>?_)
 focus
  have EQ:hdC ⟨kind,ns,nr,pl,me,peer,data⟩=[u8 (zD .or .u8 99 (IntKind.u8.wrap (16*zs4 pl)))]:=by
   unfold hdC;rw[if_neg n1,if_neg (fun h=>h.elim n2 n3),if_neg n4];dsimp only;rw[if_neg n5,if_pos (Zd0 g)]
  refine zR ?_;refine(zrW pl M1).mono ?_;rintro v _ ⟨rfl,rfl⟩;refine zR ?_
 rotate_left
 focus
  have EQ:hdC ⟨kind,ns,nr,pl,me,peer,data⟩=[u8 (zD .or .u8 15 (IntKind.u8.wrap (16*zs4 pl)))]:=by
   unfold hdC;rw[if_neg n1,if_neg (fun h=>h.elim n2 n3),if_neg n4];dsimp only;rw[if_neg n5,if_neg (Zd1 g)]
  refine zR ?_;refine(zrW pl M1).mono ?_;rintro v _ ⟨rfl,rfl⟩;refine zR ?_
 all_goals
  refine f1.appV 0 rfl oM (by simp[maxLen]) oC fun a2 c2 M2 hc2 f2=>?_
  have hN2:NewSl M 5 1 a2 (1+(hdC ⟨kind,ns,nr,pl,me,peer,data⟩).length) c2 (([3]++hdC ⟨kind,ns,nr,pl,me,peer,data⟩).map zc) M2:=by
   rw[EQ];simp only[zjW,List.singleton_append,Yq,Ybz,←zIs (zIt _ _),←zIs (or8 _ _)];exact f2.row 0 rfl
  have hh:=congrArg List.length EQ;simp only[Ym,Yar] at hh;have e1:=zkD ⟨kind,ns,nr,pl,me,peer,data⟩
  rw[hh] at hN2 e1;refine zR ?_;refine(zv9 hN2.src oM hme).mono ?_;rintro v M3 ⟨a3,c3,rfl,hN3⟩;refine zR ?_;refine(zv9 hN3.src oM hpe).mono ?_;rintro v M4 ⟨a4,c4,rfl,hN4⟩;have hle4:=Yc (Yc hN2.le hN3.le) hN4.le
  refine zR ?_;refine zb2 (hx.le hle4) ?_;refine zb8 M3 _ hN4 oN (by unfold maxLen;first|omega|(dsimp only;omega)) (zaA _) (fun a5 c5 M5 hN5=>?_);have hN5':=hN5.mono (Yc hN2.le hN3.le)
  rw[e1];exact⟨a5,c5,rfl,by unfold za9;rw[Yv];exact hN5'⟩
end
section
variable {B0 M0 B M:Mem} {S0:Nat→Prop}
def zjp (b:UInt8):Int×Bool:=
 if zD .and .u8 (b.toNat:Nat) 1=0 then (1,true) else if (b.toNat:Int)=1 then (2,true) else if (b.toNat:Int)=5 then (3,true) else if (b.toNat:Int)=13 then (4,true)
 else if zD .andNot .u8 (b.toNat:Nat) 16=111 then (5,false) else if zD .andNot .u8 (b.toNat:Nat) 16=99 then (6,false) else if zD .andNot .u8 (b.toNat:Nat) 16=15 then (7,false) else (0,false)
def zjX (b:UInt8):Int:=IntKind.i64.wrap (((b.toNat:Nat):Int).fdiv (2 ^ min (Int.toNat 1) IntKind.u8.bits))
def zh8 (l:List UInt8):Int:=if (zjp (l.getD 1 0)).2 then 3 else 2
def zgr (l:List UInt8):zdD:=
 let k:=zjp (l.getD 1 0)
 ⟨k.1,if k.2=true∧k.1=1 then zjX (l.getD 1 0) else 0,if k.2 then zjX (l.getD 2 0) else 0,
  if k.2 then decide (zD .and .u8 ((l.getD 2 0).toNat:Nat) 1=1) else !decide (zD .and .u8 ((l.getD 1 0).toNat:Nat) 16=0),
  IntKind.i64.wrap (zaf l (zh8 l) 2),IntKind.i64.wrap (zaf l (zh8 l+2) 2),l.drop (zh8 l+4).toNat⟩
def zdk (l:List UInt8):Option zdD:=
 if l.length<6 then none else if l.getD 0 0≠3 then none else if (l.length:Int)<zh8 l+4 then none else if zcj (zgr l)=0 then some (zgr l) else none
theorem zGB (b:UInt8) (M:Mem):CallsM prog 187 [zc b] M fun v M'=>v = .tuple #[.int .i64 (zjp b).1,.bool (zjp b).2]∧M=M':=by
 refine zrF oS ?_;unfold zjp
 repeat' (first|refine brn (fun g=>?_) (fun g=>?_)|fail)
 all_goals (
  simp only[decide_eq_true_eq,decide_eq_false_iff_not] at *
  try (refine zR ?_)
  try ((conv=>whnf))
  refine⟨?_,rfl⟩;simp[*]
  try decide)
@[reducible] def zKL:Value := .agg #[.int .i64 0,.int .i64 0,.int .i64 0,.bool false,.int .i64 0,.int .i64 0,.slice none 0 0]
theorem zCf {l:List UInt8} {a:Option Addr} {c:Nat} (hs:SrcOk M 1 a l.length (l.map zc)) (hc:l.length≤c) (hn:l.length≤4194304):CallsM prog 124 [.slice a l.length c] M fun v M'=>
  (zdk l=none∧v = .tuple #[zKL,.int .i64 2]∧M.le M')∨∃ x q c',zdk l=some x∧v = .tuple #[(⟨x,q,c'⟩:CtlX).v,.int .i64 0]∧NewSl M 5 1 q x.data.length c' (x.data.map zc) M':=by
 refine zsJ oS ?_;have hle:=Ya M
 refine brn (fun g=>?_) (fun g=>?_)
 ·have hno:zdk l=none:=by unfold zdk;rw[if_pos (by have:=Zd0 g;omega)]
  refine zR ?_;exact .inl ⟨hno,rfl,hle⟩
 have h6:¬l.length<6:=by have:=Zd1 g;omega
 obtain⟨k0,b0,o0,ha,r0⟩:=hs.at (i:=0) oM;obtain⟨k1,b1,o1,ha1,r1⟩:=hs.at (i:=1) oM;rw[ha] at ha1;cases ha1;have d0:l.getD 0 0=l[0]:=by rw[Ys,Yb k0];rfl
 have d1:l.getD 1 0=l[1]:=by rw[Ys,Yb k1];rfl
 refine ob oM ?_;refine atp ha ?_;refine on r0 ?_;refine brn (fun g=>?_) (fun g=>?_)
 ·have e:l[0]≠3:=fun e=>by rw[e] at g;cases g
  have hno:zdk l=none:=by unfold zdk;rw[if_neg h6,d0,if_pos e]
  refine zR ?_;exact .inl ⟨hno,rfl,hle⟩
 have h3:l.getD 0 0=3:=by
  rw[d0];have:(l[0].toNat:Int)=(3:Nat):=by simpa using g
  exact(zkC oD).1 this
 refine zP ?_;refine atp ha ?_;refine on r1 ?_;refine zJ (zGB l[1] M) ?_;obtain⟨k,hk⟩:=oI (zjp l[1])
 have hX:zgr l=⟨k.1,if k.2=true∧k.1=1 then zjX l[1] else 0,if k.2 then zjX (l.getD 2 0) else 0,
  if k.2 then decide (zD .and .u8 ((l.getD 2 0).toNat:Nat) 1=1) else !decide (zD .and .u8 ((l[1]).toNat:Nat) 16=0),
  IntKind.i64.wrap (zaf l (zh8 l) 2),IntKind.i64.wrap (zaf l (zh8 l+2) 2),l.drop (zh8 l+4).toNat⟩:=by unfold zgr;rw[d1,hk]
 have hA:zh8 l=if k.2 then 3 else 2:=by unfold zh8;rw[d1,hk]
 rw[←hk];clear hk;obtain⟨k1',k2'⟩:=k;dsimp only at hX hA;refine brn (fun g=>?_) (fun g=>?_)
 ·subst g;have hA:zh8 l=3:=hA
  obtain⟨k2,b2,o2,ha2,r2⟩:∃ (_:2<l.length) (b o:Nat),a=some ⟨b,o,none⟩∧M.row b (o+2*1) 1=some [zc l[2]]:=hs.at (i:=2) oM;rw[ha] at ha2;cases ha2;refine⟨[1],M,Ya _,fun d=>?_⟩;refine ob oM ?_;refine atp ha ?_;refine on r2 ?_;refine zP ?_;refine atp ha ?_;refine on r2 ?_;refine zR ?_;refine brn (fun g=>?_) (fun g=>?_)
  focus
   have g2:k1'=1:=Zd0 g;refine zP ?_;refine atp ha ?_;refine on r1 ?_
  rotate_left
  have g2:¬k1'=1:=Zd1 g
  all_goals
   refine zJ (zdM a _ c M l hs hn hc 3 2 (by unfold zaL;rw[if_neg oM,if_neg oM])) ?_;refine zV ?_;by_cases h7:(l.length:Int)<3+4
   ·have hno:zdk l=none:=by unfold zdk;rw[if_neg h6,if_neg (fun h=>h h3),hA,if_pos h7]
    have he:zaL l.length (3+2) 2=2:=by unfold zaL;rw[if_neg oM,if_pos oM]
    refine zJ (zf9 a _ c M (3+2) 2 (by rw[he];decide) hn) ?_;rw[he];refine zR ?_;exact .inl ⟨hno,rfl,hle⟩
   refine zN (zdM a _ c M l hs hn hc (3+2) 2 (by unfold zaL;rw[if_neg oM,if_neg oM])) ?_;have f0:=Yd0 M
   refine f0.newRV (s:=1) (n:=0) rfl fun e0 M1 f1=>?_
   refine zR ?_;refine obr (inR_i64 oD) ?_;refine ob oM ?_
   have hsub:SrcOk M1 1 (subA a 7 c 1) (l.length - 7) ((l.drop 7).map zc):=by
    have:=(hs.le f1.le).subm (lo:=7) (hi:=l.length) (c:=c) oM oM hc
    rwa [Yf oS] at this
   rw[show ((l.length:Int).toNat - Int.toNat (3+4))=l.length - 7 by omega];refine zb2 hsub ?_;refine f1.appV 0 rfl oM (by simp[maxLen];omega) (zaA _) fun a2 c2 M2 hc2 f2=>?_
   have hlen:(l.drop 7).length=0+(l.length - 7):=by simp
   have hY:zgr l=⟨k1',(if k1'=1 then zjX l[1] else 0),(zjX l[2]),decide (zD .and .u8 ((l[2]).toNat:Nat) 1=1),IntKind.i64.wrap (zaf l 3 2),IntKind.i64.wrap (zaf l (3+2) 2),l.drop 7⟩:=by rw[hX,hA];simp[Yb k2]
   have hck:=zim ⟨zgr l,a2,c2⟩ M2;have hN:=f2.row 0 rfl
   have hcv:(⟨zgr l,a2,c2⟩:CtlX).v = .agg #[.int .i64 k1',.int .i64 ((if k1'=1 then zjX l[1] else 0)),.int .i64 ((zjX l[2])),.bool (decide (zD .and .u8 ((l[2]).toNat:Nat) 1=1)),.int .i64 (IntKind.i64.wrap (zaf l 3 2)),.int .i64 (IntKind.i64.wrap (zaf l (3+2) 2)),.slice a2 (0+(l.length - 7)) c2]:=by rw[←hlen,hY]
   first|rw[if_pos g2] at hY hcv|rw[if_neg g2] at hY hcv
   rw[hcv] at hck;refine zR ?_;refine hck.mono ?_;rintro v _ ⟨rfl,rfl⟩;refine brn (fun g=>?_) (fun g=>?_)
   ·have hno:zdk l=none:=by unfold zdk;rw[if_neg h6,if_neg (fun h=>h h3),hA,if_neg h7,if_neg (by simpa using g)]
    have hle:=f2.le;refine zR ?_;exact .inl ⟨hno,rfl,hle⟩
   ·have hyes:zdk l=some (zgr l):=by unfold zdk;rw[if_neg h6,if_neg (fun h=>h h3),hA,if_neg h7,if_pos (by simpa using g)]
    refine zR ?_;refine .inr ⟨zgr l,a2,c2,hyes,by first|(rw[hcv];rfl)|rw[hcv],?_⟩;rw[Yaa] at hN;rw[hY];dsimp only;rw[hlen];exact hN
 ·subst g;have hA:zh8 l=2:=hA
  refine zP ?_;refine atp ha ?_;refine on r1 ?_;refine zJ (zdM a _ c M l hs hn hc 2 2 (by unfold zaL;rw[if_neg oM,if_neg oM])) ?_;refine zV ?_;by_cases h7:(l.length:Int)<2+4
  ·have hno:zdk l=none:=by unfold zdk;rw[if_neg h6,if_neg (fun h=>h h3),hA,if_pos h7]
   have he:zaL l.length (2+2) 2=2:=by unfold zaL;rw[if_neg oM,if_pos oM]
   refine zJ (zf9 a _ c M (2+2) 2 (by rw[he];decide) hn) ?_;rw[he];refine zR ?_;exact .inl ⟨hno,rfl,hle⟩
  refine zN (zdM a _ c M l hs hn hc (2+2) 2 (by unfold zaL;rw[if_neg oM,if_neg oM])) ?_;have f0:=Yd0 M
  refine f0.newRV (s:=1) (n:=0) rfl fun e0 M1 f1=>?_
  refine zR ?_;refine obr (inR_i64 oD) ?_;refine ob oM ?_
  have hsub:SrcOk M1 1 (subA a 6 c 1) (l.length - 6) ((l.drop 6).map zc):=by
   have:=(hs.le f1.le).subm (lo:=6) (hi:=l.length) (c:=c) oM oM hc
   rwa [Yf oS] at this
  rw[show ((l.length:Int).toNat - Int.toNat (2+4))=l.length - 6 by omega];refine zb2 hsub ?_;refine f1.appV 0 rfl oM (by simp[maxLen];omega) (zaA _) fun a2 c2 M2 hc2 f2=>?_
  have hlen:(l.drop 6).length=0+(l.length - 6):=by simp
  have hY:zgr l=⟨k1',(0:Int),(0:Int), !decide (zD .and .u8 ((l[1]).toNat:Nat) 16=0),IntKind.i64.wrap (zaf l 2 2),IntKind.i64.wrap (zaf l (2+2) 2),l.drop 6⟩:=by rw[hX,hA];simp[hX]
  have hck:=zim ⟨zgr l,a2,c2⟩ M2;have hN:=f2.row 0 rfl
  have hcv:(⟨zgr l,a2,c2⟩:CtlX).v = .agg #[.int .i64 k1',.int .i64 ((0:Int)),.int .i64 ((0:Int)),.bool (!decide (zD .and .u8 ((l[1]).toNat:Nat) 16=0)),.int .i64 (IntKind.i64.wrap (zaf l 2 2)),.int .i64 (IntKind.i64.wrap (zaf l (2+2) 2)),.slice a2 (0+(l.length - 6)) c2]:=by rw[←hlen,hY]
  skip
  rw[hcv] at hck;refine zR ?_;refine hck.mono ?_;rintro v _ ⟨rfl,rfl⟩;refine brn (fun g=>?_) (fun g=>?_)
  ·have hno:zdk l=none:=by unfold zdk;rw[if_neg h6,if_neg (fun h=>h h3),hA,if_neg h7,if_neg (by simpa using g)]
   have hle:=f2.le;refine zR ?_;exact .inl ⟨hno,rfl,hle⟩
  ·have hyes:zdk l=some (zgr l):=by unfold zdk;rw[if_neg h6,if_neg (fun h=>h h3),hA,if_neg h7,if_pos (by simpa using g)]
   refine zR ?_;refine .inr ⟨zgr l,a2,c2,hyes,by first|(rw[hcv];rfl)|rw[hcv],?_⟩;rw[Yaa] at hN;rw[hY];dsimp only;rw[hlen];exact hN
end
end Go.Proofs.YtlgbofpennelhaaGreat
namespace Go.Proofs.YtlgbofpennelhaaGreat
open Go Go.Vm
attribute [local irreducible] Brn Ob Grow CallsM inR zI zF Mem.row Mem.cells Mem.setCells Mem.upd Go.Vm.Own zZ zaj zam zO New SrcOk subA NewSl Mem.textAt Mem.mapAt Mem.iterAt zC zB Wr NewEls Elems
set_option maxRecDepth 10000
section
variable {B M M':Mem}
def zh9 (b:UInt8):List UInt8:=if b=126∨b=125 then [125,b ^^^ 32] else [b]
def zaI (l:List UInt8):List UInt8:=l.flatMap zh9
theorem zD5 (b:UInt8):(zh9 b).length≤2:=by unfold zh9;split<;>simp
theorem zhx:∀ l:List UInt8,(zaI l).length≤2*l.length
 | []=>by simp[zaI]
 | b::r=>by
  have h1:=zD5 b;have h2:=zhx r
  unfold zaI at h2 ⊢;rw[Ybn,Yi,Ym];omega
theorem zCg (x:UInt8):Value.int .u8 (zD .xor .u8 (x.toNat:Int) 0)=zc x:=by
 have:=Ya5 x;have h:=(Rn.bits_nat (q := .u8) (a:=x.toNat) (b:=0) (show x.toNat<256 by omega) oD).2.2
 rw[show ((0:Nat):Int)=0 from rfl] at h;rw[h];show Value.int .u8 ((x.toNat ^^^ 0:Nat):Int)=_
 rw[Nat.xor_zero];rfl
theorem zD6 {a:Option Addr} {n c:Nat} {l:List UInt8} (hs:SrcOk M 1 a n (l.map zc)) (hn:n≤1048576):CallsM Tryz.prog 142 [.slice a n c] M fun v M'=>∃ a' c',v = .slice a' (zaI l).length c'∧NewSl M 5 1 a' (zaI l).length c' ((zaI l).map zc) M':=by
 have hl:=hs.maplen;refine zsM oS ?_;refine ob oM ?_;refine new fun b hb=>?_
 replace hb:M b=none:=hb
 have hN0:NewSl M 5 1 (some ⟨b,0,none⟩) 0 n (([]:List UInt8).map zc) (M.setCells b 5 (List.replicate n [Value.int .u8 0]).flatten):=by
  rw[newSl_iff];exact⟨Yw hb,rfl,Y5 _,.inr ⟨b,_,rfl,hb,Yg,by simp,by simp⟩⟩
 obtain⟨M1,hM1⟩:=oI (M.setCells b 5 (List.replicate n [Value.int .u8 0]).flatten);rw[←hM1] at hN0;rw[show (Int.toNat (n:Int))=n by omega];erw [←hM1]
 refine zak (σ:=Nat×Option Addr×Nat×Mem) [12,3] (fun y=>[(12,.int .i64 y.1),(3,.slice y.2.1 (zaI (l.take y.1)).length y.2.2.1)]) (fun _=>[]) (fun y=>y.2.2.2)
  (fun|⟨i,a',c',Mc⟩=>i≤n∧NewSl M 5 1 a' (zaI (l.take i)).length c' ((zaI (l.take i)).map zc) Mc) (fun y=>n - y.1) ⟨0,some ⟨b,0,none⟩,n,M1⟩ ⟨by omega,hN0⟩ zS ?_
 rintro ⟨i,a',c',Mc⟩ ⟨hi,hN⟩;refine brn (fun e=>?_) (fun e=>?_)
 ·have hlt:i<n:=by have:=Zd0 e;dsimp only at this;omega
  obtain⟨hk1,b1,o1,e1,hr1⟩:=(hs.le hN.le).at hlt;have htk:l.take (i+1)=l.take i++[l[i]]:=by rw[Y1,Yb hk1];rfl
  have hst:zaI (l.take (i+1))=zaI (l.take i)++zh9 l[i]:=by unfold zaI;rw[htk,Ydj,List.flatMap_singleton]
  generalize l[i]=x at *;have hx:=Ya5 x
  refine ob oM ?_;refine atp e1 ?_;refine on hr1 ?_;have hsl:=zhx (l.take i)
  rw[Ya2] at hsl;refine brn (fun g=>?_) (fun g=>?_)
  ·have hx1:x=126:=(zkC (n:=126) oD).1 (Zd0 g);refine brn_t g ?_;have h2:x=126∨x=125:=by first|exact .inl hx1|exact .inr hx1
   rw[show zh9 x=[125,x ^^^ 32] by unfold zh9;rw[if_pos h2]] at hst;refine zR ?_;refine zb8 M _ hN (by grind) (by unfold maxLen;first|omega|(dsimp only;omega)) oC (fun a2 c2 M2 h3=>?_);refine zb8 M _ h3 (by grind) (by unfold maxLen;first|omega|(dsimp only;omega)) oC (fun a3 c3 M3 h4=>?_);have hlen:(zaI (l.take (i+1))).length=(zaI (l.take i)).length+1+1:=by rw[hst];simp
   have hN':NewSl M 5 1 a3 (zaI (l.take (i+1))).length c3 ((zaI (l.take (i+1))).map zc) M3:=by
    rw[hlen,hst,Yv];rw[zmv x,Yr] at h4;exact h4
   refine zR ?_;refine obr (inR_i64 (by omega)) ?_;refine⟨⟨i+1,a3,c3,M3⟩,⟨by omega,hN'⟩,by omega,?_⟩;dsimp only;rw[hlen];exact zS
  ·have hne:x≠126:=fun e=>Zd1 g (by subst e;rfl)
   refine brn (fun g3=>?_) (fun g3=>?_)
   ·have hx1:x=125:=(zkC (n:=125) oD).1 (Zd0 g3);have h2:x=126∨x=125:=by first|exact .inl hx1|exact .inr hx1
    rw[show zh9 x=[125,x ^^^ 32] by unfold zh9;rw[if_pos h2]] at hst;refine zR ?_;refine zb8 M _ hN (by grind) (by unfold maxLen;first|omega|(dsimp only;omega)) oC (fun a2 c2 M2 h3=>?_);refine zb8 M _ h3 (by grind) (by unfold maxLen;first|omega|(dsimp only;omega)) oC (fun a3 c3 M3 h4=>?_);have hlen:(zaI (l.take (i+1))).length=(zaI (l.take i)).length+1+1:=by rw[hst];simp
    have hN':NewSl M 5 1 a3 (zaI (l.take (i+1))).length c3 ((zaI (l.take (i+1))).map zc) M3:=by
     rw[hlen,hst,Yv];rw[zmv x,Yr] at h4;exact h4
    refine zR ?_;refine obr (inR_i64 (by omega)) ?_;refine⟨⟨i+1,a3,c3,M3⟩,⟨by omega,hN'⟩,by omega,?_⟩;dsimp only;rw[hlen];exact zS
   ·have hne2:x≠125:=fun e=>Zd1 g3 (by subst e;rfl)
    rw[show zh9 x=[x] by unfold zh9;rw[if_neg (by simp[hne,hne2])]] at hst;refine zR ?_;refine zb8 M _ hN (by grind) (by unfold maxLen;first|omega|(dsimp only;omega)) oC (fun a3 c3 M3 h4=>?_);have hlen:(zaI (l.take (i+1))).length=(zaI (l.take i)).length+1:=by rw[hst];simp
    have hN':NewSl M 5 1 a3 (zaI (l.take (i+1))).length c3 ((zaI (l.take (i+1))).map zc) M3:=by
     rw[hlen,hst,Yv];rw[zCg x] at h4;exact h4
    refine zR ?_;refine obr (inR_i64 (by omega)) ?_;refine⟨⟨i+1,a3,c3,M3⟩,⟨by omega,hN'⟩,by omega,?_⟩;dsimp only;rw[hlen];exact zS
 ·have hge:i=n:=by have:=Zd1 e;dsimp only at this;omega
  rw[Yf oM] at hN;refine zR ?_;dsimp only;rw[Yf oM];exact⟨_,_,rfl,hN⟩
theorem zyL (l:List UInt8):zex l<65536:=by unfold zex;omega
def zc7 (l:List UInt8):List UInt8:=l++[UInt8.ofNat (zex l % 256),UInt8.ofNat (zex l / 256)]
theorem zCh {a:Option Addr} {n c:Nat} {l:List UInt8} (hs:SrcOk M 1 a n (l.map zc)) (hn:n≤1048576):CallsM Tryz.prog 143 [.slice a n c] M fun v M'=>∃ a' c',v = .slice a' (zc7 l).length c'∧NewSl M 5 1 a' (zc7 l).length c' ((zc7 l).map zc) M':=by
 have hl:=hs.maplen;refine zzP oS ?_;refine new (fun b hb=>?_);replace hb:M b=none:=hb;have hle:M.le (M.setCells b 37 [.slice a n c]):=Yw hb
 obtain⟨M1,hM1⟩:=oI (M.setCells b 37 [.slice a n c]);have hb1:M1.has b 37 [.slice a n c]:=hM1▸Yg
 rw[←hM1] at hle;erw [←hM1];refine zN (zyK hb1 (hs.le hle) oM) ?_;refine new fun e0 he0=>?_
 replace he0:M1 e0=none:=he0;have hN0:NewSl M1 5 1 (some ⟨e0,0,none⟩) 0 0 (([]:List UInt8).map zc) (M1.setCells e0 5 []):=Ybc he0 5 1 0 [] rfl
 obtain⟨M2,hM2⟩:=oI (M1.setCells e0 5 []);rw[←hM2] at hN0;erw [←hM2];refine zR ?_;refine zb2 ((hs.le hle).le hN0.le) ?_;refine zb8 M1 _ hN0 oM (by unfold maxLen;omega) (zaA l) (fun a3 c3 M3 hN3=>?_);rw[Ybz,Yaa] at hN3;refine zR ?_;refine zb8 M1 _ hN3 oM (by unfold maxLen;omega) oC (fun a4 c4 M4 hN4=>?_);have hf:=zyL l
 have hw:∀ k:Nat,k<256→Value.int .u8 (k:Int)=zc (UInt8.ofNat k):=fun k hk=>by
  unfold zc;congr 1;rw[Yc2,Ybj hk]
 have e1:IntKind.u8.wrap ((zex l:Nat):Int)=((zex l % 256:Nat):Int):=by
  simp[IntKind.wrap,IntKind.signed,IntKind.bits]
 have e2:IntKind.u8.wrap (((zex l:Nat):Int).fdiv (2 ^ min (Int.toNat 8) IntKind.u16.bits))=((zex l / 256:Nat):Int):=by
  have:=Yb5 ((zex l:Nat):Int) (show (0:Int)≤256 by decide);simp[IntKind.wrap,IntKind.signed,IntKind.bits];omega
 have hadd:[Value.int .u8 (IntKind.u8.wrap ((zex l:Nat):Int)),Value.int .u8 (IntKind.u8.wrap (((zex l:Nat):Int).fdiv (2 ^ min (Int.toNat 8) IntKind.u16.bits)))]=[UInt8.ofNat (zex l % 256),UInt8.ofNat (zex l / 256)].map zc:=by
  rw[e1,e2,hw _ oM,hw _ oM];rfl
 refine⟨a4,c4,?_,?_⟩
 ·rw[show (zc7 l).length=0+n+2 by simp[zc7];omega]
 ·rw[show (zc7 l).length=0+n+2 by simp[zc7];omega];unfold zc7;rw[Yv,←hadd];exact hN4.mono hle
end
section
variable {B M M':Mem}
def zeq (l:List UInt8):List UInt8:=[126]++zaI (zc7 l)++[126]
theorem zCi {a:Option Addr} {n c:Nat} {l:List UInt8} (hs:SrcOk M 1 a n (l.map zc)) (hn:0<n∧n≤128):CallsM Tryz.prog 76 [.slice a n c] M fun v M'=>∃ a' c',v = .tuple #[.slice a' (zeq l).length c',.int .i64 0]∧NewSl M 5 1 a' (zeq l).length c' ((zeq l).map zc) M':=by
 have hl:=hs.maplen;refine zlx oS ?_;refine brn_f (decide_eq_false oM) ?_;refine brn_f (decide_eq_false oM) ?_;refine new (fun b hb=>?_);replace hb:M b=none:=hb;have hN0:NewSl M 5 1 (some ⟨b,0,none⟩) 1 1 (([126]:List UInt8).map zc) (M.setCells b 5 [Value.int .u8 126]):=Ybc hb 5 1 1 _ rfl
 obtain⟨M1,hM1⟩:=oI (M.setCells b 5 [Value.int .u8 126]);rw[←hM1] at hN0;erw [←hM1];refine zM (zCh (hs.le hN0.le) oM) ?_;rintro v M2 ⟨a2,c2,rfl,hN2⟩;have hal:(zc7 l).length=n+2:=by simp[zc7,hl]
 refine zM (zD6 hN2.src oM) ?_;rintro v M3 ⟨a3,c3,rfl,hN3⟩;have hsl:=zhx (zc7 l)
 refine zR ?_;refine zb2 hN3.src ?_;refine zb8 M _ (hN0.up (Yc hN2.le hN3.le)) oM (by unfold maxLen;omega) (zaA _) (fun a4 c4 M4 hN4=>?_);refine zR ?_;refine zb8 M _ hN4 oM (by unfold maxLen;omega) oC (fun a5 c5 M5 hN5=>?_);have hfl:(zeq l).length=1+(zaI (zc7 l)).length+1:=by simp[zeq];omega
 refine⟨a5,c5,by rw[hfl],?_⟩;rw[hfl];unfold zeq;rw[Yv,Yv];exact hN5
end
end Go.Proofs.YtlgbofpennelhaaGreat
namespace Go.Proofs.YtlgbofpennelhaaGreat
open Go Go.Vm
attribute [local irreducible] Brn Ob Grow CallsM inR zI Mem.row Mem.cells Mem.setCells Mem.upd Go.Vm.Own zZ zaj zam zO New SrcOk subA
section
theorem zJC (n a b:Int) (M:Mem):CallsM Tryz.prog 335 [.int .i64 n,.int .i64 a,.int .i64 b] M fun v M'=>v = .bool (decide (a≤n∧n≤b))∧M=M':=by
 refine zsT oS ?_;refine brn (fun h=>?_) (fun h=>?_)
 all_goals (conv=>whnf)
 ·simp_all
 ·grind
def idErr (a b c d:Int):Int:=if (0≤a∧a≤63)∧(0≤b∧b≤63)∧(1≤c∧c≤65535)∧(1≤d∧d≤65535) then (if a=b then 2 else 0) else 1
set_option maxRecDepth 10000 in
theorem zfc (a b c d:Int) (M:Mem):CallsM Tryz.prog 268 [.agg #[.int .i64 a,.int .i64 b,.int .i64 c,.int .i64 d]] M fun v M'=>v = .int .i64 (idErr a b c d)∧M=M':=by
 refine zvJ oS ?_
 repeat' (first
  | (refine(zJC _ _ _ _).mono ?_;rintro v M' ⟨rfl,rfl⟩)
  | refine brn (fun h=>?_) (fun h=>?_))
 all_goals (conv=>whnf)
 all_goals (refine⟨?_,rfl⟩;simp_all [idErr])
 all_goals (intros;exfalso;omega)
end
section
def msgErr (a b c d:Int) (n:Nat):Int:=if idErr a b c d≠0 then idErr a b c d else if n=0 then 2 else if 48<n then 3 else 0
set_option maxRecDepth 10000 in
theorem zin (a b c d:Int) (p:Option Addr) (n k:Nat) (M:Mem):CallsM Tryz.prog 267 [.agg #[.int .i64 a,.int .i64 b,.int .i64 c,.int .i64 d,.slice p n k]] M fun v M'=>v = .int .i64 (msgErr a b c d n)∧M=M':=by
 refine zrO oS ?_
 repeat' (first
  | (refine(zfc _ _ _ _ _).mono ?_;rintro v M' ⟨rfl,rfl⟩)
  | refine brn (fun h=>?_) (fun h=>?_))
 all_goals (conv=>whnf)
 all_goals (refine⟨?_,rfl⟩;simp_all [msgErr])
 all_goals omega
end
end Go.Proofs.YtlgbofpennelhaaGreat
namespace Go.Proofs.YtlgbofpennelhaaGreat
open Go Go.Proofs Go.Shelf
def Tryz.laysF_ren:Go.Shelf.Ren:=⟨fun|6=>222|15=>158|14=>290|28=>244|29=>245|20=>363|21=>364|22=>365|23=>366|24=>367|25=>368|26=>369|27=>370|46=>421|47=>302|48=>303|49=>422|50=>423|57=>473|n=>n,fun|22=>40|24=>84|25=>353|3=>3|39=>56|0=>0|53=>356|55=>271|4=>4|46=>368|45=>367|50=>247|5=>5|9=>9|66=>422|70=>426|76=>477|77=>478|n=>n,fun|n=>n⟩
theorem Tryz.laysF:Go.Proofs.SlLaysF0.n6 Tryz.prog Tryz.laysF_ren:={
 mixed:=by kernel_rfl
 f6:=⟨"slices.SortFunc[[]portage/api.Mark,portage/api.Mark]", by decide,Tryz.func222.trans (congrArg some (by kernel_rfl))⟩
 f14:=⟨"slices.pdqsortCmpFunc[portage/api.Mark]", by decide,Tryz.func290.trans (congrArg some (by kernel_rfl))⟩
 f15:=Tryz.func158.trans (congrArg some (by kernel_rfl))
 f20:=⟨"slices.insertionSortCmpFunc[portage/api.Mark]", by decide,Tryz.func363.trans (congrArg some (by kernel_rfl))⟩
 f21:=⟨"slices.heapSortCmpFunc[portage/api.Mark]", by decide,Tryz.func364.trans (congrArg some (by kernel_rfl))⟩
 f22:=⟨"slices.breakPatternsCmpFunc[portage/api.Mark]", by decide,Tryz.func365.trans (congrArg some (by kernel_rfl))⟩
 f23:=⟨"slices.choosePivotCmpFunc[portage/api.Mark]", by decide,Tryz.func366.trans (congrArg some (by kernel_rfl))⟩
 f24:=⟨"slices.reverseRangeCmpFunc[portage/api.Mark]", by decide,Tryz.func367.trans (congrArg some (by kernel_rfl))⟩
 f25:=⟨"slices.partialInsertionSortCmpFunc[portage/api.Mark]", by decide,Tryz.func368.trans (congrArg some (by kernel_rfl))⟩
 f26:=⟨"slices.partitionEqualCmpFunc[portage/api.Mark]", by decide,Tryz.func369.trans (congrArg some (by kernel_rfl))⟩
 f27:=⟨"slices.partitionCmpFunc[portage/api.Mark]", by decide,Tryz.func370.trans (congrArg some (by kernel_rfl))⟩
 f28:=Tryz.func244.trans (congrArg some (by kernel_rfl))
 f29:=Tryz.func245.trans (congrArg some (by kernel_rfl))
 f46:=⟨"slices.siftDownCmpFunc[portage/api.Mark]", by decide,Tryz.func421.trans (congrArg some (by kernel_rfl))⟩
 f47:=Tryz.func302.trans (congrArg some (by kernel_rfl))
 f48:=Tryz.func303.trans (congrArg some (by kernel_rfl))
 f49:=⟨"slices.medianAdjacentCmpFunc[portage/api.Mark]", by decide,Tryz.func422.trans (congrArg some (by kernel_rfl))⟩
 f50:=⟨"slices.medianCmpFunc[portage/api.Mark]", by decide,Tryz.func423.trans (congrArg some (by kernel_rfl))⟩
 f57:=⟨"slices.order2CmpFunc[portage/api.Mark]", by decide,Tryz.func473.trans (congrArg some (by kernel_rfl))⟩
 t0:=Tryz.underlying0
 a0:=Tryz.isAgg0
 z0:=Tryz.sizeOf0
 v0:=Tryz.zeroValue0
 t3:=Tryz.underlying3
 a3:=Tryz.isAgg3
 z3:=Tryz.sizeOf3
 v3:=Tryz.zeroValue3
 t4:=Tryz.underlying4
 a4:=Tryz.isAgg4
 z4:=Tryz.sizeOf4
 v4:=Tryz.zeroValue4
 t5:=Tryz.underlying5
 a5:=Tryz.isAgg5
 z5:=Tryz.sizeOf5
 v5:=Tryz.zeroValue5
 t9:=Tryz.underlying9
 a9:=Tryz.isAgg9
 z9:=Tryz.sizeOf9
 v9:=Tryz.zeroValue9
 t22:=Tryz.underlying40
 a22:=Tryz.isAgg40
 z22:=Tryz.sizeOf40
 v22:=Tryz.zeroValue40
 t25:=Tryz.underlying353
 a25:=Tryz.isAgg353
 z25:=Tryz.sizeOf353
 v25:=Tryz.zeroValue353
 t39:=Tryz.underlying56
 a39:=Tryz.isAgg56
 z39:=Tryz.sizeOf56
 v39:=Tryz.zeroValue56
 t45:=Tryz.underlying367
 a45:=Tryz.isAgg367
 z45:=Tryz.sizeOf367
 v45:=Tryz.zeroValue367
 t46:=Tryz.underlying368
 a46:=Tryz.isAgg368
 z46:=Tryz.sizeOf368
 v46:=Tryz.zeroValue368
 t50:=Tryz.underlying247
 a50:=Tryz.isAgg247
 z50:=Tryz.sizeOf247
 v50:=Tryz.zeroValue247
 t53:=Tryz.underlying356
 a53:=Tryz.isAgg356
 z53:=Tryz.sizeOf356
 v53:=Tryz.zeroValue356
 t55:=Tryz.underlying271
 a55:=Tryz.isAgg271
 z55:=Tryz.sizeOf271
 v55:=Tryz.zeroValue271
 t66:=Tryz.underlying422
 a66:=Tryz.isAgg422
 z66:=Tryz.sizeOf422
 v66:=Tryz.zeroValue422
 t70:=Tryz.underlying426
 a70:=Tryz.isAgg426
 z70:=Tryz.sizeOf426
 v70:=Tryz.zeroValue426
 t76:=Tryz.underlying477
 a76:=Tryz.isAgg477
 z76:=Tryz.sizeOf477
 v76:=Tryz.zeroValue477
 t77:=Tryz.underlying478
 a77:=Tryz.isAgg478
 z77:=Tryz.sizeOf478
 v77:=Tryz.zeroValue478 }
def Tryz.laysIns_ren:Go.Shelf.Ren:=⟨fun|21=>286|27=>345|28=>346|35=>414|39=>300|n=>n,fun|22=>53|3=>3|4=>4|0=>0|n=>n,fun|n=>n⟩
theorem Tryz.laysIns:Go.Proofs.Lays2.n21 Tryz.prog Tryz.laysIns_ren:={
 mixed:=by kernel_rfl
 f21:=Tryz.func286.trans (congrArg some (by kernel_rfl))
 f27:=Tryz.func345.trans (congrArg some (by kernel_rfl))
 f28:=Tryz.func346.trans (congrArg some (by kernel_rfl))
 f35:=Tryz.func414.trans (congrArg some (by kernel_rfl))
 f39:=Tryz.func300.trans (congrArg some (by kernel_rfl))
 t0:=Tryz.underlying0
 a0:=Tryz.isAgg0
 z0:=Tryz.sizeOf0
 v0:=Tryz.zeroValue0
 t3:=Tryz.underlying3
 a3:=Tryz.isAgg3
 z3:=Tryz.sizeOf3
 v3:=Tryz.zeroValue3
 t4:=Tryz.underlying4
 a4:=Tryz.isAgg4
 z4:=Tryz.sizeOf4
 v4:=Tryz.zeroValue4
 t22:=Tryz.underlying53
 a22:=Tryz.isAgg53
 z22:=Tryz.sizeOf53
 v22:=Tryz.zeroValue53
 i3:=by kernel_rfl }
def Tryz.laysP_ren:Go.Shelf.Ren:=⟨fun|6=>220|15=>158|14=>289|28=>244|29=>245|20=>355|21=>356|22=>357|23=>358|24=>359|25=>360|26=>361|27=>362|46=>418|47=>302|48=>303|49=>419|50=>420|57=>472|n=>n,fun|22=>342|24=>324|25=>344|3=>3|39=>56|0=>0|53=>356|55=>271|4=>4|46=>368|45=>367|50=>247|5=>5|9=>9|66=>422|70=>426|76=>477|77=>478|n=>n,fun|n=>n⟩
theorem Tryz.laysP:Go.Proofs.SlLaysF0.n6 Tryz.prog Tryz.laysP_ren:={
 mixed:=by kernel_rfl
 f6:=⟨"slices.SortFunc[[]portage/store.place,portage/store.place]", by decide,Tryz.func220.trans (congrArg some (by kernel_rfl))⟩
 f14:=⟨"slices.pdqsortCmpFunc[portage/store.place]", by decide,Tryz.func289.trans (congrArg some (by kernel_rfl))⟩
 f15:=Tryz.func158.trans (congrArg some (by kernel_rfl))
 f20:=⟨"slices.insertionSortCmpFunc[portage/store.place]", by decide,Tryz.func355.trans (congrArg some (by kernel_rfl))⟩
 f21:=⟨"slices.heapSortCmpFunc[portage/store.place]", by decide,Tryz.func356.trans (congrArg some (by kernel_rfl))⟩
 f22:=⟨"slices.breakPatternsCmpFunc[portage/store.place]", by decide,Tryz.func357.trans (congrArg some (by kernel_rfl))⟩
 f23:=⟨"slices.choosePivotCmpFunc[portage/store.place]", by decide,Tryz.func358.trans (congrArg some (by kernel_rfl))⟩
 f24:=⟨"slices.reverseRangeCmpFunc[portage/store.place]", by decide,Tryz.func359.trans (congrArg some (by kernel_rfl))⟩
 f25:=⟨"slices.partialInsertionSortCmpFunc[portage/store.place]", by decide,Tryz.func360.trans (congrArg some (by kernel_rfl))⟩
 f26:=⟨"slices.partitionEqualCmpFunc[portage/store.place]", by decide,Tryz.func361.trans (congrArg some (by kernel_rfl))⟩
 f27:=⟨"slices.partitionCmpFunc[portage/store.place]", by decide,Tryz.func362.trans (congrArg some (by kernel_rfl))⟩
 f28:=Tryz.func244.trans (congrArg some (by kernel_rfl))
 f29:=Tryz.func245.trans (congrArg some (by kernel_rfl))
 f46:=⟨"slices.siftDownCmpFunc[portage/store.place]", by decide,Tryz.func418.trans (congrArg some (by kernel_rfl))⟩
 f47:=Tryz.func302.trans (congrArg some (by kernel_rfl))
 f48:=Tryz.func303.trans (congrArg some (by kernel_rfl))
 f49:=⟨"slices.medianAdjacentCmpFunc[portage/store.place]", by decide,Tryz.func419.trans (congrArg some (by kernel_rfl))⟩
 f50:=⟨"slices.medianCmpFunc[portage/store.place]", by decide,Tryz.func420.trans (congrArg some (by kernel_rfl))⟩
 f57:=⟨"slices.order2CmpFunc[portage/store.place]", by decide,Tryz.func472.trans (congrArg some (by kernel_rfl))⟩
 t0:=Tryz.underlying0
 a0:=Tryz.isAgg0
 z0:=Tryz.sizeOf0
 v0:=Tryz.zeroValue0
 t3:=Tryz.underlying3
 a3:=Tryz.isAgg3
 z3:=Tryz.sizeOf3
 v3:=Tryz.zeroValue3
 t4:=Tryz.underlying4
 a4:=Tryz.isAgg4
 z4:=Tryz.sizeOf4
 v4:=Tryz.zeroValue4
 t5:=Tryz.underlying5
 a5:=Tryz.isAgg5
 z5:=Tryz.sizeOf5
 v5:=Tryz.zeroValue5
 t9:=Tryz.underlying9
 a9:=Tryz.isAgg9
 z9:=Tryz.sizeOf9
 v9:=Tryz.zeroValue9
 t22:=Tryz.underlying342
 a22:=Tryz.isAgg342
 z22:=Tryz.sizeOf342
 v22:=Tryz.zeroValue342
 t25:=Tryz.underlying344
 a25:=Tryz.isAgg344
 z25:=Tryz.sizeOf344
 v25:=Tryz.zeroValue344
 t39:=Tryz.underlying56
 a39:=Tryz.isAgg56
 z39:=Tryz.sizeOf56
 v39:=Tryz.zeroValue56
 t45:=Tryz.underlying367
 a45:=Tryz.isAgg367
 z45:=Tryz.sizeOf367
 v45:=Tryz.zeroValue367
 t46:=Tryz.underlying368
 a46:=Tryz.isAgg368
 z46:=Tryz.sizeOf368
 v46:=Tryz.zeroValue368
 t50:=Tryz.underlying247
 a50:=Tryz.isAgg247
 z50:=Tryz.sizeOf247
 v50:=Tryz.zeroValue247
 t53:=Tryz.underlying356
 a53:=Tryz.isAgg356
 z53:=Tryz.sizeOf356
 v53:=Tryz.zeroValue356
 t55:=Tryz.underlying271
 a55:=Tryz.isAgg271
 z55:=Tryz.sizeOf271
 v55:=Tryz.zeroValue271
 t66:=Tryz.underlying422
 a66:=Tryz.isAgg422
 z66:=Tryz.sizeOf422
 v66:=Tryz.zeroValue422
 t70:=Tryz.underlying426
 a70:=Tryz.isAgg426
 z70:=Tryz.sizeOf426
 v70:=Tryz.zeroValue426
 t76:=Tryz.underlying477
 a76:=Tryz.isAgg477
 z76:=Tryz.sizeOf477
 v76:=Tryz.zeroValue477
 t77:=Tryz.underlying478
 a77:=Tryz.isAgg478
 z77:=Tryz.sizeOf478
 v77:=Tryz.zeroValue478 }
end Go.Proofs.YtlgbofpennelhaaGreat
