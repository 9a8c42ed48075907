/- Part of this proof;laid by program. -/
import Derived.Test.YtpdkkbpkplhdpaaGreatJ26
import Derived.Test.YtpdkkbpkplhdpaaGreatJ15
import Derived.Test.YtpdkkbpkplhdpaaGreatJ16
set_option linter.unusedVariables false
set_option linter.unusedSimpArgs false
namespace Go.Proofs.YtpdkkbpkplhdpaaGreat
open Go Go.Vm
attribute [local irreducible] Brn Ob Grow CallsM inR zax zav Mem.row Mem.cells Mem.setCells Mem.upd Go.Vm.Own zaD za5 zbc zaJ New SrcOk subA NewSl Mem.textAt Mem.mapAt Mem.iterAt zau zaj Wr NewEls Elems
set_option maxRecDepth 10000
section
variable {M M0 M1 Mc:Mem} {s:zhp}
set_option maxHeartbeats 1000000 in
theorem zzE (hR:SnapOk s) {pa:Option Addr} {pc:Nat} (hp:SrcOk M 1 pa (zaq s).length ((zaq s).map zl)) (hpc:(zaq s).length≤pc) (hpl:(zaq s).length≤1048576) :
  CallsM Tryz.prog F.zlS [.slice pa (zaq s).length pc] M fun v M'=>∃ ua uc ha hc ma mc ms mk,v = .tuple #[zhV s.self s.epoch ua s.ul.length uc ha s.hs.length hc ma s.sn.length mc,.int .i64 0]∧zrT M' s ua s.ul.length ha s.hs.length hc ma s.sn.length ms mk∧M.le M':=by
 refine zxb (by simp) ?_;obtain⟨B,hB⟩:∃ B,B=zgH s:=⟨_,rfl⟩
 have hS:zaq s=B++be 4 (zeG B):=by rw[zaq,hB]
 have hSl:(zaq s).length=B.length+4:=by rw[hS,List.length_append,zcp]
 rw[hSl] at hp hpc hpl ⊢;rw[hS] at hp;have hep:=hR.form.1.2
 have hbd:=hR.bad;unfold zbr at hbd;(conv=>whnf);refine brn_f (decide_eq_false (by omega)) ?_;(conv=>whnf);refine ob (zd (by omega)) ?_;(conv=>whnf);refine ob ⟨by decide,by omega,by omega⟩ ?_;(conv=>whnf)
 have hsub:SrcOk M 1 (subA pa 0 pc 1) B.length (B.map zl):=by
  have:=hp.subm (lo:=0) (hi:=B.length) (by omega) (by omega) hpc;simpa using this
 have hz:((((B.length+4:Nat):Int) - 4).toNat - Int.toNat 0)=B.length:=by
  have:Int.toNat 0=0:=rfl;omega
 rw[hz];obtain⟨q,hq,hq2⟩:=sum_nat B;have hge:zb5 (B.length+4) (B.length:Nat) 4=0:=by unfold zb5;rw[if_neg (by omega),if_neg (by omega)]
 have hgn:zb6 (B++be 4 (zeG B)) (B.length:Nat) 4=q:=by
  have:=ztD (pre:=B) (item:=be 4 (zeG B)) (rest:=[]) (size:=4) (zcp _ _);rw[List.append_nil] at this;rw[this,hq,zog hq2]
 refine(zfX pa (B.length+4) pc M (B++be 4 (zeG B)) hp (by omega) hpc _ _ hge).mono ?_;rw[hgn];rintro v _ ⟨rfl,rfl⟩;refine zR ?_;(conv=>whnf);refine new (fun b0 hb0=>?_);replace hb0:M b0=none:=hb0;have hle0:M.le (M.setCells b0 T.zaK [.slice (subA pa 0 pc 1) B.length (pc - 0)]):=Mem.le_setCells hb0
 have hs0:SrcOk (M.setCells b0 T.zaK [.slice (subA pa 0 pc 1) B.length (pc - 0)]) 1 (some ⟨b0,0,none⟩) 1 [.slice (subA pa 0 pc 1) B.length (pc - 0)]:=SrcOk.lit rfl;obtain⟨M0,hM0⟩:∃ M0,M0=M.setCells b0 T.zaK [.slice (subA pa 0 pc 1) B.length (pc - 0)]:=⟨_,rfl⟩
 rw[←hM0] at hle0 hs0;(conv=>whnf)
 erw [←hM0]
 have hE:Elems M0 1 (some ⟨b0,0,none⟩) 1 (znN M0) [B]:=by
  unfold Elems;refine⟨[[.slice (subA pa 0 pc 1) B.length (pc - 0)]],hs0,rfl,rfl,by simp,fun i cs x hi hx=>?_⟩
  match i,hi,hx with
  | 0,hi,hx=>cases hi;cases hx;exact⟨_,B.length,_,rfl,by omega,hsub.le hle0⟩
  | i+1,hi,hx=>simp at hi
 refine(zrv hE (by decide) (fun l hl=>by simp at hl;subst hl;omega)).mono ?_;have hfl:[B].flatten=B:=by simp
 rw[hfl];rintro v _ ⟨rfl,rfl⟩;refine zR ?_;(conv=>whnf)
 rw[zgM (n:=zeG B) (by omega),hq];refine brn_f (by simp) ?_;refine zR ?_;(conv=>whnf);refine new (fun b4 hb4=>?_);replace hb4:M0 b4=none:=hb4;obtain⟨Ma,hMa⟩:∃ Ma,Ma=M0.setCells b4 T.zaK [.slice (subA pa 0 pc 1) B.length (pc - 0)]:=⟨_,rfl⟩
 have hlea:M0.le Ma:=hMa▸Mem.le_setCells hb4;have hxa:Ma.has b4 T.zaK [.slice (subA pa 0 pc 1) B.length (pc - 0)]:=hMa▸Mem.has_setCells
 (conv=>whnf);erw [←hMa];(conv=>whnf);refine new (fun b7 hb7=>?_);replace hb7:Ma b7=none:=hb7;obtain⟨Mb,hMb⟩:∃ Mb,Mb=Ma.setCells b7 T.zr [.int .i64 0]:=⟨_,rfl⟩
 have hleb:Ma.le Mb:=hMb▸Mem.le_setCells hb7;have hxb:Mb.has b7 T.zr [.int .i64 0]:=hMb▸Mem.has_setCells
 (conv=>whnf);erw [←hMb];(conv=>whnf);refine new (fun b8 hb8=>?_);replace hb8:Mb b8=none:=hb8;obtain⟨M1,hM1⟩:∃ M1,M1=Mb.setCells b8 T.zhc [.bool false]:=⟨_,rfl⟩
 have hle1:Mb.le M1:=hM1▸Mem.le_setCells hb8;have hx1:M1.has b8 T.zhc [.bool false]:=hM1▸Mem.has_setCells
 (conv=>whnf);erw [←hM1]
 have hM7:M b7=none:=by
  cases e:M b7 with
  | none=>rfl
  | some o=>rw[hlea _ _ (hle0 _ _ e)] at hb7;cases hb7
 have hX:∀ k,M.le (zbw M1 b7 k):=fun k y o hy=>by
  unfold zbw;rw[zbS,if_neg fun e=>by rw[e,hM7] at hy;cases hy];exact hle1 _ _ (hleb _ _ (hlea _ _ (hle0 _ _ hy)))
 have hC:CurAt M1 b4 b7 b8 (subA pa 0 pc 1) (pc - 0) B:=by
  refine⟨(hxa.le hleb).le hle1,hx1,fun k=>hsub.le (hX k),⟨fun e=>?_,fun e=>?_⟩,by omega⟩
  ·have:=hxa;unfold Mem.has at this;rw[e,hb7] at this;cases this
  ·have:=hxb;unfold Mem.has at this;rw[←e,hb8] at this;cases this
 have h0:(zbw M1 b7 0).le M1:=by
  unfold zbw;rw[show ((0:Nat):Int)=0 from rfl,zqA (hxb.le hle1)];exact Mem.le_refl _
 clear hM1 hMb hMa
 have hB1:B=[]++([zu s.self]++(zV [s.epoch]++([zu s.ul.length]++(zbA s.ul++(zV [(s.hs.length:Int)]++(zaM s.hs++(zV [(s.sn.length:Int)]++zO s.sn))))))):=by
  rw[hB,zgH,zcM];simp
 refine(zj3 hC h0 (x:=s.self) (by omega) hB1 rfl).mono ?_;rintro v M2 ⟨rfl, -, h2⟩;refine zR ?_
 have hul64:s.ul.length≤64:=by
  have h1:=zmv hR.form.1.1;have h2:(zG (zaL s.ul)).length≤(zaL s.ul).length:=zc5 _ 0
  rw[h1,zb8] at h2;exact h2
 have hh256:s.hs.length≤256:=by have:=hR.full;unfold zfa at this;omega
 have hfew:=hR.few;have hsm:zcE s.sn≤256:=by have:=hR.full;unfold zfa at this;omega
 refine(zfJ hC h2 (x:=s.epoch) hep hB1 rfl).mono ?_;rintro v M3 ⟨rfl, -, h3⟩;refine zR ?_;refine(zj3 hC h3 (x:=s.ul.length) (pre:=zu s.self::zV [s.epoch]) (by omega) hB1 rfl).mono ?_;rintro v M4 ⟨rfl, -, h4⟩;replace h4:(zbw M1 b7 4).le M4:=h4;have hhl:(zcM s).length=4:=by rw[zqz,List.length_append,List.length_append,za0];rfl
 obtain⟨T2,hT2⟩:∃ T2,T2=zV [(s.sn.length:Int)]++zO s.sn:=⟨_,rfl⟩
 obtain⟨T1,hT1⟩:∃ T1,T1=zV [(s.hs.length:Int)]++(zaM s.hs++T2):=⟨_,rfl⟩
 have hB2:B=zcM s++(zbA s.ul++T1):=by rw[hT1,hT2,hB1];simp[zcM]
 refine zR ?_
 refine za6 (σ:=Nat×Mem×Option Addr×Nat) [47] (fun y=>[(47,.int .i64 y.1)]) (fun y=>[.live T.zaP [.v (.int .i64 0),.v (.int .i64 0),.v (.slice none 0 0),.v (.slice none 0 0),.v (.slice none 0 0)],.gone b4,.gone b0,.gone b7,.gone b8,.live T.zaP [.v (.int .i64 s.self),.v (.int .i64 s.epoch),.v (.slice y.2.2.1 y.1 y.2.2.2),.v (.slice none 0 0),.v (.slice none 0 0)]]) (fun y=>y.2.1)
  (fun|⟨i,Mc,a,c⟩=>i≤s.ul.length∧Got (zbw M1 b7 (4+3*i)) Mc a c (s.ul.take i) none 0 [] none 0 []) (fun y=>s.ul.length - y.1) ⟨0,M4,none,0⟩ ⟨by omega,⟨(NewSl.none _ _ _).up h4,⟨(NewSl.none _ _ _).up h4,by simp,by simp⟩,⟨(NewSl.none _ _ _).up h4,by simp⟩⟩⟩ zS ?_
 rintro ⟨i,Mc,ac,cc⟩ ⟨hi,hG⟩;have hlt0:(s.ul.take i).length=i:=by rw[List.length_take];omega
 have hpi:(zcM s++zbA (s.ul.take i)).length=4+3*i:=by rw[List.length_append,hhl,zmB,List.length_take];omega
 (conv=>whnf);refine brn (fun e=>?_) (fun e=>?_)
 ·have hlt:i<s.ul.length:=by have:=Zd0 e;dsimp only at this;omega
  have hxr:=hR.form.1.1.each _ (List.getElem_mem hlt);have htk:s.ul.take (i+1)=s.ul.take i++[s.ul[i]]:=by rw[List.take_add_one,List.getElem?_eq_getElem hlt];rfl
  have hB3:B=(zcM s++zbA (s.ul.take i))++([zu s.ul[i].1]++(zV [s.ul[i].2]++(zbA (s.ul.drop (i+1))++T1))):=by
   have e1:zbA s.ul=zbA (s.ul.take i)++((zu s.ul[i].1::zV [s.ul[i].2])++zbA (s.ul.drop (i+1))):=zi6 _ s.ul hlt;rw[hB2,e1];simp
  generalize s.ul[i]=x at *;(conv=>whnf)
  refine⟨M,Mem.le_trans (hX _) hG.nx.le,?_⟩;refine zX ?_;refine(zj3 hC hG.nx.le (x:=x.1) (by omega) hB3 hpi).mono ?_;rintro v Md ⟨rfl,hMd,hd⟩;have hGd:Got (zbw M1 b7 (4+3*i+1)) Md ac cc (s.ul.take i) none 0 [] none 0 []:=hMd▸hG.cur
  refine zT ((Mem.le_trans (hX _) hd)) ?_;refine(zfJ hC hd (x:=x.2) (pre:=(zcM s++zbA (s.ul.take i))++[zu x.1]) (rest:=zbA (s.ul.drop (i+1))++T1) (by omega) (by rw[hB3];simp) (by rw[List.length_append,hpi];rfl)).mono ?_;rintro v Me ⟨rfl,hMe,he⟩;have hGe:Got (zbw M1 b7 (4+3*(i+1))) Me ac cc (s.ul.take i) none 0 [] none 0 []:=hMe▸hGd.cur
  refine zT ((Mem.le_trans (hX _) he)) ?_;(conv=>whnf)
  have hNe:=hGe.nx;rw[hlt0] at hNe;refine zdS (zbw M1 b7 (4+3*(i+1))) hNe x rfl (by first|omega|(dsimp only;omega)) (by simp[maxLen];omega) (by simp[Value.oneCell']) fun a7 c7 M7 hN7 hk7=>?_
  have hG7:Got (zbw M1 b7 (4+3*(i+1))) M7 a7 c7 (s.ul.take (i+1)) none 0 [] none 0 []:=by
   rw[htk];exact hGe.addN (by rw[hlt0];exact hN7) hk7
  repeat' ((conv=>whnf);first|refine⟨?_,True.intro⟩|refine⟨?_,?_,True.intro⟩|refine brn_t rfl ?_|refine brn_f rfl ?_|refine ob rfl ?_|refine ob (by decide) ?_|refine grow_same (Mem.le_refl _) ?_|refine ob (Mem.le_refl _) ?_|refine⟨_,Mem.le_refl _,?_⟩|fail)
  refine ob (zd (by first|omega|(dsimp only;omega))) ?_;(conv=>whnf)
  exact⟨⟨i+1,M7,a7,c7⟩,⟨by omega,hG7⟩,by dsimp only;omega,zS⟩
 have hge:i=s.ul.length:=by have:=Zd1 e;dsimp only at this;omega
 have htk:s.ul.take i=s.ul:=List.take_of_length_le (by omega);rw[htk] at hG hpi
 repeat' ((conv=>whnf);first|refine⟨?_,True.intro⟩|refine⟨?_,?_,True.intro⟩|refine brn_t rfl ?_|refine brn_f rfl ?_|refine ob rfl ?_|refine ob (by decide) ?_|refine grow_same (Mem.le_refl _) ?_|refine ob (Mem.le_refl _) ?_|refine⟨_,Mem.le_refl _,?_⟩|fail)
 refine(zfJ hC hG.nx.le (x:=s.hs.length) (pre:=zcM s++zbA s.ul) (rest:=zaM s.hs++T2) (by omega) (by rw[hB2,hT1];simp) hpi).mono ?_;rintro v Mf ⟨rfl,hMf, -⟩;obtain⟨P,hP⟩:∃ P,P=zcM s++zbA s.ul++zV [(s.hs.length:Int)]:=⟨_,rfl⟩
 have hPl:P.length=4+3*i+2:=by rw[hP,List.length_append,hpi,za0];rfl
 have hGf:Got (zbw M1 b7 (P++zaM (s.hs.take 0)).length) Mf ac cc s.ul none 0 [] none 0 []:=by
  have:(P++zaM (s.hs.take 0)).length=4+3*i+2:=by rw[List.take_zero,List.length_append,hPl];rfl
  rw[this];exact hMf▸hG.cur
 have hBP:B=P++(zaM s.hs++T2):=by rw[hP,hB2,hT1];simp
 repeat' ((conv=>whnf);first|refine⟨?_,True.intro⟩|refine⟨?_,?_,True.intro⟩|refine brn_t rfl ?_|refine brn_f rfl ?_|refine ob rfl ?_|refine ob (by decide) ?_|refine grow_same (Mem.le_refl _) ?_|refine ob (Mem.le_refl _) ?_|refine⟨_,Mem.le_refl _,?_⟩|fail)
 refine za6 (σ:=Nat×Mem×Option Addr×Nat×List MX) [62] (fun y=>[(62,.int .i64 y.1)]) (fun y=>[.live T.zaP [.v (.int .i64 0),.v (.int .i64 0),.v (.slice none 0 0),.v (.slice none 0 0),.v (.slice none 0 0)],.gone b4,.gone b0,.gone b7,.gone b8,.live T.zaP [.v (.int .i64 s.self),.v (.int .i64 s.epoch),.v (.slice ac i cc),.v (.slice y.2.2.1 y.1 y.2.2.2.1),.v (.slice none 0 0)]]) (fun y=>y.2.1)
  (fun|⟨j,Mc,a,c,ms⟩=>j≤s.hs.length∧Got (zbw M1 b7 (P++zaM (s.hs.take j)).length) Mc ac cc s.ul a c ms none 0 []∧ms.map MX.msg=s.hs.take j) (fun y=>s.hs.length - y.1) ⟨0,Mf,none,0,[]⟩ ⟨by omega,hGf,by simp⟩ zS ?_
 rintro ⟨j,Mc,ah,ch,ms⟩ ⟨hj,hGh,hms⟩;have hmsl:ms.length=j:=by have:=congrArg List.length hms;simp at this;omega
 (conv=>whnf);refine brn (fun e=>?_) (fun e=>?_)
 ·have hlt:j<s.hs.length:=by have:=Zd0 e;dsimp only at this;omega
  have hok:=(hR.form.2.1.1 _ (List.getElem_mem hlt)).1;have htk2:s.hs.take (j+1)=s.hs.take j++[s.hs[j]]:=by rw[List.take_add_one,List.getElem?_eq_getElem hlt];rfl
  have hB3:B=(P++zaM (s.hs.take j))++([zu (6+s.hs[j].p.length)]++((zZ s.hs[j].id.o s.hs[j].id.d s.hs[j].id.e s.hs[j].id.c++s.hs[j].p)++(zaM (s.hs.drop (j+1))++T2))):=by
   have e1:zaM s.hs=zaM (s.hs.take j)++((zu (6+s.hs[j].p.length)::(zZ s.hs[j].id.o s.hs[j].id.d s.hs[j].id.e s.hs[j].id.c++s.hs[j].p))++zaM (s.hs.drop (j+1))):=zi6 _ s.hs hlt;rw[hBP,e1];simp
  have hmt:=zmC hlt;generalize s.hs[j]=x at *;have hpl:=(za8 hok).2.2
  obtain⟨k,hk⟩:∃ k,k=(P++zaM (s.hs.take j)).length:=⟨_,rfl⟩
  rw[←hk] at hGh
  repeat' ((conv=>whnf);first|refine⟨?_,True.intro⟩|refine⟨?_,?_,True.intro⟩|refine brn_t rfl ?_|refine brn_f rfl ?_|refine ob rfl ?_|refine ob (by decide) ?_|refine grow_same (Mem.le_refl _) ?_|refine ob (Mem.le_refl _) ?_|refine⟨_,Mem.le_refl _,?_⟩|fail)
  refine(zj3 hC hGh.nx.le (x:=((6+x.p.length:Nat):Int)) (by omega) hB3 hk.symm).mono ?_;rintro v Md ⟨rfl,hMd,hd⟩;have hGd:Got (zbw M1 b7 (k+1)) Md ac cc s.ul ah ch ms none 0 []:=hMd▸hGh.cur
  have q8:=hC.b8 hd;have q7:=hC.b7 hd
  have q4:=hC.b4 hd
  have hBl:B.length=k+(1+((6+x.p.length)+(zaM (s.hs.drop (j+1))++T2).length)):=by
   have:=congrArg List.length hB3;rw[List.length_append,←hk,List.length_append,List.length_append,List.length_append,zbp] at this;simpa using this
  refine zL3 (q8) (q7) (q4) ?_;(conv=>whnf);refine brn_f (decide_eq_false (by omega)) ?_;refine zL3 (q8) (q7) (q4) ?_;(conv=>whnf);refine ob (zd (by omega)) ?_;(conv=>whnf);refine brn_f (decide_eq_false (by omega)) ?_;refine zL3 (q8) (q7) (q4) ?_;(conv=>whnf);refine ob (zd (by omega)) ?_;(conv=>whnf);refine ob ⟨by omega,by omega,by omega⟩ ?_;(conv=>whnf)
  have hz1:((k+1:Nat):Int).toNat=k+1:=rfl;have hz2:((((k+1:Nat):Int)+((6+x.p.length:Nat):Int)).toNat - ((k+1:Nat):Int).toNat)=6+x.p.length:=by omega
  rw[hz2];have hsrc:=((hC.src (k+1)).le hd).subm (lo:=k+1) (hi:=k+1+(6+x.p.length)) (by omega) (by omega) hC.big.2
  have hmid:(B.drop (k+1)).take (k+1+(6+x.p.length) - (k+1))=zZ x.id.o x.id.d x.id.e x.id.c++x.p:=by
   have e1:B=(P++zaM (s.hs.take j)++[zu (6+x.p.length)])++((zZ x.id.o x.id.d x.id.e x.id.c++x.p)++(zaM (s.hs.drop (j+1))++T2)):=by rw[hB3];simp
   have e2:(P++zaM (s.hs.take j)++[zu (6+x.p.length)]).length=k+1:=by rw[List.length_append,←hk];rfl
   rw[e1,←e2,List.drop_left,Nat.add_sub_cancel_left,show 6+x.p.length=(zZ x.id.o x.id.d x.id.e x.id.c++x.p).length by rw[List.length_append,zbp],List.take_left]
  rw[hmid,show k+1+(6+x.p.length) - (k+1)=6+x.p.length by omega] at hsrc;obtain⟨g1,g2⟩:=zwz hok;refine(zrQ _ (6+x.p.length) _ Md _ hsrc (by omega) (by omega)).mono ?_;rw[g1,g2];rintro v M5 ⟨a5,n5,c5,rfl,hN5, -⟩;have hn5:n5=x.p.length:=hN5.src.maplen.symm
  subst hn5;have hG5:=hGd.up hN5.le
  have h5:=Mem.le_trans hd hN5.le;have q7':=hC.b7 h5
  refine zL (q7') ?_;(conv=>whnf);refine ob (zd (by omega)) ?_;(conv=>whnf);refine on q7'.cells ?_;(conv=>whnf);refine ob (by simp) ?_
  have e7:((k+1:Nat):Int)+((6+x.p.length:Nat):Int)=(((P++zaM (s.hs.take (j+1))).length:Nat):Int):=by
   rw[hmt,←List.append_assoc,List.length_append,←hk,List.length_cons,List.length_append,zbp];omega
  rw[e7];obtain⟨k2,hk2⟩:∃ k2,k2=(P++zaM (s.hs.take (j+1))).length:=⟨_,rfl⟩
  rw[←hk2];obtain⟨M6,hM6⟩:∃ M6,M6=M5.setCells b7 T.zr [.int .i64 (k2:Nat)]:=⟨_,rfl⟩
  have hG6:Got (zbw M1 b7 k2) M6 ac cc s.ul ah ch ms none 0 []:=hM6▸hG5.cur
  have hN6:NewSl (zbw M1 b7 k2) T.zn 1 a5 x.p.length c5 (x.p.map zl) M6:=by
   rw[hM6];exact NewSl.cur (hN5.mono hd)
  have hap:∀ m∈ms,∀ z,z6 m.a z→¬z6 a5 z:=fun m hm z ⟨q1,hq1,e1⟩ ⟨q2,hq2,e2⟩=>by
   obtain⟨_,cs,hh⟩:=(hGd.held.data m hm).block hq1;have h0:=(hN5.block hq2).1
   unfold Mem.has at hh;rw[e2,←e1,hh] at h0;cases h0
  (conv=>whnf);erw [←hM6]
  repeat' ((conv=>whnf);first|refine⟨?_,True.intro⟩|refine⟨?_,?_,True.intro⟩|refine brn_t rfl ?_|refine brn_f rfl ?_|refine ob rfl ?_|refine ob (by decide) ?_|refine grow_same (Mem.le_refl _) ?_|refine ob (Mem.le_refl _) ?_|refine⟨_,Mem.le_refl _,?_⟩|fail)
  (conv=>whnf);have hrow:=hG6.held.row
  rw[hmsl] at hrow;refine zdS (zbw M1 b7 k2) hrow (⟨x.id,a5,c5,x.p⟩:MX) rfl (by first|omega|(dsimp only;omega)) (by simp[maxLen];omega) (by simp[Value.oneCell']) fun a9 c9 M9 hN9 hk9=>?_
  have hG9:Got (zbw M1 b7 k2) M9 ac cc s.ul a9 c9 (ms++[(⟨x.id,a5,c5,x.p⟩:MX)]) none 0 []:=hG6.addH hN6 hap (by rw[hmsl];exact hN9) hk9
  repeat' ((conv=>whnf);first|refine⟨?_,True.intro⟩|refine⟨?_,?_,True.intro⟩|refine brn_t rfl ?_|refine brn_f rfl ?_|refine ob rfl ?_|refine ob (by decide) ?_|refine grow_same (Mem.le_refl _) ?_|refine ob (Mem.le_refl _) ?_|refine⟨_,Mem.le_refl _,?_⟩|fail)
  refine ob (zd (by first|omega|(dsimp only;omega))) ?_;(conv=>whnf)
  exact⟨⟨j+1,M9,a9,c9,ms++[(⟨x.id,a5,c5,x.p⟩:MX)]⟩,⟨by omega,hk2▸hG9,by rw[List.map_append,hms,htk2];rfl⟩,by dsimp only;omega,zS⟩
 have hge2:j=s.hs.length:=by have:=Zd1 e;dsimp only at this;omega
 have htk2:s.hs.take j=s.hs:=List.take_of_length_le (by omega);rw[htk2] at hGh hms;have hBM:B=(P++zaM s.hs)++(zV [(s.sn.length:Int)]++zO s.sn):=by rw[hBP,hT2];simp
 repeat' ((conv=>whnf);first|refine⟨?_,True.intro⟩|refine⟨?_,?_,True.intro⟩|refine brn_t rfl ?_|refine brn_f rfl ?_|refine ob rfl ?_|refine ob (by decide) ?_|refine grow_same (Mem.le_refl _) ?_|refine ob (Mem.le_refl _) ?_|refine⟨_,Mem.le_refl _,?_⟩|fail)
 refine(zfJ hC hGh.nx.le (x:=s.sn.length) (by omega) hBM rfl).mono ?_;rintro v Mg ⟨rfl,hMg, -⟩;obtain⟨Q,hQ⟩:∃ Q,Q=P++zaM s.hs++zV [(s.sn.length:Int)]:=⟨_,rfl⟩
 have hBQ:B=Q++zO s.sn:=by rw[hQ,hBM];simp
 have hGg:Got (zbw M1 b7 (Q++zO (s.sn.take 0)).length) Mg ac cc s.ul ah ch ms none 0 []:=by
  have:(Q++zO (s.sn.take 0)).length=(P++zaM s.hs).length+2:=by
   have e1:(P++zaM s.hs++zV [(s.sn.length:Int)]).length=(P++zaM s.hs).length+(zV [(s.sn.length:Int)]).length:=List.length_append;rw[hQ,List.take_zero,List.length_append,e1,za0];rfl
  rw[this];exact hMg▸hGh.cur
 repeat' ((conv=>whnf);first|refine⟨?_,True.intro⟩|refine⟨?_,?_,True.intro⟩|refine brn_t rfl ?_|refine brn_f rfl ?_|refine ob rfl ?_|refine ob (by decide) ?_|refine grow_same (Mem.le_refl _) ?_|refine ob (Mem.le_refl _) ?_|refine⟨_,Mem.le_refl _,?_⟩|fail)
 refine za6 (σ:=Nat×Mem×Option Addr×Nat×List MkC) [104] (fun y=>[(104,.int .i64 y.1)]) (fun y=>[.live T.zaP [.v (.int .i64 0),.v (.int .i64 0),.v (.slice none 0 0),.v (.slice none 0 0),.v (.slice none 0 0)],.gone b4,.gone b0,.gone b7,.gone b8,.live T.zaP [.v (.int .i64 s.self),.v (.int .i64 s.epoch),.v (.slice ac i cc),.v (.slice ah j ch),.v (.slice y.2.2.1 y.1 y.2.2.2.1)]]) (fun y=>y.2.1)
  (fun|⟨n,Mc,a,c,mk⟩=>n≤s.sn.length∧Got (zbw M1 b7 (Q++zO (s.sn.take n)).length) Mc ac cc s.ul ah ch ms a c mk∧mk.map MkC.mk'=s.sn.take n) (fun y=>s.sn.length - y.1) ⟨0,Mg,none,0,[]⟩ ⟨by omega,hGg,by simp⟩ zS ?_
 rintro ⟨n,Mc,am,cm,mk⟩ ⟨hn,hGm,hmk⟩;have hmkl:mk.length=n:=by have:=congrArg List.length hmk;simp at this;omega
 (conv=>whnf);refine brn (fun e=>?_) (fun e=>?_)
 ·have hlt:n<s.sn.length:=by have:=Zd0 e;dsimp only at this;omega
  have hok:=hR.form.2.2.2.1 _ (List.getElem_mem hlt);have hml:s.sn[n].more.length≤256:=by have:=zol (List.getElem_mem hlt);omega
  have htk3:s.sn.take (n+1)=s.sn.take n++[s.sn[n]]:=by rw[List.take_add_one,List.getElem?_eq_getElem hlt];rfl
  have hB4:B=(Q++zO (s.sn.take n))++(zfc s.sn[n]++zO (s.sn.drop (n+1))):=by
   have e1:zO s.sn=zO (s.sn.take n)++(zfc s.sn[n]++zO (s.sn.drop (n+1))):=zi6 _ s.sn hlt;rw[hBQ,e1,List.append_assoc]
  have hmt:=zps hlt;generalize s.sn[n]=x at *;obtain⟨⟨r1,r2,r3,r4,r5,r6⟩,r7,r8⟩:=hok;obtain⟨k,hk⟩:∃ k,k=(Q++zO (s.sn.take n)).length:=⟨_,rfl⟩
  obtain⟨R,hRr⟩:∃ R,R=zO (s.sn.drop (n+1)):=⟨_,rfl⟩
  obtain⟨pre,hpre⟩:∃ pre,pre=Q++zO (s.sn.take n):=⟨_,rfl⟩
  rw[←hpre] at hk hB4;rw[←hRr] at hB4;rw[show (Q++zO (s.sn.take n)).length=k by rw[hk,hpre]] at hGm;have hB5:B=pre++([zu x.o]++(zV [x.e]++(zV [x.up]++(zV [(x.more.length:Int)]++(zV x.more++R))))):=by rw[hB4,zfc];simp[zV]
  repeat' ((conv=>whnf);first|refine⟨?_,True.intro⟩|refine⟨?_,?_,True.intro⟩|refine brn_t rfl ?_|refine brn_f rfl ?_|refine ob rfl ?_|refine ob (by decide) ?_|refine grow_same (Mem.le_refl _) ?_|refine ob (Mem.le_refl _) ?_|refine⟨_,Mem.le_refl _,?_⟩|fail)
  refine(zj3 hC hGm.nx.le (x:=x.o) (by omega) hB5 hk.symm).mono ?_;rintro v Md ⟨rfl,hMd, -⟩;have hGd:Got (zbw M1 b7 (k+1)) Md ac cc s.ul ah ch ms am cm mk:=hMd▸hGm.cur
  repeat' ((conv=>whnf);first|refine⟨?_,True.intro⟩|refine⟨?_,?_,True.intro⟩|refine brn_t rfl ?_|refine brn_f rfl ?_|refine ob rfl ?_|refine ob (by decide) ?_|refine grow_same (Mem.le_refl _) ?_|refine ob (Mem.le_refl _) ?_|refine⟨_,Mem.le_refl _,?_⟩|fail)
  refine(zfJ hC hGd.nx.le (x:=x.e) (pre:=pre++[zu x.o]) (rest:=zV [x.up]++(zV [(x.more.length:Int)]++(zV x.more++R))) (by omega) (by rw[hB5];simp) (by rw[List.length_append,←hk];rfl)).mono ?_;rintro v Me ⟨rfl,hMe, -⟩;have hGe:Got (zbw M1 b7 (k+3)) Me ac cc s.ul ah ch ms am cm mk:=hMe▸hGd.cur
  repeat' ((conv=>whnf);first|refine⟨?_,True.intro⟩|refine⟨?_,?_,True.intro⟩|refine brn_t rfl ?_|refine brn_f rfl ?_|refine ob rfl ?_|refine ob (by decide) ?_|refine grow_same (Mem.le_refl _) ?_|refine ob (Mem.le_refl _) ?_|refine⟨_,Mem.le_refl _,?_⟩|fail)
  refine(zfJ hC hGe.nx.le (x:=x.up) (pre:=pre++[zu x.o]++zV [x.e]) (rest:=zV [(x.more.length:Int)]++(zV x.more++R)) (by omega) (by rw[hB5];simp) (by rw[List.length_append,List.length_append,←hk,za0];rfl)).mono ?_;rintro v Mh ⟨rfl,hMh, -⟩;have hGh2:Got (zbw M1 b7 (k+5)) Mh ac cc s.ul ah ch ms am cm mk:=hMh▸hGe.cur
  repeat' ((conv=>whnf);first|refine⟨?_,True.intro⟩|refine⟨?_,?_,True.intro⟩|refine brn_t rfl ?_|refine brn_f rfl ?_|refine ob rfl ?_|refine ob (by decide) ?_|refine grow_same (Mem.le_refl _) ?_|refine ob (Mem.le_refl _) ?_|refine⟨_,Mem.le_refl _,?_⟩|fail)
  refine(zfJ hC hGh2.nx.le (x:=x.more.length) (pre:=pre++[zu x.o]++zV [x.e]++zV [x.up]) (rest:=zV x.more++R) (by omega) (by rw[hB5];simp) (by rw[List.length_append,List.length_append,List.length_append,←hk,za0,za0];rfl)).mono ?_;rintro v Mi ⟨rfl,hMi, -⟩;have hGi:Got (zbw M1 b7 (k+7)) Mi ac cc s.ul ah ch ms am cm mk:=hMi▸hGh2.cur
  repeat' ((conv=>whnf);first|refine⟨?_,True.intro⟩|refine⟨?_,?_,True.intro⟩|refine brn_t rfl ?_|refine brn_f rfl ?_|refine ob rfl ?_|refine ob (by decide) ?_|refine grow_same (Mem.le_refl _) ?_|refine ob (Mem.le_refl _) ?_|refine⟨_,Mem.le_refl _,?_⟩|fail)
  have hpl:(pre++[zu x.o]++zV [x.e]++zV [x.up]++zV [(x.more.length:Int)]).length=k+7:=by
   rw[List.length_append,List.length_append,List.length_append,List.length_append,←hk,za0,za0,za0];rfl
  refine za6 (σ:=Nat×Mem×Option Addr×Nat) [15] (fun y=>[(15,.int .i64 ((x.more.length:Int) - y.1))]) (fun y=>[.live T.zaP [.v (.int .i64 0),.v (.int .i64 0),.v (.slice none 0 0),.v (.slice none 0 0),.v (.slice none 0 0)],.gone b4,.gone b0,.gone b7,.gone b8,.live T.zaP [.v (.int .i64 s.self),.v (.int .i64 s.epoch),.v (.slice ac i cc),.v (.slice ah j ch),.v (.slice am n cm)],.live T.za2 [.v (.int .i64 x.o),.v (.int .i64 x.e),.v (.int .i64 x.up),.v (.slice y.2.2.1 y.1 y.2.2.2)]]) (fun y=>y.2.1)
   (fun|⟨r,Mr,a,c⟩=>r≤x.more.length∧NewSl (zbw Mi b7 (k+7+2*r)) T.zr 1 a r c ((x.more.take r).map zaa) Mr) (fun y=>x.more.length - y.1) ⟨0,Mi,none,0⟩ ⟨by omega,?_⟩ ?_ ?_
  ·refine(NewSl.none _ _ _).up ?_;have:=hC.b7 hGi.nx.le
   unfold zbw;rw[show ((k+7+2*0:Nat):Int)=((k+7:Nat):Int) from rfl,zqA this];exact Mem.le_refl _
  ·have e0:((x.more.length:Int) - ((0:Nat):Int))=x.more.length:=by omega
   dsimp only;rw[e0];exact zS
  rintro ⟨r,Mr,ar,cr⟩ ⟨hr,hNr⟩;have hler:(zbw M1 b7 (k+7+2*r)).le Mr:=Mem.le_trans (zwy hGi.nx.le) hNr.le
  (conv=>whnf);refine brn (fun e3=>?_) (fun e3=>?_)
  ·have hlt3:r<x.more.length:=by have:=Zd0 e3;dsimp only at this;omega
   have hq8:=hC.b8 hler;have hxr:=Chain.range r8 (by omega) _ (List.getElem_mem hlt3)
   have htk4:x.more.take (r+1)=x.more.take r++[x.more[r]]:=by rw[List.take_add_one,List.getElem?_eq_getElem hlt3];rfl
   have hB6:B=(pre++[zu x.o]++zV [x.e]++zV [x.up]++zV [(x.more.length:Int)]++zV (x.more.take r))++(zV [x.more[r]]++(zV (x.more.drop (r+1))++R)):=by
    have e1:zV x.more=zV (x.more.take r)++(be 2 x.more[r]++zV (x.more.drop (r+1))):=zi6 _ x.more hlt3;rw[hB5,e1,zwx x.more[r]];simp
   have hpl2:(pre++[zu x.o]++zV [x.e]++zV [x.up]++zV [(x.more.length:Int)]++zV (x.more.take r)).length=k+7+2*r:=by
    rw[List.length_append,hpl,za0,List.length_take];omega
   generalize x.more[r]=z at *;refine zLX (hq8) ?_;(conv=>whnf)
   refine⟨M,Mem.le_trans (hX _) hler,?_⟩;refine zX ?_;refine(zfJ hC hler (x:=z) hxr hB6 hpl2).mono ?_;rintro v Ms ⟨rfl,hMs,hs⟩;have hNs:NewSl (zbw Mi b7 (k+7+2*(r+1))) T.zr 1 ar r cr ((x.more.take r).map zaa) Ms:=hMs▸NewSl.cur hNr
   refine zT ((Mem.le_trans (hX _) hs)) ?_;(conv=>whnf)
   refine ze6 (zbw Mi b7 (k+7+2*(r+1))) _ hNs (by first|omega|(dsimp only;omega)) (by simp[maxLen];omega) (by simp[Value.oneCell']) fun a7 c7 M7 hN7=>?_
   repeat' ((conv=>whnf);first|refine⟨?_,True.intro⟩|refine⟨?_,?_,True.intro⟩|refine brn_t rfl ?_|refine brn_f rfl ?_|refine ob rfl ?_|refine ob (by decide) ?_|refine grow_same (Mem.le_refl _) ?_|refine ob (Mem.le_refl _) ?_|refine⟨_,Mem.le_refl _,?_⟩|fail)
   refine ob (zd (by first|omega|(dsimp only;omega))) ?_;(conv=>whnf)
   have e4:(x.more.length:Int) - (r:Int) - 1=(x.more.length:Int) - ((r+1:Nat):Int):=by omega
   dsimp only;rw[e4];exact⟨⟨r+1,M7,a7,c7⟩,⟨by omega,by rw[htk4,List.map_append];exact hN7⟩,by dsimp only;omega,zS⟩
  have hge3:r=x.more.length:=by have:=Zd1 e3;dsimp only at this;omega
  have hmr:x.more.take r=x.more:=List.take_of_length_le (by omega);rw[hmr] at hNr;have hGr:Got (zbw M1 b7 (k+7+2*r)) Mr ac cc s.ul ah ch ms am cm mk:=(hGi.cur (l':=[.int .i64 ((k+7+2*r:Nat):Int)])).up hNr.le
  have hq8:=hC.b8 hler;refine zL (hq8) ?_;(conv=>whnf)
  subst hge3;have hrow:=hGr.seen.row
  rw[hmkl] at hrow;refine zdS (zbw M1 b7 (k+7+2*x.more.length)) hrow (⟨x.o,x.e,x.up,ar,cr,x.more⟩:MkC) rfl (by first|omega|(dsimp only;omega)) (by simp[maxLen];omega) (by simp[Value.oneCell']) fun a9 c9 M9 hN9 hk9=>?_
  have hG9:=hGr.addM (x:=(⟨x.o,x.e,x.up,ar,cr,x.more⟩:MkC)) (hNr.mono (zwy hGi.nx.le)) (by rw[hmkl];exact hN9) hk9
  repeat' ((conv=>whnf);first|refine⟨?_,True.intro⟩|refine⟨?_,?_,True.intro⟩|refine brn_t rfl ?_|refine brn_f rfl ?_|refine ob rfl ?_|refine ob (by decide) ?_|refine grow_same (Mem.le_refl _) ?_|refine ob (Mem.le_refl _) ?_|refine⟨_,Mem.le_refl _,?_⟩|fail)
  refine ob (zd (by first|omega|(dsimp only;omega))) ?_;(conv=>whnf)
  have e5:(Q++zO (s.sn.take (n+1))).length=k+7+2*x.more.length:=by
   rw[hmt,←List.append_assoc,←hpre,List.length_append,←hk,zfc,List.length_cons,List.length_append,za0,za0];simp;omega
  exact⟨⟨n+1,M9,a9,c9,mk++[(⟨x.o,x.e,x.up,ar,cr,x.more⟩:MkC)]⟩,⟨by omega,by rw[e5];exact hG9,by rw[List.map_append,hmk,htk3];rfl⟩,by dsimp only;omega,zS⟩
 have hge3:n=s.sn.length:=by have:=Zd1 e;dsimp only at this;omega
 have htk3:s.sn.take n=s.sn:=List.take_of_length_le (by omega);rw[htk3,←hBQ] at hGm;rw[htk3] at hmk;have hlem:=hGm.nx.le
 have q8:=hC.b8 hlem;have q7:=hC.b7 hlem
 have q4:=hC.b4 hlem;refine zL3 (q8) (q7) (q4) ?_;(conv=>whnf);refine brn_f (by simp) ?_;(conv=>whnf)
 have hmsl':ms.length=j:=hmsl
 have hat:zrT Mc s ac s.ul.length ah s.hs.length ch am s.sn.length ms mk:=by
  have h1:=hGm.held.msgs;have h2:=hGm.seen.r
  have h3:=hGm.nx.src;have h4:ms.length=s.hs.length:=by omega
  have h5:mk.length=s.sn.length:=by rw[←hmk,List.length_map]
  rw[h4] at h1;rw[h5] at h2;have hc1:s.hs.length≤ch:=by have:=(newSl_iff.1 hGm.held.row).2.2.1;omega
  have hfw:∀ m∈mk,m.more.length≤256:=fun m hm=>by
   have h6:m.mk'∈s.sn:=hmk▸List.mem_map.2 ⟨m,hm,rfl⟩;have h7:=zol h6
   have h8:m.mk'.more=m.more:=rfl;rw[h8] at h7;omega
  refine⟨⟨h3,h1,h2,fun m hm=>by have:=hfw m hm;omega,by omega⟩,⟨by omega,by omega,hc1,by omega,fun m hm=>?_,fun m hm=>by have:=hfw m hm;omega⟩,hms,hmk⟩;have h6:m.msg∈s.hs:=hms▸List.mem_map.2 ⟨m,hm,rfl⟩
  have h7:=(za8 (hR.form.2.1.1 _ h6).1).2.2;dsimp only [MX.msg] at h7;omega
 subst hge hge2 hge3;refine(zn7 hat hR).mono ?_;rintro v M9 ⟨rfl,hle9⟩
 repeat' ((conv=>whnf);first|refine⟨?_,True.intro⟩|refine⟨?_,?_,True.intro⟩|refine brn_t rfl ?_|refine brn_f rfl ?_|refine ob rfl ?_|refine ob (by decide) ?_|refine grow_same (Mem.le_refl _) ?_|refine ob (Mem.le_refl _) ?_|refine⟨_,Mem.le_refl _,?_⟩|fail)
 exact⟨ac,cc,ah,ch,am,cm,ms,mk,rfl,⟨hat.stat.le hle9,hat.big,hms,hmk⟩,Mem.le_trans (hX _) (Mem.le_trans hlem hle9)⟩
end
section
variable {A M M':Mem} {c p:Nat} {N:Int}
structure CuR where
 X:StW
 D:zf
 L:zaE
 w:CuW
structure CuH where
 h:Hd
 g:Nat
 db:Nat
 des:FsT
@[reducible] def CuH.lb (p:Nat) (H:CuH):Nat→Prop:=zbj H.g p H.db H.des
def LgOk (L:zaE):Prop:=(1≤L.last∧L.last≤99999)∧0≤L.size∧L.size≤1048576
structure CuAt (A M:Mem) (c p:Nat) (N:Int) (H:CuH) (C:CuR):Prop where
 st:FreshW A M H.h C.X
 log:LogAt A M H.g p H.db C.D H.des C.L
 self:M.has c T.zP (zeR H.h.p p (ptr H.g) C.w)
 cf:A c=none
 dj:∀ y,hB H.h y→¬H.lb p y
 cs:¬hB H.h c
 cl:¬H.lb p c
 lg:LgOk C.L
 nm:NamesC C.D
 cm:H.h.came≤N
def cuB (c p:Nat) (H:CuH):Nat→Prop:=fun y=>y=c∨hB H.h y∨H.lb p y
variable {H:CuH} {C:CuR}
theorem FreshW.keepS {h:Hd} {X:StW} (h1:FreshW A M h X) {S:Nat→Prop} (hk:Mem.keep S M M') (hS:∀ y,S y→A y=none∧¬hB h y):FreshW A M' h X:=
 ⟨⟨hk.le h1.st.le fun y hy=>(hS y hy).1,h1.st.at'.mono fun y o hy ho=>hk y o (fun e=>(hS y e).2 hy) ho,h1.st.inv,h1.st.invE,h1.st.room,h1.st.fresh⟩,h1.seen,h1.go,h1.bd⟩
theorem FreshW.some {h:Hd} {X:StW} (h1:FreshW A M h X) {y:Nat} (hy:hB h y):M y≠none:=h1.st.some hy
theorem CuAt.to (h:CuAt A M c p N H C) (hle:M.le M'):CuAt A M' c p N H C:=⟨h.st.to hle,h.log.to hle,h.self.le hle,h.cf,h.dj,h.cs,h.cl,h.lg,h.nm,h.cm⟩
theorem CuAt.le (h:CuAt A M c p N H C):A.le M:=h.log.disk.le
theorem CuAt.some (h:CuAt A M c p N H C) {y:Nat} (hy:cuB c p H y):M y≠none:=by
 rcases hy with rfl|hy|hy
 ·have:=h.self;unfold Mem.has at this;rw[this];simp
 ·exact h.st.some hy
 ·exact h.log.full hy
theorem CuAt.fresh (h:CuAt A M c p N H C) {y:Nat} (hy:cuB c p H y):A y=none:=by
 rcases hy with rfl|hy|rfl|hy
 ·exact h.cf
 ·exact h.st.st.fresh y hy
 ·exact h.log.fresh
 ·exact h.log.disk.fresh y hy
theorem CuAt.mono {A':Mem} (h:CuAt A' M c p N H C) (hle:A.le A'):CuAt A M c p N H C:=⟨h.st.mono hle,h.log.mono hle,h.self,(by
 cases e:A c with
 | none=>rfl
 | some o=>have:=hle c o e;rw[h.cf] at this;cases this),h.dj,h.cs,h.cl,h.lg,h.nm,h.cm⟩
theorem CuAt.base (h:CuAt A M c p N H C):CuAt (M.minus (cuB c p H)) M c p N H C∧A.le (M.minus (cuB c p H)):=by
 refine⟨⟨⟨⟨Mem.minus_le _ _,h.st.st.at',h.st.st.inv,h.st.st.invE,h.st.st.room,fun y hy=>Mem.minus_in (.inr (.inl hy))⟩,h.st.seen,h.st.go,h.st.bd⟩,
  ⟨⟨Mem.minus_le _ _,h.log.disk.at',h.log.disk.rel,h.log.disk.inv,fun y hy=>Mem.minus_in (.inr (.inr (.inr hy)))⟩,h.log.self,Mem.minus_in (.inr (.inr (.inl rfl)))⟩,
  h.self,Mem.minus_in (.inl rfl),h.dj,h.cs,h.cl,h.lg,h.nm,h.cm⟩,Mem.le_minus h.le fun y hy=>h.fresh hy⟩
theorem CuAt.turnL (h:CuAt A M c p N H C) {D':zf} {es':FsT} {L':zaE} (h':LogAt (M.minus (H.lb p)) M' H.g p H.db D' es' L') (hl:LgOk L') (hn:NamesC D'):CuAt A M' c p N { H with des:=es' } { C with D:=D',L:=L' }:=by
 have hk:Mem.keep (H.lb p) M M':=Mem.keep_minus.2 h'.disk.le
 have hnew:∀ y,zbj H.g p H.db es' y→(M.minus (H.lb p)) y=none:=fun y hy=>by
  rcases hy with rfl|hy
  ·exact h'.fresh
  ·exact h'.disk.fresh y hy
 have hout:∀ y,¬H.lb p y→M y≠none→¬zbj H.g p H.db es' y:=fun y h1 h2 h3=>by
  have h4:=hnew y h3;unfold Mem.minus at h4;rw[if_neg h1] at h4;exact h2 h4
 refine⟨h.st.keepS hk fun y hy=>⟨h.fresh (.inr (.inr hy)),fun h2=>h.dj y h2 hy⟩,h'.mono h.log.base.2,hk _ _ h.cl h.self,h.cf,fun y hy=>hout y (h.dj y hy) (h.st.some hy),h.cs,hout c h.cl (h.some (.inl rfl)),hl,hn,h.cm⟩
theorem CuAt.turnS (h:CuAt A M c p N H C) {N':Int} {h2:Hd} {X':StW} (h':FreshW (M.minus (hB H.h)) M' h2 X') (hp:h2.p=H.h.p) (hc:h2.came≤N'):CuAt A M' c p N' { H with h:=h2 } { C with X:=X' }:=by
 have hk:Mem.keep (hB H.h) M M':=Mem.keep_minus.2 h'.st.le
 have hout:∀ y,¬hB H.h y→M y≠none→¬hB h2 y:=fun y h1 h3 h4=>by
  have h5:=h'.st.fresh y h4;unfold Mem.minus at h5;rw[if_neg h1] at h5;exact h3 h5
 refine⟨h'.mono h.st.base.2,h.log.keepS hk fun y hy=>⟨h.fresh (.inr (.inl hy)),h.dj y hy⟩,?_,h.cf,fun y hy hl=>hout y (fun h1=>h.dj y h1 hl) (h.log.full hl) hy,hout c h.cs (h.some (.inl rfl)),h.cl,h.lg,h.nm,hc⟩;have:=hk _ _ h.cs h.self
 dsimp only;rw[hp];exact this
theorem CuAt.turnC (h:CuAt A M c p N H C) (w:CuW):CuAt A (M.setCells c T.zP (zeR H.h.p p (ptr H.g) w)) c p N H { C with w:=w }:=by
 have hk:Mem.keep (fun y=>y=c) M (M.setCells c T.zP (zeR H.h.p p (ptr H.g) w)):=fun y o hy ho=>by
  unfold Mem.setCells;rw[Mem.upd_ne _ _ hy];exact ho
 exact⟨h.st.keepS hk fun y hy=>hy▸⟨h.cf,h.cs⟩,h.log.keepS hk fun y hy=>hy▸⟨h.cf,h.cl⟩,Mem.has_setCells,h.cf,h.dj,h.cs,h.cl,h.lg,h.nm,h.cm⟩
theorem CuAt.disk (h:CuAt A M c p N H C):FreshD A M p H.db C.D H.des:=h.log.disk
theorem CuAt.turnD (h:CuAt A M c p N H C) {D':zf} {es':FsT} (h':FreshD (M.minus (zac p H.db H.des)) M' p H.db D' es') (hn:NamesC D'):CuAt A M' c p N { H with des:=es' } { C with D:=D' }:=
 h.turnL (h.log.base.1.call h') h.lg hn
end
section
variable {A M M':Mem} {c p:Nat} {N:Int} {H:CuH} {C:CuR}
def appC (C:CuR) (q:List UInt8):CuR×Int:=({ C with D:=(zaf C.D C.L q).1,L:=(zaf C.D C.L q).2.1,w:=zgy C.w (zaf C.D C.L q).2.2 },(zaf C.D C.L q).2.2)
def zgz (C:CuR):CuR×Int:=({ C with D:=(syncL C.D C.L).1,L:=(syncL C.D C.L).2.1,w:=zgy C.w (syncL C.D C.L).2.2 },(syncL C.D C.L).2.2)
def zlB (C:CuR) (k:Int) (i:IdT) (q:List UInt8):CuR×Int:=({ C with X:=(zcX C.X k i q).1 },(zcX C.X k i q).2)
def zbg (C:CuR) (k:Int) (i:IdT) (q:List UInt8) (safely:Bool):CuR×Int:=
 if C.w.failed=true then (C,7) else if zcF C.X k i q.length≠0 then (C,zcF C.X k i q.length)
 else if (appC C (zI ⟨k,i,q⟩)).2≠0 then appC C (zI ⟨k,i,q⟩)
 else if safely=true then (if (zgz (appC C (zI ⟨k,i,q⟩)).1).2≠0 then zgz (appC C (zI ⟨k,i,q⟩)).1 else zlB (zgz (appC C (zI ⟨k,i,q⟩)).1).1 k i q)
 else zlB (appC C (zI ⟨k,i,q⟩)).1 k i q
theorem NamesC.l {D D':zf} (h:NamesC D) (e:∀ f∈D'.l,f∈D.l∨(∃ k:Int,¬(k<1∨99999<k)∧f.name=zc k)∨(∃ k:Int,¬(k<1∨99999<k)∧f.name=zt k)∨f.name=⟨#[116]⟩):NamesC D':=fun f hf=>by
 rcases e f hf with hf|hf
 ·exact h f hf
 ·exact hf
theorem NamesC.sync {D:zf} (h:NamesC D) (s:ByteArray):NamesC (zbn D s).1:=by
 unfold zbn;split
 ·exact h
 ·rename_i h0;have hf:=(zbR (by simpa using h0)).2
  refine h.l fun f hf2=>?_
  rcases withR_mem.1 hf2 with rfl|⟨hf2,_⟩
  ·have:=List.mem_of_find?_eq_some hf;have hn:(zx D s).name=s:=Zd0 (List.find?_some (p:=fun f:FileR=>decide (f.name=s)) hf)
   have:=h _ this;rw[hn] at this;exact .inr this
  ·exact .inl hf2
theorem NamesC.append {D:zf} (h:NamesC D) {s:ByteArray} (hs:z8 D s=0→(∃ k:Int,¬(k<1∨99999<k)∧s=zc k)∨s=⟨#[116]⟩) (q:List UInt8):NamesC (zW D s q).1:=by
 unfold zW;split
 ·exact h
 ·rename_i h0;split
  ·exact h
  ·refine h.l fun f hf=>?_
   rcases withR_mem.1 hf with rfl|⟨hf,_⟩
   ·rcases hs (by simpa using h0) with h1|h1
    ·exact .inr (.inl h1)
    ·exact .inr (.inr (.inr h1))
   ·exact .inl hf
theorem NamesC.remove {D:zf} (h:NamesC D) (s:ByteArray):NamesC (zC D s).1:=by
 unfold zC;split
 ·exact h
 ·exact h.l fun f hf => .inl (withoutR_mem.1 hf).1
theorem NamesC.removeAll:∀ {ks:List Int} {D:zf},NamesC D→NamesC (removeAll D ks).1
 | [],_,h=>h
 | k::r,D,h=>by
  rw[Go.Proofs.YtpdkkbpkplhdpaaGreat.removeAll];split
  ·exact h.remove _
  ·exact NamesC.removeAll (h.remove _)
theorem NamesC.syncL {D:zf} (h:NamesC D) (L:zaE):NamesC (syncL D L).1:=by
 unfold Go.Proofs.YtpdkkbpkplhdpaaGreat.syncL
 repeat' split
 all_goals first|exact h|exact h.sync _
theorem NamesC.beginL {D:zf} (h:NamesC D) (L:zaE):NamesC (beginL D L).1:=by
 unfold Go.Proofs.YtpdkkbpkplhdpaaGreat.beginL
 repeat' split
 all_goals exact h.syncL L
theorem LgOk.sync {L:zaE} (h:LgOk L) (D:zf):LgOk (syncL D L).2.1:=by
 obtain⟨h1, -, h2⟩:=ziZ D L;unfold LgOk at h ⊢;rw[h1,h2];exact h
theorem LgOk.begin {L:zaE} (h:LgOk L) (D:zf):LgOk (beginL D L).2.1:=by
 have hs:=h.sync D;unfold LgOk at h;unfold Go.Proofs.YtpdkkbpkplhdpaaGreat.beginL
 repeat' split
 all_goals first|exact hs|(unfold LgOk at hs ⊢; dsimp only;have:=(ziZ D L).1;omega)
theorem LgOk.down {L:zaE} (h:LgOk L) (e:Int):LgOk (zcq L e):=h
theorem zrV {D:zf} {L:zaE} (h:NamesC D) (hl:LgOk L) (q:List UInt8):NamesC (zaf D L q).1∧LgOk (zaf D L q).2.1:=by
 have hr:NamesC (zbN D L (zap q).length).1∧LgOk (zbN D L (zap q).length).2.1:=by
  unfold zbN;split
  ·exact⟨h.beginL L,hl.begin D⟩
  ·exact⟨h,hl⟩
 unfold zaf
 repeat' split
 all_goals first|exact⟨h,hl⟩|exact hr|skip
 refine⟨hr.1.append (fun h0 => .inl ⟨_,zld h0,rfl⟩) _,hr.2.down _⟩
theorem zEO (h:CuAt A M c p N H C) {q:List UInt8} {a:Option Addr} {n cc:Nat} (hs:SrcOk A 1 a n (q.map zl)) (hn:n≤2097152) (hnc:n≤cc) :
  CallsM Tryz.prog F.ze5 [ptr H.g,.slice a n cc] M fun v M'=>∃ es',v = .int .i64 (zaf C.D C.L q).2.2∧CuAt A M' c p N { H with des:=es' } { C with D:=(zaf C.D C.L q).1,L:=(zaf C.D C.L q).2.1 }:=by
 obtain⟨h1,h2⟩:=zrV h.nm h.lg q;have hb:=h.log.base
 refine(zze hb.1 h.lg.1.2 h.lg.1.1 h.lg.2 (hs.le h.le) hn hnc (wlL h.disk.inv _)).mono ?_;rintro v M' ⟨es',hv,h'⟩;exact⟨es',hv,h.turnL h' h2 h1⟩
theorem zEP (h:CuAt A M c p N H C):CallsM Tryz.prog F.zeP [ptr H.g] M fun v M'=>∃ es',v = .int .i64 (syncL C.D C.L).2.2∧CuAt A M' c p N { H with des:=es' } { C with D:=(syncL C.D C.L).1,L:=(syncL C.D C.L).2.1 }:=
 (zv5 h.log.base.1).mono fun _ _ ⟨es',hv,h'⟩=>⟨es',hv,h.turnL h' (h.lg.sync _) (h.nm.syncL _)⟩
theorem zlC (h:CuAt A M c p N H C) (e:Int):CallsM Tryz.prog F.zbk [ptr c,.int .i64 e] M fun v M'=>v = .int .i64 e∧CuAt A M' c p N H { C with w:=zgy C.w e }:=
 (zBD h.self e).mono fun _ _ ⟨hv,hM⟩=>⟨hv,hM▸h.turnC _⟩
theorem zEQ (h:CuAt A M c p N H C) (k:Int) (i:IdT) (a:Option Addr) (n cc:Nat) (hn:n≤1048576):CallsM Tryz.prog F.zc3 [ptr H.h.p,evV k i a n cc] M fun v M'=>v = .int .i64 (zcF C.X k i n)∧M.le M':=zEM h.st k i a n cc hn
theorem zs2 (h:CuAt A M c p N H C) (hN:N≤4611686018427387904) (k:Int) (i:IdT) {a:Option Addr} {cc:Nat} {l:List UInt8} (hl:SrcOk A 1 a l.length (l.map zl)) (hn:l.length≤1048576) :
  CallsM Tryz.prog F.zbV [ptr H.h.p,evV k i a l.length cc] M fun v M'=>∃ h2:Hd,v = .int .i64 (zcX C.X k i l).2∧h2.p=H.h.p∧CuAt A M' c p (N+1) { H with h:=h2 } { C with X:=(zcX C.X k i l).1 }:=by
 have hb:=h.st.base;refine(zDk hb.1 k i (hl.le h.le) hn (by have:=h.cm;omega)).mono ?_;rintro v M' ⟨h2,hv,h',hp,hc⟩;exact⟨h2,hv,hp,h.turnS h' hp (by have:=h.cm;omega)⟩
theorem CuAt.more {N':Int} (h:CuAt A M c p N H C) (hN:N≤N'):CuAt A M c p N' H C:=⟨h.st,h.log,h.self,h.cf,h.dj,h.cs,h.cl,h.lg,h.nm,by have:=h.cm;omega⟩
theorem zn8 {X:StW} {k:Int} {i:IdT} {n:Nat} (h:zcF X k i n=0):zaF k i n=0:=by
 unfold zcF zag at h;split at h
 ·rename_i h1;exact absurd h h1
 ·rename_i h1;simpa using h1
set_option maxHeartbeats 1000000 in
theorem zrW (h:CuAt A M c p N H C) (hN:N≤4611686018427387904) (k:Int) (i:IdT) {a:Option Addr} {cc:Nat} {l:List UInt8} (hl:SrcOk A 1 a l.length (l.map zl)) (hn:l.length≤1048576) (s:Bool) :
  CallsM Tryz.prog F.zbG [ptr c,evV k i a l.length cc,.bool s] M fun v M'=>∃ H',v = .int .i64 (zbg C k i l s).2∧CuAt A M' c p (N+1) H' (zbg C k i l s).1:=by
 refine zk6 (by simp) ?_;refine zR ?_;refine(znX h.self).mono ?_;rintro v _ ⟨rfl,rfl⟩;(conv=>whnf);refine brn (fun e=>?_) (fun e=>?_)
 ·have hf:C.w.failed=true:=by
   cases hf:C.w.failed
   ·rw[hf] at e;exact absurd e (by decide)
   ·rfl
  refine zR ?_;rw[if_pos hf,show zbg C k i l s=(C,7) by simp[zbg,hf]];exact⟨H,rfl,h.more (by omega)⟩
 have hf:¬C.w.failed=true:=fun hf=>by rw[if_pos hf] at e;exact absurd e (by decide)
 refine zL (h.self) ?_;refine(zEQ h k i a l.length cc hn).mono ?_;rintro v M1 ⟨rfl,hle1⟩;have h1:=h.to hle1
 (conv=>whnf);refine brn (fun e=>?_) (fun e=>?_)
 ·have e1:zcF C.X k i l.length≠0:=by simpa using e
  refine zR ?_;rw[show zbg C k i l s=(C,zcF C.X k i l.length) by unfold zbg;rw[if_neg hf,if_pos e1]];exact⟨H,rfl,h1.more (by omega)⟩
 have e1:¬zcF C.X k i l.length≠0:=by simpa using e
 have hev:zcw ⟨k,i,l⟩=0:=zn8 (by simpa using e1);have hpb:zca ⟨k,i,l⟩=zI ⟨k,i,l⟩:=by unfold zca;rw[if_pos hev]
 have hpl:=zzB ⟨k,i,l⟩;refine zR ?_;refine(zB2 ⟨k,i,l⟩ (hl.le h1.le)).mono ?_;rw[hpb] at hpl;unfold zAT;rw[hev,hpb];rintro v M2 ⟨a2,c2,rfl,hN2⟩;have h2:=(h1.to hN2.le).base
 have hs2:SrcOk (M2.minus (cuB c p H)) 1 a2 (zI ⟨k,i,l⟩).length ((zI ⟨k,i,l⟩).map zl):=hN2.src.minus fun q hq hb=>h1.some hb (hN2.block hq).1
 have hc2:(zI ⟨k,i,l⟩).length≤c2:=(newSl_iff.1 hN2).2.2.1;refine zL (h2.1.self) ?_;refine(zEO h2.1 hs2 (by omega) hc2).mono ?_;rintro v M3 ⟨es3,rfl,h3⟩;refine zR ?_;refine(zlC h3 _).mono ?_;rintro v M4 ⟨rfl,h4⟩;replace h4:CuAt A M4 c p N { H with des:=es3 } (appC C (zI ⟨k,i,l⟩)).1:=h4.mono h2.2;have hA:(zaf C.D C.L (zI ⟨k,i,l⟩)).2.2=(appC C (zI ⟨k,i,l⟩)).2:=rfl
 rw[hA];obtain⟨C4,hC4⟩:∃ C4,C4=appC C (zI ⟨k,i,l⟩):=⟨_,rfl⟩
 have hX4:C4.1.X=C.X:=by rw[hC4];rfl
 have hput:zbg C k i l s=if C4.2≠0 then C4 else if s=true then (if (zgz C4.1).2≠0 then zgz C4.1 else zlB (zgz C4.1).1 k i l) else zlB C4.1 k i l:=by
  unfold zbg;rw[if_neg hf,if_neg e1,←hC4]
 rw[←hC4] at h4 ⊢;(conv=>whnf);refine brn (fun e=>?_) (fun e=>?_)
 ·have e2:C4.2≠0:=by simpa using e
  refine zR ?_;rw[hput,if_pos e2];exact⟨_,rfl,h4.more (by omega)⟩
 have e2:¬C4.2≠0:=by simpa using e
 rw[if_neg e2] at hput;cases s
 ·rw[if_neg (by decide)] at hput;refine zL (h4.self) ?_;refine(zs2 h4 hN k i hl hn).mono ?_;rintro v M5 ⟨hh5,rfl, -, h5⟩;refine zR ?_;rw[hput];exact⟨_,rfl,h5⟩
 rw[if_pos rfl] at hput;refine zL (h4.self) ?_;refine(zEP h4).mono ?_;rintro v M5 ⟨es5,rfl,h5⟩;refine zR ?_;refine(zlC h5 _).mono ?_;rintro v M6 ⟨rfl,h6⟩;have hS:(syncL C4.1.D C4.1.L).2.2=(zgz C4.1).2:=rfl
 rw[hS];replace h6:CuAt A M6 c p N _ (zgz C4.1).1:=h6;obtain⟨C6,hC6⟩:∃ C6,C6=zgz C4.1:=⟨_,rfl⟩
 rw[←hC6] at h6 hput ⊢;(conv=>whnf);refine brn (fun e=>?_) (fun e=>?_)
 ·have e3:C6.2≠0:=by simpa using e
  refine zR ?_;rw[hput,if_pos e3];exact⟨_,rfl,h6.more (by omega)⟩
 have e3:¬C6.2≠0:=by simpa using e
 rw[if_neg e3] at hput;refine zL (h6.self) ?_;refine(zs2 h6 hN k i hl hn).mono ?_;rintro v M7 ⟨hh7,rfl, -, h7⟩;refine zR ?_;rw[hput];exact⟨_,rfl,h7⟩
end
section
variable {A M M':Mem} {c p:Nat} {N:Int} {H:CuH} {C:CuR}
def zj4 (C:CuR) (d:Int):Int:=if (za7 C.X.S d).2=0∧C.w.spent=true then 10 else (za7 C.X.S d).2
def zct (C:CuR) (d:Int) (q:List UInt8):CuR×IdT×Int:=
 if C.w.failed=true then (C,zcr,7) else if zj4 C d≠0 then (C,zcr,zj4 C d)
 else if (zbg C 2 (za7 C.X.S d).1 q true).2≠0 then ((zbg C 2 (za7 C.X.S d).1 q true).1,zcr,(zbg C 2 (za7 C.X.S d).1 q true).2)
 else ((zbg C 2 (za7 C.X.S d).1 q true).1,(za7 C.X.S d).1,0)
theorem zqB (h:CuAt A M c p N H C) (hN:N≤4611686018427387904) (d:Int) {a:Option Addr} {cc:Nat} {l:List UInt8} (hl:SrcOk A 1 a l.length (l.map zl)) (hn:l.length≤1048576) :
  CallsM Tryz.prog F.zb3 [ptr c,.int .i64 d,.slice a l.length cc] M fun v M'=>∃ H',v = .tuple #[idA (zct C d l).2.1,.int .i64 (zct C d l).2.2]∧CuAt A M' c p (N+1) H' (zct C d l).1:=by
 refine ziK (by simp) ?_;refine zR ?_;refine(znX h.self).mono ?_;rintro v _ ⟨rfl,rfl⟩;(conv=>whnf);refine brn (fun e=>?_) (fun e=>?_)
 ·have hf:C.w.failed=true:=by
   cases hf:C.w.failed
   ·rw[hf] at e;exact absurd e (by decide)
   ·rfl
  refine zR ?_;rw[if_pos hf,show zct C d l=(C,zcr,7) by simp[zct,hf]];exact⟨H,rfl,h.more (by omega)⟩
 have hf:¬C.w.failed=true:=fun hf=>by rw[if_pos hf] at e;exact absurd e (by decide)
 refine zL (h.self) ?_;refine(zDl h.st d).mono ?_;rintro v _ ⟨rfl,rfl⟩;obtain⟨f,hfd⟩:∃ f,f=za7 C.X.S d:=⟨_,rfl⟩
 have hfc:zj4 C d=if f.2=0∧C.w.spent=true then 10 else f.2:=by rw[hfd];rfl
 have hsub:zct C d l=if zj4 C d≠0 then (C,zcr,zj4 C d) else if (zbg C 2 f.1 l true).2≠0 then ((zbg C 2 f.1 l true).1,zcr,(zbg C 2 f.1 l true).2) else ((zbg C 2 f.1 l true).1,f.1,0):=by
  unfold zct;rw[if_neg hf,hfd]
 rw[←hfd];refine zR ?_;refine brn (fun e=>?_) (fun e=>?_)
 rotate_left
 ·have e1:f.2≠0:=by simpa using e
  rw[if_neg (fun hh=>e1 hh.1)] at hfc;refine zR ?_;refine brn_f (by simp[e1]) ?_;refine zR ?_;refine brn_t (by simp[e1]) ?_;refine zR ?_;rw[hsub,hfc,if_pos e1];exact⟨H,rfl,h.more (by omega)⟩
 have e1:f.2=0:=Zd0 e;refine zL (h.self) ?_;cases hsp:C.w.spent
 case true=>
  rw[if_pos ⟨e1,hsp⟩] at hfc;refine zR ?_;rw[hsub,hfc,if_pos (by decide)];exact⟨H,rfl,h.more (by omega)⟩
 rw[if_neg (fun hh=>by rw[hsp] at hh;cases hh.2)] at hfc;refine zR ?_;refine brn_t (decide_eq_true e1) ?_;refine zR ?_;refine(zrW h hN 2 f.1 hl hn true).mono ?_;rintro v M2 ⟨H2,rfl,h2⟩;rw[hfc,if_neg (by simp[e1])] at hsub;refine zR ?_;refine brn (fun e=>?_) (fun e=>?_)
 ·have e2:(zbg C 2 f.1 l true).2≠0:=by simpa using e
  refine zR ?_;rw[hsub,if_pos e2];exact⟨H2,rfl,h2⟩
 ·have e2:¬(zbg C 2 f.1 l true).2≠0:=by simpa using e
  refine zR ?_;rw[hsub,if_neg e2];exact⟨H2,rfl,h2⟩
theorem zEk (h:CuAt A M c p N H C) (hN:N≤4611686018427387904) (i:IdT) {a:Option Addr} {cc:Nat} {l:List UInt8} (hl:SrcOk A 1 a l.length (l.map zl)) (hn:l.length≤1048576) :
  CallsM Tryz.prog F.zeB [ptr c,.agg #[.int .i64 i.o,.int .i64 i.d,.int .i64 i.e,.int .i64 i.c,.slice a l.length cc]] M fun v M'=>∃ H',v = .int .i64 (zbg C 2 i l true).2∧CuAt A M' c p (N+1) H' (zbg C 2 i l true).1:=by
 refine zkb (by simp) ?_;refine zR ?_;refine(zrW h hN 2 i hl hn true).mono ?_;rintro v M2 ⟨H2,rfl,h2⟩;refine zR ?_;exact⟨H2,rfl,h2⟩
theorem zAU (h:CuAt A M c p N H C) (hN:N≤4611686018427387904) (i:IdT):CallsM Tryz.prog F.zdL [ptr c,idA i] M fun v M'=>∃ H',v = .int .i64 (zbg C 3 i [] false).2∧CuAt A M' c p (N+1) H' (zbg C 3 i [] false).1:=by
 refine zin (by simp) ?_;refine zR ?_;refine(zrW (l:=[]) (a:=none) (cc:=0) h hN 3 i (SrcOk.nil _ _) (by decide) false).mono ?_;rintro v M2 ⟨H2,rfl,h2⟩;refine zR ?_;exact⟨H2,rfl,h2⟩
theorem zAV (h:CuAt A M c p N H C) (hN:N≤4611686018427387904) (i:IdT):CallsM Tryz.prog F.zdM [ptr c,idA i] M fun v M'=>∃ H',v = .int .i64 (zbg C 4 i [] true).2∧CuAt A M' c p (N+1) H' (zbg C 4 i [] true).1:=by
 refine zio (by simp) ?_;refine zR ?_;refine(zrW (l:=[]) (a:=none) (cc:=0) h hN 4 i (SrcOk.nil _ _) (by decide) true).mono ?_;rintro v M2 ⟨H2,rfl,h2⟩;refine zR ?_;exact⟨H2,rfl,h2⟩
theorem zs3 (h:CuAt A M c p N H C) (hN:N≤4611686018427387904) (hmk:C.X.sn.length≤1048576):CallsM Tryz.prog F.zcf [ptr c] M fun v M'=>M.le M'∧zCx M M' C.X v:=by
 refine zjB (by simp) ?_;refine zL (h.self) ?_;refine(zya h.st (by have:=h.cm;omega) hmk).mono ?_;rintro v M1 ⟨hle,hS⟩;obtain⟨ua,uc,ha,hc,ms,ma,mc,mk,rfl,hr⟩:=hS.ex;refine zR ?_;exact⟨hle,⟨ua,uc,ha,hc,ms,ma,mc,mk,rfl,hr⟩⟩
theorem zEl (h:CuAt A M c p N H C) (i:IdT):CallsM Tryz.prog F.zeC [ptr c,idA i] M fun v M'=>
  (v = .tuple #[.agg #[.int .i64 0,.int .i64 0,.int .i64 0,.int .i64 0,.slice none 0 0],.bool false]∧zda C.X.S.l i=false∧M=M') ∨
  (∃ a n cc l,v = .tuple #[.agg #[.int .i64 i.o,.int .i64 i.d,.int .i64 i.e,.int .i64 i.c,.slice a n cc],.bool true]∧zda C.X.S.l i=true∧⟨i,l⟩∈C.X.S.l∧NewSl M T.zn 1 a n cc (l.map zl) M'):=by
 refine zkc (by simp) ?_;refine zL (h.self) ?_;refine(zEj h.st i).mono ?_;rintro v M1 (⟨rfl,h1,rfl⟩|⟨a,n,cc,l,rfl,h1,h2,h3⟩)
 ·refine zU ?_
  repeat' ((conv=>whnf);first|refine⟨?_,True.intro⟩|refine⟨?_,?_,True.intro⟩|refine brn_t rfl ?_|refine brn_f rfl ?_|refine ob rfl ?_|refine ob (by decide) ?_|refine grow_same (Mem.le_refl _) ?_|refine ob (Mem.le_refl _) ?_|refine⟨_,Mem.le_refl _,?_⟩|fail)
  exact .inl ⟨rfl,h1,rfl⟩
 ·refine zT (h3.le) ?_
  repeat' ((conv=>whnf);first|refine⟨?_,True.intro⟩|refine⟨?_,?_,True.intro⟩|refine brn_t rfl ?_|refine brn_f rfl ?_|refine ob rfl ?_|refine ob (by decide) ?_|refine grow_same (Mem.le_refl _) ?_|refine ob (Mem.le_refl _) ?_|refine⟨_,Mem.le_refl _,?_⟩|fail)
  exact .inr ⟨a,n,cc,l,rfl,h1,h2,h3⟩
end
end Go.Proofs.YtpdkkbpkplhdpaaGreat
