/- Part of this proof;laid by program. -/
import Derived.Test.YtpnhjkiligohnaaGreatDoorJ36
import Derived.Test.YtpnhjkiligohnaaGreatDoorJ33
set_option linter.unusedVariables false
set_option linter.unusedSimpArgs false
namespace Go.Proofs.YtpnhjkiligohnaaGreatDoor
open Go Go.Vm
attribute [local irreducible] Brn Ob Grow CallsM inR zbf zaW Mem.row Mem.cells Mem.setCells Mem.upd Go.Vm.Own zbO zcz zcc zbE New SrcOk zap NewSl Mem.textAt Mem.mapAt Mem.iterAt zaV kfind Wr zch Elems
set_option maxRecDepth 10000
section
variable {M B B0:Mem}
theorem zMh (l:List (Int×Int)) {i:Nat} {p:Int×Int} (hp:l[i]? = some p):zjI (l.take (i+1))=zjI (l.take i)++(if p.2≠(p.1+1+9223372036854775808) % 18446744073709551616 - 9223372036854775808 then [p] else []):=by
 unfold zjI;rw[List.take_add_one,hp,List.filter_append];congr 1;by_cases h:p.2≠(p.1+1+9223372036854775808) % 18446744073709551616 - 9223372036854775808
 ·rw[if_pos h];simp[h]
 ·rw[if_neg h];simp only[Option.toList,List.filter_cons,List.filter_nil];rw[if_neg (by simpa using h)]
theorem zEF (l:List (Int×Int)):(zjI l).length≤l.length:=List.length_filter_le _ _
theorem zMi {N:Nat} (hN:N≤64) {R:List (Nat×Nat)} (h:∀ p∈R,p.1+1<p.2∧p.2<N):(ze8 R).all zy=true:=by
 rw[List.all_eq_true];intro x hx;unfold ze8 at hx;obtain⟨p,hp,hx⟩:=List.mem_flatMap.1 hx;have:=h p hp
 simp only[List.mem_cons,List.not_mem_nil,or_false] at hx;rcases hx with rfl|rfl<;>rw[zq2]<;>omega
set_option maxRecDepth 100000 in
theorem zJG {v:Value} {S:zm5} (hS:ScAt M v S) (hR:zxb S):CallsM Tryz.prog F.zkA [v] M fun u M'=>M.le M'∧∃ q n c,(zok S∧u = .tuple #[.slice q n c,.int .i64 0]∧NewSl M T.zF 1 q n c ((zA4 S).map zi) M')∨(¬zok S∧u = .tuple #[.slice none 0 0,.int .i64 2]):=by
 obtain⟨ql,nl,cl,qs,ns,cs,rfl,hLk,hnl,hSt,hns⟩:=hS;obtain⟨rn,rl,rs,rst⟩:=hR;have hll:S.links.length=nl:=SrcOk.flen (enc:=zdO) (s:=2) (fun _=>rfl) hLk (by decide)
 have hsl:S.steps.length=ns:=hSt.len;refine zBB (by simp) ?_;(conv=>whnf);refine new (fun b0 hb0=>?_);replace hb0:M b0=none:=hb0;obtain⟨M1,hM1⟩:∃ M1,M1=M.setCells b0 T.zaD []:=⟨_,rfl⟩
 have h0:NewSl M T.zaD 2 (some ⟨b0,0,none⟩) 0 0 ((zjI (S.links.take 0)).flatMap zdO) M1:=hM1▸NewSl.lit hb0 _ _ _ _ rfl;(conv=>whnf)
 erw [←hM1]
 refine zgk (σ:=Nat×Mem×Option Addr×Nat×Nat) [5,4] (fun y=>[(5,.int .i64 y.1),(4,.slice y.2.2.1 y.2.2.2.1 y.2.2.2.2)]) (fun _=>[BE.live T.zdm ((zuV S ql nl cl qs ns cs).map SC.v),BE.gone b0]) (fun y=>y.2.1)
  (fun|⟨i,Mc,q,k,cq⟩=>i≤nl∧k=(zjI (S.links.take i)).length∧NewSl M T.zaD 2 q k cq ((zjI (S.links.take i)).flatMap zdO) Mc) (fun y=>nl - y.1) ⟨0,M1,some ⟨b0,0,none⟩,0,0⟩ ⟨by omega,by simp[zjI],h0⟩ zS ?_
 rintro ⟨i,Mc,q,k,cq⟩ ⟨hi,hk,hQ⟩;(conv=>whnf);refine brn (fun g=>?_) (fun g=>?_)
 ·have g':i<nl:=by have:=Zd0 g;dsimp only at this;omega
  obtain⟨z,hz⟩:∃ z,S.links[i]? = some z:=⟨_,List.getElem?_eq_getElem (by omega)⟩
  obtain⟨b1,o1,hq1,hr1⟩:=SrcOk.fcells (enc:=zdO) (s:=2) (fun _=>rfl) (hLk.le hQ.le) (by decide) hz;obtain⟨b2,o2,hq2,hr2⟩:=SrcOk.fall (enc:=zdO) (s:=2) (fun _=>rfl) (hLk.le hQ.le) (by decide) hz;rw[hq1] at hq2;cases hq2;have hrw:=zMh S.links hz
  have hrl:=zEF (S.links.take i);rw[List.length_take] at hrl;have hzR:=rl z (List.mem_of_getElem? hz)
  obtain⟨A,Bz⟩:=z;dsimp only at hrw hzR;subst hq1;(conv=>whnf);refine ob (by first|omega|(dsimp only;omega)) ?_;(conv=>whnf);refine on (hr1 1 _ rfl) ?_;(conv=>whnf);refine ob (by first|omega|(dsimp only;omega)) ?_;(conv=>whnf);refine on (hr1 0 _ rfl) ?_;(conv=>whnf);refine obw ?_;(conv=>whnf);refine brn (fun e=>?_) (fun e=>?_)
  ·have e':Bz≠(A+1+9223372036854775808) % 18446744073709551616 - 9223372036854775808:=by
    simp only[Bool.not_eq_true',decide_eq_false_iff_not,IntKind.wrap_i64] at e;exact e
   rw[if_pos e'] at hrw;(conv=>whnf);refine ob (by first|omega|(dsimp only;omega)) ?_;(conv=>whnf);refine on hr2 ?_;refine zR ?_;(conv=>whnf)
   refine zDi (enc:=zdO) M hQ (A,Bz) rfl (by dsimp only;omega) (by dsimp only;simp[maxLen];omega) (by intro u hu;simp at hu;rcases hu with rfl|rfl<;>rfl) fun q6 c6 M6 h6 hk6=>?_
   (conv=>whnf);refine obr (zx (by first|omega|(dsimp only;omega))) ?_;(conv=>whnf)
   refine⟨⟨i+1,M6,q6,k+1,c6⟩,⟨by omega,?_,?_⟩,by dsimp only;omega,zS⟩
   ·rw[hrw,List.length_append,hk];rfl
   ·rw[hrw];exact h6
  ·have e':¬Bz≠(A+1+9223372036854775808) % 18446744073709551616 - 9223372036854775808:=by
    simp only[Bool.not_eq_false',decide_eq_true_eq,IntKind.wrap_i64] at e;exact fun h=>h e
   rw[if_neg e',List.append_nil] at hrw;(conv=>whnf);refine obr (zx (by first|omega|(dsimp only;omega))) ?_;(conv=>whnf)
   refine⟨⟨i+1,Mc,q,k,cq⟩,⟨by omega,?_,?_⟩,by dsimp only;omega,zS⟩
   ·rw[hrw];exact hk
   ·rw[hrw];exact hQ
 have g':i=nl:=by have:=Zd1 g;dsimp only at this;omega
 subst g';rw[List.take_of_length_le (by omega)] at hk hQ;have hkl:k≤1048576:=by have:=zEF S.links;omega
 refine zX ?_;refine⟨Mc,Mem.le_refl _,?_⟩;(conv=>whnf);refine brn (fun g1=>?_) (fun g1=>?_)
 ·have g1':=Zd0 g1;refine zR ?_;(conv=>whnf)
  refine⟨hQ.le,none,0,0,.inr ⟨fun hE=>?_,rfl⟩⟩;obtain⟨a1,a2,a3,a4,a5,a6⟩:=hE;omega
 have g1':=Zd1 g1;(conv=>whnf);refine brn (fun g2=>?_) (fun g2=>?_)
 ·have g2':=Zd0 g2;refine zR ?_;(conv=>whnf)
  refine⟨hQ.le,none,0,0,.inr ⟨fun hE=>?_,rfl⟩⟩;obtain⟨a1,a2,a3,a4,a5,a6⟩:=hE;omega
 have g2':=Zd1 g2;(conv=>whnf);refine brn (fun g3=>?_) (fun g3=>?_)
 ·have g3':=Zd0 g3;refine zR ?_;(conv=>whnf)
  refine⟨hQ.le,none,0,0,.inr ⟨fun hE=>?_,rfl⟩⟩;obtain⟨a1,a2,a3,a4,a5,a6⟩:=hE;omega
 have g3':=Zd1 g3;obtain⟨N,hNn⟩:∃ N:Nat,S.nodes=N:=⟨S.nodes.toNat,by omega⟩
 have hN:1≤N∧N≤64:=by omega
 (conv=>whnf);refine brn (fun g4=>?_) (fun g4=>?_)
 ·have g4':=Zd0 g4;refine zR ?_;(conv=>whnf)
  refine⟨hQ.le,none,0,0,.inr ⟨fun hE=>?_,rfl⟩⟩;obtain⟨a1,a2,a3,a4,a5,a6⟩:=hE;rw[hNn,Int.toNat_natCast] at a3;have:=congrArg List.length (zId hN.2 a3)
  rw[List.length_map] at this;dsimp only at g4';omega
 have g4':=Zd1 g4;refine zX ?_;(conv=>whnf)
 erw [hNn]
 have hWl:(zb2 N (zbZ S.links)).length≤1048576:=by
  have:=zsv N (zbZ S.links) N;have h2:N*N≤64*64:=Nat.mul_le_mul hN.2 hN.2
  show (za5 _ _ _).length≤_;omega
 refine(zNJ (co:=cq) (lI:=zjI S.links) (oth:=zbZ S.links) hQ.src (fun a b h1 h2=>zNO h1 h2) hkl (n:=N) hN.2).mono ?_;rintro u M5 ⟨qw,cw,rfl,hL⟩;obtain⟨W,hW⟩:∃ W,W=zb2 N (zbZ S.links):=⟨_,rfl⟩
 rw[←hW] at hL hWl;erw [←hW];have hM5:=Mem.le_trans hQ.le hL.le
 refine zT (hL.le) ?_;refine zX ?_;refine(zF1 (l:=W.map cst) (l':=S.links) (by rw[zNI];exact hL.src) (hLk.le hM5) hWl).mono ?_;rintro u _ ⟨rfl,rfl⟩;refine zT (hL.le) ?_;(conv=>whnf);refine brn (fun g5=>?_) (fun g5=>?_)
 ·have g5':¬W.map cst=S.links:=by simpa using g5
  refine zR ?_;(conv=>whnf)
  refine⟨hM5,none,0,0,.inr ⟨fun hE=>?_,rfl⟩⟩;obtain⟨a1,a2,a3,a4,a5,a6⟩:=hE;rw[hNn,Int.toNat_natCast,←hW] at a3;exact g5' a3
 have g5':W.map cst=S.links:=by simpa using g5
 have hRD:zjI S.links=(zbZ S.links).map zeb:=zId hN.2 (by rw[←hW];exact g5');obtain⟨R,hRR⟩:∃ R,R=zbZ S.links:=⟨_,rfl⟩
 have hRlt:∀ p∈R,p.1+1<p.2∧p.2<N:=hRR▸zIc (by rw[←hW];exact g5');rw[←hRR] at hRD;have hkR:k=R.length:=by rw[hk,hRD,List.length_map]
 have hQR:SrcOk M5 2 q k (R.flatMap zkv):=by
  have:=hQ.src.le hL.le;rw[hRD] at this;rw[←zNI];exact this
 have hR15:R.length≤15:=by dsimp only at g4';omega
 (conv=>whnf);refine obr (zx (by omega)) ?_;(conv=>whnf);refine new (fun bb hbb=>?_);replace hbb:M5 bb=none:=hbb;have hc1:=zbe ((N:Int) - 1)
 have hc2:=zbe (k:Nat);obtain⟨M6,hM6⟩:∃ M6,M6=M5.setCells bb T.zF [Value.int .u8 (IntKind.u8.wrap (S.nodes - 1)),Value.int .u8 (IntKind.u8.wrap ((k:Nat):Int))]:=⟨_,rfl⟩
 have hb0:NewSl M5 T.zF 1 (some ⟨bb,0,none⟩) 2 2 (([zh ((N:Int) - 1),zh (R.length:Nat)]++zmE (R.take 0)).map zi) M6:=by
  rw[hM6,hNn,hc1,hc2,hkR];exact NewSl.lit hbb _ _ _ _ rfl
 (conv=>whnf);erw [←hM6];obtain⟨L0,hL0⟩:∃ L0,L0=[zh ((N:Int) - 1),zh (R.length:Nat)]:=⟨_,rfl⟩
 rw[←hL0] at hb0;have hL0l:L0.length=2:=by rw[hL0];rfl
 have hRl2:∀ j,(zmE (R.take j)).length=2*(R.take j).length:=fun j=>by
  unfold zmE;generalize R.take j=l
  induction l with
  | nil=>rfl
  | cons p l ih=>simp[ih];omega
 refine zgk (σ:=Nat×Mem×Option Addr×Nat) [7,6] (fun y=>[(7,.int .i64 y.1),(6,.slice y.2.2.1 (2+2*y.1) y.2.2.2)]) (fun _=>[BE.live T.zdm ((zuV S ql i cl qs ns cs).map SC.v),BE.gone b0,BE.gone bb]) (fun y=>y.2.1)
  (fun|⟨j,Md,qb,cb⟩=>j≤R.length∧NewSl M5 T.zF 1 qb (2+2*j) cb ((L0++zmE (R.take j)).map zi) Md) (fun y=>R.length - y.1) ⟨0,M6,some ⟨bb,0,none⟩,2⟩ ⟨by omega,hb0⟩ zS ?_
 rintro ⟨j,Md,qb,cb⟩ ⟨hj,hB⟩;(conv=>whnf);refine brn (fun e=>?_) (fun e=>?_)
 ·have e':j<R.length:=by have:=Zd0 e;dsimp only at this;omega
  obtain⟨z,hz⟩:∃ z,R[j]? = some z:=⟨_,List.getElem?_eq_getElem (by omega)⟩
  obtain⟨b1,o1,rfl,hr1⟩:=SrcOk.fcells (enc:=zkv) (s:=2) (fun _=>rfl) (hQR.le hB.le) (by decide) hz
  have hz2:zmE (R.take (j+1))=zmE (R.take j)++[zh z.1,zh z.2]:=by
   rw[List.take_add_one,hz];simp[zmE]
  obtain⟨z1,z2⟩:=z;dsimp only at hz2;(conv=>whnf);refine ob (by first|omega|(dsimp only;omega)) ?_;(conv=>whnf);refine on (hr1 0 _ rfl) ?_;(conv=>whnf);refine ob (by first|omega|(dsimp only;omega)) ?_;(conv=>whnf);refine on (hr1 1 _ rfl) ?_;refine zX ?_;(conv=>whnf)
  refine appK M5 _ hB (by dsimp only;omega) (by unfold maxLen;dsimp only;omega) (by simp[Value.oneCell']) (fun q6 c6 M7 h7 hk7=>?_)
  have h8:NewSl M5 T.zF 1 q6 (2+2*j+2) c6 ((L0++zmE (R.take (j+1))).map zi) M7:=by
   rw[hz2];simpa[zbe] using h7
  refine zR ?_;(conv=>whnf);refine obr (zx (by first|omega|(dsimp only;omega))) ?_;(conv=>whnf)
  refine⟨⟨j+1,M7,q6,c6⟩,⟨by omega,h8⟩,by dsimp only;omega,zS⟩
 have e':j=R.length:=by have:=Zd1 e;dsimp only at this;omega
 subst e';rw[List.take_of_length_le (Nat.le_refl _)] at hB;obtain⟨L1,hL1⟩:∃ L1,L1=L0++zmE R:=⟨_,rfl⟩
 have hL1l:L1.length=2+2*R.length:=by
  have:=hRl2 R.length;rw[List.take_of_length_le (Nat.le_refl _)] at this;rw[hL1,List.length_append,this,hL0l]
 rw[←hL1] at hB;have hcall:=zF2 (q:=qb) (c:=cb) (L:=L1) (M:=Md) (B:=M5) (by rw[hL1l];exact hB) rs (by omega)
 rw[hL1l] at hcall;refine zR ?_;(conv=>whnf)
 refine hcall.mono ?_;rintro u M8 ⟨q8,c8,L2,rfl,hB8,hl8,ht8⟩;refine zR ?_;(conv=>whnf)
 refine zgk (σ:=Nat×Mem×Option Addr×Nat×List UInt8×Bool) [9,8,6] (fun y=>[(9,.int .i64 y.1),(8,.sb y.2.2.2.2.2),(6,.slice y.2.2.1 y.2.2.2.2.1.length y.2.2.2.1)]) (fun _=>[BE.live T.zdm ((zuV S ql i cl qs ns cs).map SC.v),BE.gone b0,BE.gone bb]) (fun y=>y.2.1)
  (fun|⟨j3,Me,qe,ce,L,ok⟩=>j3≤ns∧NewSl M5 T.zF 1 qe L.length ce (L.map zi) Me∧L.length≤L1.length+10+70*j3∧ok=((zbN S.set).all zy&&(S.steps.take j3).all (z8 N))∧(ok=true→L=L1++(zbN S.set).map zI++(S.steps.take j3).flatMap zas)) (fun y=>ns - y.1) ⟨0,M8,q8,c8,L2,(zbN S.set).all zy⟩ ⟨by omega,hB8,by omega,by simp,fun h=>by rw[ht8 h];simp⟩ zS ?_
 rintro ⟨j3,Me,qe,ce,L,ok⟩ ⟨hj3,hBe,hLe,hok,hbL⟩
 have hokW:okW S=((zbN S.set).all zy&&S.steps.all (z8 N)):=by
  unfold okW;rw[show S.nodes.toNat=N by omega,zzv,zuW (by rw[←hW];exact g5'),←hW,←hRR,decide_eq_true g5',(zq2 _ _).2 (by omega),zMi hN.2 hRlt];rfl
 have hsp:S.nodes.toNat=N:=by omega
 (conv=>whnf);refine brn (fun e=>?_) (fun e=>?_)
 ·have e':j3<ns:=by have:=Zd0 e;dsimp only at this;omega
  cases ok
  ·have hfal:((zbN S.set).all zy&&S.steps.all (z8 N))=false:=by
    cases hg:(zbN S.set).all zy
    ·rfl
    ·rw[hg,Bool.true_and] at hok;rw[Bool.true_and,List.all_eq_false];obtain⟨x,hx,hxx⟩:=List.all_eq_false.1 hok.symm;exact⟨x,List.mem_of_mem_take hx,hxx⟩
   refine zR ?_;(conv=>whnf)
   refine⟨Mem.le_trans hM5 hBe.le,none,0,0,.inr ⟨fun hE=>?_,rfl⟩⟩;have:=(zq9 (by omega) (by omega)).2 hE
   rw[hokW] at this;rw[hfal] at this;cases this
  have hLL:=hbL rfl;obtain⟨hl1,b1,o1,c1,rfl, -, hr1, -, q1,d1,rfl,hd1⟩:=hSt.at (by decide) e';have hxR:=rst _ (List.getElem_mem hl1)
  have htk:S.steps.take (j3+1)=S.steps.take j3++[S.steps[j3]]:=by rw[List.take_add_one,List.getElem?_eq_getElem hl1];rfl
  obtain⟨x,hx⟩:∃ x,x=S.steps[j3]:=⟨_,rfl⟩
  rw[←hx] at hr1 hd1 hxR htk;refine zR ?_;(conv=>whnf);refine ob (by first|omega|(dsimp only;omega)) ?_;(conv=>whnf);refine on (Mem.row_le (Mem.le_trans hM5 hBe.le) hr1) ?_;refine zR ?_;(conv=>whnf)
  erw [hNn];refine(zEo (nodes:=N) hBe hxR (qd:=q1) (cd:=d1) (hd1.le hM5) (by omega) hN.2 (by omega)).mono ?_;rintro u M9 ⟨q9,c9,L9,rfl,hB9,hl9,ht9⟩;refine zR ?_;(conv=>whnf);refine obr (zx (by first|omega|(dsimp only;omega))) ?_;(conv=>whnf)
  refine⟨⟨j3+1,M9,q9,c9,L9,z8 N x⟩,⟨by omega,hB9,by omega,?_,fun h=>?_⟩,by dsimp only;omega,zS⟩
  ·rw[htk,List.all_append,←Bool.and_assoc,←hok];simp
  ·rw[ht9 h,hLL,htk];simp
 have e':j3=ns:=by have:=Zd1 e;dsimp only at this;omega
 rw[e',List.take_of_length_le (by omega)] at hok;refine zR ?_;cases ok
 ·have hfal:=hok.symm;refine zR ?_;(conv=>whnf)
  refine⟨Mem.le_trans hM5 hBe.le,none,0,0,.inr ⟨fun hE=>?_,rfl⟩⟩;have:=(zq9 (by omega) (by omega)).2 hE
  rw[hokW] at this;rw[hfal] at this;cases this
 rw[e',List.take_of_length_le (by omega)] at hbL;refine zR ?_;(conv=>whnf)
 have hoW:okW S=true:=hokW.trans hok.symm;refine⟨Mem.le_trans hM5 hBe.le,qe,L.length,ce,.inl ⟨(zq9 (by omega) (by omega)).1 hoW,rfl,?_⟩⟩
 have hE:L=zA4 S:=by
  rw[hbL rfl,hL1,hL0];unfold zA4;rw[←hRR,hNn];simp
 rw[←hE];exact hBe.mono hM5
end
section
variable {M B B0:Mem}
theorem zEG {v:Value} {S:zm5} (hS:ScAt M v S) (hR:zxb S):CallsM Tryz.prog F.zkB [v] M fun u M'=>M.le M'∧∃ e:Int,u = .int .i64 e∧((zok S∧e=0)∨(¬zok S∧e=2)):=by
 have hS':=hS;obtain⟨ql,nl,cl,qs,ns,cs,rfl,hLk,hnl,hSt,hns⟩:=hS;refine zBC (by simp) ?_;refine zR ?_;refine(zNU hS' hR).mono ?_;rintro u M1 ⟨hle,q,n,c,⟨hE,rfl, -⟩|⟨hE,rfl⟩⟩
 ·refine zR ?_;(conv=>whnf)
  exact⟨hle,0,rfl,.inl ⟨hE,rfl⟩⟩
 ·refine zR ?_;(conv=>whnf)
  exact⟨hle,2,rfl,.inr ⟨hE,rfl⟩⟩
set_option maxRecDepth 100000 in
theorem zTN (aw:∀ {M1:Mem},M.le M1→CallsM Tryz.prog F.zcu [] M1 fun v M2=>v = .bool true∧M1.le M2) {v:Value} {S:zm5} (hS:ScAt M v S) (hR:zxb S) :
  CallsM Tryz.prog F.zm8 [v] M fun v M'=>v = .bool true∧M.le M':=by
 have hS':=hS;obtain⟨ql,nl,cl,qs,ns,cs,rfl,hLk,hnl,hSt,hns⟩:=hS;refine zsH (by simp) ?_;refine zR ?_;refine(zNU hS' hR).mono ?_;rintro u M1 ⟨hle1,q1,n1,c1,⟨hE,rfl,hN1⟩|⟨hE,rfl⟩⟩
 ·refine zR ?_;refine(zJG (hS'.le hle1) hR).mono ?_;rintro u M2 ⟨hle2,q2,n2,c2,⟨-, rfl,hN2⟩|⟨hE2,rfl⟩⟩
  ·refine zR ?_;(conv=>whnf);refine zCY (hN1.src.le hle2) ?_;(conv=>whnf);refine zCY hN2.src ?_;(conv=>whnf);refine brn_t (by simp) ?_;refine zR ?_;refine(zEG (hS'.le (Mem.le_trans hle1 hle2)) hR).mono ?_;rintro u M3 ⟨hle3,e,rfl,⟨-, rfl⟩|⟨hE2,rfl⟩⟩
   ·skip
    refine zR ?_;refine(aw (Mem.le_trans hle1 (Mem.le_trans hle2 hle3))).mono ?_;rintro v M4 ⟨rfl,hle4⟩;refine zR ?_;(conv=>whnf)
    exact⟨rfl,Mem.le_trans (Mem.le_trans hle1 (Mem.le_trans hle2 hle3)) hle4⟩
   ·exact absurd hE hE2
  ·exact absurd hE hE2
 ·refine zR ?_;refine(zJG (hS'.le hle1) hR).mono ?_;rintro u M2 ⟨hle2,q2,n2,c2,⟨hE2,rfl,hN2⟩|⟨-, rfl⟩⟩
  ·exact absurd hE2 hE
  ·refine zR ?_;(conv=>whnf);refine zCY (bs:=[]) (SrcOk.nil _ _) ?_;(conv=>whnf);refine zCY (bs:=[]) (SrcOk.nil _ _) ?_;(conv=>whnf);refine brn_t (by simp) ?_;refine zR ?_;refine(zEG (hS'.le (Mem.le_trans hle1 hle2)) hR).mono ?_;rintro u M3 ⟨hle3,e,rfl,⟨hE2,rfl⟩|⟨-, rfl⟩⟩
   ·exact absurd hE2 hE
   ·skip
    refine zR ?_;refine(aw (Mem.le_trans hle1 (Mem.le_trans hle2 hle3))).mono ?_;rintro v M4 ⟨rfl,hle4⟩;refine zR ?_;(conv=>whnf)
    exact⟨rfl,Mem.le_trans (Mem.le_trans hle1 (Mem.le_trans hle2 hle3)) hle4⟩
end
end Go.Proofs.YtpnhjkiligohnaaGreatDoor
namespace Go.Proofs.YtpnhjkiligohnaaGreatDoor
open Go Go.Vm
attribute [local irreducible] Brn Ob Grow CallsM inR zbf zaW Mem.row Mem.cells Mem.setCells Mem.upd Go.Vm.Own zbO zcz zcc zbE New SrcOk zap NewSl Mem.textAt Mem.mapAt Mem.iterAt zaV kfind Wr zch Elems
set_option maxRecDepth 10000
open Br
def LkR (cs:List Value) (p:Int×Int):Prop:=cs=zdO p∧zai p.1∧zai p.2
theorem zSf:Reads T.zaD 2 fun (_:Mem) cs (p:Int×Int)=>LkR cs p:=fun H enc W fuel cs d ps h hb=>by
 obtain⟨hl,hf⟩:=field Tryz.underlying58 h hb;replace hl:cs.length=2:=hl.trans (by kernel_rfl);obtain⟨-, n0,h0,g0⟩:=hf 0 _ rfl 1 zdp (by kernel_rfl);obtain⟨-, n1,h1,g1⟩:=hf 1 _ rfl 1 zdp (by kernel_rfl);exact⟨hl,(n0,n1),(show Chunks cs 0 [[_],[_]] from ⟨h0,h1,hl⟩).eq,bounds_i64 g0,bounds_i64 g1⟩
theorem zMj {M:Mem} {a:Option Addr} {n:Nat} {l:List (Int×Int)} (h:Elems M 2 a n LkR l):SrcOk M 2 a n (l.flatMap zdO)∧∀ p∈l,zai p.1∧zai p.2:=by
 unfold Elems at h;obtain⟨css,h1,h2,h3,h4,h5⟩:=h
 have e:css.flatten=l.flatMap zdO∧∀ p∈l,zai p.1∧zai p.2:=by
  clear h1 h4
  induction css generalizing l n with
  | nil=>
   have:l=[]:=List.length_eq_zero_iff.1 (by simp at h2;omega);subst this;simp
  | cons cs r ih=>
   match l,h3 with
   | [],h3=>simp at h2 h3;omega
   | x::l,h3=>
    obtain⟨hy,hy1,hy2⟩:=h5 0 cs x rfl rfl;obtain⟨hl',hl2⟩:=ih (n:=n - 1) (l:=l) (by simp at h2;omega) (by simp at h3;omega) (fun i c z hi hz=>h5 (i+1) c z (by simpa using hi) (by simpa using hz));refine⟨by rw[List.flatten_cons,List.flatMap_cons,hl',hy],fun p hp=>?_⟩;rcases List.mem_cons.1 hp with rfl|hp
    ·exact⟨hy1,hy2⟩
    ·exact hl2 p hp
 exact⟨e.1▸h1,e.2⟩
theorem zP6:Reads T.zGw 1 fun M cs (l:List (Int×Int))=>∃ a n c,cs=[.slice a n c]∧Elems M 2 a n LkR l∧n≤1048576∧n≤c:=fun H enc W fuel cs d ps h hb=>
 Reads.slice Tryz.underlying23 (by kernel_rfl) (by decide) zSf H enc W fuel cs d ps h hb
theorem zP7:Reads T.zJX 5 fun M cs (x:StpI)=>StpAt M cs x∧ztT x:=fun H enc W fuel cs d ps h hb=>by
 obtain⟨hl,hf⟩:=field Tryz.underlying61 h hb;replace hl:cs.length=5:=hl.trans (by kernel_rfl);obtain⟨-, n0,h0,g0⟩:=hf 0 _ rfl 1 zdp (by kernel_rfl);obtain⟨-, n1,h1,g1⟩:=hf 1 _ rfl 1 zdp (by kernel_rfl);obtain⟨-, n2,h2,g2⟩:=hf 2 _ rfl 1 zdp (by kernel_rfl);obtain⟨-, n3,h3,g3⟩:=hf 3 _ rfl 1 zdp (by kernel_rfl);obtain⟨-, l4,a4,m4,c4,h4,g4,g5, -⟩:=hf 4 _ rfl 1 zP4 (by kernel_rfl);obtain rfl:=g4.maplen;exact⟨hl,⟨n0,n1,n2,n3,l4⟩,⟨a4,c4,(show Chunks cs 0 [[_],[_],[_],[_],[_]] from ⟨h0,h1,h2,h3,h4,hl⟩).eq,g4⟩,bounds_i64 g0,bounds_i64 g1,bounds_i64 g2,bounds_i64 g3,g5⟩
theorem zNV:Reads T.zGx 1 fun M cs (l:List StpI)=>∃ a n c,cs=[.slice a n c]∧Elems M 5 a n (fun cs x=>StpAt M cs x∧ztT x) l∧n≤1048576∧n≤c:=fun H enc W fuel cs d ps h hb=>
 Reads.slice Tryz.underlying28 (by kernel_rfl) (by decide) zP7 H enc W fuel cs d ps h hb
structure QtI where
 a:Int
 b:Int
 c:Int
theorem zP8:Reads T.zIs 3 fun (_:Mem) cs (x:QtI)=>cs=[.int .i64 x.a,.int .i64 x.b,.int .i64 x.c]∧zai x.a∧zai x.b∧zai x.c:=fun H enc W fuel cs d ps h hb=>by
 obtain⟨hl,hf⟩:=field Tryz.underlying25 h hb;replace hl:cs.length=3:=hl.trans (by kernel_rfl);obtain⟨-, n0,h0,g0⟩:=hf 0 _ rfl 1 zdp (by kernel_rfl);obtain⟨-, n1,h1,g1⟩:=hf 1 _ rfl 1 zdp (by kernel_rfl);obtain⟨-, n2,h2,g2⟩:=hf 2 _ rfl 1 zdp (by kernel_rfl);exact⟨hl,⟨n0,n1,n2⟩,(show Chunks cs 0 [[_],[_],[_]] from ⟨h0,h1,h2,hl⟩).eq,bounds_i64 g0,bounds_i64 g1,bounds_i64 g2⟩
theorem zTH:Reads T.zCX 10 fun (_:Mem) cs (s:zoj)=>cs=setC s∧zMf s:=fun H enc W fuel cs d ps h hb=>by
 obtain⟨hl,hf⟩:=field Tryz.underlying27 h hb;replace hl:cs.length=10:=hl.trans (by kernel_rfl);obtain⟨-, q,h0,g0,g0b,g0c⟩:=hf 0 _ rfl 3 zP8 (by kernel_rfl);obtain⟨-, n1,h1,g1⟩:=hf 1 _ rfl 1 zdp (by kernel_rfl);obtain⟨-, n2,h2,g2⟩:=hf 2 _ rfl 1 zdp (by kernel_rfl);obtain⟨-, n3,h3,g3⟩:=hf 3 _ rfl 1 zdp (by kernel_rfl);obtain⟨-, n4,h4,g4⟩:=hf 4 _ rfl 1 zdp (by kernel_rfl);obtain⟨-, n5,h5,g5⟩:=hf 5 _ rfl 1 zdp (by kernel_rfl);obtain⟨-, n6,h6,g6⟩:=hf 6 _ rfl 1 zdp (by kernel_rfl);obtain⟨-, n7,h7,g7⟩:=hf 7 _ rfl 1 zdp (by kernel_rfl);exact⟨hl,⟨q.a,q.b,q.c,n1,n2,n3,n4,n5,n6,n7⟩,(show Chunks cs 0 [[_,_,_],[_],[_],[_],[_],[_],[_],[_]] from ⟨h0,h1,h2,h3,h4,h5,h6,h7,hl⟩).eq,g0,g0b,g0c,bounds_i64 g1,bounds_i64 g2,bounds_i64 g3,bounds_i64 g4,bounds_i64 g5,bounds_i64 g6,bounds_i64 g7⟩
theorem zUw:Reads T.zdm 13 fun M cs (S:zm5)=>(∃ ql nl cl qs ns c,cs=zuV S ql nl cl qs ns c∧SrcOk M 2 ql nl (S.links.flatMap zdO)∧nl≤1048576∧Elems M 5 qs ns (StpAt M) S.steps∧ns≤1048576)∧zxb S:=fun H enc W fuel cs d ps h hb=>by
 obtain⟨hl,hf⟩:=field Tryz.underlying30 h hb;replace hl:cs.length=13:=hl.trans (by kernel_rfl);obtain⟨-, n0,h0,g0⟩:=hf 0 _ rfl 1 zdp (by kernel_rfl);obtain⟨-, l1,a1,m1,c1,h1,g1,e1, -⟩:=hf 1 _ rfl 1 zP6 (by kernel_rfl);obtain⟨-, s,h2,g2⟩:=hf 2 _ rfl 10 zTH (by kernel_rfl);obtain⟨-, l3,a3,m3,c3,h3,g3,e3, -⟩:=hf 3 _ rfl 1 zNV (by kernel_rfl);obtain⟨f1,f2⟩:=zMj g1
 have f3:∀ x∈l3,ztT x:=by
  unfold Elems at g3;obtain⟨css, -, k2,k3, -, k5⟩:=g3;intro x hx;obtain⟨i,hi,e⟩:=List.getElem_of_mem hx;exact(k5 i (css[i]'(by omega)) x (List.getElem?_eq_getElem _) (by rw[List.getElem?_eq_getElem hi,e])).2
 exact⟨hl,⟨n0,l1,s,l3⟩,⟨a1,m1,c1,a3,m3,c3,(show Chunks cs 0 [[_],[_],[_,_,_,_,_,_,_,_,_,_],[_]] from ⟨h0,h1,h2,h3,hl⟩).eq,f1,e1,g3.imp (Mem.le_refl _) (fun _ _ _ hx=>hx.1),e3⟩,bounds_i64 g0,f2,g2,f3⟩
end Go.Proofs.YtpnhjkiligohnaaGreatDoor
