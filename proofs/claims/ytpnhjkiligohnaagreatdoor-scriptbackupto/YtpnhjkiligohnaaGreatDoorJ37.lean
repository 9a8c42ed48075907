/- Part of this proof;laid by program. -/
import Derived.Test.YtpnhjkiligohnaaGreatDoorJ36
import Derived.Test.YtpnhjkiligohnaaGreatDoorJ35
set_option linter.unusedVariables false
set_option linter.unusedSimpArgs false
namespace Go.Proofs.YtpnhjkiligohnaaGreatDoor
open Go Go.Vm
attribute [local irreducible] Brn Ob Grow CallsM inR zbd za9 Mem.row Mem.cells Mem.setCells Mem.upd Go.Vm.Own zbN zcZ zcB zbV New SrcOk zat NewSl Mem.textAt Mem.mapAt Mem.iterAt za8 kfind Wr NewEls Elems
set_option maxRecDepth 10000
section
variable {M B B0:Mem}
def zCU (S:zkx):Prop:=zas S.nodes∧(∀ p∈S.links,zas p.1∧zas p.2)∧zH4 S.set∧∀ x∈S.steps,ztR x
theorem LayAt.kept {M':Mem} {bo bu:Nat} {ok:Bool} {L:List UInt8} {X:Nat→Prop} (h:LayAt B M bo bu ok L) (hk:Mem.keep X M M') (hB:∀ b,X b→B b=none) (ho:¬X bo) (hu:¬X bu) (hr:∀ b cs,M.has b T.zM cs→¬X b):LayAt B M' bo bu ok L:=by
 obtain⟨h1,h2,h3,h4,q,c,h5,h6⟩:=h
 exact⟨hk.le h1 hB,h2,h3,hk _ _ ho h4,q,c,hk _ _ hu h5,h6.keep hk hB fun p hp=>by
  obtain⟨_,cs,hc⟩:=h6.block hp
  exact hr _ _ hc⟩
theorem LayAt.setOk {bo bu:Nat} {ok:Bool} {L:List UInt8} (h:LayAt B M bo bu ok L) (x:Bool):LayAt B (M.setCells bo T.zar [.bool x]) bo bu x L∧Mem.keep (fun y=>y=bo) M (M.setCells bo T.zar [.bool x]):=by
 obtain⟨h1,h2,h3,h4,q,c,h5,h6⟩:=h;have hk:Mem.keep (fun y=>y=bo) M (M.setCells bo T.zar [.bool x]):=fun y o hy hyo=>by unfold Mem.setCells;rw[Mem.upd_ne _ _ hy];exact hyo
 refine⟨⟨hk.le h1 (fun _ e=>e▸h2),h2,h3,Mem.has_setCells,q,c,hk _ _ (fun e=>by subst e;exact absurd (h4.inj h5).1 (by decide)) h5,h6.keep hk (fun _ e=>e▸h2) fun r hr e=>?_⟩,hk⟩;obtain⟨_,cs,hc⟩:=h6.block hr;rw[e] at hc;exact absurd (hc.inj h4).1 (by decide)
theorem LayAt.self {bo bu:Nat} {ok:Bool} {L:List UInt8} (h:LayAt B M bo bu ok L):∃ X:Nat→Prop,LayAt (M.minus X) M bo bu ok L∧B.le (M.minus X)∧∀ y,X y→(∃ E cs,M.has y E cs∧(E=T.zar∨E=T.zY∨E=T.zM)):=by
 obtain⟨h1,h2,h3,h4,q,c,h5,h6⟩:=h;refine⟨fun y=>y=bo∨y=bu∨blk q y,⟨Mem.minus_le _ _,Mem.minus_in (.inl rfl),Mem.minus_in (.inr (.inl rfl)),h4,q,c,h5,h6.rebase2 (Mem.le_refl _) fun x hx => .inr (.inr hx)⟩,Mem.le_minus h1 ?_,?_⟩
 ·rintro b (rfl|rfl|⟨r,hr,rfl⟩)
  ·exact h2
  ·exact h3
  ·exact(h6.block hr).1
 ·rintro b (rfl|rfl|⟨r,hr,rfl⟩)
  ·exact⟨_,_,h4,.inl rfl⟩
  ·exact⟨_,_,h5,.inr (.inl rfl)⟩
  ·obtain⟨_,cs,hc⟩:=h6.block hr;exact⟨_,_,hc,.inr (.inr rfl)⟩
theorem zNJ (l:List (Nat×Nat)):(zgU l).length=2*l.length:=by
 unfold zgU
 induction l with
 | nil=>rfl
 | cons p l ih=>rw[List.flatMap_cons,List.length_append,ih];simp;omega
theorem zxg {M M':Mem} {E E':TypeId} {s n c b:Nat} {q:Option Addr} {L ds:List Value} (h:NewSl M E s q n c L M') (hb:M'.has b E' ds) (hE:E'≠E):¬blk q b:=fun ⟨r,hr,e⟩=>by
 obtain⟨_,cs,hc⟩:=h.block hr;rw[e] at hc;exact hE (hb.inj hc).1
theorem LayAt.up0 {M':Mem} {bo bu:Nat} {ok:Bool} {L:List UInt8} (h:LayAt B M bo bu ok L) (hle:M.le M'):LayAt B M' bo bu ok L:=by
 obtain⟨h1,h2,h3,h4,q,c,h5,h6⟩:=h;exact⟨Mem.le_trans h1 hle,h2,h3,hle _ _ h4,q,c,hle _ _ h5,h6.up hle⟩
set_option maxRecDepth 100000 in
theorem zH5 {v:Value} {S:zkx} (hS:ScAt M v S) (hR:zCU S):CallsM Tryz.prog F.zbO [v] M fun u M'=>M.le M'∧∃ q n c,(zoi S∧u = .tuple #[.slice q n c,.int .i64 0]∧NewSl M T.zM 1 q n c ((zp2 S).map zy) M')∨(¬zoi S∧u = .tuple #[.slice none 0 0,.int .i64 2]):=by
 obtain⟨ql,nl,cl,qs,ns,cs,rfl,hLk,hnl,hSt,hns⟩:=hS;obtain⟨rn,rl,rs,rst⟩:=hR;have hll:S.links.length=nl:=SrcOk.flen (enc:=zm5) (s:=2) (fun _=>rfl) hLk (by decide)
 have hsl:S.steps.length=ns:=hSt.len;refine zzS (by simp) ?_;(conv=>whnf);refine brn (fun g1=>?_) (fun g1=>?_)
 ·have g1':=Zd0 g1;(conv=>whnf)
  refine⟨Mem.le_refl _,none,0,0,.inr ⟨?_,rfl⟩⟩;unfold zoi;omega
 have g1':=Zd1 g1;(conv=>whnf);refine brn (fun g2=>?_) (fun g2=>?_)
 ·have g2':=Zd0 g2;(conv=>whnf)
  refine⟨Mem.le_refl _,none,0,0,.inr ⟨?_,rfl⟩⟩;unfold zoi;omega
 have g2':=Zd1 g2;(conv=>whnf);refine brn (fun g3=>?_) (fun g3=>?_)
 ·have g3':=Zd0 g3;(conv=>whnf)
  refine⟨Mem.le_refl _,none,0,0,.inr ⟨?_,rfl⟩⟩;unfold zoi;omega
 have g3':=Zd1 g3;refine zR ?_;refine obr (zs (by unfold zas at rn;omega)) ?_;(conv=>whnf);refine new (fun bo hbo=>?_);replace hbo:M bo=none:=hbo;(conv=>whnf);refine new (fun bu hbu=>?_);have hbu':(M.setCells bo T.zar [.bool true]) bu=none:=hbu
 have hne:bu≠bo:=by rintro rfl;simp[Mem.setCells,Mem.upd] at hbu'
 have hbuM:M bu=none:=by simpa[Mem.setCells,Mem.upd,hne] using hbu'
 obtain⟨M1,hM1⟩:∃ M1,M1=(M.setCells bo T.zar [.bool true]).setCells bu T.zY [.slice none 0 0]:=⟨_,rfl⟩
 have hle1:M.le M1:=hM1▸Mem.le_trans (Mem.le_setCells hbo) (Mem.le_setCells hbu');have h1:LayAt M M1 bo bu true []:=⟨hle1,hbo,hbuM,hM1▸Mem.has.le (Mem.le_setCells hbu') Mem.has_setCells,none,0,hM1▸Mem.has_setCells,(NewSl.none _ _ _).up hle1⟩
 (conv=>whnf);erw [←hM1];refine(zae h1 (n:=S.nodes - 1) (by unfold zas at *; omega) (b:=1) (m:=64) (by decide) (by decide) (by simp)).mono ?_;rintro u M2 ⟨rfl,h2⟩;have hg0:zap (S.nodes - 1,1,64)=true:=(zqZ _ _).2 (by omega)
 rw[hg0] at h2;replace h2:LayAt M M2 bo bu true [zP (S.nodes - 1,1,64)]:=h2;obtain⟨bb0,hbb0⟩:∃ b,b=zP (S.nodes - 1,1,64):=⟨_,rfl⟩
 rw[←hbb0] at h2;obtain⟨N,hNn⟩:∃ N:Nat,S.nodes=N:=⟨S.nodes.toNat,by omega⟩
 have hN:1≤N∧N≤64:=by omega
 refine zR ?_;(conv=>whnf);refine new (fun mb hmb=>?_);replace hmb:M2 mb=none:=hmb;obtain⟨M3,hM3⟩:∃ M3,M3=M2.upd mb (.map #[] 0):=⟨_,rfl⟩
 have hMmb:M mb=none:=zq7 h2.1 hmb;have h3:LayAt M M3 bo bu true [bb0]:=h2.up0 (hM3▸Mem.le_upd hmb)
 have hO3:OthAt M3 mb (zbr N (S.links.take 0)):=⟨[],hM3▸MapAt.new M2 mb,fun p=>by simp[zaO,zbr]⟩
 (conv=>whnf);erw [←hM3];have mbN:∀ {Mc:Mem} {l:List (Nat×Nat)} {b:Nat} {E:TypeId} {ds:List Value},OthAt Mc mb l→Mc.has b E ds→b≠mb:=fun ⟨_,hm,_⟩ hb=>hm.nb hb
 refine zcD (σ:=Nat×Mem×Option Addr×Nat×Nat) [41,8] (fun y=>[(41,.int .i64 y.1),(8,.slice y.2.2.1 y.2.2.2.1 y.2.2.2.2)]) (fun _=>[BE.live T.zch ((zEs S ql nl cl qs ns cs).map SC.v),BE.gone bu,BE.gone bo]) (fun y=>y.2.1)
  (fun|⟨i,Mc,q,k,cq⟩=>i≤nl∧LayAt M Mc bo bu true [bb0]∧OthAt Mc mb (zbr N (S.links.take i))∧k=(zbr N (S.links.take i)).length∧NewSl M T.zci 2 q k cq ((zbr N (S.links.take i)).flatMap zoh) Mc) (fun y=>nl - y.1) ⟨0,M3,none,0,0⟩ ⟨by omega,h3,hO3,by simp[zbr],(NewSl.none _ _ _).up h3.1⟩ zS ?_
 rintro ⟨i,Mc,q,k,cq⟩ ⟨hi,hA,hO,hk,hQ⟩;(conv=>whnf);refine brn (fun g=>?_) (fun g=>?_)
 ·have g':i<nl:=by have:=Zd0 g;dsimp only at this;omega
  obtain⟨z,hz⟩:∃ z,S.links[i]? = some z:=⟨_,List.getElem?_eq_getElem (by omega)⟩
  obtain⟨b1,o1,hq1,hr1⟩:=SrcOk.fall (enc:=zm5) (s:=2) (fun _=>rfl) (hLk.le hA.1) (by decide) hz;have hrw:=zL6 N S.links hz
  have hrl:=zEL N (S.links.take i);rw[List.length_take] at hrl;have hzR:=rl z (List.mem_of_getElem? hz)
  obtain⟨A,Bz⟩:=z;dsimp only at hrw hzR;subst hq1;(conv=>whnf);refine ob (by first|omega|(dsimp only;omega)) ?_;(conv=>whnf);refine on hr1 ?_;(conv=>whnf);refine brn (fun c1=>?_) (fun c1=>?_)
  ·have c1':=Zd0 c1;(conv=>whnf);refine brn (fun c2=>?_) (fun c2=>?_)
   ·have c2':=Zd0 c2;(conv=>whnf);refine obr (zs (by unfold zas at *; omega)) ?_;(conv=>whnf);refine brn (fun c3=>?_) (fun c3=>?_)
    ·have c3':=Zd0 c3;(conv=>whnf);refine brn (fun c4=>?_) (fun c4=>?_)
     ·have c4':=Zd0 c4;rw[if_pos (by omega)] at hrw;obtain⟨a,rfl⟩:∃ a:Nat,A=a:=⟨A.toNat,by omega⟩
      obtain⟨b,rfl⟩:∃ b:Nat,Bz=b:=⟨Bz.toNat,by omega⟩
      dsimp only [Int.toNat_natCast] at hrw;obtain⟨m,hmA,hmg⟩:=hO;(conv=>whnf)
      refine hmA.put zEr (a,b) true fun p f hm=>?_
      obtain⟨M7,hM7⟩:∃ M7,M7=Mc.upd mb (mput p f (kvL (a,b)) (vvB true)):=⟨_,rfl⟩
      have hk7:Mem.keep (fun y=>y=mb) Mc M7:=hM7▸Mem.keep_upd _ _ rfl;have hA7:LayAt M M7 bo bu true [bb0]:=hA.kept hk7 (fun _ e=>e▸hMmb) (hmA.nb hA.2.2.2.1) (by obtain⟨_,_,_,_,_,_,hu,_⟩:=hA;exact hmA.nb hu) (fun b cs hb=>hmA.nb hb)
      have hO7:OthAt M7 mb (zbr N (S.links.take (i+1))):=by
       refine⟨_,hM7▸hm Mc,fun z=>?_⟩;rw[zED,hmg,hrw];simp only[List.mem_append,List.mem_singleton];by_cases hz:z=(a,b)
       ·rw[if_pos hz,if_pos (.inr hz)]
       ·rw[if_neg hz];by_cases hz2:z∈zbr N (S.links.take i)
        ·rw[if_pos hz2,if_pos (.inl hz2)]
        ·rw[if_neg hz2,if_neg];rintro (h|h)
         ·exact hz2 h
         ·exact hz h
      have hQ7:NewSl M T.zci 2 q k cq ((zbr N (S.links.take i)).flatMap zoh) M7:=hQ.keep hk7 (fun _ e=>e▸hMmb) fun r hr=>by
       obtain⟨_,cs,hc⟩:=hQ.block hr;exact hmA.nb hc
      (conv=>whnf);erw [←hM7];refine zN2 M hQ7 (a,b) rfl (by dsimp only;omega) (by dsimp only;simp[maxLen];omega) (by intro u hu;simp at hu;rcases hu with rfl|rfl<;>rfl) fun q6 c6 M6 h6 hk6=>?_
      have hA6:LayAt M M6 bo bu true [bb0]:=hA7.kept hk6 (fun _ ⟨r,hr,e⟩=>e▸(hQ7.block hr).1) (zxg hQ7 hA7.2.2.2.1 (by decide)) (by obtain⟨_,_,_,_,_,_,hu,_⟩:=hA7;exact zxg hQ7 hu (by decide)) (fun b cs hb=>zxg hQ7 hb (by decide))
      have hO6:=hO7.keep hk6 (fun ⟨r,hr,e⟩=>by
       obtain⟨_,cs,hc⟩:=hQ7.block hr
       exact mbN hO7 hc e)
      (conv=>whnf);refine obr (zs (by first|omega|(dsimp only;omega))) ?_;(conv=>whnf)
      refine⟨⟨i+1,M6,q6,k+1,c6⟩,⟨by omega,hA6,hO6,?_,?_⟩,by dsimp only;omega,zS⟩
      ·rw[hrw,List.length_append,hk];rfl
      ·rw[hrw];exact h6
     ·have c4':=Zd1 c4;rw[if_neg (by omega),List.append_nil] at hrw;(conv=>whnf);refine obr (zs (by first|omega|(dsimp only;omega))) ?_;(conv=>whnf)
      refine⟨⟨i+1,Mc,q,k,cq⟩,⟨by omega,hA,?_,?_,?_⟩,by dsimp only;omega,zS⟩
      ·rw[hrw];exact hO
      ·rw[hrw];exact hk
      ·rw[hrw];exact hQ
    ·have c3':=Zd1 c3;rw[if_neg (by omega),List.append_nil] at hrw;(conv=>whnf);refine obr (zs (by first|omega|(dsimp only;omega))) ?_;(conv=>whnf)
     refine⟨⟨i+1,Mc,q,k,cq⟩,⟨by omega,hA,?_,?_,?_⟩,by dsimp only;omega,zS⟩
     ·rw[hrw];exact hO
     ·rw[hrw];exact hk
     ·rw[hrw];exact hQ
   ·have c2':=Zd1 c2;rw[if_neg (by omega),List.append_nil] at hrw;(conv=>whnf);refine obr (zs (by first|omega|(dsimp only;omega))) ?_;(conv=>whnf)
    refine⟨⟨i+1,Mc,q,k,cq⟩,⟨by omega,hA,?_,?_,?_⟩,by dsimp only;omega,zS⟩
    ·rw[hrw];exact hO
    ·rw[hrw];exact hk
    ·rw[hrw];exact hQ
  ·have c1':=Zd1 c1;rw[if_neg (by omega),List.append_nil] at hrw;(conv=>whnf);refine obr (zs (by first|omega|(dsimp only;omega))) ?_;(conv=>whnf)
   refine⟨⟨i+1,Mc,q,k,cq⟩,⟨by omega,hA,?_,?_,?_⟩,by dsimp only;omega,zS⟩
   ·rw[hrw];exact hO
   ·rw[hrw];exact hk
   ·rw[hrw];exact hQ
 ·have g':i=nl:=by have:=Zd1 g;dsimp only at this;omega
  subst g';have hW:zbr N (S.links.take i)=zbr N S.links:=by rw[List.take_of_length_le (by omega)]
  rw[hW] at hO hk hQ;obtain⟨R,hRR⟩:∃ R,R=zbr N S.links:=⟨_,rfl⟩
  rw[←hRR] at hO hk hQ;have hRl:R.length≤1048576:=by have:=zEL N S.links;rw[hRR];omega
  (conv=>whnf);erw [hNn];refine(zHV hO (n:=N) hN.2).mono ?_;rintro u M5 ⟨qw,cw,rfl,hL⟩;have hA5:=hA.up0 hL.le
  have hQ5:=hQ.up hL.le;have hL5:=hL.mono hA.1
  obtain⟨W,hW⟩:∃ W,W=zcR N R:=⟨_,rfl⟩
  rw[←hW] at hL5;erw [←hW];refine zR ?_;(conv=>whnf);refine on hA5.2.2.2.1.cells ?_;(conv=>whnf);refine ob (by simp) ?_;obtain⟨M6,hM6⟩:∃ M6,M6=M5.setCells bo T.zar [.bool (decide ((W.length:Int)=i))]:=⟨_,rfl⟩
  obtain⟨hA6,hk6⟩:=hA5.setOk (decide ((W.length:Int)=i));rw[←hM6] at hA6 hk6
  have hQ6:=hQ5.keep hk6 (fun _ e=>e▸hbo) (fun r hr e=>by
   obtain⟨_,cs,hc⟩:=hQ5.block hr
   rw[e] at hc;exact absurd (hc.inj hA5.2.2.2.1).1 (by decide))
  have hL6:=hL5.keep hk6 (fun _ e=>e▸hbo) (fun r hr e=>by
   obtain⟨_,cs,hc⟩:=hL5.block hr
   rw[e] at hc;exact absurd (hc.inj hA5.2.2.2.1).1 (by decide))
  (conv=>whnf);erw [←hM6]
  refine zcD (σ:=Nat×Mem×Bool) [12] (fun y=>[(12,.int .i64 y.1)]) (fun _=>[BE.live T.zch ((zEs S ql i cl qs ns cs).map SC.v),BE.gone bu,BE.gone bo]) (fun y=>y.2.1)
   (fun|⟨j,Md,b⟩=>j≤W.length∧LayAt M Md bo bu b [bb0]∧NewSl M T.zci 2 q k cq (R.flatMap zoh) Md∧NewSl M T.zci 2 qw W.length cw (W.flatMap zoh) Md∧(b=true→W.length=i∧(W.map zd9).take j=S.links.take j)∧(b=false→W.map zd9≠S.links)) (fun y=>W.length+(if y.2.2 then 1 else 0) - y.1) ⟨0,M6,_⟩ ⟨by omega,hA6,hQ6,hL6,fun h=>⟨by have:=Zd0 h;omega,by simp⟩,fun h e=>by have:=Zd1 h;have:=congrArg List.length e;simp at this;omega⟩ zS ?_
  rintro ⟨j,Md,b⟩ ⟨hj,hA7,hQ7,hL7,ht,hf⟩;(conv=>whnf);refine on (hA7.2.2.2.1.c1 rfl) ?_;cases b;have hok:decide (W.map zd9=S.links)=false:=decide_eq_false (hf rfl)
  refine zR ?_;(conv=>whnf)
  rotate_left
  obtain⟨hWl,hWt⟩:=ht rfl;(conv=>whnf);refine brn (fun e=>?_) (fun e=>?_)
  ·have e':j<W.length:=by have:=Zd0 e;dsimp only at this;omega
   obtain⟨z,hz⟩:∃ z,W[j]? = some z:=⟨_,List.getElem?_eq_getElem (by omega)⟩
   obtain⟨y,hy⟩:∃ y,S.links[j]? = some y:=⟨_,List.getElem?_eq_getElem (by omega)⟩
   obtain⟨b1,o1,rfl,hr1⟩:=SrcOk.fall (enc:=zoh) (s:=2) (fun _=>rfl) hL7.src (by decide) hz;obtain⟨b2,o2,rfl,hr2⟩:=SrcOk.fall (enc:=zm5) (s:=2) (fun _=>rfl) (hLk.le hA7.1) (by decide) hy;obtain⟨z1,z2⟩:=z;obtain⟨y1,y2⟩:=y;(conv=>whnf);refine ob (by first|omega|(dsimp only;omega)) ?_;(conv=>whnf);refine on hr1 ?_;(conv=>whnf);refine ob (by first|omega|(dsimp only;omega)) ?_;(conv=>whnf);refine on hr2 ?_;refine zX ?_;(conv=>whnf);refine on hA7.2.2.2.1.cells ?_;(conv=>whnf);refine ob (by simp) ?_;obtain⟨X,hX⟩:∃ X:Bool,X=(decide ((z1:Int)=y1)&&(decide ((z2:Int)=y2)&&true)):=⟨_,rfl⟩
   obtain⟨M8,hM8⟩:∃ M8,M8=Md.setCells bo T.zar [.bool (decide ((z1:Int)=y1)&&(decide ((z2:Int)=y2)&&true))]:=⟨_,rfl⟩
   obtain⟨hA8,hk8⟩:=hA7.setOk X;rw[hX,←hM8,←hX] at hA8;rw[hX,←hM8] at hk8
   have hb8:∀ {E:TypeId} {s n c:Nat} {q:Option Addr} {L:List Value},NewSl M E s q n c L Md→E≠T.zar→NewSl M E s q n c L M8:=fun h hE=>h.keep hk8 (fun _ e=>e▸hbo) (fun r hr e=>by
    obtain⟨_,cs,hc⟩:=h.block hr
    rw[e] at hc;exact hE (hc.inj hA7.2.2.2.1).1)
   (conv=>whnf);erw [←hM8];(conv=>whnf);refine obr (zs (by first|omega|(dsimp only;omega))) ?_;(conv=>whnf)
   refine⟨⟨j+1,M8,X⟩,⟨by omega,hA8,hb8 hQ7 (by decide),hb8 hL7 (by decide),fun h=>⟨hWl,?_⟩,fun h e=>?_⟩,?_,zS⟩
   ·rw[hX] at h;simp only[Bool.and_true,Bool.and_eq_true,decide_eq_true_eq] at h;rw[List.take_add_one,List.take_add_one,hWt,hy,List.getElem?_map,hz];simp[zd9,h.1,h.2]
   ·rw[hX] at h;have h2:(W.map zd9)[j]? = S.links[j]? := by rw[e]
    rw[hy,List.getElem?_map,hz] at h2;simp[zd9] at h2 h;omega
   ·dsimp only;split<;>simp<;>omega
  have e':j=W.length:=by have:=Zd1 e;dsimp only at this;omega
  have hok:decide (W.map zd9=S.links)=true:=by
   refine decide_eq_true ?_;rw[List.take_of_length_le (by simp;omega),List.take_of_length_le (by omega)] at hWt;exact hWt
  refine zR ?_;(conv=>whnf)
  all_goals
   rw[←hok] at hA7;dsimp only;obtain⟨X,hAX,hBX,hXX⟩:=hA7.self
   have hR:SrcOk (Md.minus X) 2 q k (R.flatMap zoh):=hQ7.src.minus fun r hr hx=>by
    obtain⟨_,cs,hc⟩:=hQ7.block hr;obtain⟨E,ds,hd,hE⟩:=hXX _ hx;have:=(hc.inj hd).1
    rcases hE with e|e|e<;>rw[e] at this<;>exact absurd this (by decide)
   obtain⟨B7,hB7⟩:∃ B7,B7=Md.minus X:=⟨_,rfl⟩
   rw[←hB7] at hAX hBX hR;refine(zae hAX (n:=k) (by unfold zas;omega) (b:=1) (m:=16) (by decide) (by decide) (by simp)).mono ?_;rintro u M8 ⟨rfl,hA8⟩;rw[hk] at hA8;obtain⟨O8,hO8⟩:∃ O8,O8=(decide (W.map zd9=S.links)&&zap ((R.length:Nat),1,16)):=⟨_,rfl⟩
   obtain⟨L8,hL8⟩:∃ L8,L8=[bb0]++[zP ((R.length:Nat),1,16)]:=⟨_,rfl⟩
   rw[←hO8,←hL8] at hA8;have hL8l:L8.length=2:=by rw[hL8];rfl
   refine zR ?_;(conv=>whnf)
   refine zcD (σ:=Nat×Mem) [112] (fun y=>[(112,.int .i64 y.1)]) (fun _=>[BE.live T.zch ((zEs S ql i cl qs ns cs).map SC.v),BE.gone bu,BE.gone bo]) (fun y=>y.2)
    (fun|⟨j2,Me⟩=>j2≤R.length∧LayAt B7 Me bo bu (O8&&(zgU (R.take j2)).all zap) (L8++(zgU (R.take j2)).map zP)) (fun y=>R.length - y.1) ⟨0,M8⟩ ⟨by omega,by simpa[zgU] using hA8⟩ zS ?_
   rintro ⟨j2,Me⟩ ⟨hj2,hA9⟩
   have hRl2:∀ m,((zgU (R.take m)).map zP).length≤2*1048576:=fun m=>by
    rw[List.length_map,zNJ,List.length_take];omega
   (conv=>whnf);refine brn (fun e=>?_) (fun e=>?_)
   ·have e':j2<R.length:=by have:=Zd0 e;dsimp only at this;omega
    obtain⟨z,hz⟩:∃ z,R[j2]? = some z:=⟨_,List.getElem?_eq_getElem (by omega)⟩
    obtain⟨b1,o1,rfl,hr1⟩:=SrcOk.fall (enc:=zoh) (s:=2) (fun _=>rfl) (hR.le hA9.1) (by decide) hz;have hzl:z.1+1<z.2∧z.2<N:=zPU z (hRR▸List.mem_of_getElem? hz)
    have hz2:zgU (R.take (j2+1))=zgU (R.take j2)++[((z.1:Int),1,64),((z.2:Int),1,64)]:=by
     rw[List.take_add_one,hz];simp[zgU]
    have hlz:=hRl2 j2;obtain⟨z1,z2⟩:=z;dsimp only at hzl;(conv=>whnf);refine ob (by first|omega|(dsimp only;omega)) ?_;(conv=>whnf);refine on hr1 ?_;(conv=>whnf)
    refine(zae hA9 (n:=(z1:Nat)) (by unfold zas;omega) (b:=1) (m:=64) (by decide) (by decide) (by rw[List.length_append];omega)).mono ?_;rintro u M9 ⟨rfl,hA10⟩;refine zR ?_;(conv=>whnf)
    refine(zae hA10 (n:=(z2:Nat)) (by unfold zas;omega) (b:=1) (m:=64) (by decide) (by decide) (by rw[List.length_append,List.length_append];simp only[List.length_cons,List.length_nil];omega)).mono ?_;rintro u M10 ⟨rfl,hA11⟩;refine zR ?_;(conv=>whnf);refine obr (zs (by first|omega|(dsimp only;omega))) ?_;(conv=>whnf)
    refine⟨⟨j2+1,M10⟩,⟨by omega,hA11.cast ?_ ?_⟩,by dsimp only;omega,zS⟩
    ·rw[hz2,List.all_append];simp[Bool.and_assoc]
    ·rw[hz2,List.map_append];simp
   have e':j2=R.length:=by have:=Zd1 e;dsimp only at this;omega
   have hlz:=hRl2 j2;rw[e',List.take_of_length_le (Nat.le_refl _)] at hA9 hlz;obtain⟨O9,hO9⟩:∃ O9,O9=(O8&&(zgU R).all zap):=⟨_,rfl⟩
   obtain⟨L9,hL9⟩:∃ L9,L9=L8++(zgU R).map zP:=⟨_,rfl⟩
   rw[←hO9,←hL9] at hA9;have hL9l:L9.length≤2097154:=by rw[hL9,List.length_append];omega
   refine zR ?_;(conv=>whnf)
   refine(zIR hA9 rs (by omega)).mono ?_;rintro u M11 ⟨rfl,hA12⟩;obtain⟨OA,hOA⟩:∃ OA,OA=(O9&&(zfg S.set).all zap):=⟨_,rfl⟩
   obtain⟨LA,hLA⟩:∃ LA,LA=L9++(zfg S.set).map zP:=⟨_,rfl⟩
   rw[←hOA,←hLA] at hA12;have hLAl:LA.length≤2097164:=by rw[hLA,List.length_append];simp[zfg];omega
   have hMB:M.le B7:=hBX
   have hokW:okW S=(OA&&S.steps.all (zgT N)):=by
    unfold okW;rw[show S.nodes.toNat=N by omega,←hRR,←hW,hOA,hO9,hO8];simp only[Bool.and_assoc]
   refine zR ?_;(conv=>whnf)
   refine zcD (σ:=Nat×Mem×Bool×List UInt8) [132] (fun y=>[(132,.int .i64 y.1)]) (fun _=>[BE.live T.zch ((zEs S ql i cl qs ns cs).map SC.v),BE.gone bu,BE.gone bo]) (fun y=>y.2.1)
    (fun|⟨j3,Mf,b,L⟩=>j3≤ns∧LayAt B7 Mf bo bu b L∧b=(OA&&(S.steps.take j3).all (zgT N))∧(b=true→L=LA++(S.steps.take j3).flatMap (fun x=>(zag N x).map zP++x.data)∧L.length≤2097164+80*j3)) (fun y=>ns - y.1) ⟨0,M11,OA,LA⟩ ⟨by omega,hA12,by simp,fun _=>⟨by simp,by omega⟩⟩ zS ?_
   rintro ⟨j3,Mf,b,L⟩ ⟨hj3,hA,hb,hbL⟩;(conv=>whnf);refine brn (fun e=>?_) (fun e=>?_)
   ·have e':j3<ns:=by have:=Zd0 e;dsimp only at this;omega
    obtain⟨hl1,b1,o1,c1,rfl, -, hr1, -, q1,d1,rfl,hd1⟩:=hSt.at (by decide) e';have hxR:=rst _ (List.getElem_mem hl1)
    have htk:S.steps.take (j3+1)=S.steps.take j3++[S.steps[j3]]:=by rw[List.take_add_one,List.getElem?_eq_getElem hl1];rfl
    obtain⟨x,hx⟩:∃ x,x=S.steps[j3]:=⟨_,rfl⟩
    rw[←hx] at hr1 hd1 hxR htk;(conv=>whnf);refine ob (by first|omega|(dsimp only;omega)) ?_;(conv=>whnf);refine on (Mem.row_le (Mem.le_trans hMB hA.1) hr1) ?_;(conv=>whnf);refine on (hA.2.2.2.1.c1 rfl) ?_;cases b
    ·have hgs:true=true:=rfl;refine zX ?_;(conv=>whnf);refine on hA.2.2.2.1.cells ?_;(conv=>whnf);refine ob (by simp) ?_;obtain⟨M12,hM12⟩:∃ M12,M12=Mf.setCells bo T.zar [.bool false]:=⟨_,rfl⟩
     have hB:=(hA.setOk false).1;rw[←hM12] at hB;(conv=>whnf)
     erw [←hM12];(conv=>whnf);refine on (hB.2.2.2.1.c1 rfl) ?_;refine zR ?_;(conv=>whnf);refine obr (zs (by first|omega|(dsimp only;omega))) ?_;(conv=>whnf)
     refine⟨⟨j3+1,M12,false,L⟩,⟨by omega,hB,?_,fun h=>by cases h⟩,by dsimp only;omega,zS⟩;rw[htk,List.all_append,←Bool.and_assoc,←hb];rfl
    (conv=>whnf);refine brn (fun f1=>?_) (fun f1=>?_)
    ·have f1':=Zd0 f1;refine zX ?_;(conv=>whnf);refine on hA.2.2.2.1.cells ?_;(conv=>whnf);refine ob (by simp) ?_;obtain⟨M12,hM12⟩:∃ M12,M12=Mf.setCells bo T.zar [.bool (decide (x.kind≤12))]:=⟨_,rfl⟩
     have hB:=(hA.setOk (decide (x.kind≤12))).1;rw[←hM12] at hB;(conv=>whnf)
     erw [←hM12];(conv=>whnf);refine on (hB.2.2.2.1.c1 rfl) ?_;generalize f2:decide (x.kind≤12)=b2 at hB ⊢;cases b2
     ·have hgs:zgT N x=false:=by unfold zgT;rw[decide_eq_false fun h=>Zd1 f2 h.2];rfl
      refine zR ?_;(conv=>whnf);refine obr (zs (by first|omega|(dsimp only;omega))) ?_;(conv=>whnf)
      refine⟨⟨j3+1,M12,false,L⟩,⟨by omega,hB.cast rfl rfl,?_,fun h=>by cases h⟩,by dsimp only;omega,zS⟩;rw[htk,List.all_append,List.all_cons,List.all_nil];simp[hgs,←hb]
     ·have f2':=Zd0 f2;obtain⟨hbL1,hbL2⟩:=hbL rfl;obtain⟨r,hr⟩:∃ r:Nat,x.kind=1+(r:Nat):=⟨(x.kind - 1).toNat,by omega⟩
      have hgs:zgT N x=(zag N x).all zap:=by unfold zgT;rw[decide_eq_true ⟨f1',f2'⟩];rfl
      (conv=>whnf);erw [hNn];refine(zR4 hB hxR (r:=r) (by omega) hr q1 d1 (nodes:=N) (by omega)).mono ?_;rintro u M13 ⟨rfl,hC⟩;rw[Bool.true_and,←hgs] at hC;have hlen:=zNI N x
      have hxl:x.data.length≤1048576:=hxR.2.2.2.2;obtain⟨hC1,hC2,hC3,hob,q2,c2,hu2,hN2⟩:=hC;rw[List.length_append,List.length_map] at hN2 hu2;refine zR ?_;(conv=>whnf);refine on (hu2.c1 rfl) ?_;(conv=>whnf);refine zUp (hd1.le (Mem.le_trans hMB hC1)) ?_;refine appK B7 _ hN2 (by omega) (by unfold maxLen;omega) (zMt _) (fun q3 c3 M14 hN3 hk3=>?_);have hu3:M14.has bu T.zY [.slice q2 (L.length+(zag N x).length) c2]:=hk3 _ _ (zxg hN2 hu2 (by decide)) hu2
      have hob3:M14.has bo T.zar [.bool (zgT N x)]:=hk3 _ _ (zxg hN2 hob (by decide)) hob;refine zX ?_;(conv=>whnf);refine on hu3.cells ?_;(conv=>whnf);refine ob (by simp) ?_;obtain⟨M15,hM15⟩:∃ M15,M15=M14.setCells bu T.zY [.slice q3 (L.length+(zag N x).length+x.data.length) c3]:=⟨_,rfl⟩
      have hk4:Mem.keep (fun y=>y=bu) M14 M15:=fun y o hy hyo=>by rw[hM15];unfold Mem.setCells;rw[Mem.upd_ne _ _ hy];exact hyo
      have hu4:M15.has bu T.zY [.slice q3 (L.length+(zag N x).length+x.data.length) c3]:=hM15▸Mem.has_setCells
      have hD:LayAt B7 M15 bo bu (zgT N x) (L++((zag N x).map zP++x.data)):=by
       refine⟨hk4.le hN3.le (fun _ e=>e▸hC3),hC2,hC3,hk4 _ _ (fun e=>by subst e;exact absurd (hob3.inj hu3).1 (by decide)) hob3,q3,c3,?_,?_⟩
       ·simpa[Nat.add_assoc] using hu4
       ·have:=hN3.keep hk4 (fun _ e=>e▸hC3) fun r hr e=>by
         obtain⟨_,cs,hc⟩:=hN3.block hr;rw[e] at hc;exact absurd (hc.inj hu3).1 (by decide)
        simpa[Nat.add_assoc] using this
      (conv=>whnf);erw [←hM15];(conv=>whnf);refine obr (zs (by first|omega|(dsimp only;omega))) ?_;(conv=>whnf)
      refine⟨⟨j3+1,M15,zgT N x,L++((zag N x).map zP++x.data)⟩,⟨by omega,hD,?_,fun h=>⟨?_,?_⟩⟩,by dsimp only;omega,zS⟩
      ·rw[htk,List.all_append,←Bool.and_assoc,←hb];simp
      ·rw[hbL1,htk,List.flatMap_append];simp
      ·have hgd:=goodS_iff.1 h;have:=(zuS (nodes:=N) (by omega) hgd.1 hgd.2).2.2.2.2
       simp only[List.length_append,List.length_map];omega
    ·have hgs:zgT N x=false:=by unfold zgT;rw[decide_eq_false fun h=>Zd1 f1 h.1];rfl
     refine zX ?_;(conv=>whnf);refine on hA.2.2.2.1.cells ?_;(conv=>whnf);refine ob (by simp) ?_;obtain⟨M12,hM12⟩:∃ M12,M12=Mf.setCells bo T.zar [.bool false]:=⟨_,rfl⟩
     have hB:=(hA.setOk false).1;rw[←hM12] at hB;(conv=>whnf)
     erw [←hM12];(conv=>whnf);refine on (hB.2.2.2.1.c1 rfl) ?_;refine zR ?_;(conv=>whnf);refine obr (zs (by first|omega|(dsimp only;omega))) ?_;(conv=>whnf)
     refine⟨⟨j3+1,M12,false,L⟩,⟨by omega,hB.cast rfl rfl,?_,fun h=>by cases h⟩,by dsimp only;omega,zS⟩;rw[htk,List.all_append,List.all_cons,List.all_nil];simp[hgs,←hb]
   have e':j3=ns:=by have:=Zd1 e;dsimp only at this;omega
   rw[e',List.take_of_length_le (by omega),←hokW] at hb;(conv=>whnf);refine on (hA.2.2.2.1.c1 rfl) ?_;cases b
   ·refine zR ?_;(conv=>whnf)
    refine⟨Mem.le_trans hMB hA.1,none,0,0,.inr ⟨fun h=>?_,rfl⟩⟩;rw[(zEu (by omega) (by omega)).2 h] at hb;cases hb
   ·refine zR ?_;obtain⟨hbL1,hbL2⟩:=hbL rfl;obtain⟨q9,c9,hu9,hN9⟩:=hA.2.2.2.2;(conv=>whnf);refine on (hu9.c1 rfl) ?_;(conv=>whnf)
    refine⟨Mem.le_trans hMB hA.1,q9,_,c9,.inl ⟨(zEu (by omega) (by omega)).1 hb.symm,rfl,?_⟩⟩;have hE:=zR3 (S:=S) (by omega) (by omega) hb.symm
    rw[e',List.take_of_length_le (by omega)] at hbL1;rw[show S.nodes.toNat=N by omega,←hRR,←hbb0] at hE;have hLe:L=zp2 S:=by rw[←hE,hbL1,hLA,hL9,hL8];simp only[List.append_assoc]
    rw[←hLe];exact hN9.mono hMB
end
section
variable {M B B0:Mem}
theorem zR5 {s:SetI} (h:(zfg s).all zap=true):zH4 s:=by
 obtain⟨s0,s1,s2,s3,s4,s5,s6,s7,s8,s9⟩:=s
 have e8:∀ n:Int,zap (n,8,256)=true→0≤n∧n≤4096:=fun n h=>by
  unfold zap at h;simp only[Bool.and_eq_true,decide_eq_true_eq] at h;obtain⟨⟨h1,_⟩,h3⟩:=h;rw[Int.tdiv_eq_ediv_of_nonneg h1] at h3;omega
 have lo:∀ n b:Int,0≤zbf n b→zbf n b=n - b:=fun n b h=>by
  unfold zbf at h ⊢;split at h
  ·omega
  ·rw[if_neg (by assumption)]
 unfold zfg at h;simp only[List.all_cons,List.all_nil,Bool.and_eq_true,Bool.and_true,zqZ,zF9] at h;obtain⟨h0,h1,h2,h3,h4,h5,h6,h7,h8,h9⟩:=h;have b1:=e8 _ h1
 have l3:=lo _ _ h3.1;have l4:=lo _ _ h4.1
 have l5:=lo _ _ h5.1;have l6:=lo _ _ h6.1
 have l7:=lo _ _ h7.1;have l8:=lo _ _ h8.1
 unfold zH4 zas;dsimp only;omega
theorem zNK {S:zkx} (h:zoi S):zCU S:=by
 obtain⟨h1,h2,h3,h4,h5,h6⟩:=h;refine⟨by unfold zas;omega,fun p hp=>?_,zR5 h5,fun x hx=>?_⟩
 ·rw[←h3] at hp;obtain⟨q,hq,rfl⟩:=List.mem_map.1 hp;rw[zoj] at hq;unfold zas;simp only;omega
 ·obtain⟨a1,a2,a3,a4,a5⟩:=zuS (nodes:=S.nodes.toNat) (by omega) (h6 x hx).1 (h6 x hx).2;unfold ztR zas;omega
theorem zPV (x:StpI):(ziJ x).length≤4+x.data.length:=by
 unfold ziJ zm6;split<;>simp<;>omega
theorem zBd {S:zkx} (h:zoi S):(zp2 S).length≤1048576:=by
 obtain⟨h1,h2,h3,h4,h5,h6⟩:=h
 have hr:∀ l:List (Nat×Nat),(ze9 l).length=2*l.length:=fun l=>by
  unfold ze9
  induction l with
  | nil=>rfl
  | cons p l ih=>simp[ih];omega
 have hs:∀ l:List StpI,(∀ x∈l,x.data.length≤63)→(l.flatMap ziJ).length≤67*l.length:=fun l=>by
  induction l with
  | nil=>intro _;simp
  | cons x l ih=>
   intro hl;have:=ih fun y hy=>hl y (List.mem_cons_of_mem _ hy)
   have:=zPV x;have:=hl x (by simp)
   rw[List.flatMap_cons,List.length_append,List.length_cons];omega
 have:=hs S.steps fun x hx=>(zuS (nodes:=S.nodes.toNat) (by omega) (h6 x hx).1 (h6 x hx).2).2.2.2.2
 unfold zp2;simp only[List.length_cons,List.length_append,hr,List.length_map,zfg,List.length_nil];omega
set_option maxRecDepth 100000 in
theorem zPW (aw:∀ {M1:Mem},M.le M1→CallsM Tryz.prog F.zcv [] M1 fun v M2=>v = .bool true∧M1.le M2) {v:Value} {S:zkx} (hS:ScAt M v S) (hR:zCU S) {a:Option Addr} {n c:Nat} {P:List UInt8} (hs:SrcOk M 1 a n (P.map zy)) (hn:n≤1048576) :
  CallsM Tryz.prog F.zj6 [v,.slice a n c] M fun v M'=>v = .bool true∧M.le M':=by
 have hS':=hS;obtain⟨ql,nl,cl,qs,ns,cs,rfl,hLk,hnl,hSt,hns⟩:=hS;refine zuZ (by simp) ?_;refine zR ?_;refine(zH5 hS' hR).mono ?_;rintro u M1 ⟨hle1,q1,n1,c1,⟨hE,rfl,hN1⟩|⟨hE,rfl⟩⟩
 ·have hl1:=hN1.src.maplen;refine zR ?_;refine(zxd (c:=c1) hN1.src (by have:=zBd hE;omega)).mono ?_;rintro u M2 ⟨hle12,ql2,cl2,qs2,cs2,rfl,hL2,hE2⟩;have hA:ScAt M2 _ (zdN (zp2 S)).toI:=ztQ hL2 hE2 (Mem.keep_refl (fun _=>False) _) (fun _ h=>h.elim) (zok _) (zol _)
  rw[zBb hE] at hA;have hle2:=Mem.le_trans hle1 hle12
  refine zT (hle12) ?_;refine zR ?_;refine(zEt hA (hS'.le hle2)).mono ?_;rintro u _ ⟨rfl,rfl⟩;refine zT (hle12) ?_;refine zR ?_;refine zR ?_;refine(zxd (c:=c) (hs.le hle2) hn).mono ?_;rintro u M3 ⟨hle3,ql3,cl3,qs3,cs3,rfl,hL3,hE3⟩;have hT:ScAt M3 _ (zdN P).toI:=ztQ hL3 hE3 (Mem.keep_refl (fun _=>False) _) (fun _ h=>h.elim) (zok P) (zol P)
  have hok:=zEK P;refine zR ?_;refine(zH5 hT (zNK hok)).mono ?_;rintro u M4 ⟨hle4,q4,n4,c4,⟨-, rfl,hN4⟩|⟨hE4,rfl⟩⟩
  rotate_left
  ·exact absurd hok hE4
  have hl4:=hN4.src.maplen;refine zR ?_;refine(zxd (c:=c4) hN4.src (by have:=zBd hok;omega)).mono ?_;rintro u M5 ⟨hle5,ql5,cl5,qs5,cs5,rfl,hL5,hE5⟩;have hU:ScAt M5 _ (zdN (zp2 (zdN P).toI)).toI:=ztQ hL5 hE5 (Mem.keep_refl (fun _=>False) _) (fun _ h=>h.elim) (zok _) (zol _)
  rw[zBb hok] at hU;refine zT (hle5) ?_;refine zR ?_;refine(zEt hU ((hT.le hle4).le hle5)).mono ?_;rintro u _ ⟨rfl,rfl⟩;have hM5:=Mem.le_trans hle2 (Mem.le_trans hle3 (Mem.le_trans hle4 hle5))
  refine zT (hle5) ?_;refine zR ?_;refine(aw hM5).mono ?_;rintro v M6 ⟨rfl,hle6⟩;refine zT (Mem.le_trans hle5 hle6) ?_;refine zR ?_;(conv=>whnf)
  exact⟨rfl,Mem.le_trans hM5 hle6⟩
 ·have hle2:=hle1;refine zR ?_;refine(zxd (c:=c) (hs.le hle2) hn).mono ?_;rintro u M3 ⟨hle3,ql3,cl3,qs3,cs3,rfl,hL3,hE3⟩;have hT:ScAt M3 _ (zdN P).toI:=ztQ hL3 hE3 (Mem.keep_refl (fun _=>False) _) (fun _ h=>h.elim) (zok P) (zol P)
  have hok:=zEK P;refine zR ?_;refine(zH5 hT (zNK hok)).mono ?_;rintro u M4 ⟨hle4,q4,n4,c4,⟨-, rfl,hN4⟩|⟨hE4,rfl⟩⟩
  rotate_left
  ·exact absurd hok hE4
  have hl4:=hN4.src.maplen;refine zR ?_;refine(zxd (c:=c4) hN4.src (by have:=zBd hok;omega)).mono ?_;rintro u M5 ⟨hle5,ql5,cl5,qs5,cs5,rfl,hL5,hE5⟩;have hU:ScAt M5 _ (zdN (zp2 (zdN P).toI)).toI:=ztQ hL5 hE5 (Mem.keep_refl (fun _=>False) _) (fun _ h=>h.elim) (zok _) (zol _)
  rw[zBb hok] at hU;refine zT (hle5) ?_;refine zR ?_;refine(zEt hU ((hT.le hle4).le hle5)).mono ?_;rintro u _ ⟨rfl,rfl⟩;have hM5:=Mem.le_trans hle2 (Mem.le_trans hle3 (Mem.le_trans hle4 hle5))
  refine zT (hle5) ?_;refine zR ?_;refine(aw hM5).mono ?_;rintro v M6 ⟨rfl,hle6⟩;refine zT (Mem.le_trans hle5 hle6) ?_;refine zR ?_;(conv=>whnf)
  exact⟨rfl,Mem.le_trans hM5 hle6⟩
end
end Go.Proofs.YtpnhjkiligohnaaGreatDoor
namespace Go.Proofs.YtpnhjkiligohnaaGreatDoor
open Go Go.Vm
attribute [local irreducible] Brn Ob Grow CallsM inR zbd za9 Mem.row Mem.cells Mem.setCells Mem.upd Go.Vm.Own zbN zcZ zcB zbV New SrcOk zat NewSl Mem.textAt Mem.mapAt Mem.iterAt za8 kfind Wr NewEls Elems
set_option maxRecDepth 10000
open Br
def LkR (cs:List Value) (p:Int×Int):Prop:=cs=zm5 p∧zas p.1∧zas p.2
theorem zR6:Reads T.zci 2 fun (_:Mem) cs (p:Int×Int)=>LkR cs p:=fun H enc W fuel cs d ps h hb=>by
 obtain⟨hl,hf⟩:=field Tryz.underlying58 h hb;replace hl:cs.length=2:=hl.trans (by kernel_rfl);obtain⟨-, n0,h0,g0⟩:=hf 0 _ rfl 1 zdp (by kernel_rfl);obtain⟨-, n1,h1,g1⟩:=hf 1 _ rfl 1 zdp (by kernel_rfl);exact⟨hl,(n0,n1),(show Chunks cs 0 [[_],[_]] from ⟨h0,h1,hl⟩).eq,bounds_i64 g0,bounds_i64 g1⟩
theorem zL7 {M:Mem} {a:Option Addr} {n:Nat} {l:List (Int×Int)} (h:Elems M 2 a n LkR l):SrcOk M 2 a n (l.flatMap zm5)∧∀ p∈l,zas p.1∧zas p.2:=by
 unfold Elems at h;obtain⟨css,h1,h2,h3,h4,h5⟩:=h
 have e:css.flatten=l.flatMap zm5∧∀ p∈l,zas p.1∧zas p.2:=by
  clear h1 h4
  induction css generalizing l n with
  | nil=>
   have:l=[]:=List.length_eq_zero_iff.1 (by simp at h2;omega);subst this;simp
  | cons cs r ih=>
   match l,h3 with
   | [],h3=>simp at h2 h3;omega
   | x::l,h3=>
    obtain⟨hy,hy1,hy2⟩:=h5 0 cs x rfl rfl;obtain⟨hl',hl2⟩:=ih (n:=n - 1) (l:=l) (by simp at h2;omega) (by simp at h3;omega) (fun i c z hi hz=>h5 (i+1) c z (by simpa using hi) (by simpa using hz));refine⟨by rw[List.flatten_cons,List.flatMap_cons,hl',hy],fun p hp=>?_⟩;rcases List.mem_cons.1 hp with rfl|hp
    ·exact⟨hy1,hy2⟩
    ·exact hl2 p hp
 exact⟨e.1▸h1,e.2⟩
theorem zPX:Reads T.zGu 1 fun M cs (l:List (Int×Int))=>∃ a n c,cs=[.slice a n c]∧Elems M 2 a n LkR l∧n≤1048576∧n≤c:=fun H enc W fuel cs d ps h hb=>
 Reads.slice Tryz.underlying23 (by kernel_rfl) (by decide) zR6 H enc W fuel cs d ps h hb
theorem zPY:Reads T.zG 5 fun M cs (x:StpI)=>StpAt M cs x∧ztR x:=fun H enc W fuel cs d ps h hb=>by
 obtain⟨hl,hf⟩:=field Tryz.underlying61 h hb;replace hl:cs.length=5:=hl.trans (by kernel_rfl);obtain⟨-, n0,h0,g0⟩:=hf 0 _ rfl 1 zdp (by kernel_rfl);obtain⟨-, n1,h1,g1⟩:=hf 1 _ rfl 1 zdp (by kernel_rfl);obtain⟨-, n2,h2,g2⟩:=hf 2 _ rfl 1 zdp (by kernel_rfl);obtain⟨-, n3,h3,g3⟩:=hf 3 _ rfl 1 zdp (by kernel_rfl);obtain⟨-, l4,a4,m4,c4,h4,g4,g5, -⟩:=hf 4 _ rfl 1 zH3 (by kernel_rfl);obtain rfl:=g4.maplen;exact⟨hl,⟨n0,n1,n2,n3,l4⟩,⟨a4,c4,(show Chunks cs 0 [[_],[_],[_],[_],[_]] from ⟨h0,h1,h2,h3,h4,hl⟩).eq,g4⟩,bounds_i64 g0,bounds_i64 g1,bounds_i64 g2,bounds_i64 g3,g5⟩
theorem zNL:Reads T.zGv 1 fun M cs (l:List StpI)=>∃ a n c,cs=[.slice a n c]∧Elems M 5 a n (fun cs x=>StpAt M cs x∧ztR x) l∧n≤1048576∧n≤c:=fun H enc W fuel cs d ps h hb=>
 Reads.slice Tryz.underlying28 (by kernel_rfl) (by decide) zPY H enc W fuel cs d ps h hb
structure QtI where
 a:Int
 b:Int
 c:Int
theorem zPZ:Reads T.zIf 3 fun (_:Mem) cs (x:QtI)=>cs=[.int .i64 x.a,.int .i64 x.b,.int .i64 x.c]∧zas x.a∧zas x.b∧zas x.c:=fun H enc W fuel cs d ps h hb=>by
 obtain⟨hl,hf⟩:=field Tryz.underlying25 h hb;replace hl:cs.length=3:=hl.trans (by kernel_rfl);obtain⟨-, n0,h0,g0⟩:=hf 0 _ rfl 1 zdp (by kernel_rfl);obtain⟨-, n1,h1,g1⟩:=hf 1 _ rfl 1 zdp (by kernel_rfl);obtain⟨-, n2,h2,g2⟩:=hf 2 _ rfl 1 zdp (by kernel_rfl);exact⟨hl,⟨n0,n1,n2⟩,(show Chunks cs 0 [[_],[_],[_]] from ⟨h0,h1,h2,hl⟩).eq,bounds_i64 g0,bounds_i64 g1,bounds_i64 g2⟩
theorem zTw:Reads T.zC6 10 fun (_:Mem) cs (s:SetI)=>cs=setC s∧zH4 s:=fun H enc W fuel cs d ps h hb=>by
 obtain⟨hl,hf⟩:=field Tryz.underlying27 h hb;replace hl:cs.length=10:=hl.trans (by kernel_rfl);obtain⟨-, q,h0,g0,g0b,g0c⟩:=hf 0 _ rfl 3 zPZ (by kernel_rfl);obtain⟨-, n1,h1,g1⟩:=hf 1 _ rfl 1 zdp (by kernel_rfl);obtain⟨-, n2,h2,g2⟩:=hf 2 _ rfl 1 zdp (by kernel_rfl);obtain⟨-, n3,h3,g3⟩:=hf 3 _ rfl 1 zdp (by kernel_rfl);obtain⟨-, n4,h4,g4⟩:=hf 4 _ rfl 1 zdp (by kernel_rfl);obtain⟨-, n5,h5,g5⟩:=hf 5 _ rfl 1 zdp (by kernel_rfl);obtain⟨-, n6,h6,g6⟩:=hf 6 _ rfl 1 zdp (by kernel_rfl);obtain⟨-, n7,h7,g7⟩:=hf 7 _ rfl 1 zdp (by kernel_rfl);exact⟨hl,⟨q.a,q.b,q.c,n1,n2,n3,n4,n5,n6,n7⟩,(show Chunks cs 0 [[_,_,_],[_],[_],[_],[_],[_],[_],[_]] from ⟨h0,h1,h2,h3,h4,h5,h6,h7,hl⟩).eq,g0,g0b,g0c,bounds_i64 g1,bounds_i64 g2,bounds_i64 g3,bounds_i64 g4,bounds_i64 g5,bounds_i64 g6,bounds_i64 g7⟩
theorem zNM:Reads T.zch 13 fun M cs (S:zkx)=>(∃ ql nl cl qs ns c,cs=zEs S ql nl cl qs ns c∧SrcOk M 2 ql nl (S.links.flatMap zm5)∧nl≤1048576∧Elems M 5 qs ns (StpAt M) S.steps∧ns≤1048576)∧zCU S:=fun H enc W fuel cs d ps h hb=>by
 obtain⟨hl,hf⟩:=field Tryz.underlying30 h hb;replace hl:cs.length=13:=hl.trans (by kernel_rfl);obtain⟨-, n0,h0,g0⟩:=hf 0 _ rfl 1 zdp (by kernel_rfl);obtain⟨-, l1,a1,m1,c1,h1,g1,e1, -⟩:=hf 1 _ rfl 1 zPX (by kernel_rfl);obtain⟨-, s,h2,g2⟩:=hf 2 _ rfl 10 zTw (by kernel_rfl);obtain⟨-, l3,a3,m3,c3,h3,g3,e3, -⟩:=hf 3 _ rfl 1 zNL (by kernel_rfl);obtain⟨f1,f2⟩:=zL7 g1
 have f3:∀ x∈l3,ztR x:=by
  unfold Elems at g3;obtain⟨css, -, k2,k3, -, k5⟩:=g3;intro x hx;obtain⟨i,hi,e⟩:=List.getElem_of_mem hx;exact(k5 i (css[i]'(by omega)) x (List.getElem?_eq_getElem _) (by rw[List.getElem?_eq_getElem hi,e])).2
 exact⟨hl,⟨n0,l1,s,l3⟩,⟨a1,m1,c1,a3,m3,c3,(show Chunks cs 0 [[_],[_],[_,_,_,_,_,_,_,_,_,_],[_]] from ⟨h0,h1,h2,h3,hl⟩).eq,f1,e1,g3.imp (Mem.le_refl _) (fun _ _ _ hx=>hx.1),e3⟩,bounds_i64 g0,f2,g2,f3⟩
end Go.Proofs.YtpnhjkiligohnaaGreatDoor
