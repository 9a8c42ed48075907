/- Part of this proof;laid by program. -/
import Derived.Test.YtpnhjkiligohnaaGreatDoorJ32
import Derived.Test.YtpnhjkiligohnaaGreatDoorJ9
set_option linter.unusedVariables false
set_option linter.unusedSimpArgs false
namespace Go.Proofs.YtpnhjkiligohnaaGreatDoor
open Go Go.Vm
attribute [local irreducible] Brn Ob Grow CallsM inR zbd za9 Mem.row Mem.cells Mem.setCells Mem.upd Go.Vm.Own zbN zcZ zcB zbV New SrcOk zat NewSl Mem.textAt Mem.mapAt Mem.iterAt za8 kfind Wr NewEls Elems
set_option maxRecDepth 10000
section
variable {M B:Mem}
def zRX:Nat→Int
 | 0=>41
 | 2=>0
 | 3=>38
 | 4=>54
 | 5=>54
 | 6=>40
 | 8=>36
 | 10=>36
 | 11=>4
 | _=>32
theorem zEI:∀ (r:Nat),r<12→CallsM Tryz.prog F.zbP [.int .i64 (1+(r:Nat))] M fun v M'=>v = .int .i64 (zRX r)∧M=M'
 | 0,_|1,_|2,_|3,_|4,_|5,_|6,_|7,_|8,_|9,_|10,_|11,_=>by
  refine zzV (by simp) ?_;refine zR ?_;exact⟨rfl,rfl⟩
 | _+12,h=>by omega
theorem zm3:∀ (r:Nat),r<12→CallsM Tryz.prog F.zb2 [.int .i64 (1+(r:Nat))] M fun v M'=>v = .tuple #[.int .i64 (if r=8 then 256 else 1),.int .i64 (if r=10 then 64 else 256)]∧M=M'
 | 0,_|1,_|2,_|3,_|4,_|5,_|6,_|7,_|8,_|9,_|10,_|11,_=>by
  refine zBM (by simp) ?_;refine zR ?_;exact⟨rfl,rfl⟩
 | _+12,h=>by omega
theorem zEq:∀ (r:Nat),r<12→CallsM Tryz.prog F.zcw [.int .i64 (1+(r:Nat))] M fun v M'=>v = .int .i64 (if r=6 then 8 else 64)∧M=M'
 | 0,_|1,_|2,_|3,_|4,_|5,_|6,_|7,_|8,_|9,_|10,_|11,_=>by
  refine zDf (by simp) ?_;refine zR ?_;exact⟨rfl,rfl⟩
 | _+12,h=>by omega
@[reducible] def zm4 (x:StpR) (q:Option Addr) (c:Nat):List Value:=[.int .i64 (x.kind:Nat),.int .i64 (x.node:Nat),.int .i64 (x.to:Nat),.int .i64 (x.n:Nat),.slice q x.data.length c]
theorem zbD (P:List UInt8) (v k:Nat):zau P v (k+1)=zau P v k++[P.getD (v+k) 0]:=by unfold zau;rw[List.range_succ,List.map_append];rfl
theorem zZ (P:List UInt8) (v k:Nat):(zau P v k).length=k:=by simp[zau]
theorem zfn (P:List UInt8) (v:Nat):Value.int .u8 (IntKind.u8.wrap ((zm P v 256:Nat):Int))=zy (P.getD v 0):=by
 unfold zm;generalize P.getD v 0=x;have h:=UInt8.toNat_lt x
 rw[Nat.mod_eq_of_lt (by omega),show IntKind.u8.wrap ((x.toNat:Nat):Int)=((x.toNat:Nat):Int) by simp[IntKind.wrap,IntKind.signed,IntKind.bits];omega];rfl
theorem TkAt.app {bt bp:Nat} {a:Option Addr} {n c:Nat} {P:List UInt8} {v:Nat} {M2 M3:Mem} (h:TkAt B M2 bt bp a n c P v) {q q':Option Addr} {k k' cq cq':Nat} {L L':List Value} (hBM:B.le (M.minus fun y=>y=bt))
  (hN:NewSl (M.minus fun y=>y=bt) T.zM 1 q k cq L M2) (hN':NewSl (M.minus fun y=>y=bt) T.zM 1 q' k' cq' L' M3) (hk:Mem.keep (blk q) M2 M3):TkAt B M3 bt bp a n c P v:=by
 obtain⟨h1,h2,h3,h4,h5,h6⟩:=h;refine⟨Mem.le_trans hBM hN'.le,h2,hk _ _ (fun ⟨r,hr,e⟩=>?_) h3,h4,h5,h6⟩;obtain⟨_,cs,hc⟩:=hN.block hr;rw[e] at hc;exact absurd (hc.inj h3).1 (by decide)
theorem NewSl.take {bt bp:Nat} {a:Option Addr} {n c:Nat} {P:List UInt8} {v:Nat} {M2 M3:Mem} {q:Option Addr} {k cq:Nat} {L:List Value} (hN:NewSl (M.minus fun y=>y=bt) T.zM 1 q k cq L M2) (h:TkAt B M2 bt bp a n c P v) (hk:Mem.keep (fun y=>y=bt) M2 M3) :
  NewSl (M.minus fun y=>y=bt) T.zM 1 q k cq L M3:=hN.keep hk (fun _ e=>Mem.minus_in e) fun r hr e=>by
 obtain⟨_,cs,hc⟩:=hN.block hr;rw[e] at hc;exact absurd (hc.inj h.2.2.1).1 (by decide)
set_option maxRecDepth 100000 in
theorem zRY {bt bp:Nat} {a:Option Addr} {n c:Nat} {P:List UInt8} {v:Nat} (h:TkAt B M bt bp a n c P v) {nodes:Nat} (hN:0<nodes) (hN2:nodes≤64) :
  CallsM Tryz.prog F.zfj [zUe bt bp,.int .i64 nodes] M fun u M'=>∃ q cq,u = .agg (zm4 (zaV P nodes v).1 q cq).toArray∧TkAt B M' bt bp a n c P (zaV P nodes v).2∧Mem.keep (fun y=>y=bt) M M' ∧
   NewSl (M.minus fun y=>y=bt) T.zM 1 q (zaV P nodes v).1.data.length cq ((zaV P nodes v).1.data.map zy) M':=by
 have hBM:B.le (M.minus fun y=>y=bt):=Mem.le_minus h.1 (fun _ e=>e▸h.2.1);refine zDa (by simp) ?_;refine zR ?_;refine(zB h (m:=12) (by decide) (by decide)).mono ?_;rintro u M1 ⟨rfl,h1,hk1⟩;have hr:=zab (P:=P) (v:=v) (m:=12) (by decide)
 (conv=>whnf);refine obr (zs (by first|omega|(dsimp only;omega))) ?_;obtain⟨r,hr0⟩:∃ r,r=zm P v 12:=⟨_,rfl⟩
 rw[←hr0] at hr ⊢;have hst:zaV P nodes v=zai P nodes v r:=by unfold zaV;rw[hr0]
 refine zR ?_;refine(zEI r hr).mono ?_;rintro u _ ⟨rfl,rfl⟩
 match r,hr with
 | 0,_=>
  repeat' ((conv=>whnf);first|refine brn_t rfl ?_|refine brn_f rfl ?_|refine ob rfl ?_|refine obr rfl ?_|refine ob (by decide) ?_|refine obr (by decide) ?_|refine brn_t (by kernel_rfl) ?_|refine brn_f (by kernel_rfl) ?_|fail)
  refine(zB h1 (m:=nodes) hN (by omega)).mono ?_;rintro u M2 ⟨rfl,h2,hk2⟩
  repeat' ((conv=>whnf);first|refine brn_t rfl ?_|refine brn_f rfl ?_|refine ob rfl ?_|refine obr rfl ?_|refine ob (by decide) ?_|refine obr (by decide) ?_|refine brn_t (by kernel_rfl) ?_|refine brn_f (by kernel_rfl) ?_|fail)
  refine(zB h2 (m:=256) (by decide) (by decide)).mono ?_;rintro u M3 ⟨rfl,h3,hk3⟩
  repeat' ((conv=>whnf);first|refine brn_t rfl ?_|refine brn_f rfl ?_|refine ob rfl ?_|refine obr rfl ?_|refine ob (by decide) ?_|refine obr (by decide) ?_|refine brn_t (by kernel_rfl) ?_|refine brn_f (by kernel_rfl) ?_|fail)
  refine(zEq 0 (by decide)).mono ?_;rintro u _ ⟨rfl,rfl⟩
  repeat' ((conv=>whnf);first|refine brn_t rfl ?_|refine brn_f rfl ?_|refine ob rfl ?_|refine obr rfl ?_|refine ob (by decide) ?_|refine obr (by decide) ?_|refine brn_t (by kernel_rfl) ?_|refine brn_f (by kernel_rfl) ?_|fail)
  refine(zB h3 (m:=64) (by decide) (by decide)).mono ?_;rintro u M4 ⟨rfl,h4,hk4⟩;have hkM:=Mem.keep_trans hk1 (Mem.keep_trans hk2 (Mem.keep_trans hk3 hk4))
  repeat' ((conv=>whnf);first|refine brn_t rfl ?_|refine brn_f rfl ?_|refine ob rfl ?_|refine obr rfl ?_|refine ob (by decide) ?_|refine obr (by decide) ?_|refine brn_t (by kernel_rfl) ?_|refine brn_f (by kernel_rfl) ?_|fail)
  have hMany:(zm P (v+1+1+1) 64)≤64:=(Nat.le_of_lt (zab (by decide)))
  refine zcD (σ:=Nat×Mem×Option Addr×Nat) [64] (fun y=>[(64,.int .i64 y.1)]) (fun y=>[BE.live T.zG [SC.v (S.i 0),SC.v (S.i 0),SC.v (S.i 0),SC.v (S.i 0),SC.v S.sn],BE.live T.zG [SC.v (.int .i64 (1+((0:Nat):Int))),SC.v (.int .i64 ((zm P (v+1) nodes:Nat):Int)),SC.v (.int .i64 ((zm P (v+1+1) 256:Nat):Int)),SC.v (.int .i64 0),SC.v (.slice y.2.2.1 y.1 y.2.2.2)]]) (fun y=>y.2.1)
   (fun|⟨i,Mc,q,cq⟩=>i≤(zm P (v+1+1+1) 64)∧TkAt B Mc bt bp a n c P ((v+1+1+1+1)+i)∧Mem.keep (fun y=>y=bt) M Mc∧NewSl (M.minus fun y=>y=bt) T.zM 1 q i cq ((zau P (v+1+1+1+1) i).map zy) Mc) (fun y=>(zm P (v+1+1+1) 64) - y.1) ⟨0,M4,none,0⟩
   ⟨by omega,h4,hkM,(NewSl.none _ _ _).up (Mem.keep_minus.1 hkM)⟩ zS ?_
  rintro ⟨i,Mc,q,cq⟩ ⟨hi,hT,hkc,hNc⟩;(conv=>whnf);refine brn (fun g=>?_) (fun g=>?_)
  ·have g':i<(zm P (v+1+1+1) 64):=by have:=Zd0 g;dsimp only at this;omega
   refine zX ?_;refine⟨M.minus fun y=>y=bt,hNc.le,?_⟩;refine zR ?_;refine(zB hT (m:=256) (by decide) (by decide)).mono ?_;rintro u M5 ⟨rfl,h5,hk5⟩;have hN5:=NewSl.take hNc hT hk5
   refine zT (hN5.le) ?_;(conv=>whnf)
   refine appK _ _ hN5 (by first|omega|(dsimp only;omega)) (by unfold maxLen;dsimp only;omega) (by intro u hu;simp at hu;subst hu;rfl) (fun q6 c6 M6 h6 hk6=>?_);have hT6:=h5.app hBM hN5 h6 hk6
   have hkc6:Mem.keep (fun y=>y=bt) M M6:=Mem.keep_minus.2 h6.le;erw [show [Value.int IntKind.u8 (IntKind.u8.wrap ((zm P ((v+1+1+1+1)+i) 256:Nat):Int))]=[P.getD ((v+1+1+1+1)+i) 0].map zy from congrArg (fun v=>[v]) (zfn P ((v+1+1+1+1)+i))] at h6;rw[←List.map_append,←zbD] at h6;refine zT (h6.le) ?_;refine zR ?_;refine obr (zs (by first|omega|(dsimp only;omega))) ?_;(conv=>whnf)
   exact⟨⟨i+1,M6,q6,c6⟩,⟨by omega,hT6,hkc6,h6⟩,by dsimp only;omega,zS⟩
  ·have g':i=(zm P (v+1+1+1) 64):=by have:=Zd1 g;dsimp only at this;omega
   refine zR ?_;(conv=>whnf)
   subst g';refine⟨q,cq,?_,?_,hkc,?_⟩
   ·rw[hst];simp only[zai,zm4,zZ,Int.one_mul];rfl
   ·rw[hst];exact hT
   ·rw[hst];simp only[zai,zZ];exact hNc
 | 1,_=>
  repeat' ((conv=>whnf);first|refine brn_t rfl ?_|refine brn_f rfl ?_|refine ob rfl ?_|refine obr rfl ?_|refine ob (by decide) ?_|refine obr (by decide) ?_|refine brn_t (by kernel_rfl) ?_|refine brn_f (by kernel_rfl) ?_|fail)
  refine(zB h1 (m:=nodes) hN (by omega)).mono ?_;rintro u M2 ⟨rfl,h2,hk2⟩;have hkM:=(Mem.keep_trans hk1 hk2)
  repeat' ((conv=>whnf);first|refine brn_t rfl ?_|refine brn_f rfl ?_|refine ob rfl ?_|refine obr rfl ?_|refine ob (by decide) ?_|refine obr (by decide) ?_|refine brn_t (by kernel_rfl) ?_|refine brn_f (by kernel_rfl) ?_|fail)
  have hMany:0≤64:=(Nat.zero_le _)
  refine zcD (σ:=Nat×Mem×Option Addr×Nat) [64] (fun y=>[(64,.int .i64 y.1)]) (fun y=>[BE.live T.zG [SC.v (S.i 0),SC.v (S.i 0),SC.v (S.i 0),SC.v (S.i 0),SC.v S.sn],BE.live T.zG [SC.v (.int .i64 (1+((1:Nat):Int))),SC.v (.int .i64 ((zm P (v+1) nodes:Nat):Int)),SC.v (.int .i64 0),SC.v (.int .i64 0),SC.v (.slice y.2.2.1 y.1 y.2.2.2)]]) (fun y=>y.2.1)
   (fun|⟨i,Mc,q,cq⟩=>i≤0∧TkAt B Mc bt bp a n c P ((v+1+1)+i)∧Mem.keep (fun y=>y=bt) M Mc∧NewSl (M.minus fun y=>y=bt) T.zM 1 q i cq ((zau P (v+1+1) i).map zy) Mc) (fun y=>0 - y.1) ⟨0,M2,none,0⟩
   ⟨by omega,h2,hkM,(NewSl.none _ _ _).up (Mem.keep_minus.1 hkM)⟩ zS ?_
  rintro ⟨i,Mc,q,cq⟩ ⟨hi,hT,hkc,hNc⟩;(conv=>whnf);refine brn (fun g=>?_) (fun g=>?_)
  ·have g':i<0:=by have:=Zd0 g;dsimp only at this;omega
   refine zX ?_;refine⟨M.minus fun y=>y=bt,hNc.le,?_⟩;refine zR ?_;refine(zB hT (m:=256) (by decide) (by decide)).mono ?_;rintro u M5 ⟨rfl,h5,hk5⟩;have hN5:=NewSl.take hNc hT hk5
   refine zT (hN5.le) ?_;(conv=>whnf)
   refine appK _ _ hN5 (by first|omega|(dsimp only;omega)) (by unfold maxLen;dsimp only;omega) (by intro u hu;simp at hu;subst hu;rfl) (fun q6 c6 M6 h6 hk6=>?_);have hT6:=h5.app hBM hN5 h6 hk6
   have hkc6:Mem.keep (fun y=>y=bt) M M6:=Mem.keep_minus.2 h6.le;erw [show [Value.int IntKind.u8 (IntKind.u8.wrap ((zm P ((v+1+1)+i) 256:Nat):Int))]=[P.getD ((v+1+1)+i) 0].map zy from congrArg (fun v=>[v]) (zfn P ((v+1+1)+i))] at h6;rw[←List.map_append,←zbD] at h6;refine zT (h6.le) ?_;refine zR ?_;refine obr (zs (by first|omega|(dsimp only;omega))) ?_;(conv=>whnf)
   exact⟨⟨i+1,M6,q6,c6⟩,⟨by omega,hT6,hkc6,h6⟩,by dsimp only;omega,zS⟩
  ·have g':i=0:=by have:=Zd1 g;dsimp only at this;omega
   refine zR ?_;(conv=>whnf)
   subst g';refine⟨q,cq,?_,?_,hkc,?_⟩
   ·rw[hst];simp only[zai,zm4,zZ,Int.one_mul];rfl
   ·rw[hst];exact hT
   ·rw[hst];simp only[zai,zZ];exact hNc
 | 7,_=>
  repeat' ((conv=>whnf);first|refine brn_t rfl ?_|refine brn_f rfl ?_|refine ob rfl ?_|refine obr rfl ?_|refine ob (by decide) ?_|refine obr (by decide) ?_|refine brn_t (by kernel_rfl) ?_|refine brn_f (by kernel_rfl) ?_|fail)
  refine(zB h1 (m:=nodes) hN (by omega)).mono ?_;rintro u M2 ⟨rfl,h2,hk2⟩;have hkM:=(Mem.keep_trans hk1 hk2)
  repeat' ((conv=>whnf);first|refine brn_t rfl ?_|refine brn_f rfl ?_|refine ob rfl ?_|refine obr rfl ?_|refine ob (by decide) ?_|refine obr (by decide) ?_|refine brn_t (by kernel_rfl) ?_|refine brn_f (by kernel_rfl) ?_|fail)
  have hMany:0≤64:=(Nat.zero_le _)
  refine zcD (σ:=Nat×Mem×Option Addr×Nat) [64] (fun y=>[(64,.int .i64 y.1)]) (fun y=>[BE.live T.zG [SC.v (S.i 0),SC.v (S.i 0),SC.v (S.i 0),SC.v (S.i 0),SC.v S.sn],BE.live T.zG [SC.v (.int .i64 (1+((7:Nat):Int))),SC.v (.int .i64 ((zm P (v+1) nodes:Nat):Int)),SC.v (.int .i64 0),SC.v (.int .i64 0),SC.v (.slice y.2.2.1 y.1 y.2.2.2)]]) (fun y=>y.2.1)
   (fun|⟨i,Mc,q,cq⟩=>i≤0∧TkAt B Mc bt bp a n c P ((v+1+1)+i)∧Mem.keep (fun y=>y=bt) M Mc∧NewSl (M.minus fun y=>y=bt) T.zM 1 q i cq ((zau P (v+1+1) i).map zy) Mc) (fun y=>0 - y.1) ⟨0,M2,none,0⟩
   ⟨by omega,h2,hkM,(NewSl.none _ _ _).up (Mem.keep_minus.1 hkM)⟩ zS ?_
  rintro ⟨i,Mc,q,cq⟩ ⟨hi,hT,hkc,hNc⟩;(conv=>whnf);refine brn (fun g=>?_) (fun g=>?_)
  ·have g':i<0:=by have:=Zd0 g;dsimp only at this;omega
   refine zX ?_;refine⟨M.minus fun y=>y=bt,hNc.le,?_⟩;refine zR ?_;refine(zB hT (m:=256) (by decide) (by decide)).mono ?_;rintro u M5 ⟨rfl,h5,hk5⟩;have hN5:=NewSl.take hNc hT hk5
   refine zT (hN5.le) ?_;(conv=>whnf)
   refine appK _ _ hN5 (by first|omega|(dsimp only;omega)) (by unfold maxLen;dsimp only;omega) (by intro u hu;simp at hu;subst hu;rfl) (fun q6 c6 M6 h6 hk6=>?_);have hT6:=h5.app hBM hN5 h6 hk6
   have hkc6:Mem.keep (fun y=>y=bt) M M6:=Mem.keep_minus.2 h6.le;erw [show [Value.int IntKind.u8 (IntKind.u8.wrap ((zm P ((v+1+1)+i) 256:Nat):Int))]=[P.getD ((v+1+1)+i) 0].map zy from congrArg (fun v=>[v]) (zfn P ((v+1+1)+i))] at h6;rw[←List.map_append,←zbD] at h6;refine zT (h6.le) ?_;refine zR ?_;refine obr (zs (by first|omega|(dsimp only;omega))) ?_;(conv=>whnf)
   exact⟨⟨i+1,M6,q6,c6⟩,⟨by omega,hT6,hkc6,h6⟩,by dsimp only;omega,zS⟩
  ·have g':i=0:=by have:=Zd1 g;dsimp only at this;omega
   refine zR ?_;(conv=>whnf)
   subst g';refine⟨q,cq,?_,?_,hkc,?_⟩
   ·rw[hst];simp only[zai,zm4,zZ,Int.one_mul];rfl
   ·rw[hst];exact hT
   ·rw[hst];simp only[zai,zZ];exact hNc
 | 9,_=>
  repeat' ((conv=>whnf);first|refine brn_t rfl ?_|refine brn_f rfl ?_|refine ob rfl ?_|refine obr rfl ?_|refine ob (by decide) ?_|refine obr (by decide) ?_|refine brn_t (by kernel_rfl) ?_|refine brn_f (by kernel_rfl) ?_|fail)
  refine(zB h1 (m:=nodes) hN (by omega)).mono ?_;rintro u M2 ⟨rfl,h2,hk2⟩;have hkM:=(Mem.keep_trans hk1 hk2)
  repeat' ((conv=>whnf);first|refine brn_t rfl ?_|refine brn_f rfl ?_|refine ob rfl ?_|refine obr rfl ?_|refine ob (by decide) ?_|refine obr (by decide) ?_|refine brn_t (by kernel_rfl) ?_|refine brn_f (by kernel_rfl) ?_|fail)
  have hMany:0≤64:=(Nat.zero_le _)
  refine zcD (σ:=Nat×Mem×Option Addr×Nat) [64] (fun y=>[(64,.int .i64 y.1)]) (fun y=>[BE.live T.zG [SC.v (S.i 0),SC.v (S.i 0),SC.v (S.i 0),SC.v (S.i 0),SC.v S.sn],BE.live T.zG [SC.v (.int .i64 (1+((9:Nat):Int))),SC.v (.int .i64 ((zm P (v+1) nodes:Nat):Int)),SC.v (.int .i64 0),SC.v (.int .i64 0),SC.v (.slice y.2.2.1 y.1 y.2.2.2)]]) (fun y=>y.2.1)
   (fun|⟨i,Mc,q,cq⟩=>i≤0∧TkAt B Mc bt bp a n c P ((v+1+1)+i)∧Mem.keep (fun y=>y=bt) M Mc∧NewSl (M.minus fun y=>y=bt) T.zM 1 q i cq ((zau P (v+1+1) i).map zy) Mc) (fun y=>0 - y.1) ⟨0,M2,none,0⟩
   ⟨by omega,h2,hkM,(NewSl.none _ _ _).up (Mem.keep_minus.1 hkM)⟩ zS ?_
  rintro ⟨i,Mc,q,cq⟩ ⟨hi,hT,hkc,hNc⟩;(conv=>whnf);refine brn (fun g=>?_) (fun g=>?_)
  ·have g':i<0:=by have:=Zd0 g;dsimp only at this;omega
   refine zX ?_;refine⟨M.minus fun y=>y=bt,hNc.le,?_⟩;refine zR ?_;refine(zB hT (m:=256) (by decide) (by decide)).mono ?_;rintro u M5 ⟨rfl,h5,hk5⟩;have hN5:=NewSl.take hNc hT hk5
   refine zT (hN5.le) ?_;(conv=>whnf)
   refine appK _ _ hN5 (by first|omega|(dsimp only;omega)) (by unfold maxLen;dsimp only;omega) (by intro u hu;simp at hu;subst hu;rfl) (fun q6 c6 M6 h6 hk6=>?_);have hT6:=h5.app hBM hN5 h6 hk6
   have hkc6:Mem.keep (fun y=>y=bt) M M6:=Mem.keep_minus.2 h6.le;erw [show [Value.int IntKind.u8 (IntKind.u8.wrap ((zm P ((v+1+1)+i) 256:Nat):Int))]=[P.getD ((v+1+1)+i) 0].map zy from congrArg (fun v=>[v]) (zfn P ((v+1+1)+i))] at h6;rw[←List.map_append,←zbD] at h6;refine zT (h6.le) ?_;refine zR ?_;refine obr (zs (by first|omega|(dsimp only;omega))) ?_;(conv=>whnf)
   exact⟨⟨i+1,M6,q6,c6⟩,⟨by omega,hT6,hkc6,h6⟩,by dsimp only;omega,zS⟩
  ·have g':i=0:=by have:=Zd1 g;dsimp only at this;omega
   refine zR ?_;(conv=>whnf)
   subst g';refine⟨q,cq,?_,?_,hkc,?_⟩
   ·rw[hst];simp only[zai,zm4,zZ,Int.one_mul];rfl
   ·rw[hst];exact hT
   ·rw[hst];simp only[zai,zZ];exact hNc
 | 2,_=>
  repeat' ((conv=>whnf);first|refine brn_t rfl ?_|refine brn_f rfl ?_|refine ob rfl ?_|refine obr rfl ?_|refine ob (by decide) ?_|refine obr (by decide) ?_|refine brn_t (by kernel_rfl) ?_|refine brn_f (by kernel_rfl) ?_|fail)
  have hMany:0≤64:=(Nat.zero_le _)
  refine zcD (σ:=Nat×Mem×Option Addr×Nat) [64] (fun y=>[(64,.int .i64 y.1)]) (fun y=>[BE.live T.zG [SC.v (S.i 0),SC.v (S.i 0),SC.v (S.i 0),SC.v (S.i 0),SC.v S.sn],BE.live T.zG [SC.v (.int .i64 (1+((2:Nat):Int))),SC.v (.int .i64 0),SC.v (.int .i64 0),SC.v (.int .i64 0),SC.v (.slice y.2.2.1 y.1 y.2.2.2)]]) (fun y=>y.2.1)
   (fun|⟨i,Mc,q,cq⟩=>i≤0∧TkAt B Mc bt bp a n c P ((v+1)+i)∧Mem.keep (fun y=>y=bt) M Mc∧NewSl (M.minus fun y=>y=bt) T.zM 1 q i cq ((zau P (v+1) i).map zy) Mc) (fun y=>0 - y.1) ⟨0,M1,none,0⟩
   ⟨by omega,h1,hk1,(NewSl.none _ _ _).up (Mem.keep_minus.1 hk1)⟩ zS ?_
  rintro ⟨i,Mc,q,cq⟩ ⟨hi,hT,hkc,hNc⟩;(conv=>whnf);refine brn (fun g=>?_) (fun g=>?_)
  ·have g':i<0:=by have:=Zd0 g;dsimp only at this;omega
   refine zX ?_;refine⟨M.minus fun y=>y=bt,hNc.le,?_⟩;refine zR ?_;refine(zB hT (m:=256) (by decide) (by decide)).mono ?_;rintro u M5 ⟨rfl,h5,hk5⟩;have hN5:=NewSl.take hNc hT hk5
   refine zT (hN5.le) ?_;(conv=>whnf)
   refine appK _ _ hN5 (by first|omega|(dsimp only;omega)) (by unfold maxLen;dsimp only;omega) (by intro u hu;simp at hu;subst hu;rfl) (fun q6 c6 M6 h6 hk6=>?_);have hT6:=h5.app hBM hN5 h6 hk6
   have hkc6:Mem.keep (fun y=>y=bt) M M6:=Mem.keep_minus.2 h6.le;erw [show [Value.int IntKind.u8 (IntKind.u8.wrap ((zm P ((v+1)+i) 256:Nat):Int))]=[P.getD ((v+1)+i) 0].map zy from congrArg (fun v=>[v]) (zfn P ((v+1)+i))] at h6;rw[←List.map_append,←zbD] at h6;refine zT (h6.le) ?_;refine zR ?_;refine obr (zs (by first|omega|(dsimp only;omega))) ?_;(conv=>whnf)
   exact⟨⟨i+1,M6,q6,c6⟩,⟨by omega,hT6,hkc6,h6⟩,by dsimp only;omega,zS⟩
  ·have g':i=0:=by have:=Zd1 g;dsimp only at this;omega
   refine zR ?_;(conv=>whnf)
   subst g';refine⟨q,cq,?_,?_,hkc,?_⟩
   ·rw[hst];simp only[zai,zm4,zZ,Int.one_mul];rfl
   ·rw[hst];exact hT
   ·rw[hst];simp only[zai,zZ];exact hNc
 | 3,_=>
  repeat' ((conv=>whnf);first|refine brn_t rfl ?_|refine brn_f rfl ?_|refine ob rfl ?_|refine obr rfl ?_|refine ob (by decide) ?_|refine obr (by decide) ?_|refine brn_t (by kernel_rfl) ?_|refine brn_f (by kernel_rfl) ?_|fail)
  refine(zB h1 (m:=nodes) hN (by omega)).mono ?_;rintro u M2 ⟨rfl,h2,hk2⟩
  repeat' ((conv=>whnf);first|refine brn_t rfl ?_|refine brn_f rfl ?_|refine ob rfl ?_|refine obr rfl ?_|refine ob (by decide) ?_|refine obr (by decide) ?_|refine brn_t (by kernel_rfl) ?_|refine brn_f (by kernel_rfl) ?_|fail)
  refine(zB h2 (m:=nodes) hN (by omega)).mono ?_;rintro u M3 ⟨rfl,h3,hk3⟩
  repeat' ((conv=>whnf);first|refine brn_t rfl ?_|refine brn_f rfl ?_|refine ob rfl ?_|refine obr rfl ?_|refine ob (by decide) ?_|refine obr (by decide) ?_|refine brn_t (by kernel_rfl) ?_|refine brn_f (by kernel_rfl) ?_|fail)
  refine(zm3 3 (by decide)).mono ?_;rintro u _ ⟨rfl,rfl⟩
  repeat' ((conv=>whnf);first|refine brn_t rfl ?_|refine brn_f rfl ?_|refine ob rfl ?_|refine obr rfl ?_|refine ob (by decide) ?_|refine obr (by decide) ?_|refine brn_t (by kernel_rfl) ?_|refine brn_f (by kernel_rfl) ?_|fail)
  refine(zB h3 (m:=256) (by decide) (by decide)).mono ?_;rintro u M4 ⟨rfl,h4,hk4⟩;have hb:=zab (P:=P) (v:=v+1+1+1) (m:=256) (by decide)
  repeat' ((conv=>whnf);first|refine brn_t rfl ?_|refine brn_f rfl ?_|refine ob rfl ?_|refine obr rfl ?_|refine ob (by decide) ?_|refine obr (by decide) ?_|refine brn_t (by kernel_rfl) ?_|refine brn_f (by kernel_rfl) ?_|fail)
  refine obr (zs (by first|omega|(simp;omega))) ?_;have hkM:=(Mem.keep_trans hk1 (Mem.keep_trans hk2 (Mem.keep_trans hk3 hk4)))
  repeat' ((conv=>whnf);first|refine brn_t rfl ?_|refine brn_f rfl ?_|refine ob rfl ?_|refine obr rfl ?_|refine ob (by decide) ?_|refine obr (by decide) ?_|refine brn_t (by kernel_rfl) ?_|refine brn_f (by kernel_rfl) ?_|fail)
  have hMany:0≤64:=(Nat.zero_le _)
  refine zcD (σ:=Nat×Mem×Option Addr×Nat) [64] (fun y=>[(64,.int .i64 y.1)]) (fun y=>[BE.live T.zG [SC.v (S.i 0),SC.v (S.i 0),SC.v (S.i 0),SC.v (S.i 0),SC.v S.sn],BE.live T.zG [SC.v (.int .i64 (1+((3:Nat):Int))),SC.v (.int .i64 ((zm P (v+1) nodes:Nat):Int)),SC.v (.int .i64 ((zm P (v+1+1) nodes:Nat):Int)),SC.v (.int .i64 (1*((zm P (v+1+1+1) 256:Nat):Int))),SC.v (.slice y.2.2.1 y.1 y.2.2.2)]]) (fun y=>y.2.1)
   (fun|⟨i,Mc,q,cq⟩=>i≤0∧TkAt B Mc bt bp a n c P ((v+1+1+1+1)+i)∧Mem.keep (fun y=>y=bt) M Mc∧NewSl (M.minus fun y=>y=bt) T.zM 1 q i cq ((zau P (v+1+1+1+1) i).map zy) Mc) (fun y=>0 - y.1) ⟨0,M4,none,0⟩
   ⟨by omega,h4,hkM,(NewSl.none _ _ _).up (Mem.keep_minus.1 hkM)⟩ zS ?_
  rintro ⟨i,Mc,q,cq⟩ ⟨hi,hT,hkc,hNc⟩;(conv=>whnf);refine brn (fun g=>?_) (fun g=>?_)
  ·have g':i<0:=by have:=Zd0 g;dsimp only at this;omega
   refine zX ?_;refine⟨M.minus fun y=>y=bt,hNc.le,?_⟩;refine zR ?_;refine(zB hT (m:=256) (by decide) (by decide)).mono ?_;rintro u M5 ⟨rfl,h5,hk5⟩;have hN5:=NewSl.take hNc hT hk5
   refine zT (hN5.le) ?_;(conv=>whnf)
   refine appK _ _ hN5 (by first|omega|(dsimp only;omega)) (by unfold maxLen;dsimp only;omega) (by intro u hu;simp at hu;subst hu;rfl) (fun q6 c6 M6 h6 hk6=>?_);have hT6:=h5.app hBM hN5 h6 hk6
   have hkc6:Mem.keep (fun y=>y=bt) M M6:=Mem.keep_minus.2 h6.le;erw [show [Value.int IntKind.u8 (IntKind.u8.wrap ((zm P ((v+1+1+1+1)+i) 256:Nat):Int))]=[P.getD ((v+1+1+1+1)+i) 0].map zy from congrArg (fun v=>[v]) (zfn P ((v+1+1+1+1)+i))] at h6;rw[←List.map_append,←zbD] at h6;refine zT (h6.le) ?_;refine zR ?_;refine obr (zs (by first|omega|(dsimp only;omega))) ?_;(conv=>whnf)
   exact⟨⟨i+1,M6,q6,c6⟩,⟨by omega,hT6,hkc6,h6⟩,by dsimp only;omega,zS⟩
  ·have g':i=0:=by have:=Zd1 g;dsimp only at this;omega
   refine zR ?_;(conv=>whnf)
   subst g';refine⟨q,cq,?_,?_,hkc,?_⟩
   ·rw[hst];simp only[zai,zm4,zZ,Int.one_mul];rfl
   ·rw[hst];exact hT
   ·rw[hst];simp only[zai,zZ];exact hNc
 | 4,_=>
  repeat' ((conv=>whnf);first|refine brn_t rfl ?_|refine brn_f rfl ?_|refine ob rfl ?_|refine obr rfl ?_|refine ob (by decide) ?_|refine obr (by decide) ?_|refine brn_t (by kernel_rfl) ?_|refine brn_f (by kernel_rfl) ?_|fail)
  refine(zB h1 (m:=nodes) hN (by omega)).mono ?_;rintro u M2 ⟨rfl,h2,hk2⟩
  repeat' ((conv=>whnf);first|refine brn_t rfl ?_|refine brn_f rfl ?_|refine ob rfl ?_|refine obr rfl ?_|refine ob (by decide) ?_|refine obr (by decide) ?_|refine brn_t (by kernel_rfl) ?_|refine brn_f (by kernel_rfl) ?_|fail)
  refine(zB h2 (m:=nodes) hN (by omega)).mono ?_;rintro u M3 ⟨rfl,h3,hk3⟩
  repeat' ((conv=>whnf);first|refine brn_t rfl ?_|refine brn_f rfl ?_|refine ob rfl ?_|refine obr rfl ?_|refine ob (by decide) ?_|refine obr (by decide) ?_|refine brn_t (by kernel_rfl) ?_|refine brn_f (by kernel_rfl) ?_|fail)
  refine(zm3 4 (by decide)).mono ?_;rintro u _ ⟨rfl,rfl⟩
  repeat' ((conv=>whnf);first|refine brn_t rfl ?_|refine brn_f rfl ?_|refine ob rfl ?_|refine obr rfl ?_|refine ob (by decide) ?_|refine obr (by decide) ?_|refine brn_t (by kernel_rfl) ?_|refine brn_f (by kernel_rfl) ?_|fail)
  refine(zB h3 (m:=256) (by decide) (by decide)).mono ?_;rintro u M4 ⟨rfl,h4,hk4⟩;have hb:=zab (P:=P) (v:=v+1+1+1) (m:=256) (by decide)
  repeat' ((conv=>whnf);first|refine brn_t rfl ?_|refine brn_f rfl ?_|refine ob rfl ?_|refine obr rfl ?_|refine ob (by decide) ?_|refine obr (by decide) ?_|refine brn_t (by kernel_rfl) ?_|refine brn_f (by kernel_rfl) ?_|fail)
  refine obr (zs (by first|omega|(simp;omega))) ?_;have hkM:=(Mem.keep_trans hk1 (Mem.keep_trans hk2 (Mem.keep_trans hk3 hk4)))
  repeat' ((conv=>whnf);first|refine brn_t rfl ?_|refine brn_f rfl ?_|refine ob rfl ?_|refine obr rfl ?_|refine ob (by decide) ?_|refine obr (by decide) ?_|refine brn_t (by kernel_rfl) ?_|refine brn_f (by kernel_rfl) ?_|fail)
  have hMany:1≤64:=(by decide)
  refine zcD (σ:=Nat×Mem×Option Addr×Nat) [64] (fun y=>[(64,.int .i64 y.1)]) (fun y=>[BE.live T.zG [SC.v (S.i 0),SC.v (S.i 0),SC.v (S.i 0),SC.v (S.i 0),SC.v S.sn],BE.live T.zG [SC.v (.int .i64 (1+((4:Nat):Int))),SC.v (.int .i64 ((zm P (v+1) nodes:Nat):Int)),SC.v (.int .i64 ((zm P (v+1+1) nodes:Nat):Int)),SC.v (.int .i64 (1*((zm P (v+1+1+1) 256:Nat):Int))),SC.v (.slice y.2.2.1 y.1 y.2.2.2)]]) (fun y=>y.2.1)
   (fun|⟨i,Mc,q,cq⟩=>i≤1∧TkAt B Mc bt bp a n c P ((v+1+1+1+1)+i)∧Mem.keep (fun y=>y=bt) M Mc∧NewSl (M.minus fun y=>y=bt) T.zM 1 q i cq ((zau P (v+1+1+1+1) i).map zy) Mc) (fun y=>1 - y.1) ⟨0,M4,none,0⟩
   ⟨by omega,h4,hkM,(NewSl.none _ _ _).up (Mem.keep_minus.1 hkM)⟩ zS ?_
  rintro ⟨i,Mc,q,cq⟩ ⟨hi,hT,hkc,hNc⟩;(conv=>whnf);refine brn (fun g=>?_) (fun g=>?_)
  ·have g':i<1:=by have:=Zd0 g;dsimp only at this;omega
   refine zX ?_;refine⟨M.minus fun y=>y=bt,hNc.le,?_⟩;refine zR ?_;refine(zB hT (m:=256) (by decide) (by decide)).mono ?_;rintro u M5 ⟨rfl,h5,hk5⟩;have hN5:=NewSl.take hNc hT hk5
   refine zT (hN5.le) ?_;(conv=>whnf)
   refine appK _ _ hN5 (by first|omega|(dsimp only;omega)) (by unfold maxLen;dsimp only;omega) (by intro u hu;simp at hu;subst hu;rfl) (fun q6 c6 M6 h6 hk6=>?_);have hT6:=h5.app hBM hN5 h6 hk6
   have hkc6:Mem.keep (fun y=>y=bt) M M6:=Mem.keep_minus.2 h6.le;erw [show [Value.int IntKind.u8 (IntKind.u8.wrap ((zm P ((v+1+1+1+1)+i) 256:Nat):Int))]=[P.getD ((v+1+1+1+1)+i) 0].map zy from congrArg (fun v=>[v]) (zfn P ((v+1+1+1+1)+i))] at h6;rw[←List.map_append,←zbD] at h6;refine zT (h6.le) ?_;refine zR ?_;refine obr (zs (by first|omega|(dsimp only;omega))) ?_;(conv=>whnf)
   exact⟨⟨i+1,M6,q6,c6⟩,⟨by omega,hT6,hkc6,h6⟩,by dsimp only;omega,zS⟩
  ·have g':i=1:=by have:=Zd1 g;dsimp only at this;omega
   refine zR ?_;(conv=>whnf)
   subst g';refine⟨q,cq,?_,?_,hkc,?_⟩
   ·rw[hst];simp only[zai,zm4,zZ,Int.one_mul];rfl
   ·rw[hst];exact hT
   ·rw[hst];simp only[zai,zZ];exact hNc
 | 5,_=>
  repeat' ((conv=>whnf);first|refine brn_t rfl ?_|refine brn_f rfl ?_|refine ob rfl ?_|refine obr rfl ?_|refine ob (by decide) ?_|refine obr (by decide) ?_|refine brn_t (by kernel_rfl) ?_|refine brn_f (by kernel_rfl) ?_|fail)
  refine(zB h1 (m:=nodes) hN (by omega)).mono ?_;rintro u M2 ⟨rfl,h2,hk2⟩
  repeat' ((conv=>whnf);first|refine brn_t rfl ?_|refine brn_f rfl ?_|refine ob rfl ?_|refine obr rfl ?_|refine ob (by decide) ?_|refine obr (by decide) ?_|refine brn_t (by kernel_rfl) ?_|refine brn_f (by kernel_rfl) ?_|fail)
  refine(zB h2 (m:=nodes) hN (by omega)).mono ?_;rintro u M3 ⟨rfl,h3,hk3⟩
  repeat' ((conv=>whnf);first|refine brn_t rfl ?_|refine brn_f rfl ?_|refine ob rfl ?_|refine obr rfl ?_|refine ob (by decide) ?_|refine obr (by decide) ?_|refine brn_t (by kernel_rfl) ?_|refine brn_f (by kernel_rfl) ?_|fail)
  refine(zm3 5 (by decide)).mono ?_;rintro u _ ⟨rfl,rfl⟩
  repeat' ((conv=>whnf);first|refine brn_t rfl ?_|refine brn_f rfl ?_|refine ob rfl ?_|refine obr rfl ?_|refine ob (by decide) ?_|refine obr (by decide) ?_|refine brn_t (by kernel_rfl) ?_|refine brn_f (by kernel_rfl) ?_|fail)
  refine(zB h3 (m:=256) (by decide) (by decide)).mono ?_;rintro u M4 ⟨rfl,h4,hk4⟩;have hb:=zab (P:=P) (v:=v+1+1+1) (m:=256) (by decide)
  repeat' ((conv=>whnf);first|refine brn_t rfl ?_|refine brn_f rfl ?_|refine ob rfl ?_|refine obr rfl ?_|refine ob (by decide) ?_|refine obr (by decide) ?_|refine brn_t (by kernel_rfl) ?_|refine brn_f (by kernel_rfl) ?_|fail)
  refine obr (zs (by first|omega|(simp;omega))) ?_;have hkM:=(Mem.keep_trans hk1 (Mem.keep_trans hk2 (Mem.keep_trans hk3 hk4)))
  repeat' ((conv=>whnf);first|refine brn_t rfl ?_|refine brn_f rfl ?_|refine ob rfl ?_|refine obr rfl ?_|refine ob (by decide) ?_|refine obr (by decide) ?_|refine brn_t (by kernel_rfl) ?_|refine brn_f (by kernel_rfl) ?_|fail)
  have hMany:1≤64:=(by decide)
  refine zcD (σ:=Nat×Mem×Option Addr×Nat) [64] (fun y=>[(64,.int .i64 y.1)]) (fun y=>[BE.live T.zG [SC.v (S.i 0),SC.v (S.i 0),SC.v (S.i 0),SC.v (S.i 0),SC.v S.sn],BE.live T.zG [SC.v (.int .i64 (1+((5:Nat):Int))),SC.v (.int .i64 ((zm P (v+1) nodes:Nat):Int)),SC.v (.int .i64 ((zm P (v+1+1) nodes:Nat):Int)),SC.v (.int .i64 (1*((zm P (v+1+1+1) 256:Nat):Int))),SC.v (.slice y.2.2.1 y.1 y.2.2.2)]]) (fun y=>y.2.1)
   (fun|⟨i,Mc,q,cq⟩=>i≤1∧TkAt B Mc bt bp a n c P ((v+1+1+1+1)+i)∧Mem.keep (fun y=>y=bt) M Mc∧NewSl (M.minus fun y=>y=bt) T.zM 1 q i cq ((zau P (v+1+1+1+1) i).map zy) Mc) (fun y=>1 - y.1) ⟨0,M4,none,0⟩
   ⟨by omega,h4,hkM,(NewSl.none _ _ _).up (Mem.keep_minus.1 hkM)⟩ zS ?_
  rintro ⟨i,Mc,q,cq⟩ ⟨hi,hT,hkc,hNc⟩;(conv=>whnf);refine brn (fun g=>?_) (fun g=>?_)
  ·have g':i<1:=by have:=Zd0 g;dsimp only at this;omega
   refine zX ?_;refine⟨M.minus fun y=>y=bt,hNc.le,?_⟩;refine zR ?_;refine(zB hT (m:=256) (by decide) (by decide)).mono ?_;rintro u M5 ⟨rfl,h5,hk5⟩;have hN5:=NewSl.take hNc hT hk5
   refine zT (hN5.le) ?_;(conv=>whnf)
   refine appK _ _ hN5 (by first|omega|(dsimp only;omega)) (by unfold maxLen;dsimp only;omega) (by intro u hu;simp at hu;subst hu;rfl) (fun q6 c6 M6 h6 hk6=>?_);have hT6:=h5.app hBM hN5 h6 hk6
   have hkc6:Mem.keep (fun y=>y=bt) M M6:=Mem.keep_minus.2 h6.le;erw [show [Value.int IntKind.u8 (IntKind.u8.wrap ((zm P ((v+1+1+1+1)+i) 256:Nat):Int))]=[P.getD ((v+1+1+1+1)+i) 0].map zy from congrArg (fun v=>[v]) (zfn P ((v+1+1+1+1)+i))] at h6;rw[←List.map_append,←zbD] at h6;refine zT (h6.le) ?_;refine zR ?_;refine obr (zs (by first|omega|(dsimp only;omega))) ?_;(conv=>whnf)
   exact⟨⟨i+1,M6,q6,c6⟩,⟨by omega,hT6,hkc6,h6⟩,by dsimp only;omega,zS⟩
  ·have g':i=1:=by have:=Zd1 g;dsimp only at this;omega
   refine zR ?_;(conv=>whnf)
   subst g';refine⟨q,cq,?_,?_,hkc,?_⟩
   ·rw[hst];simp only[zai,zm4,zZ,Int.one_mul];rfl
   ·rw[hst];exact hT
   ·rw[hst];simp only[zai,zZ];exact hNc
 | 6,_=>
  repeat' ((conv=>whnf);first|refine brn_t rfl ?_|refine brn_f rfl ?_|refine ob rfl ?_|refine obr rfl ?_|refine ob (by decide) ?_|refine obr (by decide) ?_|refine brn_t (by kernel_rfl) ?_|refine brn_f (by kernel_rfl) ?_|fail)
  refine(zB h1 (m:=nodes) hN (by omega)).mono ?_;rintro u M2 ⟨rfl,h2,hk2⟩
  repeat' ((conv=>whnf);first|refine brn_t rfl ?_|refine brn_f rfl ?_|refine ob rfl ?_|refine obr rfl ?_|refine ob (by decide) ?_|refine obr (by decide) ?_|refine brn_t (by kernel_rfl) ?_|refine brn_f (by kernel_rfl) ?_|fail)
  refine(zEq 6 (by decide)).mono ?_;rintro u _ ⟨rfl,rfl⟩
  repeat' ((conv=>whnf);first|refine brn_t rfl ?_|refine brn_f rfl ?_|refine ob rfl ?_|refine obr rfl ?_|refine ob (by decide) ?_|refine obr (by decide) ?_|refine brn_t (by kernel_rfl) ?_|refine brn_f (by kernel_rfl) ?_|fail)
  refine(zB h2 (m:=8) (by decide) (by decide)).mono ?_;rintro u M3 ⟨rfl,h3,hk3⟩;have hkM:=(Mem.keep_trans hk1 (Mem.keep_trans hk2 hk3))
  repeat' ((conv=>whnf);first|refine brn_t rfl ?_|refine brn_f rfl ?_|refine ob rfl ?_|refine obr rfl ?_|refine ob (by decide) ?_|refine obr (by decide) ?_|refine brn_t (by kernel_rfl) ?_|refine brn_f (by kernel_rfl) ?_|fail)
  have hMany:(zm P (v+1+1) 8)≤64:=(Nat.le_trans (Nat.le_of_lt (zab (by decide))) (by decide))
  refine zcD (σ:=Nat×Mem×Option Addr×Nat) [64] (fun y=>[(64,.int .i64 y.1)]) (fun y=>[BE.live T.zG [SC.v (S.i 0),SC.v (S.i 0),SC.v (S.i 0),SC.v (S.i 0),SC.v S.sn],BE.live T.zG [SC.v (.int .i64 (1+((6:Nat):Int))),SC.v (.int .i64 ((zm P (v+1) nodes:Nat):Int)),SC.v (.int .i64 0),SC.v (.int .i64 0),SC.v (.slice y.2.2.1 y.1 y.2.2.2)]]) (fun y=>y.2.1)
   (fun|⟨i,Mc,q,cq⟩=>i≤(zm P (v+1+1) 8)∧TkAt B Mc bt bp a n c P ((v+1+1+1)+i)∧Mem.keep (fun y=>y=bt) M Mc∧NewSl (M.minus fun y=>y=bt) T.zM 1 q i cq ((zau P (v+1+1+1) i).map zy) Mc) (fun y=>(zm P (v+1+1) 8) - y.1) ⟨0,M3,none,0⟩
   ⟨by omega,h3,hkM,(NewSl.none _ _ _).up (Mem.keep_minus.1 hkM)⟩ zS ?_
  rintro ⟨i,Mc,q,cq⟩ ⟨hi,hT,hkc,hNc⟩;(conv=>whnf);refine brn (fun g=>?_) (fun g=>?_)
  ·have g':i<(zm P (v+1+1) 8):=by have:=Zd0 g;dsimp only at this;omega
   refine zX ?_;refine⟨M.minus fun y=>y=bt,hNc.le,?_⟩;refine zR ?_;refine(zB hT (m:=256) (by decide) (by decide)).mono ?_;rintro u M5 ⟨rfl,h5,hk5⟩;have hN5:=NewSl.take hNc hT hk5
   refine zT (hN5.le) ?_;(conv=>whnf)
   refine appK _ _ hN5 (by first|omega|(dsimp only;omega)) (by unfold maxLen;dsimp only;omega) (by intro u hu;simp at hu;subst hu;rfl) (fun q6 c6 M6 h6 hk6=>?_);have hT6:=h5.app hBM hN5 h6 hk6
   have hkc6:Mem.keep (fun y=>y=bt) M M6:=Mem.keep_minus.2 h6.le;erw [show [Value.int IntKind.u8 (IntKind.u8.wrap ((zm P ((v+1+1+1)+i) 256:Nat):Int))]=[P.getD ((v+1+1+1)+i) 0].map zy from congrArg (fun v=>[v]) (zfn P ((v+1+1+1)+i))] at h6;rw[←List.map_append,←zbD] at h6;refine zT (h6.le) ?_;refine zR ?_;refine obr (zs (by first|omega|(dsimp only;omega))) ?_;(conv=>whnf)
   exact⟨⟨i+1,M6,q6,c6⟩,⟨by omega,hT6,hkc6,h6⟩,by dsimp only;omega,zS⟩
  ·have g':i=(zm P (v+1+1) 8):=by have:=Zd1 g;dsimp only at this;omega
   refine zR ?_;(conv=>whnf)
   subst g';refine⟨q,cq,?_,?_,hkc,?_⟩
   ·rw[hst];simp only[zai,zm4,zZ,Int.one_mul];rfl
   ·rw[hst];exact hT
   ·rw[hst];simp only[zai,zZ];exact hNc
 | 8,_=>
  repeat' ((conv=>whnf);first|refine brn_t rfl ?_|refine brn_f rfl ?_|refine ob rfl ?_|refine obr rfl ?_|refine ob (by decide) ?_|refine obr (by decide) ?_|refine brn_t (by kernel_rfl) ?_|refine brn_f (by kernel_rfl) ?_|fail)
  refine(zB h1 (m:=nodes) hN (by omega)).mono ?_;rintro u M2 ⟨rfl,h2,hk2⟩
  repeat' ((conv=>whnf);first|refine brn_t rfl ?_|refine brn_f rfl ?_|refine ob rfl ?_|refine obr rfl ?_|refine ob (by decide) ?_|refine obr (by decide) ?_|refine brn_t (by kernel_rfl) ?_|refine brn_f (by kernel_rfl) ?_|fail)
  refine(zm3 8 (by decide)).mono ?_;rintro u _ ⟨rfl,rfl⟩
  repeat' ((conv=>whnf);first|refine brn_t rfl ?_|refine brn_f rfl ?_|refine ob rfl ?_|refine obr rfl ?_|refine ob (by decide) ?_|refine obr (by decide) ?_|refine brn_t (by kernel_rfl) ?_|refine brn_f (by kernel_rfl) ?_|fail)
  refine(zB h2 (m:=256) (by decide) (by decide)).mono ?_;rintro u M3 ⟨rfl,h3,hk3⟩;have hb:=zab (P:=P) (v:=v+1+1) (m:=256) (by decide)
  repeat' ((conv=>whnf);first|refine brn_t rfl ?_|refine brn_f rfl ?_|refine ob rfl ?_|refine obr rfl ?_|refine ob (by decide) ?_|refine obr (by decide) ?_|refine brn_t (by kernel_rfl) ?_|refine brn_f (by kernel_rfl) ?_|fail)
  refine obr (zs (by first|omega|(simp;omega))) ?_;have hkM:=(Mem.keep_trans hk1 (Mem.keep_trans hk2 hk3))
  repeat' ((conv=>whnf);first|refine brn_t rfl ?_|refine brn_f rfl ?_|refine ob rfl ?_|refine obr rfl ?_|refine ob (by decide) ?_|refine obr (by decide) ?_|refine brn_t (by kernel_rfl) ?_|refine brn_f (by kernel_rfl) ?_|fail)
  have hMany:0≤64:=(Nat.zero_le _)
  refine zcD (σ:=Nat×Mem×Option Addr×Nat) [64] (fun y=>[(64,.int .i64 y.1)]) (fun y=>[BE.live T.zG [SC.v (S.i 0),SC.v (S.i 0),SC.v (S.i 0),SC.v (S.i 0),SC.v S.sn],BE.live T.zG [SC.v (.int .i64 (1+((8:Nat):Int))),SC.v (.int .i64 ((zm P (v+1) nodes:Nat):Int)),SC.v (.int .i64 0),SC.v (.int .i64 (256*((zm P (v+1+1) 256:Nat):Int))),SC.v (.slice y.2.2.1 y.1 y.2.2.2)]]) (fun y=>y.2.1)
   (fun|⟨i,Mc,q,cq⟩=>i≤0∧TkAt B Mc bt bp a n c P ((v+1+1+1)+i)∧Mem.keep (fun y=>y=bt) M Mc∧NewSl (M.minus fun y=>y=bt) T.zM 1 q i cq ((zau P (v+1+1+1) i).map zy) Mc) (fun y=>0 - y.1) ⟨0,M3,none,0⟩
   ⟨by omega,h3,hkM,(NewSl.none _ _ _).up (Mem.keep_minus.1 hkM)⟩ zS ?_
  rintro ⟨i,Mc,q,cq⟩ ⟨hi,hT,hkc,hNc⟩;(conv=>whnf);refine brn (fun g=>?_) (fun g=>?_)
  ·have g':i<0:=by have:=Zd0 g;dsimp only at this;omega
   refine zX ?_;refine⟨M.minus fun y=>y=bt,hNc.le,?_⟩;refine zR ?_;refine(zB hT (m:=256) (by decide) (by decide)).mono ?_;rintro u M5 ⟨rfl,h5,hk5⟩;have hN5:=NewSl.take hNc hT hk5
   refine zT (hN5.le) ?_;(conv=>whnf)
   refine appK _ _ hN5 (by first|omega|(dsimp only;omega)) (by unfold maxLen;dsimp only;omega) (by intro u hu;simp at hu;subst hu;rfl) (fun q6 c6 M6 h6 hk6=>?_);have hT6:=h5.app hBM hN5 h6 hk6
   have hkc6:Mem.keep (fun y=>y=bt) M M6:=Mem.keep_minus.2 h6.le;erw [show [Value.int IntKind.u8 (IntKind.u8.wrap ((zm P ((v+1+1+1)+i) 256:Nat):Int))]=[P.getD ((v+1+1+1)+i) 0].map zy from congrArg (fun v=>[v]) (zfn P ((v+1+1+1)+i))] at h6;rw[←List.map_append,←zbD] at h6;refine zT (h6.le) ?_;refine zR ?_;refine obr (zs (by first|omega|(dsimp only;omega))) ?_;(conv=>whnf)
   exact⟨⟨i+1,M6,q6,c6⟩,⟨by omega,hT6,hkc6,h6⟩,by dsimp only;omega,zS⟩
  ·have g':i=0:=by have:=Zd1 g;dsimp only at this;omega
   refine zR ?_;(conv=>whnf)
   subst g';refine⟨q,cq,?_,?_,hkc,?_⟩
   ·rw[hst];simp only[zai,zm4,zZ,Int.one_mul];rfl
   ·rw[hst];exact hT
   ·rw[hst];simp only[zai,zZ];exact hNc
 | 10,_=>
  repeat' ((conv=>whnf);first|refine brn_t rfl ?_|refine brn_f rfl ?_|refine ob rfl ?_|refine obr rfl ?_|refine ob (by decide) ?_|refine obr (by decide) ?_|refine brn_t (by kernel_rfl) ?_|refine brn_f (by kernel_rfl) ?_|fail)
  refine(zB h1 (m:=nodes) hN (by omega)).mono ?_;rintro u M2 ⟨rfl,h2,hk2⟩
  repeat' ((conv=>whnf);first|refine brn_t rfl ?_|refine brn_f rfl ?_|refine ob rfl ?_|refine obr rfl ?_|refine ob (by decide) ?_|refine obr (by decide) ?_|refine brn_t (by kernel_rfl) ?_|refine brn_f (by kernel_rfl) ?_|fail)
  refine(zm3 10 (by decide)).mono ?_;rintro u _ ⟨rfl,rfl⟩
  repeat' ((conv=>whnf);first|refine brn_t rfl ?_|refine brn_f rfl ?_|refine ob rfl ?_|refine obr rfl ?_|refine ob (by decide) ?_|refine obr (by decide) ?_|refine brn_t (by kernel_rfl) ?_|refine brn_f (by kernel_rfl) ?_|fail)
  refine(zB h2 (m:=64) (by decide) (by decide)).mono ?_;rintro u M3 ⟨rfl,h3,hk3⟩;have hb:=zab (P:=P) (v:=v+1+1) (m:=64) (by decide)
  repeat' ((conv=>whnf);first|refine brn_t rfl ?_|refine brn_f rfl ?_|refine ob rfl ?_|refine obr rfl ?_|refine ob (by decide) ?_|refine obr (by decide) ?_|refine brn_t (by kernel_rfl) ?_|refine brn_f (by kernel_rfl) ?_|fail)
  refine obr (zs (by first|omega|(simp;omega))) ?_;have hkM:=(Mem.keep_trans hk1 (Mem.keep_trans hk2 hk3))
  repeat' ((conv=>whnf);first|refine brn_t rfl ?_|refine brn_f rfl ?_|refine ob rfl ?_|refine obr rfl ?_|refine ob (by decide) ?_|refine obr (by decide) ?_|refine brn_t (by kernel_rfl) ?_|refine brn_f (by kernel_rfl) ?_|fail)
  have hMany:0≤64:=(Nat.zero_le _)
  refine zcD (σ:=Nat×Mem×Option Addr×Nat) [64] (fun y=>[(64,.int .i64 y.1)]) (fun y=>[BE.live T.zG [SC.v (S.i 0),SC.v (S.i 0),SC.v (S.i 0),SC.v (S.i 0),SC.v S.sn],BE.live T.zG [SC.v (.int .i64 (1+((10:Nat):Int))),SC.v (.int .i64 ((zm P (v+1) nodes:Nat):Int)),SC.v (.int .i64 0),SC.v (.int .i64 (1*((zm P (v+1+1) 64:Nat):Int))),SC.v (.slice y.2.2.1 y.1 y.2.2.2)]]) (fun y=>y.2.1)
   (fun|⟨i,Mc,q,cq⟩=>i≤0∧TkAt B Mc bt bp a n c P ((v+1+1+1)+i)∧Mem.keep (fun y=>y=bt) M Mc∧NewSl (M.minus fun y=>y=bt) T.zM 1 q i cq ((zau P (v+1+1+1) i).map zy) Mc) (fun y=>0 - y.1) ⟨0,M3,none,0⟩
   ⟨by omega,h3,hkM,(NewSl.none _ _ _).up (Mem.keep_minus.1 hkM)⟩ zS ?_
  rintro ⟨i,Mc,q,cq⟩ ⟨hi,hT,hkc,hNc⟩;(conv=>whnf);refine brn (fun g=>?_) (fun g=>?_)
  ·have g':i<0:=by have:=Zd0 g;dsimp only at this;omega
   refine zX ?_;refine⟨M.minus fun y=>y=bt,hNc.le,?_⟩;refine zR ?_;refine(zB hT (m:=256) (by decide) (by decide)).mono ?_;rintro u M5 ⟨rfl,h5,hk5⟩;have hN5:=NewSl.take hNc hT hk5
   refine zT (hN5.le) ?_;(conv=>whnf)
   refine appK _ _ hN5 (by first|omega|(dsimp only;omega)) (by unfold maxLen;dsimp only;omega) (by intro u hu;simp at hu;subst hu;rfl) (fun q6 c6 M6 h6 hk6=>?_);have hT6:=h5.app hBM hN5 h6 hk6
   have hkc6:Mem.keep (fun y=>y=bt) M M6:=Mem.keep_minus.2 h6.le;erw [show [Value.int IntKind.u8 (IntKind.u8.wrap ((zm P ((v+1+1+1)+i) 256:Nat):Int))]=[P.getD ((v+1+1+1)+i) 0].map zy from congrArg (fun v=>[v]) (zfn P ((v+1+1+1)+i))] at h6;rw[←List.map_append,←zbD] at h6;refine zT (h6.le) ?_;refine zR ?_;refine obr (zs (by first|omega|(dsimp only;omega))) ?_;(conv=>whnf)
   exact⟨⟨i+1,M6,q6,c6⟩,⟨by omega,hT6,hkc6,h6⟩,by dsimp only;omega,zS⟩
  ·have g':i=0:=by have:=Zd1 g;dsimp only at this;omega
   refine zR ?_;(conv=>whnf)
   subst g';refine⟨q,cq,?_,?_,hkc,?_⟩
   ·rw[hst];simp only[zai,zm4,zZ,Int.one_mul];rfl
   ·rw[hst];exact hT
   ·rw[hst];simp only[zai,zZ];exact hNc
 | 11,_=>
  repeat' ((conv=>whnf);first|refine brn_t rfl ?_|refine brn_f rfl ?_|refine ob rfl ?_|refine obr rfl ?_|refine ob (by decide) ?_|refine obr (by decide) ?_|refine brn_t (by kernel_rfl) ?_|refine brn_f (by kernel_rfl) ?_|fail)
  refine(zm3 11 (by decide)).mono ?_;rintro u _ ⟨rfl,rfl⟩
  repeat' ((conv=>whnf);first|refine brn_t rfl ?_|refine brn_f rfl ?_|refine ob rfl ?_|refine obr rfl ?_|refine ob (by decide) ?_|refine obr (by decide) ?_|refine brn_t (by kernel_rfl) ?_|refine brn_f (by kernel_rfl) ?_|fail)
  refine(zB h1 (m:=256) (by decide) (by decide)).mono ?_;rintro u M2 ⟨rfl,h2,hk2⟩;have hb:=zab (P:=P) (v:=v+1) (m:=256) (by decide)
  repeat' ((conv=>whnf);first|refine brn_t rfl ?_|refine brn_f rfl ?_|refine ob rfl ?_|refine obr rfl ?_|refine ob (by decide) ?_|refine obr (by decide) ?_|refine brn_t (by kernel_rfl) ?_|refine brn_f (by kernel_rfl) ?_|fail)
  refine obr (zs (by first|omega|(simp;omega))) ?_;have hkM:=(Mem.keep_trans hk1 hk2)
  repeat' ((conv=>whnf);first|refine brn_t rfl ?_|refine brn_f rfl ?_|refine ob rfl ?_|refine obr rfl ?_|refine ob (by decide) ?_|refine obr (by decide) ?_|refine brn_t (by kernel_rfl) ?_|refine brn_f (by kernel_rfl) ?_|fail)
  have hMany:0≤64:=(Nat.zero_le _)
  refine zcD (σ:=Nat×Mem×Option Addr×Nat) [64] (fun y=>[(64,.int .i64 y.1)]) (fun y=>[BE.live T.zG [SC.v (S.i 0),SC.v (S.i 0),SC.v (S.i 0),SC.v (S.i 0),SC.v S.sn],BE.live T.zG [SC.v (.int .i64 (1+((11:Nat):Int))),SC.v (.int .i64 0),SC.v (.int .i64 0),SC.v (.int .i64 (1*((zm P (v+1) 256:Nat):Int))),SC.v (.slice y.2.2.1 y.1 y.2.2.2)]]) (fun y=>y.2.1)
   (fun|⟨i,Mc,q,cq⟩=>i≤0∧TkAt B Mc bt bp a n c P ((v+1+1)+i)∧Mem.keep (fun y=>y=bt) M Mc∧NewSl (M.minus fun y=>y=bt) T.zM 1 q i cq ((zau P (v+1+1) i).map zy) Mc) (fun y=>0 - y.1) ⟨0,M2,none,0⟩
   ⟨by omega,h2,hkM,(NewSl.none _ _ _).up (Mem.keep_minus.1 hkM)⟩ zS ?_
  rintro ⟨i,Mc,q,cq⟩ ⟨hi,hT,hkc,hNc⟩;(conv=>whnf);refine brn (fun g=>?_) (fun g=>?_)
  ·have g':i<0:=by have:=Zd0 g;dsimp only at this;omega
   refine zX ?_;refine⟨M.minus fun y=>y=bt,hNc.le,?_⟩;refine zR ?_;refine(zB hT (m:=256) (by decide) (by decide)).mono ?_;rintro u M5 ⟨rfl,h5,hk5⟩;have hN5:=NewSl.take hNc hT hk5
   refine zT (hN5.le) ?_;(conv=>whnf)
   refine appK _ _ hN5 (by first|omega|(dsimp only;omega)) (by unfold maxLen;dsimp only;omega) (by intro u hu;simp at hu;subst hu;rfl) (fun q6 c6 M6 h6 hk6=>?_);have hT6:=h5.app hBM hN5 h6 hk6
   have hkc6:Mem.keep (fun y=>y=bt) M M6:=Mem.keep_minus.2 h6.le;erw [show [Value.int IntKind.u8 (IntKind.u8.wrap ((zm P ((v+1+1)+i) 256:Nat):Int))]=[P.getD ((v+1+1)+i) 0].map zy from congrArg (fun v=>[v]) (zfn P ((v+1+1)+i))] at h6;rw[←List.map_append,←zbD] at h6;refine zT (h6.le) ?_;refine zR ?_;refine obr (zs (by first|omega|(dsimp only;omega))) ?_;(conv=>whnf)
   exact⟨⟨i+1,M6,q6,c6⟩,⟨by omega,hT6,hkc6,h6⟩,by dsimp only;omega,zS⟩
  ·have g':i=0:=by have:=Zd1 g;dsimp only at this;omega
   refine zR ?_;(conv=>whnf)
   subst g';refine⟨q,cq,?_,?_,hkc,?_⟩
   ·rw[hst];simp only[zai,zm4,zZ,Int.one_mul];rfl
   ·rw[hst];exact hT
   ·rw[hst];simp only[zai,zZ];exact hNc
 | r+12,h12=>omega
end
section
variable {M B:Mem}
def lk1 (oth:List (Nat×Nat)) (a b:Nat):List (Nat×Nat):=if b=a+1∨(a,b)∈oth then [(a,b)] else []
def zb0 (oth:List (Nat×Nat)) (a k:Nat):List (Nat×Nat):=(List.range k).flatMap fun j=>lk1 oth a (a+1+j)
def zcR (n:Nat) (oth:List (Nat×Nat)):List (Nat×Nat):=(List.range n).flatMap fun a=>zb0 oth a (n - (a+1))
def zcr (n:Nat) (oth:List (Nat×Nat)) (a:Nat):List (Nat×Nat):=(List.range a).flatMap fun a=>zb0 oth a (n - (a+1))
theorem zog (n:Nat) (oth:List (Nat×Nat)) (a:Nat):zcr n oth (a+1)=zcr n oth a++zb0 oth a (n - (a+1)):=by unfold zcr;rw[List.range_succ,List.flatMap_append];simp
theorem zf2 (oth:List (Nat×Nat)) (a k:Nat):zb0 oth a (k+1)=zb0 oth a k++lk1 oth a (a+1+k):=by unfold zb0;rw[List.range_succ,List.flatMap_append];simp
theorem zRZ (oth:List (Nat×Nat)) (a b:Nat):(lk1 oth a b).length≤1:=by unfold lk1;split<;>simp
theorem zxa (oth:List (Nat×Nat)) (a:Nat):∀ k,(zb0 oth a k).length≤k
 | 0=>by simp[zb0]
 | k+1=>by have:=zxa oth a k;have:=zRZ oth a (a+1+k);rw[zf2,List.length_append];omega
theorem zxb (n:Nat) (oth:List (Nat×Nat)):∀ a,(zcr n oth a).length≤a*n
 | 0=>by simp[zcr]
 | a+1=>by have:=zxb n oth a;have:=zxa oth a (n - (a+1));rw[zog,List.length_append,Nat.succ_mul];omega
@[reducible] def zoh (p:Nat×Nat):List Value:=[.int .i64 (p.1:Nat),.int .i64 (p.2:Nat)]
@[reducible] def kvL (p:Nat×Nat):Value := .agg #[.int .i64 (p.1:Nat),.int .i64 (p.2:Nat)]
@[reducible] def vvB (b:Bool):Value := .bool b
theorem zEr:zBS kvL:=by
 intro a b;obtain⟨a1,a2⟩:=a;obtain⟨b1,b2⟩:=b;simp only[kvL,zkz,zbl,if_true,Prod.mk.injEq]
 (repeat' split)<;>simp<;>omega
def OthAt (M:Mem) (mb:Nat) (oth:List (Nat×Nat)):Prop:=∃ m:List ((Nat×Nat)×Bool),MapAt kvL vvB M mb m∧∀ p,zaO m p=if p∈oth then some true else none
theorem zHV {mb:Nat} {oth:List (Nat×Nat)} (hO:OthAt M mb oth) {n:Nat} (hn:n≤64) :
  CallsM Tryz.prog F.zb1 [.int .i64 n,.map (some mb)] M fun v M'=>∃ q c,v = .slice q (zcR n oth).length c∧NewSl M T.zci 2 q (zcR n oth).length c ((zcR n oth).flatMap zoh) M':=by
 obtain⟨m,hM,hm⟩:=hO;refine zBJ (by simp) ?_;(conv=>whnf)
 refine zcD (σ:=Nat×Mem×Option Addr×Nat×Nat) [9,5] (fun y=>[(9,.int .i64 y.1),(5,.slice y.2.2.1 y.2.2.2.1 y.2.2.2.2)]) (fun _=>[]) (fun y=>y.2.1)
  (fun|⟨a,Mc,q,k,cq⟩=>a≤n∧k=(zcr n oth a).length∧NewSl M T.zci 2 q k cq ((zcr n oth a).flatMap zoh) Mc) (fun y=>n - y.1) ⟨0,M,none,0,0⟩ ⟨by omega,rfl,NewSl.none M _ _⟩ zS ?_
 rintro ⟨a,Mc,q,k,cq⟩ ⟨ha,hk,hN⟩;(conv=>whnf);refine brn (fun g=>?_) (fun g=>?_)
 ·have g':a<n:=by have:=Zd0 g;dsimp only at this;omega
  refine zR ?_;refine obr (zs (by first|omega|(dsimp only;omega))) ?_;(conv=>whnf)
  refine zcD (σ:=Nat×Mem×Option Addr×Nat×Nat) [7,5] (fun y=>[(7,.int .i64 ((a+1+y.1:Nat):Int)),(5,.slice y.2.2.1 y.2.2.2.1 y.2.2.2.2)]) (fun _=>[]) (fun y=>y.2.1)
   (fun|⟨j,Md,q,k,cq⟩=>a+1+j≤n∧k=(zcr n oth a++zb0 oth a j).length∧NewSl M T.zci 2 q k cq ((zcr n oth a++zb0 oth a j).flatMap zoh) Md) (fun y=>n - (a+1+y.1)) ⟨0,Mc,q,k,cq⟩ ⟨by omega,by simp[zb0,hk],by simpa[zb0] using hN⟩ zS ?_
  rintro ⟨j,Md,q,k,cq⟩ ⟨hj,hk,hN⟩;have hpl:=zxb n oth a
  have hrl:=zxa oth a j;have hnn:a*n≤64*64:=Nat.mul_le_mul (by omega) hn
  rw[List.length_append] at hk;(conv=>whnf);refine brn (fun e=>?_) (fun e=>?_)
  ·have e':a+1+j<n:=by have:=Zd0 e;dsimp only at this;omega
   (conv=>whnf);refine obr (zs (by first|omega|(dsimp only;omega))) ?_;(conv=>whnf);refine brn (fun f=>?_) (fun f=>?_)
   ·have f':j=0:=by have:=Zd0 f;dsimp only at this;omega
    have hyes:a+1+j=a+1∨(a,a+1+j)∈oth := .inl (by omega);have e1:lk1 oth a (a+1+j)=[(a,a+1+j)]:=by unfold lk1;rw[if_pos hyes]
    have e2:(zcr n oth a++zb0 oth a (j+1))=(zcr n oth a++zb0 oth a j)++[(a,a+1+j)]:=by rw[zf2,e1,List.append_assoc]
    refine zR ?_;refine zN2 M hN (a,a+1+j) rfl (by dsimp only;omega) (by dsimp only;simp[maxLen];omega) (by intro u hu;simp at hu;rcases hu with rfl|rfl<;>rfl) fun q6 c6 M6 h6 hk6=>?_
    refine zR ?_;refine obr (zs (by first|omega|(dsimp only;omega))) ?_;(conv=>whnf)
    refine⟨⟨j+1,M6,q6,k+1,c6⟩,⟨by omega,by rw[e2,List.length_append];simp[hk],by rw[e2];exact h6⟩,by dsimp only;omega,?_⟩;rw[show ((a+1+(j+1):Nat):Int)=((a+1+j:Nat):Int)+1 by omega];exact zS
   ·have f':j≠0:=by have:=Zd1 f;dsimp only at this;omega
    have hMd:=hM.mono (fun o ho=>hN.le _ _ ho);(conv=>whnf)
    refine hMd.get zEr (a,a+1+j) (fun hg=>?_) (fun x i hg=>?_)
    ·have hno:¬(a+1+j=a+1∨(a,a+1+j)∈oth):=by
      rintro (h|h)
      ·omega
      ·rw[hm,if_pos h] at hg;cases hg
     have e2:(zcr n oth a++zb0 oth a (j+1))=(zcr n oth a++zb0 oth a j):=by rw[zf2];unfold lk1;rw[if_neg hno,List.append_nil]
     refine zR ?_;refine obr (zs (by first|omega|(dsimp only;omega))) ?_;(conv=>whnf)
     refine⟨⟨j+1,Md,q,k,cq⟩,⟨by omega,by rw[e2,List.length_append];exact hk,by rw[e2];exact hN⟩,by dsimp only;omega,?_⟩;rw[show ((a+1+(j+1):Nat):Int)=((a+1+j:Nat):Int)+1 by omega];exact zS
    ·have hyes:a+1+j=a+1∨(a,a+1+j)∈oth:=by
      rw[hm] at hg;split at hg
      ·right;assumption
      ·cases hg
     have hx:x=true:=by rw[hm,if_pos (hyes.resolve_left (by omega))] at hg;cases hg;rfl
     subst hx;have e1:lk1 oth a (a+1+j)=[(a,a+1+j)]:=by unfold lk1;rw[if_pos hyes]
     have e2:(zcr n oth a++zb0 oth a (j+1))=(zcr n oth a++zb0 oth a j)++[(a,a+1+j)]:=by rw[zf2,e1,List.append_assoc]
     refine zR ?_;refine zN2 M hN (a,a+1+j) rfl (by dsimp only;omega) (by dsimp only;simp[maxLen];omega) (by intro u hu;simp at hu;rcases hu with rfl|rfl<;>rfl) fun q6 c6 M6 h6 hk6=>?_
     refine zR ?_;refine obr (zs (by first|omega|(dsimp only;omega))) ?_;(conv=>whnf)
     refine⟨⟨j+1,M6,q6,k+1,c6⟩,⟨by omega,by rw[e2,List.length_append];simp[hk],by rw[e2];exact h6⟩,by dsimp only;omega,?_⟩;rw[show ((a+1+(j+1):Nat):Int)=((a+1+j:Nat):Int)+1 by omega];exact zS
  ·have e':a+1+j=n:=by have:=Zd1 e;dsimp only at this;omega
   have e2:zcr n oth (a+1)=zcr n oth a++zb0 oth a j:=by rw[zog,show n - (a+1)=j by omega]
   refine zR ?_;refine obr (zs (by first|omega|(dsimp only;omega))) ?_;(conv=>whnf)
   exact⟨⟨a+1,Md,q,k,cq⟩,⟨by omega,by rw[e2,List.length_append];exact hk,by rw[e2];exact hN⟩,by dsimp only;omega,zS⟩
 ·have g':a=n:=by have:=Zd1 g;dsimp only at this;omega
  subst g';refine zR ?_;(conv=>whnf)
  subst hk;exact⟨q,cq,rfl,hN⟩
end
end Go.Proofs.YtpnhjkiligohnaaGreatDoor
