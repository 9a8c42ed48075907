/- Part of this proof;laid by program. -/
import Derived.Test.YtpnhjkiligohnaaGreatDoorJ32
import Derived.Test.YtpnhjkiligohnaaGreatDoorJ9
set_option linter.unusedVariables false
set_option linter.unusedSimpArgs false
namespace Go.Proofs.YtpnhjkiligohnaaGreatDoor
open Go Go.Vm
attribute [local irreducible] Brn Ob Grow CallsM inR zay zav Mem.row Mem.cells Mem.setCells Mem.upd Go.Vm.Own zaU zbF zbE zaV New SrcOk zah NewSl Mem.textAt Mem.mapAt Mem.iterAt zak kfind Wr NewEls Elems
set_option maxRecDepth 10000
section
variable {M B:Mem}
def zLW:Nat→Int
 | 0=>41
 | 2=>0
 | 3=>38
 | 4=>54
 | 5=>54
 | 6=>40
 | 8=>36
 | 10=>36
 | 11=>4
 | _=>32
theorem zHn:∀ (r:Nat),r<12→CallsM Tryz.prog F.zcm [.int .i64 (1+(r:Nat))] M fun v M'=>v = .int .i64 (zLW r)∧M=M'
 | 0,_|1,_|2,_|3,_|4,_|5,_|6,_|7,_|8,_|9,_|10,_|11,_=>by
  refine zvP (by simp) ?_;refine zR ?_;exact⟨rfl,rfl⟩
 | _+12,h=>by omega
theorem zlU:∀ (r:Nat),r<12→CallsM Tryz.prog F.zcH [.int .i64 (1+(r:Nat))] M fun v M'=>v = .tuple #[.int .i64 (if r=8 then 256 else 1),.int .i64 (if r=10 then 64 else 256)]∧M=M'
 | 0,_|1,_|2,_|3,_|4,_|5,_|6,_|7,_|8,_|9,_|10,_|11,_=>by
  refine zxx (by simp) ?_;refine zR ?_;exact⟨rfl,rfl⟩
 | _+12,h=>by omega
theorem zDq:∀ (r:Nat),r<12→CallsM Tryz.prog F.zds [.int .i64 (1+(r:Nat))] M fun v M'=>v = .int .i64 (if r=6 then 8 else 64)∧M=M'
 | 0,_|1,_|2,_|3,_|4,_|5,_|6,_|7,_|8,_|9,_|10,_|11,_=>by
  refine zyA (by simp) ?_;refine zR ?_;exact⟨rfl,rfl⟩
 | _+12,h=>by omega
@[reducible] def zjZ (x:ztx) (q:Option Addr) (c:Nat):List Value:=[.int .i64 (x.kind:Nat),.int .i64 (x.node:Nat),.int .i64 (x.to:Nat),.int .i64 (x.n:Nat),.slice q x.data.length c]
theorem zbe (P:List UInt8) (v k:Nat):zbp P v (k+1)=zbp P v k++[P.getD (v+k) 0]:=by unfold zbp;rw[List.range_succ,List.map_append];rfl
theorem zV (P:List UInt8) (v k:Nat):(zbp P v k).length=k:=by simp[zbp]
theorem zdx (P:List UInt8) (v:Nat):Value.int .u8 (IntKind.u8.wrap ((zp P v 256:Nat):Int))=z7 (P.getD v 0):=by
 unfold zp;generalize P.getD v 0=x;have h:=UInt8.toNat_lt x
 rw[Nat.mod_eq_of_lt (by omega),show IntKind.u8.wrap ((x.toNat:Nat):Int)=((x.toNat:Nat):Int) by simp[IntKind.wrap,IntKind.signed,IntKind.bits];omega];rfl
theorem TkAt.app {bt bp:Nat} {a:Option Addr} {n c:Nat} {P:List UInt8} {v:Nat} {M2 M3:Mem} (h:TkAt B M2 bt bp a n c P v) {q q':Option Addr} {k k' cq cq':Nat} {L L':List Value} (hBM:B.le (M.minus fun y=>y=bt))
  (hN:NewSl (M.minus fun y=>y=bt) T.zY 1 q k cq L M2) (hN':NewSl (M.minus fun y=>y=bt) T.zY 1 q' k' cq' L' M3) (hk:Mem.keep (blk q) M2 M3):TkAt B M3 bt bp a n c P v:=by
 obtain⟨h1,h2,h3,h4,h5,h6⟩:=h;refine⟨Mem.le_trans hBM hN'.le,h2,hk _ _ (fun ⟨r,hr,e⟩=>?_) h3,h4,h5,h6⟩;obtain⟨_,cs,hc⟩:=hN.block hr;rw[e] at hc;exact absurd (hc.inj h3).1 (by decide)
theorem NewSl.take {bt bp:Nat} {a:Option Addr} {n c:Nat} {P:List UInt8} {v:Nat} {M2 M3:Mem} {q:Option Addr} {k cq:Nat} {L:List Value} (hN:NewSl (M.minus fun y=>y=bt) T.zY 1 q k cq L M2) (h:TkAt B M2 bt bp a n c P v) (hk:Mem.keep (fun y=>y=bt) M2 M3) :
  NewSl (M.minus fun y=>y=bt) T.zY 1 q k cq L M3:=hN.keep hk (fun _ e=>Mem.minus_in e) fun r hr e=>by
 obtain⟨_,cs,hc⟩:=hN.block hr;rw[e] at hc;exact absurd (hc.inj h.2.2.1).1 (by decide)
set_option maxRecDepth 100000 in
theorem zLX {bt bp:Nat} {a:Option Addr} {n c:Nat} {P:List UInt8} {v:Nat} (h:TkAt B M bt bp a n c P v) {nodes:Nat} (hN:0<nodes) (hN2:nodes≤64) :
  CallsM Tryz.prog F.zdr [zOp bt bp,.int .i64 nodes] M fun u M'=>∃ q cq,u = .agg (zjZ (zcF P nodes v).1 q cq).toArray∧TkAt B M' bt bp a n c P (zcF P nodes v).2∧Mem.keep (fun y=>y=bt) M M' ∧
   NewSl (M.minus fun y=>y=bt) T.zY 1 q (zcF P nodes v).1.data.length cq ((zcF P nodes v).1.data.map z7) M':=by
 have hBM:B.le (M.minus fun y=>y=bt):=Mem.le_minus h.1 (fun _ e=>e▸h.2.1);refine zyu (by simp) ?_;refine zR ?_;refine(zw h (m:=12) (by decide) (by decide)).mono ?_;rintro u M1 ⟨rfl,h1,hk1⟩;have hr:=zbq (P:=P) (v:=v) (m:=12) (by decide)
 (conv=>whnf);refine obr (zm (by first|omega|(dsimp only;omega))) ?_;obtain⟨r,hr0⟩:∃ r,r=zp P v 12:=⟨_,rfl⟩
 rw[←hr0] at hr ⊢;have hst:zcF P nodes v=zbl P nodes v r:=by unfold zcF;rw[hr0]
 refine zR ?_;refine(zHn r hr).mono ?_;rintro u _ ⟨rfl,rfl⟩
 match r,hr with
 | 0,_=>
  repeat' ((conv=>whnf);first|refine brn_t rfl ?_|refine brn_f rfl ?_|refine ob rfl ?_|refine obr rfl ?_|refine ob (by decide) ?_|refine obr (by decide) ?_|refine brn_t (by kernel_rfl) ?_|refine brn_f (by kernel_rfl) ?_|fail)
  refine(zw h1 (m:=nodes) hN (by omega)).mono ?_;rintro u M2 ⟨rfl,h2,hk2⟩
  repeat' ((conv=>whnf);first|refine brn_t rfl ?_|refine brn_f rfl ?_|refine ob rfl ?_|refine obr rfl ?_|refine ob (by decide) ?_|refine obr (by decide) ?_|refine brn_t (by kernel_rfl) ?_|refine brn_f (by kernel_rfl) ?_|fail)
  refine(zw h2 (m:=256) (by decide) (by decide)).mono ?_;rintro u M3 ⟨rfl,h3,hk3⟩
  repeat' ((conv=>whnf);first|refine brn_t rfl ?_|refine brn_f rfl ?_|refine ob rfl ?_|refine obr rfl ?_|refine ob (by decide) ?_|refine obr (by decide) ?_|refine brn_t (by kernel_rfl) ?_|refine brn_f (by kernel_rfl) ?_|fail)
  refine(zDq 0 (by decide)).mono ?_;rintro u _ ⟨rfl,rfl⟩
  repeat' ((conv=>whnf);first|refine brn_t rfl ?_|refine brn_f rfl ?_|refine ob rfl ?_|refine obr rfl ?_|refine ob (by decide) ?_|refine obr (by decide) ?_|refine brn_t (by kernel_rfl) ?_|refine brn_f (by kernel_rfl) ?_|fail)
  refine(zw h3 (m:=64) (by decide) (by decide)).mono ?_;rintro u M4 ⟨rfl,h4,hk4⟩;have hkM:=Mem.keep_trans hk1 (Mem.keep_trans hk2 (Mem.keep_trans hk3 hk4))
  repeat' ((conv=>whnf);first|refine brn_t rfl ?_|refine brn_f rfl ?_|refine ob rfl ?_|refine obr rfl ?_|refine ob (by decide) ?_|refine obr (by decide) ?_|refine brn_t (by kernel_rfl) ?_|refine brn_f (by kernel_rfl) ?_|fail)
  have hMany:(zp P (v+1+1+1) 64)≤64:=(Nat.le_of_lt (zbq (by decide)))
  refine zaL (σ:=Nat×Mem×Option Addr×Nat) [64] (fun y=>[(64,.int .i64 y.1)]) (fun y=>[BE.live T.zD [SC.v (S.i 0),SC.v (S.i 0),SC.v (S.i 0),SC.v (S.i 0),SC.v S.sn],BE.live T.zD [SC.v (.int .i64 (1+((0:Nat):Int))),SC.v (.int .i64 ((zp P (v+1) nodes:Nat):Int)),SC.v (.int .i64 ((zp P (v+1+1) 256:Nat):Int)),SC.v (.int .i64 0),SC.v (.slice y.2.2.1 y.1 y.2.2.2)]]) (fun y=>y.2.1)
   (fun|⟨i,Mc,q,cq⟩=>i≤(zp P (v+1+1+1) 64)∧TkAt B Mc bt bp a n c P ((v+1+1+1+1)+i)∧Mem.keep (fun y=>y=bt) M Mc∧NewSl (M.minus fun y=>y=bt) T.zY 1 q i cq ((zbp P (v+1+1+1+1) i).map z7) Mc) (fun y=>(zp P (v+1+1+1) 64) - y.1) ⟨0,M4,none,0⟩
   ⟨by omega,h4,hkM,(NewSl.none _ _ _).up (Mem.keep_minus.1 hkM)⟩ zS ?_
  rintro ⟨i,Mc,q,cq⟩ ⟨hi,hT,hkc,hNc⟩;(conv=>whnf);refine brn (fun g=>?_) (fun g=>?_)
  ·have g':i<(zp P (v+1+1+1) 64):=by have:=Zd0 g;dsimp only at this;omega
   refine zX ?_;refine⟨M.minus fun y=>y=bt,hNc.le,?_⟩;refine zR ?_;refine(zw hT (m:=256) (by decide) (by decide)).mono ?_;rintro u M5 ⟨rfl,h5,hk5⟩;have hN5:=NewSl.take hNc hT hk5
   refine zT (hN5.le) ?_;(conv=>whnf)
   refine appK _ _ hN5 (by first|omega|(dsimp only;omega)) (by unfold maxLen;dsimp only;omega) (by intro u hu;simp at hu;subst hu;rfl) (fun q6 c6 M6 h6 hk6=>?_);have hT6:=h5.app hBM hN5 h6 hk6
   have hkc6:Mem.keep (fun y=>y=bt) M M6:=Mem.keep_minus.2 h6.le;erw [show [Value.int IntKind.u8 (IntKind.u8.wrap ((zp P ((v+1+1+1+1)+i) 256:Nat):Int))]=[P.getD ((v+1+1+1+1)+i) 0].map z7 from congrArg (fun v=>[v]) (zdx P ((v+1+1+1+1)+i))] at h6;rw[←List.map_append,←zbe] at h6;refine zT (h6.le) ?_;refine zR ?_;refine obr (zm (by first|omega|(dsimp only;omega))) ?_;(conv=>whnf)
   exact⟨⟨i+1,M6,q6,c6⟩,⟨by omega,hT6,hkc6,h6⟩,by dsimp only;omega,zS⟩
  ·have g':i=(zp P (v+1+1+1) 64):=by have:=Zd1 g;dsimp only at this;omega
   refine zR ?_;(conv=>whnf)
   subst g';refine⟨q,cq,?_,?_,hkc,?_⟩
   ·rw[hst];simp only[zbl,zjZ,zV,Int.one_mul];rfl
   ·rw[hst];exact hT
   ·rw[hst];simp only[zbl,zV];exact hNc
 | 1,_=>
  repeat' ((conv=>whnf);first|refine brn_t rfl ?_|refine brn_f rfl ?_|refine ob rfl ?_|refine obr rfl ?_|refine ob (by decide) ?_|refine obr (by decide) ?_|refine brn_t (by kernel_rfl) ?_|refine brn_f (by kernel_rfl) ?_|fail)
  refine(zw h1 (m:=nodes) hN (by omega)).mono ?_;rintro u M2 ⟨rfl,h2,hk2⟩;have hkM:=(Mem.keep_trans hk1 hk2)
  repeat' ((conv=>whnf);first|refine brn_t rfl ?_|refine brn_f rfl ?_|refine ob rfl ?_|refine obr rfl ?_|refine ob (by decide) ?_|refine obr (by decide) ?_|refine brn_t (by kernel_rfl) ?_|refine brn_f (by kernel_rfl) ?_|fail)
  have hMany:0≤64:=(Nat.zero_le _)
  refine zaL (σ:=Nat×Mem×Option Addr×Nat) [64] (fun y=>[(64,.int .i64 y.1)]) (fun y=>[BE.live T.zD [SC.v (S.i 0),SC.v (S.i 0),SC.v (S.i 0),SC.v (S.i 0),SC.v S.sn],BE.live T.zD [SC.v (.int .i64 (1+((1:Nat):Int))),SC.v (.int .i64 ((zp P (v+1) nodes:Nat):Int)),SC.v (.int .i64 0),SC.v (.int .i64 0),SC.v (.slice y.2.2.1 y.1 y.2.2.2)]]) (fun y=>y.2.1)
   (fun|⟨i,Mc,q,cq⟩=>i≤0∧TkAt B Mc bt bp a n c P ((v+1+1)+i)∧Mem.keep (fun y=>y=bt) M Mc∧NewSl (M.minus fun y=>y=bt) T.zY 1 q i cq ((zbp P (v+1+1) i).map z7) Mc) (fun y=>0 - y.1) ⟨0,M2,none,0⟩
   ⟨by omega,h2,hkM,(NewSl.none _ _ _).up (Mem.keep_minus.1 hkM)⟩ zS ?_
  rintro ⟨i,Mc,q,cq⟩ ⟨hi,hT,hkc,hNc⟩;(conv=>whnf);refine brn (fun g=>?_) (fun g=>?_)
  ·have g':i<0:=by have:=Zd0 g;dsimp only at this;omega
   refine zX ?_;refine⟨M.minus fun y=>y=bt,hNc.le,?_⟩;refine zR ?_;refine(zw hT (m:=256) (by decide) (by decide)).mono ?_;rintro u M5 ⟨rfl,h5,hk5⟩;have hN5:=NewSl.take hNc hT hk5
   refine zT (hN5.le) ?_;(conv=>whnf)
   refine appK _ _ hN5 (by first|omega|(dsimp only;omega)) (by unfold maxLen;dsimp only;omega) (by intro u hu;simp at hu;subst hu;rfl) (fun q6 c6 M6 h6 hk6=>?_);have hT6:=h5.app hBM hN5 h6 hk6
   have hkc6:Mem.keep (fun y=>y=bt) M M6:=Mem.keep_minus.2 h6.le;erw [show [Value.int IntKind.u8 (IntKind.u8.wrap ((zp P ((v+1+1)+i) 256:Nat):Int))]=[P.getD ((v+1+1)+i) 0].map z7 from congrArg (fun v=>[v]) (zdx P ((v+1+1)+i))] at h6;rw[←List.map_append,←zbe] at h6;refine zT (h6.le) ?_;refine zR ?_;refine obr (zm (by first|omega|(dsimp only;omega))) ?_;(conv=>whnf)
   exact⟨⟨i+1,M6,q6,c6⟩,⟨by omega,hT6,hkc6,h6⟩,by dsimp only;omega,zS⟩
  ·have g':i=0:=by have:=Zd1 g;dsimp only at this;omega
   refine zR ?_;(conv=>whnf)
   subst g';refine⟨q,cq,?_,?_,hkc,?_⟩
   ·rw[hst];simp only[zbl,zjZ,zV,Int.one_mul];rfl
   ·rw[hst];exact hT
   ·rw[hst];simp only[zbl,zV];exact hNc
 | 7,_=>
  repeat' ((conv=>whnf);first|refine brn_t rfl ?_|refine brn_f rfl ?_|refine ob rfl ?_|refine obr rfl ?_|refine ob (by decide) ?_|refine obr (by decide) ?_|refine brn_t (by kernel_rfl) ?_|refine brn_f (by kernel_rfl) ?_|fail)
  refine(zw h1 (m:=nodes) hN (by omega)).mono ?_;rintro u M2 ⟨rfl,h2,hk2⟩;have hkM:=(Mem.keep_trans hk1 hk2)
  repeat' ((conv=>whnf);first|refine brn_t rfl ?_|refine brn_f rfl ?_|refine ob rfl ?_|refine obr rfl ?_|refine ob (by decide) ?_|refine obr (by decide) ?_|refine brn_t (by kernel_rfl) ?_|refine brn_f (by kernel_rfl) ?_|fail)
  have hMany:0≤64:=(Nat.zero_le _)
  refine zaL (σ:=Nat×Mem×Option Addr×Nat) [64] (fun y=>[(64,.int .i64 y.1)]) (fun y=>[BE.live T.zD [SC.v (S.i 0),SC.v (S.i 0),SC.v (S.i 0),SC.v (S.i 0),SC.v S.sn],BE.live T.zD [SC.v (.int .i64 (1+((7:Nat):Int))),SC.v (.int .i64 ((zp P (v+1) nodes:Nat):Int)),SC.v (.int .i64 0),SC.v (.int .i64 0),SC.v (.slice y.2.2.1 y.1 y.2.2.2)]]) (fun y=>y.2.1)
   (fun|⟨i,Mc,q,cq⟩=>i≤0∧TkAt B Mc bt bp a n c P ((v+1+1)+i)∧Mem.keep (fun y=>y=bt) M Mc∧NewSl (M.minus fun y=>y=bt) T.zY 1 q i cq ((zbp P (v+1+1) i).map z7) Mc) (fun y=>0 - y.1) ⟨0,M2,none,0⟩
   ⟨by omega,h2,hkM,(NewSl.none _ _ _).up (Mem.keep_minus.1 hkM)⟩ zS ?_
  rintro ⟨i,Mc,q,cq⟩ ⟨hi,hT,hkc,hNc⟩;(conv=>whnf);refine brn (fun g=>?_) (fun g=>?_)
  ·have g':i<0:=by have:=Zd0 g;dsimp only at this;omega
   refine zX ?_;refine⟨M.minus fun y=>y=bt,hNc.le,?_⟩;refine zR ?_;refine(zw hT (m:=256) (by decide) (by decide)).mono ?_;rintro u M5 ⟨rfl,h5,hk5⟩;have hN5:=NewSl.take hNc hT hk5
   refine zT (hN5.le) ?_;(conv=>whnf)
   refine appK _ _ hN5 (by first|omega|(dsimp only;omega)) (by unfold maxLen;dsimp only;omega) (by intro u hu;simp at hu;subst hu;rfl) (fun q6 c6 M6 h6 hk6=>?_);have hT6:=h5.app hBM hN5 h6 hk6
   have hkc6:Mem.keep (fun y=>y=bt) M M6:=Mem.keep_minus.2 h6.le;erw [show [Value.int IntKind.u8 (IntKind.u8.wrap ((zp P ((v+1+1)+i) 256:Nat):Int))]=[P.getD ((v+1+1)+i) 0].map z7 from congrArg (fun v=>[v]) (zdx P ((v+1+1)+i))] at h6;rw[←List.map_append,←zbe] at h6;refine zT (h6.le) ?_;refine zR ?_;refine obr (zm (by first|omega|(dsimp only;omega))) ?_;(conv=>whnf)
   exact⟨⟨i+1,M6,q6,c6⟩,⟨by omega,hT6,hkc6,h6⟩,by dsimp only;omega,zS⟩
  ·have g':i=0:=by have:=Zd1 g;dsimp only at this;omega
   refine zR ?_;(conv=>whnf)
   subst g';refine⟨q,cq,?_,?_,hkc,?_⟩
   ·rw[hst];simp only[zbl,zjZ,zV,Int.one_mul];rfl
   ·rw[hst];exact hT
   ·rw[hst];simp only[zbl,zV];exact hNc
 | 9,_=>
  repeat' ((conv=>whnf);first|refine brn_t rfl ?_|refine brn_f rfl ?_|refine ob rfl ?_|refine obr rfl ?_|refine ob (by decide) ?_|refine obr (by decide) ?_|refine brn_t (by kernel_rfl) ?_|refine brn_f (by kernel_rfl) ?_|fail)
  refine(zw h1 (m:=nodes) hN (by omega)).mono ?_;rintro u M2 ⟨rfl,h2,hk2⟩;have hkM:=(Mem.keep_trans hk1 hk2)
  repeat' ((conv=>whnf);first|refine brn_t rfl ?_|refine brn_f rfl ?_|refine ob rfl ?_|refine obr rfl ?_|refine ob (by decide) ?_|refine obr (by decide) ?_|refine brn_t (by kernel_rfl) ?_|refine brn_f (by kernel_rfl) ?_|fail)
  have hMany:0≤64:=(Nat.zero_le _)
  refine zaL (σ:=Nat×Mem×Option Addr×Nat) [64] (fun y=>[(64,.int .i64 y.1)]) (fun y=>[BE.live T.zD [SC.v (S.i 0),SC.v (S.i 0),SC.v (S.i 0),SC.v (S.i 0),SC.v S.sn],BE.live T.zD [SC.v (.int .i64 (1+((9:Nat):Int))),SC.v (.int .i64 ((zp P (v+1) nodes:Nat):Int)),SC.v (.int .i64 0),SC.v (.int .i64 0),SC.v (.slice y.2.2.1 y.1 y.2.2.2)]]) (fun y=>y.2.1)
   (fun|⟨i,Mc,q,cq⟩=>i≤0∧TkAt B Mc bt bp a n c P ((v+1+1)+i)∧Mem.keep (fun y=>y=bt) M Mc∧NewSl (M.minus fun y=>y=bt) T.zY 1 q i cq ((zbp P (v+1+1) i).map z7) Mc) (fun y=>0 - y.1) ⟨0,M2,none,0⟩
   ⟨by omega,h2,hkM,(NewSl.none _ _ _).up (Mem.keep_minus.1 hkM)⟩ zS ?_
  rintro ⟨i,Mc,q,cq⟩ ⟨hi,hT,hkc,hNc⟩;(conv=>whnf);refine brn (fun g=>?_) (fun g=>?_)
  ·have g':i<0:=by have:=Zd0 g;dsimp only at this;omega
   refine zX ?_;refine⟨M.minus fun y=>y=bt,hNc.le,?_⟩;refine zR ?_;refine(zw hT (m:=256) (by decide) (by decide)).mono ?_;rintro u M5 ⟨rfl,h5,hk5⟩;have hN5:=NewSl.take hNc hT hk5
   refine zT (hN5.le) ?_;(conv=>whnf)
   refine appK _ _ hN5 (by first|omega|(dsimp only;omega)) (by unfold maxLen;dsimp only;omega) (by intro u hu;simp at hu;subst hu;rfl) (fun q6 c6 M6 h6 hk6=>?_);have hT6:=h5.app hBM hN5 h6 hk6
   have hkc6:Mem.keep (fun y=>y=bt) M M6:=Mem.keep_minus.2 h6.le;erw [show [Value.int IntKind.u8 (IntKind.u8.wrap ((zp P ((v+1+1)+i) 256:Nat):Int))]=[P.getD ((v+1+1)+i) 0].map z7 from congrArg (fun v=>[v]) (zdx P ((v+1+1)+i))] at h6;rw[←List.map_append,←zbe] at h6;refine zT (h6.le) ?_;refine zR ?_;refine obr (zm (by first|omega|(dsimp only;omega))) ?_;(conv=>whnf)
   exact⟨⟨i+1,M6,q6,c6⟩,⟨by omega,hT6,hkc6,h6⟩,by dsimp only;omega,zS⟩
  ·have g':i=0:=by have:=Zd1 g;dsimp only at this;omega
   refine zR ?_;(conv=>whnf)
   subst g';refine⟨q,cq,?_,?_,hkc,?_⟩
   ·rw[hst];simp only[zbl,zjZ,zV,Int.one_mul];rfl
   ·rw[hst];exact hT
   ·rw[hst];simp only[zbl,zV];exact hNc
 | 2,_=>
  repeat' ((conv=>whnf);first|refine brn_t rfl ?_|refine brn_f rfl ?_|refine ob rfl ?_|refine obr rfl ?_|refine ob (by decide) ?_|refine obr (by decide) ?_|refine brn_t (by kernel_rfl) ?_|refine brn_f (by kernel_rfl) ?_|fail)
  have hMany:0≤64:=(Nat.zero_le _)
  refine zaL (σ:=Nat×Mem×Option Addr×Nat) [64] (fun y=>[(64,.int .i64 y.1)]) (fun y=>[BE.live T.zD [SC.v (S.i 0),SC.v (S.i 0),SC.v (S.i 0),SC.v (S.i 0),SC.v S.sn],BE.live T.zD [SC.v (.int .i64 (1+((2:Nat):Int))),SC.v (.int .i64 0),SC.v (.int .i64 0),SC.v (.int .i64 0),SC.v (.slice y.2.2.1 y.1 y.2.2.2)]]) (fun y=>y.2.1)
   (fun|⟨i,Mc,q,cq⟩=>i≤0∧TkAt B Mc bt bp a n c P ((v+1)+i)∧Mem.keep (fun y=>y=bt) M Mc∧NewSl (M.minus fun y=>y=bt) T.zY 1 q i cq ((zbp P (v+1) i).map z7) Mc) (fun y=>0 - y.1) ⟨0,M1,none,0⟩
   ⟨by omega,h1,hk1,(NewSl.none _ _ _).up (Mem.keep_minus.1 hk1)⟩ zS ?_
  rintro ⟨i,Mc,q,cq⟩ ⟨hi,hT,hkc,hNc⟩;(conv=>whnf);refine brn (fun g=>?_) (fun g=>?_)
  ·have g':i<0:=by have:=Zd0 g;dsimp only at this;omega
   refine zX ?_;refine⟨M.minus fun y=>y=bt,hNc.le,?_⟩;refine zR ?_;refine(zw hT (m:=256) (by decide) (by decide)).mono ?_;rintro u M5 ⟨rfl,h5,hk5⟩;have hN5:=NewSl.take hNc hT hk5
   refine zT (hN5.le) ?_;(conv=>whnf)
   refine appK _ _ hN5 (by first|omega|(dsimp only;omega)) (by unfold maxLen;dsimp only;omega) (by intro u hu;simp at hu;subst hu;rfl) (fun q6 c6 M6 h6 hk6=>?_);have hT6:=h5.app hBM hN5 h6 hk6
   have hkc6:Mem.keep (fun y=>y=bt) M M6:=Mem.keep_minus.2 h6.le;erw [show [Value.int IntKind.u8 (IntKind.u8.wrap ((zp P ((v+1)+i) 256:Nat):Int))]=[P.getD ((v+1)+i) 0].map z7 from congrArg (fun v=>[v]) (zdx P ((v+1)+i))] at h6;rw[←List.map_append,←zbe] at h6;refine zT (h6.le) ?_;refine zR ?_;refine obr (zm (by first|omega|(dsimp only;omega))) ?_;(conv=>whnf)
   exact⟨⟨i+1,M6,q6,c6⟩,⟨by omega,hT6,hkc6,h6⟩,by dsimp only;omega,zS⟩
  ·have g':i=0:=by have:=Zd1 g;dsimp only at this;omega
   refine zR ?_;(conv=>whnf)
   subst g';refine⟨q,cq,?_,?_,hkc,?_⟩
   ·rw[hst];simp only[zbl,zjZ,zV,Int.one_mul];rfl
   ·rw[hst];exact hT
   ·rw[hst];simp only[zbl,zV];exact hNc
 | 3,_=>
  repeat' ((conv=>whnf);first|refine brn_t rfl ?_|refine brn_f rfl ?_|refine ob rfl ?_|refine obr rfl ?_|refine ob (by decide) ?_|refine obr (by decide) ?_|refine brn_t (by kernel_rfl) ?_|refine brn_f (by kernel_rfl) ?_|fail)
  refine(zw h1 (m:=nodes) hN (by omega)).mono ?_;rintro u M2 ⟨rfl,h2,hk2⟩
  repeat' ((conv=>whnf);first|refine brn_t rfl ?_|refine brn_f rfl ?_|refine ob rfl ?_|refine obr rfl ?_|refine ob (by decide) ?_|refine obr (by decide) ?_|refine brn_t (by kernel_rfl) ?_|refine brn_f (by kernel_rfl) ?_|fail)
  refine(zw h2 (m:=nodes) hN (by omega)).mono ?_;rintro u M3 ⟨rfl,h3,hk3⟩
  repeat' ((conv=>whnf);first|refine brn_t rfl ?_|refine brn_f rfl ?_|refine ob rfl ?_|refine obr rfl ?_|refine ob (by decide) ?_|refine obr (by decide) ?_|refine brn_t (by kernel_rfl) ?_|refine brn_f (by kernel_rfl) ?_|fail)
  refine(zlU 3 (by decide)).mono ?_;rintro u _ ⟨rfl,rfl⟩
  repeat' ((conv=>whnf);first|refine brn_t rfl ?_|refine brn_f rfl ?_|refine ob rfl ?_|refine obr rfl ?_|refine ob (by decide) ?_|refine obr (by decide) ?_|refine brn_t (by kernel_rfl) ?_|refine brn_f (by kernel_rfl) ?_|fail)
  refine(zw h3 (m:=256) (by decide) (by decide)).mono ?_;rintro u M4 ⟨rfl,h4,hk4⟩;have hb:=zbq (P:=P) (v:=v+1+1+1) (m:=256) (by decide)
  repeat' ((conv=>whnf);first|refine brn_t rfl ?_|refine brn_f rfl ?_|refine ob rfl ?_|refine obr rfl ?_|refine ob (by decide) ?_|refine obr (by decide) ?_|refine brn_t (by kernel_rfl) ?_|refine brn_f (by kernel_rfl) ?_|fail)
  refine obr (zm (by first|omega|(simp;omega))) ?_;have hkM:=(Mem.keep_trans hk1 (Mem.keep_trans hk2 (Mem.keep_trans hk3 hk4)))
  repeat' ((conv=>whnf);first|refine brn_t rfl ?_|refine brn_f rfl ?_|refine ob rfl ?_|refine obr rfl ?_|refine ob (by decide) ?_|refine obr (by decide) ?_|refine brn_t (by kernel_rfl) ?_|refine brn_f (by kernel_rfl) ?_|fail)
  have hMany:0≤64:=(Nat.zero_le _)
  refine zaL (σ:=Nat×Mem×Option Addr×Nat) [64] (fun y=>[(64,.int .i64 y.1)]) (fun y=>[BE.live T.zD [SC.v (S.i 0),SC.v (S.i 0),SC.v (S.i 0),SC.v (S.i 0),SC.v S.sn],BE.live T.zD [SC.v (.int .i64 (1+((3:Nat):Int))),SC.v (.int .i64 ((zp P (v+1) nodes:Nat):Int)),SC.v (.int .i64 ((zp P (v+1+1) nodes:Nat):Int)),SC.v (.int .i64 (1*((zp P (v+1+1+1) 256:Nat):Int))),SC.v (.slice y.2.2.1 y.1 y.2.2.2)]]) (fun y=>y.2.1)
   (fun|⟨i,Mc,q,cq⟩=>i≤0∧TkAt B Mc bt bp a n c P ((v+1+1+1+1)+i)∧Mem.keep (fun y=>y=bt) M Mc∧NewSl (M.minus fun y=>y=bt) T.zY 1 q i cq ((zbp P (v+1+1+1+1) i).map z7) Mc) (fun y=>0 - y.1) ⟨0,M4,none,0⟩
   ⟨by omega,h4,hkM,(NewSl.none _ _ _).up (Mem.keep_minus.1 hkM)⟩ zS ?_
  rintro ⟨i,Mc,q,cq⟩ ⟨hi,hT,hkc,hNc⟩;(conv=>whnf);refine brn (fun g=>?_) (fun g=>?_)
  ·have g':i<0:=by have:=Zd0 g;dsimp only at this;omega
   refine zX ?_;refine⟨M.minus fun y=>y=bt,hNc.le,?_⟩;refine zR ?_;refine(zw hT (m:=256) (by decide) (by decide)).mono ?_;rintro u M5 ⟨rfl,h5,hk5⟩;have hN5:=NewSl.take hNc hT hk5
   refine zT (hN5.le) ?_;(conv=>whnf)
   refine appK _ _ hN5 (by first|omega|(dsimp only;omega)) (by unfold maxLen;dsimp only;omega) (by intro u hu;simp at hu;subst hu;rfl) (fun q6 c6 M6 h6 hk6=>?_);have hT6:=h5.app hBM hN5 h6 hk6
   have hkc6:Mem.keep (fun y=>y=bt) M M6:=Mem.keep_minus.2 h6.le;erw [show [Value.int IntKind.u8 (IntKind.u8.wrap ((zp P ((v+1+1+1+1)+i) 256:Nat):Int))]=[P.getD ((v+1+1+1+1)+i) 0].map z7 from congrArg (fun v=>[v]) (zdx P ((v+1+1+1+1)+i))] at h6;rw[←List.map_append,←zbe] at h6;refine zT (h6.le) ?_;refine zR ?_;refine obr (zm (by first|omega|(dsimp only;omega))) ?_;(conv=>whnf)
   exact⟨⟨i+1,M6,q6,c6⟩,⟨by omega,hT6,hkc6,h6⟩,by dsimp only;omega,zS⟩
  ·have g':i=0:=by have:=Zd1 g;dsimp only at this;omega
   refine zR ?_;(conv=>whnf)
   subst g';refine⟨q,cq,?_,?_,hkc,?_⟩
   ·rw[hst];simp only[zbl,zjZ,zV,Int.one_mul];rfl
   ·rw[hst];exact hT
   ·rw[hst];simp only[zbl,zV];exact hNc
 | 4,_=>
  repeat' ((conv=>whnf);first|refine brn_t rfl ?_|refine brn_f rfl ?_|refine ob rfl ?_|refine obr rfl ?_|refine ob (by decide) ?_|refine obr (by decide) ?_|refine brn_t (by kernel_rfl) ?_|refine brn_f (by kernel_rfl) ?_|fail)
  refine(zw h1 (m:=nodes) hN (by omega)).mono ?_;rintro u M2 ⟨rfl,h2,hk2⟩
  repeat' ((conv=>whnf);first|refine brn_t rfl ?_|refine brn_f rfl ?_|refine ob rfl ?_|refine obr rfl ?_|refine ob (by decide) ?_|refine obr (by decide) ?_|refine brn_t (by kernel_rfl) ?_|refine brn_f (by kernel_rfl) ?_|fail)
  refine(zw h2 (m:=nodes) hN (by omega)).mono ?_;rintro u M3 ⟨rfl,h3,hk3⟩
  repeat' ((conv=>whnf);first|refine brn_t rfl ?_|refine brn_f rfl ?_|refine ob rfl ?_|refine obr rfl ?_|refine ob (by decide) ?_|refine obr (by decide) ?_|refine brn_t (by kernel_rfl) ?_|refine brn_f (by kernel_rfl) ?_|fail)
  refine(zlU 4 (by decide)).mono ?_;rintro u _ ⟨rfl,rfl⟩
  repeat' ((conv=>whnf);first|refine brn_t rfl ?_|refine brn_f rfl ?_|refine ob rfl ?_|refine obr rfl ?_|refine ob (by decide) ?_|refine obr (by decide) ?_|refine brn_t (by kernel_rfl) ?_|refine brn_f (by kernel_rfl) ?_|fail)
  refine(zw h3 (m:=256) (by decide) (by decide)).mono ?_;rintro u M4 ⟨rfl,h4,hk4⟩;have hb:=zbq (P:=P) (v:=v+1+1+1) (m:=256) (by decide)
  repeat' ((conv=>whnf);first|refine brn_t rfl ?_|refine brn_f rfl ?_|refine ob rfl ?_|refine obr rfl ?_|refine ob (by decide) ?_|refine obr (by decide) ?_|refine brn_t (by kernel_rfl) ?_|refine brn_f (by kernel_rfl) ?_|fail)
  refine obr (zm (by first|omega|(simp;omega))) ?_;have hkM:=(Mem.keep_trans hk1 (Mem.keep_trans hk2 (Mem.keep_trans hk3 hk4)))
  repeat' ((conv=>whnf);first|refine brn_t rfl ?_|refine brn_f rfl ?_|refine ob rfl ?_|refine obr rfl ?_|refine ob (by decide) ?_|refine obr (by decide) ?_|refine brn_t (by kernel_rfl) ?_|refine brn_f (by kernel_rfl) ?_|fail)
  have hMany:1≤64:=(by decide)
  refine zaL (σ:=Nat×Mem×Option Addr×Nat) [64] (fun y=>[(64,.int .i64 y.1)]) (fun y=>[BE.live T.zD [SC.v (S.i 0),SC.v (S.i 0),SC.v (S.i 0),SC.v (S.i 0),SC.v S.sn],BE.live T.zD [SC.v (.int .i64 (1+((4:Nat):Int))),SC.v (.int .i64 ((zp P (v+1) nodes:Nat):Int)),SC.v (.int .i64 ((zp P (v+1+1) nodes:Nat):Int)),SC.v (.int .i64 (1*((zp P (v+1+1+1) 256:Nat):Int))),SC.v (.slice y.2.2.1 y.1 y.2.2.2)]]) (fun y=>y.2.1)
   (fun|⟨i,Mc,q,cq⟩=>i≤1∧TkAt B Mc bt bp a n c P ((v+1+1+1+1)+i)∧Mem.keep (fun y=>y=bt) M Mc∧NewSl (M.minus fun y=>y=bt) T.zY 1 q i cq ((zbp P (v+1+1+1+1) i).map z7) Mc) (fun y=>1 - y.1) ⟨0,M4,none,0⟩
   ⟨by omega,h4,hkM,(NewSl.none _ _ _).up (Mem.keep_minus.1 hkM)⟩ zS ?_
  rintro ⟨i,Mc,q,cq⟩ ⟨hi,hT,hkc,hNc⟩;(conv=>whnf);refine brn (fun g=>?_) (fun g=>?_)
  ·have g':i<1:=by have:=Zd0 g;dsimp only at this;omega
   refine zX ?_;refine⟨M.minus fun y=>y=bt,hNc.le,?_⟩;refine zR ?_;refine(zw hT (m:=256) (by decide) (by decide)).mono ?_;rintro u M5 ⟨rfl,h5,hk5⟩;have hN5:=NewSl.take hNc hT hk5
   refine zT (hN5.le) ?_;(conv=>whnf)
   refine appK _ _ hN5 (by first|omega|(dsimp only;omega)) (by unfold maxLen;dsimp only;omega) (by intro u hu;simp at hu;subst hu;rfl) (fun q6 c6 M6 h6 hk6=>?_);have hT6:=h5.app hBM hN5 h6 hk6
   have hkc6:Mem.keep (fun y=>y=bt) M M6:=Mem.keep_minus.2 h6.le;erw [show [Value.int IntKind.u8 (IntKind.u8.wrap ((zp P ((v+1+1+1+1)+i) 256:Nat):Int))]=[P.getD ((v+1+1+1+1)+i) 0].map z7 from congrArg (fun v=>[v]) (zdx P ((v+1+1+1+1)+i))] at h6;rw[←List.map_append,←zbe] at h6;refine zT (h6.le) ?_;refine zR ?_;refine obr (zm (by first|omega|(dsimp only;omega))) ?_;(conv=>whnf)
   exact⟨⟨i+1,M6,q6,c6⟩,⟨by omega,hT6,hkc6,h6⟩,by dsimp only;omega,zS⟩
  ·have g':i=1:=by have:=Zd1 g;dsimp only at this;omega
   refine zR ?_;(conv=>whnf)
   subst g';refine⟨q,cq,?_,?_,hkc,?_⟩
   ·rw[hst];simp only[zbl,zjZ,zV,Int.one_mul];rfl
   ·rw[hst];exact hT
   ·rw[hst];simp only[zbl,zV];exact hNc
 | 5,_=>
  repeat' ((conv=>whnf);first|refine brn_t rfl ?_|refine brn_f rfl ?_|refine ob rfl ?_|refine obr rfl ?_|refine ob (by decide) ?_|refine obr (by decide) ?_|refine brn_t (by kernel_rfl) ?_|refine brn_f (by kernel_rfl) ?_|fail)
  refine(zw h1 (m:=nodes) hN (by omega)).mono ?_;rintro u M2 ⟨rfl,h2,hk2⟩
  repeat' ((conv=>whnf);first|refine brn_t rfl ?_|refine brn_f rfl ?_|refine ob rfl ?_|refine obr rfl ?_|refine ob (by decide) ?_|refine obr (by decide) ?_|refine brn_t (by kernel_rfl) ?_|refine brn_f (by kernel_rfl) ?_|fail)
  refine(zw h2 (m:=nodes) hN (by omega)).mono ?_;rintro u M3 ⟨rfl,h3,hk3⟩
  repeat' ((conv=>whnf);first|refine brn_t rfl ?_|refine brn_f rfl ?_|refine ob rfl ?_|refine obr rfl ?_|refine ob (by decide) ?_|refine obr (by decide) ?_|refine brn_t (by kernel_rfl) ?_|refine brn_f (by kernel_rfl) ?_|fail)
  refine(zlU 5 (by decide)).mono ?_;rintro u _ ⟨rfl,rfl⟩
  repeat' ((conv=>whnf);first|refine brn_t rfl ?_|refine brn_f rfl ?_|refine ob rfl ?_|refine obr rfl ?_|refine ob (by decide) ?_|refine obr (by decide) ?_|refine brn_t (by kernel_rfl) ?_|refine brn_f (by kernel_rfl) ?_|fail)
  refine(zw h3 (m:=256) (by decide) (by decide)).mono ?_;rintro u M4 ⟨rfl,h4,hk4⟩;have hb:=zbq (P:=P) (v:=v+1+1+1) (m:=256) (by decide)
  repeat' ((conv=>whnf);first|refine brn_t rfl ?_|refine brn_f rfl ?_|refine ob rfl ?_|refine obr rfl ?_|refine ob (by decide) ?_|refine obr (by decide) ?_|refine brn_t (by kernel_rfl) ?_|refine brn_f (by kernel_rfl) ?_|fail)
  refine obr (zm (by first|omega|(simp;omega))) ?_;have hkM:=(Mem.keep_trans hk1 (Mem.keep_trans hk2 (Mem.keep_trans hk3 hk4)))
  repeat' ((conv=>whnf);first|refine brn_t rfl ?_|refine brn_f rfl ?_|refine ob rfl ?_|refine obr rfl ?_|refine ob (by decide) ?_|refine obr (by decide) ?_|refine brn_t (by kernel_rfl) ?_|refine brn_f (by kernel_rfl) ?_|fail)
  have hMany:1≤64:=(by decide)
  refine zaL (σ:=Nat×Mem×Option Addr×Nat) [64] (fun y=>[(64,.int .i64 y.1)]) (fun y=>[BE.live T.zD [SC.v (S.i 0),SC.v (S.i 0),SC.v (S.i 0),SC.v (S.i 0),SC.v S.sn],BE.live T.zD [SC.v (.int .i64 (1+((5:Nat):Int))),SC.v (.int .i64 ((zp P (v+1) nodes:Nat):Int)),SC.v (.int .i64 ((zp P (v+1+1) nodes:Nat):Int)),SC.v (.int .i64 (1*((zp P (v+1+1+1) 256:Nat):Int))),SC.v (.slice y.2.2.1 y.1 y.2.2.2)]]) (fun y=>y.2.1)
   (fun|⟨i,Mc,q,cq⟩=>i≤1∧TkAt B Mc bt bp a n c P ((v+1+1+1+1)+i)∧Mem.keep (fun y=>y=bt) M Mc∧NewSl (M.minus fun y=>y=bt) T.zY 1 q i cq ((zbp P (v+1+1+1+1) i).map z7) Mc) (fun y=>1 - y.1) ⟨0,M4,none,0⟩
   ⟨by omega,h4,hkM,(NewSl.none _ _ _).up (Mem.keep_minus.1 hkM)⟩ zS ?_
  rintro ⟨i,Mc,q,cq⟩ ⟨hi,hT,hkc,hNc⟩;(conv=>whnf);refine brn (fun g=>?_) (fun g=>?_)
  ·have g':i<1:=by have:=Zd0 g;dsimp only at this;omega
   refine zX ?_;refine⟨M.minus fun y=>y=bt,hNc.le,?_⟩;refine zR ?_;refine(zw hT (m:=256) (by decide) (by decide)).mono ?_;rintro u M5 ⟨rfl,h5,hk5⟩;have hN5:=NewSl.take hNc hT hk5
   refine zT (hN5.le) ?_;(conv=>whnf)
   refine appK _ _ hN5 (by first|omega|(dsimp only;omega)) (by unfold maxLen;dsimp only;omega) (by intro u hu;simp at hu;subst hu;rfl) (fun q6 c6 M6 h6 hk6=>?_);have hT6:=h5.app hBM hN5 h6 hk6
   have hkc6:Mem.keep (fun y=>y=bt) M M6:=Mem.keep_minus.2 h6.le;erw [show [Value.int IntKind.u8 (IntKind.u8.wrap ((zp P ((v+1+1+1+1)+i) 256:Nat):Int))]=[P.getD ((v+1+1+1+1)+i) 0].map z7 from congrArg (fun v=>[v]) (zdx P ((v+1+1+1+1)+i))] at h6;rw[←List.map_append,←zbe] at h6;refine zT (h6.le) ?_;refine zR ?_;refine obr (zm (by first|omega|(dsimp only;omega))) ?_;(conv=>whnf)
   exact⟨⟨i+1,M6,q6,c6⟩,⟨by omega,hT6,hkc6,h6⟩,by dsimp only;omega,zS⟩
  ·have g':i=1:=by have:=Zd1 g;dsimp only at this;omega
   refine zR ?_;(conv=>whnf)
   subst g';refine⟨q,cq,?_,?_,hkc,?_⟩
   ·rw[hst];simp only[zbl,zjZ,zV,Int.one_mul];rfl
   ·rw[hst];exact hT
   ·rw[hst];simp only[zbl,zV];exact hNc
 | 6,_=>
  repeat' ((conv=>whnf);first|refine brn_t rfl ?_|refine brn_f rfl ?_|refine ob rfl ?_|refine obr rfl ?_|refine ob (by decide) ?_|refine obr (by decide) ?_|refine brn_t (by kernel_rfl) ?_|refine brn_f (by kernel_rfl) ?_|fail)
  refine(zw h1 (m:=nodes) hN (by omega)).mono ?_;rintro u M2 ⟨rfl,h2,hk2⟩
  repeat' ((conv=>whnf);first|refine brn_t rfl ?_|refine brn_f rfl ?_|refine ob rfl ?_|refine obr rfl ?_|refine ob (by decide) ?_|refine obr (by decide) ?_|refine brn_t (by kernel_rfl) ?_|refine brn_f (by kernel_rfl) ?_|fail)
  refine(zDq 6 (by decide)).mono ?_;rintro u _ ⟨rfl,rfl⟩
  repeat' ((conv=>whnf);first|refine brn_t rfl ?_|refine brn_f rfl ?_|refine ob rfl ?_|refine obr rfl ?_|refine ob (by decide) ?_|refine obr (by decide) ?_|refine brn_t (by kernel_rfl) ?_|refine brn_f (by kernel_rfl) ?_|fail)
  refine(zw h2 (m:=8) (by decide) (by decide)).mono ?_;rintro u M3 ⟨rfl,h3,hk3⟩;have hkM:=(Mem.keep_trans hk1 (Mem.keep_trans hk2 hk3))
  repeat' ((conv=>whnf);first|refine brn_t rfl ?_|refine brn_f rfl ?_|refine ob rfl ?_|refine obr rfl ?_|refine ob (by decide) ?_|refine obr (by decide) ?_|refine brn_t (by kernel_rfl) ?_|refine brn_f (by kernel_rfl) ?_|fail)
  have hMany:(zp P (v+1+1) 8)≤64:=(Nat.le_trans (Nat.le_of_lt (zbq (by decide))) (by decide))
  refine zaL (σ:=Nat×Mem×Option Addr×Nat) [64] (fun y=>[(64,.int .i64 y.1)]) (fun y=>[BE.live T.zD [SC.v (S.i 0),SC.v (S.i 0),SC.v (S.i 0),SC.v (S.i 0),SC.v S.sn],BE.live T.zD [SC.v (.int .i64 (1+((6:Nat):Int))),SC.v (.int .i64 ((zp P (v+1) nodes:Nat):Int)),SC.v (.int .i64 0),SC.v (.int .i64 0),SC.v (.slice y.2.2.1 y.1 y.2.2.2)]]) (fun y=>y.2.1)
   (fun|⟨i,Mc,q,cq⟩=>i≤(zp P (v+1+1) 8)∧TkAt B Mc bt bp a n c P ((v+1+1+1)+i)∧Mem.keep (fun y=>y=bt) M Mc∧NewSl (M.minus fun y=>y=bt) T.zY 1 q i cq ((zbp P (v+1+1+1) i).map z7) Mc) (fun y=>(zp P (v+1+1) 8) - y.1) ⟨0,M3,none,0⟩
   ⟨by omega,h3,hkM,(NewSl.none _ _ _).up (Mem.keep_minus.1 hkM)⟩ zS ?_
  rintro ⟨i,Mc,q,cq⟩ ⟨hi,hT,hkc,hNc⟩;(conv=>whnf);refine brn (fun g=>?_) (fun g=>?_)
  ·have g':i<(zp P (v+1+1) 8):=by have:=Zd0 g;dsimp only at this;omega
   refine zX ?_;refine⟨M.minus fun y=>y=bt,hNc.le,?_⟩;refine zR ?_;refine(zw hT (m:=256) (by decide) (by decide)).mono ?_;rintro u M5 ⟨rfl,h5,hk5⟩;have hN5:=NewSl.take hNc hT hk5
   refine zT (hN5.le) ?_;(conv=>whnf)
   refine appK _ _ hN5 (by first|omega|(dsimp only;omega)) (by unfold maxLen;dsimp only;omega) (by intro u hu;simp at hu;subst hu;rfl) (fun q6 c6 M6 h6 hk6=>?_);have hT6:=h5.app hBM hN5 h6 hk6
   have hkc6:Mem.keep (fun y=>y=bt) M M6:=Mem.keep_minus.2 h6.le;erw [show [Value.int IntKind.u8 (IntKind.u8.wrap ((zp P ((v+1+1+1)+i) 256:Nat):Int))]=[P.getD ((v+1+1+1)+i) 0].map z7 from congrArg (fun v=>[v]) (zdx P ((v+1+1+1)+i))] at h6;rw[←List.map_append,←zbe] at h6;refine zT (h6.le) ?_;refine zR ?_;refine obr (zm (by first|omega|(dsimp only;omega))) ?_;(conv=>whnf)
   exact⟨⟨i+1,M6,q6,c6⟩,⟨by omega,hT6,hkc6,h6⟩,by dsimp only;omega,zS⟩
  ·have g':i=(zp P (v+1+1) 8):=by have:=Zd1 g;dsimp only at this;omega
   refine zR ?_;(conv=>whnf)
   subst g';refine⟨q,cq,?_,?_,hkc,?_⟩
   ·rw[hst];simp only[zbl,zjZ,zV,Int.one_mul];rfl
   ·rw[hst];exact hT
   ·rw[hst];simp only[zbl,zV];exact hNc
 | 8,_=>
  repeat' ((conv=>whnf);first|refine brn_t rfl ?_|refine brn_f rfl ?_|refine ob rfl ?_|refine obr rfl ?_|refine ob (by decide) ?_|refine obr (by decide) ?_|refine brn_t (by kernel_rfl) ?_|refine brn_f (by kernel_rfl) ?_|fail)
  refine(zw h1 (m:=nodes) hN (by omega)).mono ?_;rintro u M2 ⟨rfl,h2,hk2⟩
  repeat' ((conv=>whnf);first|refine brn_t rfl ?_|refine brn_f rfl ?_|refine ob rfl ?_|refine obr rfl ?_|refine ob (by decide) ?_|refine obr (by decide) ?_|refine brn_t (by kernel_rfl) ?_|refine brn_f (by kernel_rfl) ?_|fail)
  refine(zlU 8 (by decide)).mono ?_;rintro u _ ⟨rfl,rfl⟩
  repeat' ((conv=>whnf);first|refine brn_t rfl ?_|refine brn_f rfl ?_|refine ob rfl ?_|refine obr rfl ?_|refine ob (by decide) ?_|refine obr (by decide) ?_|refine brn_t (by kernel_rfl) ?_|refine brn_f (by kernel_rfl) ?_|fail)
  refine(zw h2 (m:=256) (by decide) (by decide)).mono ?_;rintro u M3 ⟨rfl,h3,hk3⟩;have hb:=zbq (P:=P) (v:=v+1+1) (m:=256) (by decide)
  repeat' ((conv=>whnf);first|refine brn_t rfl ?_|refine brn_f rfl ?_|refine ob rfl ?_|refine obr rfl ?_|refine ob (by decide) ?_|refine obr (by decide) ?_|refine brn_t (by kernel_rfl) ?_|refine brn_f (by kernel_rfl) ?_|fail)
  refine obr (zm (by first|omega|(simp;omega))) ?_;have hkM:=(Mem.keep_trans hk1 (Mem.keep_trans hk2 hk3))
  repeat' ((conv=>whnf);first|refine brn_t rfl ?_|refine brn_f rfl ?_|refine ob rfl ?_|refine obr rfl ?_|refine ob (by decide) ?_|refine obr (by decide) ?_|refine brn_t (by kernel_rfl) ?_|refine brn_f (by kernel_rfl) ?_|fail)
  have hMany:0≤64:=(Nat.zero_le _)
  refine zaL (σ:=Nat×Mem×Option Addr×Nat) [64] (fun y=>[(64,.int .i64 y.1)]) (fun y=>[BE.live T.zD [SC.v (S.i 0),SC.v (S.i 0),SC.v (S.i 0),SC.v (S.i 0),SC.v S.sn],BE.live T.zD [SC.v (.int .i64 (1+((8:Nat):Int))),SC.v (.int .i64 ((zp P (v+1) nodes:Nat):Int)),SC.v (.int .i64 0),SC.v (.int .i64 (256*((zp P (v+1+1) 256:Nat):Int))),SC.v (.slice y.2.2.1 y.1 y.2.2.2)]]) (fun y=>y.2.1)
   (fun|⟨i,Mc,q,cq⟩=>i≤0∧TkAt B Mc bt bp a n c P ((v+1+1+1)+i)∧Mem.keep (fun y=>y=bt) M Mc∧NewSl (M.minus fun y=>y=bt) T.zY 1 q i cq ((zbp P (v+1+1+1) i).map z7) Mc) (fun y=>0 - y.1) ⟨0,M3,none,0⟩
   ⟨by omega,h3,hkM,(NewSl.none _ _ _).up (Mem.keep_minus.1 hkM)⟩ zS ?_
  rintro ⟨i,Mc,q,cq⟩ ⟨hi,hT,hkc,hNc⟩;(conv=>whnf);refine brn (fun g=>?_) (fun g=>?_)
  ·have g':i<0:=by have:=Zd0 g;dsimp only at this;omega
   refine zX ?_;refine⟨M.minus fun y=>y=bt,hNc.le,?_⟩;refine zR ?_;refine(zw hT (m:=256) (by decide) (by decide)).mono ?_;rintro u M5 ⟨rfl,h5,hk5⟩;have hN5:=NewSl.take hNc hT hk5
   refine zT (hN5.le) ?_;(conv=>whnf)
   refine appK _ _ hN5 (by first|omega|(dsimp only;omega)) (by unfold maxLen;dsimp only;omega) (by intro u hu;simp at hu;subst hu;rfl) (fun q6 c6 M6 h6 hk6=>?_);have hT6:=h5.app hBM hN5 h6 hk6
   have hkc6:Mem.keep (fun y=>y=bt) M M6:=Mem.keep_minus.2 h6.le;erw [show [Value.int IntKind.u8 (IntKind.u8.wrap ((zp P ((v+1+1+1)+i) 256:Nat):Int))]=[P.getD ((v+1+1+1)+i) 0].map z7 from congrArg (fun v=>[v]) (zdx P ((v+1+1+1)+i))] at h6;rw[←List.map_append,←zbe] at h6;refine zT (h6.le) ?_;refine zR ?_;refine obr (zm (by first|omega|(dsimp only;omega))) ?_;(conv=>whnf)
   exact⟨⟨i+1,M6,q6,c6⟩,⟨by omega,hT6,hkc6,h6⟩,by dsimp only;omega,zS⟩
  ·have g':i=0:=by have:=Zd1 g;dsimp only at this;omega
   refine zR ?_;(conv=>whnf)
   subst g';refine⟨q,cq,?_,?_,hkc,?_⟩
   ·rw[hst];simp only[zbl,zjZ,zV,Int.one_mul];rfl
   ·rw[hst];exact hT
   ·rw[hst];simp only[zbl,zV];exact hNc
 | 10,_=>
  repeat' ((conv=>whnf);first|refine brn_t rfl ?_|refine brn_f rfl ?_|refine ob rfl ?_|refine obr rfl ?_|refine ob (by decide) ?_|refine obr (by decide) ?_|refine brn_t (by kernel_rfl) ?_|refine brn_f (by kernel_rfl) ?_|fail)
  refine(zw h1 (m:=nodes) hN (by omega)).mono ?_;rintro u M2 ⟨rfl,h2,hk2⟩
  repeat' ((conv=>whnf);first|refine brn_t rfl ?_|refine brn_f rfl ?_|refine ob rfl ?_|refine obr rfl ?_|refine ob (by decide) ?_|refine obr (by decide) ?_|refine brn_t (by kernel_rfl) ?_|refine brn_f (by kernel_rfl) ?_|fail)
  refine(zlU 10 (by decide)).mono ?_;rintro u _ ⟨rfl,rfl⟩
  repeat' ((conv=>whnf);first|refine brn_t rfl ?_|refine brn_f rfl ?_|refine ob rfl ?_|refine obr rfl ?_|refine ob (by decide) ?_|refine obr (by decide) ?_|refine brn_t (by kernel_rfl) ?_|refine brn_f (by kernel_rfl) ?_|fail)
  refine(zw h2 (m:=64) (by decide) (by decide)).mono ?_;rintro u M3 ⟨rfl,h3,hk3⟩;have hb:=zbq (P:=P) (v:=v+1+1) (m:=64) (by decide)
  repeat' ((conv=>whnf);first|refine brn_t rfl ?_|refine brn_f rfl ?_|refine ob rfl ?_|refine obr rfl ?_|refine ob (by decide) ?_|refine obr (by decide) ?_|refine brn_t (by kernel_rfl) ?_|refine brn_f (by kernel_rfl) ?_|fail)
  refine obr (zm (by first|omega|(simp;omega))) ?_;have hkM:=(Mem.keep_trans hk1 (Mem.keep_trans hk2 hk3))
  repeat' ((conv=>whnf);first|refine brn_t rfl ?_|refine brn_f rfl ?_|refine ob rfl ?_|refine obr rfl ?_|refine ob (by decide) ?_|refine obr (by decide) ?_|refine brn_t (by kernel_rfl) ?_|refine brn_f (by kernel_rfl) ?_|fail)
  have hMany:0≤64:=(Nat.zero_le _)
  refine zaL (σ:=Nat×Mem×Option Addr×Nat) [64] (fun y=>[(64,.int .i64 y.1)]) (fun y=>[BE.live T.zD [SC.v (S.i 0),SC.v (S.i 0),SC.v (S.i 0),SC.v (S.i 0),SC.v S.sn],BE.live T.zD [SC.v (.int .i64 (1+((10:Nat):Int))),SC.v (.int .i64 ((zp P (v+1) nodes:Nat):Int)),SC.v (.int .i64 0),SC.v (.int .i64 (1*((zp P (v+1+1) 64:Nat):Int))),SC.v (.slice y.2.2.1 y.1 y.2.2.2)]]) (fun y=>y.2.1)
   (fun|⟨i,Mc,q,cq⟩=>i≤0∧TkAt B Mc bt bp a n c P ((v+1+1+1)+i)∧Mem.keep (fun y=>y=bt) M Mc∧NewSl (M.minus fun y=>y=bt) T.zY 1 q i cq ((zbp P (v+1+1+1) i).map z7) Mc) (fun y=>0 - y.1) ⟨0,M3,none,0⟩
   ⟨by omega,h3,hkM,(NewSl.none _ _ _).up (Mem.keep_minus.1 hkM)⟩ zS ?_
  rintro ⟨i,Mc,q,cq⟩ ⟨hi,hT,hkc,hNc⟩;(conv=>whnf);refine brn (fun g=>?_) (fun g=>?_)
  ·have g':i<0:=by have:=Zd0 g;dsimp only at this;omega
   refine zX ?_;refine⟨M.minus fun y=>y=bt,hNc.le,?_⟩;refine zR ?_;refine(zw hT (m:=256) (by decide) (by decide)).mono ?_;rintro u M5 ⟨rfl,h5,hk5⟩;have hN5:=NewSl.take hNc hT hk5
   refine zT (hN5.le) ?_;(conv=>whnf)
   refine appK _ _ hN5 (by first|omega|(dsimp only;omega)) (by unfold maxLen;dsimp only;omega) (by intro u hu;simp at hu;subst hu;rfl) (fun q6 c6 M6 h6 hk6=>?_);have hT6:=h5.app hBM hN5 h6 hk6
   have hkc6:Mem.keep (fun y=>y=bt) M M6:=Mem.keep_minus.2 h6.le;erw [show [Value.int IntKind.u8 (IntKind.u8.wrap ((zp P ((v+1+1+1)+i) 256:Nat):Int))]=[P.getD ((v+1+1+1)+i) 0].map z7 from congrArg (fun v=>[v]) (zdx P ((v+1+1+1)+i))] at h6;rw[←List.map_append,←zbe] at h6;refine zT (h6.le) ?_;refine zR ?_;refine obr (zm (by first|omega|(dsimp only;omega))) ?_;(conv=>whnf)
   exact⟨⟨i+1,M6,q6,c6⟩,⟨by omega,hT6,hkc6,h6⟩,by dsimp only;omega,zS⟩
  ·have g':i=0:=by have:=Zd1 g;dsimp only at this;omega
   refine zR ?_;(conv=>whnf)
   subst g';refine⟨q,cq,?_,?_,hkc,?_⟩
   ·rw[hst];simp only[zbl,zjZ,zV,Int.one_mul];rfl
   ·rw[hst];exact hT
   ·rw[hst];simp only[zbl,zV];exact hNc
 | 11,_=>
  repeat' ((conv=>whnf);first|refine brn_t rfl ?_|refine brn_f rfl ?_|refine ob rfl ?_|refine obr rfl ?_|refine ob (by decide) ?_|refine obr (by decide) ?_|refine brn_t (by kernel_rfl) ?_|refine brn_f (by kernel_rfl) ?_|fail)
  refine(zlU 11 (by decide)).mono ?_;rintro u _ ⟨rfl,rfl⟩
  repeat' ((conv=>whnf);first|refine brn_t rfl ?_|refine brn_f rfl ?_|refine ob rfl ?_|refine obr rfl ?_|refine ob (by decide) ?_|refine obr (by decide) ?_|refine brn_t (by kernel_rfl) ?_|refine brn_f (by kernel_rfl) ?_|fail)
  refine(zw h1 (m:=256) (by decide) (by decide)).mono ?_;rintro u M2 ⟨rfl,h2,hk2⟩;have hb:=zbq (P:=P) (v:=v+1) (m:=256) (by decide)
  repeat' ((conv=>whnf);first|refine brn_t rfl ?_|refine brn_f rfl ?_|refine ob rfl ?_|refine obr rfl ?_|refine ob (by decide) ?_|refine obr (by decide) ?_|refine brn_t (by kernel_rfl) ?_|refine brn_f (by kernel_rfl) ?_|fail)
  refine obr (zm (by first|omega|(simp;omega))) ?_;have hkM:=(Mem.keep_trans hk1 hk2)
  repeat' ((conv=>whnf);first|refine brn_t rfl ?_|refine brn_f rfl ?_|refine ob rfl ?_|refine obr rfl ?_|refine ob (by decide) ?_|refine obr (by decide) ?_|refine brn_t (by kernel_rfl) ?_|refine brn_f (by kernel_rfl) ?_|fail)
  have hMany:0≤64:=(Nat.zero_le _)
  refine zaL (σ:=Nat×Mem×Option Addr×Nat) [64] (fun y=>[(64,.int .i64 y.1)]) (fun y=>[BE.live T.zD [SC.v (S.i 0),SC.v (S.i 0),SC.v (S.i 0),SC.v (S.i 0),SC.v S.sn],BE.live T.zD [SC.v (.int .i64 (1+((11:Nat):Int))),SC.v (.int .i64 0),SC.v (.int .i64 0),SC.v (.int .i64 (1*((zp P (v+1) 256:Nat):Int))),SC.v (.slice y.2.2.1 y.1 y.2.2.2)]]) (fun y=>y.2.1)
   (fun|⟨i,Mc,q,cq⟩=>i≤0∧TkAt B Mc bt bp a n c P ((v+1+1)+i)∧Mem.keep (fun y=>y=bt) M Mc∧NewSl (M.minus fun y=>y=bt) T.zY 1 q i cq ((zbp P (v+1+1) i).map z7) Mc) (fun y=>0 - y.1) ⟨0,M2,none,0⟩
   ⟨by omega,h2,hkM,(NewSl.none _ _ _).up (Mem.keep_minus.1 hkM)⟩ zS ?_
  rintro ⟨i,Mc,q,cq⟩ ⟨hi,hT,hkc,hNc⟩;(conv=>whnf);refine brn (fun g=>?_) (fun g=>?_)
  ·have g':i<0:=by have:=Zd0 g;dsimp only at this;omega
   refine zX ?_;refine⟨M.minus fun y=>y=bt,hNc.le,?_⟩;refine zR ?_;refine(zw hT (m:=256) (by decide) (by decide)).mono ?_;rintro u M5 ⟨rfl,h5,hk5⟩;have hN5:=NewSl.take hNc hT hk5
   refine zT (hN5.le) ?_;(conv=>whnf)
   refine appK _ _ hN5 (by first|omega|(dsimp only;omega)) (by unfold maxLen;dsimp only;omega) (by intro u hu;simp at hu;subst hu;rfl) (fun q6 c6 M6 h6 hk6=>?_);have hT6:=h5.app hBM hN5 h6 hk6
   have hkc6:Mem.keep (fun y=>y=bt) M M6:=Mem.keep_minus.2 h6.le;erw [show [Value.int IntKind.u8 (IntKind.u8.wrap ((zp P ((v+1+1)+i) 256:Nat):Int))]=[P.getD ((v+1+1)+i) 0].map z7 from congrArg (fun v=>[v]) (zdx P ((v+1+1)+i))] at h6;rw[←List.map_append,←zbe] at h6;refine zT (h6.le) ?_;refine zR ?_;refine obr (zm (by first|omega|(dsimp only;omega))) ?_;(conv=>whnf)
   exact⟨⟨i+1,M6,q6,c6⟩,⟨by omega,hT6,hkc6,h6⟩,by dsimp only;omega,zS⟩
  ·have g':i=0:=by have:=Zd1 g;dsimp only at this;omega
   refine zR ?_;(conv=>whnf)
   subst g';refine⟨q,cq,?_,?_,hkc,?_⟩
   ·rw[hst];simp only[zbl,zjZ,zV,Int.one_mul];rfl
   ·rw[hst];exact hT
   ·rw[hst];simp only[zbl,zV];exact hNc
 | r+12,h12=>omega
end
section
variable {M B:Mem}
def lk1 (oth:List (Nat×Nat)) (a b:Nat):List (Nat×Nat):=if b=a+1∨(a,b)∈oth then [(a,b)] else []
def zbW (oth:List (Nat×Nat)) (a k:Nat):List (Nat×Nat):=(List.range k).flatMap fun j=>lk1 oth a (a+1+j)
def ziz (n:Nat) (oth:List (Nat×Nat)):List (Nat×Nat):=(List.range n).flatMap fun a=>zbW oth a (n - (a+1))
def zdI (n:Nat) (oth:List (Nat×Nat)) (a:Nat):List (Nat×Nat):=(List.range a).flatMap fun a=>zbW oth a (n - (a+1))
theorem zyg (n:Nat) (oth:List (Nat×Nat)) (a:Nat):zdI n oth (a+1)=zdI n oth a++zbW oth a (n - (a+1)):=by unfold zdI;rw[List.range_succ,List.flatMap_append];simp
theorem znk (oth:List (Nat×Nat)) (a k:Nat):zbW oth a (k+1)=zbW oth a k++lk1 oth a (a+1+k):=by unfold zbW;rw[List.range_succ,List.flatMap_append];simp
theorem zLY (oth:List (Nat×Nat)) (a b:Nat):(lk1 oth a b).length≤1:=by unfold lk1;split<;>simp
theorem zty (oth:List (Nat×Nat)) (a:Nat):∀ k,(zbW oth a k).length≤k
 | 0=>by simp[zbW]
 | k+1=>by have:=zty oth a k;have:=zLY oth a (a+1+k);rw[znk,List.length_append];omega
theorem zzE (n:Nat) (oth:List (Nat×Nat)):∀ a,(zdI n oth a).length≤a*n
 | 0=>by simp[zdI]
 | a+1=>by have:=zzE n oth a;have:=zty oth a (n - (a+1));rw[zyg,List.length_append,Nat.succ_mul];omega
@[reducible] def zd4 (p:Nat×Nat):List Value:=[.int .i64 (p.1:Nat),.int .i64 (p.2:Nat)]
@[reducible] def kvL (p:Nat×Nat):Value := .agg #[.int .i64 (p.1:Nat),.int .i64 (p.2:Nat)]
@[reducible] def vvB (b:Bool):Value := .bool b
theorem zpV:zqj kvL:=by
 intro a b;obtain⟨a1,a2⟩:=a;obtain⟨b1,b2⟩:=b;simp only[kvL,zeP,zaT,if_true,Prod.mk.injEq]
 (repeat' split)<;>simp<;>omega
def OthAt (M:Mem) (mb:Nat) (oth:List (Nat×Nat)):Prop:=∃ m:List ((Nat×Nat)×Bool),MapAt kvL vvB M mb m∧∀ p,zL m p=if p∈oth then some true else none
theorem zJE {mb:Nat} {oth:List (Nat×Nat)} (hO:OthAt M mb oth) {n:Nat} (hn:n≤64) :
  CallsM Tryz.prog F.zcG [.int .i64 n,.map (some mb)] M fun v M'=>∃ q c,v = .slice q (ziz n oth).length c∧NewSl M T.zac 2 q (ziz n oth).length c ((ziz n oth).flatMap zd4) M':=by
 obtain⟨m,hM,hm⟩:=hO;refine zxt (by simp) ?_;(conv=>whnf)
 refine zaL (σ:=Nat×Mem×Option Addr×Nat×Nat) [9,5] (fun y=>[(9,.int .i64 y.1),(5,.slice y.2.2.1 y.2.2.2.1 y.2.2.2.2)]) (fun _=>[]) (fun y=>y.2.1)
  (fun|⟨a,Mc,q,k,cq⟩=>a≤n∧k=(zdI n oth a).length∧NewSl M T.zac 2 q k cq ((zdI n oth a).flatMap zd4) Mc) (fun y=>n - y.1) ⟨0,M,none,0,0⟩ ⟨by omega,rfl,NewSl.none M _ _⟩ zS ?_
 rintro ⟨a,Mc,q,k,cq⟩ ⟨ha,hk,hN⟩;(conv=>whnf);refine brn (fun g=>?_) (fun g=>?_)
 ·have g':a<n:=by have:=Zd0 g;dsimp only at this;omega
  refine zR ?_;refine obr (zm (by first|omega|(dsimp only;omega))) ?_;(conv=>whnf)
  refine zaL (σ:=Nat×Mem×Option Addr×Nat×Nat) [7,5] (fun y=>[(7,.int .i64 ((a+1+y.1:Nat):Int)),(5,.slice y.2.2.1 y.2.2.2.1 y.2.2.2.2)]) (fun _=>[]) (fun y=>y.2.1)
   (fun|⟨j,Md,q,k,cq⟩=>a+1+j≤n∧k=(zdI n oth a++zbW oth a j).length∧NewSl M T.zac 2 q k cq ((zdI n oth a++zbW oth a j).flatMap zd4) Md) (fun y=>n - (a+1+y.1)) ⟨0,Mc,q,k,cq⟩ ⟨by omega,by simp[zbW,hk],by simpa[zbW] using hN⟩ zS ?_
  rintro ⟨j,Md,q,k,cq⟩ ⟨hj,hk,hN⟩;have hpl:=zzE n oth a
  have hrl:=zty oth a j;have hnn:a*n≤64*64:=Nat.mul_le_mul (by omega) hn
  rw[List.length_append] at hk;(conv=>whnf);refine brn (fun e=>?_) (fun e=>?_)
  ·have e':a+1+j<n:=by have:=Zd0 e;dsimp only at this;omega
   (conv=>whnf);refine obr (zm (by first|omega|(dsimp only;omega))) ?_;(conv=>whnf);refine brn (fun f=>?_) (fun f=>?_)
   ·have f':j=0:=by have:=Zd0 f;dsimp only at this;omega
    have hyes:a+1+j=a+1∨(a,a+1+j)∈oth := .inl (by omega);have e1:lk1 oth a (a+1+j)=[(a,a+1+j)]:=by unfold lk1;rw[if_pos hyes]
    have e2:(zdI n oth a++zbW oth a (j+1))=(zdI n oth a++zbW oth a j)++[(a,a+1+j)]:=by rw[znk,e1,List.append_assoc]
    refine zR ?_;refine zMB M hN (a,a+1+j) rfl (by dsimp only;omega) (by dsimp only;simp[maxLen];omega) (by intro u hu;simp at hu;rcases hu with rfl|rfl<;>rfl) fun q6 c6 M6 h6 hk6=>?_
    refine zR ?_;refine obr (zm (by first|omega|(dsimp only;omega))) ?_;(conv=>whnf)
    refine⟨⟨j+1,M6,q6,k+1,c6⟩,⟨by omega,by rw[e2,List.length_append];simp[hk],by rw[e2];exact h6⟩,by dsimp only;omega,?_⟩;rw[show ((a+1+(j+1):Nat):Int)=((a+1+j:Nat):Int)+1 by omega];exact zS
   ·have f':j≠0:=by have:=Zd1 f;dsimp only at this;omega
    have hMd:=hM.mono (fun o ho=>hN.le _ _ ho);(conv=>whnf)
    refine hMd.get zpV (a,a+1+j) (fun hg=>?_) (fun x i hg=>?_)
    ·have hno:¬(a+1+j=a+1∨(a,a+1+j)∈oth):=by
      rintro (h|h)
      ·omega
      ·rw[hm,if_pos h] at hg;cases hg
     have e2:(zdI n oth a++zbW oth a (j+1))=(zdI n oth a++zbW oth a j):=by rw[znk];unfold lk1;rw[if_neg hno,List.append_nil]
     refine zR ?_;refine obr (zm (by first|omega|(dsimp only;omega))) ?_;(conv=>whnf)
     refine⟨⟨j+1,Md,q,k,cq⟩,⟨by omega,by rw[e2,List.length_append];exact hk,by rw[e2];exact hN⟩,by dsimp only;omega,?_⟩;rw[show ((a+1+(j+1):Nat):Int)=((a+1+j:Nat):Int)+1 by omega];exact zS
    ·have hyes:a+1+j=a+1∨(a,a+1+j)∈oth:=by
      rw[hm] at hg;split at hg
      ·right;assumption
      ·cases hg
     have hx:x=true:=by rw[hm,if_pos (hyes.resolve_left (by omega))] at hg;cases hg;rfl
     subst hx;have e1:lk1 oth a (a+1+j)=[(a,a+1+j)]:=by unfold lk1;rw[if_pos hyes]
     have e2:(zdI n oth a++zbW oth a (j+1))=(zdI n oth a++zbW oth a j)++[(a,a+1+j)]:=by rw[znk,e1,List.append_assoc]
     refine zR ?_;refine zMB M hN (a,a+1+j) rfl (by dsimp only;omega) (by dsimp only;simp[maxLen];omega) (by intro u hu;simp at hu;rcases hu with rfl|rfl<;>rfl) fun q6 c6 M6 h6 hk6=>?_
     refine zR ?_;refine obr (zm (by first|omega|(dsimp only;omega))) ?_;(conv=>whnf)
     refine⟨⟨j+1,M6,q6,k+1,c6⟩,⟨by omega,by rw[e2,List.length_append];simp[hk],by rw[e2];exact h6⟩,by dsimp only;omega,?_⟩;rw[show ((a+1+(j+1):Nat):Int)=((a+1+j:Nat):Int)+1 by omega];exact zS
  ·have e':a+1+j=n:=by have:=Zd1 e;dsimp only at this;omega
   have e2:zdI n oth (a+1)=zdI n oth a++zbW oth a j:=by rw[zyg,show n - (a+1)=j by omega]
   refine zR ?_;refine obr (zm (by first|omega|(dsimp only;omega))) ?_;(conv=>whnf)
   exact⟨⟨a+1,Md,q,k,cq⟩,⟨by omega,by rw[e2,List.length_append];exact hk,by rw[e2];exact hN⟩,by dsimp only;omega,zS⟩
 ·have g':a=n:=by have:=Zd1 g;dsimp only at this;omega
  subst g';refine zR ?_;(conv=>whnf)
  subst hk;exact⟨q,cq,rfl,hN⟩
end
end Go.Proofs.YtpnhjkiligohnaaGreatDoor
