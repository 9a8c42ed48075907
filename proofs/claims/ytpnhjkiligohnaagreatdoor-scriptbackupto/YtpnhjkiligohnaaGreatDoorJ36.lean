/- Part of this proof;laid by program. -/
import Derived.Test.YtpnhjkiligohnaaGreatDoorJ34
import Derived.Test.YtpnhjkiligohnaaGreatDoorJ35
import Derived.Test.YtpnhjkiligohnaaGreatDoorJ33
set_option linter.unusedVariables false
set_option linter.unusedSimpArgs false
namespace Go.Proofs.YtpnhjkiligohnaaGreatDoor
open Go Go.Vm
attribute [local irreducible] Brn Ob Grow CallsM inR zbf zaW Mem.row Mem.cells Mem.setCells Mem.upd Go.Vm.Own zbO zcz zcc zbE New SrcOk zap NewSl Mem.textAt Mem.mapAt Mem.iterAt zaV kfind Wr zch Elems
set_option maxRecDepth 10000
section
variable {M B B0:Mem}
theorem zbe (n:Int):Value.int .u8 (IntKind.u8.wrap n)=zi (zh n):=by
 unfold zh zi;congr 1;simp only[IntKind.wrap,IntKind.signed,IntKind.bits];simp;omega
theorem zdd {nodes:Nat} (hN2:nodes≤64) {x:StpI} (h:z8 nodes x=true):ziX x:=by
 obtain⟨h1,h2⟩:=goodS_iff.1 h;exact zCM hN2 h1 h2
theorem zUo (q:Option Addr) (n c:Nat):zo0 q n c 0 = .agg #[.slice q n c,.int .i64 0]:=by simp[zo0]
theorem zUR {nodes:Nat} (hN:0<nodes) (hN2:nodes≤64) {x:StpI} {l:List UInt8} (hl:l=zas x) (hk:1≤x.kind∧x.kind≤12):z8 nodes x=(decide (min (zcL l nodes 0).2 l.length=l.length)&&zpk (zcL l nodes 0).1.toI x):=by
 subst hl;have h1:=zP3 hN hN2 (x:=x) hk
 cases hg:z8 nodes x
 ·symm;cases hc:(decide (min (zcL (zas x) nodes 0).2 (zas x).length=(zas x).length)&&zpk (zcL (zas x) nodes 0).1.toI x)
  ·rfl
  ·simp only[Bool.and_eq_true,decide_eq_true_eq,sameP_iff] at hc;rw[goodS_iff.2 ⟨hk,h1.1 ⟨by omega,hc.2⟩⟩] at hg;cases hg
 ·obtain⟨h3,h4⟩:=h1.2 (goodS_iff.1 hg).2;rw[sameP_iff.2 h4,decide_eq_true (by omega)];rfl
theorem zTF {nodes:Nat} {x:StpI} {q:Option Addr} {c:Nat} {L l:List UInt8} (hl:l=zas x) (h:NewSl B T.zF 1 q (L.length+l.length) c (L.map zi++l.map zi) M) (h2:l.length≤67) {w:Bool} (hw:w=z8 nodes x) :
  ∃ q' c' L',Value.tuple #[.slice q (L.length+l.length) c,.bool w] = .tuple #[.slice q' L'.length c',.bool (z8 nodes x)]∧NewSl B T.zF 1 q' L'.length c' (L'.map zi) M∧L'.length≤L.length+70∧(z8 nodes x=true→L'=L++zas x):=by
 subst hl;have e:(L++zas x).length=L.length+(zas x).length:=List.length_append
 exact⟨q,c,L++zas x,by rw[e,hw],by rw[e,List.map_append];exact h,by omega,fun _=>rfl⟩
set_option maxRecDepth 100000 in
theorem zEo {q:Option Addr} {c:Nat} {L:List UInt8} (h:NewSl B T.zF 1 q L.length c (L.map zi) M) {x:StpI} (hx:ztT x) {qd:Option Addr} {cd:Nat} (hd:SrcOk B 1 qd x.data.length (x.data.map zi)) {nodes:Nat} (hN:0<nodes) (hN2:nodes≤64) (hL:L.length≤4194000) :
  CallsM Tryz.prog F.zfq [.slice q L.length c,.agg (zA6 x qd cd).toArray,.int .i64 nodes] M fun u M'=>∃ q' c' L',u = .tuple #[.slice q' L'.length c',.bool (z8 nodes x)]∧NewSl B T.zF 1 q' L'.length c' (L'.map zi) M'∧L'.length≤L.length+70∧(z8 nodes x=true→L'=L++zas x):=by
 obtain⟨k,nd,to,n,data⟩:=x;obtain⟨r0,r1,r2,r3,r4⟩:=hx;unfold zA6;dsimp only at r0 r1 r2 r3 r4 hd ⊢;refine zu2 (by simp) ?_;(conv=>whnf);refine brn (fun g=>?_) (fun g=>?_)
 ·have g':=Zd0 g
  have hf:z8 nodes ⟨k,nd,to,n,data⟩=false:=by
   cases hx:z8 nodes ⟨k,nd,to,n,data⟩
   ·rfl
   ·have:=zdd hN2 hx;unfold ziX at this;dsimp only at this;omega
  (conv=>whnf);exact⟨q,c,L,by rw[hf],h,by omega,fun e=>by rw[hf] at e;cases e⟩
 have g1:=Zd1 g;clear g;(conv=>whnf);refine brn (fun g=>?_) (fun g=>?_)
 ·have g':=Zd0 g
  have hf:z8 nodes ⟨k,nd,to,n,data⟩=false:=by
   cases hx:z8 nodes ⟨k,nd,to,n,data⟩
   ·rfl
   ·have:=zdd hN2 hx;unfold ziX at this;dsimp only at this;omega
  (conv=>whnf);exact⟨q,c,L,by rw[hf],h,by omega,fun e=>by rw[hf] at e;cases e⟩
 have g2:=Zd1 g;clear g;(conv=>whnf);refine brn (fun g=>?_) (fun g=>?_)
 ·have g':=Zd0 g
  have hf:z8 nodes ⟨k,nd,to,n,data⟩=false:=by
   cases hx:z8 nodes ⟨k,nd,to,n,data⟩
   ·rfl
   ·have:=zdd hN2 hx;unfold ziX at this;dsimp only at this;omega
  (conv=>whnf);exact⟨q,c,L,by rw[hf],h,by omega,fun e=>by rw[hf] at e;cases e⟩
 have g3:=Zd1 g;clear g;(conv=>whnf);refine brn (fun g=>?_) (fun g=>?_)
 ·have g':=Zd0 g
  have hf:z8 nodes ⟨k,nd,to,n,data⟩=false:=by
   cases hx:z8 nodes ⟨k,nd,to,n,data⟩
   ·rfl
   ·have:=zdd hN2 hx;unfold ziX at this;dsimp only at this;omega
  (conv=>whnf);exact⟨q,c,L,by rw[hf],h,by omega,fun e=>by rw[hf] at e;cases e⟩
 have g4:=Zd1 g;clear g;(conv=>whnf);refine brn (fun g=>?_) (fun g=>?_)
 ·have g':=Zd0 g
  have hf:z8 nodes ⟨k,nd,to,n,data⟩=false:=by
   cases hx:z8 nodes ⟨k,nd,to,n,data⟩
   ·rfl
   ·have:=zdd hN2 hx;unfold ziX at this;dsimp only at this;omega
  (conv=>whnf);exact⟨q,c,L,by rw[hf],h,by omega,fun e=>by rw[hf] at e;cases e⟩
 have g5:=Zd1 g;clear g;(conv=>whnf);refine brn (fun g=>?_) (fun g=>?_)
 ·have g':=Zd0 g
  have hf:z8 nodes ⟨k,nd,to,n,data⟩=false:=by
   cases hx:z8 nodes ⟨k,nd,to,n,data⟩
   ·rfl
   ·have:=zdd hN2 hx;unfold ziX at this;dsimp only at this;omega
  (conv=>whnf);exact⟨q,c,L,by rw[hf],h,by omega,fun e=>by rw[hf] at e;cases e⟩
 have g6:=Zd1 g;clear g;(conv=>whnf);refine brn (fun g=>?_) (fun g=>?_)
 ·have g':=Zd0 g
  have hf:z8 nodes ⟨k,nd,to,n,data⟩=false:=by
   cases hx:z8 nodes ⟨k,nd,to,n,data⟩
   ·rfl
   ·have:=zdd hN2 hx;unfold ziX at this;dsimp only at this;omega
  (conv=>whnf);exact⟨q,c,L,by rw[hf],h,by omega,fun e=>by rw[hf] at e;cases e⟩
 have g7:=Zd1 g;clear g;(conv=>whnf);refine brn (fun g=>?_) (fun g=>?_)
 ·have g':=Zd0 g
  have hf:z8 nodes ⟨k,nd,to,n,data⟩=false:=by
   cases hx:z8 nodes ⟨k,nd,to,n,data⟩
   ·rfl
   ·have:=zdd hN2 hx;unfold ziX at this;dsimp only at this;omega
  (conv=>whnf);exact⟨q,c,L,by rw[hf],h,by omega,fun e=>by rw[hf] at e;cases e⟩
 have g8:=Zd1 g;clear g;(conv=>whnf);refine brn (fun g=>?_) (fun g=>?_)
 ·have g':=Zd0 g
  have hf:z8 nodes ⟨k,nd,to,n,data⟩=false:=by
   cases hx:z8 nodes ⟨k,nd,to,n,data⟩
   ·rfl
   ·have:=zdd hN2 hx;unfold ziX at this;dsimp only at this;omega
  (conv=>whnf);exact⟨q,c,L,by rw[hf],h,by omega,fun e=>by rw[hf] at e;cases e⟩
 have g9:=Zd1 g;clear g;(conv=>whnf);refine obr (zx (by omega)) ?_;(conv=>whnf);refine new (fun b hb=>?_);replace hb:M b=none:=hb;have hb1:=zbe (k - 1)
 obtain⟨M1,hM1⟩:∃ M1,M1=M.setCells b T.zF [Value.int .u8 (IntKind.u8.wrap (k - 1))]:=⟨_,rfl⟩
 have o1:NewSl M T.zF 1 (some ⟨b,0,none⟩) 1 1 ([zh (k - 1)].map zi) M1:=by
  rw[hM1,hb1];exact NewSl.lit hb _ _ _ _ rfl
 (conv=>whnf);erw [←hM1];have e9:0≤n→zh (n / 256)=zh (n.tdiv 256):=fun h=>by rw[Int.tdiv_eq_ediv_of_nonneg h]
 rcases zGc (k:=k) (by omega) with rfl|rfl|rfl|rfl|rfl|rfl|rfl|rfl|rfl|rfl|rfl|rfl
 repeat' ((conv=>whnf);first|refine brn_t rfl ?_|refine brn_f rfl ?_|refine ob rfl ?_|refine obr rfl ?_|refine ob (by decide) ?_|refine obr (by decide) ?_|refine brn_t (by kernel_rfl) ?_|refine brn_f (by kernel_rfl) ?_|fail)
 (conv=>whnf);refine appK M _ o1 (by decide) (by decide) (by simp[Value.oneCell']) (fun q2 c2 M2 h2 hk2=>?_);have o2:=h2
 obtain⟨l,hl⟩:∃ l,l=zas ⟨1,nd,to,n,data⟩:=⟨_,rfl⟩
 have hP:[zh (1 - 1),zh nd,zh to,zh data.length].map zi++data.map zi=l.map zi:=by rw[hl];simp[zas,zdo]
 rw[show [zh (1 - 1)].map zi++[Value.int .u8 (IntKind.u8.wrap nd),Value.int .u8 (IntKind.u8.wrap to),Value.int .u8 (IntKind.u8.wrap ((data.length:Nat):Int))]=[zh (1 - 1),zh nd,zh to,zh data.length].map zi by simp[zbe]] at o2;generalize [zh (1 - 1),zh nd,zh to,zh data.length].map zi=H at hP o2
 rotate_left
 repeat' ((conv=>whnf);first|refine brn_t rfl ?_|refine brn_f rfl ?_|refine ob rfl ?_|refine obr rfl ?_|refine ob (by decide) ?_|refine obr (by decide) ?_|refine brn_t (by kernel_rfl) ?_|refine brn_f (by kernel_rfl) ?_|fail)
 (conv=>whnf);refine appK M _ o1 (by decide) (by decide) (by simp[Value.oneCell']) (fun q2 c2 M2 h2 hk2=>?_);have o2:=h2
 obtain⟨l,hl⟩:∃ l,l=zas ⟨2,nd,to,n,data⟩:=⟨_,rfl⟩
 have hP:[zh (2 - 1),zh nd].map zi++data.map zi=l.map zi:=by rw[hl];simp[zas,zdo]
 rw[show [zh (2 - 1)].map zi++[Value.int .u8 (IntKind.u8.wrap nd)]=[zh (2 - 1),zh nd].map zi by simp[zbe]] at o2;generalize [zh (2 - 1),zh nd].map zi=H at hP o2
 rotate_left
 repeat' ((conv=>whnf);first|refine brn_t rfl ?_|refine brn_f rfl ?_|refine ob rfl ?_|refine obr rfl ?_|refine ob (by decide) ?_|refine obr (by decide) ?_|refine brn_t (by kernel_rfl) ?_|refine brn_f (by kernel_rfl) ?_|fail)
 have o2:=o1;obtain⟨l,hl⟩:∃ l,l=zas ⟨3,nd,to,n,data⟩:=⟨_,rfl⟩
 have hP:[zh (3 - 1)].map zi++data.map zi=l.map zi:=by rw[hl];simp[zas,zdo]
 generalize [zh (3 - 1)].map zi=H at hP o2
 rotate_left
 repeat' ((conv=>whnf);first|refine brn_t rfl ?_|refine brn_f rfl ?_|refine ob rfl ?_|refine obr rfl ?_|refine ob (by decide) ?_|refine obr (by decide) ?_|refine brn_t (by kernel_rfl) ?_|refine brn_f (by kernel_rfl) ?_|fail)
 (conv=>whnf);refine appK M _ o1 (by decide) (by decide) (by simp[Value.oneCell']) (fun q2 c2 M2 h2 hk2=>?_);have o2:=h2
 obtain⟨l,hl⟩:∃ l,l=zas ⟨4,nd,to,n,data⟩:=⟨_,rfl⟩
 have hP:[zh (4 - 1),zh nd,zh to,zh n].map zi++data.map zi=l.map zi:=by rw[hl];simp[zas,zdo]
 rw[show [zh (4 - 1)].map zi++[Value.int .u8 (IntKind.u8.wrap nd),Value.int .u8 (IntKind.u8.wrap to),Value.int .u8 (IntKind.u8.wrap n)]=[zh (4 - 1),zh nd,zh to,zh n].map zi by simp[zbe]] at o2;generalize [zh (4 - 1),zh nd,zh to,zh n].map zi=H at hP o2
 rotate_left
 repeat' ((conv=>whnf);first|refine brn_t rfl ?_|refine brn_f rfl ?_|refine ob rfl ?_|refine obr rfl ?_|refine ob (by decide) ?_|refine obr (by decide) ?_|refine brn_t (by kernel_rfl) ?_|refine brn_f (by kernel_rfl) ?_|fail)
 (conv=>whnf);refine appK M _ o1 (by decide) (by decide) (by simp[Value.oneCell']) (fun q2 c2 M2 h2 hk2=>?_);have o2:=h2
 obtain⟨l,hl⟩:∃ l,l=zas ⟨5,nd,to,n,data⟩:=⟨_,rfl⟩
 have hP:[zh (5 - 1),zh nd,zh to,zh n].map zi++data.map zi=l.map zi:=by rw[hl];simp[zas,zdo]
 rw[show [zh (5 - 1)].map zi++[Value.int .u8 (IntKind.u8.wrap nd),Value.int .u8 (IntKind.u8.wrap to),Value.int .u8 (IntKind.u8.wrap n)]=[zh (5 - 1),zh nd,zh to,zh n].map zi by simp[zbe]] at o2;generalize [zh (5 - 1),zh nd,zh to,zh n].map zi=H at hP o2
 rotate_left
 repeat' ((conv=>whnf);first|refine brn_t rfl ?_|refine brn_f rfl ?_|refine ob rfl ?_|refine obr rfl ?_|refine ob (by decide) ?_|refine obr (by decide) ?_|refine brn_t (by kernel_rfl) ?_|refine brn_f (by kernel_rfl) ?_|fail)
 (conv=>whnf);refine appK M _ o1 (by decide) (by decide) (by simp[Value.oneCell']) (fun q2 c2 M2 h2 hk2=>?_);have o2:=h2
 obtain⟨l,hl⟩:∃ l,l=zas ⟨6,nd,to,n,data⟩:=⟨_,rfl⟩
 have hP:[zh (6 - 1),zh nd,zh to,zh n].map zi++data.map zi=l.map zi:=by rw[hl];simp[zas,zdo]
 rw[show [zh (6 - 1)].map zi++[Value.int .u8 (IntKind.u8.wrap nd),Value.int .u8 (IntKind.u8.wrap to),Value.int .u8 (IntKind.u8.wrap n)]=[zh (6 - 1),zh nd,zh to,zh n].map zi by simp[zbe]] at o2;generalize [zh (6 - 1),zh nd,zh to,zh n].map zi=H at hP o2
 rotate_left
 repeat' ((conv=>whnf);first|refine brn_t rfl ?_|refine brn_f rfl ?_|refine ob rfl ?_|refine obr rfl ?_|refine ob (by decide) ?_|refine obr (by decide) ?_|refine brn_t (by kernel_rfl) ?_|refine brn_f (by kernel_rfl) ?_|fail)
 (conv=>whnf);refine appK M _ o1 (by decide) (by decide) (by simp[Value.oneCell']) (fun q2 c2 M2 h2 hk2=>?_);have o2:=h2
 obtain⟨l,hl⟩:∃ l,l=zas ⟨7,nd,to,n,data⟩:=⟨_,rfl⟩
 have hP:[zh (7 - 1),zh nd,zh data.length].map zi++data.map zi=l.map zi:=by rw[hl];simp[zas,zdo]
 rw[show [zh (7 - 1)].map zi++[Value.int .u8 (IntKind.u8.wrap nd),Value.int .u8 (IntKind.u8.wrap ((data.length:Nat):Int))]=[zh (7 - 1),zh nd,zh data.length].map zi by simp[zbe]] at o2;generalize [zh (7 - 1),zh nd,zh data.length].map zi=H at hP o2
 rotate_left
 repeat' ((conv=>whnf);first|refine brn_t rfl ?_|refine brn_f rfl ?_|refine ob rfl ?_|refine obr rfl ?_|refine ob (by decide) ?_|refine obr (by decide) ?_|refine brn_t (by kernel_rfl) ?_|refine brn_f (by kernel_rfl) ?_|fail)
 (conv=>whnf);refine appK M _ o1 (by decide) (by decide) (by simp[Value.oneCell']) (fun q2 c2 M2 h2 hk2=>?_);have o2:=h2
 obtain⟨l,hl⟩:∃ l,l=zas ⟨8,nd,to,n,data⟩:=⟨_,rfl⟩
 have hP:[zh (8 - 1),zh nd].map zi++data.map zi=l.map zi:=by rw[hl];simp[zas,zdo]
 rw[show [zh (8 - 1)].map zi++[Value.int .u8 (IntKind.u8.wrap nd)]=[zh (8 - 1),zh nd].map zi by simp[zbe]] at o2;generalize [zh (8 - 1),zh nd].map zi=H at hP o2
 rotate_left
 repeat' ((conv=>whnf);first|refine brn_t rfl ?_|refine brn_f rfl ?_|refine ob rfl ?_|refine obr rfl ?_|refine ob (by decide) ?_|refine obr (by decide) ?_|refine brn_t (by kernel_rfl) ?_|refine brn_f (by kernel_rfl) ?_|fail)
 (conv=>whnf);refine obr (zx (by rw[Int.tdiv_eq_ediv_of_nonneg (by omega)];omega)) ?_
 repeat' ((conv=>whnf);first|refine brn_t rfl ?_|refine brn_f rfl ?_|refine ob rfl ?_|refine obr rfl ?_|refine ob (by decide) ?_|refine obr (by decide) ?_|refine brn_t (by kernel_rfl) ?_|refine brn_f (by kernel_rfl) ?_|fail)
 (conv=>whnf);refine appK M _ o1 (by decide) (by decide) (by simp[Value.oneCell']) (fun q2 c2 M2 h2 hk2=>?_);have o2:=h2
 obtain⟨l,hl⟩:∃ l,l=zas ⟨9,nd,to,n,data⟩:=⟨_,rfl⟩
 have hP:[zh (9 - 1),zh nd,zh (n / 256)].map zi++data.map zi=l.map zi:=by rw[hl];simp[zas,zdo]
 rw[show [zh (9 - 1)].map zi++[Value.int .u8 (IntKind.u8.wrap nd),Value.int .u8 (IntKind.u8.wrap (n.tdiv 256))]=[zh (9 - 1),zh nd,zh (n / 256)].map zi by simp[zbe,e9 (by omega)]] at o2;generalize [zh (9 - 1),zh nd,zh (n / 256)].map zi=H at hP o2
 rotate_left
 repeat' ((conv=>whnf);first|refine brn_t rfl ?_|refine brn_f rfl ?_|refine ob rfl ?_|refine obr rfl ?_|refine ob (by decide) ?_|refine obr (by decide) ?_|refine brn_t (by kernel_rfl) ?_|refine brn_f (by kernel_rfl) ?_|fail)
 (conv=>whnf);refine appK M _ o1 (by decide) (by decide) (by simp[Value.oneCell']) (fun q2 c2 M2 h2 hk2=>?_);have o2:=h2
 obtain⟨l,hl⟩:∃ l,l=zas ⟨10,nd,to,n,data⟩:=⟨_,rfl⟩
 have hP:[zh (10 - 1),zh nd].map zi++data.map zi=l.map zi:=by rw[hl];simp[zas,zdo]
 rw[show [zh (10 - 1)].map zi++[Value.int .u8 (IntKind.u8.wrap nd)]=[zh (10 - 1),zh nd].map zi by simp[zbe]] at o2;generalize [zh (10 - 1),zh nd].map zi=H at hP o2
 rotate_left
 repeat' ((conv=>whnf);first|refine brn_t rfl ?_|refine brn_f rfl ?_|refine ob rfl ?_|refine obr rfl ?_|refine ob (by decide) ?_|refine obr (by decide) ?_|refine brn_t (by kernel_rfl) ?_|refine brn_f (by kernel_rfl) ?_|fail)
 (conv=>whnf);refine appK M _ o1 (by decide) (by decide) (by simp[Value.oneCell']) (fun q2 c2 M2 h2 hk2=>?_);have o2:=h2
 obtain⟨l,hl⟩:∃ l,l=zas ⟨11,nd,to,n,data⟩:=⟨_,rfl⟩
 have hP:[zh (11 - 1),zh nd,zh n].map zi++data.map zi=l.map zi:=by rw[hl];simp[zas,zdo]
 rw[show [zh (11 - 1)].map zi++[Value.int .u8 (IntKind.u8.wrap nd),Value.int .u8 (IntKind.u8.wrap n)]=[zh (11 - 1),zh nd,zh n].map zi by simp[zbe]] at o2;generalize [zh (11 - 1),zh nd,zh n].map zi=H at hP o2
 rotate_left
 repeat' ((conv=>whnf);first|refine brn_t rfl ?_|refine brn_f rfl ?_|refine ob rfl ?_|refine obr rfl ?_|refine ob (by decide) ?_|refine obr (by decide) ?_|refine brn_t (by kernel_rfl) ?_|refine brn_f (by kernel_rfl) ?_|fail)
 (conv=>whnf);refine appK M _ o1 (by decide) (by decide) (by simp[Value.oneCell']) (fun q2 c2 M2 h2 hk2=>?_);have o2:=h2
 obtain⟨l,hl⟩:∃ l,l=zas ⟨12,nd,to,n,data⟩:=⟨_,rfl⟩
 have hP:[zh (12 - 1),zh n].map zi++data.map zi=l.map zi:=by rw[hl];simp[zas,zdo]
 rw[show [zh (12 - 1)].map zi++[Value.int .u8 (IntKind.u8.wrap n)]=[zh (12 - 1),zh n].map zi by simp[zbe]] at o2;generalize [zh (12 - 1),zh n].map zi=H at hP o2
 rotate_left
 all_goals
  have hle2:=o2.le;have hMB:=Mem.le_trans h.le hle2
  refine zR ?_;(conv=>whnf);refine zN7 (hd.le hMB) ?_;refine appK M _ o2 (by omega) (by unfold maxLen;omega) (zv2 _) (fun q3 c3 M3 h3 hk3=>?_);rw[hP] at h3;have hml:=h3.src.maplen
  rw[←hml] at h3;erw [←hml];have hs0:=zPY (c:=c3) h3.src (by omega) 0 nodes hN hN2
  rw[zUo] at hs0;have hkey:=zUR hN hN2 hl (by dsimp only;omega)
  have hX:=hl;refine zR ?_;refine hs0.mono ?_;rintro u M4 ⟨qy,cy,rfl,hY⟩;have hM4:M.le M4:=Mem.le_trans h3.le hY.le
  have h4:=h.up hM4
  have hnq:∀ {E:TypeId} {s k c:Nat} {q':Option Addr} {LL:List Value} {A A':Mem},NewSl A E s q' k c LL A'→M.le A→∀ r,q'=some r→¬blk q r.block:=fun hA hle r hr ⟨p,hp,e⟩=>by
   obtain⟨_,cs,hc⟩:=h.block hp;have:=(hA.block hr).1
   rw[←e] at this;have h9:=hle _ _ hc
   rw[this] at h9;cases h9
  have s1:=(h3.src.le hY.le).minus (hnq h3 (Mem.le_refl _));have s2:=hY.src.minus (hnq hY h3.le)
  have hBX:B.le (M4.minus (blk q)):=Mem.le_minus (Mem.le_trans h.le hM4) fun x ⟨r,hr,e⟩=>e▸(h.block hr).1
  refine zX ?_;refine⟨M4.minus (blk q),Mem.minus_le _ _,?_⟩;refine zX ?_;(conv=>whnf);refine zN7 (h3.src.le hY.le) ?_;refine appK B _ h4 (by omega) (by unfold maxLen;omega) (zv2 _) (fun q5 c5 M5 h5 hk5=>?_);have hX5:=Mem.keep_minus.1 hk5
  refine zT (hX5) ?_;(conv=>whnf);refine brn (fun f1=>?_) (fun f1=>?_)
  ·have f1':=Zd0 f1;refine zR ?_;refine(zIg (x:=StpR.toI (zcL l nodes 0).1) (y:=⟨_,nd,to,n,data⟩) (q:=qy) (c:=cy) (s2.le hX5) (hd.le (Mem.le_trans hBX hX5))).mono ?_;rintro u _ ⟨rfl,rfl⟩;refine zT (hX5) ?_;refine zR ?_;(conv=>whnf)
   exact zTF hX h5 (by omega) (by rw[hkey,decide_eq_true (by omega),Bool.true_and])
  ·have f1':=Zd1 f1;refine zR ?_;(conv=>whnf)
   exact zTF hX h5 (by omega) (by rw[hkey,decide_eq_false (by omega),Bool.false_and])
end
section
variable {M B B0:Mem}
def zxb (S:zm5):Prop:=zai S.nodes∧(∀ p∈S.links,zai p.1∧zai p.2)∧zMf S.set∧∀ x∈S.steps,ztT x
theorem LayAt.kept {M':Mem} {bo bu:Nat} {ok:Bool} {L:List UInt8} {X:Nat→Prop} (h:LayAt B M bo bu ok L) (hk:Mem.keep X M M') (hB:∀ b,X b→B b=none) (ho:¬X bo) (hu:¬X bu) (hr:∀ b cs,M.has b T.zF cs→¬X b):LayAt B M' bo bu ok L:=by
 obtain⟨h1,h2,h3,h4,q,c,h5,h6⟩:=h
 exact⟨hk.le h1 hB,h2,h3,hk _ _ ho h4,q,c,hk _ _ hu h5,h6.keep hk hB fun p hp=>by
  obtain⟨_,cs,hc⟩:=h6.block hp
  exact hr _ _ hc⟩
theorem LayAt.setOk {bo bu:Nat} {ok:Bool} {L:List UInt8} (h:LayAt B M bo bu ok L) (x:Bool):LayAt B (M.setCells bo T.zar [.bool x]) bo bu x L∧Mem.keep (fun y=>y=bo) M (M.setCells bo T.zar [.bool x]):=by
 obtain⟨h1,h2,h3,h4,q,c,h5,h6⟩:=h;have hk:Mem.keep (fun y=>y=bo) M (M.setCells bo T.zar [.bool x]):=fun y o hy hyo=>by unfold Mem.setCells;rw[Mem.upd_ne _ _ hy];exact hyo
 refine⟨⟨hk.le h1 (fun _ e=>e▸h2),h2,h3,Mem.has_setCells,q,c,hk _ _ (fun e=>by subst e;exact absurd (h4.inj h5).1 (by decide)) h5,h6.keep hk (fun _ e=>e▸h2) fun r hr e=>?_⟩,hk⟩;obtain⟨_,cs,hc⟩:=h6.block hr;rw[e] at hc;exact absurd (hc.inj h4).1 (by decide)
theorem LayAt.self {bo bu:Nat} {ok:Bool} {L:List UInt8} (h:LayAt B M bo bu ok L):∃ X:Nat→Prop,LayAt (M.minus X) M bo bu ok L∧B.le (M.minus X)∧∀ y,X y→(∃ E cs,M.has y E cs∧(E=T.zar∨E=T.zae∨E=T.zF)):=by
 obtain⟨h1,h2,h3,h4,q,c,h5,h6⟩:=h;refine⟨fun y=>y=bo∨y=bu∨blk q y,⟨Mem.minus_le _ _,Mem.minus_in (.inl rfl),Mem.minus_in (.inr (.inl rfl)),h4,q,c,h5,h6.rebase2 (Mem.le_refl _) fun x hx => .inr (.inr hx)⟩,Mem.le_minus h1 ?_,?_⟩
 ·rintro b (rfl|rfl|⟨r,hr,rfl⟩)
  ·exact h2
  ·exact h3
  ·exact(h6.block hr).1
 ·rintro b (rfl|rfl|⟨r,hr,rfl⟩)
  ·exact⟨_,_,h4,.inl rfl⟩
  ·exact⟨_,_,h5,.inr (.inl rfl)⟩
  ·obtain⟨_,cs,hc⟩:=h6.block hr;exact⟨_,_,hc,.inr (.inr rfl)⟩
theorem zNT (l:List (Nat×Nat)):(ze8 l).length=2*l.length:=by
 unfold ze8
 induction l with
 | nil=>rfl
 | cons p l ih=>rw[List.flatMap_cons,List.length_append,ih];simp;omega
theorem zxc {M M':Mem} {E E':TypeId} {s n c b:Nat} {q:Option Addr} {L ds:List Value} (h:NewSl M E s q n c L M') (hb:M'.has b E' ds) (hE:E'≠E):¬blk q b:=fun ⟨r,hr,e⟩=>by
 obtain⟨_,cs,hc⟩:=h.block hr;rw[e] at hc;exact hE (hb.inj hc).1
theorem LayAt.up0 {M':Mem} {bo bu:Nat} {ok:Bool} {L:List UInt8} (h:LayAt B M bo bu ok L) (hle:M.le M'):LayAt B M' bo bu ok L:=by
 obtain⟨h1,h2,h3,h4,q,c,h5,h6⟩:=h;exact⟨Mem.le_trans h1 hle,h2,h3,hle _ _ h4,q,c,hle _ _ h5,h6.up hle⟩
set_option maxRecDepth 100000 in
theorem zNU {v:Value} {S:zm5} (hS:ScAt M v S) (hR:zxb S):CallsM Tryz.prog F.zbP [v] M fun u M'=>M.le M'∧∃ q n c,(zok S∧u = .tuple #[.slice q n c,.int .i64 0]∧NewSl M T.zF 1 q n c ((zA4 S).map zi) M')∨(¬zok S∧u = .tuple #[.slice none 0 0,.int .i64 2]):=by
 obtain⟨ql,nl,cl,qs,ns,cs,rfl,hLk,hnl,hSt,hns⟩:=hS;obtain⟨rn,rl,rs,rst⟩:=hR;have hll:S.links.length=nl:=SrcOk.flen (enc:=zdO) (s:=2) (fun _=>rfl) hLk (by decide)
 have hsl:S.steps.length=ns:=hSt.len;refine zzJ (by simp) ?_;(conv=>whnf);refine brn (fun g1=>?_) (fun g1=>?_)
 ·have g1':=Zd0 g1;(conv=>whnf)
  refine⟨Mem.le_refl _,none,0,0,.inr ⟨?_,rfl⟩⟩;unfold zok;omega
 have g1':=Zd1 g1;(conv=>whnf);refine brn (fun g2=>?_) (fun g2=>?_)
 ·have g2':=Zd0 g2;(conv=>whnf)
  refine⟨Mem.le_refl _,none,0,0,.inr ⟨?_,rfl⟩⟩;unfold zok;omega
 have g2':=Zd1 g2;(conv=>whnf);refine brn (fun g3=>?_) (fun g3=>?_)
 ·have g3':=Zd0 g3;(conv=>whnf)
  refine⟨Mem.le_refl _,none,0,0,.inr ⟨?_,rfl⟩⟩;unfold zok;omega
 have g3':=Zd1 g3;refine zR ?_;refine obr (zx (by unfold zai at rn;omega)) ?_;(conv=>whnf);refine new (fun bo hbo=>?_);replace hbo:M bo=none:=hbo;(conv=>whnf);refine new (fun bu hbu=>?_);have hbu':(M.setCells bo T.zar [.bool true]) bu=none:=hbu
 have hne:bu≠bo:=by rintro rfl;simp[Mem.setCells,Mem.upd] at hbu'
 have hbuM:M bu=none:=by simpa[Mem.setCells,Mem.upd,hne] using hbu'
 obtain⟨M1,hM1⟩:∃ M1,M1=(M.setCells bo T.zar [.bool true]).setCells bu T.zae [.slice none 0 0]:=⟨_,rfl⟩
 have hle1:M.le M1:=hM1▸Mem.le_trans (Mem.le_setCells hbo) (Mem.le_setCells hbu');have h1:LayAt M M1 bo bu true []:=⟨hle1,hbo,hbuM,hM1▸Mem.has.le (Mem.le_setCells hbu') Mem.has_setCells,none,0,hM1▸Mem.has_setCells,(NewSl.none _ _ _).up hle1⟩
 (conv=>whnf);erw [←hM1];refine(zac h1 (n:=S.nodes - 1) (by unfold zai at *; omega) (b:=1) (m:=64) (by decide) (by decide) (by simp)).mono ?_;rintro u M2 ⟨rfl,h2⟩;have hg0:zy (S.nodes - 1,1,64)=true:=(zq2 _ _).2 (by omega)
 rw[hg0] at h2;replace h2:LayAt M M2 bo bu true [zI (S.nodes - 1,1,64)]:=h2;obtain⟨bb0,hbb0⟩:∃ b,b=zI (S.nodes - 1,1,64):=⟨_,rfl⟩
 rw[←hbb0] at h2;obtain⟨N,hNn⟩:∃ N:Nat,S.nodes=N:=⟨S.nodes.toNat,by omega⟩
 have hN:1≤N∧N≤64:=by omega
 refine zR ?_;(conv=>whnf);refine new (fun mb hmb=>?_);replace hmb:M2 mb=none:=hmb;obtain⟨M3,hM3⟩:∃ M3,M3=M2.upd mb (.map #[] 0):=⟨_,rfl⟩
 have hMmb:M mb=none:=zxv h2.1 hmb;have h3:LayAt M M3 bo bu true [bb0]:=h2.up0 (hM3▸Mem.le_upd hmb)
 have hO3:OthAt M3 mb (zbr N (S.links.take 0)):=⟨[],hM3▸MapAt.new M2 mb,fun p=>by simp[zaS,zbr]⟩
 (conv=>whnf);erw [←hM3];have mbN:∀ {Mc:Mem} {l:List (Nat×Nat)} {b:Nat} {E:TypeId} {ds:List Value},OthAt Mc mb l→Mc.has b E ds→b≠mb:=fun ⟨_,hm,_⟩ hb=>hm.nb hb
 refine zgk (σ:=Nat×Mem×Option Addr×Nat×Nat) [41,8] (fun y=>[(41,.int .i64 y.1),(8,.slice y.2.2.1 y.2.2.2.1 y.2.2.2.2)]) (fun _=>[BE.live T.zdm ((zuV S ql nl cl qs ns cs).map SC.v),BE.gone bu,BE.gone bo]) (fun y=>y.2.1)
  (fun|⟨i,Mc,q,k,cq⟩=>i≤nl∧LayAt M Mc bo bu true [bb0]∧OthAt Mc mb (zbr N (S.links.take i))∧k=(zbr N (S.links.take i)).length∧NewSl M T.zaD 2 q k cq ((zbr N (S.links.take i)).flatMap zkv) Mc) (fun y=>nl - y.1) ⟨0,M3,none,0,0⟩ ⟨by omega,h3,hO3,by simp[zbr],(NewSl.none _ _ _).up h3.1⟩ zS ?_
 rintro ⟨i,Mc,q,k,cq⟩ ⟨hi,hA,hO,hk,hQ⟩;(conv=>whnf);refine brn (fun g=>?_) (fun g=>?_)
 ·have g':i<nl:=by have:=Zd0 g;dsimp only at this;omega
  obtain⟨z,hz⟩:∃ z,S.links[i]? = some z:=⟨_,List.getElem?_eq_getElem (by omega)⟩
  obtain⟨b1,o1,hq1,hr1⟩:=SrcOk.fall (enc:=zdO) (s:=2) (fun _=>rfl) (hLk.le hA.1) (by decide) hz;have hrw:=zMg N S.links hz
  have hrl:=zEE N (S.links.take i);rw[List.length_take] at hrl;have hzR:=rl z (List.mem_of_getElem? hz)
  obtain⟨A,Bz⟩:=z;dsimp only at hrw hzR;subst hq1;(conv=>whnf);refine ob (by first|omega|(dsimp only;omega)) ?_;(conv=>whnf);refine on hr1 ?_;(conv=>whnf);refine brn (fun c1=>?_) (fun c1=>?_)
  ·have c1':=Zd0 c1;(conv=>whnf);refine brn (fun c2=>?_) (fun c2=>?_)
   ·have c2':=Zd0 c2;(conv=>whnf);refine obr (zx (by unfold zai at *; omega)) ?_;(conv=>whnf);refine brn (fun c3=>?_) (fun c3=>?_)
    ·have c3':=Zd0 c3;(conv=>whnf);refine brn (fun c4=>?_) (fun c4=>?_)
     ·have c4':=Zd0 c4;rw[if_pos (by omega)] at hrw;obtain⟨a,rfl⟩:∃ a:Nat,A=a:=⟨A.toNat,by omega⟩
      obtain⟨b,rfl⟩:∃ b:Nat,Bz=b:=⟨Bz.toNat,by omega⟩
      dsimp only [Int.toNat_natCast] at hrw;obtain⟨m,hmA,hmg⟩:=hO;(conv=>whnf)
      refine hmA.put zJF (a,b) true fun p f hm=>?_
      obtain⟨M7,hM7⟩:∃ M7,M7=Mc.upd mb (mput p f (kvL (a,b)) (vvB true)):=⟨_,rfl⟩
      have hk7:Mem.keep (fun y=>y=mb) Mc M7:=hM7▸Mem.keep_upd _ _ rfl;have hA7:LayAt M M7 bo bu true [bb0]:=hA.kept hk7 (fun _ e=>e▸hMmb) (hmA.nb hA.2.2.2.1) (by obtain⟨_,_,_,_,_,_,hu,_⟩:=hA;exact hmA.nb hu) (fun b cs hb=>hmA.nb hb)
      have hO7:OthAt M7 mb (zbr N (S.links.take (i+1))):=by
       refine⟨_,hM7▸hm Mc,fun z=>?_⟩;rw[zMI,hmg,hrw];simp only[List.mem_append,List.mem_singleton];by_cases hz:z=(a,b)
       ·rw[if_pos hz,if_pos (.inr hz)]
       ·rw[if_neg hz];by_cases hz2:z∈zbr N (S.links.take i)
        ·rw[if_pos hz2,if_pos (.inl hz2)]
        ·rw[if_neg hz2,if_neg];rintro (h|h)
         ·exact hz2 h
         ·exact hz h
      have hQ7:NewSl M T.zaD 2 q k cq ((zbr N (S.links.take i)).flatMap zkv) M7:=hQ.keep hk7 (fun _ e=>e▸hMmb) fun r hr=>by
       obtain⟨_,cs,hc⟩:=hQ.block hr;exact hmA.nb hc
      (conv=>whnf);erw [←hM7];refine zDi M hQ7 (a,b) rfl (by dsimp only;omega) (by dsimp only;simp[maxLen];omega) (by intro u hu;simp at hu;rcases hu with rfl|rfl<;>rfl) fun q6 c6 M6 h6 hk6=>?_
      have hA6:LayAt M M6 bo bu true [bb0]:=hA7.kept hk6 (fun _ ⟨r,hr,e⟩=>e▸(hQ7.block hr).1) (zxc hQ7 hA7.2.2.2.1 (by decide)) (by obtain⟨_,_,_,_,_,_,hu,_⟩:=hA7;exact zxc hQ7 hu (by decide)) (fun b cs hb=>zxc hQ7 hb (by decide))
      have hO6:=hO7.keep hk6 (fun ⟨r,hr,e⟩=>by
       obtain⟨_,cs,hc⟩:=hQ7.block hr
       exact mbN hO7 hc e)
      (conv=>whnf);refine obr (zx (by first|omega|(dsimp only;omega))) ?_;(conv=>whnf)
      refine⟨⟨i+1,M6,q6,k+1,c6⟩,⟨by omega,hA6,hO6,?_,?_⟩,by dsimp only;omega,zS⟩
      ·rw[hrw,List.length_append,hk];rfl
      ·rw[hrw];exact h6
     ·have c4':=Zd1 c4;rw[if_neg (by omega),List.append_nil] at hrw;(conv=>whnf);refine obr (zx (by first|omega|(dsimp only;omega))) ?_;(conv=>whnf)
      refine⟨⟨i+1,Mc,q,k,cq⟩,⟨by omega,hA,?_,?_,?_⟩,by dsimp only;omega,zS⟩
      ·rw[hrw];exact hO
      ·rw[hrw];exact hk
      ·rw[hrw];exact hQ
    ·have c3':=Zd1 c3;rw[if_neg (by omega),List.append_nil] at hrw;(conv=>whnf);refine obr (zx (by first|omega|(dsimp only;omega))) ?_;(conv=>whnf)
     refine⟨⟨i+1,Mc,q,k,cq⟩,⟨by omega,hA,?_,?_,?_⟩,by dsimp only;omega,zS⟩
     ·rw[hrw];exact hO
     ·rw[hrw];exact hk
     ·rw[hrw];exact hQ
   ·have c2':=Zd1 c2;rw[if_neg (by omega),List.append_nil] at hrw;(conv=>whnf);refine obr (zx (by first|omega|(dsimp only;omega))) ?_;(conv=>whnf)
    refine⟨⟨i+1,Mc,q,k,cq⟩,⟨by omega,hA,?_,?_,?_⟩,by dsimp only;omega,zS⟩
    ·rw[hrw];exact hO
    ·rw[hrw];exact hk
    ·rw[hrw];exact hQ
  ·have c1':=Zd1 c1;rw[if_neg (by omega),List.append_nil] at hrw;(conv=>whnf);refine obr (zx (by first|omega|(dsimp only;omega))) ?_;(conv=>whnf)
   refine⟨⟨i+1,Mc,q,k,cq⟩,⟨by omega,hA,?_,?_,?_⟩,by dsimp only;omega,zS⟩
   ·rw[hrw];exact hO
   ·rw[hrw];exact hk
   ·rw[hrw];exact hQ
 ·have g':i=nl:=by have:=Zd1 g;dsimp only at this;omega
  subst g';have hW:zbr N (S.links.take i)=zbr N S.links:=by rw[List.take_of_length_le (by omega)]
  rw[hW] at hO hk hQ;obtain⟨R,hRR⟩:∃ R,R=zbr N S.links:=⟨_,rfl⟩
  rw[←hRR] at hO hk hQ;have hRl:R.length≤1048576:=by have:=zEE N S.links;rw[hRR];omega
  (conv=>whnf);erw [hNn];refine(zPX hO (n:=N) hN.2).mono ?_;rintro u M5 ⟨qw,cw,rfl,hL⟩;have hA5:=hA.up0 hL.le
  have hQ5:=hQ.up hL.le;have hL5:=hL.mono hA.1
  obtain⟨W,hW⟩:∃ W,W=zb2 N R:=⟨_,rfl⟩
  rw[←hW] at hL5;erw [←hW];refine zR ?_;(conv=>whnf);refine on hA5.2.2.2.1.cells ?_;(conv=>whnf);refine ob (by simp) ?_;obtain⟨M6,hM6⟩:∃ M6,M6=M5.setCells bo T.zar [.bool (decide ((W.length:Int)=i))]:=⟨_,rfl⟩
  obtain⟨hA6,hk6⟩:=hA5.setOk (decide ((W.length:Int)=i));rw[←hM6] at hA6 hk6
  have hQ6:=hQ5.keep hk6 (fun _ e=>e▸hbo) (fun r hr e=>by
   obtain⟨_,cs,hc⟩:=hQ5.block hr
   rw[e] at hc;exact absurd (hc.inj hA5.2.2.2.1).1 (by decide))
  have hL6:=hL5.keep hk6 (fun _ e=>e▸hbo) (fun r hr e=>by
   obtain⟨_,cs,hc⟩:=hL5.block hr
   rw[e] at hc;exact absurd (hc.inj hA5.2.2.2.1).1 (by decide))
  (conv=>whnf);erw [←hM6]
  refine zgk (σ:=Nat×Mem×Bool) [12] (fun y=>[(12,.int .i64 y.1)]) (fun _=>[BE.live T.zdm ((zuV S ql i cl qs ns cs).map SC.v),BE.gone bu,BE.gone bo]) (fun y=>y.2.1)
   (fun|⟨j,Md,b⟩=>j≤W.length∧LayAt M Md bo bu b [bb0]∧NewSl M T.zaD 2 q k cq (R.flatMap zkv) Md∧NewSl M T.zaD 2 qw W.length cw (W.flatMap zkv) Md∧(b=true→W.length=i∧(W.map zeb).take j=S.links.take j)∧(b=false→W.map zeb≠S.links)) (fun y=>W.length+(if y.2.2 then 1 else 0) - y.1) ⟨0,M6,_⟩ ⟨by omega,hA6,hQ6,hL6,fun h=>⟨by have:=Zd0 h;omega,by simp⟩,fun h e=>by have:=Zd1 h;have:=congrArg List.length e;simp at this;omega⟩ zS ?_
  rintro ⟨j,Md,b⟩ ⟨hj,hA7,hQ7,hL7,ht,hf⟩;(conv=>whnf);refine on (hA7.2.2.2.1.c1 rfl) ?_;cases b;have hok:decide (W.map zeb=S.links)=false:=decide_eq_false (hf rfl)
  refine zR ?_;(conv=>whnf)
  rotate_left
  obtain⟨hWl,hWt⟩:=ht rfl;(conv=>whnf);refine brn (fun e=>?_) (fun e=>?_)
  ·have e':j<W.length:=by have:=Zd0 e;dsimp only at this;omega
   obtain⟨z,hz⟩:∃ z,W[j]? = some z:=⟨_,List.getElem?_eq_getElem (by omega)⟩
   obtain⟨y,hy⟩:∃ y,S.links[j]? = some y:=⟨_,List.getElem?_eq_getElem (by omega)⟩
   obtain⟨b1,o1,rfl,hr1⟩:=SrcOk.fall (enc:=zkv) (s:=2) (fun _=>rfl) hL7.src (by decide) hz;obtain⟨b2,o2,rfl,hr2⟩:=SrcOk.fall (enc:=zdO) (s:=2) (fun _=>rfl) (hLk.le hA7.1) (by decide) hy;obtain⟨z1,z2⟩:=z;obtain⟨y1,y2⟩:=y;(conv=>whnf);refine ob (by first|omega|(dsimp only;omega)) ?_;(conv=>whnf);refine on hr1 ?_;(conv=>whnf);refine ob (by first|omega|(dsimp only;omega)) ?_;(conv=>whnf);refine on hr2 ?_;refine zX ?_;(conv=>whnf);refine on hA7.2.2.2.1.cells ?_;(conv=>whnf);refine ob (by simp) ?_;obtain⟨X,hX⟩:∃ X:Bool,X=(decide ((z1:Int)=y1)&&(decide ((z2:Int)=y2)&&true)):=⟨_,rfl⟩
   obtain⟨M8,hM8⟩:∃ M8,M8=Md.setCells bo T.zar [.bool (decide ((z1:Int)=y1)&&(decide ((z2:Int)=y2)&&true))]:=⟨_,rfl⟩
   obtain⟨hA8,hk8⟩:=hA7.setOk X;rw[hX,←hM8,←hX] at hA8;rw[hX,←hM8] at hk8
   have hb8:∀ {E:TypeId} {s n c:Nat} {q:Option Addr} {L:List Value},NewSl M E s q n c L Md→E≠T.zar→NewSl M E s q n c L M8:=fun h hE=>h.keep hk8 (fun _ e=>e▸hbo) (fun r hr e=>by
    obtain⟨_,cs,hc⟩:=h.block hr
    rw[e] at hc;exact hE (hc.inj hA7.2.2.2.1).1)
   (conv=>whnf);erw [←hM8];(conv=>whnf);refine obr (zx (by first|omega|(dsimp only;omega))) ?_;(conv=>whnf)
   refine⟨⟨j+1,M8,X⟩,⟨by omega,hA8,hb8 hQ7 (by decide),hb8 hL7 (by decide),fun h=>⟨hWl,?_⟩,fun h e=>?_⟩,?_,zS⟩
   ·rw[hX] at h;simp only[Bool.and_true,Bool.and_eq_true,decide_eq_true_eq] at h;rw[List.take_add_one,List.take_add_one,hWt,hy,List.getElem?_map,hz];simp[zeb,h.1,h.2]
   ·rw[hX] at h;have h2:(W.map zeb)[j]? = S.links[j]? := by rw[e]
    rw[hy,List.getElem?_map,hz] at h2;simp[zeb] at h2 h;omega
   ·dsimp only;split<;>simp<;>omega
  have e':j=W.length:=by have:=Zd1 e;dsimp only at this;omega
  have hok:decide (W.map zeb=S.links)=true:=by
   refine decide_eq_true ?_;rw[List.take_of_length_le (by simp;omega),List.take_of_length_le (by omega)] at hWt;exact hWt
  refine zR ?_;(conv=>whnf)
  all_goals
   rw[←hok] at hA7;dsimp only;obtain⟨X,hAX,hBX,hXX⟩:=hA7.self
   have hR:SrcOk (Md.minus X) 2 q k (R.flatMap zkv):=hQ7.src.minus fun r hr hx=>by
    obtain⟨_,cs,hc⟩:=hQ7.block hr;obtain⟨E,ds,hd,hE⟩:=hXX _ hx;have:=(hc.inj hd).1
    rcases hE with e|e|e<;>rw[e] at this<;>exact absurd this (by decide)
   obtain⟨B7,hB7⟩:∃ B7,B7=Md.minus X:=⟨_,rfl⟩
   rw[←hB7] at hAX hBX hR;refine(zac hAX (n:=k) (by unfold zai;omega) (b:=1) (m:=16) (by decide) (by decide) (by simp)).mono ?_;rintro u M8 ⟨rfl,hA8⟩;rw[hk] at hA8;obtain⟨O8,hO8⟩:∃ O8,O8=(decide (W.map zeb=S.links)&&zy ((R.length:Nat),1,16)):=⟨_,rfl⟩
   obtain⟨L8,hL8⟩:∃ L8,L8=[bb0]++[zI ((R.length:Nat),1,16)]:=⟨_,rfl⟩
   rw[←hO8,←hL8] at hA8;have hL8l:L8.length=2:=by rw[hL8];rfl
   refine zR ?_;(conv=>whnf)
   refine zgk (σ:=Nat×Mem) [112] (fun y=>[(112,.int .i64 y.1)]) (fun _=>[BE.live T.zdm ((zuV S ql i cl qs ns cs).map SC.v),BE.gone bu,BE.gone bo]) (fun y=>y.2)
    (fun|⟨j2,Me⟩=>j2≤R.length∧LayAt B7 Me bo bu (O8&&(ze8 (R.take j2)).all zy) (L8++(ze8 (R.take j2)).map zI)) (fun y=>R.length - y.1) ⟨0,M8⟩ ⟨by omega,by simpa[ze8] using hA8⟩ zS ?_
   rintro ⟨j2,Me⟩ ⟨hj2,hA9⟩
   have hRl2:∀ m,((ze8 (R.take m)).map zI).length≤2*1048576:=fun m=>by
    rw[List.length_map,zNT,List.length_take];omega
   (conv=>whnf);refine brn (fun e=>?_) (fun e=>?_)
   ·have e':j2<R.length:=by have:=Zd0 e;dsimp only at this;omega
    obtain⟨z,hz⟩:∃ z,R[j2]? = some z:=⟨_,List.getElem?_eq_getElem (by omega)⟩
    obtain⟨b1,o1,rfl,hr1⟩:=SrcOk.fall (enc:=zkv) (s:=2) (fun _=>rfl) (hR.le hA9.1) (by decide) hz;have hzl:z.1+1<z.2∧z.2<N:=zP5 z (hRR▸List.mem_of_getElem? hz)
    have hz2:ze8 (R.take (j2+1))=ze8 (R.take j2)++[((z.1:Int),1,64),((z.2:Int),1,64)]:=by
     rw[List.take_add_one,hz];simp[ze8]
    have hlz:=hRl2 j2;obtain⟨z1,z2⟩:=z;dsimp only at hzl;(conv=>whnf);refine ob (by first|omega|(dsimp only;omega)) ?_;(conv=>whnf);refine on hr1 ?_;(conv=>whnf)
    refine(zac hA9 (n:=(z1:Nat)) (by unfold zai;omega) (b:=1) (m:=64) (by decide) (by decide) (by rw[List.length_append];omega)).mono ?_;rintro u M9 ⟨rfl,hA10⟩;refine zR ?_;(conv=>whnf)
    refine(zac hA10 (n:=(z2:Nat)) (by unfold zai;omega) (b:=1) (m:=64) (by decide) (by decide) (by rw[List.length_append,List.length_append];simp only[List.length_cons,List.length_nil];omega)).mono ?_;rintro u M10 ⟨rfl,hA11⟩;refine zR ?_;(conv=>whnf);refine obr (zx (by first|omega|(dsimp only;omega))) ?_;(conv=>whnf)
    refine⟨⟨j2+1,M10⟩,⟨by omega,hA11.cast ?_ ?_⟩,by dsimp only;omega,zS⟩
    ·rw[hz2,List.all_append];simp[Bool.and_assoc]
    ·rw[hz2,List.map_append];simp
   have e':j2=R.length:=by have:=Zd1 e;dsimp only at this;omega
   have hlz:=hRl2 j2;rw[e',List.take_of_length_le (Nat.le_refl _)] at hA9 hlz;obtain⟨O9,hO9⟩:∃ O9,O9=(O8&&(ze8 R).all zy):=⟨_,rfl⟩
   obtain⟨L9,hL9⟩:∃ L9,L9=L8++(ze8 R).map zI:=⟨_,rfl⟩
   rw[←hO9,←hL9] at hA9;have hL9l:L9.length≤2097154:=by rw[hL9,List.length_append];omega
   refine zR ?_;(conv=>whnf)
   refine(zI5 hA9 rs (by omega)).mono ?_;rintro u M11 ⟨rfl,hA12⟩;obtain⟨OA,hOA⟩:∃ OA,OA=(O9&&(zbN S.set).all zy):=⟨_,rfl⟩
   obtain⟨LA,hLA⟩:∃ LA,LA=L9++(zbN S.set).map zI:=⟨_,rfl⟩
   rw[←hOA,←hLA] at hA12;have hLAl:LA.length≤2097164:=by rw[hLA,List.length_append];simp[zbN];omega
   have hMB:M.le B7:=hBX
   have hokW:okW S=(OA&&S.steps.all (z8 N)):=by
    unfold okW;rw[show S.nodes.toNat=N by omega,←hRR,←hW,hOA,hO9,hO8];simp only[Bool.and_assoc]
   refine zR ?_;(conv=>whnf)
   refine zgk (σ:=Nat×Mem×Bool×List UInt8) [132] (fun y=>[(132,.int .i64 y.1)]) (fun _=>[BE.live T.zdm ((zuV S ql i cl qs ns cs).map SC.v),BE.gone bu,BE.gone bo]) (fun y=>y.2.1)
    (fun|⟨j3,Mf,b,L⟩=>j3≤ns∧LayAt B7 Mf bo bu b L∧b=(OA&&(S.steps.take j3).all (z8 N))∧(b=true→L=LA++(S.steps.take j3).flatMap (fun x=>(zag N x).map zI++x.data)∧L.length≤2097164+80*j3)) (fun y=>ns - y.1) ⟨0,M11,OA,LA⟩ ⟨by omega,hA12,by simp,fun _=>⟨by simp,by omega⟩⟩ zS ?_
   rintro ⟨j3,Mf,b,L⟩ ⟨hj3,hA,hb,hbL⟩;(conv=>whnf);refine brn (fun e=>?_) (fun e=>?_)
   ·have e':j3<ns:=by have:=Zd0 e;dsimp only at this;omega
    obtain⟨hl1,b1,o1,c1,rfl, -, hr1, -, q1,d1,rfl,hd1⟩:=hSt.at (by decide) e';have hxR:=rst _ (List.getElem_mem hl1)
    have htk:S.steps.take (j3+1)=S.steps.take j3++[S.steps[j3]]:=by rw[List.take_add_one,List.getElem?_eq_getElem hl1];rfl
    obtain⟨x,hx⟩:∃ x,x=S.steps[j3]:=⟨_,rfl⟩
    rw[←hx] at hr1 hd1 hxR htk;(conv=>whnf);refine ob (by first|omega|(dsimp only;omega)) ?_;(conv=>whnf);refine on (Mem.row_le (Mem.le_trans hMB hA.1) hr1) ?_;(conv=>whnf);refine on (hA.2.2.2.1.c1 rfl) ?_;cases b
    ·have hgs:true=true:=rfl;refine zX ?_;(conv=>whnf);refine on hA.2.2.2.1.cells ?_;(conv=>whnf);refine ob (by simp) ?_;obtain⟨M12,hM12⟩:∃ M12,M12=Mf.setCells bo T.zar [.bool false]:=⟨_,rfl⟩
     have hB:=(hA.setOk false).1;rw[←hM12] at hB;(conv=>whnf)
     erw [←hM12];(conv=>whnf);refine on (hB.2.2.2.1.c1 rfl) ?_;refine zR ?_;(conv=>whnf);refine obr (zx (by first|omega|(dsimp only;omega))) ?_;(conv=>whnf)
     refine⟨⟨j3+1,M12,false,L⟩,⟨by omega,hB,?_,fun h=>by cases h⟩,by dsimp only;omega,zS⟩;rw[htk,List.all_append,←Bool.and_assoc,←hb];rfl
    (conv=>whnf);refine brn (fun f1=>?_) (fun f1=>?_)
    ·have f1':=Zd0 f1;refine zX ?_;(conv=>whnf);refine on hA.2.2.2.1.cells ?_;(conv=>whnf);refine ob (by simp) ?_;obtain⟨M12,hM12⟩:∃ M12,M12=Mf.setCells bo T.zar [.bool (decide (x.kind≤12))]:=⟨_,rfl⟩
     have hB:=(hA.setOk (decide (x.kind≤12))).1;rw[←hM12] at hB;(conv=>whnf)
     erw [←hM12];(conv=>whnf);refine on (hB.2.2.2.1.c1 rfl) ?_;generalize f2:decide (x.kind≤12)=b2 at hB ⊢;cases b2
     ·have hgs:z8 N x=false:=by unfold z8;rw[decide_eq_false fun h=>Zd1 f2 h.2];rfl
      refine zR ?_;(conv=>whnf);refine obr (zx (by first|omega|(dsimp only;omega))) ?_;(conv=>whnf)
      refine⟨⟨j3+1,M12,false,L⟩,⟨by omega,hB.cast rfl rfl,?_,fun h=>by cases h⟩,by dsimp only;omega,zS⟩;rw[htk,List.all_append,List.all_cons,List.all_nil];simp[hgs,←hb]
     ·have f2':=Zd0 f2;obtain⟨hbL1,hbL2⟩:=hbL rfl;obtain⟨r,hr⟩:∃ r:Nat,x.kind=1+(r:Nat):=⟨(x.kind - 1).toNat,by omega⟩
      have hgs:z8 N x=(zag N x).all zy:=by unfold z8;rw[decide_eq_true ⟨f1',f2'⟩];rfl
      (conv=>whnf);erw [hNn];refine(zSe hB hxR (r:=r) (by omega) hr q1 d1 (nodes:=N) (by omega)).mono ?_;rintro u M13 ⟨rfl,hC⟩;rw[Bool.true_and,←hgs] at hC;have hlen:=zNS N x
      have hxl:x.data.length≤1048576:=hxR.2.2.2.2;obtain⟨hC1,hC2,hC3,hob,q2,c2,hu2,hN2⟩:=hC;rw[List.length_append,List.length_map] at hN2 hu2;refine zR ?_;(conv=>whnf);refine on (hu2.c1 rfl) ?_;(conv=>whnf);refine zN7 (hd1.le (Mem.le_trans hMB hC1)) ?_;refine appK B7 _ hN2 (by omega) (by unfold maxLen;omega) (zv2 _) (fun q3 c3 M14 hN3 hk3=>?_);have hu3:M14.has bu T.zae [.slice q2 (L.length+(zag N x).length) c2]:=hk3 _ _ (zxc hN2 hu2 (by decide)) hu2
      have hob3:M14.has bo T.zar [.bool (z8 N x)]:=hk3 _ _ (zxc hN2 hob (by decide)) hob;refine zX ?_;(conv=>whnf);refine on hu3.cells ?_;(conv=>whnf);refine ob (by simp) ?_;obtain⟨M15,hM15⟩:∃ M15,M15=M14.setCells bu T.zae [.slice q3 (L.length+(zag N x).length+x.data.length) c3]:=⟨_,rfl⟩
      have hk4:Mem.keep (fun y=>y=bu) M14 M15:=fun y o hy hyo=>by rw[hM15];unfold Mem.setCells;rw[Mem.upd_ne _ _ hy];exact hyo
      have hu4:M15.has bu T.zae [.slice q3 (L.length+(zag N x).length+x.data.length) c3]:=hM15▸Mem.has_setCells
      have hD:LayAt B7 M15 bo bu (z8 N x) (L++((zag N x).map zI++x.data)):=by
       refine⟨hk4.le hN3.le (fun _ e=>e▸hC3),hC2,hC3,hk4 _ _ (fun e=>by subst e;exact absurd (hob3.inj hu3).1 (by decide)) hob3,q3,c3,?_,?_⟩
       ·simpa[Nat.add_assoc] using hu4
       ·have:=hN3.keep hk4 (fun _ e=>e▸hC3) fun r hr e=>by
         obtain⟨_,cs,hc⟩:=hN3.block hr;rw[e] at hc;exact absurd (hc.inj hu3).1 (by decide)
        simpa[Nat.add_assoc] using this
      (conv=>whnf);erw [←hM15];(conv=>whnf);refine obr (zx (by first|omega|(dsimp only;omega))) ?_;(conv=>whnf)
      refine⟨⟨j3+1,M15,z8 N x,L++((zag N x).map zI++x.data)⟩,⟨by omega,hD,?_,fun h=>⟨?_,?_⟩⟩,by dsimp only;omega,zS⟩
      ·rw[htk,List.all_append,←Bool.and_assoc,←hb];simp
      ·rw[hbL1,htk,List.flatMap_append];simp
      ·have hgd:=goodS_iff.1 h;have:=(zCM (nodes:=N) (by omega) hgd.1 hgd.2).2.2.2.2
       simp only[List.length_append,List.length_map];omega
    ·have hgs:z8 N x=false:=by unfold z8;rw[decide_eq_false fun h=>Zd1 f1 h.1];rfl
     refine zX ?_;(conv=>whnf);refine on hA.2.2.2.1.cells ?_;(conv=>whnf);refine ob (by simp) ?_;obtain⟨M12,hM12⟩:∃ M12,M12=Mf.setCells bo T.zar [.bool false]:=⟨_,rfl⟩
     have hB:=(hA.setOk false).1;rw[←hM12] at hB;(conv=>whnf)
     erw [←hM12];(conv=>whnf);refine on (hB.2.2.2.1.c1 rfl) ?_;refine zR ?_;(conv=>whnf);refine obr (zx (by first|omega|(dsimp only;omega))) ?_;(conv=>whnf)
     refine⟨⟨j3+1,M12,false,L⟩,⟨by omega,hB.cast rfl rfl,?_,fun h=>by cases h⟩,by dsimp only;omega,zS⟩;rw[htk,List.all_append,List.all_cons,List.all_nil];simp[hgs,←hb]
   have e':j3=ns:=by have:=Zd1 e;dsimp only at this;omega
   rw[e',List.take_of_length_le (by omega),←hokW] at hb;(conv=>whnf);refine on (hA.2.2.2.1.c1 rfl) ?_;cases b
   ·refine zR ?_;(conv=>whnf)
    refine⟨Mem.le_trans hMB hA.1,none,0,0,.inr ⟨fun h=>?_,rfl⟩⟩;rw[(zq9 (by omega) (by omega)).2 h] at hb;cases hb
   ·refine zR ?_;obtain⟨hbL1,hbL2⟩:=hbL rfl;obtain⟨q9,c9,hu9,hN9⟩:=hA.2.2.2.2;(conv=>whnf);refine on (hu9.c1 rfl) ?_;(conv=>whnf)
    refine⟨Mem.le_trans hMB hA.1,q9,_,c9,.inl ⟨(zq9 (by omega) (by omega)).1 hb.symm,rfl,?_⟩⟩;have hE:=zSd (S:=S) (by omega) (by omega) hb.symm
    rw[e',List.take_of_length_le (by omega)] at hbL1;rw[show S.nodes.toNat=N by omega,←hRR,←hbb0] at hE;have hLe:L=zA4 S:=by rw[←hE,hbL1,hLA,hL9,hL8];simp only[List.append_assoc]
    rw[←hLe];exact hN9.mono hMB
end
end Go.Proofs.YtpnhjkiligohnaaGreatDoor
