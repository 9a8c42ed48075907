/- Part of this proof;laid by program. -/
import Derived.Test.YtpnhjkiligohnaaGreatDoorJ33
set_option linter.unusedVariables false
set_option linter.unusedSimpArgs false
namespace Go.Proofs.YtpnhjkiligohnaaGreatDoor
open Go Go.Vm
attribute [local irreducible] Brn Ob Grow CallsM inR zbf zaW Mem.row Mem.cells Mem.setCells Mem.upd Go.Vm.Own zbO zcz zcc zbE New SrcOk zap NewSl Mem.textAt Mem.mapAt Mem.iterAt zaV kfind Wr zch Elems
set_option maxRecDepth 10000
section
variable {M B B0:Mem}
theorem zSb {q:Option Addr} {c:Nat} {L:List UInt8} (h:NewSl B T.zF 1 q L.length c (L.map zi) M) {n:Int} (hn:zai n) {b m:Nat} (hb:0<b) (hL:L.length≤4194304) :
  CallsM Tryz.prog F.zo3 [.slice q L.length c,.int .i64 n,.int .i64 b,.int .i64 m] M fun u M'=>∃ q' c' L',u = .tuple #[.slice q' L'.length c',.bool (zy (n,b,m))]∧NewSl B T.zF 1 q' L'.length c' (L'.map zi) M'∧(zy (n,b,m)=true→L'=L++[zI (n,b,m)])∧(zy (n,b,m)=false→L'=L):=by
 have ht:=zCN hn hb;refine zGP (by simp) ?_;(conv=>whnf);refine brn (fun g1=>?_) (fun g1=>?_)
 ·have hg:zy (n,b,m)=false:=by have:=Zd0 g1;unfold zy;rw[decide_eq_false (by simpa using this)];rfl
  refine zR ?_;(conv=>whnf)
  refine⟨q,c,L,by rw[hg],h,fun e=>by rw[hg] at e;(cases e),fun _=>rfl⟩
 have g1':=Zd1 g1;(conv=>whnf);refine ob (by omega) ?_;(conv=>whnf);refine brn (fun g2=>?_) (fun g2=>?_)
 ·have hg:zy (n,b,m)=false:=by unfold zy;rw[decide_eq_false (p:=n.tmod b=0) (by simpa using g2)];simp
  refine zR ?_;(conv=>whnf)
  refine⟨q,c,L,by rw[hg],h,fun e=>by rw[hg] at e;(cases e),fun _=>rfl⟩
 have g2':n.tmod b=0:=by simpa using g2
 (conv=>whnf);refine ob (by omega) ?_;(conv=>whnf);refine obr (zx ht) ?_;(conv=>whnf);refine brn (fun g3=>?_) (fun g3=>?_)
 ·have g3':=Zd0 g3;have hg:zy (n,b,m)=false:=by unfold zy;rw[decide_eq_false (p:=n.tdiv b<m) (by simpa using g3')];simp
  refine zR ?_;(conv=>whnf)
  refine⟨q,c,L,by rw[hg],h,fun e=>by rw[hg] at e;(cases e),fun _=>rfl⟩
 have g3':=Zd1 g3;have hg:zy (n,b,m)=true:=by unfold zy;simp only[Bool.and_eq_true,decide_eq_true_eq];exact⟨⟨by omega,g2'⟩,by omega⟩
 (conv=>whnf);refine ob (by omega) ?_;(conv=>whnf);refine obr (zx ht) ?_;refine zR ?_;(conv=>whnf)
 refine appK B _ h (by omega) (by unfold maxLen;omega) (by intro u hu;simp at hu;subst hu;rfl) (fun q2 c2 M2 hN2 hk2=>?_);erw [zpL n b m,show L.map zi++[zi (zI (n,b,m))]=(L++[zI (n,b,m)]).map zi by simp] at hN2;refine zR ?_;(conv=>whnf)
 exact⟨q2,c2,L++[zI (n,b,m)],by rw[hg];simp,by simpa using hN2,fun _=>rfl,fun e=>by rw[hg] at e;cases e⟩
theorem zIh {n:Int} (hn:zai n) {b:Nat} (hb:b≤256):CallsM Tryz.prog F.zp [.int .i64 n,.int .i64 b] M fun v M'=>v = .int .i64 (zaK n b)∧M=M':=by
 unfold zai at hn;refine zE5 (by simp) ?_;(conv=>whnf);refine brn (fun g=>?_) (fun g=>?_)
 ·have g':n<(b:Int):=Zd0 g;(conv=>whnf)
  exact⟨by rw[zaK,if_pos g'],rfl⟩
 ·have g':¬n<(b:Int):=Zd1 g;(conv=>whnf);refine obr (zx (by first|omega|(dsimp only;omega))) ?_;(conv=>whnf)
  exact⟨by rw[zaK,if_neg g'],rfl⟩
@[reducible] def zV (n:Int):Value := .int .i64 n
def zxa (ns:List Int) (ms:List Nat):List (Int×Nat×Nat):=(ns.zip ms).map fun x=>(x.1,1,x.2)
theorem zIi {q:Option Addr} {c:Nat} {L:List UInt8} (h:NewSl B T.zF 1 q L.length c (L.map zi) M) {al am:Option Addr} {k cl cm:Nat} {ns:List Int} {ms:List Nat} (hl:SrcOk B 1 al k (ns.map zV)) (hm:SrcOk B 1 am k (ms.map fun m:Nat=>zV m)) (hk:k≤64) (hns:∀ n∈ns,zai n) (hL:L.length≤4194000) :
  CallsM Tryz.prog F.zaq [.slice q L.length c,.slice al k cl,.slice am k cm] M fun u M'=>∃ q' c' L',u = .tuple #[.slice q' L'.length c',.bool ((zxa ns ms).all zy)]∧NewSl B T.zF 1 q' L'.length c' (L'.map zi) M'∧L'.length≤L.length+k ∧
   ((zxa ns ms).all zy=true→L'=L++(zxa ns ms).map zI):=by
 have hnl:ns.length=k:=hl.maplen;have hml:ms.length=k:=hm.maplen
 obtain⟨Z,hZ⟩:∃ Z,Z=zxa ns ms:=⟨_,rfl⟩
 have hZl:Z.length=k:=by rw[hZ];simp[zxa,hnl,hml]
 have hZat:∀ i,(hi:i<k)→Z[i]? = some (ns[i],1,ms[i]):=fun i hi=>by
  have e:(zxa ns ms)[i]? = some (ns[i],1,ms[i]):=by
   unfold zxa;rw[List.getElem?_map,List.getElem?_eq_getElem (by simp;omega)];simp
  exact hZ▸e
 rw[←hZ];refine zE4 (by simp) ?_;(conv=>whnf)
 refine zgk (σ:=Nat×Mem×Option Addr×Nat×List UInt8×Bool×Bool) [9,8,0] (fun y=>[(9,.int .i64 y.1),(8,Bool.rec (.sb y.2.2.2.2.2.1) (.c (.v (.bool true))) y.2.2.2.2.2.2),(0,.slice y.2.2.1 y.2.2.2.2.1.length y.2.2.2.1)]) (fun _=>[]) (fun y=>y.2.1)
  (fun|⟨i,Mc,q,c,L',ok,f⟩=>i≤k∧NewSl B T.zF 1 q L'.length c (L'.map zi) Mc∧L'.length≤L.length+i∧(f=true→ok=true)∧((ok=true∧(Z.take i).all zy=true∧L'=L++(Z.take i).map zI)∨(ok=false∧Z.all zy=false))) (fun y=>k - y.1) ⟨0,M,q,c,L,true,true⟩ ⟨by omega,h,by omega,fun _=>rfl,.inl ⟨rfl,by simp,by simp⟩⟩ zS ?_
 rintro ⟨i,Mc,q,c,L',ok,f⟩ ⟨hi,hN,hLl,hfk,hok⟩;cases f
 all_goals
  (conv=>whnf);refine brn (fun e=>?_) (fun e=>?_)
  ·have e':i<k:=by have:=Zd0 e;dsimp only at this;omega
   cases ok
   ·try exact absurd (hfk rfl) (by decide)
    all_goals
     have hf:Z.all zy=false:=hok.elim (fun h=>by cases h.1) fun h=>h.2
     refine zR ?_;(conv=>whnf)
     refine⟨q,c,L',by rw[hf],hN,by omega,fun hz=>?_⟩;rw[hf] at hz;cases hz
   have hz0:(Z.take i).all zy=true∧L'=L++(Z.take i).map zI:=by
    rcases hok with h|h
    ·exact h.2
    ·cases h.1
   obtain⟨hz1,hz2⟩:=hz0;obtain⟨hk1,b1,o1,rfl,hr1⟩:=(hl.le hN.le).at e';obtain⟨hk2,b2,o2,rfl,hr2⟩:=(hm.le hN.le).at e';have htk:Z.take (i+1)=Z.take i++[(ns[i],1,ms[i])]:=by rw[List.take_add_one,hZat i e'];rfl
   refine zR ?_;(conv=>whnf);refine ob (by first|omega|(dsimp only;omega)) ?_;(conv=>whnf);refine on hr1 ?_;(conv=>whnf);refine ob (by first|omega|(dsimp only;omega)) ?_;(conv=>whnf);refine on hr2 ?_;refine zR ?_;refine(zSb hN (hns _ (List.getElem_mem _)) (b:=1) (m:=ms[i]) (by decide) (by omega)).mono ?_;rintro u M2 ⟨q2,c2,L2,rfl,hN2,hg,hb⟩;cases hgb:zy (ns[i],1,ms[i])
   ·have e2:=hb hgb;refine zR ?_;(conv=>whnf);refine obr (zx (by first|omega|(dsimp only;omega))) ?_;(conv=>whnf)
    refine⟨⟨i+1,M2,q2,c2,L2,false,false⟩,⟨by omega,hN2,by rw[e2];omega,(by simp),.inr ⟨rfl,?_⟩⟩,by dsimp only;omega,zS⟩;rw[List.all_eq_false];exact⟨_,List.mem_of_getElem? (hZat i e'),by rw[hgb];simp⟩
   ·have e2:=hg hgb;refine zR ?_;(conv=>whnf);refine obr (zx (by first|omega|(dsimp only;omega))) ?_;(conv=>whnf)
    refine⟨⟨i+1,M2,q2,c2,L2,true,false⟩,⟨by omega,hN2,by rw[e2];simp;omega,(by simp),.inl ⟨rfl,?_,?_⟩⟩,by dsimp only;omega,zS⟩
    ·rw[htk,List.all_append,hz1];simp[hgb]
    ·rw[e2,htk,hz2];simp
  ·have e':i=k:=by have:=Zd1 e;dsimp only at this;omega
   refine zR ?_;cases ok
   ·try exact absurd (hfk rfl) (by decide)
    all_goals
     have hf:Z.all zy=false:=hok.elim (fun h=>by cases h.1) fun h=>h.2
     (conv=>whnf);refine⟨q,c,L',by rw[hf],hN,by omega,fun hz=>?_⟩;rw[hf] at hz;cases hz
   ·have hz0:(Z.take i).all zy=true∧L'=L++(Z.take i).map zI:=by
     rcases hok with h|h
     ·exact h.2
     ·cases h.1
    rw[List.take_of_length_le (by omega)] at hz0;(conv=>whnf)
    refine⟨q,c,L',by rw[hz0.1],hN,by omega,fun hz=>?_⟩;exact hz0.2
end
section
variable {M B B0:Mem}
theorem zEC {q:Option Addr} {c:Nat} {L:List UInt8} (h:NewSl B T.zF 1 q L.length c (L.map zi) M) {b1 b2:Nat} {l1 l2:List Value} (h1:M b1=none) (h2:(M.setCells b1 T.int l1) b2=none) (e1:l1.length=10) (e2:l2.length=10) :
  ∃ B2,B.le B2∧NewSl B2 T.zF 1 q L.length c (L.map zi) ((M.setCells b1 T.int l1).setCells b2 T.int l2)∧SrcOk B2 1 (some ⟨b1,0,none⟩) 10 l1∧SrcOk B2 1 (some ⟨b2,0,none⟩) 10 l2:=by
 have hle:M.le ((M.setCells b1 T.int l1).setCells b2 T.int l2):=Mem.le_trans (Mem.le_setCells h1) (Mem.le_setCells h2);have hb2:M b2=none:=zxv (Mem.le_setCells h1) h2
 have hn:∀ x,M x=none→¬blk q x:=fun x hx ⟨r,hr,e⟩=>by
  obtain⟨_,cs,hc⟩:=h.block hr;rw[e] at hc;rw[show M x=_ from hc] at hx;cases hx
 refine⟨((M.setCells b1 T.int l1).setCells b2 T.int l2).minus (blk q),Mem.le_minus (Mem.le_trans h.le hle) fun x ⟨r,hr,e⟩=>e▸(h.block hr).1,h.rebase2 hle fun x hx=>hx,?_,?_⟩
 ·exact((Mem.has.le (Mem.le_setCells h2) Mem.has_setCells).minus (hn _ h1)).src (by omega)
 ·exact(Mem.has_setCells.minus (hn _ hb2)).src (by omega)
def nsL (s:zoj):List Int:=[s.held,s.bytes.tdiv 8,s.gaps,s.disk.tdiv 256 - 1,zaK s.seg 16,zaK s.win 1,zaK s.timer 1,zaK s.tries 1,zaK s.wait 1,s.delay]
def msL:List Nat:=[256,256,256,256,256,63,8,4,8,4]
theorem zxx (s:zoj):zxa (nsL s) msL=zA5 s:=rfl
set_option maxRecDepth 100000 in
theorem zED {s:zoj} (hG:zIe s):(zA5 s).all zy=(zbN s).all zy:=by
 cases hx:(zA5 s).all zy
 ·cases hy:(zbN s).all zy
  ·rfl
  ·rw[((znh s).1 hy).2] at hx;cases hx
 ·rw[(znh s).2 ⟨hG,hx⟩]
theorem zF2 {q:Option Addr} {c:Nat} {L:List UInt8} (h:NewSl B T.zF 1 q L.length c (L.map zi) M) {s:zoj} (hs:zMf s) (hL:L.length≤4194000) :
  CallsM Tryz.prog F.zgh [.slice q L.length c,.agg (setC s).toArray] M fun u M'=>∃ q' c' L',u = .tuple #[.slice q' L'.length c',.bool ((zbN s).all zy)]∧NewSl B T.zF 1 q' L'.length c' (L'.map zi) M'∧L'.length≤L.length+10∧((zbN s).all zy=true→L'=L++(zbN s).map zI):=by
 obtain⟨r0,r1,r2,r3,r4,r5,r6,r7,r8,r9⟩:=hs;have t1:=zCN r1 (b:=8) (by decide)
 have t3:=zCN r3 (b:=256) (by decide);refine zv6 (by simp) ?_;(conv=>whnf);refine brn (fun g1=>?_) (fun g1=>?_)
 ·have g1':=Zd0 g1
  have hf:(zbN s).all zy=false:=by
   cases hx:(zbN s).all zy
   ·rfl
   ·obtain⟨⟨a1,a2,a3,a4⟩,_⟩:=(znh s).1 hx;exact absurd a1 (by first|omega|assumption)
  (conv=>whnf);exact⟨q,c,L,by rw[hf],h,by omega,fun e=>by rw[hf] at e;cases e⟩
 have g1':=Zd1 g1;(conv=>whnf);refine ob (by omega) ?_;(conv=>whnf);refine brn (fun g2=>?_) (fun g2=>?_)
 ·have g2':¬s.bytes.tmod 8=0:=by simpa using g2
  have hf:(zbN s).all zy=false:=by
   cases hx:(zbN s).all zy
   ·rfl
   ·obtain⟨⟨a1,a2,a3,a4⟩,_⟩:=(znh s).1 hx;exact absurd a2 (by first|omega|assumption)
  (conv=>whnf);exact⟨q,c,L,by rw[hf],h,by omega,fun e=>by rw[hf] at e;cases e⟩
 have g2':s.bytes.tmod 8=0:=by simpa using g2
 (conv=>whnf);refine brn (fun g3=>?_) (fun g3=>?_)
 ·have g3':=Zd0 g3
  have hf:(zbN s).all zy=false:=by
   cases hx:(zbN s).all zy
   ·rfl
   ·obtain⟨⟨a1,a2,a3,a4⟩,_⟩:=(znh s).1 hx;exact absurd a3 (by first|omega|assumption)
  (conv=>whnf);exact⟨q,c,L,by rw[hf],h,by omega,fun e=>by rw[hf] at e;cases e⟩
 have g3':=Zd1 g3;(conv=>whnf);refine ob (by omega) ?_;(conv=>whnf);refine brn (fun g4=>?_) (fun g4=>?_)
 ·have g4':¬s.disk.tmod 256=0:=by simpa using g4
  have hf:(zbN s).all zy=false:=by
   cases hx:(zbN s).all zy
   ·rfl
   ·obtain⟨⟨a1,a2,a3,a4⟩,_⟩:=(znh s).1 hx;exact absurd a4 (by first|omega|assumption)
  (conv=>whnf);exact⟨q,c,L,by rw[hf],h,by omega,fun e=>by rw[hf] at e;cases e⟩
 have g4':s.disk.tmod 256=0:=by simpa using g4
 have hR:∀ n∈nsL s,zai n:=by
  have:=zha r4 (b:=16) (by decide);have:=zha r5 (b:=1) (by decide);have:=zha r6 (b:=1) (by decide);have:=zha r7 (b:=1) (by decide);have:=zha r8 (b:=1) (by decide)
  have:zai (s.disk.tdiv 256 - 1):=by unfold zai at t3 ⊢; rw[Int.tdiv_eq_ediv_of_nonneg (by omega)] at t3 ⊢; omega
  intro n hn;simp only[nsL,List.mem_cons,List.not_mem_nil,or_false] at hn;rcases hn with rfl|rfl|rfl|rfl|rfl|rfl|rfl|rfl|rfl|rfl<;>assumption
 have hG:zIe s:=⟨by omega,g2',by omega,g4'⟩
 refine zX ?_;refine⟨B,h.le,?_⟩;(conv=>whnf);refine ob (by omega) ?_;(conv=>whnf);refine obr (zx t1) ?_;(conv=>whnf);refine ob (by omega) ?_;(conv=>whnf);refine obr (zx t3) ?_;(conv=>whnf);refine obr (zx (by unfold zai at t3;rw[Int.tdiv_eq_ediv_of_nonneg (by omega)] at t3 ⊢; omega)) ?_
 repeat' ((conv=>whnf);first|(refine(zIh (by assumption) (by decide)).mono ?_;rintro u _ ⟨rfl,rfl⟩)|refine⟨?_,True.intro⟩|refine⟨?_,?_⟩|refine ob rfl ?_|refine obr rfl ?_|refine grow_same h.le ?_|refine ob h.le ?_|fail)
 all_goals
  repeat' ((conv=>whnf);first|refine new (fun b1 hb1=>?_)|(refine(zIh (by assumption) (by decide)).mono ?_;rintro u _ ⟨rfl,rfl⟩)|refine ob rfl ?_|refine obr rfl ?_|refine grow_same h.le ?_|refine grow_same (Mem.le_trans h.le (Mem.le_setCells (by assumption))) ?_|refine⟨?_,True.intro⟩|refine⟨?_,?_⟩|fail)
 all_goals
  rename_i b0 hb0
  first
  | (obtain⟨B2,hBB,hN2,s1,s2⟩:=zEC h (l1:=(nsL s).map zV) (l2:=msL.map fun m:Nat=>zV m) (b1:=b0) (b2:=b1) hb0 hb1 rfl rfl
     (conv=>whnf);refine(zIi hN2 (ns:=nsL s) (ms:=msL) s1 s2 (by decide) hR (by omega)).mono ?_;rintro u M5 ⟨q5,c5,L5,rfl,hN5,hl5,ht5⟩;refine zR ?_;(conv=>whnf)
     exact⟨q5,c5,L5,by rw[zxx,zED hG],hN5.mono hBB,hl5,fun hz=>by rw[ht5 ((znh s).1 hz).2,zxx,zIf hG]⟩
     done)
  | (obtain⟨B2,hBB,hN2,s1,s2⟩:=zEC h (l1:=msL.map fun m:Nat=>zV m) (l2:=(nsL s).map zV) (b1:=b0) (b2:=b1) hb0 hb1 rfl rfl
     (conv=>whnf);refine(zIi hN2 (ns:=nsL s) (ms:=msL) s2 s1 (by decide) hR (by omega)).mono ?_;rintro u M5 ⟨q5,c5,L5,rfl,hN5,hl5,ht5⟩;refine zR ?_;(conv=>whnf)
     exact⟨q5,c5,L5,by rw[zxx,zED hG],hN5.mono hBB,hl5,fun hz=>by rw[ht5 ((znh s).1 hz).2,zxx,zIf hG]⟩
     done)
end
end Go.Proofs.YtpnhjkiligohnaaGreatDoor
namespace Go.Proofs.YtpnhjkiligohnaaGreatDoor
def zbr (n:Nat) (l:List (Int×Int)):List (Nat×Nat):=(l.filter fun p=>decide (0≤p.1∧p.1+1<p.2∧p.2<(n:Int))).map fun p=>(p.1.toNat,p.2.toNat)
theorem zNQ {n:Nat} {l:List (Int×Int)} {a b:Nat} (h2:b<n):(a,b)∈zbr n l↔(a,b)∈zbZ l:=by
 unfold zbr zbZ;simp only[List.mem_filter,List.mem_map,decide_eq_true_eq];constructor
 ·rintro ⟨p,⟨h3,h4,h5,h6⟩,h7⟩;exact⟨p,⟨h3,h4,h5⟩,h7⟩
 ·rintro ⟨p,⟨h3,h4,h5⟩,h7⟩;refine⟨p,⟨h3,h4,h5,?_⟩,h7⟩;rw[Prod.mk.injEq] at h7;omega
theorem zzv (n:Nat) (l:List (Int×Int)):zb2 n (zbr n l)=zb2 n (zbZ l):=zIb fun _ _ _ h=>zNQ h
theorem zuW {n:Nat} {l:List (Int×Int)} (h:(zb2 n (zbZ l)).map zeb=l):zbr n l=zbZ l:=by
 have hv:∀ p∈l,p.2<n:=fun p hp=>by
  rw[←h] at hp;obtain⟨q,hq,rfl⟩:=List.mem_map.1 hp;rw[zuU] at hq;simp only;omega
 unfold zbr zbZ;congr 1;refine List.filter_congr fun p hp=>?_
 have:=hv p hp;rw[decide_eq_decide];omega
theorem zP5 {n:Nat} {l:List (Int×Int)}:∀ p∈zbr n l,p.1+1<p.2∧p.2<n:=by
 intro p hp;unfold zbr at hp;obtain⟨q,hq,rfl⟩:=List.mem_map.1 hp;have:=(List.mem_filter.1 hq).2
 simp only[decide_eq_true_eq] at this;simp only;omega
theorem zEE (n:Nat) (l:List (Int×Int)):(zbr n l).length≤l.length:=by
 unfold zbr;rw[List.length_map];exact List.length_filter_le _ _
theorem zMg (n:Nat) (l:List (Int×Int)) {i:Nat} {p:Int×Int} (hp:l[i]? = some p):zbr n (l.take (i+1))=zbr n (l.take i)++(if 0≤p.1∧p.1+1<p.2∧p.2<n then [(p.1.toNat,p.2.toNat)] else []):=by
 unfold zbr;rw[List.take_add_one,hp,List.filter_append,List.map_append];congr 1;by_cases h:0≤p.1∧p.1+1<p.2∧p.2<n
 ·simp[h]
 ·simp[h]
def z8 (n:Nat) (x:StpI):Bool:=decide (1≤x.kind∧x.kind≤12)&&(zag n x).all zy
def ze8 (l:List (Nat×Nat)):List (Int×Nat×Nat):=l.flatMap fun p=>[((p.1:Int),1,64),((p.2:Int),1,64)]
def okW (S:zm5):Bool:=decide ((zb2 S.nodes.toNat (zbr S.nodes.toNat S.links)).map zeb=S.links)&&(zy (((zbr S.nodes.toNat S.links).length:Nat),1,16)&&((ze8 (zbr S.nodes.toNat S.links)).all zy&&((zbN S.set).all zy&&S.steps.all (z8 S.nodes.toNat))))
theorem goodS_iff {n:Nat} {x:StpI}:z8 n x=true↔(1≤x.kind∧x.kind≤12)∧zlk n x (x.kind - 1).toNat:=by
 unfold z8 zag;rw[Bool.and_eq_true,decide_eq_true_eq,List.all_cons,Bool.and_eq_true,zCL,zq2];constructor
 ·rintro ⟨h1,_,h2⟩;exact⟨h1,h2⟩
 ·rintro ⟨h1,h2⟩;exact⟨h1,by omega,h2⟩
theorem zNR {n:Nat} {x:StpI} (h:z8 n x=true):(zag n x).map zI++x.data=zas x:=by
 obtain⟨h1,h2⟩:=goodS_iff.1 h;have h3:=zNK h1 h2
 unfold zMc at h3;split at h3
 ·exact Option.some.inj h3
 ·cases h3
theorem zq9 {S:zm5} (h1:1≤S.nodes∧S.nodes≤64) (h2:S.steps.length≤256):okW S=true↔zok S:=by
 unfold okW zok;simp only[Bool.and_eq_true,decide_eq_true_eq,zq2,zzv,List.all_eq_true,goodS_iff];constructor
 ·rintro ⟨h3,h4,h5,h6,h7⟩;rw[zuW h3] at h4;exact⟨h1,h2,h3,by omega,h6,h7⟩
 ·rintro ⟨_,_,h3,h4,h6,h7⟩;rw[zuW h3];refine⟨h3,by omega,?_,h6,h7⟩;intro x hx;unfold ze8 at hx;obtain⟨p,hp,hx⟩:=List.mem_flatMap.1 hx;have:=zIc h3 p hp
  simp only[List.mem_cons,List.not_mem_nil,or_false] at hx;rcases hx with rfl|rfl<;>rw[zq2]<;>omega
theorem zI6 (l:List (Nat×Nat)):(ze8 l).map zI=zmE l:=by
 unfold ze8 zmE;rw[List.map_flatMap];simp[zxw]
theorem zSd {S:zm5} (h1:1≤S.nodes∧S.nodes≤64) (h2:S.steps.length≤256) (h:okW S=true) :
  [zI (S.nodes - 1,1,64)]++([zI (((zbr S.nodes.toNat S.links).length:Nat),1,16)]++((ze8 (zbr S.nodes.toNat S.links)).map zI++((zbN S.set).map zI++S.steps.flatMap fun x=>(zag S.nodes.toNat x).map zI++x.data)))=zA4 S:=by
 have hE:=(zq9 h1 h2).1 h;have h3:=hE.2.2.1
 rw[zuW h3,zI6,zxw,zxw];unfold zA4;simp only[List.cons_append,List.nil_append];congr 4;have hs:∀ x∈S.steps,z8 S.nodes.toNat x=true:=fun x hx=>goodS_iff.2 (hE.2.2.2.2.2 x hx)
 generalize S.steps=l at hs;clear h h3 hE h1 h2
 induction l with
 | nil=>rfl
 | cons x l ih=>
  rw[List.flatMap_cons,List.flatMap_cons,zNR (hs x (by simp)),ih fun y hy=>hs y (List.mem_cons_of_mem _ hy)]
theorem zNS (n:Nat) (x:StpI):(zag n x).length≤5:=by
 have z:=fun v=>show (zaU v).length≤1 by unfold zaU;split<;>simp
 have z1:=z x.node;have z2:=z x.to;have z3:=z x.n;have z4:=z x.data.length;have z5:=z (x.data.length - 1)
 unfold zag zaJ;split<;>simp<;>omega
end Go.Proofs.YtpnhjkiligohnaaGreatDoor
