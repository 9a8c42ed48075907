/- Part of this proof;laid by program. -/
import Derived.Test.YtpdkkbpkplhdpaaGreatJ28
import Derived.Test.YtpdkkbpkplhdpaaGreatJ7
set_option linter.unusedVariables false
set_option linter.unusedSimpArgs false
namespace Go.Proofs.YtpdkkbpkplhdpaaGreat
open Go Go.Vm
attribute [local irreducible] Brn Ob Grow CallsM inR zax zav Mem.row Mem.cells Mem.setCells Mem.upd Go.Vm.Own zaD za5 zbc zaJ New SrcOk subA NewSl Mem.textAt Mem.mapAt Mem.iterAt zau zaj Wr NewEls Elems
set_option maxRecDepth 10000
section
variable {A M M':Mem} {c p db:Nat} {N:Int} {h:Hd} {des:FsT} {X:StW} {D:zf} {w:CuW} {H:CuH} {C:CuR}
theorem zB8 (l:List UInt8):(zaN l).length≤l.length:=by
 obtain⟨-, h2,h3⟩:=znU l.length l (Nat.le_refl _)
 have key:∀ ps:List (List UInt8),ps.length≤zae ps:=fun ps=>by
  induction ps with
  | nil=>simp[zae]
  | cons q r ih=>simp only[zae,List.map_cons,List.sum_cons,List.length_cons] at ih ⊢; omega
 exact Nat.le_trans (key _) h3
theorem zA4 (h:InvD D) (s:ByteArray):(bl (zas D s).1).length≤1048576:=by
 unfold zas;split
 ·show (0:Nat)≤_;decide
 ·rename_i g;have h1:=(zbR (by simpa using g)).2
  have:=(zbs h.sort h1).2;have hu:=h.used
  rw[zaH,all_size];omega
theorem zn9:∀ {f:Nat} {D:zf} {next last:Int} {all:List (List UInt8)},InvD D→(zai f D next last all).2.2.2.1.length≤all.length+f*1048576
 | 0,_,_,_,_,_=>by rw[zai];dsimp only;omega
 | f+1,D,next,last,all,h=>by
  rw[zai];have h1:=zB8 (bl (zas D (zc next)).1)
  have h2:=zA4 h (zc next);have h4:(f+1)*1048576=f*1048576+1048576:=by omega
  split
  ·dsimp only;omega
  split
  ·simp
  split
  ·split
   ·simp
   ·dsimp only;rw[List.length_append];omega
  ·have h3:=zn9 (f:=f) (next:=next+1) (last:=next) (all:=all++zaN (bl (zas D (zc next)).1)) h;rw[List.length_append] at h3;omega
theorem zmS:∀ {ks:List Int} {D:zf},InvD D→InvD (removeAll D ks).1
 | [],_,h=>h
 | k::r,D,h=>by
  rw[removeAll];split
  ·exact zeH h _
  ·exact zmS (zeH h _)
theorem zi9 (h:InvD D) (w:CuW) (seg:Int):(zaT D w seg).2.2.1.length≤104857600000:=by
 unfold zaT;split
 ·simp
 unfold zbP;dsimp only;have h1:=zn9 (f:=(100000 - (L0 (firstC w) seg).first).toNat) (next:=(L0 (firstC w) seg).first) (last:=(L0 (firstC w) seg).last) (all:=[]) (zmS (ks:=zaW D fun k=>decide (k<(L0 (firstC w) seg).first)) h)
 have h2:(L0 (firstC w) seg).first=firstC w:=rfl;have h3:1≤firstC w:=by unfold firstC;omega
 have h4:(100000 - (L0 (firstC w) seg).first).toNat≤99999:=by rw[h2];omega
 have h5:=Nat.mul_le_mul_right 1048576 h4;simp only[List.length_nil,Nat.zero_add] at h1;split
 ·simp
 split
 ·simp
 ·dsimp only;omega
def Ld (D:zf) (me qh qb qg:Int):Option (Int×StW)→Prop
 | none=>zci D=[]
 | some (k,X)=>¬(k<1∨99999<k)∧(∃ ks,zci D=ks++[k])∧zAZ D me qh qb qg k X
def ldD (D:zf):Option (Int×StW)→zf×Int
 | none=>(D,0)
 | some (k,_)=>zf7 D k
def ldW:Option (Int×StW)→CuW
 | none=>⟨0,false,false⟩
 | some (k,_)=>⟨k,false,false⟩
def ldX (me qh qb qg:Int):Option (Int×StW)→StW
 | none=>⟨zfp me qh qb qg,[]⟩
 | some (_,X)=>X
def zfK (D:zf):CuR:=⟨⟨zfp 0 0 0 0,[]⟩,D,L0 0 0,⟨0,false,false⟩⟩
def zkA (D:zf) (me qh qb qg seg:Int) (ld:Option (Int×StW)):CuR×Int:=
 if (ldD D ld).2≠0 then (zfK (ldD D ld).1,(ldD D ld).2)
 else if zdE (ldX me qh qb qg ld) (ldD D ld).1 (ldW ld) seg≠0 then (zfK (zaT (ldD D ld).1 (ldW ld) seg).1,zdE (ldX me qh qb qg ld) (ldD D ld).1 (ldW ld) seg)
 else zi8 ⟨(zdo (ldX me qh qb qg ld) (zaT (ldD D ld).1 (ldW ld) seg).2.2.1).1,(zaT (ldD D ld).1 (ldW ld) seg).1,(zaT (ldD D ld).1 (ldW ld) seg).2.1,ldW ld⟩
instance (me qh qb qg:Int):Decidable (zbr me qh qb qg):=by unfold zbr;infer_instance
def zbF (D:zf) (me qh qb qg seg:Int) (ld:Option (Int×StW)):CuR×Int:=
 if zbr me qh qb qg then (zfK D,1) else if seg<16∨1048576<seg then (zfK D,1) else if D.down=true then (zfK D,9)
 else if (zbH D).2≠0 then (zfK (zbH D).1,(zbH D).2)
 else zkA (zbH D).1 me qh qb qg seg ld
def zEp (A M':Mem) (p:Nat) (r:CuR×Int) (v:Value):Prop:=
 (r.2≠0∧v = .tuple #[.pointer none,.int .i64 r.2]∧NamesC r.1.D∧∃ db' des',FreshD A M' p db' r.1.D des') ∨
 (r.2=0∧∃ c H,v = .tuple #[ptr c,.int .i64 0]∧CuAt A M' c p 104857600300 H r.1)
theorem zA5 (h1:CuPre A M c p db N h des X D w):CallsM Tryz.prog F.zef [ptr c] M fun v M'=>∃ es',v = .int .i64 (zbH D).2∧CuPre A M' c p db N h es' X (zbH D).1 w:=by
 refine zjE (by simp) ?_;refine zR ?_;refine(zAx h1.self rfl h1.disk ⟨#[116]⟩).mono ?_;rintro v M1 ⟨rfl,hle1⟩;have p1:=h1.to hle1
 unfold zbH;cases ha:D.l.any fun f=>decide (f.name=⟨#[116]⟩)
 ·refine zR ?_;rw[if_neg (by decide)];exact⟨des,rfl,p1⟩
 ·refine zL (p1.self) ?_;refine(zrX p1 (by show (1:Nat)≤_;decide)).mono ?_;rintro v M2 ⟨es2,rfl,p2, -⟩;refine zR ?_;rw[if_pos rfl];exact⟨es2,rfl,p2⟩
theorem CuPre.new (hs:FreshW A M h X) (hd:FreshD A M p db D des) (hnm:NamesC D) (hj:∀ y,hB h y→¬zac p db des y) (hc:M c=none) (hcm:h.came≤N) (w:CuW):CuPre A (M.setCells c T.zP (zeR h.p p (.pointer none) w)) c p db N h des X D w:=by
 have hle:M.le (M.setCells c T.zP (zeR h.p p (.pointer none) w)):=Mem.le_setCells hc;refine⟨hs.to hle,hd.to hle,Mem.has_setCells,?_,hj,fun hb=>hs.some hb hc,fun hb=>hd.at'.full hb hc,hnm,hcm⟩;cases e:A c with
 | none=>rfl
 | some o=>rw[hd.le _ _ e] at hc;cases hc
set_option maxHeartbeats 1000000 in
theorem zoa (hd:FreshD A M p db D des) (hnm:NamesC D) {me qh qb qg seg:Int} {ld:Option (Int×StW)} (hld:D.down=false→(zbH D).2=0→Ld (zbH D).1 me qh qb qg ld) :
  CallsM Tryz.prog F.zdZ [ptr p,.int .i64 me,.agg #[.int .i64 qh,.int .i64 qb,.int .i64 qg],.int .i64 seg] M fun v M'=>zEp A M' p (zbF D me qh qb qg seg ld) v:=by
 refine zq2 (by simp) ?_;refine zR ?_;refine(zEL me qh qb qg).mono ?_;rintro v M1 (⟨hb,rfl,rfl⟩|⟨hb,h,rfl,h1,hc0⟩)
 ·refine zR ?_;have e:zbF D me qh qb qg seg ld=(zfK D,1):=by unfold zbF;rw[if_pos hb]
  rw[e];exact .inl ⟨(by dsimp only;decide),rfl,hnm,db,des,hd⟩
 have d1:=hd.to h1.st.le;refine zR ?_;refine brn (fun e=>?_) (fun e=>?_)
 ·have e1:=Zd0 e;have e:zbF D me qh qb qg seg ld=(zfK D,1):=by unfold zbF;rw[if_neg hb,if_pos (by omega)]
  refine zR ?_;rw[e];exact .inl ⟨(by dsimp only;decide),rfl,hnm,db,des,d1⟩
 have e1:=Zd1 e;refine zR ?_;refine brn (fun e=>?_) (fun e=>?_)
 ·have e1:=Zd0 e;have e:zbF D me qh qb qg seg ld=(zfK D,1):=by unfold zbF;rw[if_neg hb,if_pos (by omega)]
  refine zR ?_;rw[e];exact .inl ⟨(by dsimp only;decide),rfl,hnm,db,des,d1⟩
 have e2:=Zd1 e;refine zR ?_;refine(zme d1).mono ?_;rintro v _ ⟨rfl,rfl⟩;cases hdn:D.down
 case true=>
  have e:zbF D me qh qb qg seg ld=(zfK D,9):=by unfold zbF;rw[if_neg hb,if_neg (by omega),if_pos hdn]
  refine zR ?_;rw[e];exact .inl ⟨(by dsimp only;decide),rfl,hnm,db,des,d1⟩
 refine zR ?_;refine new (fun c hc=>?_);replace hc:M1 c=none:=hc;have hdj:∀ y,hB h y→¬zac p db des y:=fun y hy hb=>hd.at'.full hb (h1.st.fresh y hy)
 have p2:=CuPre.new (c:=c) (h1.mono hd.le) d1 hnm hdj hc (by rw[hc0];exact Int.le_refl 0) ⟨0,false,false⟩;obtain⟨M2,hM2⟩:∃ M2,M2=M1.setCells c T.zP (zeR h.p p (.pointer none) ⟨0,false,false⟩):=⟨_,rfl⟩
 rw[←hM2] at p2;(conv=>whnf)
 erw [←hM2]
 have hO:zbF D me qh qb qg seg ld=if (zbH D).2≠0 then (zfK (zbH D).1,(zbH D).2) else zkA (zbH D).1 me qh qb qg seg ld:=by
  unfold zbF;rw[if_neg hb,if_neg (by omega),if_neg (by simp[hdn])]
 refine(zA5 p2).mono ?_;rintro v M3 ⟨es3,rfl,p3⟩;obtain⟨s,hs⟩:∃ s,s=zbH D:=⟨_,rfl⟩
 rw[←hs] at p3 hO hld ⊢;(conv=>whnf);refine brn (fun e=>?_) (fun e=>?_)
 ·have e3:s.2≠0:=by simpa using e
  rw[if_pos e3] at hO;refine zR ?_;rw[hO];exact .inl ⟨e3,rfl,p3.nm,db,es3,p3.disk⟩
 have e3:¬s.2≠0:=by simpa using e
 rw[if_neg e3] at hO;have hL:=hld hdn (by simpa using e3)
 rw[hO];cases ld with
 | none=>
  refine zR ?_;refine(zA0 p3 hL me _ ⟨qh,qb,qg,rfl⟩).mono ?_;rintro v M4 ⟨rfl,hle4⟩;have p4:=(p3.to hle4)
  obtain⟨ld1,hld1⟩:∃ ld1:Option (Int×StW),ld1=none:=⟨_,rfl⟩
  have e4:¬(ldD s.1 ld1).2≠0:=by rw[hld1];simp[ldD]
  have hsn:(ldW ld1).snap≤99999:=by rw[hld1];simp[ldW]
  rw[←hld1]
  replace p4:CuPre A M4 c p db 256 h es3 (ldX me qh qb qg ld1) (ldD s.1 ld1).1 (ldW ld1):=by
   rw[hld1];exact⟨p4.st,p4.disk,p4.self,p4.cf,p4.dj,p4.cs,p4.cl,p4.nm,by have:=p4.cm;omega⟩
  unfold zkA;rw[if_neg e4];refine zR ?_;refine(zwC p4 (by omega) hsn (by decide) (by have:=zi9 p4.disk.inv (ldW ld1) seg;omega)).mono ?_;rintro v M5 ⟨rfl,⟨es5,d5⟩,hK⟩
  have hn5:NamesC (zaT (ldD s.1 ld1).1 (ldW ld1) seg).1:=by
   unfold zaT;split
   ·exact p4.nm
   ·exact(zqC p4.nm (by unfold firstC;omega) (by omega)).1
  obtain⟨rp,hrp⟩:∃ rp,rp=zdE (ldX me qh qb qg ld1) (ldD s.1 ld1).1 (ldW ld1) seg:=⟨_,rfl⟩
  rw[←hrp] at hK ⊢;refine ?_;(conv=>whnf);refine brn (fun e=>?_) (fun e=>?_)
  ·have e5:rp≠0:=by simpa using e
   refine zR ?_;rw[if_pos e5];exact .inl ⟨e5,rfl,hn5,db,es5,d5⟩
  have e5:¬rp≠0:=by simpa using e
  rw[if_neg e5];obtain⟨H5,p5⟩:=hK (by simpa using e5);have hfew:=zi9 p4.disk.inv (ldW ld1) seg
  have p5':=p5.more (N':=104857600256) (by omega);refine zR ?_;refine(zA3 p5' (by decide)).mono ?_;rintro v M6 ⟨H6,rfl,p6⟩;obtain⟨b,hb6⟩:∃ b,b=zi8 ⟨(zdo (ldX me qh qb qg ld1) (zaT (ldD s.1 ld1).1 (ldW ld1) seg).2.2.1).1,(zaT (ldD s.1 ld1).1 (ldW ld1) seg).1,(zaT (ldD s.1 ld1).1 (ldW ld1) seg).2.1,ldW ld1⟩:=⟨_,rfl⟩
  rw[←hb6] at p6 ⊢;(conv=>whnf);refine brn (fun e=>?_) (fun e=>?_)
  ·have e6:b.2≠0:=by simpa using e
   refine zR ?_;exact .inl ⟨e6,rfl,p6.nm,_,_,p6.disk⟩
  ·have e6:¬b.2≠0:=by simpa using e
   refine zR ?_;exact .inr ⟨by simpa using e6,c,H6,rfl,p6.more (by omega)⟩
 | some kX=>
  obtain⟨k,X2⟩:=kX;obtain⟨hk,⟨ks,hks⟩,hX⟩:=hL;refine zR ?_;refine(zA2 p3 hks hk hX).mono ?_;rintro v M4 ⟨rfl,⟨es4,d4⟩,hK4⟩;obtain⟨ld1,hld1⟩:∃ ld1:Option (Int×StW),ld1=some (k,X2):=⟨_,rfl⟩
  have hlD:zf7 s.1 k=ldD s.1 ld1:=by rw[hld1];rfl
  rw[←hld1]
  have hn4:NamesC (ldD s.1 ld1).1:=by
   rw[←hlD];unfold zf7;split
   ·exact p3.nm
   ·exact p3.nm.rmSn
  rw[hlD] at hK4 d4 ⊢;refine ?_;(conv=>whnf);refine brn (fun e=>?_) (fun e=>?_)
  ·have e4:(ldD s.1 ld1).2≠0:=by simpa using e
   refine zR ?_;unfold zkA;rw[if_pos e4];exact .inl ⟨e4,rfl,hn4,db,es4,d4⟩
  have e4:¬(ldD s.1 ld1).2≠0:=by simpa using e
  obtain⟨h4,es4',p4⟩:=hK4 (by simpa using e4);have hsn:(ldW ld1).snap≤99999:=by rw[hld1];show k≤99999;omega
  replace p4:CuPre A M4 c p db 256 h4 es4' (ldX me qh qb qg ld1) (ldD s.1 ld1).1 (ldW ld1):=by
   rw[hld1] at p4 ⊢; exact p4
  unfold zkA;rw[if_neg e4];refine zR ?_;refine(zwC p4 (by omega) hsn (by decide) (by have:=zi9 p4.disk.inv (ldW ld1) seg;omega)).mono ?_;rintro v M5 ⟨rfl,⟨es5,d5⟩,hK⟩
  have hn5:NamesC (zaT (ldD s.1 ld1).1 (ldW ld1) seg).1:=by
   unfold zaT;split
   ·exact p4.nm
   ·exact(zqC p4.nm (by unfold firstC;omega) (by omega)).1
  obtain⟨rp,hrp⟩:∃ rp,rp=zdE (ldX me qh qb qg ld1) (ldD s.1 ld1).1 (ldW ld1) seg:=⟨_,rfl⟩
  rw[←hrp] at hK ⊢;refine ?_;(conv=>whnf);refine brn (fun e=>?_) (fun e=>?_)
  ·have e5:rp≠0:=by simpa using e
   refine zR ?_;rw[if_pos e5];exact .inl ⟨e5,rfl,hn5,db,es5,d5⟩
  have e5:¬rp≠0:=by simpa using e
  rw[if_neg e5];obtain⟨H5,p5⟩:=hK (by simpa using e5);have hfew:=zi9 p4.disk.inv (ldW ld1) seg
  have p5':=p5.more (N':=104857600256) (by omega);refine zR ?_;refine(zA3 p5' (by decide)).mono ?_;rintro v M6 ⟨H6,rfl,p6⟩;obtain⟨b,hb6⟩:∃ b,b=zi8 ⟨(zdo (ldX me qh qb qg ld1) (zaT (ldD s.1 ld1).1 (ldW ld1) seg).2.2.1).1,(zaT (ldD s.1 ld1).1 (ldW ld1) seg).1,(zaT (ldD s.1 ld1).1 (ldW ld1) seg).2.1,ldW ld1⟩:=⟨_,rfl⟩
  rw[←hb6] at p6 ⊢;(conv=>whnf);refine brn (fun e=>?_) (fun e=>?_)
  ·have e6:b.2≠0:=by simpa using e
   refine zR ?_;exact .inl ⟨e6,rfl,p6.nm,_,_,p6.disk⟩
  ·have e6:¬b.2≠0:=by simpa using e
   refine zR ?_;exact .inr ⟨by simpa using e6,c,H6,rfl,p6.more (by omega)⟩
end
section
variable {A M M':Mem}
def aw1:CuR:=(zbF ⟨1000,[], -1,false⟩ 1 50 1000 50 40 none).1
def aw2:CuR×IdT×Int:=zct aw1 2 [97]
def aw3:zf:=zbK aw2.1.D []
def aw4:CuR:=(zbF aw3 1 50 1000 50 40 none).1
theorem zFa:(zbF ⟨1000,[], -1,false⟩ 1 50 1000 50 40 none).2=0:=by kernel_rfl
theorem zFb:aw2.2=(⟨1,2,1,1⟩,0):=by kernel_rfl
theorem zFc:(zbF aw3 1 50 1000 50 40 none).2=0:=by kernel_rfl
theorem zFd:aw4.X.S.l=[⟨⟨1,2,1,1⟩,[97]⟩]:=by kernel_rfl
theorem zFe:aw4.X.S.epoch=2:=by kernel_rfl
theorem zFf:zci (zbH ⟨1000,[], -1,false⟩).1=[]:=by kernel_rfl
theorem zFg:zci (zbH aw3).1=[]:=by kernel_rfl
theorem zFh:aw4.X.sn.length=0:=by kernel_rfl
theorem room_ok:CallsM Tryz.prog F.zjr [] M fun v M'=>v = .agg #[.int .i64 1,.int .i64 50,.int .i64 1000,.int .i64 50,.int .i64 40,.int .i64 10000]∧M=M':=by
 refine ztX (by simp) ?_
 repeat' ((conv=>whnf);first|refine⟨?_,True.intro⟩|refine⟨?_,?_,True.intro⟩|refine brn_t rfl ?_|refine brn_f rfl ?_|refine ob rfl ?_|refine ob (by decide) ?_|refine grow_same (Mem.le_refl _) ?_|refine ob (Mem.le_refl _) ?_|refine⟨_,Mem.le_refl _,?_⟩|fail)
 exact⟨rfl,rfl⟩
theorem awake_ok:CallsM Tryz.prog F.zgu [] M fun v M'=>v = .bool true∧M.le M':=by
 refine zsd (by simp) ?_;(conv=>whnf);refine(zEb 1000).mono ?_;rintro v M1 (⟨h, -⟩|⟨-, p,b,rfl,h1⟩)
 ·omega
 repeat' ((conv=>whnf);first|refine⟨?_,True.intro⟩|refine⟨?_,?_,True.intro⟩|refine brn_t rfl ?_|refine brn_f rfl ?_|refine ob rfl ?_|refine ob (by decide) ?_|refine grow_same (Mem.le_refl _) ?_|refine ob (Mem.le_refl _) ?_|refine⟨_,Mem.le_refl _,?_⟩|fail)
 refine room_ok.mono ?_;rintro v _ ⟨rfl,rfl⟩
 repeat' ((conv=>whnf);first|refine⟨?_,True.intro⟩|refine⟨?_,?_,True.intro⟩|refine brn_t rfl ?_|refine brn_f rfl ?_|refine ob rfl ?_|refine ob (by decide) ?_|refine grow_same (Mem.le_refl _) ?_|refine ob (Mem.le_refl _) ?_|refine⟨_,Mem.le_refl _,?_⟩|fail)
 refine(zoa (ld:=none) h1 (fun f hf=>by cases hf) (me:=1) (qh:=50) (qb:=1000) (qg:=50) (seg:=40) (fun _ _=>zFf)).mono ?_;rintro v M2 (⟨h, -⟩|⟨-, c,H,rfl,h2⟩)
 ·exact absurd zFa h
 replace h2:CuAt M M2 c p 104857600300 H aw1:=h2
 repeat' ((conv=>whnf);first|refine⟨?_,True.intro⟩|refine⟨?_,?_,True.intro⟩|refine brn_t rfl ?_|refine brn_f rfl ?_|refine ob rfl ?_|refine ob (by decide) ?_|refine grow_same (Mem.le_refl _) ?_|refine ob (Mem.le_refl _) ?_|refine⟨_,Mem.le_refl _,?_⟩|fail)
 refine new (fun b1 hb1=>?_);replace hb1:M2 b1=none:=hb1;(conv=>whnf);refine on Mem.textAt_setCells ?_;(conv=>whnf)
 obtain⟨hle3,hs3⟩:=zE7 hb1 97;obtain⟨M3,hM3⟩:∃ M3,M3=(M2.setCells b1 T.zn [zl 97]).upd b1 (.cells [zl 97].toArray T.zn (1,2)):=⟨_,rfl⟩
 rw[←hM3] at hle3 hs3;erw [←hM3];have h3:=(h2.to hle3).base
 have hs3':SrcOk (M3.minus (cuB c p H)) 1 (some ⟨b1,0,none⟩) ([97]:List UInt8).length (([97]:List UInt8).map zl):=hs3.minus fun q hq hb=>by
  cases hq;exact h2.some hb hb1
 refine(zqB h3.1 (by decide) 2 hs3' (by decide)).mono ?_
 have e2:zct aw1 2 [97]=(aw2.1,⟨1,2,1,1⟩,0):=by
  have:zct aw1 2 [97]=aw2:=rfl;rw[this,←zFb]
 rw[e2];rintro v M4 ⟨H4,rfl,h4⟩;replace h4:=h4.mono h3.2
 repeat' ((conv=>whnf);first|refine⟨?_,True.intro⟩|refine⟨?_,?_,True.intro⟩|refine brn_t rfl ?_|refine brn_f rfl ?_|refine ob rfl ?_|refine ob (by decide) ?_|refine grow_same (Mem.le_refl _) ?_|refine ob (Mem.le_refl _) ?_|refine⟨_,Mem.le_refl _,?_⟩|fail)
 refine(zx0 h4.disk (keep:=[]) (SrcOk.nil _ _) (by decide)).mono ?_;rintro v M5 ⟨es5,rfl,h5⟩;replace h5:FreshD M M5 p H4.db aw3 es5:=h5
 have hn5:NamesC aw3:=fun f hf=>by
  have hn:=zhi (D:=aw2.1.D) [];have h6:f.name∈aw2.1.D.l.map (·.name):=by rw[←hn];exact List.mem_map.2 ⟨f,hf,rfl⟩
  obtain⟨f',hf',e⟩:=List.mem_map.1 h6;rw[←e];exact h4.nm f' hf'
 repeat' ((conv=>whnf);first|refine⟨?_,True.intro⟩|refine⟨?_,?_,True.intro⟩|refine brn_t rfl ?_|refine brn_f rfl ?_|refine ob rfl ?_|refine ob (by decide) ?_|refine grow_same (Mem.le_refl _) ?_|refine ob (Mem.le_refl _) ?_|refine⟨_,Mem.le_refl _,?_⟩|fail)
 refine(zoa (ld:=none) h5 hn5 (me:=1) (qh:=50) (qb:=1000) (qg:=50) (seg:=40) (fun _ _=>zFg)).mono ?_;rintro v M6 (⟨h, -⟩|⟨-, c6,H6,rfl,h6⟩)
 ·exact absurd zFc h
 replace h6:CuAt M M6 c6 p 104857600300 H6 aw4:=h6
 repeat' ((conv=>whnf);first|refine⟨?_,True.intro⟩|refine⟨?_,?_,True.intro⟩|refine brn_t rfl ?_|refine brn_f rfl ?_|refine ob rfl ?_|refine ob (by decide) ?_|refine grow_same (Mem.le_refl _) ?_|refine ob (Mem.le_refl _) ?_|refine⟨_,Mem.le_refl _,?_⟩|fail)
 refine(zEl h6 ⟨1,2,1,1⟩).mono ?_;rw[zFd];rintro v M7 (⟨-, h, -⟩|⟨a7,n7,c7,l7,rfl, -, hl,hN7⟩)
 ·cases h
 obtain rfl:l7=[97]:=by simpa using hl
 have h7:=h6.to hN7.le
 repeat' ((conv=>whnf);first|refine⟨?_,True.intro⟩|refine⟨?_,?_,True.intro⟩|refine brn_t rfl ?_|refine brn_f rfl ?_|refine ob rfl ?_|refine ob (by decide) ?_|refine grow_same (Mem.le_refl _) ?_|refine ob (Mem.le_refl _) ?_|refine⟨_,Mem.le_refl _,?_⟩|fail)
 refine zyD hN7.src ?_
 repeat' ((conv=>whnf);first|refine⟨?_,True.intro⟩|refine⟨?_,?_,True.intro⟩|refine brn_t rfl ?_|refine brn_f rfl ?_|refine ob rfl ?_|refine ob (by decide) ?_|refine grow_same (Mem.le_refl _) ?_|refine ob (Mem.le_refl _) ?_|refine⟨_,Mem.le_refl _,?_⟩|fail)
 refine(zs3 h7 (by decide) (by rw[zFh];decide)).mono ?_;rintro v M8 ⟨hle8,hS⟩;obtain⟨ua,uc,ha,hc,ms,ma,mc,mk,rfl, -⟩:=hS.ex
 repeat' ((conv=>whnf);first|refine⟨?_,True.intro⟩|refine⟨?_,?_,True.intro⟩|refine brn_t rfl ?_|refine brn_f rfl ?_|refine ob rfl ?_|refine ob (by decide) ?_|refine grow_same (Mem.le_refl _) ?_|refine ob (Mem.le_refl _) ?_|refine⟨_,Mem.le_refl _,?_⟩|fail)
 refine⟨?_,Mem.le_trans h7.le hle8⟩;rw[zFe];rfl
end
section
variable {A M M':Mem}
structure ziu where
 kind:Int
 n:Int
 id:IdT
 p:List UInt8
 keep:List Int
@[reducible] def zB9 (x:ziu) (a1:Option Addr) (c1:Nat) (a2:Option Addr) (n2 c2:Nat):List Value:=[.int .i64 x.kind,.int .i64 x.n,.int .i64 x.id.o,.int .i64 x.id.d,.int .i64 x.id.e,.int .i64 x.id.c,.slice a1 x.p.length c1,.slice a2 n2 c2]
def ActR (M:Mem) (cs:List Value) (x:ziu):Prop:=∃ a1 c1 a2 n2 c2,cs=zB9 x a1 c1 a2 n2 c2∧SrcOk M 1 a1 x.p.length (x.p.map zl)∧x.p.length≤1048576∧x.p.length≤c1∧SrcOk M 1 a2 n2 (x.keep.map zaa)∧n2≤1048576∧(-9223372036854775808≤x.n∧x.n≤9223372036854775807)
structure zj5 where
 me:Int
 qh:Int
 qb:Int
 qg:Int
 seg:Int
 limit:Int
@[reducible] def zs4 (x:zj5):List Value:=[.int .i64 x.me,.int .i64 x.qh,.int .i64 x.qb,.int .i64 x.qg,.int .i64 x.seg,.int .i64 x.limit]
end
end Go.Proofs.YtpdkkbpkplhdpaaGreat
namespace Go.Proofs.YtpdkkbpkplhdpaaGreat
open Go Go.Vm
attribute [local irreducible] Brn Ob Grow CallsM inR zax zav Mem.row Mem.cells Mem.setCells Mem.upd Go.Vm.Own zaD za5 zbc zaJ New SrcOk subA NewSl Mem.textAt Mem.mapAt Mem.iterAt zau zaj Wr NewEls Elems
set_option maxRecDepth 10000
open Br
theorem zeT:Reads T.zr 1 fun (_:Mem) cs (n:Int)=>cs=[.int .i64 n]∧zqZ .i64 n:=Reads.int (by kernel_rfl)
theorem zDo:Reads T.zn 1 fun (_:Mem) cs (n:Int)=>cs=[.int .u8 n]∧zqZ .u8 n:=Reads.int (by kernel_rfl)
theorem ztE {α:Type} {M:Mem} {a:Option Addr} {n:Nat} {R:List Value→α→Prop} {l:List α} {β:Type} (f:β→Value) (h:Elems M 1 a n R l) (hR:∀ cs x,R cs x→∃ y,cs=[f y]):∃ l':List β,SrcOk M 1 a n (l'.map f):=by
 unfold Elems at h;obtain⟨css,h1,h2,h3,h4,h5⟩:=h
 have:∃ l':List β,css.flatten=l'.map f:=by
  clear h1 h4
  induction css generalizing l n with
  | nil=>exact⟨[],rfl⟩
  | cons cs r ih=>
   match l,h3 with
   | [],h3=>simp at h2 h3;omega
   | x::l,h3=>
    obtain⟨y,hy⟩:=hR cs x (h5 0 cs x rfl rfl);obtain⟨l',hl'⟩:=ih (n:=n - 1) (l:=l) (by simp at h2;omega) (by simp at h3;omega) (fun i c z hi hz=>h5 (i+1) c z (by simpa using hi) (by simpa using hz));exact⟨y::l',by simp[hy,hl']⟩
 obtain⟨l',e⟩:=this;exact⟨l',e▸h1⟩
theorem zDp {n:Int} (h:zqZ .u8 n):Value.int .u8 n=zl (UInt8.ofNat n.toNat):=by
 have:=bounds_u8 h;simp only[zl];congr 1;simp;omega
theorem zCa:Reads T.zaK 1 fun M cs (l:List UInt8)=>∃ a n c,cs=[.slice a n c]∧SrcOk M 1 a n (l.map zl)∧n≤1048576∧n≤c:=fun H enc W fuel cs d ps h hb=>by
 obtain⟨h1,l,a,n,c,h2,h3,h4⟩:=Reads.slice (t:=T.zaK) (e:=T.zn) (by kernel_rfl) (by kernel_rfl) (by decide) zDo H enc W fuel cs d ps h hb;obtain⟨l',h5⟩:=ztE zl h3 (fun cs x hx=>⟨_,hx.1.trans (by rw[zDp hx.2])⟩);exact⟨h1,l',a,n,c,h2,h5,h4⟩
theorem zyd:Reads T.zxV 1 fun M cs (l:List Int)=>∃ a n c,cs=[.slice a n c]∧SrcOk M 1 a n (l.map zaa)∧n≤1048576∧n≤c:=fun H enc W fuel cs d ps h hb=>by
 obtain⟨h1,l,a,n,c,h2,h3,h4⟩:=Reads.slice (t:=T.zxV) (e:=T.zr) (by kernel_rfl) (by kernel_rfl) (by decide) zeT H enc W fuel cs d ps h hb;obtain⟨l',h5⟩:=ztE zaa h3 (fun cs x hx=>⟨x,hx.1⟩);exact⟨h1,l',a,n,c,h2,h5,h4⟩
theorem zET:Reads T.zpG 4 fun (_:Mem) cs (i:IdT)=>cs=zE8 i:=fun H enc W fuel cs d ps h hb=>by
 obtain⟨hl,hf⟩:=field Tryz.underlying35 h hb;replace hl:cs.length=4:=hl.trans (by kernel_rfl);obtain⟨-, n0,h0, -⟩:=hf 0 _ rfl 1 zeT (by kernel_rfl);obtain⟨-, n1,h1, -⟩:=hf 1 _ rfl 1 zeT (by kernel_rfl);obtain⟨-, n2,h2, -⟩:=hf 2 _ rfl 1 zeT (by kernel_rfl);obtain⟨-, n3,h3, -⟩:=hf 3 _ rfl 1 zeT (by kernel_rfl);exact⟨hl,⟨n0,n1,n2,n3⟩,(show Chunks cs 0 [[_],[_],[_],[_]] from ⟨h0,h1,h2,h3,hl⟩).eq⟩
theorem zEq:Reads T.zdz 5 fun M cs (m:zby)=>∃ a c,cs=[.int .i64 m.id.o,.int .i64 m.id.d,.int .i64 m.id.e,.int .i64 m.id.c,.slice a m.p.length c]∧SrcOk M 1 a m.p.length (m.p.map zl)∧m.p.length≤1048576∧m.p.length≤c:=fun H enc W fuel cs d ps h hb=>by
 obtain⟨hl,hf⟩:=field Tryz.underlying38 h hb;replace hl:cs.length=5:=hl.trans (by kernel_rfl);obtain⟨-, n0,h0⟩:=hf 0 _ rfl 4 zET (by kernel_rfl);obtain⟨-, l,a,n,c,h1,h2,h3,h4⟩:=hf 1 _ rfl 1 zCa (by kernel_rfl);obtain rfl:=h2.maplen;exact⟨hl,⟨n0,l⟩,a,c,(show Chunks cs 0 [[_,_,_,_],[_]] from ⟨h0,h1,hl⟩).eq,h2,h3,h4⟩
theorem zDq:Reads T.znn 8 fun M cs (x:ziu)=>ActR M cs x:=fun H enc W fuel cs d ps h hb=>by
 obtain⟨hl,hf⟩:=field Tryz.underlying40 h hb;replace hl:cs.length=8:=hl.trans (by kernel_rfl);obtain⟨-, n0,h0, -⟩:=hf 0 _ rfl 1 zeT (by kernel_rfl);obtain⟨-, n1,h1,g1⟩:=hf 1 _ rfl 1 zeT (by kernel_rfl);obtain⟨-, m,a3,c3,h3,g3,g4,g5⟩:=hf 2 _ rfl 5 zEq (by kernel_rfl);obtain⟨-, l5,a5,m5,c5,h5,g6,g7, -⟩:=hf 3 _ rfl 1 zyd (by kernel_rfl);exact⟨hl,⟨n0,n1,m.id,m.p,l5⟩,a3,c3,a5,m5,c5,(show Chunks cs 0 [[_],[_],[_,_,_,_,_],[_]] from ⟨h0,h1,h3,h5,hl⟩).eq,g3,g4,g5,g6,g7,bounds_i64 g1⟩
theorem zCb:Reads T.zlW 1 fun M cs (l:List ziu)=>∃ a n c,cs=[.slice a n c]∧Elems M 8 a n (ActR M) l∧n≤1048576∧n≤c:=fun H enc W fuel cs d ps h hb=>
 Reads.slice Tryz.underlying26 (by kernel_rfl) (by decide) zDq H enc W fuel cs d ps h hb
theorem zCc:Reads T.zgo 3 fun (_:Mem) cs (q:Int×Int×Int)=>cs=[.int .i64 q.1,.int .i64 q.2.1,.int .i64 q.2.2]:=fun H enc W fuel cs d ps h hb=>by
 obtain⟨hl,hf⟩:=field Tryz.underlying23 h hb;replace hl:cs.length=3:=hl.trans (by kernel_rfl);obtain⟨-, n0,h0, -⟩:=hf 0 _ rfl 1 zeT (by kernel_rfl);obtain⟨-, n1,h1, -⟩:=hf 1 _ rfl 1 zeT (by kernel_rfl);obtain⟨-, n2,h2, -⟩:=hf 2 _ rfl 1 zeT (by kernel_rfl);exact⟨hl,⟨n0,n1,n2⟩,(show Chunks cs 0 [[_],[_],[_]] from ⟨h0,h1,h2,hl⟩).eq⟩
theorem zDr:Reads T.zh2 6 fun (_:Mem) cs (x:zj5)=>cs=zs4 x:=fun H enc W fuel cs d ps h hb=>by
 obtain⟨hl,hf⟩:=field Tryz.underlying25 h hb;replace hl:cs.length=6:=hl.trans (by kernel_rfl);obtain⟨-, n0,h0, -⟩:=hf 0 _ rfl 1 zeT (by kernel_rfl);obtain⟨-, q,h1⟩:=hf 1 _ rfl 3 zCc (by kernel_rfl);obtain⟨-, n2,h2, -⟩:=hf 2 _ rfl 1 zeT (by kernel_rfl);obtain⟨-, n3,h3, -⟩:=hf 3 _ rfl 1 zeT (by kernel_rfl);exact⟨hl,⟨n0,q.1,q.2.1,q.2.2,n2,n3⟩,(show Chunks cs 0 [[_],[_,_,_],[_],[_]] from ⟨h0,h1,h2,h3,hl⟩).eq⟩
end Go.Proofs.YtpdkkbpkplhdpaaGreat
namespace Go.Proofs.YtpdkkbpkplhdpaaGreat
open Go Go.Vm
section
variable {C D E:zf} {f0 last:Int} {l:List FileR} {put:List (List UInt8)} {safe:Nat}
structure LessD (E C:zf):Prop where
 len:E.l.length≤C.l.length
 used:zaX E.l≤zaX C.l
 nm:∀ f∈E.l,∃ f'∈C.l,f'.name=f.name
 lim:E.limit=C.limit
theorem LessD.refl (C:zf):LessD C C:=⟨Nat.le_refl _,Nat.le_refl _,fun f hf=>⟨f,hf,rfl⟩,rfl⟩
theorem LessD.trans {A B C:zf} (h:LessD A B) (h':LessD B C):LessD A C:=⟨Nat.le_trans h.len h'.len,Nat.le_trans h.used h'.used,fun f hf=>by
 obtain⟨f1,a,b⟩:=h.nm f hf;obtain⟨f2,c,d⟩:=h'.nm f1 a
 exact⟨f2,c,d.trans b⟩,h.lim.trans h'.lim⟩
theorem zkB {l:List FileR} (hs:SortedR l) {x:FileR} {n:ByteArray} (hx:zg l n=some x) {f:FileR} (hf:f.name=n):(zaO l f).length=l.length∧zaX (zaO l f)+(x.safe.size+x.tail.size)=zaX l+(f.safe.size+f.tail.size):=by
 obtain⟨h1,h2⟩:=zbs hs hx;unfold zaO;rw[zgp,zh3,hf];omega
theorem LessD.remove (h:InvD C) (s:ByteArray):LessD (zC C s).1 C:=by
 unfold zC;split
 ·exact .refl C
 ·rename_i h0;have:=zbs h.sort (zbR (by simpa using h0)).2
  exact⟨by show (zar C.l s).length≤_;omega,by show zaX (zar C.l s)≤_;omega,fun f hf=>⟨f,(withoutR_mem.1 hf).1,rfl⟩,rfl⟩
theorem LessD.cut (h:InvD C) (s:ByteArray) (k:Int):LessD (zcB C s k).1 C:=by
 unfold zcB;split
 ·exact .refl C
 ·rename_i h0;split
  ·exact .refl C
  ·rename_i h1;have hf:=(zbR (by simpa using h0)).2
   have:=zkB h.sort hf (f:=⟨s,(zx C s).all.extract 0 k.toNat,.empty⟩) rfl
   have hz:((zx C s).all.extract 0 k.toNat).size≤(zx C s).safe.size+(zx C s).tail.size:=by
    rw[←all_size,←zaH,zcR,List.length_take,zaH];omega
   have he:ByteArray.empty.size=0:=rfl;dsimp only at this;refine⟨by show (zaO C.l _).length≤_;omega,by show zaX (zaO C.l _)≤_;omega,fun f hf2=>?_,rfl⟩;rcases withR_mem.1 hf2 with rfl|⟨hf2,_⟩
   ·exact⟨_,((zaz h.sort).1 hf).1,((zaz h.sort).1 hf).2⟩
   ·exact⟨f,hf2,rfl⟩
theorem LessD.removeAll:∀ {ks:List Int} {C:zf},InvD C→LessD (removeAll C ks).1 C
 | [],C,_ => .refl C
 | k::r,C,h=>by
  rw[Go.Proofs.YtpdkkbpkplhdpaaGreat.removeAll];split
  ·exact .remove h _
  ·exact(LessD.removeAll (zeH h _)).trans (.remove h _)
theorem zlj (h:InvD C) {s n:ByteArray} (hn:n≠s):zg (zC C s).1.l n=zg C.l n:=by
 unfold zC;split
 ·rfl
 ·show zg (zar C.l s) n=_;rw[zfj h.sort,if_neg hn]
theorem zlD:∀ {ks:List Int} {C:zf},InvD C→∀ {n:ByteArray},(∀ k∈ks,n≠zc k)→zg (removeAll C ks).1.l n=zg C.l n
 | [],_,_,_,_=>rfl
 | k::r,C,h,n,hn=>by
  rw[removeAll];split
  ·exact zlj h (hn k (by simp))
  ·rw[zlD (zeH h _) fun j hj=>hn j (by simp[hj]),zlj h (hn k (by simp))]
theorem zj6 {pick:Int→Bool} {k:Int} (h:PowW C):k∈zaW C pick↔okK k∧pick k=true∧∃ f,zg C.l (zc k)=some f:=by
 unfold zaW;rw[List.mem_filter,List.mem_map];constructor
 ·rintro ⟨⟨f,hf,rfl⟩,hk⟩;rw[Bool.and_eq_true] at hk;have h0:=Zd0 hk.1
  obtain⟨h1,h2⟩:=(h.nm.num hf).resolve_right fun h6=>by have:=h6.2;omega
  exact⟨⟨by omega,by omega⟩,hk.2,f,(zaz h.inv.sort).2 ⟨hf,h2⟩⟩
 ·rintro ⟨hk,hp,f,hf⟩;obtain⟨h1,h2⟩:=(zaz h.inv.sort).1 hf;unfold okK at hk;exact⟨⟨f,h1,by rw[h2,zbU (by omega)]⟩,by rw[Bool.and_eq_true];exact⟨decide_eq_true (by omega),hp⟩⟩
theorem zrY (h:PowW C) (pick:Int→Bool):(removeAll C (zaW C pick)).2=0∧PowW (removeAll C (zaW C pick)).1∧(∀ k,okK k→zg (removeAll C (zaW C pick)).1.l (zc k)=if pick k=true then none else zg C.l (zc k)) ∧
  (∀ n,(∀ k,okK k→n≠zc k)→zg (removeAll C (zaW C pick)).1.l n=zg C.l n)∧LessD (removeAll C (zaW C pick)).1 C:=by
 obtain⟨r1,r2,r3⟩:=zmM h (zrD h pick) fun k hk=>⟨((zj6 h).1 hk).1,((zj6 h).1 hk).2.2⟩
 refine⟨r1,r2,fun k hk=>?_,fun n hn=>zlD h.inv fun k hk=>hn k ((zj6 h).1 hk).1,.removeAll h.inv⟩;rw[r3 k hk];by_cases hm:k∈zaW C pick
 ·rw[if_pos hm,if_pos ((zj6 h).1 hm).2.1]
 ·rw[if_neg hm];split
  ·rename_i hp;cases hf:zg C.l (zc k) with
   | none=>rfl
   | some f=>exact absurd ((zj6 h).2 ⟨hk,hp,f,hf⟩) hm
  ·rfl
def CutAt:Option FileR→Option FileR→Prop
 | none,none=>True
 | some f,some f'=>f'.name=f.name∧f.safe.size≤f'.safe.size∧(∃ m,bl f'.all=(bl f.all).take m)∧(f.tail = .empty→f'.tail = .empty)
 | _,_=>False
theorem CutAt.refl:∀ o:Option FileR,CutAt o o
 | none=>trivial
 | some f=>⟨rfl,Nat.le_refl _,⟨(bl f.all).length,(List.take_length).symm⟩,id⟩
theorem CutAt.none' {o:Option FileR} (h:CutAt none o):o=none:=by
 cases o with
 | none=>rfl
 | some f=>exact h.elim
theorem CutAt.some' {f:FileR} {o:Option FileR} (h:CutAt (some f) o):∃ f' m,o=some f'∧f'.name=f.name∧f.safe.size≤f'.safe.size∧bl f'.all=(bl f.all).take m∧m≤(bl f.all).length∧f'.all.size=m∧(f.tail = .empty→f'.tail = .empty):=by
 cases o with
 | none=>exact h.elim
 | some f'=>
  obtain⟨h1,h2,⟨m,h3⟩,h4⟩:=h;refine⟨f',min m (bl f.all).length,rfl,h1,h2,?_,by omega,?_,h4⟩
  ·rw[h3];by_cases hm:m≤(bl f.all).length
   ·rw[Nat.min_eq_left hm]
   ·rw[Nat.min_eq_right (by omega),List.take_length,List.take_of_length_le (by omega)]
  ·rw[←zaH,h3,List.length_take]
theorem CutAt.whole {n:ByteArray} {s:ByteArray} {o:Option FileR} (h:CutAt (some ⟨n,s,.empty⟩) o):∃ s',o=some ⟨n,s',.empty⟩∧bl s'=bl s:=by
 obtain⟨f',m,rfl,h1,h2,h3,h4,h5,h6⟩:=h.some';obtain⟨n',s',t'⟩:=f';dsimp only at h1 h2;have ht:=h6 rfl
 dsimp only at ht;subst h1 ht;have e1:FileR.all ⟨n',s,.empty⟩=s:=zjN (by unfold FileR.all;dsimp only;rw[zad,zcC,List.append_nil])
 have e2:FileR.all ⟨n',s',.empty⟩=s':=zjN (by unfold FileR.all;dsimp only;rw[zad,zcC,List.append_nil]);rw[e1,e2] at h3;rw[e1] at h4;rw[e2] at h5;refine⟨s',rfl,?_⟩;rw[h3,List.take_of_length_le (by rw[zaH];omega)]
theorem ztF (hd:C.down=false) (h1:1≤f0) {parts:List (List (List UInt8))} (hok:∀ q∈parts,∀ p∈q,zcS p) (hlen:f0+parts.length≤99999)
  (hf:∀ (i:Nat) q,parts[i]? = some q→∃ f,zg C.l (zc (f0+i))=some f∧bl f.all=zbi q):∀ i,i≤parts.length →
  zai (100000 - f0).toNat C f0 f0 []=zai ((100000 - f0).toNat - i) C (f0+i) (if i=0 then f0 else f0+i - 1) ((parts.take i).flatten)
 | 0,_=>by simp
 | i+1,hi=>by
  rw[ztF hd h1 hok hlen hf i (by omega)];have hx:parts[i]? = some parts[i]:=List.getElem?_eq_getElem (by omega)
  have hm:parts[i]∈parts:=List.getElem_mem _;obtain⟨f,h2,h3⟩:=hf i _ hx;have htk:(parts.take (i+1)).flatten=(parts.take i).flatten++parts[i]:=by rw[List.take_add_one,hx,List.flatten_append];simp
  generalize parts[i]=q at *;obtain⟨h4, -, -⟩:=zeI hd (zce (k:=f0+(i:Int)) (by omega)) h2
  have hsc:zaN (zbi q)=q:=by
   have:=zzc (hok q hm) [];rw[List.append_nil] at this;rw[this];have e0:zaN ([]:List UInt8)=[]:=rfl
   rw[e0,List.append_nil]
  rw[show (100000 - f0).toNat - i=((100000 - f0).toNat - (i+1))+1 by omega,zai,h4];dsimp only;rw[if_neg (by omega),if_neg (by simp),h3,hsc,zdY,if_neg (by omega),htk,if_neg (by omega)];congr 1<;>omega
theorem zA7 (hp:PowW C) {size:Int} {E:zf} {nx la:Int} {all:List (List UInt8)}
  (he:zai (100000 - f0).toNat (removeAll C (zaW C fun k=>decide (k<f0))).1 f0 f0 []=(E,nx,la,all,0)) (hn:∀ f∈E.l,0<zbI f.name→¬nx≤zbI f.name):zbP C (L0 f0 size)=(E,{ L0 f0 size with last:=la },all,0):=by
 have hs2:zaW E (fun k=>decide (nx≤k))=[]:=zAB fun f hf h0=>decide_eq_false (hn f hf h0)
 have r1:=(zrY hp fun k=>decide (k<f0)).1;unfold zbP;have he':zai (100000 - (L0 f0 size).first).toNat (removeAll C (zaW C fun k=>decide (k<(L0 f0 size).first))).1 (L0 f0 size).first (L0 f0 size).last []=(E,nx,la,all,0):=he
 have r1':(removeAll C (zaW C fun k=>decide (k<(L0 f0 size).first))).2=0:=r1;dsimp only;rw[if_neg (by simp[r1']),he'];dsimp only;rw[if_neg (by simp),hs2];rfl
def NmI (last:Int) (l:List FileR):Prop:=∀ f∈l,(∃ k:Int,1≤k∧k≤last∧f.name=zc k)∨zfu f.name
theorem NmI.less (h:NmI last C.l) (hl:LessD E C):NmI last E.l:=fun f hf=>by
 obtain⟨f',h1,h2⟩:=hl.nm f hf;have:=h f' h1
 rw[h2] at this;exact this
theorem NmI.num (h:NmI last l) (hl:last≤99999) {f:FileR} (hf:f∈l) (h0:0<zbI f.name):zbI f.name≤last∧f.name=zc (zbI f.name):=by
 rcases h f hf with ⟨k,h1,h2,h3⟩|h1
 ·rw[h3,zbU (by omega)];exact⟨h2,rfl⟩
 ·rw[zfl h1] at h0;omega
set_option maxHeartbeats 1000000 in
theorem SegI.reopen (h:SegI f0 last l put safe) (hp:PowW C) (hl:last<90000) (hnm:NmI last C.l) (hc:∀ k,f0≤k→k≤last→CutAt (zg l (zc k)) (zg C.l (zc k))) (size:Int) :
  ∃ m E la,safe≤m∧m≤put.length∧zbP C (L0 f0 size)=(E,{ L0 f0 size with last:=la },put.take m,0)∧PowW E∧SegI f0 la E.l (put.take m) safe ∧
   (∀ n,(∀ k,okK k→n≠zc k)→zg E.l n=zg C.l n)∧(f0≤la∧la≤last)∧LessD E C∧(∀ f∈E.l,∀ k,okK k→k<f0→f.name≠zc k)∧((∀ k f f',f0≤k→k≤last→zg l (zc k)=some f→zg C.l (zc k)=some f'→bl f'.all=bl f.all)→m=put.length):=by
 obtain⟨parts,cur,h1,h2,h3,h4⟩:=h.seg;have hl1:=h.f1
 have hok:=h.ok;obtain⟨-, p1,p2,p3,p4⟩:=zrY hp fun k=>decide (k<f0)
 have key:=fun {E:zf} {nx la:Int} {all:List (List UInt8)}=>zA7 (f0:=f0) hp (size:=size) (E:=E) (nx:=nx) (la:=la) (all:=all)
 obtain⟨B,hB⟩:∃ B,B=(removeAll C (zaW C fun k=>decide (k<f0))).1:=⟨_,rfl⟩
 rw[←hB] at p1 p2 p3 p4 key;have hnB:NmI last B.l:=hnm.less p4
 have hlow:∀ {E:zf},LessD E B→∀ f∈E.l,∀ k,okK k→k<f0→f.name≠zc k:=fun {E} hE f hf k hk hlt e=>by
  obtain⟨f',g1,g2⟩:=hE.nm f hf;have g3:=p2 k hk
  rw[if_pos (by simpa using hlt)] at g3;exact(findR_none.1 g3) f' g1 (g2.trans e)
 have hfB:∀ k,f0≤k→k≤last→zg B.l (zc k)=zg C.l (zc k):=fun k g1 g2=>by
  rw[p2 k ⟨by omega,by omega⟩,if_neg (by simp;omega)]
 have hcB:∀ k,f0≤k→k≤last→CutAt (zg l (zc k)) (zg B.l (zc k)):=fun k g1 g2=>by rw[hfB k g1 g2];exact hc k g1 g2
 have hparts:∀ (i:Nat) q,parts[i]? = some q→∃ s,zg B.l (zc (f0+i))=some ⟨zc (f0+i),s,.empty⟩∧bl s=zbi q:=fun i q hq=>by
  have hi:=(List.getElem?_eq_some_iff.1 hq).1;obtain⟨s,g1,g2⟩:=h3 i q hq;have g3:=hcB (f0+i) (by omega) (by omega)
  rw[g1] at g3;obtain⟨s',g4,g5⟩:=g3.whole;exact⟨s',g4,g5.trans g2⟩
 have hw:=ztF p1.down hl1.1 (fun q hq p hp=>hok p (by rw[h2];exact List.mem_append_left _ (List.mem_flatten.2 ⟨q,hq,hp⟩))) (by omega) (fun i q hq=>by
  obtain⟨s,g1,g2⟩:=hparts i q hq
  exact⟨_,g1,by unfold FileR.all;dsimp only;rw[zad,zcC,List.append_nil];exact g2⟩) parts.length (Nat.le_refl _)
 rw[List.take_length,show f0+(parts.length:Int)=last by omega] at hw;obtain⟨F,hF⟩:∃ F,(100000 - f0).toNat - parts.length=F+2:=⟨(100000 - f0).toNat - parts.length - 2,by omega⟩
 rw[hF] at hw;have hd:=p1.down
 rcases h4 with ⟨h5,h6,h7⟩|⟨s,t,j,h5,h6,h7,h8,h9⟩
 ·have hn:zg B.l (zc last)=none:=by
   have:=hcB last (by omega) (by omega);rw[h5] at this;exact this.none'
  have hr:=ztm hd (zce (by omega)) hn;rw[zai,if_pos (.inr hr)] at hw
  have hlast:∀ f∈B.l,0<zbI f.name→¬last≤zbI f.name:=fun f hf h0 hle=>by
   obtain⟨g1,g2⟩:=hnB.num (by omega) hf h0;rw[show zbI f.name=last by omega] at g2;exact(findR_none.1 hn) f hf g2
  have hk:=key hw hlast;have hput:put.take put.length=put:=List.take_length
  have hpf:put=parts.flatten:=by rw[h2,h6,List.append_nil]
  refine⟨put.length,B,if parts.length=0 then f0 else last - 1,by rw[hpf];exact h7,Nat.le_refl _,by rw[hk,hput,hpf],p1,?_,p3,by split<;>omega,p4,hlow (.refl B),fun _=>rfl⟩;rw[hput];split
  ·rename_i h0;have hp0:parts=[]:=List.eq_nil_of_length_eq_zero h0
   have e:f0=last:=by rw[h0] at h1;omega
   refine⟨hok,by omega,fun f hf=>?_,[],[],by simp,by rw[hpf,hp0];rfl,by simp,.inl ⟨by rw[e];exact hn,rfl,by rw[hp0] at h7;exact h7⟩⟩;rw[e];exact hnB f hf
  ·rename_i h0;obtain⟨ps,q,rfl⟩:∃ ps q,parts=ps++[q]:=⟨parts.dropLast,parts.getLast (by intro e;rw[e] at h0;exact h0 rfl),(List.dropLast_concat_getLast _).symm⟩
   rw[List.length_append,List.length_singleton] at h1;obtain⟨s,g1,g2⟩:=hparts ps.length q (by simp);have e:f0+(ps.length:Int)=last - 1:=by omega
   rw[e] at g1;refine⟨hok,by omega,fun f hf=>?_,ps,q,by omega,by rw[hpf];simp,fun i q' hq=>?_,.inr ⟨s,.empty,q.length,g1,by rw[zcC,List.append_nil];exact g2,Nat.le_refl _,?_,?_⟩⟩
   ·rcases hnB f hf with ⟨k,q1,q2,q3⟩|q1
    ·by_cases hkl:k=last
     ·rw[hkl] at q3;exact absurd q3 ((findR_none.1 hn) f hf)
     ·exact .inl ⟨k,q1,by omega,q3⟩
    ·exact .inr q1
   ·have hi:=(List.getElem?_eq_some_iff.1 hq).1;exact hparts i q' (by rw[List.getElem?_append_left hi];exact hq)
   ·rw[List.take_length,←zdY,←g2,zaH];exact Nat.le_refl _
   ·rw[List.flatten_append,List.length_append] at h7;simpa using h7
 ·have hcl:=hcB last (by omega) (by omega);rw[h5] at hcl;obtain⟨f,m,g1,g2,g3,g4,g5,g6, -⟩:=hcl.some';have hall:bl (FileR.all ⟨zc last,s,t⟩)=zbi cur:=by unfold FileR.all;dsimp only;rw[zad,h6]
  rw[hall] at g4 g5;rw[zdY] at g5;dsimp only at g2 g3;obtain⟨j2,k1,k2,k3,k4⟩:=zAv (fun p hp=>hok p (by rw[h2];exact List.mem_append_right _ hp)) (ps:=cur) (m:=m) g5;have hsm:f.safe.size≤m:=by rw[←g6,all_size];omega
  have hj2:j≤j2:=k4 j h7 (by omega);obtain⟨r1,r2,r3⟩:=zeI hd (zce (by omega)) g1;have hrl:(bl f.all).length=m:=by rw[zaH,g6]
  have hrow:(zbi cur).take (zae (cur.take j2))=zbi (cur.take j2):=by
   have:zbi cur=zbi (cur.take j2)++zbi (cur.drop j2):=by rw[←zjR,List.take_append_drop]
   rw[this,List.take_append_of_le_length (by rw[zdY];exact Nat.le_refl _),List.take_of_length_le (by rw[zdY];exact Nat.le_refl _)]
  have hto:put.take (parts.flatten.length+j2)=parts.flatten++cur.take j2:=by rw[h2,List.take_length_add_append]
  have hmm:(∀ k f f',f0≤k→k≤last→zg l (zc k)=some f→zg C.l (zc k)=some f'→bl f'.all=bl f.all)→j2=cur.length:=fun he=>by
   have e1:=he last _ f (by omega) (by omega) h5 (by rw[←hfB last (by omega) (by omega)];exact g1);have e3:m=zae cur:=by rw[←hrl,e1,hall,zdY]
   have:=k4 cur.length (Nat.le_refl _) (by rw[List.take_length];omega);omega
  have hres:∀ {E:zf} (s' t':ByteArray),zai (100000 - f0).toNat B f0 f0 []=(E,last+1,last,parts.flatten++cur.take j2,0)→PowW E→LessD E B→(∀ n,n≠zc last→zg E.l n=zg B.l n) →
    zg E.l (zc last)=some ⟨zc last,s',t'⟩→bl s'++bl t'=zbi (cur.take j2)→zae (cur.take j)≤s'.size →
    ∃ m E la,safe≤m∧m≤put.length∧zbP C (L0 f0 size)=(E,{ L0 f0 size with last:=la },put.take m,0)∧PowW E∧SegI f0 la E.l (put.take m) safe ∧
     (∀ n,(∀ k,okK k→n≠zc k)→zg E.l n=zg C.l n)∧(f0≤la∧la≤last)∧LessD E C∧(∀ f∈E.l,∀ k,okK k→k<f0→f.name≠zc k)∧((∀ k f f',f0≤k→k≤last→zg l (zc k)=some f→zg C.l (zc k)=some f'→bl f'.all=bl f.all)→m=put.length):=fun {E} s' t' he hE hlE hfE hc1 hc2 hc3=>by
   have hnE:NmI last E.l:=hnB.less hlE
   have hk:=key he fun x hx h0 hle=>by
    have:=(hnE.num (by omega) hx h0).1;omega
   refine⟨parts.flatten.length+j2,E,last,by omega,by rw[h2,List.length_append];omega,by rw[hk,hto],hE,?_,fun n hn=>?_,by omega,hlE.trans p4,hlow hlE,fun hh=>by rw[hmm hh,h2,List.length_append]⟩
   ·rw[hto];refine⟨fun q hq=>hok q ?_,hl1,hnE,parts,cur.take j2,h1,rfl,fun i q hq=>?_,.inr ⟨s',t',j,hc1,hc2,by rw[List.length_take];omega,by rw[List.take_take,Nat.min_eq_left hj2];exact hc3,h9⟩⟩
    ·rw[←hto] at hq;exact List.mem_of_mem_take hq
    ·have hi:=(List.getElem?_eq_some_iff.1 hq).1;rw[hfE _ (zje (by omega) (by omega) (by omega))];exact hparts i q hq
   ·rw[hfE n (hn last ⟨by omega,by omega⟩)];exact p3 n hn
  by_cases hcut:zae (cur.take j2)<m
  ·obtain⟨c1,c2,c3⟩:=p1.cut (k:=last) ⟨by omega,by omega⟩ g1 (m:=zae (cur.take j2)) (by rw[g6];omega);have c4:=LessD.cut p1.inv (zc last) (zae (cur.take j2):Int)
   have hb:bl (f.all.extract 0 (zae (cur.take j2)))=zbi (cur.take j2):=by
    rw[zcR,g4,List.take_take,Nat.min_eq_left (by omega),hrow]
   refine hres (E:=(zcB B (zc last) (zae (cur.take j2))).1) (f.all.extract 0 (zae (cur.take j2))) .empty ?_ c2 c4 (fun n hn=>by rw[c3,if_neg hn]) (by rw[c3,if_pos rfl]) (by rw[zcC,List.append_nil];exact hb) ?_
   ·rw[hw,zai,r1];dsimp only;rw[if_neg (by omega),if_neg (by simp),g4,k2,←g4,hrl,if_pos hcut,if_neg (by simp[c1])]
   ·rw[←zaH,hb,zdY];have:cur.take j=(cur.take j2).take j:=by rw[List.take_take,Nat.min_eq_left hj2]
    have e2:zbi (cur.take j2)=zbi ((cur.take j2).take j)++zbi ((cur.take j2).drop j):=by rw[←zjR,List.take_append_drop]
    rw[this,←zdY,←zdY,e2,List.length_append];omega
  ·have hme:zae (cur.take j2)=m:=by omega
   have hn2:zg B.l (zc (last+1))=none:=by
    rw[findR_none];intro x hx e;rcases hnB x hx with ⟨k,q1,q2,q3⟩|q1
    ·rw[q3] at e;exact zje (by omega) (by omega) (by omega) e
    ·rw[e] at q1;have:=zfl q1
     rw[zbU (by omega)] at this;omega
   have hr2:=ztm hd (zce (k:=last+1) (by omega)) hn2;obtain⟨n',s',t'⟩:=f;dsimp only at g2 g3;subst g2;refine hres (E:=B) s' t' ?_ p1 (.refl B) (fun n _=>rfl) g1 ?_ (by omega)
   ·rw[hw,zai,r1];dsimp only;rw[if_neg (by omega),if_neg (by simp),g4,k2,←g4,hrl,if_neg hcut,zai,if_pos (.inr hr2)]
   ·rw[←hrow,hme,←g4];unfold FileR.all;rw[zad]
end
section
def zb1 (X:StW) (e:EvX):StW:=(zcX X e.kind e.id e.p).1
def zbz (X:StW) (E:List EvX):StW:=E.foldl zb1 X
def okW (X:StW):List EvX→Prop
 | []=>True
 | e::r=>zcF X e.kind e.id e.p.length=0∧okW (zb1 X e) r
theorem zfL (X:StW) (E F:List EvX):zbz X (E++F)=zbz (zbz X E) F:=List.foldl_append ..
theorem okW_append:∀ {E F:List EvX} {X:StW},okW X (E++F)↔okW X E∧okW (zbz X E) F
 | [],F,X=>by simp[okW,zbz]
 | e::r,F,X=>by
  show (_∧okW _ (r++F))↔(_∧okW _ r)∧okW (zbz (zb1 X e) r) F;rw[okW_append];constructor
  ·rintro ⟨a,b,c⟩;exact⟨⟨a,b⟩,c⟩
  ·rintro ⟨⟨a,b⟩,c⟩;exact⟨a,b,c⟩
theorem zCd {E:List EvX} {X:StW} (h:okW X E) (m:Nat):okW X (E.take m):=by
 rw[←List.take_append_drop m E] at h;exact(okW_append.1 h).1
theorem zxL {e:EvX} (h:zcw e=0):zca e=zI e:=by unfold zca;rw[if_pos h]
theorem zrZ:∀ {E:List EvX} {X:StW},okW X E→zdo X (E.map zI)=(zbz X E,0)
 | [],X,_=>rfl
 | e::r,X,h=>by
  have he:zcw e=0:=zn8 h.1;obtain⟨b1,b2⟩:=back he;rw[zxL he] at b1 b2;have ha:(zcX X e.kind e.id e.p).2=0:=by unfold zcX;rw[if_pos h.1]
  rw[List.map_cons,zdo,if_neg (by simp[b2]),b1,if_neg (by simp[ha])];exact zrZ h.2
theorem zEr (X:StW) (e:EvX):(zb1 X e).S.self=X.S.self∧(zb1 X e).S.qh=X.S.qh∧(zb1 X e).S.qb=X.S.qb∧(zb1 X e).S.qg=X.S.qg:=by
 unfold zb1 zcX;split
 ·exact zwu ..
 ·exact⟨rfl,rfl,rfl,rfl⟩
theorem zA8:∀ (E:List EvX) (X:StW),(zbz X E).S.self=X.S.self∧(zbz X E).S.qh=X.S.qh∧(zbz X E).S.qb=X.S.qb∧(zbz X E).S.qg=X.S.qg
 | [],X=>⟨rfl,rfl,rfl,rfl⟩
 | e::r,X=>by
  obtain⟨a1,a2,a3,a4⟩:=zA8 r (zb1 X e);obtain⟨b1,b2,b3,b4⟩:=zEr X e;exact⟨a1.trans b1,a2.trans b2,a3.trans b3,a4.trans b4⟩
theorem ztG (m:Mk):∀ l:List Mk,(zho m l).length≤l.length+1
 | []=>by simp[zho]
 | y::r=>by
  have:=ztG m r;unfold zho
  repeat' split
  all_goals simp
  exact this
theorem zCe (S:StR) (k:Int) (i:IdT) (p:List UInt8):(zJ S k i p).l.length≤S.l.length+1∧(zJ S k i p).epoch≤S.epoch+1:=by
 have:=List.length_filter_le (fun m:zby=>decide (m.id≠i)) S.l;unfold zJ;split
 ·exact⟨by show S.l.length≤_;omega,by show S.epoch+1≤_;omega⟩
 split
 ·exact⟨by show (S.l++[_]).length≤_;simp,by show S.epoch≤_;omega⟩
 split
 ·exact⟨by show (S.l.filter _).length≤_;omega,by show S.epoch≤_;omega⟩
 ·exact⟨by omega,by omega⟩
theorem zEs (X:StW) (e:EvX):(zb1 X e).S.l.length≤X.S.l.length+1∧(zb1 X e).sn.length≤X.sn.length+1∧(zb1 X e).S.epoch≤X.S.epoch+1:=by
 unfold zb1 zcX;split
 ·obtain⟨h1,h2⟩:=zCe X.S e.kind e.id e.p;refine⟨h1,?_,h2⟩;dsimp only;split
  ·exact ztG _ _
  ·omega
 ·dsimp only;omega
theorem zwD:∀ (E:List EvX) (X:StW),(zbz X E).S.l.length≤X.S.l.length+E.length∧(zbz X E).sn.length≤X.sn.length+E.length∧(zbz X E).S.epoch≤X.S.epoch+E.length
 | [],X=>by simp[zbz]
 | e::r,X=>by
  have h1:=zwD r (zb1 X e);have h2:=zEs X e
  have h3:zbz X (e::r)=zbz (zb1 X e) r:=rfl;rw[h3,List.length_cons];omega
theorem ztH:∀ {l:List zby},(∀ m∈l,m.p.length≤48)→(zaM l).length≤55*l.length
 | [],_=>by simp[zaM]
 | m::r,h=>by
  have h1:=ztH fun x hx=>h x (List.mem_cons_of_mem _ hx)
  have h2:=h m (by simp);have h3:zaM (m::r)=(zu (6+m.p.length)::(zZ m.id.o m.id.d m.id.e m.id.c++m.p))++zaM r:=by simp[zaM]
  rw[h3,List.length_append,List.length_cons,List.length_append,List.length_cons];have h4:(zZ m.id.o m.id.d m.id.e m.id.c).length=6:=by simp[zZ,two]
  omega
theorem zr0:∀ l:List Mk,(zO l).length=7*l.length+2*zcE l
 | []=>by simp[zO,zcE]
 | m::r=>by
  have h1:=zr0 r;have h3:zO (m::r)=zfc m++zO r:=by simp[zO]
  have h4:(zfc m).length=7+2*m.more.length:=by
   unfold zfc;rw[List.length_cons,List.length_append,za0,za0];simp;omega
  have h5:zcE (m::r)=m.more.length+zcE r:=by simp[zcE]
  rw[h3,List.length_append,h1,h4,h5,List.length_cons];omega
theorem zA9 (l:List Mk):zaI (zdn l)=zcE l:=by
 unfold zaI zcE zdn;rw[List.map_map];rfl
theorem zCf {X:StW} (h:PureW X):(zaq (zcK X)).length≤720+55*X.S.l.length+7*X.sn.length:=by
 have hm:∀ m∈X.S.l,m.p.length≤48:=fun m hm=>(za8 (h.inv.msgs m hm).1).2.2
 have h1:=ztH hm;have h2:=zr0 X.sn
 have h3:=h.room;rw[zA9] at h3;have h4:=zc5 X.S.used 0
 have h5:=h.inv.ulen;have h6:=zmB (zG X.S.used)
 have h7:(zG X.S.used).length≤X.S.used.length:=zc5 _ 0;unfold zaq zgH zcM;simp only[List.length_append,List.length_cons,za0,zcp,List.length_nil];omega
theorem zpv {e:EvX} (h:zcw e=0):(zI e).length≤55∧1≤(zI e).length:=by
 have h1:(zZ e.id.o e.id.d e.id.e e.id.c).length=6:=by simp[zZ,two]
 unfold zI;rw[List.length_cons];split
 ·simp
 ·split
  ·rename_i h2;have:=(zh6 h h2).2.2
   rw[List.length_append];omega
  ·omega
theorem zzG {e:EvX} (h:zcw e=0):zcS (zI e):=by
 have:=zpv h;unfold zcS;omega
theorem zDs {q:List UInt8} (h:zcS q):zgf q=0:=by
 unfold zcS at h;unfold zgf;rw[if_neg (by omega),if_neg (by omega)]
theorem zBa (X:StW) (k:Int) (i:IdT) (n:Nat):zcF X k i n≠9:=by
 have h1:∀ i:IdT,zdJ i≠9:=fun i=>by
  unfold zdJ za4
  repeat' split
  all_goals decide
 have h2:zaF k i n≠9:=by
  unfold zaF
  repeat' split
  all_goals first|decide|exact h1 i|skip
  unfold zdm zfk
  repeat' split
  all_goals first|decide|exact h1 i
 have h3:zcV X.S (zdn X.sn) i≠9:=by
  unfold zcV zc9
  repeat' split
  all_goals first|decide|exact h1 i
 unfold zcF zag
 repeat' split
 all_goals first|decide|assumption
end
end Go.Proofs.YtpdkkbpkplhdpaaGreat
