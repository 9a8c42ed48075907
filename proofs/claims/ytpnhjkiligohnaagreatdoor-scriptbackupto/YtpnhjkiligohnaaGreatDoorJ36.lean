/- Part of this proof;laid by program. -/
import Derived.Test.YtpnhjkiligohnaaGreatDoorJ35
set_option linter.unusedVariables false
set_option linter.unusedSimpArgs false
namespace Go.Proofs.YtpnhjkiligohnaaGreatDoor
open Go Go.Vm
attribute [local irreducible] Brn Ob Grow CallsM inR zbd za9 Mem.row Mem.cells Mem.setCells Mem.upd Go.Vm.Own zbN zcZ zcB zbV New SrcOk zat NewSl Mem.textAt Mem.mapAt Mem.iterAt za8 kfind Wr NewEls Elems
set_option maxRecDepth 10000
variable {M B B0:Mem}
theorem LayAt.up {M':Mem} {bo bu:Nat} {ok:Bool} {L:List UInt8} (h:LayAt B M bo bu ok L) (hle:M.le M'):∃ B',LayAt B' M' bo bu ok L∧B.le B'∧∀ y o,M y=none→M' y=some o→B' y=some o:=by
 obtain⟨h1,h2,h3,h4,q,c,h5,h6⟩:=h;refine⟨M'.minus fun y=>y=bo∨y=bu∨blk q y,⟨Mem.minus_le _ _,Mem.minus_in (.inl rfl),Mem.minus_in (.inr (.inl rfl)),hle _ _ h4,q,c,hle _ _ h5,h6.rebase2 hle fun x hx => .inr (.inr hx)⟩,Mem.le_minus (Mem.le_trans h1 hle) ?_,?_⟩
 ·rintro b (rfl|rfl|⟨r,hr,rfl⟩)
  ·exact h2
  ·exact h3
  ·exact(h6.block hr).1
 ·intro y o hy ho;unfold Mem.minus;rw[if_neg,ho];rintro (rfl|rfl|⟨r,hr,rfl⟩)
  ·rw[show M y=_ from h4] at hy;cases hy
  ·rw[show M y=_ from h5] at hy;cases hy
  ·obtain⟨_,cs,hc⟩:=h6.block hr;rw[show M r.block=_ from hc] at hy;cases hy
theorem LayAt.mono {bo bu:Nat} {ok:Bool} {L:List UInt8} (h:LayAt B M bo bu ok L) (hle:B0.le B):LayAt B0 M bo bu ok L:=by
 obtain⟨h1,h2,h3,h4,q,c,h5,h6⟩:=h;exact⟨Mem.le_trans hle h1,zq7 hle h2,zq7 hle h3,h4,q,c,h5,h6.mono hle⟩
theorem zaA {bl bo bu:Nat} {E:TypeId} {ok:Bool} {L:List UInt8} (h:LayAt B M bo bu ok L) (hl:B.has bl E [zcY bo bu]) (n:Int) (hL:L.length≤4194304) :
  CallsM Tryz.prog F.zjk [.int .i64 n,ptr bl] M fun v M'=>v = .tuple #[]∧LayAt B M' bo bu (ok&&(zaW n).all zap) (L++(zaW n).map zP):=by
 refine zzW (by simp) ?_;(conv=>whnf);refine brn (fun g=>?_) (fun g=>?_)
 ·have g':n≠0:=by simpa using g
  have e:zaW n=[(-1,1,1)]:=by rw[zaW,if_neg g']
  (conv=>whnf);refine on ((hl.le h.1).c1 rfl) ?_;(conv=>whnf)
  refine(zae h (n := -1) (by unfold zas;omega) (b:=1) (m:=1) (by decide) (by decide) hL).mono ?_;rintro v M1 ⟨rfl,h1⟩;refine zR ?_;(conv=>whnf)
  refine⟨rfl,?_⟩;rw[e];simpa using h1
 ·have g':n=0:=by simpa using g
  have e:zaW n=[]:=by rw[zaW,if_pos g']
  (conv=>whnf);refine⟨rfl,?_⟩;rw[e];simpa using h
@[reducible] def tyF:TypeId:=78
theorem LayAt.cast {bo bu:Nat} {ok ok':Bool} {L L':List UInt8} (h:LayAt B M bo bu ok L) (h1:ok=ok') (h2:L=L'):LayAt B M bo bu ok' L':=by subst h1 h2;exact h
theorem zpK (n:Int):(zaW n).length≤1:=by unfold zaW;split<;>simp
def ztR (x:StpI):Prop:=zas x.kind∧zas x.node∧zas x.to∧zas x.n∧x.data.length≤1048576
set_option maxRecDepth 100000 in
theorem zR4 {bo bu:Nat} {ok:Bool} {L:List UInt8} (h:LayAt B M bo bu ok L) {x:StpI} (hx:ztR x) {r:Nat} (hr:r<12) (hk:x.kind=1+(r:Nat)) (q:Option Addr) (c:Nat) {nodes:Nat} (hL:L.length≤4194000) :
  CallsM Tryz.prog F.zl7 [.agg (zH1 x q c).toArray,.int .i64 nodes,zcY bo bu] M fun v M'=>v = .tuple #[]∧LayAt B M' bo bu (ok&&(zag nodes x).all zap) (L++(zag nodes x).map zP):=by
 obtain⟨k,nd,to,n,data⟩:=x;obtain⟨r0,r1,r2,r3,r4⟩:=hx;dsimp only at hk r0 r1 r2 r3 r4;subst hk;unfold zH1;dsimp only;have rd:zas (data.length:Nat):=by unfold zas;omega
 refine zDc (by simp) ?_;refine zR ?_;refine(zEI r hr).mono ?_;rintro u _ ⟨rfl,rfl⟩;refine zR ?_;refine obr (zs (by unfold zas at r0;omega)) ?_;refine zR ?_;refine(zae h (n:=1+(r:Nat) - 1) (by unfold zas at *; omega) (b:=1) (m:=12) (by decide) (by decide) (by omega)).mono ?_;rintro v M1 ⟨rfl,h1⟩;have z1:=zpK nd
 have z2:=zpK to;have z3:=zpK n
 have z4:=zpK (data.length:Nat);have z5:=zpK ((data.length:Nat) - 1)
 have hsc:=fun (M:Mem)=>zm3 (M:=M) r hr
 have hmo:=fun (M:Mem)=>zEq (M:=M) r hr
 match r,hr with
 | 0,_=>
  repeat' ((conv=>whnf);first|refine brn_t rfl ?_|refine brn_f rfl ?_|refine ob rfl ?_|refine obr rfl ?_|refine ob (by decide) ?_|refine obr (by decide) ?_|refine brn_t (by kernel_rfl) ?_|refine brn_f (by kernel_rfl) ?_|fail)
  refine(zae h1 (n:=nd) r1 (b:=1) (m:=nodes) (by omega) (by omega) (by simp;omega)).mono ?_;rintro v M2 ⟨rfl,h2⟩
  repeat' ((conv=>whnf);first|refine brn_t rfl ?_|refine brn_f rfl ?_|refine ob rfl ?_|refine obr rfl ?_|refine ob (by decide) ?_|refine obr (by decide) ?_|refine brn_t (by kernel_rfl) ?_|refine brn_f (by kernel_rfl) ?_|fail)
  refine(zae h2 (n:=to) r2 (b:=1) (m:=256) (by omega) (by omega) (by simp;omega)).mono ?_;rintro v M3 ⟨rfl,h3⟩
  repeat' ((conv=>whnf);first|refine brn_t rfl ?_|refine brn_f rfl ?_|refine ob rfl ?_|refine obr rfl ?_|refine ob (by decide) ?_|refine obr (by decide) ?_|refine brn_t (by kernel_rfl) ?_|refine brn_f (by kernel_rfl) ?_|fail)
  refine(hsc _).mono ?_;rintro u _ ⟨rfl,rfl⟩
  repeat' ((conv=>whnf);first|refine brn_t rfl ?_|refine brn_f rfl ?_|refine ob rfl ?_|refine obr rfl ?_|refine ob (by decide) ?_|refine obr (by decide) ?_|refine brn_t (by kernel_rfl) ?_|refine brn_f (by kernel_rfl) ?_|fail)
  refine new (fun bl hbl0=>?_);replace hbl0:M3 bl=none:=hbl0;obtain⟨Mb,hMb⟩:∃ Mb,Mb=M3.setCells bl tyF [zcY bo bu]:=⟨_,rfl⟩
  obtain⟨B1,hp,hBB,hin⟩:=h3.up (M':=Mb) (hMb▸Mem.le_setCells hbl0);have hbl:B1.has bl tyF [zcY bo bu]:=hin _ _ hbl0 (hMb▸Mem.has_setCells)
  (conv=>whnf);erw [←hMb]
  repeat' ((conv=>whnf);first|refine brn_t rfl ?_|refine brn_f rfl ?_|refine ob rfl ?_|refine obr rfl ?_|refine ob (by decide) ?_|refine obr (by decide) ?_|refine brn_t (by kernel_rfl) ?_|refine brn_f (by kernel_rfl) ?_|fail)
  refine(zaA hp hbl n (by simp;omega)).mono ?_;rintro v M4 ⟨rfl,h4⟩
  repeat' ((conv=>whnf);first|refine brn_t rfl ?_|refine brn_f rfl ?_|refine ob rfl ?_|refine obr rfl ?_|refine ob (by decide) ?_|refine obr (by decide) ?_|refine brn_t (by kernel_rfl) ?_|refine brn_f (by kernel_rfl) ?_|fail)
  refine zX ?_;refine⟨B1,h4.1,?_⟩
  repeat' ((conv=>whnf);first|refine brn_t rfl ?_|refine brn_f rfl ?_|refine ob rfl ?_|refine obr rfl ?_|refine ob (by decide) ?_|refine obr (by decide) ?_|refine brn_t (by kernel_rfl) ?_|refine brn_f (by kernel_rfl) ?_|fail)
  refine on (hbl.c1 rfl) ?_;refine zX ?_;refine(hmo _).mono ?_;rintro u _ ⟨rfl,rfl⟩;refine zT (h4.1) ?_;(conv=>whnf)
  refine(zae h4 (n:=(data.length:Nat)) rd (b:=1) (m:=64) (by omega) (by omega) (by simp;omega)).mono ?_;rintro v M9 ⟨rfl,h9⟩;refine zT (h9.1) ?_
  repeat' ((conv=>whnf);first|refine brn_t rfl ?_|refine brn_f rfl ?_|refine ob rfl ?_|refine obr rfl ?_|refine ob (by decide) ?_|refine obr (by decide) ?_|refine brn_t (by kernel_rfl) ?_|refine brn_f (by kernel_rfl) ?_|fail)
  (conv=>whnf);refine⟨rfl,(h9.mono hBB).cast ?_ ?_⟩
  ·simp[zag,zaL,Bool.and_assoc]
  ·simp[zag,zaL]
 | 1,_=>
  repeat' ((conv=>whnf);first|refine brn_t rfl ?_|refine brn_f rfl ?_|refine ob rfl ?_|refine obr rfl ?_|refine ob (by decide) ?_|refine obr (by decide) ?_|refine brn_t (by kernel_rfl) ?_|refine brn_f (by kernel_rfl) ?_|fail)
  refine(zae h1 (n:=nd) r1 (b:=1) (m:=nodes) (by omega) (by omega) (by simp;omega)).mono ?_;rintro v M2 ⟨rfl,h2⟩
  repeat' ((conv=>whnf);first|refine brn_t rfl ?_|refine brn_f rfl ?_|refine ob rfl ?_|refine obr rfl ?_|refine ob (by decide) ?_|refine obr (by decide) ?_|refine brn_t (by kernel_rfl) ?_|refine brn_f (by kernel_rfl) ?_|fail)
  refine new (fun bl hbl0=>?_);replace hbl0:M2 bl=none:=hbl0;obtain⟨Mb,hMb⟩:∃ Mb,Mb=M2.setCells bl tyF [zcY bo bu]:=⟨_,rfl⟩
  obtain⟨B1,hp,hBB,hin⟩:=h2.up (M':=Mb) (hMb▸Mem.le_setCells hbl0);have hbl:B1.has bl tyF [zcY bo bu]:=hin _ _ hbl0 (hMb▸Mem.has_setCells)
  (conv=>whnf);erw [←hMb]
  repeat' ((conv=>whnf);first|refine brn_t rfl ?_|refine brn_f rfl ?_|refine ob rfl ?_|refine obr rfl ?_|refine ob (by decide) ?_|refine obr (by decide) ?_|refine brn_t (by kernel_rfl) ?_|refine brn_f (by kernel_rfl) ?_|fail)
  refine(zaA hp hbl to (by simp;omega)).mono ?_;rintro v M3 ⟨rfl,h3⟩
  repeat' ((conv=>whnf);first|refine brn_t rfl ?_|refine brn_f rfl ?_|refine ob rfl ?_|refine obr rfl ?_|refine ob (by decide) ?_|refine obr (by decide) ?_|refine brn_t (by kernel_rfl) ?_|refine brn_f (by kernel_rfl) ?_|fail)
  refine(hsc _).mono ?_;rintro u _ ⟨rfl,rfl⟩
  repeat' ((conv=>whnf);first|refine brn_t rfl ?_|refine brn_f rfl ?_|refine ob rfl ?_|refine obr rfl ?_|refine ob (by decide) ?_|refine obr (by decide) ?_|refine brn_t (by kernel_rfl) ?_|refine brn_f (by kernel_rfl) ?_|fail)
  refine(zaA h3 hbl n (by simp;omega)).mono ?_;rintro v M4 ⟨rfl,h4⟩
  repeat' ((conv=>whnf);first|refine brn_t rfl ?_|refine brn_f rfl ?_|refine ob rfl ?_|refine obr rfl ?_|refine ob (by decide) ?_|refine obr (by decide) ?_|refine brn_t (by kernel_rfl) ?_|refine brn_f (by kernel_rfl) ?_|fail)
  refine(zaA h4 hbl ((data.length:Nat):Int) (by simp;omega)).mono ?_;rintro v M5 ⟨rfl,h5⟩
  repeat' ((conv=>whnf);first|refine brn_t rfl ?_|refine brn_f rfl ?_|refine ob rfl ?_|refine obr rfl ?_|refine ob (by decide) ?_|refine obr (by decide) ?_|refine brn_t (by kernel_rfl) ?_|refine brn_f (by kernel_rfl) ?_|fail)
  (conv=>whnf);refine⟨rfl,(h5.mono hBB).cast ?_ ?_⟩
  ·simp[zag,zaL,Bool.and_assoc]
  ·simp[zag,zaL]
 | 2,_=>
  repeat' ((conv=>whnf);first|refine brn_t rfl ?_|refine brn_f rfl ?_|refine ob rfl ?_|refine obr rfl ?_|refine ob (by decide) ?_|refine obr (by decide) ?_|refine brn_t (by kernel_rfl) ?_|refine brn_f (by kernel_rfl) ?_|fail)
  refine new (fun bl hbl0=>?_);replace hbl0:M1 bl=none:=hbl0;obtain⟨Mb,hMb⟩:∃ Mb,Mb=M1.setCells bl tyF [zcY bo bu]:=⟨_,rfl⟩
  obtain⟨B1,hp,hBB,hin⟩:=h1.up (M':=Mb) (hMb▸Mem.le_setCells hbl0);have hbl:B1.has bl tyF [zcY bo bu]:=hin _ _ hbl0 (hMb▸Mem.has_setCells)
  (conv=>whnf);erw [←hMb]
  repeat' ((conv=>whnf);first|refine brn_t rfl ?_|refine brn_f rfl ?_|refine ob rfl ?_|refine obr rfl ?_|refine ob (by decide) ?_|refine obr (by decide) ?_|refine brn_t (by kernel_rfl) ?_|refine brn_f (by kernel_rfl) ?_|fail)
  refine(zaA hp hbl nd (by simp;omega)).mono ?_;rintro v M2 ⟨rfl,h2⟩
  repeat' ((conv=>whnf);first|refine brn_t rfl ?_|refine brn_f rfl ?_|refine ob rfl ?_|refine obr rfl ?_|refine ob (by decide) ?_|refine obr (by decide) ?_|refine brn_t (by kernel_rfl) ?_|refine brn_f (by kernel_rfl) ?_|fail)
  refine(zaA h2 hbl to (by simp;omega)).mono ?_;rintro v M3 ⟨rfl,h3⟩
  repeat' ((conv=>whnf);first|refine brn_t rfl ?_|refine brn_f rfl ?_|refine ob rfl ?_|refine obr rfl ?_|refine ob (by decide) ?_|refine obr (by decide) ?_|refine brn_t (by kernel_rfl) ?_|refine brn_f (by kernel_rfl) ?_|fail)
  refine(hsc _).mono ?_;rintro u _ ⟨rfl,rfl⟩
  repeat' ((conv=>whnf);first|refine brn_t rfl ?_|refine brn_f rfl ?_|refine ob rfl ?_|refine obr rfl ?_|refine ob (by decide) ?_|refine obr (by decide) ?_|refine brn_t (by kernel_rfl) ?_|refine brn_f (by kernel_rfl) ?_|fail)
  refine(zaA h3 hbl n (by simp;omega)).mono ?_;rintro v M4 ⟨rfl,h4⟩
  repeat' ((conv=>whnf);first|refine brn_t rfl ?_|refine brn_f rfl ?_|refine ob rfl ?_|refine obr rfl ?_|refine ob (by decide) ?_|refine obr (by decide) ?_|refine brn_t (by kernel_rfl) ?_|refine brn_f (by kernel_rfl) ?_|fail)
  refine(zaA h4 hbl ((data.length:Nat):Int) (by simp;omega)).mono ?_;rintro v M5 ⟨rfl,h5⟩
  repeat' ((conv=>whnf);first|refine brn_t rfl ?_|refine brn_f rfl ?_|refine ob rfl ?_|refine obr rfl ?_|refine ob (by decide) ?_|refine obr (by decide) ?_|refine brn_t (by kernel_rfl) ?_|refine brn_f (by kernel_rfl) ?_|fail)
  (conv=>whnf);refine⟨rfl,(h5.mono hBB).cast ?_ ?_⟩
  ·simp[zag,zaL,Bool.and_assoc]
  ·simp[zag,zaL]
 | 3,_=>
  repeat' ((conv=>whnf);first|refine brn_t rfl ?_|refine brn_f rfl ?_|refine ob rfl ?_|refine obr rfl ?_|refine ob (by decide) ?_|refine obr (by decide) ?_|refine brn_t (by kernel_rfl) ?_|refine brn_f (by kernel_rfl) ?_|fail)
  refine(zae h1 (n:=nd) r1 (b:=1) (m:=nodes) (by omega) (by omega) (by simp;omega)).mono ?_;rintro v M2 ⟨rfl,h2⟩
  repeat' ((conv=>whnf);first|refine brn_t rfl ?_|refine brn_f rfl ?_|refine ob rfl ?_|refine obr rfl ?_|refine ob (by decide) ?_|refine obr (by decide) ?_|refine brn_t (by kernel_rfl) ?_|refine brn_f (by kernel_rfl) ?_|fail)
  refine(zae h2 (n:=to) r2 (b:=1) (m:=nodes) (by omega) (by omega) (by simp;omega)).mono ?_;rintro v M3 ⟨rfl,h3⟩
  repeat' ((conv=>whnf);first|refine brn_t rfl ?_|refine brn_f rfl ?_|refine ob rfl ?_|refine obr rfl ?_|refine ob (by decide) ?_|refine obr (by decide) ?_|refine brn_t (by kernel_rfl) ?_|refine brn_f (by kernel_rfl) ?_|fail)
  refine(hsc _).mono ?_;rintro u _ ⟨rfl,rfl⟩
  repeat' ((conv=>whnf);first|refine brn_t rfl ?_|refine brn_f rfl ?_|refine ob rfl ?_|refine obr rfl ?_|refine ob (by decide) ?_|refine obr (by decide) ?_|refine brn_t (by kernel_rfl) ?_|refine brn_f (by kernel_rfl) ?_|fail)
  refine(zae h3 (n:=n) r3 (b:=1) (m:=256) (by omega) (by omega) (by simp;omega)).mono ?_;rintro v M4 ⟨rfl,h4⟩
  repeat' ((conv=>whnf);first|refine brn_t rfl ?_|refine brn_f rfl ?_|refine ob rfl ?_|refine obr rfl ?_|refine ob (by decide) ?_|refine obr (by decide) ?_|refine brn_t (by kernel_rfl) ?_|refine brn_f (by kernel_rfl) ?_|fail)
  refine new (fun bl hbl0=>?_);replace hbl0:M4 bl=none:=hbl0;obtain⟨Mb,hMb⟩:∃ Mb,Mb=M4.setCells bl tyF [zcY bo bu]:=⟨_,rfl⟩
  obtain⟨B1,hp,hBB,hin⟩:=h4.up (M':=Mb) (hMb▸Mem.le_setCells hbl0);have hbl:B1.has bl tyF [zcY bo bu]:=hin _ _ hbl0 (hMb▸Mem.has_setCells)
  (conv=>whnf);erw [←hMb]
  repeat' ((conv=>whnf);first|refine brn_t rfl ?_|refine brn_f rfl ?_|refine ob rfl ?_|refine obr rfl ?_|refine ob (by decide) ?_|refine obr (by decide) ?_|refine brn_t (by kernel_rfl) ?_|refine brn_f (by kernel_rfl) ?_|fail)
  refine(zaA hp hbl ((data.length:Nat):Int) (by simp;omega)).mono ?_;rintro v M5 ⟨rfl,h5⟩
  repeat' ((conv=>whnf);first|refine brn_t rfl ?_|refine brn_f rfl ?_|refine ob rfl ?_|refine obr rfl ?_|refine ob (by decide) ?_|refine obr (by decide) ?_|refine brn_t (by kernel_rfl) ?_|refine brn_f (by kernel_rfl) ?_|fail)
  (conv=>whnf);refine⟨rfl,(h5.mono hBB).cast ?_ ?_⟩
  ·simp[zag,zaL,Bool.and_assoc]
  ·simp[zag,zaL]
 | 4,_=>
  repeat' ((conv=>whnf);first|refine brn_t rfl ?_|refine brn_f rfl ?_|refine ob rfl ?_|refine obr rfl ?_|refine ob (by decide) ?_|refine obr (by decide) ?_|refine brn_t (by kernel_rfl) ?_|refine brn_f (by kernel_rfl) ?_|fail)
  refine(zae h1 (n:=nd) r1 (b:=1) (m:=nodes) (by omega) (by omega) (by simp;omega)).mono ?_;rintro v M2 ⟨rfl,h2⟩
  repeat' ((conv=>whnf);first|refine brn_t rfl ?_|refine brn_f rfl ?_|refine ob rfl ?_|refine obr rfl ?_|refine ob (by decide) ?_|refine obr (by decide) ?_|refine brn_t (by kernel_rfl) ?_|refine brn_f (by kernel_rfl) ?_|fail)
  refine(zae h2 (n:=to) r2 (b:=1) (m:=nodes) (by omega) (by omega) (by simp;omega)).mono ?_;rintro v M3 ⟨rfl,h3⟩
  repeat' ((conv=>whnf);first|refine brn_t rfl ?_|refine brn_f rfl ?_|refine ob rfl ?_|refine obr rfl ?_|refine ob (by decide) ?_|refine obr (by decide) ?_|refine brn_t (by kernel_rfl) ?_|refine brn_f (by kernel_rfl) ?_|fail)
  refine(hsc _).mono ?_;rintro u _ ⟨rfl,rfl⟩
  repeat' ((conv=>whnf);first|refine brn_t rfl ?_|refine brn_f rfl ?_|refine ob rfl ?_|refine obr rfl ?_|refine ob (by decide) ?_|refine obr (by decide) ?_|refine brn_t (by kernel_rfl) ?_|refine brn_f (by kernel_rfl) ?_|fail)
  refine(zae h3 (n:=n) r3 (b:=1) (m:=256) (by omega) (by omega) (by simp;omega)).mono ?_;rintro v M4 ⟨rfl,h4⟩
  repeat' ((conv=>whnf);first|refine brn_t rfl ?_|refine brn_f rfl ?_|refine ob rfl ?_|refine obr rfl ?_|refine ob (by decide) ?_|refine obr (by decide) ?_|refine brn_t (by kernel_rfl) ?_|refine brn_f (by kernel_rfl) ?_|fail)
  (conv=>whnf);refine obr (zs (by omega)) ?_
  repeat' ((conv=>whnf);first|refine brn_t rfl ?_|refine brn_f rfl ?_|refine ob rfl ?_|refine obr rfl ?_|refine ob (by decide) ?_|refine obr (by decide) ?_|refine brn_t (by kernel_rfl) ?_|refine brn_f (by kernel_rfl) ?_|fail)
  refine new (fun bl hbl0=>?_);replace hbl0:M4 bl=none:=hbl0;obtain⟨Mb,hMb⟩:∃ Mb,Mb=M4.setCells bl tyF [zcY bo bu]:=⟨_,rfl⟩
  obtain⟨B1,hp,hBB,hin⟩:=h4.up (M':=Mb) (hMb▸Mem.le_setCells hbl0);have hbl:B1.has bl tyF [zcY bo bu]:=hin _ _ hbl0 (hMb▸Mem.has_setCells)
  (conv=>whnf);erw [←hMb]
  repeat' ((conv=>whnf);first|refine brn_t rfl ?_|refine brn_f rfl ?_|refine ob rfl ?_|refine obr rfl ?_|refine ob (by decide) ?_|refine obr (by decide) ?_|refine brn_t (by kernel_rfl) ?_|refine brn_f (by kernel_rfl) ?_|fail)
  refine(zaA hp hbl ((data.length:Int) - 1) (by simp;omega)).mono ?_;rintro v M5 ⟨rfl,h5⟩
  repeat' ((conv=>whnf);first|refine brn_t rfl ?_|refine brn_f rfl ?_|refine ob rfl ?_|refine obr rfl ?_|refine ob (by decide) ?_|refine obr (by decide) ?_|refine brn_t (by kernel_rfl) ?_|refine brn_f (by kernel_rfl) ?_|fail)
  (conv=>whnf);refine⟨rfl,(h5.mono hBB).cast ?_ ?_⟩
  ·simp[zag,zaL,Bool.and_assoc]
  ·simp[zag,zaL]
 | 5,_=>
  repeat' ((conv=>whnf);first|refine brn_t rfl ?_|refine brn_f rfl ?_|refine ob rfl ?_|refine obr rfl ?_|refine ob (by decide) ?_|refine obr (by decide) ?_|refine brn_t (by kernel_rfl) ?_|refine brn_f (by kernel_rfl) ?_|fail)
  refine(zae h1 (n:=nd) r1 (b:=1) (m:=nodes) (by omega) (by omega) (by simp;omega)).mono ?_;rintro v M2 ⟨rfl,h2⟩
  repeat' ((conv=>whnf);first|refine brn_t rfl ?_|refine brn_f rfl ?_|refine ob rfl ?_|refine obr rfl ?_|refine ob (by decide) ?_|refine obr (by decide) ?_|refine brn_t (by kernel_rfl) ?_|refine brn_f (by kernel_rfl) ?_|fail)
  refine(zae h2 (n:=to) r2 (b:=1) (m:=nodes) (by omega) (by omega) (by simp;omega)).mono ?_;rintro v M3 ⟨rfl,h3⟩
  repeat' ((conv=>whnf);first|refine brn_t rfl ?_|refine brn_f rfl ?_|refine ob rfl ?_|refine obr rfl ?_|refine ob (by decide) ?_|refine obr (by decide) ?_|refine brn_t (by kernel_rfl) ?_|refine brn_f (by kernel_rfl) ?_|fail)
  refine(hsc _).mono ?_;rintro u _ ⟨rfl,rfl⟩
  repeat' ((conv=>whnf);first|refine brn_t rfl ?_|refine brn_f rfl ?_|refine ob rfl ?_|refine obr rfl ?_|refine ob (by decide) ?_|refine obr (by decide) ?_|refine brn_t (by kernel_rfl) ?_|refine brn_f (by kernel_rfl) ?_|fail)
  refine(zae h3 (n:=n) r3 (b:=1) (m:=256) (by omega) (by omega) (by simp;omega)).mono ?_;rintro v M4 ⟨rfl,h4⟩
  repeat' ((conv=>whnf);first|refine brn_t rfl ?_|refine brn_f rfl ?_|refine ob rfl ?_|refine obr rfl ?_|refine ob (by decide) ?_|refine obr (by decide) ?_|refine brn_t (by kernel_rfl) ?_|refine brn_f (by kernel_rfl) ?_|fail)
  (conv=>whnf);refine obr (zs (by omega)) ?_
  repeat' ((conv=>whnf);first|refine brn_t rfl ?_|refine brn_f rfl ?_|refine ob rfl ?_|refine obr rfl ?_|refine ob (by decide) ?_|refine obr (by decide) ?_|refine brn_t (by kernel_rfl) ?_|refine brn_f (by kernel_rfl) ?_|fail)
  refine new (fun bl hbl0=>?_);replace hbl0:M4 bl=none:=hbl0;obtain⟨Mb,hMb⟩:∃ Mb,Mb=M4.setCells bl tyF [zcY bo bu]:=⟨_,rfl⟩
  obtain⟨B1,hp,hBB,hin⟩:=h4.up (M':=Mb) (hMb▸Mem.le_setCells hbl0);have hbl:B1.has bl tyF [zcY bo bu]:=hin _ _ hbl0 (hMb▸Mem.has_setCells)
  (conv=>whnf);erw [←hMb]
  repeat' ((conv=>whnf);first|refine brn_t rfl ?_|refine brn_f rfl ?_|refine ob rfl ?_|refine obr rfl ?_|refine ob (by decide) ?_|refine obr (by decide) ?_|refine brn_t (by kernel_rfl) ?_|refine brn_f (by kernel_rfl) ?_|fail)
  refine(zaA hp hbl ((data.length:Int) - 1) (by simp;omega)).mono ?_;rintro v M5 ⟨rfl,h5⟩
  repeat' ((conv=>whnf);first|refine brn_t rfl ?_|refine brn_f rfl ?_|refine ob rfl ?_|refine obr rfl ?_|refine ob (by decide) ?_|refine obr (by decide) ?_|refine brn_t (by kernel_rfl) ?_|refine brn_f (by kernel_rfl) ?_|fail)
  (conv=>whnf);refine⟨rfl,(h5.mono hBB).cast ?_ ?_⟩
  ·simp[zag,zaL,Bool.and_assoc]
  ·simp[zag,zaL]
 | 6,_=>
  repeat' ((conv=>whnf);first|refine brn_t rfl ?_|refine brn_f rfl ?_|refine ob rfl ?_|refine obr rfl ?_|refine ob (by decide) ?_|refine obr (by decide) ?_|refine brn_t (by kernel_rfl) ?_|refine brn_f (by kernel_rfl) ?_|fail)
  refine(zae h1 (n:=nd) r1 (b:=1) (m:=nodes) (by omega) (by omega) (by simp;omega)).mono ?_;rintro v M2 ⟨rfl,h2⟩
  repeat' ((conv=>whnf);first|refine brn_t rfl ?_|refine brn_f rfl ?_|refine ob rfl ?_|refine obr rfl ?_|refine ob (by decide) ?_|refine obr (by decide) ?_|refine brn_t (by kernel_rfl) ?_|refine brn_f (by kernel_rfl) ?_|fail)
  refine new (fun bl hbl0=>?_);replace hbl0:M2 bl=none:=hbl0;obtain⟨Mb,hMb⟩:∃ Mb,Mb=M2.setCells bl tyF [zcY bo bu]:=⟨_,rfl⟩
  obtain⟨B1,hp,hBB,hin⟩:=h2.up (M':=Mb) (hMb▸Mem.le_setCells hbl0);have hbl:B1.has bl tyF [zcY bo bu]:=hin _ _ hbl0 (hMb▸Mem.has_setCells)
  (conv=>whnf);erw [←hMb]
  repeat' ((conv=>whnf);first|refine brn_t rfl ?_|refine brn_f rfl ?_|refine ob rfl ?_|refine obr rfl ?_|refine ob (by decide) ?_|refine obr (by decide) ?_|refine brn_t (by kernel_rfl) ?_|refine brn_f (by kernel_rfl) ?_|fail)
  refine(zaA hp hbl to (by simp;omega)).mono ?_;rintro v M3 ⟨rfl,h3⟩
  repeat' ((conv=>whnf);first|refine brn_t rfl ?_|refine brn_f rfl ?_|refine ob rfl ?_|refine obr rfl ?_|refine ob (by decide) ?_|refine obr (by decide) ?_|refine brn_t (by kernel_rfl) ?_|refine brn_f (by kernel_rfl) ?_|fail)
  refine(hsc _).mono ?_;rintro u _ ⟨rfl,rfl⟩
  repeat' ((conv=>whnf);first|refine brn_t rfl ?_|refine brn_f rfl ?_|refine ob rfl ?_|refine obr rfl ?_|refine ob (by decide) ?_|refine obr (by decide) ?_|refine brn_t (by kernel_rfl) ?_|refine brn_f (by kernel_rfl) ?_|fail)
  refine(zaA h3 hbl n (by simp;omega)).mono ?_;rintro v M4 ⟨rfl,h4⟩
  repeat' ((conv=>whnf);first|refine brn_t rfl ?_|refine brn_f rfl ?_|refine ob rfl ?_|refine obr rfl ?_|refine ob (by decide) ?_|refine obr (by decide) ?_|refine brn_t (by kernel_rfl) ?_|refine brn_f (by kernel_rfl) ?_|fail)
  refine zX ?_;refine⟨B1,h4.1,?_⟩
  repeat' ((conv=>whnf);first|refine brn_t rfl ?_|refine brn_f rfl ?_|refine ob rfl ?_|refine obr rfl ?_|refine ob (by decide) ?_|refine obr (by decide) ?_|refine brn_t (by kernel_rfl) ?_|refine brn_f (by kernel_rfl) ?_|fail)
  refine on (hbl.c1 rfl) ?_;refine zX ?_;refine(hmo _).mono ?_;rintro u _ ⟨rfl,rfl⟩;refine zT (h4.1) ?_;(conv=>whnf)
  refine(zae h4 (n:=(data.length:Nat)) rd (b:=1) (m:=8) (by omega) (by omega) (by simp;omega)).mono ?_;rintro v M9 ⟨rfl,h9⟩;refine zT (h9.1) ?_
  repeat' ((conv=>whnf);first|refine brn_t rfl ?_|refine brn_f rfl ?_|refine ob rfl ?_|refine obr rfl ?_|refine ob (by decide) ?_|refine obr (by decide) ?_|refine brn_t (by kernel_rfl) ?_|refine brn_f (by kernel_rfl) ?_|fail)
  (conv=>whnf);refine⟨rfl,(h9.mono hBB).cast ?_ ?_⟩
  ·simp[zag,zaL,Bool.and_assoc]
  ·simp[zag,zaL]
 | 7,_=>
  repeat' ((conv=>whnf);first|refine brn_t rfl ?_|refine brn_f rfl ?_|refine ob rfl ?_|refine obr rfl ?_|refine ob (by decide) ?_|refine obr (by decide) ?_|refine brn_t (by kernel_rfl) ?_|refine brn_f (by kernel_rfl) ?_|fail)
  refine(zae h1 (n:=nd) r1 (b:=1) (m:=nodes) (by omega) (by omega) (by simp;omega)).mono ?_;rintro v M2 ⟨rfl,h2⟩
  repeat' ((conv=>whnf);first|refine brn_t rfl ?_|refine brn_f rfl ?_|refine ob rfl ?_|refine obr rfl ?_|refine ob (by decide) ?_|refine obr (by decide) ?_|refine brn_t (by kernel_rfl) ?_|refine brn_f (by kernel_rfl) ?_|fail)
  refine new (fun bl hbl0=>?_);replace hbl0:M2 bl=none:=hbl0;obtain⟨Mb,hMb⟩:∃ Mb,Mb=M2.setCells bl tyF [zcY bo bu]:=⟨_,rfl⟩
  obtain⟨B1,hp,hBB,hin⟩:=h2.up (M':=Mb) (hMb▸Mem.le_setCells hbl0);have hbl:B1.has bl tyF [zcY bo bu]:=hin _ _ hbl0 (hMb▸Mem.has_setCells)
  (conv=>whnf);erw [←hMb]
  repeat' ((conv=>whnf);first|refine brn_t rfl ?_|refine brn_f rfl ?_|refine ob rfl ?_|refine obr rfl ?_|refine ob (by decide) ?_|refine obr (by decide) ?_|refine brn_t (by kernel_rfl) ?_|refine brn_f (by kernel_rfl) ?_|fail)
  refine(zaA hp hbl to (by simp;omega)).mono ?_;rintro v M3 ⟨rfl,h3⟩
  repeat' ((conv=>whnf);first|refine brn_t rfl ?_|refine brn_f rfl ?_|refine ob rfl ?_|refine obr rfl ?_|refine ob (by decide) ?_|refine obr (by decide) ?_|refine brn_t (by kernel_rfl) ?_|refine brn_f (by kernel_rfl) ?_|fail)
  refine(hsc _).mono ?_;rintro u _ ⟨rfl,rfl⟩
  repeat' ((conv=>whnf);first|refine brn_t rfl ?_|refine brn_f rfl ?_|refine ob rfl ?_|refine obr rfl ?_|refine ob (by decide) ?_|refine obr (by decide) ?_|refine brn_t (by kernel_rfl) ?_|refine brn_f (by kernel_rfl) ?_|fail)
  refine(zaA h3 hbl n (by simp;omega)).mono ?_;rintro v M4 ⟨rfl,h4⟩
  repeat' ((conv=>whnf);first|refine brn_t rfl ?_|refine brn_f rfl ?_|refine ob rfl ?_|refine obr rfl ?_|refine ob (by decide) ?_|refine obr (by decide) ?_|refine brn_t (by kernel_rfl) ?_|refine brn_f (by kernel_rfl) ?_|fail)
  refine(zaA h4 hbl ((data.length:Nat):Int) (by simp;omega)).mono ?_;rintro v M5 ⟨rfl,h5⟩
  repeat' ((conv=>whnf);first|refine brn_t rfl ?_|refine brn_f rfl ?_|refine ob rfl ?_|refine obr rfl ?_|refine ob (by decide) ?_|refine obr (by decide) ?_|refine brn_t (by kernel_rfl) ?_|refine brn_f (by kernel_rfl) ?_|fail)
  (conv=>whnf);refine⟨rfl,(h5.mono hBB).cast ?_ ?_⟩
  ·simp[zag,zaL,Bool.and_assoc]
  ·simp[zag,zaL]
 | 8,_=>
  repeat' ((conv=>whnf);first|refine brn_t rfl ?_|refine brn_f rfl ?_|refine ob rfl ?_|refine obr rfl ?_|refine ob (by decide) ?_|refine obr (by decide) ?_|refine brn_t (by kernel_rfl) ?_|refine brn_f (by kernel_rfl) ?_|fail)
  refine(zae h1 (n:=nd) r1 (b:=1) (m:=nodes) (by omega) (by omega) (by simp;omega)).mono ?_;rintro v M2 ⟨rfl,h2⟩
  repeat' ((conv=>whnf);first|refine brn_t rfl ?_|refine brn_f rfl ?_|refine ob rfl ?_|refine obr rfl ?_|refine ob (by decide) ?_|refine obr (by decide) ?_|refine brn_t (by kernel_rfl) ?_|refine brn_f (by kernel_rfl) ?_|fail)
  refine new (fun bl hbl0=>?_);replace hbl0:M2 bl=none:=hbl0;obtain⟨Mb,hMb⟩:∃ Mb,Mb=M2.setCells bl tyF [zcY bo bu]:=⟨_,rfl⟩
  obtain⟨B1,hp,hBB,hin⟩:=h2.up (M':=Mb) (hMb▸Mem.le_setCells hbl0);have hbl:B1.has bl tyF [zcY bo bu]:=hin _ _ hbl0 (hMb▸Mem.has_setCells)
  (conv=>whnf);erw [←hMb]
  repeat' ((conv=>whnf);first|refine brn_t rfl ?_|refine brn_f rfl ?_|refine ob rfl ?_|refine obr rfl ?_|refine ob (by decide) ?_|refine obr (by decide) ?_|refine brn_t (by kernel_rfl) ?_|refine brn_f (by kernel_rfl) ?_|fail)
  refine(zaA hp hbl to (by simp;omega)).mono ?_;rintro v M3 ⟨rfl,h3⟩
  repeat' ((conv=>whnf);first|refine brn_t rfl ?_|refine brn_f rfl ?_|refine ob rfl ?_|refine obr rfl ?_|refine ob (by decide) ?_|refine obr (by decide) ?_|refine brn_t (by kernel_rfl) ?_|refine brn_f (by kernel_rfl) ?_|fail)
  refine(hsc _).mono ?_;rintro u _ ⟨rfl,rfl⟩
  repeat' ((conv=>whnf);first|refine brn_t rfl ?_|refine brn_f rfl ?_|refine ob rfl ?_|refine obr rfl ?_|refine ob (by decide) ?_|refine obr (by decide) ?_|refine brn_t (by kernel_rfl) ?_|refine brn_f (by kernel_rfl) ?_|fail)
  refine on ((hbl.le h3.1).c1 rfl) ?_
  repeat' ((conv=>whnf);first|refine brn_t rfl ?_|refine brn_f rfl ?_|refine ob rfl ?_|refine obr rfl ?_|refine ob (by decide) ?_|refine obr (by decide) ?_|refine brn_t (by kernel_rfl) ?_|refine brn_f (by kernel_rfl) ?_|fail)
  refine(zae h3 (n:=n) r3 (b:=256) (m:=256) (by omega) (by omega) (by simp;omega)).mono ?_;rintro v M4 ⟨rfl,h4⟩
  repeat' ((conv=>whnf);first|refine brn_t rfl ?_|refine brn_f rfl ?_|refine ob rfl ?_|refine obr rfl ?_|refine ob (by decide) ?_|refine obr (by decide) ?_|refine brn_t (by kernel_rfl) ?_|refine brn_f (by kernel_rfl) ?_|fail)
  refine(zaA h4 hbl ((data.length:Nat):Int) (by simp;omega)).mono ?_;rintro v M5 ⟨rfl,h5⟩
  repeat' ((conv=>whnf);first|refine brn_t rfl ?_|refine brn_f rfl ?_|refine ob rfl ?_|refine obr rfl ?_|refine ob (by decide) ?_|refine obr (by decide) ?_|refine brn_t (by kernel_rfl) ?_|refine brn_f (by kernel_rfl) ?_|fail)
  (conv=>whnf);refine⟨rfl,(h5.mono hBB).cast ?_ ?_⟩
  ·simp[zag,zaL,Bool.and_assoc]
  ·simp[zag,zaL]
 | 9,_=>
  repeat' ((conv=>whnf);first|refine brn_t rfl ?_|refine brn_f rfl ?_|refine ob rfl ?_|refine obr rfl ?_|refine ob (by decide) ?_|refine obr (by decide) ?_|refine brn_t (by kernel_rfl) ?_|refine brn_f (by kernel_rfl) ?_|fail)
  refine(zae h1 (n:=nd) r1 (b:=1) (m:=nodes) (by omega) (by omega) (by simp;omega)).mono ?_;rintro v M2 ⟨rfl,h2⟩
  repeat' ((conv=>whnf);first|refine brn_t rfl ?_|refine brn_f rfl ?_|refine ob rfl ?_|refine obr rfl ?_|refine ob (by decide) ?_|refine obr (by decide) ?_|refine brn_t (by kernel_rfl) ?_|refine brn_f (by kernel_rfl) ?_|fail)
  refine new (fun bl hbl0=>?_);replace hbl0:M2 bl=none:=hbl0;obtain⟨Mb,hMb⟩:∃ Mb,Mb=M2.setCells bl tyF [zcY bo bu]:=⟨_,rfl⟩
  obtain⟨B1,hp,hBB,hin⟩:=h2.up (M':=Mb) (hMb▸Mem.le_setCells hbl0);have hbl:B1.has bl tyF [zcY bo bu]:=hin _ _ hbl0 (hMb▸Mem.has_setCells)
  (conv=>whnf);erw [←hMb]
  repeat' ((conv=>whnf);first|refine brn_t rfl ?_|refine brn_f rfl ?_|refine ob rfl ?_|refine obr rfl ?_|refine ob (by decide) ?_|refine obr (by decide) ?_|refine brn_t (by kernel_rfl) ?_|refine brn_f (by kernel_rfl) ?_|fail)
  refine(zaA hp hbl to (by simp;omega)).mono ?_;rintro v M3 ⟨rfl,h3⟩
  repeat' ((conv=>whnf);first|refine brn_t rfl ?_|refine brn_f rfl ?_|refine ob rfl ?_|refine obr rfl ?_|refine ob (by decide) ?_|refine obr (by decide) ?_|refine brn_t (by kernel_rfl) ?_|refine brn_f (by kernel_rfl) ?_|fail)
  refine(hsc _).mono ?_;rintro u _ ⟨rfl,rfl⟩
  repeat' ((conv=>whnf);first|refine brn_t rfl ?_|refine brn_f rfl ?_|refine ob rfl ?_|refine obr rfl ?_|refine ob (by decide) ?_|refine obr (by decide) ?_|refine brn_t (by kernel_rfl) ?_|refine brn_f (by kernel_rfl) ?_|fail)
  refine(zaA h3 hbl n (by simp;omega)).mono ?_;rintro v M4 ⟨rfl,h4⟩
  repeat' ((conv=>whnf);first|refine brn_t rfl ?_|refine brn_f rfl ?_|refine ob rfl ?_|refine obr rfl ?_|refine ob (by decide) ?_|refine obr (by decide) ?_|refine brn_t (by kernel_rfl) ?_|refine brn_f (by kernel_rfl) ?_|fail)
  refine(zaA h4 hbl ((data.length:Nat):Int) (by simp;omega)).mono ?_;rintro v M5 ⟨rfl,h5⟩
  repeat' ((conv=>whnf);first|refine brn_t rfl ?_|refine brn_f rfl ?_|refine ob rfl ?_|refine obr rfl ?_|refine ob (by decide) ?_|refine obr (by decide) ?_|refine brn_t (by kernel_rfl) ?_|refine brn_f (by kernel_rfl) ?_|fail)
  (conv=>whnf);refine⟨rfl,(h5.mono hBB).cast ?_ ?_⟩
  ·simp[zag,zaL,Bool.and_assoc]
  ·simp[zag,zaL]
 | 10,_=>
  repeat' ((conv=>whnf);first|refine brn_t rfl ?_|refine brn_f rfl ?_|refine ob rfl ?_|refine obr rfl ?_|refine ob (by decide) ?_|refine obr (by decide) ?_|refine brn_t (by kernel_rfl) ?_|refine brn_f (by kernel_rfl) ?_|fail)
  refine(zae h1 (n:=nd) r1 (b:=1) (m:=nodes) (by omega) (by omega) (by simp;omega)).mono ?_;rintro v M2 ⟨rfl,h2⟩
  repeat' ((conv=>whnf);first|refine brn_t rfl ?_|refine brn_f rfl ?_|refine ob rfl ?_|refine obr rfl ?_|refine ob (by decide) ?_|refine obr (by decide) ?_|refine brn_t (by kernel_rfl) ?_|refine brn_f (by kernel_rfl) ?_|fail)
  refine new (fun bl hbl0=>?_);replace hbl0:M2 bl=none:=hbl0;obtain⟨Mb,hMb⟩:∃ Mb,Mb=M2.setCells bl tyF [zcY bo bu]:=⟨_,rfl⟩
  obtain⟨B1,hp,hBB,hin⟩:=h2.up (M':=Mb) (hMb▸Mem.le_setCells hbl0);have hbl:B1.has bl tyF [zcY bo bu]:=hin _ _ hbl0 (hMb▸Mem.has_setCells)
  (conv=>whnf);erw [←hMb]
  repeat' ((conv=>whnf);first|refine brn_t rfl ?_|refine brn_f rfl ?_|refine ob rfl ?_|refine obr rfl ?_|refine ob (by decide) ?_|refine obr (by decide) ?_|refine brn_t (by kernel_rfl) ?_|refine brn_f (by kernel_rfl) ?_|fail)
  refine(zaA hp hbl to (by simp;omega)).mono ?_;rintro v M3 ⟨rfl,h3⟩
  repeat' ((conv=>whnf);first|refine brn_t rfl ?_|refine brn_f rfl ?_|refine ob rfl ?_|refine obr rfl ?_|refine ob (by decide) ?_|refine obr (by decide) ?_|refine brn_t (by kernel_rfl) ?_|refine brn_f (by kernel_rfl) ?_|fail)
  refine(hsc _).mono ?_;rintro u _ ⟨rfl,rfl⟩
  repeat' ((conv=>whnf);first|refine brn_t rfl ?_|refine brn_f rfl ?_|refine ob rfl ?_|refine obr rfl ?_|refine ob (by decide) ?_|refine obr (by decide) ?_|refine brn_t (by kernel_rfl) ?_|refine brn_f (by kernel_rfl) ?_|fail)
  refine on ((hbl.le h3.1).c1 rfl) ?_
  repeat' ((conv=>whnf);first|refine brn_t rfl ?_|refine brn_f rfl ?_|refine ob rfl ?_|refine obr rfl ?_|refine ob (by decide) ?_|refine obr (by decide) ?_|refine brn_t (by kernel_rfl) ?_|refine brn_f (by kernel_rfl) ?_|fail)
  refine(zae h3 (n:=n) r3 (b:=1) (m:=64) (by omega) (by omega) (by simp;omega)).mono ?_;rintro v M4 ⟨rfl,h4⟩
  repeat' ((conv=>whnf);first|refine brn_t rfl ?_|refine brn_f rfl ?_|refine ob rfl ?_|refine obr rfl ?_|refine ob (by decide) ?_|refine obr (by decide) ?_|refine brn_t (by kernel_rfl) ?_|refine brn_f (by kernel_rfl) ?_|fail)
  refine(zaA h4 hbl ((data.length:Nat):Int) (by simp;omega)).mono ?_;rintro v M5 ⟨rfl,h5⟩
  repeat' ((conv=>whnf);first|refine brn_t rfl ?_|refine brn_f rfl ?_|refine ob rfl ?_|refine obr rfl ?_|refine ob (by decide) ?_|refine obr (by decide) ?_|refine brn_t (by kernel_rfl) ?_|refine brn_f (by kernel_rfl) ?_|fail)
  (conv=>whnf);refine⟨rfl,(h5.mono hBB).cast ?_ ?_⟩
  ·simp[zag,zaL,Bool.and_assoc]
  ·simp[zag,zaL]
 | 11,_=>
  repeat' ((conv=>whnf);first|refine brn_t rfl ?_|refine brn_f rfl ?_|refine ob rfl ?_|refine obr rfl ?_|refine ob (by decide) ?_|refine obr (by decide) ?_|refine brn_t (by kernel_rfl) ?_|refine brn_f (by kernel_rfl) ?_|fail)
  refine new (fun bl hbl0=>?_);replace hbl0:M1 bl=none:=hbl0;obtain⟨Mb,hMb⟩:∃ Mb,Mb=M1.setCells bl tyF [zcY bo bu]:=⟨_,rfl⟩
  obtain⟨B1,hp,hBB,hin⟩:=h1.up (M':=Mb) (hMb▸Mem.le_setCells hbl0);have hbl:B1.has bl tyF [zcY bo bu]:=hin _ _ hbl0 (hMb▸Mem.has_setCells)
  (conv=>whnf);erw [←hMb]
  repeat' ((conv=>whnf);first|refine brn_t rfl ?_|refine brn_f rfl ?_|refine ob rfl ?_|refine obr rfl ?_|refine ob (by decide) ?_|refine obr (by decide) ?_|refine brn_t (by kernel_rfl) ?_|refine brn_f (by kernel_rfl) ?_|fail)
  refine(zaA hp hbl nd (by simp;omega)).mono ?_;rintro v M2 ⟨rfl,h2⟩
  repeat' ((conv=>whnf);first|refine brn_t rfl ?_|refine brn_f rfl ?_|refine ob rfl ?_|refine obr rfl ?_|refine ob (by decide) ?_|refine obr (by decide) ?_|refine brn_t (by kernel_rfl) ?_|refine brn_f (by kernel_rfl) ?_|fail)
  refine(zaA h2 hbl to (by simp;omega)).mono ?_;rintro v M3 ⟨rfl,h3⟩
  repeat' ((conv=>whnf);first|refine brn_t rfl ?_|refine brn_f rfl ?_|refine ob rfl ?_|refine obr rfl ?_|refine ob (by decide) ?_|refine obr (by decide) ?_|refine brn_t (by kernel_rfl) ?_|refine brn_f (by kernel_rfl) ?_|fail)
  refine(hsc _).mono ?_;rintro u _ ⟨rfl,rfl⟩
  repeat' ((conv=>whnf);first|refine brn_t rfl ?_|refine brn_f rfl ?_|refine ob rfl ?_|refine obr rfl ?_|refine ob (by decide) ?_|refine obr (by decide) ?_|refine brn_t (by kernel_rfl) ?_|refine brn_f (by kernel_rfl) ?_|fail)
  refine on ((hbl.le h3.1).c1 rfl) ?_
  repeat' ((conv=>whnf);first|refine brn_t rfl ?_|refine brn_f rfl ?_|refine ob rfl ?_|refine obr rfl ?_|refine ob (by decide) ?_|refine obr (by decide) ?_|refine brn_t (by kernel_rfl) ?_|refine brn_f (by kernel_rfl) ?_|fail)
  refine(zae h3 (n:=n) r3 (b:=1) (m:=256) (by omega) (by omega) (by simp;omega)).mono ?_;rintro v M4 ⟨rfl,h4⟩
  repeat' ((conv=>whnf);first|refine brn_t rfl ?_|refine brn_f rfl ?_|refine ob rfl ?_|refine obr rfl ?_|refine ob (by decide) ?_|refine obr (by decide) ?_|refine brn_t (by kernel_rfl) ?_|refine brn_f (by kernel_rfl) ?_|fail)
  refine(zaA h4 hbl ((data.length:Nat):Int) (by simp;omega)).mono ?_;rintro v M5 ⟨rfl,h5⟩
  repeat' ((conv=>whnf);first|refine brn_t rfl ?_|refine brn_f rfl ?_|refine ob rfl ?_|refine obr rfl ?_|refine ob (by decide) ?_|refine obr (by decide) ?_|refine brn_t (by kernel_rfl) ?_|refine brn_f (by kernel_rfl) ?_|fail)
  (conv=>whnf);refine⟨rfl,(h5.mono hBB).cast ?_ ?_⟩
  ·simp[zag,zaL,Bool.and_assoc]
  ·simp[zag,zaL]
 | r+12,h12=>omega
end Go.Proofs.YtpnhjkiligohnaaGreatDoor
