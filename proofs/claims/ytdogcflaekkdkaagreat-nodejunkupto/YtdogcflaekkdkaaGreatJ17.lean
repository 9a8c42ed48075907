/- Part of this proof;laid by program. -/
import Derived.Test.YtdogcflaekkdkaaGreatJ16
import Derived.Test.YtdogcflaekkdkaaGreatJ8
import Derived.Sort.Walk0
import Derived.Shelf.Sort.Plain
import Derived.Shelf.Slices.In.SortNone
import Derived.Test.YtdogcflaekkdkaaGreatJ9
set_option linter.unusedVariables false
set_option linter.unusedSimpArgs false
namespace Go.Proofs.YtdogcflaekkdkaaGreat
open Go Go.Vm
attribute [local irreducible] Brn Ob Grow CallsM inR zc4 zcB Mem.row Mem.cells Mem.setCells Mem.upd Go.Vm.Own zfl zkD zi2 zhp New SrcOk zaa NewSl Mem.textAt Mem.mapAt Mem.iterAt zcA kfind Wr zkr Elems
set_option maxRecDepth 10000
section
variable {M:Mem}
theorem zFM {a:Option Addr} {n c:Nat} {l:List UInt8} (hs:SrcOk M 1 a n (l.map zy)) (hn:n≤4194304) (hc:n≤c) :
  CallsM Tryz.prog F.zkG [.slice a n c] M fun v M'=>v = .bool (zhw l)∧M.le M':=by
 have hl:=hs.maplen
 refine zza (by simp) ?_
 refine zR ?_
 refine brn (fun g=>?_) (fun g=>?_)
 ·have g':=Zd0 g
  (conv=>whnf);refine ob (zu (by first|omega|(dsimp only;omega))) ?_
  (conv=>whnf);refine ob (by first|omega|(dsimp only;omega)) ?_
  (conv=>whnf);refine zNH hs ?_
  have hsub:=hs.subm (lo:=0) (hi:=((n:Int) - 2).toNat) (by omega) (by omega) hc
  refine zR ?_
  (conv=>whnf);refine(zJN (l:=(l.drop 0).take (((n:Int) - 2).toNat - 0)) hsub (by omega)).mono ?_
  rintro v M1 ⟨a',c',rfl,hN⟩
  (conv=>whnf);refine zOw M1 hN.le (Mem.le_refl _) ?_
  have e0:((n:Int) - 2).toNat - 0+2=n:=by omega
  (conv=>whnf);refine zNH hN.src ?_
  (conv=>whnf)
  refine⟨?_,hN.le⟩
  rw[zFL,List.drop_zero,Nat.sub_zero,hl,show ((n:Int) - 2).toNat=n - 2 by omega]
  congr 1
  exact decide_eq_decide.2 ⟨fun h=>⟨by omega,by have:=congrArg (fun x=>x.data.toList) h;simpa using this⟩,fun ⟨_,h⟩=>by rw[h]⟩
 ·have g':=Zd1 g
  refine zR ?_
  (conv=>whnf)
  exact⟨by rw[zhw,decide_eq_false (by omega)],Mem.le_refl _⟩
theorem zIK {a:Option Addr} {n c:Nat} {l:List UInt8} (hs:SrcOk M 1 a n (l.map zy)) (hn:n≤4194304) :
  CallsM Tryz.prog F.zhS [.slice a n c] M fun v M'=>M.le M'∧((zbN false l=none∧v = .tuple #[.slice none 0 0,.int .i64 2])∨∃ q a' c',zbN false l=some q∧v = .tuple #[.slice a' q.length c',.int .i64 0]∧NewSl M T.zE 1 a' q.length c' (q.map zy) M'):=by
 refine zws (by simp) ?_
 have hl:=hs.maplen
 have hK0:zbN false l=zcd [] false l:=by unfold zcd;cases zbN false l<;>simp
 (conv=>whnf);refine new (fun b9 hb9=>?_)
 replace hb9:M b9=none:=hb9
 have hN0:NewSl M T.zE 1 (some ⟨b9,0,none⟩) 0 0 (([]:List UInt8).map zy) _:=NewSl.lit hb9 T.zE 1 0 [] rfl
 obtain⟨M3,hM3⟩:∃ M3,M3=M.setCells b9 T.zE []:=⟨_,rfl⟩
 rw[←hM3] at hN0
 (conv=>whnf)
 erw [←hM3]
 refine zBC (σ:=Nat×List UInt8×Nat×Option Addr×Nat×Mem) [5,4] (fun y=>[(5,.int .i64 y.1),(4,.slice y.2.2.2.1 y.2.2.1 y.2.2.2.2.1)]) (fun _=>[.gone b9]) (fun y=>y.2.2.2.2.2)
  (fun|⟨i,q,k,a',c',Mc⟩=>i≤n∧k≤i∧NewSl M T.zE 1 a' k c' (q.map zy) Mc∧zbN false l=zcd q false (l.drop i)) (fun y=>n - y.1) ⟨0,[],0,_,_,M3⟩ ⟨by omega,by omega,hN0,hK0⟩ zS ?_
 rintro ⟨i,q,k,a',c',Mc⟩ ⟨hi,hq,hN,hK⟩
 have hqk:q.length=k:=by simpa using hN.src.maplen
 (conv=>whnf);refine brn (fun e=>?_) (fun e=>?_)
 ·have hlt:i<n:=by have:=Zd0 e;dsimp only at this;omega
  obtain⟨hk1,b1,o1,e1,hr1⟩:=(hs.le hN.le).at hlt
  have hnext:∀ (hl2:i+1<n),l.drop (i+1)=l[i+1]::l.drop (i+2):=fun hl2=>List.drop_eq_getElem_cons (by omega)
  rw[List.drop_eq_getElem_cons hk1] at hK
  generalize l[i]=x at *
  have hx:=UInt8.toNat_lt x
  (conv=>whnf);refine ob (by first|omega|(dsimp only;omega)) ?_
  (conv=>whnf);refine atp e1 ?_
  (conv=>whnf);refine on hr1 ?_
  (conv=>whnf);refine brn (fun g=>?_) (fun g=>?_)
  ·have g':x=126:=(znv (n:=126) (by decide)).1 (Zd0 g)
   subst g'
   refine zR ?_
   refine⟨hN.le,.inl ⟨by rw[hK,zyf],rfl⟩⟩
  have hne:x≠126:=fun e=>Zd1 g (by subst e;rfl)
  (conv=>whnf);refine ob (by first|omega|(dsimp only;omega)) ?_
  (conv=>whnf);refine atp e1 ?_
  (conv=>whnf);refine on hr1 ?_
  (conv=>whnf);refine brn (fun g1=>?_) (fun g1=>?_)
  ·have hx1:x≠125:=fun e=>by subst e;cases g1
   rw[zAo hne hx1] at hK
   (conv=>whnf);refine ob (by first|omega|(dsimp only;omega)) ?_
   (conv=>whnf);refine atp e1 ?_
   (conv=>whnf);refine on hr1 ?_
   refine zR ?_
   refine zqG M _ hN (by first|omega|(dsimp only;omega)) (by unfold maxLen;dsimp only;omega) (zly [x]) (fun a2 c2 M2 h4=>?_)
   rw[show [zy x]=[x].map zy from rfl,←List.map_append] at h4
   refine zR ?_
   refine ob (zu (by first|omega|(dsimp only;omega))) ?_
   (conv=>whnf)
   exact⟨⟨i+1,q++[x],k+1,a2,c2,M2⟩,⟨by omega,by omega,h4,hK⟩,by dsimp only;omega,zS⟩
  ·have hx1:x=125:=(znv (n:=125) (by decide)).1 (by simpa using g1)
   subst hx1
   rw[zAn] at hK
   (conv=>whnf);refine ob (zu (by first|omega|(dsimp only;omega))) ?_
   (conv=>whnf);refine brn (fun k0=>?_) (fun k0=>?_)
   ·have k0':=Zd0 k0
    dsimp only at k0'
    rw[List.drop_of_length_le (by omega),zII] at hK
    refine zR ?_
    exact⟨hN.le,.inl ⟨hK,rfl⟩⟩
   ·have k0':=Zd1 k0
    dsimp only at k0'
    obtain⟨hk2,b2,o2,ha2,hr2⟩:=(hs.le hN.le).at (i:=i+1) (by omega)
    rw[e1] at ha2
    cases ha2
    rw[hnext (by omega)] at hK
    generalize l[i+1]=y at *
    have hy:=UInt8.toNat_lt y
    (conv=>whnf);refine ob (zu (by first|omega|(dsimp only;omega))) ?_
    (conv=>whnf);refine ob (by first|omega|(dsimp only;omega)) ?_
    (conv=>whnf);refine atp e1 ?_
    (conv=>whnf);refine on hr2 ?_
    (conv=>whnf);refine brn (fun k1=>?_) (fun k1=>?_)
    ·(conv=>whnf);refine ob (zu (by first|omega|(dsimp only;omega))) ?_
     (conv=>whnf);refine ob (by first|omega|(dsimp only;omega)) ?_
     (conv=>whnf);refine atp e1 ?_
     (conv=>whnf);refine on hr2 ?_
     (conv=>whnf);refine brn (fun k2=>?_) (fun k2=>?_)
     ·have n1:y≠94:=fun e=>by subst e;cases k1
      have n2:y≠93:=fun e=>by subst e;cases k2
      rw[zAp (by simp[n1,n2])] at hK
      refine zR ?_
      exact⟨hN.le,.inl ⟨hK,rfl⟩⟩
     ·have hx1:y=93:=(znv (n:=93) (by decide)).1 (by simpa using k2)
      have h2:y=94∨y=93:=by first|exact .inl hx1|exact .inr hx1
      rw[zqc h2] at hK
      (conv=>whnf);refine ob (zu (by first|omega|(dsimp only;omega))) ?_
      (conv=>whnf);refine ob (by first|omega|(dsimp only;omega)) ?_
      (conv=>whnf);refine atp e1 ?_
      (conv=>whnf);refine on hr2 ?_
      refine zR ?_
      refine zqG M _ hN (by first|omega|(dsimp only;omega)) (by unfold maxLen;dsimp only;omega) (by intro u hu;simp at hu;subst hu;rfl) (fun a2 c2 M2 h4=>?_)
      rw[show [Value.int IntKind.u8 (zY BinOp.xor IntKind.u8 (y.toNat:Int) 32)]=[y ^^^ 32].map zy from congrArg (fun v=>[v]) (zsc y),←List.map_append] at h4
      (conv=>whnf);refine ob (zu (by first|omega|(dsimp only;omega))) ?_
      (conv=>whnf);refine ob (zu (by first|omega|(dsimp only;omega))) ?_
      (conv=>whnf)
      exact⟨⟨i+2,q++[y ^^^ 32],k+1,a2,c2,M2⟩,⟨by omega,by omega,h4,hK⟩,by dsimp only;omega,zS⟩
    ·have hx1:y=94:=(znv (n:=94) (by decide)).1 (by simpa using k1)
     have h2:y=94∨y=93:=by first|exact .inl hx1|exact .inr hx1
     rw[zqc h2] at hK
     (conv=>whnf);refine ob (zu (by first|omega|(dsimp only;omega))) ?_
     (conv=>whnf);refine ob (by first|omega|(dsimp only;omega)) ?_
     (conv=>whnf);refine atp e1 ?_
     (conv=>whnf);refine on hr2 ?_
     refine zR ?_
     refine zqG M _ hN (by first|omega|(dsimp only;omega)) (by unfold maxLen;dsimp only;omega) (by intro u hu;simp at hu;subst hu;rfl) (fun a2 c2 M2 h4=>?_)
     rw[show [Value.int IntKind.u8 (zY BinOp.xor IntKind.u8 (y.toNat:Int) 32)]=[y ^^^ 32].map zy from congrArg (fun v=>[v]) (zsc y),←List.map_append] at h4
     (conv=>whnf);refine ob (zu (by first|omega|(dsimp only;omega))) ?_
     (conv=>whnf);refine ob (zu (by first|omega|(dsimp only;omega))) ?_
     (conv=>whnf)
     exact⟨⟨i+2,q++[y ^^^ 32],k+1,a2,c2,M2⟩,⟨by omega,by omega,h4,hK⟩,by dsimp only;omega,zS⟩
 ·have hge:i=n:=by have:=Zd1 e;dsimp only at this;omega
  subst hge
  rw[List.drop_of_length_le (by omega)] at hK
  refine zR ?_
  subst hqk
  exact⟨hN.le,.inr ⟨q,a',c',by rw[hK];simp[zcd,zbN],rfl,hN⟩⟩
end
section
variable {M B:Mem}
@[reducible] def zgD (h:Bool) (a:Option Addr) (n c:Nat) (s0 s1 s2 s3 s4:Int):List Value:=[.bool h,.slice a n c,.int .i64 s0,.int .i64 s1,.int .i64 s2,.int .i64 s3,.int .i64 s4,.slice none 0 0]
def zby (K s0 s1 s2 s3 s4:Int):Prop:=(0≤s0∧s0≤K)∧(0≤s1∧s1≤K)∧(0≤s2∧s2≤K)∧(0≤s3∧s3≤K)∧0≤s4∧s4≤K
theorem zaA {d E:Nat} {l:List Value}:Mem.keep (fun y=>y=d) M (M.setCells d E l):=fun y o hy ho=>by
 unfold Mem.setCells;rw[Mem.upd_ne _ _ hy];exact ho
theorem zML {d:Nat} {h:Bool} {a:Option Addr} {n c:Nat} {s0 s1 s2 s3 s4 K:Int} {l:List UInt8} (hd:M.has d T.zs (zgD h a n c s0 s1 s2 s3 s4)) (hs:SrcOk M 1 a n (l.map zy)) (hn:n≤260)
  (hb:zby K s0 s1 s2 s3 s4) (hK:K≤1000000) (hg:zkI l=false) :
  CallsM Tryz.prog F.zbk [ptr d] M fun v M'=>v = .tuple #[]∧∃ t0 t1 t2 t3 t4,M'.has d T.zs (zgD h a n c t0 t1 t2 t3 t4)∧zby (K+1) t0 t1 t2 t3 t4∧Mem.keep (fun y=>y=d) M M':=by
 have hl:=hs.maplen
 refine zsT (by simp) ?_
 refine zR ?_
 refine on (hd.c1 rfl) ?_
 refine zR ?_
 refine(zJK hs (by omega)).mono ?_
 rintro v M1 ⟨hle,hv⟩
 have hd1:=Mem.has.le hle hd
 unfold zby at hb
 rcases hv with ⟨hu,rfl⟩|⟨q,a',c',hu,rfl,hN⟩
 ·refine zR ?_
  refine zp9 (σ:=Unit) [] (fun _=>[]) (fun _=>True) (fun _=>0) () trivial zS ?_
  intro _ _
  refine zR ?_
  refine on (hd1.c1 rfl) ?_
  (conv=>whnf);refine ob (zu (by first|omega|(dsimp only;omega))) ?_
  (conv=>whnf);refine on hd1.cells ?_
  (conv=>whnf);refine ob (by simp) ?_
  refine zR ?_
  exact⟨rfl,_,_,_,_,_,Mem.has_setCells,by unfold zby at *; omega,Mem.keep_trans (Mem.keep_of_le hle) zaA⟩
 ·have hql:=zr5 hu
  unfold zkI at hg
  rw[hu] at hg
  dsimp only at hg
  refine zR ?_
  refine zp9 (σ:=Unit) [] (fun _=>[]) (fun _=>True) (fun _=>0) () trivial zS ?_
  intro _ _
  (conv=>whnf);refine brn_f rfl ?_
  (conv=>whnf);refine brn (fun g=>?_) (fun g=>?_)
  ·
   refine zR ?_
   refine on (hd1.c1 rfl) ?_
   (conv=>whnf);refine ob (zu (by first|omega|(dsimp only;omega))) ?_
   (conv=>whnf);refine on hd1.cells ?_
   (conv=>whnf);refine ob (by simp) ?_
   refine zR ?_
   exact⟨rfl,_,_,_,_,_,Mem.has_setCells,by unfold zby at *; omega,Mem.keep_trans (Mem.keep_of_le hle) zaA⟩
  refine zR ?_
  refine(zIH hN.src (by omega) (by obtain⟨_,_,h2,_⟩:=newSl_iff.1 hN;exact h2)).mono ?_
  rintro v M2 ⟨rfl,hle2⟩
  have hle:=Mem.le_trans hle hle2
  have hd1:=Mem.has.le hle2 hd1
  (conv=>whnf);refine brn (fun g2=>?_) (fun g2=>?_)
  ·
   refine zR ?_
   refine on (hd1.c1 rfl) ?_
   (conv=>whnf);refine ob (zu (by first|omega|(dsimp only;omega))) ?_
   (conv=>whnf);refine on hd1.cells ?_
   (conv=>whnf);refine ob (by simp) ?_
   refine zR ?_
   exact⟨rfl,_,_,_,_,_,Mem.has_setCells,by unfold zby at *; omega,Mem.keep_trans (Mem.keep_of_le hle) zaA⟩
  (conv=>whnf);refine ob (zu (by first|omega|(dsimp only;omega))) ?_
  (conv=>whnf);refine brn (fun g3=>?_) (fun g3=>?_)
  ·
   refine zR ?_
   refine on (hd1.c1 rfl) ?_
   (conv=>whnf);refine ob (zu (by first|omega|(dsimp only;omega))) ?_
   (conv=>whnf);refine on hd1.cells ?_
   (conv=>whnf);refine ob (by simp) ?_
   refine zR ?_
   exact⟨rfl,_,_,_,_,_,Mem.has_setCells,by unfold zby at *; omega,Mem.keep_trans (Mem.keep_of_le hle) zaA⟩
  exfalso
  have h1:=Zd1 g
  have h3:=Zd1 g3
  have h2:zhw q=true:=by simpa using g2
  rw[h2,decide_eq_true (by omega),decide_eq_true (by omega)] at hg
  cases hg
end
section
variable {M:Mem}
theorem zIL {a:Option Addr} {n c:Nat} {l:List UInt8} (hs:SrcOk M 1 a n (l.map zy)) (hn:n≤4000000) :
  CallsM Tryz.prog F.zma [.slice a n c] M fun v M'=>M.le M'∧∃ (k:Int) (a':Option Addr) (n' c':Nat),v = .tuple #[.int .i64 k,.slice a' n' c']∧(0≤k∧k≤4)∧(zkI l=true→0<n')∧(zkI l=false→n'=0):=by
 have hl:=hs.maplen
 refine zAB (by simp) ?_
 refine zR ?_
 refine(zIK hs (by omega)).mono ?_
 rintro v M1 ⟨hle,hv⟩
 rcases hv with ⟨hu,rfl⟩|⟨q,a',c',hu,rfl,hN⟩
 ·have hg:zkI l=false:=by unfold zkI;rw[hu]
  refine zR ?_
  exact⟨hle,1,none,0,0,rfl,by omega,by simp[hg],fun _=>rfl⟩
 ·have hql:=zr5 hu
  have hg:zkI l=(decide (3≤q.length)&&(zhw q&&decide (q.length≤130))):=by unfold zkI;rw[hu]
  refine zR ?_
  refine brn (fun g=>?_) (fun g=>?_)
  ·have g':=Zd0 g
   rw[decide_eq_false (by omega),Bool.false_and] at hg
   refine zR ?_
   exact⟨hle,2,none,0,0,rfl,by omega,by simp[hg],fun _=>rfl⟩
  have g':=Zd1 g
  rw[decide_eq_true (by omega),Bool.true_and] at hg
  refine zR ?_
  refine(zFM hN.src (by omega) (by obtain⟨_,_,h2,_⟩:=newSl_iff.1 hN;exact h2)).mono ?_
  rintro v M2 ⟨rfl,hle2⟩
  have hle3:=Mem.le_trans hle hle2
  (conv=>whnf);refine brn (fun g2=>?_) (fun g2=>?_)
  ·have e:zhw q=false:=by simpa using g2
   rw[e,Bool.false_and] at hg
   refine zR ?_
   exact⟨hle3,3,none,0,0,rfl,by omega,by simp[hg],fun _=>rfl⟩
  have e:zhw q=true:=by simpa using g2
  rw[e,Bool.true_and] at hg
  (conv=>whnf);refine ob (zu (by first|omega|(dsimp only;omega))) ?_
  (conv=>whnf);refine brn (fun g3=>?_) (fun g3=>?_)
  ·have g3':=Zd0 g3
   rw[decide_eq_false (by omega)] at hg
   refine zR ?_
   exact⟨hle3,4,none,0,0,rfl,by omega,by simp[hg],fun _=>rfl⟩
  have g3':=Zd1 g3
  rw[decide_eq_true (by omega)] at hg
  have hc':q.length≤c':=by obtain⟨_,_,h2,_⟩:=newSl_iff.1 hN;exact h2
  refine zR ?_
  refine ob (zu (by first|omega|(dsimp only;omega))) ?_
  (conv=>whnf);refine ob (by first|omega|(dsimp only;omega)) ?_
  refine zR ?_
  refine⟨hle3,0,_,_,_,rfl,by omega,fun _=>?_,by simp[hg]⟩
  omega
theorem zyg {s0 s1 s2 s3 s4 k K:Int} (hb:zby K s0 s1 s2 s3 s4) (hK:K≤4000000) :
  CallsM Tryz.prog F.zev [.agg #[.int .i64 s0,.int .i64 s1,.int .i64 s2,.int .i64 s3,.int .i64 s4],.int .i64 k] M fun v M'=>∃ t0 t1 t2 t3 t4,v = .agg #[.int .i64 t0,.int .i64 t1,.int .i64 t2,.int .i64 t3,.int .i64 t4]∧zby (K+1) t0 t1 t2 t3 t4∧M=M':=by
 refine zy9 (by simp) ?_
 unfold zby at *
 (conv=>whnf);refine brn (fun g=>?_) (fun g=>?_)
 ·refine zR ?_
  refine ob (zu (by first|omega|(dsimp only;omega))) ?_
  refine zR ?_
  exact⟨_,_,_,_,_,rfl,by omega,rfl⟩
 (conv=>whnf);refine brn (fun g=>?_) (fun g=>?_)
 ·refine zR ?_
  refine ob (zu (by first|omega|(dsimp only;omega))) ?_
  refine zR ?_
  exact⟨_,_,_,_,_,rfl,by omega,rfl⟩
 (conv=>whnf);refine brn (fun g=>?_) (fun g=>?_)
 ·refine zR ?_
  refine ob (zu (by first|omega|(dsimp only;omega))) ?_
  refine zR ?_
  exact⟨_,_,_,_,_,rfl,by omega,rfl⟩
 (conv=>whnf);refine brn (fun g=>?_) (fun g=>?_)
 ·refine zR ?_
  refine ob (zu (by first|omega|(dsimp only;omega))) ?_
  refine zR ?_
  exact⟨_,_,_,_,_,rfl,by omega,rfl⟩
 (conv=>whnf);refine brn (fun g=>?_) (fun g=>?_)
 ·refine zR ?_
  refine ob (zu (by first|omega|(dsimp only;omega))) ?_
  refine zR ?_
  exact⟨_,_,_,_,_,rfl,by omega,rfl⟩
 refine zR ?_
 exact⟨_,_,_,_,_,rfl,by omega,rfl⟩
end
section
variable {M:Mem}
@[reducible] def dcR (h:Bool) (a:Option Addr) (n c:Nat) (s0 s1 s2 s3 s4:Int):List Value:=[.bool h,.slice a n c,.int .i64 s0,.int .i64 s1,.int .i64 s2,.int .i64 s3,.int .i64 s4]
def U8At (M:Mem) (a:Option Addr):Prop:=∀ q,a=some q→∃ cs,M.has q.block T.zE cs
theorem U8At.none:U8At M none:=fun _ h=>by cases h
def zOV (M M':Mem) (h:Bool) (l:List UInt8) (b:UInt8) (K:Int) (v:Value):Prop:=M.le M'∧∃ h2 l2 a2 n2 c2 t0 t1 t2 t3 t4 ax nx cx,v = .tuple #[.agg (dcR h2 a2 n2 c2 t0 t1 t2 t3 t4).toArray,.slice ax nx cx]∧SrcOk M' 1 a2 n2 (l2.map zy)∧zby K t0 t1 t2 t3 t4∧((nx=0∧zdf h l b=some (h2,l2))∨(0<nx∧zdf h l b=none))∧n2≤260∧U8At M' a2
theorem zAq {h:Bool} {a:Option Addr} {n c:Nat} {s0 s1 s2 s3 s4 K:Int} {l:List UInt8} (hs:SrcOk M 1 a n (l.map zy)) (hu:U8At M a) (hn:n≤260) (hb:zby K s0 s1 s2 s3 s4) (hK:K≤2000000) (b:UInt8) :
  CallsM Tryz.prog F.zf1 [.agg (dcR h a n c s0 s1 s2 s3 s4).toArray,zy b] M fun v M'=>zOV M M' h l b (K+1) v:=by
 have hl:=hs.maplen
 have hb1:zby (K+1) s0 s1 s2 s3 s4:=by unfold zby at *; omega
 refine zAA (by simp) ?_
 (conv=>whnf);refine brn (fun g=>?_) (fun g=>?_)
 ·have g':b=126:=(znv (n:=126) (by decide)).1 (Zd0 g)
  cases h
  case true=>
   refine zR ?_
   (conv=>whnf)
   exact⟨Mem.le_refl _,false,[],none,0,0,s0,s1,s2,s3,s4,none,0,0,rfl,SrcOk.nil _ _,hb1,.inl ⟨rfl,by unfold zdf;rw[if_pos g',if_neg (by simp)]⟩,by omega,U8At.none⟩
  case false=>
   (conv=>whnf);refine brn (fun k=>?_) (fun k=>?_)
   ·have k':l=[]:=List.length_eq_zero_iff.1 (by have:=Zd0 k;omega)
    refine zR ?_
    exact⟨Mem.le_refl _,false,[],none,0,0,s0,s1,s2,s3,s4,none,0,0,rfl,SrcOk.nil _ _,hb1,.inl ⟨rfl,by unfold zdf;rw[if_pos g',if_neg (by simp[k'])]⟩,by omega,U8At.none⟩
   ·have k':l≠[]:=fun e=>by subst e;simp at hl;subst hl;cases k
    refine zR ?_
    refine(zIL hs (by omega)).mono ?_
    rintro v M1 ⟨hle,kk,a',n',c',rfl,hk5,hgt,hgf⟩
    refine zR ?_
    refine(zyg hb (by omega)).mono ?_
    rintro v _ ⟨t0,t1,t2,t3,t4,rfl,hb2,rfl⟩
    refine zR ?_
    refine⟨hle,false,[],none,0,0,t0,t1,t2,t3,t4,a',n',c',rfl,SrcOk.nil _ _,hb2,?_,by omega,U8At.none⟩
    cases hgp:zkI l with
    | true=>exact .inr ⟨hgt hgp,by unfold zdf;rw[if_pos g',if_pos ⟨rfl,k',hgp⟩]⟩
    | false=>exact .inl ⟨hgf hgp,by unfold zdf;rw[if_pos g',if_neg (by simp[hgp])]⟩
 ·have g':b≠126:=fun e=>Zd1 g (by subst e;rfl)
  cases h
  case true=>
   refine zR ?_
   (conv=>whnf)
   refine⟨Mem.le_refl _,true,l,a,n,c,s0,s1,s2,s3,s4,none,0,0,rfl,hs,hb1,.inl ⟨rfl,by unfold zdf;rw[if_neg g',if_pos rfl]⟩,hn,hu⟩
  case false=>
   (conv=>whnf);refine brn (fun k=>?_) (fun k=>?_)
   ·have k':l.length=260:=by have:=Zd0 k;omega
    refine zR ?_
    refine(zyg hb (by omega)).mono ?_
    rintro v _ ⟨t0,t1,t2,t3,t4,rfl,hb2,rfl⟩
    refine zR ?_
    exact⟨Mem.le_refl _,true,[],none,0,0,t0,t1,t2,t3,t4,none,0,0,rfl,SrcOk.nil _ _,hb2,.inl ⟨rfl,by unfold zdf;rw[if_neg g',if_neg (by decide),if_pos k']⟩,by omega,U8At.none⟩
   ·have k':l.length≠260:=by have:=Zd1 k;omega
    (conv=>whnf);refine new (fun q hq=>?_)
    replace hq:M q=none:=hq
    have hN0:NewSl M T.zE 1 (some ⟨q,0,none⟩) 0 0 [] (M.setCells q T.zE []):=NewSl.lit hq T.zE 1 0 [] rfl
    obtain⟨M1,hM1⟩:∃ M1,M1=M.setCells q T.zE []:=⟨_,rfl⟩
    rw[←hM1] at hN0
    (conv=>whnf)
    erw [←hM1]
    refine zNG (hs.le hN0.le) ?_
    (conv=>whnf);refine zqG M _ hN0 (by omega) (by unfold maxLen;omega) (zly l) (fun a2 c2 M2 h2=>?_)
    rw[List.nil_append] at h2
    refine zX ?_
    refine⟨M,h2.le,?_⟩
    refine zR ?_
    (conv=>whnf)
    refine zqG M _ h2 (by omega) (by unfold maxLen;omega) (zly [b]) (fun a3 c3 M3 h3=>?_)
    rw[show [zy b]=[b].map zy from rfl,←List.map_append] at h3
    refine zT (h3.le) ?_
    refine zR ?_
    refine⟨h3.le,false,l++[b],a3,_,c3,s0,s1,s2,s3,s4,none,0,0,rfl,h3.src,hb1,.inl ⟨rfl,by unfold zdf;rw[if_neg g',if_neg (by decide),if_neg k']⟩,by omega,fun q hq=>(h3.block hq).2⟩
end
section
variable {M:Mem}
theorem zIM {a:Option Addr} {n c:Nat} {p:List UInt8} (hs:SrcOk M 1 a n (p.map zy)) (hn:n≤1048576) :
  CallsM Tryz.prog F.zl6 [.agg (dcR false none 0 0 0 0 0 0 0).toArray,.slice a n c] M fun v M'=>M.le M'∧∃ h2 a2 n2 c2 t0 t1 t2 t3 t4 ax nx cx,v = .tuple #[.agg (dcR h2 a2 n2 c2 t0 t1 t2 t3 t4).toArray,.slice ax nx cx]∧(nx=0↔zdR false [] p≠none):=by
 have hl:=hs.maplen
 refine zAz (by simp) ?_
 (conv=>whnf);refine new (fun b9 hb9=>?_)
 replace hb9:M b9=none:=hb9
 have hN0:NewSl M T.ziJ 1 (some ⟨b9,0,none⟩) 0 0 [] (M.setCells b9 T.ziJ []):=NewSl.lit hb9 T.ziJ 1 0 [] rfl
 obtain⟨M1,hM1⟩:∃ M1,M1=M.setCells b9 T.ziJ []:=⟨_,rfl⟩
 rw[←hM1] at hN0
 (conv=>whnf)
 erw [←hM1]
 refine zBC (σ:=(Nat×Mem)×(Bool×List UInt8×Option Addr×Nat×Nat)×(Int×Int×Int×Int×Int)×(Option Addr×Nat×Nat×List Value)) [7,6] (fun y=>[(7,.int .i64 y.1.1),(6,.slice y.2.2.2.1 y.2.2.2.2.1 y.2.2.2.2.2.1)])
  (fun y=>[.live T.zkq [.v (.bool y.2.1.1),.v (.slice y.2.1.2.2.1 y.2.1.2.2.2.1 y.2.1.2.2.2.2),.v (.int .i64 y.2.2.1.1),.v (.int .i64 y.2.2.1.2.1),.v (.int .i64 y.2.2.1.2.2.1),.v (.int .i64 y.2.2.1.2.2.2.1),.v (.int .i64 y.2.2.1.2.2.2.2)],
   .live T.zkq [.v (.bool false),.v S.sn,.v (.int .i64 0),.v (.int .i64 0),.v (.int .i64 0),.v (.int .i64 0),.v (.int .i64 0)],.gone b9]) (fun y=>y.1.2)
  (fun|⟨(i,Mc),(h',l',a',n',c'),(s0,s1,s2,s3,s4),(ax,nx,cx,L)⟩=>i≤n∧SrcOk Mc 1 a' n' (l'.map zy)∧U8At Mc a'∧n'≤260∧zby i s0 s1 s2 s3 s4∧NewSl M T.ziJ 1 ax nx cx L Mc∧nx≤i∧((nx=0∧zdR false [] p=zdR h' l' (p.drop i))∨(0<nx∧zdR false [] p=none)))
  (fun y=>n - y.1.1) ⟨(0,M1),(false,[],none,0,0),(0,0,0,0,0),(_,0,0,[])⟩ ⟨by omega,SrcOk.nil _ _,U8At.none,by omega,by unfold zby;omega,hN0,by omega,.inl ⟨rfl,rfl⟩⟩ zS ?_
 rintro ⟨⟨i,Mc⟩,⟨h',l',a',n',c'⟩,⟨s0,s1,s2,s3,s4⟩,⟨ax,nx,cx,L⟩⟩ ⟨hi,hs',hu',hn',hk5,hN,hnx,hinv⟩
 (conv=>whnf);refine brn (fun g=>?_) (fun g=>?_)
 ·have hlt:i<n:=by have:=Zd0 g;dsimp only at this;omega
  obtain⟨hk1,b1,o1,e1,hr1⟩:=(hs.le hN.le).at hlt
  rw[List.drop_eq_getElem_cons hk1] at hinv
  generalize p[i]=x at *
  (conv=>whnf);refine ob (by first|omega|(dsimp only;omega)) ?_
  (conv=>whnf);refine atp e1 ?_
  (conv=>whnf);refine on hr1 ?_
  (conv=>whnf)
  refine⟨?_,?_⟩
  ·
   (conv=>whnf);refine(zAq hs' hu' hn' hk5 (by omega) x).mono ?_
   rintro v M2 ⟨hle2,h2,l2,a2,n2,c2,t0,t1,t2,t3,t4,ay,ny,cy,rfl,hs2,hb2,hst,hn2,hu2⟩
   refine zT (hle2) ?_
   refine zR ?_
   refine zT (hle2) ?_
   have hN2:=hN.up hle2
   (conv=>whnf);refine brn (fun k=>?_) (fun k=>?_)
   ·have k':=Zd0 k
    have hst':zdf h' l' x=none:=by
     rcases hst with ⟨e,_⟩|⟨_,e⟩
     ·omega
     ·exact e
    have hno:zdR false [] p=none:=by
     rcases hinv with ⟨_,e⟩|⟨_,e⟩
     ·rw[e,zdR,hst']
     ·exact e
    refine zR ?_
    refine appK M _ hN2 (by first|omega|(dsimp only;omega)) (by unfold maxLen;dsimp only;omega) (by intro u hu;simp at hu;subst hu;rfl) (fun a6 c6 M6 h6 hk6=>?_)
    have hne:∀ q,a2=some q→¬blk ax q.block:=fun q hq ⟨r,hr,e⟩=>by
     obtain⟨cs,hc⟩:=hu2 q hq
     obtain⟨_,ds,hd⟩:=hN2.block hr
     rw[e] at hd
     exact absurd (hc.inj hd).1 (by decide)
    have hs6:SrcOk M6 1 a2 n2 (l2.map zy):=(hs2.minus hne).le (Mem.keep_minus.1 hk6)
    have hu6:U8At M6 a2:=fun q hq=>by
     obtain⟨cs,hc⟩:=hu2 q hq
     exact⟨cs,hk6 _ _ (hne q hq) hc⟩
    refine zR ?_
    refine ob (zu (by first|omega|(dsimp only;omega))) ?_
    (conv=>whnf)
    exact⟨⟨(i+1,M6),(h2,l2,a2,n2,c2),(t0,t1,t2,t3,t4),(a6,nx+1,c6,_)⟩,⟨by omega,hs6,hu6,hn2,by unfold zby at *; omega,h6,by omega,.inr ⟨by omega,hno⟩⟩,by dsimp only;omega,zS⟩
   ·have k':=Zd1 k
    have hst':zdf h' l' x=some (h2,l2):=by
     rcases hst with ⟨_,e⟩|⟨e,_⟩
     ·exact e
     ·omega
    refine zR ?_
    refine ob (zu (by first|omega|(dsimp only;omega))) ?_
    (conv=>whnf)
    refine⟨⟨(i+1,M2),(h2,l2,a2,n2,c2),(t0,t1,t2,t3,t4),(ax,nx,cx,L)⟩,⟨by omega,hs2,hu2,hn2,by unfold zby at *; omega,hN2,by omega,?_⟩,by dsimp only;omega,zS⟩
    rcases hinv with ⟨e1,e⟩|⟨e1,e⟩
    ·exact .inl ⟨e1,by rw[e,zdR,hst']⟩
    ·exact .inr ⟨e1,e⟩
  ·refine zR ?_
   (conv=>whnf);refine(zAq hs' hu' hn' hk5 (by omega) x).mono ?_
   rintro v M2 ⟨hle2,h2,l2,a2,n2,c2,t0,t1,t2,t3,t4,ay,ny,cy,rfl,hs2,hb2,hst,hn2,hu2⟩
   refine zT (hle2) ?_
   have hN2:=hN.up hle2
   (conv=>whnf);refine brn (fun k=>?_) (fun k=>?_)
   ·have k':=Zd0 k
    have hst':zdf h' l' x=none:=by
     rcases hst with ⟨e,_⟩|⟨_,e⟩
     ·omega
     ·exact e
    have hno:zdR false [] p=none:=by
     rcases hinv with ⟨_,e⟩|⟨_,e⟩
     ·rw[e,zdR,hst']
     ·exact e
    refine zR ?_
    refine appK M _ hN2 (by first|omega|(dsimp only;omega)) (by unfold maxLen;dsimp only;omega) (by intro u hu;simp at hu;subst hu;rfl) (fun a6 c6 M6 h6 hk6=>?_)
    have hne:∀ q,a2=some q→¬blk ax q.block:=fun q hq ⟨r,hr,e⟩=>by
     obtain⟨cs,hc⟩:=hu2 q hq
     obtain⟨_,ds,hd⟩:=hN2.block hr
     rw[e] at hd
     exact absurd (hc.inj hd).1 (by decide)
    have hs6:SrcOk M6 1 a2 n2 (l2.map zy):=(hs2.minus hne).le (Mem.keep_minus.1 hk6)
    have hu6:U8At M6 a2:=fun q hq=>by
     obtain⟨cs,hc⟩:=hu2 q hq
     exact⟨cs,hk6 _ _ (hne q hq) hc⟩
    refine zR ?_
    refine ob (zu (by first|omega|(dsimp only;omega))) ?_
    (conv=>whnf)
    exact⟨⟨(i+1,M6),(h2,l2,a2,n2,c2),(t0,t1,t2,t3,t4),(a6,nx+1,c6,_)⟩,⟨by omega,hs6,hu6,hn2,by unfold zby at *; omega,h6,by omega,.inr ⟨by omega,hno⟩⟩,by dsimp only;omega,zS⟩
   ·have k':=Zd1 k
    have hst':zdf h' l' x=some (h2,l2):=by
     rcases hst with ⟨_,e⟩|⟨e,_⟩
     ·exact e
     ·omega
    refine zR ?_
    refine ob (zu (by first|omega|(dsimp only;omega))) ?_
    (conv=>whnf)
    refine⟨⟨(i+1,M2),(h2,l2,a2,n2,c2),(t0,t1,t2,t3,t4),(ax,nx,cx,L)⟩,⟨by omega,hs2,hu2,hn2,by unfold zby at *; omega,hN2,by omega,?_⟩,by dsimp only;omega,zS⟩
    rcases hinv with ⟨e1,e⟩|⟨e1,e⟩
    ·exact .inl ⟨e1,by rw[e,zdR,hst']⟩
    ·exact .inr ⟨e1,e⟩
 ·have hge:i=n:=by have:=Zd1 g;dsimp only at this;omega
  subst hge
  rw[List.drop_of_length_le (by omega)] at hinv
  refine zR ?_
  refine⟨hN.le,_,_,_,_,_,_,_,_,_,_,_,_,rfl,?_⟩
  rcases hinv with ⟨h1,h2⟩|⟨h1,h2⟩
  ·rw[h2];simp[h1,zdR]
  ·rw[h2];simp;omega
end
section
variable {M B:Mem}
def zzp (B:Mem) (d:Nat) (K:Int) (h:Bool) (l:List UInt8) (M:Mem):Prop:=∃ a c s0 s1 s2 s3 s4,M.has d T.zs (zgD h a l.length c s0 s1 s2 s3 s4)∧B d=none∧NewSl B T.zE 1 a l.length c (l.map zy) M∧zby K s0 s1 s2 s3 s4
theorem zCK {d:Nat} {a:Option Addr} {n c E:Nat} {L vs:List Value} (hE:E≠T.zE) (hd:M.has d E vs) (hN:NewSl B T.zE 1 a n c L M):∀ p,a=some p→¬p.block=d:=fun p hp e=>by
 obtain⟨_,cs,h⟩:=hN.block hp
 rw[e] at h
 exact hE (h.inj hd).1.symm
theorem zJO {d:Nat} {h:Bool} {l:List UInt8} {K:Int} (hD:zzp B d K h l M) (hl:l.length≤260) (hK:K≤900000) (b:UInt8) {s:Bool×List UInt8} (e:zdf h l b=some s) :
  CallsM Tryz.prog F.zbe [ptr d,zy b] M fun v M'=>v = .tuple #[]∧zzp B d (K+1) s.1 s.2 M':=by
 obtain⟨a,c,s0,s1,s2,s3,s4,hd,hB,hN,hk5⟩:=hD
 have hle:B.le M:=hN.le
 refine zr4 (by simp) ?_
 unfold zdf at e
 (conv=>whnf);refine brn (fun g=>?_) (fun g=>?_)
 ·have g':b=126:=(znv (n:=126) (by decide)).1 (Zd0 g)
  rw[if_pos g'] at e
  split at e
  ·cases e
  rename_i hng
  cases e
  refine zR ?_
  refine on (hd.c1 rfl) ?_
  cases h
  case true=>
   refine zR ?_
   refine on hd.cells ?_
   (conv=>whnf);refine ob (by simp) ?_
   have hd1:(M.setCells d T.zs (zgD false a l.length c s0 s1 s2 s3 s4)).has d T.zs (zgD false a l.length c s0 s1 s2 s3 s4):=Mem.has_setCells
   obtain⟨M1,hM1⟩:∃ M1,M1=M.setCells d T.zs (zgD false a l.length c s0 s1 s2 s3 s4):=⟨_,rfl⟩
   have hk1:Mem.keep (fun y=>y=d) M M1:=hM1▸zaA
   rw[←hM1] at hd1
   (conv=>whnf)
   erw [←hM1]
   refine on hd1.cells ?_
   (conv=>whnf);refine ob (by simp) ?_
   refine zR ?_
   refine⟨rfl,none,0,s0,s1,s2,s3,s4,Mem.has_setCells,hB,(NewSl.none _ T.zE 1).mono ((Mem.keep_trans hk1 zaA).le hle (fun _ e=>e▸hB)),by unfold zby at *; omega⟩
  case false=>
   (conv=>whnf);refine on (hd.c1 rfl) ?_
   (conv=>whnf);refine brn (fun k=>?_) (fun k=>?_)
   ·have hl0:l≠[]:=fun e=>by subst e;cases k
    have hg0:zkI l=false:=by
     cases hgp:zkI l with
     | false=>rfl
     | true=>exact absurd ⟨rfl,hl0,hgp⟩ hng
    refine zR ?_
    refine(zML hd hN.src hl hk5 (by omega) hg0).mono ?_
    rintro v M2 ⟨rfl,t0,t1,t2,t3,t4,hd2,hb2,hk2⟩
    have hle2:=hk2.le hle (fun _ e=>e▸hB)
    refine zR ?_
    refine on hd2.cells ?_
    (conv=>whnf);refine ob (by simp) ?_
    have hd1:(M2.setCells d T.zs (zgD false a l.length c t0 t1 t2 t3 t4)).has d T.zs (zgD false a l.length c t0 t1 t2 t3 t4):=Mem.has_setCells
    obtain⟨M1,hM1⟩:∃ M1,M1=M2.setCells d T.zs (zgD false a l.length c t0 t1 t2 t3 t4):=⟨_,rfl⟩
    have hk1:Mem.keep (fun y=>y=d) M2 M1:=hM1▸zaA
    rw[←hM1] at hd1
    (conv=>whnf)
    erw [←hM1]
    refine on hd1.cells ?_
    (conv=>whnf);refine ob (by simp) ?_
    refine zR ?_
    refine⟨rfl,none,0,t0,t1,t2,t3,t4,Mem.has_setCells,hB,(NewSl.none _ T.zE 1).mono ((Mem.keep_trans hk1 zaA).le hle2 (fun _ e=>e▸hB)),by unfold zby at *; omega⟩
   ·
    refine zR ?_
    refine on hd.cells ?_
    (conv=>whnf);refine ob (by simp) ?_
    have hd1:(M.setCells d T.zs (zgD false a l.length c s0 s1 s2 s3 s4)).has d T.zs (zgD false a l.length c s0 s1 s2 s3 s4):=Mem.has_setCells
    obtain⟨M1,hM1⟩:∃ M1,M1=M.setCells d T.zs (zgD false a l.length c s0 s1 s2 s3 s4):=⟨_,rfl⟩
    have hk1:Mem.keep (fun y=>y=d) M M1:=hM1▸zaA
    rw[←hM1] at hd1
    (conv=>whnf)
    erw [←hM1]
    refine on hd1.cells ?_
    (conv=>whnf);refine ob (by simp) ?_
    refine zR ?_
    refine⟨rfl,none,0,s0,s1,s2,s3,s4,Mem.has_setCells,hB,(NewSl.none _ T.zE 1).mono ((Mem.keep_trans hk1 zaA).le hle (fun _ e=>e▸hB)),by unfold zby at *; omega⟩
 ·have g':b≠126:=fun e=>Zd1 g (by subst e;rfl)
  rw[if_neg g'] at e
  refine zR ?_
  refine on (hd.c1 rfl) ?_
  cases h
  case true=>
   cases e
   refine zR ?_
   exact⟨rfl,a,c,s0,s1,s2,s3,s4,hd,hB,hN,by unfold zby at *; omega⟩
  case false=>
   rw[if_neg (by decide)] at e
   (conv=>whnf);refine on (hd.c1 rfl) ?_
   (conv=>whnf);refine brn (fun k=>?_) (fun k=>?_)
   ·have k':l.length=260:=by have:=Zd0 k;omega
    rw[if_pos k'] at e
    cases e
    refine zR ?_
    refine on (hd.c1 rfl) ?_
    (conv=>whnf);refine ob (zu (by unfold zby at hk5;omega)) ?_
    (conv=>whnf);refine on hd.cells ?_
    (conv=>whnf);refine ob (by simp) ?_
    have hd1:=Mem.has_setCells (M:=M) (b:=d) (E:=T.zs) (l:=zgD false a l.length c s0 s1 s2 (s3+1) s4)
    obtain⟨M1,hM1⟩:∃ M1,M1=M.setCells d T.zs (zgD false a l.length c s0 s1 s2 (s3+1) s4):=⟨_,rfl⟩
    have hk1:Mem.keep (fun y=>y=d) M M1:=hM1▸zaA
    rw[←hM1] at hd1
    (conv=>whnf)
    erw [←hM1]
    refine on hd1.cells ?_
    (conv=>whnf);refine ob (by simp) ?_
    have hd2:=Mem.has_setCells (M:=M1) (b:=d) (E:=T.zs) (l:=zgD true a l.length c s0 s1 s2 (s3+1) s4)
    obtain⟨M2,hM2⟩:∃ M2,M2=M1.setCells d T.zs (zgD true a l.length c s0 s1 s2 (s3+1) s4):=⟨_,rfl⟩
    have hk2:Mem.keep (fun y=>y=d) M1 M2:=hM2▸zaA
    rw[←hM2] at hd2
    (conv=>whnf)
    erw [←hM2]
    refine on hd2.cells ?_
    (conv=>whnf);refine ob (by simp) ?_
    refine zR ?_
    refine⟨rfl,none,0,s0,s1,s2,s3+1,s4,Mem.has_setCells,hB,(NewSl.none _ T.zE 1).mono ((Mem.keep_trans hk1 (Mem.keep_trans hk2 zaA)).le hle (fun _ e=>e▸hB)),by unfold zby at *; omega⟩
   ·have k':¬l.length=260:=by have:=Zd1 k;omega
    rw[if_neg k'] at e
    cases e
    refine zR ?_
    refine on (hd.c1 rfl) ?_
    refine zR ?_
    refine appK B _ hN (by omega) (by unfold maxLen;omega) (zly [b]) (fun a2 c2 M2 h4 hk4=>?_)
    rw[show [zy b]=[b].map zy from rfl,←List.map_append] at h4
    have hd2:M2.has d T.zs (zgD false a l.length c s0 s1 s2 s3 s4):=hk4 _ _ (fun ⟨q,hq,he⟩=>zCK (by decide) hd hN q hq he) hd
    refine zR ?_
    refine on hd2.cells ?_
    (conv=>whnf);refine ob (by simp) ?_
    refine zR ?_
    refine⟨rfl,a2,c2,s0,s1,s2,s3,s4,?_,hB,?_,by unfold zby at *; omega⟩
    ·rw[List.length_append];exact Mem.has_setCells
    ·rw[List.length_append];exact h4.keep zaA (fun _ e=>e▸hB) (zCK (by decide) hd2 h4)
theorem zJP {d:Nat} {h:Bool} {l p:List UInt8} {K:Int} {a:Option Addr} {n c:Nat} (hD:zzp B d K h l M) (hl:l.length≤260) (hK:K≤100000) (hp:SrcOk B 1 a n (p.map zy)) (hn:n≤100000) {s:Bool×List UInt8} (e:zdR h l p=some s) :
  CallsM Tryz.prog F.zbd [ptr d,.slice a n c] M fun v M'=>v = .slice none 0 0∧zzp B d (K+n) s.1 s.2 M':=by
 refine zr3 (by simp) ?_
 have hpl:=hp.maplen
 refine zR ?_
 refine zBC (σ:=Nat×Bool×List UInt8×Mem) [15] (fun y=>[(15,.int .i64 y.1)]) (fun _=>[]) (fun y=>y.2.2.2)
  (fun|⟨i,h',l',Mc⟩=>i≤n∧l'.length≤260∧zzp B d (K+i) h' l' Mc∧zdR h' l' (p.drop i)=some s) (fun y=>n - y.1) ⟨0,h,l,M⟩ ⟨by omega,hl,by simpa using hD,e⟩ zS ?_
 rintro ⟨i,h',l',Mc⟩ ⟨hi,hl',hD',e'⟩
 (conv=>whnf);refine brn (fun g=>?_) (fun g=>?_)
 ·have hlt:i<n:=by have:=Zd0 g;dsimp only at this;omega
  have hBle:B.le Mc:=by obtain⟨_,_,_,_,_,_,_,_,_,hN,_⟩:=hD';exact hN.le
  obtain⟨hk1,b1,o1,e1,hr1⟩:=(hp.le hBle).at hlt
  rw[List.drop_eq_getElem_cons hk1] at e'
  generalize p[i]=x at *
  unfold zdR at e'
  cases hst:zdf h' l' x with
  | none=>rw[hst] at e';cases e'
  | some t=>
   rw[hst] at e'
   dsimp only at e'
   (conv=>whnf);refine ob (by first|omega|(dsimp only;omega)) ?_
   (conv=>whnf);refine atp e1 ?_
   (conv=>whnf);refine on hr1 ?_
   refine zR ?_
   refine(zJO hD' hl' (by omega) x hst).mono ?_
   rintro v M2 ⟨rfl,h2⟩
   refine zR ?_
   refine ob (zu (by first|omega|(dsimp only;omega))) ?_
   (conv=>whnf)
   exact⟨⟨i+1,t.1,t.2,M2⟩,⟨by omega,zH3 hl' hst,by rw[show K+((i+1:Nat):Int)=K+i+1 by omega];exact h2,e'⟩,by dsimp only;omega,zS⟩
 ·have hge:i=n:=by have:=Zd1 g;dsimp only at this;omega
  subst hge
  rw[List.drop_of_length_le (by omega)] at e'
  cases e'
  obtain⟨a',c',s0,s1,s2,s3,s4,hd,hB,hN,hk5⟩:=hD'
  refine zR ?_
  refine on (hd.c1 rfl) ?_
  refine zR ?_
  refine on hd.cells ?_
  (conv=>whnf);refine ob (by simp) ?_
  refine zR ?_
  exact⟨rfl,a',c',s0,s1,s2,s3,s4,Mem.has_setCells,hB,hN.keep zaA (fun _ e=>e▸hB) (zCK (by decide) hd hN),hk5⟩
end
end Go.Proofs.YtdogcflaekkdkaaGreat
namespace Go.Vm.Rn
open Go.Vm
set_option linter.unusedVariables false
noncomputable def zFN (H:T O) (k:Nat) (v:Option O):Bool:=match v with|none=>true|some o=>(match H.get k with|some o'=>o.eqb o'|none=>false)
noncomputable def T.sub (a:T O) (H:T O):(Nat→Nat)→Bool:=
 T.rec (fun _=>true) (fun _ v _ il ir w=>zN (zFN H (w 0) v) (zN (il fun k=>w (2*k+1)) (ir fun k=>w (2*k+2)))) a
structure Stg where
 n:Nat
 H:T O
 v:V
 n':Nat
 H':T O
noncomputable def Stg.ok (F:List W→Nat→T O→R) (ws:List W) (g:Stg):Bool:=match F ws g.n g.H with|some (.rt v n' H')=>zN (v.eqb g.v) (zN (Nat.beq n' g.n') (g.H'.sub H' id))|_=>false
noncomputable def T.ofs (H:T O) (l:List (Nat×Option O)):T O:=List.rec (fun H=>H) (fun p _ ih H=>Prod.rec (fun k o=>H.set k o ih) p) l H
@[reducible] def Q.i (x:Nat):C := .n .i64 (.ofNat x)
@[reducible] def Q.u (x:Nat):C := .n .u8 (.ofNat x)
noncomputable def zml (ws:List W):List Stg→List W→Nat→T O→R
 | [],_,_,_=>fail
 | g::gs,us,n,H=>Bool.rec (zml ws gs us n H) (cB (zN (zwD W.eqb ws us) (g.H.sub H id)) (some (.rt g.v g.n' g.H')) fail) (Nat.beq n g.n)
theorem T.zpb {H:T O}:∀ {a:T O} {w:Nat→Nat},a.sub H w=true→∀ {k:Nat} {o:O},a.get k=some o→H.get (w k)=some o
 | .e,_,_,_,_,h=>by cases h
 | .n l v r,w,h,0,o,hk=>by
  have h':zN (zFN H (w 0) v) (zN (l.sub H fun k=>w (2*k+1)) (r.sub H fun k=>w (2*k+2)))=true:=h
  obtain⟨h1, -⟩:=zw h'
  have hv:v=some o:=hk
  subst hv
  unfold zFN at h1
  dsimp only at h1
  split at h1
  ·rename_i o' hg;rw[hg,O.eqb_s h1]
  ·cases h1
 | .n l v r,w,h,m+1,o,hk=>by
  have h':zN (zFN H (w 0) v) (zN (l.sub H fun k=>w (2*k+1)) (r.sub H fun k=>w (2*k+2)))=true:=h
  obtain⟨-, h1⟩:=zw h'
  obtain⟨h2,h3⟩:=zw h1
  rw[T.get_1] at hk
  split at hk
  ·rename_i hm
   have hm':m % 2=1:=Nat.eq_of_beq_eq_true hm
   have:=T.zpb h3 hk
   rwa [show 2*(m / 2)+2=m+1 by omega] at this
  ·rename_i hm
   have hm':m % 2≠1:=fun e=>by rw[e] at hm;exact hm rfl
   have:=T.zpb h2 hk
   rwa [show 2*(m / 2)+1=m+1 by omega] at this
theorem HR.sub {σ:List E} {H a:T O} {M:Mem} (h:HR σ H M) (ha:a.sub H id=true):HR σ a M:=
 ⟨fun k o hk=>h.has k o (T.zpb ha hk),fun k k' o o' e e' hk hk'=>h.inj k k' o o' e e' (T.zpb ha hk) (T.zpb ha hk')⟩
theorem zll {P:Program} {F:Cal} (hF:FOk P F) {g:Nat} {ws:List W}:∀ {l:List Stg},(∀ s∈l,s.ok (F g) ws=true)→Prim P g (zml ws l)
 | [],_=>by intro h;cases h
 | s::l,hl=>by
  intro h σ M vs hn hh hvs
  rename_i us n H v n' H'
  have h':(Bool.rec (zml ws l us n H) (cB (zN (zwD W.eqb ws us) (s.H.sub H id)) (some (.rt s.v s.n' s.H')) fail) (Nat.beq n s.n):R)=some (.rt v n' H'):=h
  cases hb:Nat.beq n s.n with
  | false=>
   rw[hb] at h'
   exact zll hF (fun x hx=>hl x (List.mem_cons_of_mem _ hx)) h' hn hh hvs
  | true=>
   rw[hb] at h'
   obtain⟨h1,h2⟩:=zo h'
   obtain⟨h3,h4⟩:=zw h1
   have e1:=ztY (fun _ _=>W.eqb_s) h3
   have e2:=zB hb
   subst e1 e2
   cases h2
   have hs:=hl s (by simp)
   unfold Stg.ok at hs
   split at hs
   ·rename_i v2 n2 H2 hr
    obtain⟨h5,h6⟩:=zw hs
    obtain⟨h7,h8⟩:=zw h6
    have e3:=V.eqb_s h5
    have e4:=zB h7
    subst e3 e4
    refine CallsM.mono (hF hr rfl hn (hh.sub h4) hvs) ?_
    rintro u M' ⟨τ,h9,h10,h11⟩
    exact⟨τ,h9,h10,h11.sub h8⟩
   ·cases hs
noncomputable def orP (p q:List W→Nat→T O→R) (ws:List W) (n:Nat) (H:T O):R:=Option.rec (q ws n H) (fun y=>some y) (p ws n H)
theorem zLY {P:Program} {g:Nat} {p q:List W→Nat→T O→R} (hp:Prim P g p) (hq:Prim P g q):Prim P g (orP p q):=by
 intro ws n H v n' H' h
 unfold orP at h
 cases hx:p ws n H with
 | none=>rw[hx] at h;exact hq h
 | some y=>rw[hx] at h;exact hp (hx.trans h)
theorem all_cons {p:Stg→Prop} {x:Stg} {l:List Stg} (h:p x) (t:∀ s∈l,p s):∀ s∈x::l,p s:=fun s hs=>by
 cases hs with
 | head=>exact h
 | tail _ hs=>exact t s hs
theorem zpc {p:Stg→Prop}:∀ s∈([]:List Stg),p s:=fun s hs=>by cases hs
end Go.Vm.Rn
namespace Go.Vm.Rn
open Go.Vm
noncomputable def rT (r:R):Bool:=match r with|some (.rt (.c (.t true)) _ _)=>true|_=>false
theorem zOW {P:Program} {F:Cal} (hF:FOk P F) {M:Mem} {f:Nat} {ws:List W} {vs:List Value} (h:rT (F f ws 0 .e)=true) (hvs:All2 (WR []) ws vs):CallsM P f vs M fun v M'=>v = .bool true∧M.le M':=by
 have h1:CallsM P f vs Mem.empty fun v _=>v = .bool true:=by
  unfold rT at h
  split at h
  ·rename_i n H hr
   refine CallsM.mono (hF hr rfl (σ:=[]) (M:=Mem.empty) rfl ⟨fun _ _ h=>(by cases h),fun _ _ _ _ _ _ h=>(by cases h)⟩ hvs) ?_
   rintro v M' ⟨τ, -, h2, -⟩
   have h3:some (Value.bool true)=some v:=h2
   cases h3;rfl
  ·cases h
 refine(h1.frame (Mem.empty_le M)).mono ?_
 rintro v M' ⟨A',rfl, -, h2⟩
 exact⟨rfl,fun b o hb=>(h2 b o rfl hb).1⟩
end Go.Vm.Rn
namespace Go.Vm.Rn
open Go.Vm
set_option linter.unusedVariables false
def Zs (M0:Mem) (σ:List E) (H:T O) (M:Mem):Prop:=∃ A:Mem,A.le M∧M0.le M∧A.disj M0∧HR σ H A
section
variable {P:Program} {F:Cal} {M0 M M':Mem} {σ:List E} {H:T O}
theorem Zs.nil (M:Mem):Zs M [] .e M:=⟨Mem.empty,Mem.empty_le _,Mem.le_refl _,fun _ => .inl rfl,fun _ _ h=>(by cases h),fun _ _ _ _ _ _ h=>(by cases h)⟩
theorem Zs.base (h:Zs M0 σ H M):M0.le M:=by obtain⟨_,_,h,_⟩:=h;exact h
theorem Zs.le (h:Zs M0 σ H M) (hle:M.le M'):Zs M0 σ H M':=by
 obtain⟨A,h1,h2,h3⟩:=h
 exact⟨A,Mem.le_trans h1 hle,Mem.le_trans h2 hle,h3⟩
theorem Zs.sub (h:Zs M0 σ H M) {H':T O} (hs:H'.sub H id=true):Zs M0 σ H' M:=by
 obtain⟨A,h1,h2,h3,h4⟩:=h
 exact⟨A,h1,h2,h3,h4.sub hs⟩
theorem zzq (hF:FOk P F) {g:Stg} {f:Nat} {ws:List W} {vs:List Value} (hok:g.ok (F f) ws=true) (hz:Zs M0 σ H M) (hn:σ.length=g.n) (hs:g.H.sub H id=true) (hvs:All2 (WR σ) ws vs) :
  CallsM P f vs M fun u M'=>∃ τ,(σ++τ).length=g.n'∧OVR (σ++τ) g.v u∧Zs M0 (σ++τ) g.H' M':=by
 obtain⟨A,hA,h0,hd,hr⟩:=hz
 unfold Stg.ok at hok
 split at hok
 ·rename_i v2 n2 H2 hrun
  obtain⟨h5,h6⟩:=zw hok
  obtain⟨h7,h8⟩:=zw h6
  have e3:=V.eqb_s h5
  have e4:=zB h7
  subst e3
  refine(CallsM.frame (hF hrun rfl hn (hr.sub hs) hvs) hA).mono ?_
  rintro u M' ⟨A',⟨τ,h9,h10,h11⟩,hA',hk⟩
  refine⟨τ,h9.trans e4,h10,A',hA',fun x o hx=>?_,fun x=>?_,h11.sub h8⟩
  ·have hAx:A x=none:=(hd x).resolve_right (by rw[hx];simp)
   exact(hk x o hAx (h0 x o hx)).1
  ·cases hx:M0 x with
   | none=>exact .inr rfl
   | some o=>
    have hAx:A x=none:=(hd x).resolve_right (by rw[hx];simp)
    exact .inl (hk x o hAx (h0 x o hx)).2
 ·cases hok
theorem zyh {k:Nat} {v:Value} (h:CR σ (.p k 0) v):∃ e,σ[k]? = some e∧v = .pointer (some ⟨e.addr,0,none⟩):=by
 simp only[CR,C.val,Option.map_eq_some_iff] at h
 obtain⟨e,h1,h2⟩:=h
 exact⟨e,h1,h2.symm⟩
theorem zCL {k:Nat} {e:E} (h:σ[k]? = some e):CR σ (.p k 0) (.pointer (some ⟨e.addr,0,none⟩)):=by
 simp[CR,C.val,h]
theorem zrp {k:Nat} {e:E} (h:σ[k]? = some e) (τ:List E):(σ++τ)[k]? = some e:=by
 rw[List.getElem?_append_left (List.getElem?_eq_some_iff.1 h).1,h]
theorem Zs.pad (h:Zs M0 σ H M) (τ:List E):Zs M0 (σ++τ) H M:=by
 obtain⟨A,h1,h2,h3,h4⟩:=h
 refine⟨A,h1,h2,h3,fun a o ha=>?_,fun a b oa ob ea eb ha hb he he'=>?_⟩
 ·obtain⟨e,h5,h6⟩:=h4.has a o ha
  exact⟨e,zrp h5 τ,h6.mono τ⟩
 ·obtain⟨e1,h5, -⟩:=h4.has a oa ha
  obtain⟨e2,h6, -⟩:=h4.has b ob hb
  rw[zrp h5 τ] at he
  rw[zrp h6 τ] at he'
  cases he;cases he'
  exact h4.inj a b oa ob _ _ ha hb h5 h6
theorem Zs.ro (h:Zs M0 σ H M) {b E0:Nat} {l:List C} {vs:List Value} (hb:M b=none) (hl:All2 (CR σ) l vs):Zs M0 (σ++[⟨b,0,false,[]⟩]) (H.put σ.length (some (.ro E0 l))) (M.upd b (.cells vs.toArray E0 (vs.length,vs.length+1))):=by
 obtain⟨A,h1,h2,h3,h4⟩:=h
 have nn:∀ {B:Mem},B.le M→B b=none:=fun {B} hB=>by
  cases e:B b with
  | none=>rfl
  | some o=>rw[hB b o e] at hb;cases hb
 have hAb:=nn h1
 refine⟨A.upd b (.cells vs.toArray E0 (vs.length,vs.length+1)),fun x o hx=>?_,Mem.le_trans h2 (Mem.le_upd hb),fun x=>?_,fun a o ha=>?_,fun a a' o o' e e' ha ha' he he' hn hn' hadr=>?_⟩
 ·by_cases hxb:x=b
  ·subst hxb;simpa[Mem.upd] using hx
  ·rw[Mem.upd_ne _ _ hxb] at hx ⊢; exact h1 x o hx
 ·by_cases hxb:x=b
  ·subst hxb;exact .inr (nn h2)
  ·rw[Mem.upd_ne _ _ hxb];exact h3 x
 ·rcases T.get_put ha with ⟨rfl,h5⟩|⟨hne,h5⟩
  ·cases h5
   exact⟨⟨b,0,false,[]⟩,by simp,rfl,vs,hl.imp fun _ _ hc=>C.val_mono _ hc,by simp[Mem.upd]⟩
  ·obtain⟨e,h6,h7⟩:=h4.has a o h5
   refine⟨e,zrp h6 _,(h7.mono _).frame fun hn=>?_⟩
   obtain⟨ob,h8⟩:=h7.some hn
   rw[Mem.upd_ne _ _ (fun ee=>by rw[ee,hAb] at h8;cases h8)]
 ·have old:∀ {k:Nat} {o:O} {e:E},H.get k=some o→(σ++[⟨b,0,false,[]⟩])[k]? = some e→e.nil=false→σ[k]? = some e∧e.addr≠b:=fun {k o e} hk he hn=>by
   obtain⟨e1,h6,h7⟩:=h4.has k o hk
   rw[zrp h6] at he
   cases he
   refine⟨h6,fun ee=>?_⟩
   obtain⟨ob,h8⟩:=h7.some hn
   rw[ee,hAb] at h8;cases h8
  rcases T.get_put ha with ⟨rfl, -⟩|⟨-, h5⟩
  ·rcases T.get_put ha' with ⟨rfl, -⟩|⟨-, h6⟩
   ·rfl
   ·have:e.addr=b:=by simp at he;rw[←he]
    exact absurd (hadr.symm.trans this) (old h6 he' hn').2
  ·rcases T.get_put ha' with ⟨rfl, -⟩|⟨-, h6⟩
   ·have:e'.addr=b:=by simp at he';rw[←he']
    exact absurd (hadr.trans this) (old h5 he hn).2
   ·exact h4.inj a a' o o' e e' h5 h6 (old h5 he hn).1 (old h6 he' hn').1 hn hn' hadr
theorem HR.drop {A:Mem} (h:HR σ H A) {k:Nat} {od:O} {ed:E} (hk:H.get k=some od) (he:σ[k]? = some ed) (hn:ed.nil=false) {H':T O} (hs:H'.sub H id=true) (h0:H'.get k=none):HR σ H' (A.minus fun y=>y=ed.addr):=by
 have h1:=h.sub hs
 refine⟨fun a o ha=>?_,h1.inj⟩
 obtain⟨e,h2,h3⟩:=h1.has a o ha
 refine⟨e,h2,h3.frame fun hne=>?_⟩
 have:e.addr≠ed.addr:=fun ee=>by
  have:=h.inj a k o od e ed (T.zpb hs ha) hk h2 he hne hn ee
  subst this
  rw[h0] at ha;cases ha
 unfold Mem.minus
 rw[if_neg this]
end
end Go.Vm.Rn
namespace Go.Proofs.YtdogcflaekkdkaaGreat
open Go Go.Vm
def bl (b:ByteArray):List UInt8:=b.data.toList
def zOX (a b:ByteArray):Bool:=Op.bytesLess a.toList b.toList
structure FileR where
 name:ByteArray
 safe:ByteArray
 tail:ByteArray
def FileR.all (f:FileR):ByteArray:=f.safe++f.tail
structure zyi where
 limit:Int
 l:List FileR
 left:Int
 down:Bool
def zEL (L:List FileR):Prop:=L.Pairwise fun x y=>zOX x.name y.name=true
def zOY (L:List FileR) (n:ByteArray):Option FileR:=L.find? fun f=>decide (f.name=n)
def zOZ (L:List FileR):Nat:=(L.map fun f=>f.safe.size+f.tail.size).sum
structure zPM (D:zyi):Prop where
 sort:zEL D.l
 len:D.l.length≤64
 used:zOZ D.l≤1048576
 limit:0≤D.limit∧D.limit≤1048576
 left : -1≤D.left∧D.left≤9223372036854775807
end Go.Proofs.YtdogcflaekkdkaaGreat
namespace Go.Proofs.YtdogcflaekkdkaaGreat
open Go Go.Vm
attribute [local irreducible] Brn Ob Grow CallsM inR zc4 zcB Mem.row Mem.cells Mem.setCells Mem.upd Go.Vm.Own zfl zkD zi2 zhp New SrcOk zaa NewSl Mem.textAt Mem.mapAt Mem.iterAt zcA kfind Wr zkr Elems
set_option maxRecDepth 10000
section
@[reducible] def zPh (k:ByteArray):Value := .string k
structure FX where
 f:Nat
 a:Option Addr
 c:Nat
 p:List UInt8
 safe:Nat
@[reducible] def fxV (x:FX):Value:=ptr x.f
structure zPi (M:Mem) (x:FX):Prop where
 self:M.has x.f T.zDC [.slice x.a x.p.length x.c,.int .i64 x.safe]
 row:Wr M T.zE 1 x.a x.p.length x.c (x.p.map zy)
def FX.own (x:FX):Nat→Prop:=fun y=>y=x.f∨blk x.a y
def zOg (x y:FX):Prop:=∀ z,x.own z→¬y.own z
abbrev FsT:=List (ByteArray×FX)
structure DAt (M:Mem) (p b:Nat) (D:zyi) (es:FsT):Prop where
 self:M.has p T.zDB [.int .i64 D.limit,.map (some b),.int .i64 D.left,.bool D.down]
 map:MapAt zPh fxV M b es
 ents:∀ q∈es,zPi M q.2
 apart:es.Pairwise fun x y=>zOg x.2 y.2
def zFO (p b:Nat) (es:FsT):Nat→Prop:=fun y=>y=p∨y=b∨∃ q∈es,q.2.own y
variable {M:Mem} {p b:Nat} {D:zyi} {es:FsT}
def cont (f:FileR):List UInt8×Nat:=(bl f.all,f.safe.size)
structure zPj (es:FsT) (L:List FileR):Prop where
 sort:zEL L
 nodup:(es.map (·.1)).Nodup
 same:∀ n,(zmh es n).map (fun x=>(x.p,x.safe))=(zOY L n).map cont
end
section
variable {M:Mem} {p b:Nat} {D:zyi} {es:FsT}
structure zPK (M M':Mem) (p b:Nat) (es es':FsT) (D':zyi):Prop where
 at':DAt M' p b D' es'
 rel:zPj es' D'.l
 keep:Mem.keep (zFO p b es) M M'
 own:∀ y,zFO p b es' y→zFO p b es y∨M y=none
theorem Wr.newSl {E:TypeId} {s:Nat} {a:Option Addr} {n c:Nat} {L:List Value} (h:Wr M E s a n c L):NewSl (M.minus (blk a)) E s a n c L M:=by
 unfold Wr at h
 obtain⟨h1,h2,h3⟩:=h
 exact newSl_iff.2 ⟨Mem.minus_le _ _,h1,h2,h3.imp id fun ⟨b,cs,ha,hh,hr⟩=>⟨b,cs,ha,Mem.minus_in ⟨_,ha,rfl⟩,hh,hr⟩⟩
end
section
variable {M:Mem}
theorem zEN (base size:Int):CallsM Tryz.prog F.zc2 [.int .i64 base,.int .i64 size] M fun v M'=>∃ B1 B2,v = .func (.func F.zhU) #[] #[.pointer (some ⟨B1,0,none⟩),.pointer (some ⟨B2,0,none⟩)] ∧
  M'.has B1 T.int [.int .i64 size]∧M'.has B2 T.int [.int .i64 base]∧M.le M':=by
 refine zzb (by simp) ?_
 refine zR ?_
 refine new (fun b1 hb1=>?_)
 replace hb1:M b1=none:=hb1
 (conv=>whnf)
 refine new (fun b2 hb2=>?_)
 replace hb2:(M.setCells b1 T.int [.int .i64 size]) b2=none:=hb2
 refine zR ?_
 have hle1:M.le (M.setCells b1 T.int [.int .i64 size]):=Mem.le_setCells hb1
 have hle2:(M.setCells b1 T.int [.int .i64 size]).le ((M.setCells b1 T.int [.int .i64 size]).setCells b2 T.int [.int .i64 base]):=Mem.le_setCells hb2
 exact⟨b1,b2,rfl,Mem.has.le hle2 Mem.has_setCells,Mem.has_setCells,Mem.le_trans hle1 hle2⟩
def IU (b1:Nat) (out:List Int) (M:Mem):Prop:=∃ a c,M.has b1 T.zb8 [.slice a out.length c]∧Wr M T.int 1 a out.length c (out.map (Value.int .i64))∧(out=[]→a=none∧c=0)
theorem zMM (x:Int):∀ u∈[Value.int .i64 x],u.oneCell'=true:=fun u hu=>by simp at hu;subst hu;rfl
theorem under_nil:CallsM Tryz.prog F.zaR [.pointer none] M fun v M'=>v = .slice none 0 0∧M=M':=by
 refine zks (by simp) ?_
 repeat' ((conv=>whnf);first|refine⟨?_,True.intro⟩|refine⟨?_,?_,True.intro⟩|refine brn_t rfl ?_|refine brn_f rfl ?_|refine ob rfl ?_|refine ob (by decide) ?_|refine grow_same (Mem.le_refl _) ?_|refine ob (Mem.le_refl _) ?_|refine⟨_,Mem.le_refl _,?_⟩|fail)
 exact⟨rfl,rfl⟩
set_option maxHeartbeats 1000000 in
theorem zJQ {p:Nat} {sz:Value} {base un:Int} {al:Value} (h:M.has p T.zme [sz,.int .i64 base,al,.int .i64 un]) (hu : -9223372036854775808≤un∧un<9223372036854775808) :
  CallsM Tryz.prog F.zaR [.pointer (some ⟨p,0,none⟩)] M fun v M'=>∃ a c,v = .slice a (zbM base (zap un)).length c∧NewSl M T.int 1 a (zbM base (zap un)).length c ((zbM base (zap un)).map (Value.int .i64)) M'∧(zbM base (zap un)=[]→a=none∧c=0):=by
 refine zks (by simp) ?_
 repeat' ((conv=>whnf);first|refine⟨?_,True.intro⟩|refine⟨?_,?_,True.intro⟩|refine brn_t rfl ?_|refine brn_f rfl ?_|refine ob rfl ?_|refine ob (by decide) ?_|refine grow_same (Mem.le_refl _) ?_|refine ob (Mem.le_refl _) ?_|refine⟨_,Mem.le_refl _,?_⟩|fail)
 refine on (h.c1 rfl) ?_
 refine zR ?_
 refine on (h.c1 rfl) ?_
 refine zR ?_
 refine(zEN base un).mono ?_
 rintro v M1 ⟨B1,B2,rfl,hB1,hB2,hle1⟩
 (conv=>whnf);refine⟨rfl,?_⟩
 (conv=>whnf);refine new (fun b1 hb1=>?_)
 replace hb1:M1 b1=none:=hb1
 have hle2:M1.le (M1.setCells b1 T.zb8 [.slice none 0 0]):=Mem.le_setCells hb1
 have h1b1:=Mem.has_setCells (M:=M1) (b:=b1) (E:=T.zb8) (l:=[.slice none 0 0])
 obtain⟨M3,hM3⟩:∃ M3,M3=M1.setCells b1 T.zb8 [.slice none 0 0]:=⟨_,rfl⟩
 rw[←hM3] at hle2 h1b1
 obtain⟨M0,hM0⟩:∃ M0:Mem,M0=M3.minus (fun y=>y≠b1):=⟨_,rfl⟩
 have h01:M0 b1=M3 b1:=by rw[hM0];unfold Mem.minus;rw[if_neg (by simp)]
 (conv=>whnf)
 erw [←hM3]
 refine zHY (zEp (A:=M1) hB1 hB2 hu) (by kernel_rfl) rfl hle2 (fun _=>rfl) (IU b1) M0 (hM0▸Mem.minus_le _ _) (fun b hb=>?_) ⟨none,0,?_,?_,fun _=>⟨rfl,rfl⟩⟩ ?_ ?_
 ·rw[hM0]
  refine Mem.minus_in (fun e=>?_)
  rw[e] at hb;exact hb hb1
 ·unfold Mem.has at h1b1 ⊢; rw[h01];exact h1b1
 ·unfold Wr;exact⟨rfl,Nat.le_refl _,.inl ⟨rfl,rfl⟩⟩
 ·rintro pre x Mb Mx Mc ⟨a2,c2,ho1,ho2,ho3⟩ hlt ⟨hx1,hx2⟩ hfr hle4 hle5
  have g1:Mc.has b1 T.zb8 [.slice a2 pre.length c2]:=Mem.has.le hle4 ho1
  have g3:=ho2.le hle4
  have hN:zap un≤128:=by unfold zap;omega
  refine zR ?_
  refine⟨rfl,?_⟩
  refine zR ?_
  refine on (g1.c1 rfl) ?_
  refine zR ?_
  refine appK (Mc.minus (blk a2)) _ (Wr.newSl g3) (by omega) (by simp[maxLen];omega) (zMM x) fun a4 c4 M4 hN4 hk4=>?_
  have hb1n:¬blk a2 b1:=fun ⟨q,hq,e⟩=>by
   obtain⟨cs,hh⟩:=g3.block hq
   rw[e] at hh
   exact absurd (hh.inj g1).1 (by decide)
  have k1:M4.has b1 T.zb8 [.slice a2 pre.length c2]:=hk4 _ _ hb1n g1
  have k3:=hN4.wr
  have hb4:∀ q,a4=some q→q.block≠b1:=fun q hq e=>by
   obtain⟨cs,hh⟩:=k3.block hq
   rw[e] at hh;exact absurd (hh.inj k1).1 (by decide)
  refine zR ?_
  refine on k1.cells ?_
  (conv=>whnf);refine ob (by simp) ?_
  have hk5:Mem.keep (fun y=>y=b1) M4 (M4.setCells b1 T.zb8 [.slice a4 (pre.length+1) c4]):=fun y o hy ho=>by
   unfold Mem.setCells;rw[Mem.upd_ne _ _ hy];exact ho
  have m1:(M4.setCells b1 T.zb8 [.slice a4 (pre.length+1) c4]).has b1 T.zb8 [.slice a4 (pre.length+1) c4]:=Mem.has_setCells
  obtain⟨M5,hM5⟩:∃ M5,M5=M4.setCells b1 T.zb8 [.slice a4 (pre.length+1) c4]:=⟨_,rfl⟩
  rw[←hM5] at hk5 m1
  (conv=>whnf)
  refine⟨rfl,M5,⟨a4,c4,?_,?_,fun h=>by simp at h⟩,hM5▸Mem.le_refl _⟩
  ·rw[List.length_append];exact m1
  ·rw[List.length_append,List.map_append]
   refine k3.mono fun q o hq ho=>hk5 _ _ (hb4 q hq) ho
 ·rintro xs Mb Mc hD ⟨a2,c2,ho1,ho2,ho3⟩ hdj hle4 hle5
  have g1:Mc.has b1 T.zb8 [.slice a2 xs.length c2]:=Mem.has.le hle4 ho1
  refine zR ?_
  refine on (g1.c1 rfl) ?_
  refine zR ?_
  subst hD
  refine⟨a2,c2,rfl,?_,ho3⟩
  refine newSl_iff.2 ⟨Mem.le_trans hle1 hle5,?_⟩
  unfold Wr at ho2
  obtain⟨w1,w2,w3⟩:=ho2
  refine⟨w1,w2,w3.imp id fun ⟨b,cs,ha,hh,hr⟩=>⟨b,cs,ha,?_,hh.le hle4,hr⟩⟩
  cases e:M b with
  | none=>rfl
  | some o=>
   have:=hdj b (by rw[hle1 _ _ e];simp)
   unfold Mem.has at hh;rw[hh] at this;cases this
end
end Go.Proofs.YtdogcflaekkdkaaGreat
