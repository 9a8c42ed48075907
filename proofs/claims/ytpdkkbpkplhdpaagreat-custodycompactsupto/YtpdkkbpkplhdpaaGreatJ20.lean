/- Part of this proof;laid by program. -/
import Derived.Test.YtpdkkbpkplhdpaaGreatJ19
import Derived.Test.YtpdkkbpkplhdpaaGreatJ18
set_option linter.unusedVariables false
set_option linter.unusedSimpArgs false
namespace Go.Proofs.YtpdkkbpkplhdpaaGreat
open Go Go.Vm
attribute [local irreducible] Brn Ob Grow CallsM inR zay zax Mem.row Mem.cells Mem.setCells Mem.upd Go.Vm.Own zaG za5 za6 zaO New SrcOk subA NewSl Mem.textAt Mem.mapAt Mem.iterAt zaw zai Wr NewEls Elems
set_option maxRecDepth 10000
section
variable {M M0:Mem} {p b sp sb:Nat} {S:StR} {came:Int} {xs:HsT} {es:EsT}
@[reducible] def zy3 (c:Nat→Int):List Value:=[.int .i64 (c 0),.int .i64 (c 1),.int .i64 (c 2),.int .i64 (c 3),.int .i64 (c 4),.int .i64 (c 5),.int .i64 (c 6),.int .i64 (c 7),.int .i64 (c 8),.int .i64 (c 9),.int .i64 (c 10),.int .i64 (c 11),.int .i64 (c 12),.int .i64 (c 13),.int .i64 (c 14),.int .i64 (c 15),.int .i64 (c 16),.int .i64 (c 17),.int .i64 (c 18),.int .i64 (c 19),.int .i64 (c 20),.int .i64 (c 21),.int .i64 (c 22),.int .i64 (c 23),.int .i64 (c 24),.int .i64 (c 25),.int .i64 (c 26),.int .i64 (c 27),.int .i64 (c 28),.int .i64 (c 29),.int .i64 (c 30),.int .i64 (c 31),.int .i64 (c 32),.int .i64 (c 33),.int .i64 (c 34),.int .i64 (c 35),.int .i64 (c 36),.int .i64 (c 37),.int .i64 (c 38),.int .i64 (c 39),.int .i64 (c 40),.int .i64 (c 41),.int .i64 (c 42),.int .i64 (c 43),.int .i64 (c 44),.int .i64 (c 45),.int .i64 (c 46),.int .i64 (c 47),.int .i64 (c 48),.int .i64 (c 49),.int .i64 (c 50),.int .i64 (c 51),.int .i64 (c 52),.int .i64 (c 53),.int .i64 (c 54),.int .i64 (c 55),.int .i64 (c 56),.int .i64 (c 57),.int .i64 (c 58),.int .i64 (c 59),.int .i64 (c 60),.int .i64 (c 61),.int .i64 (c 62),.int .i64 (c 63)]
@[reducible] def zy4 (c:Nat→Int):List SC:=[.v (.int .i64 (c 0)),.v (.int .i64 (c 1)),.v (.int .i64 (c 2)),.v (.int .i64 (c 3)),.v (.int .i64 (c 4)),.v (.int .i64 (c 5)),.v (.int .i64 (c 6)),.v (.int .i64 (c 7)),.v (.int .i64 (c 8)),.v (.int .i64 (c 9)),.v (.int .i64 (c 10)),.v (.int .i64 (c 11)),.v (.int .i64 (c 12)),.v (.int .i64 (c 13)),.v (.int .i64 (c 14)),.v (.int .i64 (c 15)),.v (.int .i64 (c 16)),.v (.int .i64 (c 17)),.v (.int .i64 (c 18)),.v (.int .i64 (c 19)),.v (.int .i64 (c 20)),.v (.int .i64 (c 21)),.v (.int .i64 (c 22)),.v (.int .i64 (c 23)),.v (.int .i64 (c 24)),.v (.int .i64 (c 25)),.v (.int .i64 (c 26)),.v (.int .i64 (c 27)),.v (.int .i64 (c 28)),.v (.int .i64 (c 29)),.v (.int .i64 (c 30)),.v (.int .i64 (c 31)),.v (.int .i64 (c 32)),.v (.int .i64 (c 33)),.v (.int .i64 (c 34)),.v (.int .i64 (c 35)),.v (.int .i64 (c 36)),.v (.int .i64 (c 37)),.v (.int .i64 (c 38)),.v (.int .i64 (c 39)),.v (.int .i64 (c 40)),.v (.int .i64 (c 41)),.v (.int .i64 (c 42)),.v (.int .i64 (c 43)),.v (.int .i64 (c 44)),.v (.int .i64 (c 45)),.v (.int .i64 (c 46)),.v (.int .i64 (c 47)),.v (.int .i64 (c 48)),.v (.int .i64 (c 49)),.v (.int .i64 (c 50)),.v (.int .i64 (c 51)),.v (.int .i64 (c 52)),.v (.int .i64 (c 53)),.v (.int .i64 (c 54)),.v (.int .i64 (c 55)),.v (.int .i64 (c 56)),.v (.int .i64 (c 57)),.v (.int .i64 (c 58)),.v (.int .i64 (c 59)),.v (.int .i64 (c 60)),.v (.int .i64 (c 61)),.v (.int .i64 (c 62)),.v (.int .i64 (c 63))]
theorem zCO (c:Nat→Int):zy3 c=(List.range 64).map (fun i=>Value.int .i64 (c i)):=rfl
theorem zCP (c:Nat→Int):zy4 c=(List.range 64).map (fun i=>SC.v (.int .i64 (c i))):=rfl
theorem zv1 (c:Nat→Int) {i:Nat} (hi:i<64):zjM (zy4 c) (i*1) 1=some [.v (.int .i64 (c i))]:=by
 have hl:(zy4 c).length=64:=rfl
 unfold zjM
 rw[if_pos (by rw[hl];omega),zCP]
 rw[List.drop_eq_getElem_cons (by simp;omega)]
 simp
theorem zAm {u:List Int} (h:u.length=64):u.map zaj=zy3 (fun i=>u.getD i 0):=by
 rw[zCO]
 apply List.ext_getElem (by simp[h])
 intro i h1 h2
 simp only[List.getElem_map,List.getElem_range,zaj]
 congr 1
 rw[List.getD_eq_getElem?_getD,List.getElem?_eq_getElem (by simpa using h1)];rfl
theorem zlT (hA:StAt M p b sp sb S came xs es) (hI:zfF S):M.row p 5 64=some (zy3 (fun i=>S.used.getD i 0)):=by
 rw[hA.self.row (by rw[zcG hI.ulen];omega),←zAm hI.ulen]
 congr 1
 unfold zD
 rw[List.append_assoc,List.drop_append]
 simp[hI.ulen]
theorem zil:∀ (u:List Int) (k j:Nat),j<u.length→zaq k (u.take (j+1))=zaq k (u.take j)++(if 0<u.getD j 0 then [(((k+j:Nat):Int),u.getD j 0)] else [])
 | [],_,_,h=>by simp at h
 | n::r,k,0,_=>by
  simp only[Nat.zero_add,List.take_succ_cons,List.take_zero,List.getD_cons_zero,Nat.add_zero]
  unfold zaq
  split<;>simp[zaq]
 | n::r,k,j+1,h=>by
  have ih:=zil r (k+1) j (by simpa using h)
  have e1:∀ t,zaq k (n::t)=if 0<n then ((k:Int),n)::zaq (k+1) t else zaq (k+1) t:=fun _=>rfl
  rw[List.take_succ_cons,List.take_succ_cons,e1,e1,ih,List.getD_cons_succ,show k+1+j=k+(j+1) by omega]
  split
  ·rw[List.cons_append]
  ·rfl
@[reducible] def zv2 (S:StR) (ua:Option Addr) (uc:Nat) (ha:Option Addr) (ms:List MX) (hc:Nat) (ma:Option Addr) (mk:List MkC) (mc:Nat):Value := .agg #[.int .i64 S.self,.int .i64 S.epoch,.slice ua (zZ S.used).length uc,.slice ha ms.length hc,.slice ma mk.length mc]
def zBv (S:StR) (es:EsT) (M:Mem) (v:Value) (M':Mem):Prop:=∃ ua uc ha hc ms ma mc mk,v=zv2 S ua uc ha ms hc ma mk mc∧M.le M'∧NewSl M T.zeJ 2 ua (zZ S.used).length uc ((zZ S.used).flatMap zg6) M'∧HeldAt M ha ms.length hc ms M'∧ms.map MX.msg=S.l ∧
 MarksAt M ma mk.length mc mk M'∧(mk.map MkC.mk').Perm (es.map zbu)∧Canon (inE es) (mk.map MkC.mk')
theorem MarksAt.up {a:Option Addr} {n c:Nat} {l:List MkC} {M' M2:Mem} (h:MarksAt M0 a n c l M') (hle:M'.le M2):MarksAt M0 a n c l M2:=⟨h.row.up hle,fun m hm=>(h.more m hm).up hle⟩
theorem MarksAt.mono' {a:Option Addr} {n c:Nat} {l:List MkC} {M':Mem} (h:MarksAt M a n c l M') (hle:M0.le M):MarksAt M0 a n c l M':=⟨h.row.mono hle,fun m hm=>(h.more m hm).mono hle⟩
theorem zBw (h:FreshSt M0 M p b sp sb S came xs es) (hcm:came≤4611686018427387904) (hes:es.length≤4194000):CallsM Tryz.prog F.zcS [ptr p] M (zBv S es M):=by
 refine zls (by simp) ?_
 have hI:=h.inv
 have hA0:=h.at'
 (conv=>whnf);refine brn_f rfl ?_
 repeat' ((conv=>whnf);first|refine⟨?_,True.intro⟩|refine⟨?_,?_,True.intro⟩|refine brn_t rfl ?_|refine brn_f rfl ?_|refine ob rfl ?_|refine ob (by decide) ?_|refine grow_same (Mem.le_refl _) ?_|refine ob (Mem.le_refl _) ?_|refine⟨_,Mem.le_refl _,?_⟩|fail)
 refine on (hA0.self.c1 rfl) ?_
 repeat' ((conv=>whnf);first|refine⟨?_,True.intro⟩|refine⟨?_,?_,True.intro⟩|refine brn_t rfl ?_|refine brn_f rfl ?_|refine ob rfl ?_|refine ob (by decide) ?_|refine grow_same (Mem.le_refl _) ?_|refine ob (Mem.le_refl _) ?_|refine⟨_,Mem.le_refl _,?_⟩|fail)
 refine on (hA0.self.c1 rfl) ?_
 repeat' ((conv=>whnf);first|refine⟨?_,True.intro⟩|refine⟨?_,?_,True.intro⟩|refine brn_t rfl ?_|refine brn_f rfl ?_|refine ob rfl ?_|refine ob (by decide) ?_|refine grow_same (Mem.le_refl _) ?_|refine ob (Mem.le_refl _) ?_|refine⟨_,Mem.le_refl _,?_⟩|fail)
 refine on (hA0.self.c1 (zlR hI.ulen ..)) ?_
 repeat' ((conv=>whnf);first|refine⟨?_,True.intro⟩|refine⟨?_,?_,True.intro⟩|refine brn_t rfl ?_|refine brn_f rfl ?_|refine ob rfl ?_|refine ob (by decide) ?_|refine grow_same (Mem.le_refl _) ?_|refine ob (Mem.le_refl _) ?_|refine⟨_,Mem.le_refl _,?_⟩|fail)
 ·(conv=>whnf)
  refine(zxC h hcm).mono ?_
  rintro v M4 ⟨ha,hn,hc,ms,rfl,hH0,hmsg⟩
  have h4:=h.to hH0.row.le
  refine zT (hH0.row.le) ?_
  repeat' ((conv=>whnf);first|refine⟨?_,True.intro⟩|refine⟨?_,?_,True.intro⟩|refine brn_t rfl ?_|refine brn_f rfl ?_|refine ob rfl ?_|refine ob (by decide) ?_|refine grow_same (Mem.le_refl _) ?_|refine ob (Mem.le_refl _) ?_|refine⟨_,Mem.le_refl _,?_⟩|fail)
  ·(conv=>whnf)
   refine(zqd h4.at'.set (by have:=h.room;omega) hes).mono ?_
   rintro v M5 ⟨ma,mn,mc,mk,rfl,hMk0,hp,hs⟩
   have h5:=h4.to hMk0.row.le
   have hHe:=hH0.up hMk0.row.le
   have hMk:=hMk0.mono' hH0.row.le
   have hleM:=hHe.row.le
   refine zT (hleM) ?_
   refine zR ?_
   have hrow:=zlT h5.at' hI
   refine on hrow ?_
   (conv=>whnf)
   refine zbe (σ:=Nat×Mem×(Option Addr×Nat)) [29] (fun x=>[(29,.int .i64 x.1)]) (fun x=>[.live T.zaJ [.v (.int .i64 0),.v (.int .i64 0),.v (.slice none 0 0),.v (.slice none 0 0),.v (.slice none 0 0)],.live T.zaJ [.v (.int .i64 S.self),.v (.int .i64 S.epoch),.v (.slice x.2.2.1 (zZ (S.used.take x.1)).length x.2.2.2),.v (.slice ha hn hc),.v (.slice ma mn mc)]]) (fun x=>x.2.1)
    (fun|⟨j,M6,(a6,c6)⟩=>j≤64∧NewSl M5 T.zeJ 2 a6 (zZ (S.used.take j)).length c6 ((zZ (S.used.take j)).flatMap zg6) M6) (fun x=>64 - x.1) ⟨0,M5,(none,0)⟩ ⟨by omega,NewSl.none M5 _ _⟩ zS ?_
   rintro ⟨j,M6,⟨a6,c6⟩⟩ ⟨hj,hN6⟩
   have hul:(zZ (S.used.take j)).length≤(S.used.take j).length:=zd9 _ 0
   have huj:(S.used.take j).length≤64:=by simp;omega
   (conv=>whnf);refine brn (fun g=>?_) (fun g=>?_)
   rotate_left
   ·have hge:64≤j:=by have:=Zd1 g;dsimp only at this;omega
    rw[List.take_of_length_le (by rw[hI.ulen];omega)] at hN6 ⊢
    refine zR ?_
    have hl1:=hHe.len
    have hl2:=hMk.len
    subst hl1
    subst hl2
    exact⟨a6,c6,ha,hc,ms,ma,mc,mk,rfl,Mem.le_trans hleM hN6.le,hN6.mono hleM,hHe.up hN6.le,hmsg,hMk.up hN6.le,hp,zkH h.invE hp hs⟩
   have hlt:j<64:=by have:=Zd0 g;dsimp only at this;omega
   have hnx:zZ (S.used.take (j+1))=zZ (S.used.take j)++(if 0<S.used.getD j 0 then [((j:Int),S.used.getD j 0)] else []):=by
    have:=zil S.used 0 j (by rw[hI.ulen];omega)
    rw[Nat.zero_add] at this
    exact this
   (conv=>whnf);refine ob (by first|omega|(dsimp only;omega)) ?_
   (conv=>whnf);refine on (zv1 (fun i=>S.used.getD i 0) hlt) ?_
   (conv=>whnf);refine brn (fun g1=>?_) (fun g1=>?_)
   ·have h1:0<S.used.getD j 0:=by simpa using g1
    rw[if_pos h1] at hnx
    refine zR ?_
    refine zlA M5 hN6 ((j:Int),S.used.getD j 0) rfl (by first|omega|(dsimp only;omega)) (by simp[maxLen];omega) (by simp[Value.oneCell']) fun a7 c7 M7 hN7 _=>?_
    (conv=>whnf);refine ob (ze (by first|omega|(dsimp only;omega))) ?_
    (conv=>whnf)
    rw[←hnx] at hN7
    have hl7:(zZ (S.used.take (j+1))).length=(zZ (S.used.take j)).length+1:=by rw[hnx];simp
    rw[←hl7] at hN7
    refine⟨⟨j+1,M7,(a7,c7)⟩,⟨by omega,hN7⟩,by dsimp only;omega,?_⟩
    dsimp only
    rw[hl7]
    exact zS
   ·have h1:¬0<S.used.getD j 0:=by simpa using g1
    rw[if_neg h1,List.append_nil] at hnx
    (conv=>whnf);refine ob (ze (by first|omega|(dsimp only;omega))) ?_
    (conv=>whnf)
    refine⟨⟨j+1,M6,(a6,c6)⟩,⟨by omega,by rw[hnx];exact hN6⟩,by dsimp only;omega,?_⟩
    dsimp only
    rw[hnx]
    exact zS
  ·(conv=>whnf)
   refine(zqd h4.at'.set (by have:=h.room;omega) hes).mono ?_
   rintro v M5 ⟨ma,mn,mc,mk,rfl,hMk0,hp,hs⟩
   have h5:=h4.to hMk0.row.le
   have hHe:=hH0.up hMk0.row.le
   have hMk:=hMk0.mono' hH0.row.le
   have hleM:=hHe.row.le
   refine zT (hleM) ?_
   refine zR ?_
   have hrow:=zlT h5.at' hI
   refine on hrow ?_
   (conv=>whnf)
   refine zbe (σ:=Nat×Mem×(Option Addr×Nat)) [29] (fun x=>[(29,.int .i64 x.1)]) (fun x=>[.live T.zaJ [.v (.int .i64 0),.v (.int .i64 0),.v (.slice none 0 0),.v (.slice none 0 0),.v (.slice none 0 0)],.live T.zaJ [.v (.int .i64 S.self),.v (.int .i64 S.epoch),.v (.slice x.2.2.1 (zZ (S.used.take x.1)).length x.2.2.2),.v (.slice ha hn hc),.v (.slice ma mn mc)]]) (fun x=>x.2.1)
    (fun|⟨j,M6,(a6,c6)⟩=>j≤64∧NewSl M5 T.zeJ 2 a6 (zZ (S.used.take j)).length c6 ((zZ (S.used.take j)).flatMap zg6) M6) (fun x=>64 - x.1) ⟨0,M5,(none,0)⟩ ⟨by omega,NewSl.none M5 _ _⟩ zS ?_
   rintro ⟨j,M6,⟨a6,c6⟩⟩ ⟨hj,hN6⟩
   have hul:(zZ (S.used.take j)).length≤(S.used.take j).length:=zd9 _ 0
   have huj:(S.used.take j).length≤64:=by simp;omega
   (conv=>whnf);refine brn (fun g=>?_) (fun g=>?_)
   rotate_left
   ·have hge:64≤j:=by have:=Zd1 g;dsimp only at this;omega
    rw[List.take_of_length_le (by rw[hI.ulen];omega)] at hN6 ⊢
    refine zR ?_
    have hl1:=hHe.len
    have hl2:=hMk.len
    subst hl1
    subst hl2
    exact⟨a6,c6,ha,hc,ms,ma,mc,mk,rfl,Mem.le_trans hleM hN6.le,hN6.mono hleM,hHe.up hN6.le,hmsg,hMk.up hN6.le,hp,zkH h.invE hp hs⟩
   have hlt:j<64:=by have:=Zd0 g;dsimp only at this;omega
   have hnx:zZ (S.used.take (j+1))=zZ (S.used.take j)++(if 0<S.used.getD j 0 then [((j:Int),S.used.getD j 0)] else []):=by
    have:=zil S.used 0 j (by rw[hI.ulen];omega)
    rw[Nat.zero_add] at this
    exact this
   (conv=>whnf);refine ob (by first|omega|(dsimp only;omega)) ?_
   (conv=>whnf);refine on (zv1 (fun i=>S.used.getD i 0) hlt) ?_
   (conv=>whnf);refine brn (fun g1=>?_) (fun g1=>?_)
   ·have h1:0<S.used.getD j 0:=by simpa using g1
    rw[if_pos h1] at hnx
    refine zR ?_
    refine zlA M5 hN6 ((j:Int),S.used.getD j 0) rfl (by first|omega|(dsimp only;omega)) (by simp[maxLen];omega) (by simp[Value.oneCell']) fun a7 c7 M7 hN7 _=>?_
    (conv=>whnf);refine ob (ze (by first|omega|(dsimp only;omega))) ?_
    (conv=>whnf)
    rw[←hnx] at hN7
    have hl7:(zZ (S.used.take (j+1))).length=(zZ (S.used.take j)).length+1:=by rw[hnx];simp
    rw[←hl7] at hN7
    refine⟨⟨j+1,M7,(a7,c7)⟩,⟨by omega,hN7⟩,by dsimp only;omega,?_⟩
    dsimp only
    rw[hl7]
    exact zS
   ·have h1:¬0<S.used.getD j 0:=by simpa using g1
    rw[if_neg h1,List.append_nil] at hnx
    (conv=>whnf);refine ob (ze (by first|omega|(dsimp only;omega))) ?_
    (conv=>whnf)
    refine⟨⟨j+1,M6,(a6,c6)⟩,⟨by omega,by rw[hnx];exact hN6⟩,by dsimp only;omega,?_⟩
    dsimp only
    rw[hnx]
    exact zS
 ·(conv=>whnf)
  refine(zxC h hcm).mono ?_
  rintro v M4 ⟨ha,hn,hc,ms,rfl,hH0,hmsg⟩
  have h4:=h.to hH0.row.le
  refine zT (hH0.row.le) ?_
  repeat' ((conv=>whnf);first|refine⟨?_,True.intro⟩|refine⟨?_,?_,True.intro⟩|refine brn_t rfl ?_|refine brn_f rfl ?_|refine ob rfl ?_|refine ob (by decide) ?_|refine grow_same (Mem.le_refl _) ?_|refine ob (Mem.le_refl _) ?_|refine⟨_,Mem.le_refl _,?_⟩|fail)
  (conv=>whnf)
  refine(zqd h4.at'.set (by have:=h.room;omega) hes).mono ?_
  rintro v M5 ⟨ma,mn,mc,mk,rfl,hMk0,hp,hs⟩
  have h5:=h4.to hMk0.row.le
  have hHe:=hH0.up hMk0.row.le
  have hMk:=hMk0.mono' hH0.row.le
  have hleM:=hHe.row.le
  refine zT (hleM) ?_
  refine zR ?_
  have hrow:=zlT h5.at' hI
  refine on hrow ?_
  (conv=>whnf)
  refine zbe (σ:=Nat×Mem×(Option Addr×Nat)) [29] (fun x=>[(29,.int .i64 x.1)]) (fun x=>[.live T.zaJ [.v (.int .i64 0),.v (.int .i64 0),.v (.slice none 0 0),.v (.slice none 0 0),.v (.slice none 0 0)],.live T.zaJ [.v (.int .i64 S.self),.v (.int .i64 S.epoch),.v (.slice x.2.2.1 (zZ (S.used.take x.1)).length x.2.2.2),.v (.slice ha hn hc),.v (.slice ma mn mc)]]) (fun x=>x.2.1)
   (fun|⟨j,M6,(a6,c6)⟩=>j≤64∧NewSl M5 T.zeJ 2 a6 (zZ (S.used.take j)).length c6 ((zZ (S.used.take j)).flatMap zg6) M6) (fun x=>64 - x.1) ⟨0,M5,(none,0)⟩ ⟨by omega,NewSl.none M5 _ _⟩ zS ?_
  rintro ⟨j,M6,⟨a6,c6⟩⟩ ⟨hj,hN6⟩
  have hul:(zZ (S.used.take j)).length≤(S.used.take j).length:=zd9 _ 0
  have huj:(S.used.take j).length≤64:=by simp;omega
  (conv=>whnf);refine brn (fun g=>?_) (fun g=>?_)
  rotate_left
  ·have hge:64≤j:=by have:=Zd1 g;dsimp only at this;omega
   rw[List.take_of_length_le (by rw[hI.ulen];omega)] at hN6 ⊢
   refine zR ?_
   have hl1:=hHe.len
   have hl2:=hMk.len
   subst hl1
   subst hl2
   exact⟨a6,c6,ha,hc,ms,ma,mc,mk,rfl,Mem.le_trans hleM hN6.le,hN6.mono hleM,hHe.up hN6.le,hmsg,hMk.up hN6.le,hp,zkH h.invE hp hs⟩
  have hlt:j<64:=by have:=Zd0 g;dsimp only at this;omega
  have hnx:zZ (S.used.take (j+1))=zZ (S.used.take j)++(if 0<S.used.getD j 0 then [((j:Int),S.used.getD j 0)] else []):=by
   have:=zil S.used 0 j (by rw[hI.ulen];omega)
   rw[Nat.zero_add] at this
   exact this
  (conv=>whnf);refine ob (by first|omega|(dsimp only;omega)) ?_
  (conv=>whnf);refine on (zv1 (fun i=>S.used.getD i 0) hlt) ?_
  (conv=>whnf);refine brn (fun g1=>?_) (fun g1=>?_)
  ·have h1:0<S.used.getD j 0:=by simpa using g1
   rw[if_pos h1] at hnx
   refine zR ?_
   refine zlA M5 hN6 ((j:Int),S.used.getD j 0) rfl (by first|omega|(dsimp only;omega)) (by simp[maxLen];omega) (by simp[Value.oneCell']) fun a7 c7 M7 hN7 _=>?_
   (conv=>whnf);refine ob (ze (by first|omega|(dsimp only;omega))) ?_
   (conv=>whnf)
   rw[←hnx] at hN7
   have hl7:(zZ (S.used.take (j+1))).length=(zZ (S.used.take j)).length+1:=by rw[hnx];simp
   rw[←hl7] at hN7
   refine⟨⟨j+1,M7,(a7,c7)⟩,⟨by omega,hN7⟩,by dsimp only;omega,?_⟩
   dsimp only
   rw[hl7]
   exact zS
  ·have h1:¬0<S.used.getD j 0:=by simpa using g1
   rw[if_neg h1,List.append_nil] at hnx
   (conv=>whnf);refine ob (ze (by first|omega|(dsimp only;omega))) ?_
   (conv=>whnf)
   refine⟨⟨j+1,M6,(a6,c6)⟩,⟨by omega,by rw[hnx];exact hN6⟩,by dsimp only;omega,?_⟩
   dsimp only
   rw[hnx]
   exact zS
end
section
variable {M:Mem}
structure StatR (M:Mem) (ua:Option Addr) (un:Nat) (ha:Option Addr) (hn:Nat) (ma:Option Addr) (mn:Nat) (ul:List (Int×Int)) (ms:List MX) (mk:List MkC):Prop where
 used:SrcOk M 2 ua un (ul.flatMap zg6)
 held:MsgsR M ha hn ms
 seen:MarksR M ma mn mk
 few:zBn mk
 short:un≤4194000∧hn≤4194000∧mn≤4194000
theorem StatR.le {ua:Option Addr} {un:Nat} {ha:Option Addr} {hn:Nat} {ma:Option Addr} {mn:Nat} {ul:List (Int×Int)} {ms:List MX} {mk:List MkC} (h:StatR M ua un ha hn ma mn ul ms mk) {M':Mem} (hle:M.le M'):StatR M' ua un ha hn ma mn ul ms mk:=
 ⟨h.used.le hle,h.held.le hle,h.seen.le hle,h.few,h.short⟩
theorem zxa {a b:Option Addr} {n m c d:Nat} {l r:List MX} (ha:MsgsR M a n l) (hb:MsgsR M b m r) (hn:n≤4194304) (hm:m≤4194304) :
  CallsM Tryz.prog F.zgo [.slice a n c,.slice b m d] M fun v M'=>v = .bool (decide (l.map MX.msg=r.map MX.msg))∧M=M':=by
 refine zpm (by simp) ?_
 have hl:=ha.len
 have hr:=hb.len
 (conv=>whnf);refine brn (fun h=>?_) (fun h=>?_)
 ·refine zR ?_
  have h':¬(n:Int)=m:=by simpa using h
  refine⟨?_,rfl⟩
  have:¬l.map MX.msg=r.map MX.msg:=fun e=>h' (by have:=congrArg List.length e;simp at this;omega)
  rw[decide_eq_false this]
 have hnm:n=m:=by have h':(n:Int)=m:=by simpa using h
                  omega
 subst hnm
 (conv=>whnf)
 refine zeo [5] (fun (i:Nat)=>[(5,.int .i64 i)]) (fun i=>i≤n∧(l.map MX.msg).take i=(r.map MX.msg).take i) (fun i=>n - i) 0 ⟨by omega,by simp⟩ zS ?_
 intro i ⟨hi,hsame⟩
 (conv=>whnf);refine brn (fun g=>?_) (fun g=>?_)
 ·have hlt:i<n:=by have:=Zd0 g;omega
  have hx:l[i]? = some (l[i]'(by omega)):=List.getElem?_eq_getElem (by omega)
  have hy:r[i]? = some (r[i]'(by omega)):=List.getElem?_eq_getElem (by omega)
  generalize l[i]'(by omega)=x at *
  generalize r[i]'(by omega)=y at *
  obtain⟨b1,o1,ha1,hc1⟩:=ha.row.fparts zg5 (by decide) hx
  obtain⟨b2,o2,ha2,hc2⟩:=hb.row.fparts zg5 (by decide) hy
  have hxm:=ha.data x (List.mem_of_getElem? hx)
  have hym:=hb.data y (List.mem_of_getElem? hy)
  (conv=>whnf);refine ob (by first|omega|(dsimp only;omega)) ?_
  (conv=>whnf);refine atp ha1 ?_
  (conv=>whnf);refine on (hc1 0 5 (by decide)) ?_
  (conv=>whnf);refine ob (by first|omega|(dsimp only;omega)) ?_
  (conv=>whnf);refine atp ha2 ?_
  (conv=>whnf);refine on (hc2 0 5 (by decide)) ?_
  refine zR ?_
  refine(zw9 _ _ _ _ _ _ _ _ _ _ _ _ _ _ _ _ _ hxm hym).mono ?_
  rintro v _ ⟨rfl,rfl⟩
  refine zU ?_
  (conv=>whnf);refine brn (fun g1=>?_) (fun g1=>?_)
  ·refine zR ?_
   refine⟨?_,rfl⟩
   have:¬l.map MX.msg=r.map MX.msg:=fun e=>by
    have:=congrArg (·[i]?) e
    simp[hx,hy] at this
    obtain⟨e1,e2⟩:=this
    rw[e1,e2] at g1
    simp at g1
   rw[decide_eq_false this]
  ·(conv=>whnf);refine ob (ze (by first|omega|(dsimp only;omega))) ?_
   (conv=>whnf)
   refine⟨i+1,⟨by omega,?_⟩,by omega,zS⟩
   rw[List.take_add_one,List.take_add_one,hsame]
   obtain⟨⟨x1,x2,x3,x4⟩,xa,xc,xp⟩:=x
   obtain⟨⟨y1,y2,y3,y4⟩,ya,yc,yp⟩:=y
   simp at g1
   obtain⟨⟨rfl,rfl,rfl,rfl⟩,rfl⟩:=g1
   simp[hx,hy]
 ·have hge:i=n:=by have:=Zd1 g;omega
  subst hge
  refine zR ?_
  refine⟨?_,rfl⟩
  rw[List.take_of_length_le (by simp;omega),List.take_of_length_le (by simp;omega)] at hsame
  rw[decide_eq_true hsame]
@[reducible] def zgJ (self epoch:Int) (ua:Option Addr) (un uc:Nat) (ha:Option Addr) (hn hc:Nat) (ma:Option Addr) (mn mc:Nat):Value := .agg #[.int .i64 self,.int .i64 epoch,.slice ua un uc,.slice ha hn hc,.slice ma mn mc]
theorem znB (self epoch:Int) {ua ua' ha ha' ma ma':Option Addr} {un un' hn hn' mn mn':Nat} {ul:List (Int×Int)} {ms ms':List MX} {mk mk':List MkC} (h:StatR M ua un ha hn ma mn ul ms mk) (h':StatR M ua' un' ha' hn' ma' mn' ul ms' mk') (hm:ms.map MX.msg=ms'.map MX.msg) (hk:mk.map MkC.mk'=mk'.map MkC.mk') (uc uc' hc hc' mc mc':Nat) :
  CallsM Tryz.prog F.zen [zgJ self epoch ua un uc ha hn hc ma mn mc,zgJ self epoch ua' un' uc' ha' hn' hc' ma' mn' mc'] M fun v M'=>v = .bool true∧M=M':=by
 refine zmV (by simp) ?_
 have hu:=h.used.flen zdK (by decide)
 have hu':=h'.used.flen zdK (by decide)
 have hun:un=un':=by omega
 subst hun
 have hs:=h.short
 have hs':=h'.short
 (conv=>whnf);refine brn_f (by simp) ?_
 (conv=>whnf);refine brn_f (by simp) ?_
 (conv=>whnf);refine brn_f (by simp) ?_
 (conv=>whnf)
 refine zeo [5] (fun (i:Nat)=>[(5,.int .i64 i)]) (fun i=>i≤un) (fun i=>un - i) 0 (by omega) zS ?_
 intro i hi
 (conv=>whnf);refine brn (fun g=>?_) (fun g=>?_)
 ·have hlt:i<un:=by have:=Zd0 g;omega
  have hx:ul[i]? = some (ul[i]'(by omega)):=List.getElem?_eq_getElem (by omega)
  obtain⟨b1,o1,ha1,hc1⟩:=h.used.fparts zdK (by decide) hx
  obtain⟨b2,o2,ha2,hc2⟩:=h'.used.fparts zdK (by decide) hx
  generalize ul[i]'(by omega)=x at *
  (conv=>whnf);refine ob (by first|omega|(dsimp only;omega)) ?_
  (conv=>whnf);refine atp ha1 ?_
  (conv=>whnf);refine on (hc1 0 2 (by decide)) ?_
  (conv=>whnf);refine ob (by first|omega|(dsimp only;omega)) ?_
  (conv=>whnf);refine atp ha2 ?_
  (conv=>whnf);refine on (hc2 0 2 (by decide)) ?_
  (conv=>whnf);refine brn_f (by simp) ?_
  (conv=>whnf);refine ob (ze (by first|omega|(dsimp only;omega))) ?_
  (conv=>whnf)
  exact⟨i+1,by omega,by omega,zS⟩
 refine zR ?_
 refine(zxa h.held h'.held (by omega) (by omega)).mono ?_
 rintro v _ ⟨rfl,rfl⟩
 rw[decide_eq_true hm]
 (conv=>whnf);refine brn_t rfl ?_
 refine zR ?_
 refine(zCJ h.seen h'.seen h.few (by omega) (by omega)).mono ?_
 rintro v _ ⟨rfl,rfl⟩
 rw[decide_eq_true hk]
 refine zR ?_
 exact⟨rfl,rfl⟩
end
section
variable {M:Mem}
def Chain:Int→List Int→Prop
 | _,[]=>True
 | last,n::r=>last<n∧n≤65535∧Chain n r
def zjg (m:Mk):Prop:=(0≤m.o∧m.o<64∧1≤m.e∧m.e≤65535∧0≤m.up∧m.up≤65535)∧(0<m.up∨0<m.more.length)∧Chain (m.up+1) m.more
theorem Chain.can:∀ {l:List Int} {last:Int},Chain last l→l.Pairwise (· < ·)∧∀ c∈l,last<c∧c≤65535
 | [],_,_=>⟨.nil,by simp⟩
 | x::r,last,⟨h1,h2,h3⟩=>by
  obtain⟨h4,h5⟩:=Chain.can h3
  refine⟨List.pairwise_cons.2 ⟨fun y hy=>(h5 y hy).1,h4⟩,fun c hc=>?_⟩
  rcases List.mem_cons.1 hc with rfl|hc
  ·exact⟨h1,h2⟩
  ·have:=h5 c hc;omega
theorem zBx {m:MkC} (hs:SrcOk M 1 m.a m.more.length (m.more.map zaj)) (hn:m.more.length≤4194304) :
  CallsM Tryz.prog F.ziM [.agg (zkG m).toArray] M fun v M'=>∃ r,v = .bool r∧(r=true↔zjg m.mk')∧M=M':=by
 refine zuh (by simp) ?_
 have no:¬zjg m.mk'→(false=true↔zjg m.mk'):=fun h=>⟨fun h=>(by cases h),fun h'=>absurd h' h⟩
 (conv=>whnf);refine brn (fun g=>?_) (fun g=>?_)
 ·refine zR ?_
  refine⟨false,rfl,no fun hr=>?_,rfl⟩
  have g':=Zd0 g
  have h1:=hr.1
  simp only[MkC.mk'] at h1
  omega
 replace g:=Zd1 g
 (conv=>whnf);refine brn (fun g=>?_) (fun g=>?_)
 ·refine zR ?_
  refine⟨false,rfl,no fun hr=>?_,rfl⟩
  have g':=Zd0 g
  have h1:=hr.1
  simp only[MkC.mk'] at h1
  omega
 replace g:=Zd1 g
 (conv=>whnf);refine brn (fun g=>?_) (fun g=>?_)
 ·refine zR ?_
  refine⟨false,rfl,no fun hr=>?_,rfl⟩
  have g':=Zd0 g
  have h1:=hr.1
  simp only[MkC.mk'] at h1
  omega
 replace g:=Zd1 g
 (conv=>whnf);refine brn (fun g=>?_) (fun g=>?_)
 ·refine zR ?_
  refine⟨false,rfl,no fun hr=>?_,rfl⟩
  have g':=Zd0 g
  have h1:=hr.1
  simp only[MkC.mk'] at h1
  omega
 replace g:=Zd1 g
 (conv=>whnf);refine brn (fun g=>?_) (fun g=>?_)
 ·refine zR ?_
  refine⟨false,rfl,no fun hr=>?_,rfl⟩
  have g':=Zd0 g
  have h1:=hr.1
  simp only[MkC.mk'] at h1
  omega
 replace g:=Zd1 g
 (conv=>whnf);refine brn (fun g=>?_) (fun g=>?_)
 ·refine zR ?_
  refine⟨false,rfl,no fun hr=>?_,rfl⟩
  have g':=Zd0 g
  have h1:=hr.1
  simp only[MkC.mk'] at h1
  omega
 replace g:=Zd1 g
 have hb:0≤m.o∧m.o<64∧1≤m.e∧m.e≤65535∧0≤m.up∧m.up≤65535:=by omega
 (conv=>whnf);refine ob (ze (by omega)) ?_
 (conv=>whnf)
 refine zeo [40,3] (fun (y:Nat×Int)=>[(40,.int .i64 y.1),(3,.int .i64 y.2)]) (fun y=>y.1≤m.more.length∧(Chain (m.up+1) m.more↔Chain y.2 (m.more.drop y.1))) (fun y=>m.more.length - y.1) ⟨0,m.up+1⟩ ⟨by omega,by simp⟩ zS ?_
 rintro ⟨i,last⟩ ⟨hi,hch⟩
 (conv=>whnf);refine brn (fun g=>?_) (fun g=>?_)
 ·have hlt:i<m.more.length:=by have:=Zd0 g;dsimp only at this;omega
  obtain⟨hkx,bx,ox,hax,hrx⟩:=hs.at (i:=i) hlt
  dsimp only at hch
  rw[List.drop_eq_getElem_cons hlt] at hch
  generalize m.more[i]=x at *
  (conv=>whnf);refine ob (by first|omega|(dsimp only;omega)) ?_
  (conv=>whnf);refine atp hax ?_
  (conv=>whnf);refine on hrx ?_
  (conv=>whnf);refine brn (fun g1=>?_) (fun g1=>?_)
  ·refine zR ?_
   refine⟨false,rfl,no fun hr=>?_,rfl⟩
   have:=(hch.1 hr.2.2).1
   have:=Zd0 g1
   omega
  (conv=>whnf);refine brn (fun g2=>?_) (fun g2=>?_)
  ·refine zR ?_
   refine⟨false,rfl,no fun hr=>?_,rfl⟩
   have:=(hch.1 hr.2.2).2.1
   have:=Zd0 g2
   omega
  (conv=>whnf);refine ob (ze (by first|omega|(dsimp only;omega))) ?_
  (conv=>whnf)
  refine⟨⟨i+1,x⟩,⟨by omega,hch.trans ⟨fun h=>h.2.2,fun h=>⟨?_,?_,h⟩⟩⟩,by dsimp only;omega,zS⟩
  ·have:=Zd1 g1;omega
  ·have:=Zd1 g2;omega
 have hge:i=m.more.length:=by have:=Zd1 g;dsimp only at this;omega
 subst hge
 have hc:Chain (m.up+1) m.more:=hch.2 (by rw[List.drop_length];exact True.intro)
 (conv=>whnf);refine brn (fun g=>?_) (fun g=>?_)
 ·refine zR ?_
  exact⟨true,rfl,⟨fun _=>⟨hb,.inl (Zd0 g),hc⟩,fun _=>rfl⟩,rfl⟩
 ·refine zR ?_
  refine⟨_,rfl,⟨fun h=>⟨hb,.inr ?_,hc⟩,fun h=>?_⟩,rfl⟩
  ·have h3:=Zd0 h
   show 0<m.more.length
   omega
  ·have h2:=h.2.1
   have:=Zd1 g
   simp only[MkC.mk'] at h2
   exact decide_eq_true (by omega)
end
section
variable {M:Mem}
def FormP (l:List Mk):Prop:=(∀ m∈l,zjg m)∧l.Pairwise zbO
theorem FormP.snoc {l:List Mk} {x:Mk} (h:FormP l) (hr:zjg x) (hl:∀ y,l.getLast? = some y→zbO y x):FormP (l++[x]):=by
 refine⟨fun m hm=>?_,?_⟩
 ·rcases List.mem_append.1 hm with h1|h1
  ·exact h.1 m h1
  ·simp only[List.mem_singleton] at h1
   subst h1;exact hr
 ·rw[List.pairwise_append]
  refine⟨h.2,by simp,fun z hz y hy=>?_⟩
  simp only[List.mem_singleton] at hy
  subst hy
  by_cases hne:l=[]
  ·subst hne;cases hz
  ·have hl1:=hl (l.getLast hne) (List.getLast?_eq_some_getLast hne)
   rw[←List.dropLast_concat_getLast hne] at hz
   have hp:=h.2
   rw[←List.dropLast_concat_getLast hne,List.pairwise_append] at hp
   rcases List.mem_append.1 hz with h2|h2
   ·have:=hp.2.2 z h2 (l.getLast hne) (by simp)
    unfold zbO at this hl1 ⊢; omega
   ·simp only[List.mem_singleton] at h2
    subst h2;exact hl1
theorem FormP.lt {l:List Mk} (h:FormP l) {i:Nat} {x y:Mk} (hx:l[i]? = some x) (hy:l[i+1]? = some y):zbO x y:=by
 obtain⟨h1,rfl⟩:=List.getElem?_eq_some_iff.1 hx
 obtain⟨h2,rfl⟩:=List.getElem?_eq_some_iff.1 hy
 exact List.pairwise_iff_getElem.1 h.2 i (i+1) h1 h2 (by omega)
def zcq (l:List Mk):Nat:=(l.map fun m=>m.more.length).sum
def znC (gaps:Int) (l:List Mk) (k:Int):Prop:=
 ((gaps<0∨256<gaps)∧k=1)∨(¬(gaps<0∨256<gaps)∧¬FormP l∧k=2)∨(¬(gaps<0∨256<gaps)∧FormP l∧gaps<zcq l∧k=6)∨(¬(gaps<0∨256<gaps)∧FormP l∧(zcq l:Int)≤gaps∧k=0)
end
end Go.Proofs.YtpdkkbpkplhdpaaGreat
