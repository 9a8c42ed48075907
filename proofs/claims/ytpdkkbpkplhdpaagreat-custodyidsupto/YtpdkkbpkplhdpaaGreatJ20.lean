/- Part of this proof;laid by program. -/
import Derived.Test.YtpdkkbpkplhdpaaGreatJ19
import Derived.Test.YtpdkkbpkplhdpaaGreatJ17
import Derived.Test.YtpdkkbpkplhdpaaGreatJ18
set_option linter.unusedVariables false
set_option linter.unusedSimpArgs false
namespace Go.Proofs.YtpdkkbpkplhdpaaGreat
open Go Go.Vm
attribute [local irreducible] Brn Ob Grow CallsM inR zaD zaC Mem.row Mem.cells Mem.setCells Mem.upd Go.Vm.Own zaG za7 za9 zaR New SrcOk subA NewSl Mem.textAt Mem.mapAt Mem.iterAt zaB zam Wr NewEls Elems
set_option maxRecDepth 10000
section
variable {M M0:Mem} {p b sp sb:Nat} {S:StR} {came:Int} {xs:HsT} {es:EsT}
@[reducible] def zyL (c:Nat→Int):List Value:=[.int .i64 (c 0),.int .i64 (c 1),.int .i64 (c 2),.int .i64 (c 3),.int .i64 (c 4),.int .i64 (c 5),.int .i64 (c 6),.int .i64 (c 7),.int .i64 (c 8),.int .i64 (c 9),.int .i64 (c 10),.int .i64 (c 11),.int .i64 (c 12),.int .i64 (c 13),.int .i64 (c 14),.int .i64 (c 15),.int .i64 (c 16),.int .i64 (c 17),.int .i64 (c 18),.int .i64 (c 19),.int .i64 (c 20),.int .i64 (c 21),.int .i64 (c 22),.int .i64 (c 23),.int .i64 (c 24),.int .i64 (c 25),.int .i64 (c 26),.int .i64 (c 27),.int .i64 (c 28),.int .i64 (c 29),.int .i64 (c 30),.int .i64 (c 31),.int .i64 (c 32),.int .i64 (c 33),.int .i64 (c 34),.int .i64 (c 35),.int .i64 (c 36),.int .i64 (c 37),.int .i64 (c 38),.int .i64 (c 39),.int .i64 (c 40),.int .i64 (c 41),.int .i64 (c 42),.int .i64 (c 43),.int .i64 (c 44),.int .i64 (c 45),.int .i64 (c 46),.int .i64 (c 47),.int .i64 (c 48),.int .i64 (c 49),.int .i64 (c 50),.int .i64 (c 51),.int .i64 (c 52),.int .i64 (c 53),.int .i64 (c 54),.int .i64 (c 55),.int .i64 (c 56),.int .i64 (c 57),.int .i64 (c 58),.int .i64 (c 59),.int .i64 (c 60),.int .i64 (c 61),.int .i64 (c 62),.int .i64 (c 63)]
@[reducible] def zyM (c:Nat→Int):List SC:=[.v (.int .i64 (c 0)),.v (.int .i64 (c 1)),.v (.int .i64 (c 2)),.v (.int .i64 (c 3)),.v (.int .i64 (c 4)),.v (.int .i64 (c 5)),.v (.int .i64 (c 6)),.v (.int .i64 (c 7)),.v (.int .i64 (c 8)),.v (.int .i64 (c 9)),.v (.int .i64 (c 10)),.v (.int .i64 (c 11)),.v (.int .i64 (c 12)),.v (.int .i64 (c 13)),.v (.int .i64 (c 14)),.v (.int .i64 (c 15)),.v (.int .i64 (c 16)),.v (.int .i64 (c 17)),.v (.int .i64 (c 18)),.v (.int .i64 (c 19)),.v (.int .i64 (c 20)),.v (.int .i64 (c 21)),.v (.int .i64 (c 22)),.v (.int .i64 (c 23)),.v (.int .i64 (c 24)),.v (.int .i64 (c 25)),.v (.int .i64 (c 26)),.v (.int .i64 (c 27)),.v (.int .i64 (c 28)),.v (.int .i64 (c 29)),.v (.int .i64 (c 30)),.v (.int .i64 (c 31)),.v (.int .i64 (c 32)),.v (.int .i64 (c 33)),.v (.int .i64 (c 34)),.v (.int .i64 (c 35)),.v (.int .i64 (c 36)),.v (.int .i64 (c 37)),.v (.int .i64 (c 38)),.v (.int .i64 (c 39)),.v (.int .i64 (c 40)),.v (.int .i64 (c 41)),.v (.int .i64 (c 42)),.v (.int .i64 (c 43)),.v (.int .i64 (c 44)),.v (.int .i64 (c 45)),.v (.int .i64 (c 46)),.v (.int .i64 (c 47)),.v (.int .i64 (c 48)),.v (.int .i64 (c 49)),.v (.int .i64 (c 50)),.v (.int .i64 (c 51)),.v (.int .i64 (c 52)),.v (.int .i64 (c 53)),.v (.int .i64 (c 54)),.v (.int .i64 (c 55)),.v (.int .i64 (c 56)),.v (.int .i64 (c 57)),.v (.int .i64 (c 58)),.v (.int .i64 (c 59)),.v (.int .i64 (c 60)),.v (.int .i64 (c 61)),.v (.int .i64 (c 62)),.v (.int .i64 (c 63))]
theorem zCx (c:Nat→Int):zyL c=(List.range 64).map (fun i=>Value.int .i64 (c i)):=rfl
theorem zCy (c:Nat→Int):zyM c=(List.range 64).map (fun i=>SC.v (.int .i64 (c i))):=rfl
theorem zvL (c:Nat→Int) {i:Nat} (hi:i<64):zjF (zyM c) (i*1) 1=some [.v (.int .i64 (c i))]:=by
 have hl:(zyM c).length=64:=rfl
 unfold zjF
 rw[if_pos (by rw[hl];omega),zCy]
 rw[List.drop_eq_getElem_cons (by simp;omega)]
 simp
theorem zz5 {u:List Int} (h:u.length=64):u.map zan=zyL (fun i=>u.getD i 0):=by
 rw[zCx]
 apply List.ext_getElem (by simp[h])
 intro i h1 h2
 simp only[List.getElem_map,List.getElem_range,zan]
 congr 1
 rw[List.getD_eq_getElem?_getD,List.getElem?_eq_getElem (by simpa using h1)];rfl
theorem zlP (hA:StAt M p b sp sb S came xs es) (hI:zdA S):M.row p 5 64=some (zyL (fun i=>S.used.getD i 0)):=by
 rw[hA.self.row (by rw[zcK hI.ulen];omega),←zz5 hI.ulen]
 congr 1
 unfold zH
 rw[List.append_assoc,List.drop_append]
 simp[hI.ulen]
theorem zik:∀ (u:List Int) (k j:Nat),j<u.length→zau k (u.take (j+1))=zau k (u.take j)++(if 0<u.getD j 0 then [(((k+j:Nat):Int),u.getD j 0)] else [])
 | [],_,_,h=>by simp at h
 | n::r,k,0,_=>by
  simp only[Nat.zero_add,List.take_succ_cons,List.take_zero,List.getD_cons_zero,Nat.add_zero]
  unfold zau
  split<;>simp[zau]
 | n::r,k,j+1,h=>by
  have ih:=zik r (k+1) j (by simpa using h)
  have e1:∀ t,zau k (n::t)=if 0<n then ((k:Int),n)::zau (k+1) t else zau (k+1) t:=fun _=>rfl
  rw[List.take_succ_cons,List.take_succ_cons,e1,e1,ih,List.getD_cons_succ,show k+1+j=k+(j+1) by omega]
  split
  ·rw[List.cons_append]
  ·rfl
@[reducible] def zz6 (S:StR) (ua:Option Addr) (uc:Nat) (ha:Option Addr) (ms:List MX) (hc:Nat) (ma:Option Addr) (mk:List MkC) (mc:Nat):Value := .agg #[.int .i64 S.self,.int .i64 S.epoch,.slice ua (zad S.used).length uc,.slice ha ms.length hc,.slice ma mk.length mc]
def zBe (S:StR) (es:EsT) (M:Mem) (v:Value) (M':Mem):Prop:=∃ ua uc ha hc ms ma mc mk,v=zz6 S ua uc ha ms hc ma mk mc∧M.le M'∧NewSl M T.zeM 2 ua (zad S.used).length uc ((zad S.used).flatMap zg9) M'∧HeldAt M ha ms.length hc ms M'∧ms.map MX.msg=S.l ∧
 MarksAt M ma mk.length mc mk M'∧(mk.map MkC.mk').Perm (es.map zby)∧Canon (inE es) (mk.map MkC.mk')
theorem MarksAt.up {a:Option Addr} {n c:Nat} {l:List MkC} {M' M2:Mem} (h:MarksAt M0 a n c l M') (hle:M'.le M2):MarksAt M0 a n c l M2:=⟨h.row.up hle,fun m hm=>(h.more m hm).up hle⟩
theorem MarksAt.mono' {a:Option Addr} {n c:Nat} {l:List MkC} {M':Mem} (h:MarksAt M a n c l M') (hle:M0.le M):MarksAt M0 a n c l M':=⟨h.row.mono hle,fun m hm=>(h.more m hm).mono hle⟩
theorem zBf (h:FreshSt M0 M p b sp sb S came xs es) (hcm:came≤4611686018427387904) (hes:es.length≤4194000):CallsM Tryz.prog F.zcW [ptr p] M (zBe S es M):=by
 refine zlm (by simp) ?_
 have hI:=h.inv
 have hA0:=h.at'
 (conv=>whnf);refine brn_f rfl ?_
 repeat' ((conv=>whnf);first|refine⟨?_,True.intro⟩|refine⟨?_,?_,True.intro⟩|refine brn_t rfl ?_|refine brn_f rfl ?_|refine ob rfl ?_|refine ob (by decide) ?_|refine grow_same (Mem.le_refl _) ?_|refine ob (Mem.le_refl _) ?_|refine⟨_,Mem.le_refl _,?_⟩|fail)
 refine on (hA0.self.c1 rfl) ?_
 repeat' ((conv=>whnf);first|refine⟨?_,True.intro⟩|refine⟨?_,?_,True.intro⟩|refine brn_t rfl ?_|refine brn_f rfl ?_|refine ob rfl ?_|refine ob (by decide) ?_|refine grow_same (Mem.le_refl _) ?_|refine ob (Mem.le_refl _) ?_|refine⟨_,Mem.le_refl _,?_⟩|fail)
 refine on (hA0.self.c1 rfl) ?_
 repeat' ((conv=>whnf);first|refine⟨?_,True.intro⟩|refine⟨?_,?_,True.intro⟩|refine brn_t rfl ?_|refine brn_f rfl ?_|refine ob rfl ?_|refine ob (by decide) ?_|refine grow_same (Mem.le_refl _) ?_|refine ob (Mem.le_refl _) ?_|refine⟨_,Mem.le_refl _,?_⟩|fail)
 refine on (hA0.self.c1 (zlM hI.ulen ..)) ?_
 repeat' ((conv=>whnf);first|refine⟨?_,True.intro⟩|refine⟨?_,?_,True.intro⟩|refine brn_t rfl ?_|refine brn_f rfl ?_|refine ob rfl ?_|refine ob (by decide) ?_|refine grow_same (Mem.le_refl _) ?_|refine ob (Mem.le_refl _) ?_|refine⟨_,Mem.le_refl _,?_⟩|fail)
 ·(conv=>whnf)
  refine(zxj h hcm).mono ?_
  rintro v M4 ⟨ha,hn,hc,ms,rfl,hH0,hmsg⟩
  have h4:=h.to hH0.row.le
  refine zT (hH0.row.le) ?_
  repeat' ((conv=>whnf);first|refine⟨?_,True.intro⟩|refine⟨?_,?_,True.intro⟩|refine brn_t rfl ?_|refine brn_f rfl ?_|refine ob rfl ?_|refine ob (by decide) ?_|refine grow_same (Mem.le_refl _) ?_|refine ob (Mem.le_refl _) ?_|refine⟨_,Mem.le_refl _,?_⟩|fail)
  ·(conv=>whnf)
   refine(zp5 h4.at'.set (by have:=h.room;omega) hes).mono ?_
   rintro v M5 ⟨ma,mn,mc,mk,rfl,hMk0,hp,hs⟩
   have h5:=h4.to hMk0.row.le
   have hHe:=hH0.up hMk0.row.le
   have hMk:=hMk0.mono' hH0.row.le
   have hleM:=hHe.row.le
   refine zT (hleM) ?_
   refine zR ?_
   have hrow:=zlP h5.at' hI
   refine on hrow ?_
   (conv=>whnf)
   refine zbh (σ:=Nat×Mem×(Option Addr×Nat)) [29] (fun x=>[(29,.int .i64 x.1)]) (fun x=>[.live T.zaL [.v (.int .i64 0),.v (.int .i64 0),.v (.slice none 0 0),.v (.slice none 0 0),.v (.slice none 0 0)],.live T.zaL [.v (.int .i64 S.self),.v (.int .i64 S.epoch),.v (.slice x.2.2.1 (zad (S.used.take x.1)).length x.2.2.2),.v (.slice ha hn hc),.v (.slice ma mn mc)]]) (fun x=>x.2.1)
    (fun|⟨j,M6,(a6,c6)⟩=>j≤64∧NewSl M5 T.zeM 2 a6 (zad (S.used.take j)).length c6 ((zad (S.used.take j)).flatMap zg9) M6) (fun x=>64 - x.1) ⟨0,M5,(none,0)⟩ ⟨by omega,NewSl.none M5 _ _⟩ zS ?_
   rintro ⟨j,M6,⟨a6,c6⟩⟩ ⟨hj,hN6⟩
   have hul:(zad (S.used.take j)).length≤(S.used.take j).length:=zeg _ 0
   have huj:(S.used.take j).length≤64:=by simp;omega
   (conv=>whnf);refine brn (fun g=>?_) (fun g=>?_)
   rotate_left
   ·have hge:64≤j:=by have:=Zd1 g;dsimp only at this;omega
    rw[List.take_of_length_le (by rw[hI.ulen];omega)] at hN6 ⊢
    refine zR ?_
    have hl1:=hHe.len
    have hl2:=hMk.len
    subst hl1
    subst hl2
    exact⟨a6,c6,ha,hc,ms,ma,mc,mk,rfl,Mem.le_trans hleM hN6.le,hN6.mono hleM,hHe.up hN6.le,hmsg,hMk.up hN6.le,hp,zkB h.invE hp hs⟩
   have hlt:j<64:=by have:=Zd0 g;dsimp only at this;omega
   have hnx:zad (S.used.take (j+1))=zad (S.used.take j)++(if 0<S.used.getD j 0 then [((j:Int),S.used.getD j 0)] else []):=by
    have:=zik S.used 0 j (by rw[hI.ulen];omega)
    rw[Nat.zero_add] at this
    exact this
   (conv=>whnf);refine ob (by first|omega|(dsimp only;omega)) ?_
   (conv=>whnf);refine on (zvL (fun i=>S.used.getD i 0) hlt) ?_
   (conv=>whnf);refine brn (fun g1=>?_) (fun g1=>?_)
   ·have h1:0<S.used.getD j 0:=by simpa using g1
    rw[if_pos h1] at hnx
    refine zR ?_
    refine zlu M5 hN6 ((j:Int),S.used.getD j 0) rfl (by first|omega|(dsimp only;omega)) (by simp[maxLen];omega) (by simp[Value.oneCell']) fun a7 c7 M7 hN7 _=>?_
    (conv=>whnf);refine ob (ze (by first|omega|(dsimp only;omega))) ?_
    (conv=>whnf)
    rw[←hnx] at hN7
    have hl7:(zad (S.used.take (j+1))).length=(zad (S.used.take j)).length+1:=by rw[hnx];simp
    rw[←hl7] at hN7
    refine⟨⟨j+1,M7,(a7,c7)⟩,⟨by omega,hN7⟩,by dsimp only;omega,?_⟩
    dsimp only
    rw[hl7]
    exact zS
   ·have h1:¬0<S.used.getD j 0:=by simpa using g1
    rw[if_neg h1,List.append_nil] at hnx
    (conv=>whnf);refine ob (ze (by first|omega|(dsimp only;omega))) ?_
    (conv=>whnf)
    refine⟨⟨j+1,M6,(a6,c6)⟩,⟨by omega,by rw[hnx];exact hN6⟩,by dsimp only;omega,?_⟩
    dsimp only
    rw[hnx]
    exact zS
  ·(conv=>whnf)
   refine(zp5 h4.at'.set (by have:=h.room;omega) hes).mono ?_
   rintro v M5 ⟨ma,mn,mc,mk,rfl,hMk0,hp,hs⟩
   have h5:=h4.to hMk0.row.le
   have hHe:=hH0.up hMk0.row.le
   have hMk:=hMk0.mono' hH0.row.le
   have hleM:=hHe.row.le
   refine zT (hleM) ?_
   refine zR ?_
   have hrow:=zlP h5.at' hI
   refine on hrow ?_
   (conv=>whnf)
   refine zbh (σ:=Nat×Mem×(Option Addr×Nat)) [29] (fun x=>[(29,.int .i64 x.1)]) (fun x=>[.live T.zaL [.v (.int .i64 0),.v (.int .i64 0),.v (.slice none 0 0),.v (.slice none 0 0),.v (.slice none 0 0)],.live T.zaL [.v (.int .i64 S.self),.v (.int .i64 S.epoch),.v (.slice x.2.2.1 (zad (S.used.take x.1)).length x.2.2.2),.v (.slice ha hn hc),.v (.slice ma mn mc)]]) (fun x=>x.2.1)
    (fun|⟨j,M6,(a6,c6)⟩=>j≤64∧NewSl M5 T.zeM 2 a6 (zad (S.used.take j)).length c6 ((zad (S.used.take j)).flatMap zg9) M6) (fun x=>64 - x.1) ⟨0,M5,(none,0)⟩ ⟨by omega,NewSl.none M5 _ _⟩ zS ?_
   rintro ⟨j,M6,⟨a6,c6⟩⟩ ⟨hj,hN6⟩
   have hul:(zad (S.used.take j)).length≤(S.used.take j).length:=zeg _ 0
   have huj:(S.used.take j).length≤64:=by simp;omega
   (conv=>whnf);refine brn (fun g=>?_) (fun g=>?_)
   rotate_left
   ·have hge:64≤j:=by have:=Zd1 g;dsimp only at this;omega
    rw[List.take_of_length_le (by rw[hI.ulen];omega)] at hN6 ⊢
    refine zR ?_
    have hl1:=hHe.len
    have hl2:=hMk.len
    subst hl1
    subst hl2
    exact⟨a6,c6,ha,hc,ms,ma,mc,mk,rfl,Mem.le_trans hleM hN6.le,hN6.mono hleM,hHe.up hN6.le,hmsg,hMk.up hN6.le,hp,zkB h.invE hp hs⟩
   have hlt:j<64:=by have:=Zd0 g;dsimp only at this;omega
   have hnx:zad (S.used.take (j+1))=zad (S.used.take j)++(if 0<S.used.getD j 0 then [((j:Int),S.used.getD j 0)] else []):=by
    have:=zik S.used 0 j (by rw[hI.ulen];omega)
    rw[Nat.zero_add] at this
    exact this
   (conv=>whnf);refine ob (by first|omega|(dsimp only;omega)) ?_
   (conv=>whnf);refine on (zvL (fun i=>S.used.getD i 0) hlt) ?_
   (conv=>whnf);refine brn (fun g1=>?_) (fun g1=>?_)
   ·have h1:0<S.used.getD j 0:=by simpa using g1
    rw[if_pos h1] at hnx
    refine zR ?_
    refine zlu M5 hN6 ((j:Int),S.used.getD j 0) rfl (by first|omega|(dsimp only;omega)) (by simp[maxLen];omega) (by simp[Value.oneCell']) fun a7 c7 M7 hN7 _=>?_
    (conv=>whnf);refine ob (ze (by first|omega|(dsimp only;omega))) ?_
    (conv=>whnf)
    rw[←hnx] at hN7
    have hl7:(zad (S.used.take (j+1))).length=(zad (S.used.take j)).length+1:=by rw[hnx];simp
    rw[←hl7] at hN7
    refine⟨⟨j+1,M7,(a7,c7)⟩,⟨by omega,hN7⟩,by dsimp only;omega,?_⟩
    dsimp only
    rw[hl7]
    exact zS
   ·have h1:¬0<S.used.getD j 0:=by simpa using g1
    rw[if_neg h1,List.append_nil] at hnx
    (conv=>whnf);refine ob (ze (by first|omega|(dsimp only;omega))) ?_
    (conv=>whnf)
    refine⟨⟨j+1,M6,(a6,c6)⟩,⟨by omega,by rw[hnx];exact hN6⟩,by dsimp only;omega,?_⟩
    dsimp only
    rw[hnx]
    exact zS
 ·(conv=>whnf)
  refine(zxj h hcm).mono ?_
  rintro v M4 ⟨ha,hn,hc,ms,rfl,hH0,hmsg⟩
  have h4:=h.to hH0.row.le
  refine zT (hH0.row.le) ?_
  repeat' ((conv=>whnf);first|refine⟨?_,True.intro⟩|refine⟨?_,?_,True.intro⟩|refine brn_t rfl ?_|refine brn_f rfl ?_|refine ob rfl ?_|refine ob (by decide) ?_|refine grow_same (Mem.le_refl _) ?_|refine ob (Mem.le_refl _) ?_|refine⟨_,Mem.le_refl _,?_⟩|fail)
  (conv=>whnf)
  refine(zp5 h4.at'.set (by have:=h.room;omega) hes).mono ?_
  rintro v M5 ⟨ma,mn,mc,mk,rfl,hMk0,hp,hs⟩
  have h5:=h4.to hMk0.row.le
  have hHe:=hH0.up hMk0.row.le
  have hMk:=hMk0.mono' hH0.row.le
  have hleM:=hHe.row.le
  refine zT (hleM) ?_
  refine zR ?_
  have hrow:=zlP h5.at' hI
  refine on hrow ?_
  (conv=>whnf)
  refine zbh (σ:=Nat×Mem×(Option Addr×Nat)) [29] (fun x=>[(29,.int .i64 x.1)]) (fun x=>[.live T.zaL [.v (.int .i64 0),.v (.int .i64 0),.v (.slice none 0 0),.v (.slice none 0 0),.v (.slice none 0 0)],.live T.zaL [.v (.int .i64 S.self),.v (.int .i64 S.epoch),.v (.slice x.2.2.1 (zad (S.used.take x.1)).length x.2.2.2),.v (.slice ha hn hc),.v (.slice ma mn mc)]]) (fun x=>x.2.1)
   (fun|⟨j,M6,(a6,c6)⟩=>j≤64∧NewSl M5 T.zeM 2 a6 (zad (S.used.take j)).length c6 ((zad (S.used.take j)).flatMap zg9) M6) (fun x=>64 - x.1) ⟨0,M5,(none,0)⟩ ⟨by omega,NewSl.none M5 _ _⟩ zS ?_
  rintro ⟨j,M6,⟨a6,c6⟩⟩ ⟨hj,hN6⟩
  have hul:(zad (S.used.take j)).length≤(S.used.take j).length:=zeg _ 0
  have huj:(S.used.take j).length≤64:=by simp;omega
  (conv=>whnf);refine brn (fun g=>?_) (fun g=>?_)
  rotate_left
  ·have hge:64≤j:=by have:=Zd1 g;dsimp only at this;omega
   rw[List.take_of_length_le (by rw[hI.ulen];omega)] at hN6 ⊢
   refine zR ?_
   have hl1:=hHe.len
   have hl2:=hMk.len
   subst hl1
   subst hl2
   exact⟨a6,c6,ha,hc,ms,ma,mc,mk,rfl,Mem.le_trans hleM hN6.le,hN6.mono hleM,hHe.up hN6.le,hmsg,hMk.up hN6.le,hp,zkB h.invE hp hs⟩
  have hlt:j<64:=by have:=Zd0 g;dsimp only at this;omega
  have hnx:zad (S.used.take (j+1))=zad (S.used.take j)++(if 0<S.used.getD j 0 then [((j:Int),S.used.getD j 0)] else []):=by
   have:=zik S.used 0 j (by rw[hI.ulen];omega)
   rw[Nat.zero_add] at this
   exact this
  (conv=>whnf);refine ob (by first|omega|(dsimp only;omega)) ?_
  (conv=>whnf);refine on (zvL (fun i=>S.used.getD i 0) hlt) ?_
  (conv=>whnf);refine brn (fun g1=>?_) (fun g1=>?_)
  ·have h1:0<S.used.getD j 0:=by simpa using g1
   rw[if_pos h1] at hnx
   refine zR ?_
   refine zlu M5 hN6 ((j:Int),S.used.getD j 0) rfl (by first|omega|(dsimp only;omega)) (by simp[maxLen];omega) (by simp[Value.oneCell']) fun a7 c7 M7 hN7 _=>?_
   (conv=>whnf);refine ob (ze (by first|omega|(dsimp only;omega))) ?_
   (conv=>whnf)
   rw[←hnx] at hN7
   have hl7:(zad (S.used.take (j+1))).length=(zad (S.used.take j)).length+1:=by rw[hnx];simp
   rw[←hl7] at hN7
   refine⟨⟨j+1,M7,(a7,c7)⟩,⟨by omega,hN7⟩,by dsimp only;omega,?_⟩
   dsimp only
   rw[hl7]
   exact zS
  ·have h1:¬0<S.used.getD j 0:=by simpa using g1
   rw[if_neg h1,List.append_nil] at hnx
   (conv=>whnf);refine ob (ze (by first|omega|(dsimp only;omega))) ?_
   (conv=>whnf)
   refine⟨⟨j+1,M6,(a6,c6)⟩,⟨by omega,by rw[hnx];exact hN6⟩,by dsimp only;omega,?_⟩
   dsimp only
   rw[hnx]
   exact zS
end
section
variable {M:Mem}
structure StatR (M:Mem) (ua:Option Addr) (un:Nat) (ha:Option Addr) (hn:Nat) (ma:Option Addr) (mn:Nat) (ul:List (Int×Int)) (ms:List MX) (mk:List MkC):Prop where
 used:SrcOk M 2 ua un (ul.flatMap zg9)
 held:MsgsR M ha hn ms
 seen:MarksR M ma mn mk
 few:zDG mk
 short:un≤4194000∧hn≤4194000∧mn≤4194000
theorem StatR.le {ua:Option Addr} {un:Nat} {ha:Option Addr} {hn:Nat} {ma:Option Addr} {mn:Nat} {ul:List (Int×Int)} {ms:List MX} {mk:List MkC} (h:StatR M ua un ha hn ma mn ul ms mk) {M':Mem} (hle:M.le M'):StatR M' ua un ha hn ma mn ul ms mk:=
 ⟨h.used.le hle,h.held.le hle,h.seen.le hle,h.few,h.short⟩
@[reducible] def znS (self epoch:Int) (ua:Option Addr) (un uc:Nat) (ha:Option Addr) (hn hc:Nat) (ma:Option Addr) (mn mc:Nat):Value := .agg #[.int .i64 self,.int .i64 epoch,.slice ua un uc,.slice ha hn hc,.slice ma mn mc]
end
section
variable {M:Mem}
def Chain:Int→List Int→Prop
 | _,[]=>True
 | last,n::r=>last<n∧n≤65535∧Chain n r
def zjd (m:Mk):Prop:=(0≤m.o∧m.o<64∧1≤m.e∧m.e≤65535∧0≤m.up∧m.up≤65535)∧(0<m.up∨0<m.more.length)∧Chain (m.up+1) m.more
theorem Chain.can:∀ {l:List Int} {last:Int},Chain last l→l.Pairwise (· < ·)∧∀ c∈l,last<c∧c≤65535
 | [],_,_=>⟨.nil,by simp⟩
 | x::r,last,⟨h1,h2,h3⟩=>by
  obtain⟨h4,h5⟩:=Chain.can h3
  refine⟨List.pairwise_cons.2 ⟨fun y hy=>(h5 y hy).1,h4⟩,fun c hc=>?_⟩
  rcases List.mem_cons.1 hc with rfl|hc
  ·exact⟨h1,h2⟩
  ·have:=h5 c hc;omega
theorem zBg {m:MkC} (hs:SrcOk M 1 m.a m.more.length (m.more.map zan)) (hn:m.more.length≤4194304) :
  CallsM Tryz.prog F.ziK [.agg (zkA m).toArray] M fun v M'=>∃ r,v = .bool r∧(r=true↔zjd m.mk')∧M=M':=by
 refine zt5 (by simp) ?_
 have no:¬zjd m.mk'→(false=true↔zjd m.mk'):=fun h=>⟨fun h=>(by cases h),fun h'=>absurd h' h⟩
 (conv=>whnf);refine brn (fun g=>?_) (fun g=>?_)
 ·refine zR ?_
  refine⟨false,rfl,no fun hr=>?_,rfl⟩
  have g':=Zd0 g
  have h1:=hr.1
  simp only[MkC.mk'] at h1
  omega
 replace g:=Zd1 g
 (conv=>whnf);refine brn (fun g=>?_) (fun g=>?_)
 ·refine zR ?_
  refine⟨false,rfl,no fun hr=>?_,rfl⟩
  have g':=Zd0 g
  have h1:=hr.1
  simp only[MkC.mk'] at h1
  omega
 replace g:=Zd1 g
 (conv=>whnf);refine brn (fun g=>?_) (fun g=>?_)
 ·refine zR ?_
  refine⟨false,rfl,no fun hr=>?_,rfl⟩
  have g':=Zd0 g
  have h1:=hr.1
  simp only[MkC.mk'] at h1
  omega
 replace g:=Zd1 g
 (conv=>whnf);refine brn (fun g=>?_) (fun g=>?_)
 ·refine zR ?_
  refine⟨false,rfl,no fun hr=>?_,rfl⟩
  have g':=Zd0 g
  have h1:=hr.1
  simp only[MkC.mk'] at h1
  omega
 replace g:=Zd1 g
 (conv=>whnf);refine brn (fun g=>?_) (fun g=>?_)
 ·refine zR ?_
  refine⟨false,rfl,no fun hr=>?_,rfl⟩
  have g':=Zd0 g
  have h1:=hr.1
  simp only[MkC.mk'] at h1
  omega
 replace g:=Zd1 g
 (conv=>whnf);refine brn (fun g=>?_) (fun g=>?_)
 ·refine zR ?_
  refine⟨false,rfl,no fun hr=>?_,rfl⟩
  have g':=Zd0 g
  have h1:=hr.1
  simp only[MkC.mk'] at h1
  omega
 replace g:=Zd1 g
 have hb:0≤m.o∧m.o<64∧1≤m.e∧m.e≤65535∧0≤m.up∧m.up≤65535:=by omega
 (conv=>whnf);refine ob (ze (by omega)) ?_
 (conv=>whnf)
 refine ze1 [40,3] (fun (y:Nat×Int)=>[(40,.int .i64 y.1),(3,.int .i64 y.2)]) (fun y=>y.1≤m.more.length∧(Chain (m.up+1) m.more↔Chain y.2 (m.more.drop y.1))) (fun y=>m.more.length - y.1) ⟨0,m.up+1⟩ ⟨by omega,by simp⟩ zS ?_
 rintro ⟨i,last⟩ ⟨hi,hch⟩
 (conv=>whnf);refine brn (fun g=>?_) (fun g=>?_)
 ·have hlt:i<m.more.length:=by have:=Zd0 g;dsimp only at this;omega
  obtain⟨hkx,bx,ox,hax,hrx⟩:=hs.at (i:=i) hlt
  dsimp only at hch
  rw[List.drop_eq_getElem_cons hlt] at hch
  generalize m.more[i]=x at *
  (conv=>whnf);refine ob (by first|omega|(dsimp only;omega)) ?_
  (conv=>whnf);refine atp hax ?_
  (conv=>whnf);refine on hrx ?_
  (conv=>whnf);refine brn (fun g1=>?_) (fun g1=>?_)
  ·refine zR ?_
   refine⟨false,rfl,no fun hr=>?_,rfl⟩
   have:=(hch.1 hr.2.2).1
   have:=Zd0 g1
   omega
  (conv=>whnf);refine brn (fun g2=>?_) (fun g2=>?_)
  ·refine zR ?_
   refine⟨false,rfl,no fun hr=>?_,rfl⟩
   have:=(hch.1 hr.2.2).2.1
   have:=Zd0 g2
   omega
  (conv=>whnf);refine ob (ze (by first|omega|(dsimp only;omega))) ?_
  (conv=>whnf)
  refine⟨⟨i+1,x⟩,⟨by omega,hch.trans ⟨fun h=>h.2.2,fun h=>⟨?_,?_,h⟩⟩⟩,by dsimp only;omega,zS⟩
  ·have:=Zd1 g1;omega
  ·have:=Zd1 g2;omega
 have hge:i=m.more.length:=by have:=Zd1 g;dsimp only at this;omega
 subst hge
 have hc:Chain (m.up+1) m.more:=hch.2 (by rw[List.drop_length];exact True.intro)
 (conv=>whnf);refine brn (fun g=>?_) (fun g=>?_)
 ·refine zR ?_
  exact⟨true,rfl,⟨fun _=>⟨hb,.inl (Zd0 g),hc⟩,fun _=>rfl⟩,rfl⟩
 ·refine zR ?_
  refine⟨_,rfl,⟨fun h=>⟨hb,.inr ?_,hc⟩,fun h=>?_⟩,rfl⟩
  ·have h3:=Zd0 h
   show 0<m.more.length
   omega
  ·have h2:=h.2.1
   have:=Zd1 g
   simp only[MkC.mk'] at h2
   exact decide_eq_true (by omega)
end
section
variable {M:Mem}
def FormP (l:List Mk):Prop:=(∀ m∈l,zjd m)∧l.Pairwise zbQ
theorem FormP.snoc {l:List Mk} {x:Mk} (h:FormP l) (hr:zjd x) (hl:∀ y,l.getLast? = some y→zbQ y x):FormP (l++[x]):=by
 refine⟨fun m hm=>?_,?_⟩
 ·rcases List.mem_append.1 hm with h1|h1
  ·exact h.1 m h1
  ·simp only[List.mem_singleton] at h1
   subst h1;exact hr
 ·rw[List.pairwise_append]
  refine⟨h.2,by simp,fun z hz y hy=>?_⟩
  simp only[List.mem_singleton] at hy
  subst hy
  by_cases hne:l=[]
  ·subst hne;cases hz
  ·have hl1:=hl (l.getLast hne) (List.getLast?_eq_some_getLast hne)
   rw[←List.dropLast_concat_getLast hne] at hz
   have hp:=h.2
   rw[←List.dropLast_concat_getLast hne,List.pairwise_append] at hp
   rcases List.mem_append.1 hz with h2|h2
   ·have:=hp.2.2 z h2 (l.getLast hne) (by simp)
    unfold zbQ at this hl1 ⊢; omega
   ·simp only[List.mem_singleton] at h2
    subst h2;exact hl1
theorem FormP.lt {l:List Mk} (h:FormP l) {i:Nat} {x y:Mk} (hx:l[i]? = some x) (hy:l[i+1]? = some y):zbQ x y:=by
 obtain⟨h1,rfl⟩:=List.getElem?_eq_some_iff.1 hx
 obtain⟨h2,rfl⟩:=List.getElem?_eq_some_iff.1 hy
 exact List.pairwise_iff_getElem.1 h.2 i (i+1) h1 h2 (by omega)
def zcr (l:List Mk):Nat:=(l.map fun m=>m.more.length).sum
def znz (gaps:Int) (l:List Mk) (k:Int):Prop:=
 ((gaps<0∨256<gaps)∧k=1)∨(¬(gaps<0∨256<gaps)∧¬FormP l∧k=2)∨(¬(gaps<0∨256<gaps)∧FormP l∧gaps<zcr l∧k=6)∨(¬(gaps<0∨256<gaps)∧FormP l∧(zcr l:Int)≤gaps∧k=0)
end
section
variable {M:Mem}
theorem InvE.of {es:EsT} (h:FormP (es.map zby)):InvE es:=by
 have hm:∀ q∈es,zjd (zby q):=fun q hq=>h.1 _ (List.mem_map.2 ⟨q,hq,rfl⟩)
 refine⟨?_,fun q hq=>?_,fun q hq=>?_⟩
 ·have:=h.2
  rw[List.pairwise_map] at this
  unfold List.Nodup
  rw[List.pairwise_map]
  refine this.imp fun {x y} hxy e=>?_
  unfold zbQ zby at hxy
  rw[e] at hxy
  dsimp only at hxy
  omega
 ·obtain⟨h1,h2,h3⟩:=hm q hq
  obtain⟨h4,h5⟩:=h3.can
  dsimp only [zby] at h1 h2 h4 h5
  exact⟨⟨h1.2.2.2.2.1,h4,fun c hc=>(h5 c hc).1⟩,h2.imp id fun h e=>by rw[e] at h;simp at h⟩
 ·obtain⟨h1,h2,h3⟩:=hm q hq
  obtain⟨h4,h5⟩:=h3.can
  dsimp only [zby] at h1 h2 h4 h5
  refine⟨⟨by omega,by omega,by omega,by omega⟩,fun c hc=>?_⟩
  rcases hc with hc|hc
  ·omega
  ·exact(h5 c hc).2
theorem zCz (gaps:Int) {a:Option Addr} {n c:Nat} {l:List MkC} (ha:MarksR M a n l) (fl:zDG l) (hn:n≤1048576) (hfl:∀ m∈l,m.more.length≤1048576) :
  CallsM Tryz.prog F.zj6 [.int .i64 gaps,.slice a n c] M fun v M'=>∃ k,znz gaps (l.map MkC.mk') k ∧
   ((k≠0∧v = .tuple #[.pointer none,.int .i64 k]∧M.le M')∨(k=0∧∃ p b es,v = .tuple #[ptr p,.int .i64 0]∧FreshS M M' p b gaps es∧es.map zby=l.map MkC.mk')):=by
 refine zu7 (by simp) ?_
 have hl:=ha.len
 (conv=>whnf);refine(zzZ gaps).mono ?_
 rintro v M1 (⟨hg,rfl,rfl⟩|⟨hg,p,b,rfl,hp,hb,hle1,hS1⟩)
 ·refine zR ?_
  exact⟨1,.inl ⟨hg,rfl⟩,.inl ⟨by decide,rfl,Mem.le_refl _⟩⟩
 have hfr0:∀ y,setB p b [] y→M y=none:=fun y hy=>by
  rcases hy with rfl|rfl|⟨q,hq,_⟩
  ·exact hp
  ·exact hb
  ·cases hq
 refine zR ?_
 refine zbh (σ:=Nat×Mem×EsT) [20] (fun y=>[(20,.int .i64 y.1)]) (fun _=>[]) (fun y=>y.2.1)
  (fun|⟨i,Mc,es⟩=>i≤n∧M.le Mc∧SetAt Mc p b gaps es∧(∀ y,setB p b es y→M y=none)∧es.map zby=(l.map MkC.mk').take i∧FormP ((l.map MkC.mk').take i)) (fun y=>n - y.1) ⟨0,M1,[]⟩
  ⟨by omega,hle1,hS1,hfr0,by simp,⟨by simp,by simp⟩⟩ zS ?_
 rintro ⟨i,Mc,es⟩ ⟨hi,hle,hS,hfr,hes,hF⟩
 (conv=>whnf);refine brn (fun g2=>?_) (fun g2=>?_)
 ·have hlt:i<n:=by have:=Zd0 g2;dsimp only at this;omega
  have hx:l[i]? = some (l[i]'(by omega)):=List.getElem?_eq_getElem (by omega)
  generalize l[i]'(by omega)=x at *
  obtain⟨b1,o1,hra,hrow⟩:=(ha.row.le hle).fall zff (by decide) hx
  have hxm:=(ha.more x (List.mem_of_getElem? hx)).le hle
  have hfx:=fl x (List.mem_of_getElem? hx)
  have hxk:(l.map MkC.mk')[i]? = some x.mk':=by rw[List.getElem?_map,hx];rfl
  have hxm':x.mk'∈l.map MkC.mk':=List.mem_of_getElem? hxk
  have htk:(l.map MkC.mk').take (i+1)=(l.map MkC.mk').take i++[x.mk']:=by rw[List.take_add_one,hxk];rfl
  obtain⟨b2,o2,hab,hcc⟩:=(ha.row.le hle).fcells zff (by decide) hx
  have bad:∀ {k:Int},¬FormP (l.map MkC.mk')→k=2→znz gaps (l.map MkC.mk') k:=fun h e => .inr (.inl ⟨hg,h,e⟩)
  (conv=>whnf);refine ob (by first|omega|(dsimp only;omega)) ?_
  (conv=>whnf);refine atp hra ?_
  (conv=>whnf);refine on hrow ?_
  refine zR ?_
  refine(zBg hxm hfx).mono ?_
  rintro v _ ⟨r,rfl,hr,rfl⟩
  refine zU ?_
  refine brn (fun g3=>?_) (fun g3=>?_)
  ·have nb:znz gaps (l.map MkC.mk') 2:=bad (fun h=>by
    rw[hr.2 (h.1 _ hxm')] at g3
    cases g3) rfl
   repeat' ((conv=>whnf);first|refine⟨?_,True.intro⟩|refine⟨?_,?_,True.intro⟩|refine brn_t rfl ?_|refine brn_f rfl ?_|refine ob rfl ?_|refine ob (by decide) ?_|refine grow_same (Mem.le_refl _) ?_|refine ob (Mem.le_refl _) ?_|refine⟨_,Mem.le_refl _,?_⟩|fail)
   all_goals exact⟨2,nb,.inl ⟨by decide,rfl,hle⟩⟩
  have hR:zjd x.mk':=hr.1 (by cases r<;>simp_all)
  (conv=>whnf);refine brn (fun g4=>?_) (fun g4=>?_)
  ·replace g4:=Zd0 g4
   obtain⟨j,hij⟩:∃ j,i=j+1:=⟨i - 1,by dsimp only at g4;omega⟩
   have hy:l[j]? = some (l[j]'(by omega)):=List.getElem?_eq_getElem (by omega)
   generalize l[j]'(by omega)=y at *
   obtain⟨b3,o3,hab3,hcc3⟩:=(ha.row.le hle).fcells zff (by decide) hy
   have hyk:(l.map MkC.mk')[j]? = some y.mk':=by rw[List.getElem?_map,hy];rfl
   have hgl:((l.map MkC.mk').take i).getLast? = some y.mk':=by rw[hij,List.take_add_one,hyk];simp
   (conv=>whnf);refine ob (ze (by first|omega|(dsimp only;omega))) ?_
   (conv=>whnf)
   erw [show ((i:Nat):Int) - 1=(j:Nat) from by omega]
   (conv=>whnf);refine ob (by first|omega|(dsimp only;omega)) ?_
   (conv=>whnf);refine atp hab3 ?_
   (conv=>whnf);refine on (hcc3 0 _ rfl) ?_
   (conv=>whnf);refine ob (ze (by first|omega|(dsimp only;omega))) ?_
   (conv=>whnf)
   erw [show ((i:Nat):Int) - 1=(j:Nat) from by omega]
   (conv=>whnf);refine ob (by first|omega|(dsimp only;omega)) ?_
   (conv=>whnf);refine atp hab3 ?_
   (conv=>whnf);refine on (hcc3 1 _ rfl) ?_
   (conv=>whnf)
   refine⟨?_,?_,True.intro⟩
   ·refine zR ?_
    refine new (fun b4 hb4=>?_)
    replace hb4:Mc b4=none:=hb4
    refine zR ?_
    refine new (fun b5 hb5=>?_)
    replace hb5:(Mc.setCells b4 T.zw [.int .i64 y.o,.int .i64 y.e]) b5=none:=hb5
    have hle6:=Mem.le_trans (Mem.le_setCells hb4 (E:=T.zw) (l:=[.int .i64 y.o,.int .i64 y.e])) (Mem.le_setCells hb5 (E:=T.zw) (l:=[.int .i64 x.o,.int .i64 x.e]))
    have hY6:=((Mem.has_setCells (M:=Mc) (b:=b4) (E:=T.zw) (l:=[.int .i64 y.o,.int .i64 y.e])).src (size:=1) (n:=2) rfl).le (Mem.le_setCells hb5 (E:=T.zw) (l:=[.int .i64 x.o,.int .i64 x.e]))
    have hX6:=(Mem.has_setCells (M:=Mc.setCells b4 T.zw [.int .i64 y.o,.int .i64 y.e]) (b:=b5) (E:=T.zw) (l:=[.int .i64 x.o,.int .i64 x.e])).src (size:=1) (n:=2) rfl
    obtain⟨M6,hM6⟩:∃ M6,M6=(Mc.setCells b4 T.zw [.int .i64 y.o,.int .i64 y.e]).setCells b5 T.zw [.int .i64 x.o,.int .i64 x.e]:=⟨_,rfl⟩
    rw[←hM6] at hle6 hY6 hX6
    refine zR ?_
    erw [←hM6]
    refine(zlG (X:=[y.o,y.e]) (Y:=[x.o,x.e]) hY6 hX6 (by omega) (by omega)).mono ?_
    rintro v _ ⟨rfl,rfl⟩
    refine zR ?_
    refine brn (fun g5=>?_) (fun g5=>?_)
    ·replace g5:=Zd0 g5
     have nb:znz gaps (l.map MkC.mk') 2:=bad (fun h=>by
      have h1:=(ziv y x).2 (show zbQ y.mk' x.mk' from h.lt hyk (hij▸hxk))
      unfold zjb at h1
      omega) rfl
     refine zR ?_
     exact⟨2,nb,.inl ⟨by decide,rfl,Mem.le_trans hle hle6⟩⟩
    replace g5:=Zd1 g5
    have hlt5:zbQ y.mk' x.mk':=(ziv y x).1 (by unfold zjb;omega)
    have hlast:∀ z,((l.map MkC.mk').take i).getLast? = some z→zbQ z x.mk':=fun z hz=>by
     rw[hgl] at hz;cases hz
     exact hlt5
    have hS6:=hS.le hle6
    have hF':FormP ((l.map MkC.mk').take (i+1)):=by rw[htk];exact hF.snoc hR hlast
    have hnk:zF es (x.o,x.e)=none:=by
     rw[aget_none]
     intro hin
     obtain⟨q,hq,e⟩:=List.mem_map.1 hin
     have hz:zby q∈(l.map MkC.mk').take i:=hes▸List.mem_map.2 ⟨q,hq,rfl⟩
     have hp:=hF'.2
     rw[htk,List.pairwise_append] at hp
     have h1:=hp.2.2 _ hz x.mk' (by simp)
     have e1:q.1.1=x.o:=congrArg (·.1) e
     have e2:q.1.2=x.e:=congrArg (·.2) e
     rcases h1 with h1|⟨-, h1⟩
     ·exact absurd (show q.1.1<x.o from h1) (by omega)
     ·exact absurd (show q.1.2<x.e from h1) (by omega)
    have hb6:∀ y,M6 y=none→M y=none:=fun y hy=>by
     cases e:M y with
     | none=>rfl
     | some z=>rw[hle6 _ _ (hle _ _ e)] at hy;cases hy
    refine zR ?_
    refine on (hS6.self.c1 rfl) ?_
    refine zR ?_
    refine new (fun b7 hb7=>?_)
    replace hb7:M6 b7=none:=hb7
    have hN7:NewSl M6 T.zw 1 (some ⟨b7,0,none⟩) 0 0 (([]:List Int).map zan) _:=NewSl.lit hb7 T.zw 1 0 [] rfl
    obtain⟨M7,hM7⟩:∃ M7,M7=M6.setCells b7 T.zw []:=⟨_,rfl⟩
    rw[←hM7] at hN7
    (conv=>whnf)
    erw [←hM7]
    refine zT (hN7.le) ?_
    (conv=>whnf)
    refine zdW ((hxm.le hle6).le hN7.le) ?_
    (conv=>whnf);refine zun M6 _ hN7 (by first|omega|(dsimp only;omega)) (by simp[maxLen];omega) (by simp[Value.oneCell']) fun a8 c8 M8 hcap hN8=>?_
    refine zT (hN8.le) ?_
    (conv=>whnf)
    refine new (fun r9 hr9=>?_)
    replace hr9:M8 r9=none:=hr9
    have hle9:M8.le (M8.setCells r9 T.zaa [.int .i64 x.up,.slice a8 x.more.length c8]):=Mem.le_setCells hr9
    have hself9:(M8.setCells r9 T.zaa [.int .i64 x.up,.slice a8 x.more.length c8]).has r9 T.zaa [.int .i64 x.up,.slice a8 x.more.length c8]:=Mem.has_setCells
    obtain⟨M9,hM9⟩:∃ M9,M9=M8.setCells r9 T.zaa [.int .i64 x.up,.slice a8 x.more.length c8]:=⟨_,rfl⟩
    rw[←hM9] at hle9 hself9
    rw[←Nat.zero_add x.more.length] at hM9
    (conv=>whnf)
    erw [←hM9]
    have hle69:M6.le M9:=Mem.le_trans hN8.le hle9
    have hm9:MapAt keyV zfd M9 b es:=hS6.map.mono fun o ho=>hle69 _ _ ho
    refine zR ?_
    refine hm9.put zsH (x.o,x.e) ⟨r9,a8,c8,x.up,x.more⟩ fun q2 f2 hm10=>?_
    replace hm10:=hm10 M9
    obtain⟨M10,hM10⟩:∃ M10,M10=M9.upd b (zeH q2 f2 (keyV (x.o,x.e)) (zfd ⟨r9,a8,c8,x.up,x.more⟩)):=⟨_,rfl⟩
    have hk10:Mem.keep (fun y=>y=b) M9 M10:=hM10▸Mem.keep_upd _ _ rfl
    rw[←hM10] at hm10
    (conv=>whnf)
    erw [←hM10]
    refine zR ?_
    have hown:∀ y,Ent.own ⟨r9,a8,c8,x.up,x.more⟩ y→M6 y=none:=fun y hy=>by
     rcases hy with rfl|⟨q,hq,rfl⟩
     ·cases e:M6 y with
      | none=>rfl
      | some z=>rw[hN8.le _ _ e] at hr9;cases hr9
     ·exact(hN8.block hq).1
    have hrow8:RowI M8 a8 c8 x.more:=by
     have h5:=newSl_iff.1 hN8
     obtain⟨-, h6,h7,h8⟩:=h5
     rw[Nat.zero_add] at h7 h8 h6
     refine⟨⟨h7,by rcases hcap with e|e<;>omega⟩,?_⟩
     rcases h8 with ⟨e1,e2⟩|⟨bb,cs,e1, -, e3,e4,e5⟩
     ·exact .inl ⟨e1,e2⟩
     ·refine .inr ⟨bb,0,cs,e1,e3,by omega,?_⟩
      simpa using e5
    have hE9:EntAt M9 ⟨r9,a8,c8,x.up,x.more⟩:=⟨hself9,hrow8.mono fun q o hq ho=>hle9 _ _ ho⟩
    have hE10:EntAt M10 ⟨r9,a8,c8,x.up,x.more⟩:=hE9.mono fun y o hy ho=>hk10 _ _ (fun e=>by
     subst e
     have h1:=hown _ hy
     obtain⟨l1,cc,hh,_⟩:=hS6.map
     rw[hh] at h1;cases h1) ho
    have hk610:Mem.keep (fun y=>y=b) M6 M10:=fun y o hy ho=>hk10 _ _ hy (hle69 _ _ ho)
    have hS10:=hS6.more hnk hk610 hm10 hE10 hown
    have hpa:zY es (x.o,x.e) ⟨r9,a8,c8,x.up,x.more⟩=es++[((x.o,x.e),⟨r9,a8,c8,x.up,x.more⟩)]:=by simp[zY,hnk]
    (conv=>whnf)
    refine ob (ze (by first|omega|(dsimp only;omega))) ?_
    (conv=>whnf)
    refine⟨⟨i+1,M10,_⟩,⟨by omega,fun y o hy=>hk10 _ _ (fun e=>?_) (hle69 _ _ (hle6 _ _ (hle _ _ hy))),hS10,fun y hy=>?_,?_,hF'⟩,by dsimp only;omega,zS⟩
    ·have:=hfr b (.inr (.inl rfl));rw[←e,hy] at this;cases this
    ·rw[hpa] at hy
     rcases hy with rfl|rfl|⟨q,hq,hy⟩
     ·exact hfr _ (.inl rfl)
     ·exact hfr _ (.inr (.inl rfl))
     ·rcases List.mem_append.1 hq with h1|h1
      ·exact hfr _ (.inr (.inr ⟨q,h1,hy⟩))
      ·simp only[List.mem_singleton] at h1
       subst h1
       exact hb6 _ (hown _ hy)
    ·rw[hpa,List.map_append,hes,htk];rfl
   ·refine zR ?_
    refine new (fun b4 hb4=>?_)
    replace hb4:Mc b4=none:=hb4
    refine zR ?_
    refine new (fun b5 hb5=>?_)
    replace hb5:(Mc.setCells b4 T.zw [.int .i64 x.o,.int .i64 x.e]) b5=none:=hb5
    have hle6:=Mem.le_trans (Mem.le_setCells hb4 (E:=T.zw) (l:=[.int .i64 x.o,.int .i64 x.e])) (Mem.le_setCells hb5 (E:=T.zw) (l:=[.int .i64 y.o,.int .i64 y.e]))
    have hX6:=((Mem.has_setCells (M:=Mc) (b:=b4) (E:=T.zw) (l:=[.int .i64 x.o,.int .i64 x.e])).src (size:=1) (n:=2) rfl).le (Mem.le_setCells hb5 (E:=T.zw) (l:=[.int .i64 y.o,.int .i64 y.e]))
    have hY6:=(Mem.has_setCells (M:=Mc.setCells b4 T.zw [.int .i64 x.o,.int .i64 x.e]) (b:=b5) (E:=T.zw) (l:=[.int .i64 y.o,.int .i64 y.e])).src (size:=1) (n:=2) rfl
    obtain⟨M6,hM6⟩:∃ M6,M6=(Mc.setCells b4 T.zw [.int .i64 x.o,.int .i64 x.e]).setCells b5 T.zw [.int .i64 y.o,.int .i64 y.e]:=⟨_,rfl⟩
    rw[←hM6] at hle6 hY6 hX6
    refine zR ?_
    erw [←hM6]
    refine(zlG (X:=[y.o,y.e]) (Y:=[x.o,x.e]) hY6 hX6 (by omega) (by omega)).mono ?_
    rintro v _ ⟨rfl,rfl⟩
    refine zR ?_
    refine brn (fun g5=>?_) (fun g5=>?_)
    ·replace g5:=Zd0 g5
     have nb:znz gaps (l.map MkC.mk') 2:=bad (fun h=>by
      have h1:=(ziv y x).2 (show zbQ y.mk' x.mk' from h.lt hyk (hij▸hxk))
      unfold zjb at h1
      omega) rfl
     refine zR ?_
     exact⟨2,nb,.inl ⟨by decide,rfl,Mem.le_trans hle hle6⟩⟩
    replace g5:=Zd1 g5
    have hlt5:zbQ y.mk' x.mk':=(ziv y x).1 (by unfold zjb;omega)
    have hlast:∀ z,((l.map MkC.mk').take i).getLast? = some z→zbQ z x.mk':=fun z hz=>by
     rw[hgl] at hz;cases hz
     exact hlt5
    have hS6:=hS.le hle6
    have hF':FormP ((l.map MkC.mk').take (i+1)):=by rw[htk];exact hF.snoc hR hlast
    have hnk:zF es (x.o,x.e)=none:=by
     rw[aget_none]
     intro hin
     obtain⟨q,hq,e⟩:=List.mem_map.1 hin
     have hz:zby q∈(l.map MkC.mk').take i:=hes▸List.mem_map.2 ⟨q,hq,rfl⟩
     have hp:=hF'.2
     rw[htk,List.pairwise_append] at hp
     have h1:=hp.2.2 _ hz x.mk' (by simp)
     have e1:q.1.1=x.o:=congrArg (·.1) e
     have e2:q.1.2=x.e:=congrArg (·.2) e
     rcases h1 with h1|⟨-, h1⟩
     ·exact absurd (show q.1.1<x.o from h1) (by omega)
     ·exact absurd (show q.1.2<x.e from h1) (by omega)
    have hb6:∀ y,M6 y=none→M y=none:=fun y hy=>by
     cases e:M y with
     | none=>rfl
     | some z=>rw[hle6 _ _ (hle _ _ e)] at hy;cases hy
    refine zR ?_
    refine on (hS6.self.c1 rfl) ?_
    refine zR ?_
    refine new (fun b7 hb7=>?_)
    replace hb7:M6 b7=none:=hb7
    have hN7:NewSl M6 T.zw 1 (some ⟨b7,0,none⟩) 0 0 (([]:List Int).map zan) _:=NewSl.lit hb7 T.zw 1 0 [] rfl
    obtain⟨M7,hM7⟩:∃ M7,M7=M6.setCells b7 T.zw []:=⟨_,rfl⟩
    rw[←hM7] at hN7
    (conv=>whnf)
    erw [←hM7]
    refine zT (hN7.le) ?_
    (conv=>whnf)
    refine zdW ((hxm.le hle6).le hN7.le) ?_
    (conv=>whnf);refine zun M6 _ hN7 (by first|omega|(dsimp only;omega)) (by simp[maxLen];omega) (by simp[Value.oneCell']) fun a8 c8 M8 hcap hN8=>?_
    refine zT (hN8.le) ?_
    (conv=>whnf)
    refine new (fun r9 hr9=>?_)
    replace hr9:M8 r9=none:=hr9
    have hle9:M8.le (M8.setCells r9 T.zaa [.int .i64 x.up,.slice a8 x.more.length c8]):=Mem.le_setCells hr9
    have hself9:(M8.setCells r9 T.zaa [.int .i64 x.up,.slice a8 x.more.length c8]).has r9 T.zaa [.int .i64 x.up,.slice a8 x.more.length c8]:=Mem.has_setCells
    obtain⟨M9,hM9⟩:∃ M9,M9=M8.setCells r9 T.zaa [.int .i64 x.up,.slice a8 x.more.length c8]:=⟨_,rfl⟩
    rw[←hM9] at hle9 hself9
    rw[←Nat.zero_add x.more.length] at hM9
    (conv=>whnf)
    erw [←hM9]
    have hle69:M6.le M9:=Mem.le_trans hN8.le hle9
    have hm9:MapAt keyV zfd M9 b es:=hS6.map.mono fun o ho=>hle69 _ _ ho
    refine zR ?_
    refine hm9.put zsH (x.o,x.e) ⟨r9,a8,c8,x.up,x.more⟩ fun q2 f2 hm10=>?_
    replace hm10:=hm10 M9
    obtain⟨M10,hM10⟩:∃ M10,M10=M9.upd b (zeH q2 f2 (keyV (x.o,x.e)) (zfd ⟨r9,a8,c8,x.up,x.more⟩)):=⟨_,rfl⟩
    have hk10:Mem.keep (fun y=>y=b) M9 M10:=hM10▸Mem.keep_upd _ _ rfl
    rw[←hM10] at hm10
    (conv=>whnf)
    erw [←hM10]
    refine zR ?_
    have hown:∀ y,Ent.own ⟨r9,a8,c8,x.up,x.more⟩ y→M6 y=none:=fun y hy=>by
     rcases hy with rfl|⟨q,hq,rfl⟩
     ·cases e:M6 y with
      | none=>rfl
      | some z=>rw[hN8.le _ _ e] at hr9;cases hr9
     ·exact(hN8.block hq).1
    have hrow8:RowI M8 a8 c8 x.more:=by
     have h5:=newSl_iff.1 hN8
     obtain⟨-, h6,h7,h8⟩:=h5
     rw[Nat.zero_add] at h7 h8 h6
     refine⟨⟨h7,by rcases hcap with e|e<;>omega⟩,?_⟩
     rcases h8 with ⟨e1,e2⟩|⟨bb,cs,e1, -, e3,e4,e5⟩
     ·exact .inl ⟨e1,e2⟩
     ·refine .inr ⟨bb,0,cs,e1,e3,by omega,?_⟩
      simpa using e5
    have hE9:EntAt M9 ⟨r9,a8,c8,x.up,x.more⟩:=⟨hself9,hrow8.mono fun q o hq ho=>hle9 _ _ ho⟩
    have hE10:EntAt M10 ⟨r9,a8,c8,x.up,x.more⟩:=hE9.mono fun y o hy ho=>hk10 _ _ (fun e=>by
     subst e
     have h1:=hown _ hy
     obtain⟨l1,cc,hh,_⟩:=hS6.map
     rw[hh] at h1;cases h1) ho
    have hk610:Mem.keep (fun y=>y=b) M6 M10:=fun y o hy ho=>hk10 _ _ hy (hle69 _ _ ho)
    have hS10:=hS6.more hnk hk610 hm10 hE10 hown
    have hpa:zY es (x.o,x.e) ⟨r9,a8,c8,x.up,x.more⟩=es++[((x.o,x.e),⟨r9,a8,c8,x.up,x.more⟩)]:=by simp[zY,hnk]
    (conv=>whnf)
    refine ob (ze (by first|omega|(dsimp only;omega))) ?_
    (conv=>whnf)
    refine⟨⟨i+1,M10,_⟩,⟨by omega,fun y o hy=>hk10 _ _ (fun e=>?_) (hle69 _ _ (hle6 _ _ (hle _ _ hy))),hS10,fun y hy=>?_,?_,hF'⟩,by dsimp only;omega,zS⟩
    ·have:=hfr b (.inr (.inl rfl));rw[←e,hy] at this;cases this
    ·rw[hpa] at hy
     rcases hy with rfl|rfl|⟨q,hq,hy⟩
     ·exact hfr _ (.inl rfl)
     ·exact hfr _ (.inr (.inl rfl))
     ·rcases List.mem_append.1 hq with h1|h1
      ·exact hfr _ (.inr (.inr ⟨q,h1,hy⟩))
      ·simp only[List.mem_singleton] at h1
       subst h1
       exact hb6 _ (hown _ hy)
    ·rw[hpa,List.map_append,hes,htk];rfl
  ·replace g4:=Zd1 g4
   dsimp only at g4
   have hi0:i=0:=by omega
   have hlast:∀ z,((l.map MkC.mk').take i).getLast? = some z→zbQ z x.mk':=fun z hz=>by
    rw[hi0] at hz;simp at hz
   obtain⟨M6,hM6⟩:∃ M6,M6=Mc:=⟨_,rfl⟩
   have hle6:Mc.le M6:=by rw[hM6];exact Mem.le_refl _
   (conv=>whnf)
   refine⟨?_,?_,True.intro⟩
   ·refine zR ?_
    erw [←hM6]
    have hS6:=hS.le hle6
    have hF':FormP ((l.map MkC.mk').take (i+1)):=by rw[htk];exact hF.snoc hR hlast
    have hnk:zF es (x.o,x.e)=none:=by
     rw[aget_none]
     intro hin
     obtain⟨q,hq,e⟩:=List.mem_map.1 hin
     have hz:zby q∈(l.map MkC.mk').take i:=hes▸List.mem_map.2 ⟨q,hq,rfl⟩
     have hp:=hF'.2
     rw[htk,List.pairwise_append] at hp
     have h1:=hp.2.2 _ hz x.mk' (by simp)
     have e1:q.1.1=x.o:=congrArg (·.1) e
     have e2:q.1.2=x.e:=congrArg (·.2) e
     rcases h1 with h1|⟨-, h1⟩
     ·exact absurd (show q.1.1<x.o from h1) (by omega)
     ·exact absurd (show q.1.2<x.e from h1) (by omega)
    have hb6:∀ y,M6 y=none→M y=none:=fun y hy=>by
     cases e:M y with
     | none=>rfl
     | some z=>rw[hle6 _ _ (hle _ _ e)] at hy;cases hy
    refine zR ?_
    refine on (hS6.self.c1 rfl) ?_
    refine zR ?_
    refine new (fun b7 hb7=>?_)
    replace hb7:M6 b7=none:=hb7
    have hN7:NewSl M6 T.zw 1 (some ⟨b7,0,none⟩) 0 0 (([]:List Int).map zan) _:=NewSl.lit hb7 T.zw 1 0 [] rfl
    obtain⟨M7,hM7⟩:∃ M7,M7=M6.setCells b7 T.zw []:=⟨_,rfl⟩
    rw[←hM7] at hN7
    (conv=>whnf)
    erw [←hM7]
    refine zT (hN7.le) ?_
    (conv=>whnf)
    refine zdW ((hxm.le hle6).le hN7.le) ?_
    (conv=>whnf);refine zun M6 _ hN7 (by first|omega|(dsimp only;omega)) (by simp[maxLen];omega) (by simp[Value.oneCell']) fun a8 c8 M8 hcap hN8=>?_
    refine zT (hN8.le) ?_
    (conv=>whnf)
    refine new (fun r9 hr9=>?_)
    replace hr9:M8 r9=none:=hr9
    have hle9:M8.le (M8.setCells r9 T.zaa [.int .i64 x.up,.slice a8 x.more.length c8]):=Mem.le_setCells hr9
    have hself9:(M8.setCells r9 T.zaa [.int .i64 x.up,.slice a8 x.more.length c8]).has r9 T.zaa [.int .i64 x.up,.slice a8 x.more.length c8]:=Mem.has_setCells
    obtain⟨M9,hM9⟩:∃ M9,M9=M8.setCells r9 T.zaa [.int .i64 x.up,.slice a8 x.more.length c8]:=⟨_,rfl⟩
    rw[←hM9] at hle9 hself9
    rw[←Nat.zero_add x.more.length] at hM9
    (conv=>whnf)
    erw [←hM9]
    have hle69:M6.le M9:=Mem.le_trans hN8.le hle9
    have hm9:MapAt keyV zfd M9 b es:=hS6.map.mono fun o ho=>hle69 _ _ ho
    refine zR ?_
    refine hm9.put zsH (x.o,x.e) ⟨r9,a8,c8,x.up,x.more⟩ fun q2 f2 hm10=>?_
    replace hm10:=hm10 M9
    obtain⟨M10,hM10⟩:∃ M10,M10=M9.upd b (zeH q2 f2 (keyV (x.o,x.e)) (zfd ⟨r9,a8,c8,x.up,x.more⟩)):=⟨_,rfl⟩
    have hk10:Mem.keep (fun y=>y=b) M9 M10:=hM10▸Mem.keep_upd _ _ rfl
    rw[←hM10] at hm10
    (conv=>whnf)
    erw [←hM10]
    refine zR ?_
    have hown:∀ y,Ent.own ⟨r9,a8,c8,x.up,x.more⟩ y→M6 y=none:=fun y hy=>by
     rcases hy with rfl|⟨q,hq,rfl⟩
     ·cases e:M6 y with
      | none=>rfl
      | some z=>rw[hN8.le _ _ e] at hr9;cases hr9
     ·exact(hN8.block hq).1
    have hrow8:RowI M8 a8 c8 x.more:=by
     have h5:=newSl_iff.1 hN8
     obtain⟨-, h6,h7,h8⟩:=h5
     rw[Nat.zero_add] at h7 h8 h6
     refine⟨⟨h7,by rcases hcap with e|e<;>omega⟩,?_⟩
     rcases h8 with ⟨e1,e2⟩|⟨bb,cs,e1, -, e3,e4,e5⟩
     ·exact .inl ⟨e1,e2⟩
     ·refine .inr ⟨bb,0,cs,e1,e3,by omega,?_⟩
      simpa using e5
    have hE9:EntAt M9 ⟨r9,a8,c8,x.up,x.more⟩:=⟨hself9,hrow8.mono fun q o hq ho=>hle9 _ _ ho⟩
    have hE10:EntAt M10 ⟨r9,a8,c8,x.up,x.more⟩:=hE9.mono fun y o hy ho=>hk10 _ _ (fun e=>by
     subst e
     have h1:=hown _ hy
     obtain⟨l1,cc,hh,_⟩:=hS6.map
     rw[hh] at h1;cases h1) ho
    have hk610:Mem.keep (fun y=>y=b) M6 M10:=fun y o hy ho=>hk10 _ _ hy (hle69 _ _ ho)
    have hS10:=hS6.more hnk hk610 hm10 hE10 hown
    have hpa:zY es (x.o,x.e) ⟨r9,a8,c8,x.up,x.more⟩=es++[((x.o,x.e),⟨r9,a8,c8,x.up,x.more⟩)]:=by simp[zY,hnk]
    (conv=>whnf)
    refine ob (ze (by first|omega|(dsimp only;omega))) ?_
    (conv=>whnf)
    refine⟨⟨i+1,M10,_⟩,⟨by omega,fun y o hy=>hk10 _ _ (fun e=>?_) (hle69 _ _ (hle6 _ _ (hle _ _ hy))),hS10,fun y hy=>?_,?_,hF'⟩,by dsimp only;omega,zS⟩
    ·have:=hfr b (.inr (.inl rfl));rw[←e,hy] at this;cases this
    ·rw[hpa] at hy
     rcases hy with rfl|rfl|⟨q,hq,hy⟩
     ·exact hfr _ (.inl rfl)
     ·exact hfr _ (.inr (.inl rfl))
     ·rcases List.mem_append.1 hq with h1|h1
      ·exact hfr _ (.inr (.inr ⟨q,h1,hy⟩))
      ·simp only[List.mem_singleton] at h1
       subst h1
       exact hb6 _ (hown _ hy)
    ·rw[hpa,List.map_append,hes,htk];rfl
   ·refine zR ?_
    erw [←hM6]
    have hS6:=hS.le hle6
    have hF':FormP ((l.map MkC.mk').take (i+1)):=by rw[htk];exact hF.snoc hR hlast
    have hnk:zF es (x.o,x.e)=none:=by
     rw[aget_none]
     intro hin
     obtain⟨q,hq,e⟩:=List.mem_map.1 hin
     have hz:zby q∈(l.map MkC.mk').take i:=hes▸List.mem_map.2 ⟨q,hq,rfl⟩
     have hp:=hF'.2
     rw[htk,List.pairwise_append] at hp
     have h1:=hp.2.2 _ hz x.mk' (by simp)
     have e1:q.1.1=x.o:=congrArg (·.1) e
     have e2:q.1.2=x.e:=congrArg (·.2) e
     rcases h1 with h1|⟨-, h1⟩
     ·exact absurd (show q.1.1<x.o from h1) (by omega)
     ·exact absurd (show q.1.2<x.e from h1) (by omega)
    have hb6:∀ y,M6 y=none→M y=none:=fun y hy=>by
     cases e:M y with
     | none=>rfl
     | some z=>rw[hle6 _ _ (hle _ _ e)] at hy;cases hy
    refine zR ?_
    refine on (hS6.self.c1 rfl) ?_
    refine zR ?_
    refine new (fun b7 hb7=>?_)
    replace hb7:M6 b7=none:=hb7
    have hN7:NewSl M6 T.zw 1 (some ⟨b7,0,none⟩) 0 0 (([]:List Int).map zan) _:=NewSl.lit hb7 T.zw 1 0 [] rfl
    obtain⟨M7,hM7⟩:∃ M7,M7=M6.setCells b7 T.zw []:=⟨_,rfl⟩
    rw[←hM7] at hN7
    (conv=>whnf)
    erw [←hM7]
    refine zT (hN7.le) ?_
    (conv=>whnf)
    refine zdW ((hxm.le hle6).le hN7.le) ?_
    (conv=>whnf);refine zun M6 _ hN7 (by first|omega|(dsimp only;omega)) (by simp[maxLen];omega) (by simp[Value.oneCell']) fun a8 c8 M8 hcap hN8=>?_
    refine zT (hN8.le) ?_
    (conv=>whnf)
    refine new (fun r9 hr9=>?_)
    replace hr9:M8 r9=none:=hr9
    have hle9:M8.le (M8.setCells r9 T.zaa [.int .i64 x.up,.slice a8 x.more.length c8]):=Mem.le_setCells hr9
    have hself9:(M8.setCells r9 T.zaa [.int .i64 x.up,.slice a8 x.more.length c8]).has r9 T.zaa [.int .i64 x.up,.slice a8 x.more.length c8]:=Mem.has_setCells
    obtain⟨M9,hM9⟩:∃ M9,M9=M8.setCells r9 T.zaa [.int .i64 x.up,.slice a8 x.more.length c8]:=⟨_,rfl⟩
    rw[←hM9] at hle9 hself9
    rw[←Nat.zero_add x.more.length] at hM9
    (conv=>whnf)
    erw [←hM9]
    have hle69:M6.le M9:=Mem.le_trans hN8.le hle9
    have hm9:MapAt keyV zfd M9 b es:=hS6.map.mono fun o ho=>hle69 _ _ ho
    refine zR ?_
    refine hm9.put zsH (x.o,x.e) ⟨r9,a8,c8,x.up,x.more⟩ fun q2 f2 hm10=>?_
    replace hm10:=hm10 M9
    obtain⟨M10,hM10⟩:∃ M10,M10=M9.upd b (zeH q2 f2 (keyV (x.o,x.e)) (zfd ⟨r9,a8,c8,x.up,x.more⟩)):=⟨_,rfl⟩
    have hk10:Mem.keep (fun y=>y=b) M9 M10:=hM10▸Mem.keep_upd _ _ rfl
    rw[←hM10] at hm10
    (conv=>whnf)
    erw [←hM10]
    refine zR ?_
    have hown:∀ y,Ent.own ⟨r9,a8,c8,x.up,x.more⟩ y→M6 y=none:=fun y hy=>by
     rcases hy with rfl|⟨q,hq,rfl⟩
     ·cases e:M6 y with
      | none=>rfl
      | some z=>rw[hN8.le _ _ e] at hr9;cases hr9
     ·exact(hN8.block hq).1
    have hrow8:RowI M8 a8 c8 x.more:=by
     have h5:=newSl_iff.1 hN8
     obtain⟨-, h6,h7,h8⟩:=h5
     rw[Nat.zero_add] at h7 h8 h6
     refine⟨⟨h7,by rcases hcap with e|e<;>omega⟩,?_⟩
     rcases h8 with ⟨e1,e2⟩|⟨bb,cs,e1, -, e3,e4,e5⟩
     ·exact .inl ⟨e1,e2⟩
     ·refine .inr ⟨bb,0,cs,e1,e3,by omega,?_⟩
      simpa using e5
    have hE9:EntAt M9 ⟨r9,a8,c8,x.up,x.more⟩:=⟨hself9,hrow8.mono fun q o hq ho=>hle9 _ _ ho⟩
    have hE10:EntAt M10 ⟨r9,a8,c8,x.up,x.more⟩:=hE9.mono fun y o hy ho=>hk10 _ _ (fun e=>by
     subst e
     have h1:=hown _ hy
     obtain⟨l1,cc,hh,_⟩:=hS6.map
     rw[hh] at h1;cases h1) ho
    have hk610:Mem.keep (fun y=>y=b) M6 M10:=fun y o hy ho=>hk10 _ _ hy (hle69 _ _ ho)
    have hS10:=hS6.more hnk hk610 hm10 hE10 hown
    have hpa:zY es (x.o,x.e) ⟨r9,a8,c8,x.up,x.more⟩=es++[((x.o,x.e),⟨r9,a8,c8,x.up,x.more⟩)]:=by simp[zY,hnk]
    (conv=>whnf)
    refine ob (ze (by first|omega|(dsimp only;omega))) ?_
    (conv=>whnf)
    refine⟨⟨i+1,M10,_⟩,⟨by omega,fun y o hy=>hk10 _ _ (fun e=>?_) (hle69 _ _ (hle6 _ _ (hle _ _ hy))),hS10,fun y hy=>?_,?_,hF'⟩,by dsimp only;omega,zS⟩
    ·have:=hfr b (.inr (.inl rfl));rw[←e,hy] at this;cases this
    ·rw[hpa] at hy
     rcases hy with rfl|rfl|⟨q,hq,hy⟩
     ·exact hfr _ (.inl rfl)
     ·exact hfr _ (.inr (.inl rfl))
     ·rcases List.mem_append.1 hq with h1|h1
      ·exact hfr _ (.inr (.inr ⟨q,h1,hy⟩))
      ·simp only[List.mem_singleton] at h1
       subst h1
       exact hb6 _ (hown _ hy)
    ·rw[hpa,List.map_append,hes,htk];rfl
 have hge:i=n:=by have:=Zd1 g2;dsimp only at this;omega
 subst hge
 rw[List.take_of_length_le (by simp;omega)] at hF hes
 have hI:=InvE.of (es:=es) (hes▸hF)
 have hge:zaH es=zcr (l.map MkC.mk'):=by rw[←hes,zcr,List.map_map];rfl
 refine zR ?_
 have hsl:∀ L:List MkC,(∀ m∈L,m.more.length≤1048576)→zcr (L.map MkC.mk')≤L.length*1048576:=fun L=>by
  induction L with
  | nil=>intro _;simp[zcr]
  | cons m r ih=>
   intro h
   have h1:=ih fun z hz=>h z (by simp[hz])
   have h2:=h m (by simp)
   simp only[zcr,List.map_cons,List.sum_cons,List.length_cons,MkC.mk'] at h1 ⊢
   omega
 have hs2:=hsl l hfl
 refine(zxg hS (by omega)).mono ?_
 rintro v M2 ⟨rfl,hle2⟩
 rw[hge]
 (conv=>whnf)
 refine brn (fun g3=>?_) (fun g3=>?_)
 ·replace g3:=Zd0 g3
  refine zR ?_
  exact⟨6,.inr (.inr (.inl ⟨hg,hF,g3,rfl⟩)),.inl ⟨by decide,rfl,Mem.le_trans hle hle2⟩⟩
 ·replace g3:=Zd1 g3
  refine zR ?_
  exact⟨0,.inr (.inr (.inr ⟨hg,hF,by omega,rfl⟩)),.inr ⟨rfl,p,b,es,rfl,⟨Mem.le_trans hle hle2,hS.le hle2,hI,⟨by omega,by omega⟩,hfr⟩,hes⟩⟩
end
end Go.Proofs.YtpdkkbpkplhdpaaGreat
