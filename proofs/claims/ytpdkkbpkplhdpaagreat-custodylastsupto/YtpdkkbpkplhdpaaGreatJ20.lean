/- Part of this proof;laid by program. -/
import Derived.Test.YtpdkkbpkplhdpaaGreatJ19
import Derived.Test.YtpdkkbpkplhdpaaGreatJ18
import Derived.Test.YtpdkkbpkplhdpaaGreatJ16
set_option linter.unusedVariables false
set_option linter.unusedSimpArgs false
namespace Go.Proofs.YtpdkkbpkplhdpaaGreat
open Go Go.Vm
attribute [local irreducible] Brn Ob Grow CallsM inR zax zav Mem.row Mem.cells Mem.setCells Mem.upd Go.Vm.Own zaD za5 zbc zaJ New SrcOk subA NewSl Mem.textAt Mem.mapAt Mem.iterAt zau zaj Wr NewEls Elems
set_option maxRecDepth 10000
section
variable {M:Mem} {a:Option Addr} {n c:Nat} {L:List K}
def zi3 (L:List K):Nat:=((zb7 L).map fun m=>m.more.length).sum
def zgq:List Mk→Int→Int→Int
 | [],_,_=>1
 | m::r,o,e=>if m.o=o∧m.e=e then m.up+1 else zgq r o e
def zhT (L:List K) (o e:Int):Int:=zgq (zb7 L) o e
def zn0 (L:List K) (o d e c:Int):Bool:=decide (za4 o d e c=0)&&decide ((⟨o,e,c⟩:K)∈L)
def zfo (room:Int) (L:List K) (o d e c:Int):Int:=
 if za4 o d e c≠0 then za4 o d e c else if zn0 L o d e c then 5 else if c≠zhT L o e∧room≤zi3 L then 6 else 0
theorem zBM (hs:SrcOk M 3 a n (L.flatMap zfF)) (hn:n≤4194000) (room:Int):CallsM Tryz.prog F.zjx [zmi room a n c] M fun v M'=>v = .int .i64 (zi3 L)∧M.le M':=by
 refine zul (by simp) ?_;(conv=>whnf);refine(znZ hs hn room).mono ?_;rintro v M1 ⟨a1,c1,l,rfl,hW,hl,hln,hfew⟩;have hg:zi3 L=(l.map fun m=>m.more.length).sum:=by rw[zi3,←hl,List.map_map];rfl
 (conv=>whnf);refine zdc (σ:=Nat×Nat) [5,4] (fun y=>[(5,.int .i64 y.1),(4,.int .i64 y.2)]) (fun|⟨i,s⟩=>i≤l.length∧s≤i*4194304∧s+((l.drop i).map fun m=>m.more.length).sum=zi3 L) (fun y=>l.length - y.1) ⟨0,0⟩ ⟨by omega,by omega,by simp[hg]⟩ zS ?_;rintro ⟨i,s⟩ ⟨hi,hsb,hsum⟩;(conv=>whnf);refine brn (fun g=>?_) (fun g=>?_)
 ·have hlt:i<l.length:=by have:=Zd0 g;dsimp only at this;omega
  have hx:l[i]? = some l[i]:=List.getElem?_eq_getElem hlt;obtain⟨b1,o1,rfl,hcc⟩:=hW.row.src.fcells zaS (by decide) hx;have hf:=(hfew l[i] (List.getElem_mem _)).2
  rw[List.drop_eq_getElem_cons hlt,List.map_cons,List.sum_cons] at hsum;(conv=>whnf);refine ob (by first|omega|(dsimp only;omega)) ?_;(conv=>whnf);refine on (hcc 3 _ rfl) ?_;(conv=>whnf);refine ob (zd (by first|omega|(dsimp only;omega))) ?_;(conv=>whnf);refine ob (zd (by first|omega|(dsimp only;omega))) ?_;(conv=>whnf)
  exact⟨⟨i+1,s+l[i].more.length⟩,⟨by omega,by omega,by omega⟩,by dsimp only;omega,zS⟩
 ·have hge:l.length≤i:=by have:=Zd1 g;dsimp only at this;omega
  rw[List.drop_of_length_le hge] at hsum;simp only[List.map_nil,List.sum_nil,Nat.add_zero] at hsum;(conv=>whnf)
  exact⟨by dsimp only;rw[hsum],hW.row.le⟩
theorem zBN (hs:SrcOk M 3 a n (L.flatMap zfF)) (hn:n≤4194000) (room o d e x:Int):CallsM Tryz.prog F.zjw [zmi room a n c,idV o d e x] M fun v M'=>v = .int .i64 (zhT L o e)∧M.le M':=by
 refine zuk (by simp) ?_;(conv=>whnf);refine(znZ hs hn room).mono ?_;rintro v M1 ⟨a1,c1,l,rfl,hW,hl,hln,hfew⟩;have hg:zhT L o e=zgq (l.map MkC.mk') o e:=by rw[zhT,hl]
 (conv=>whnf);refine zdc [6] (fun (i:Nat)=>[(6,.int .i64 i)]) (fun i=>i≤l.length∧zhT L o e=zgq ((l.drop i).map MkC.mk') o e) (fun i=>l.length - i) 0 ⟨by omega,by simp[hg]⟩ zS ?_;intro i ⟨hi,hnx⟩;(conv=>whnf);refine brn (fun g=>?_) (fun g=>?_)
 ·have hlt:i<l.length:=by have:=Zd0 g;omega
  have hx:l[i]? = some l[i]:=List.getElem?_eq_getElem hlt;obtain⟨b1,o1,rfl,hcc⟩:=hW.row.src.fcells zaS (by decide) hx;have hf:=(hfew l[i] (List.getElem_mem _)).1
  rw[List.drop_eq_getElem_cons hlt,List.map_cons] at hnx;generalize l[i]=m at *;have hne:¬(m.o=o∧m.e=e)→zhT L o e=zgq ((l.drop (i+1)).map MkC.mk') o e:=fun h=>hnx.trans (if_neg h)
  refine zR ?_;refine ob (by first|omega|(dsimp only;omega)) ?_;(conv=>whnf);refine on (hcc 0 _ rfl) ?_;(conv=>whnf);refine brn (fun g1=>?_) (fun g1=>?_)
  ·have e1:m.o=o:=Zd0 g1;refine zR ?_;refine ob (by first|omega|(dsimp only;omega)) ?_;(conv=>whnf);refine on (hcc 1 _ rfl) ?_;(conv=>whnf);refine brn (fun g2=>?_) (fun g2=>?_)
   ·have e2:m.e=e:=Zd0 g2;refine zR ?_;refine ob (by first|omega|(dsimp only;omega)) ?_;(conv=>whnf);refine on (hcc 2 _ rfl) ?_;(conv=>whnf);refine ob (zd (by first|omega|(dsimp only;omega))) ?_;(conv=>whnf)
    exact⟨by rw[hnx,zgq,if_pos ⟨e1,e2⟩];rfl,hW.row.le⟩
   ·(conv=>whnf);refine ob (zd (by first|omega|(dsimp only;omega))) ?_;(conv=>whnf)
    exact⟨i+1,⟨by omega,hne fun h=>Zd1 g2 h.2⟩,by omega,zS⟩
  ·(conv=>whnf);refine ob (zd (by first|omega|(dsimp only;omega))) ?_;(conv=>whnf)
   exact⟨i+1,⟨by omega,hne fun h=>Zd1 g1 h.1⟩,by omega,zS⟩
 ·have hge:l.length≤i:=by have:=Zd1 g;omega
  rw[List.drop_of_length_le hge] at hnx;(conv=>whnf)
  exact⟨by rw[hnx];rfl,hW.row.le⟩
theorem zDc (hs:SrcOk M 3 a n (L.flatMap zfF)) (hn:n≤4194000) (room o d e x:Int):CallsM Tryz.prog F.zkS [zmi room a n c,idV o d e x] M fun v M'=>v = .bool (zn0 L o d e x)∧M=M':=by
 refine zvE (by simp) ?_;(conv=>whnf);refine(zgP o d e x M).mono ?_;rintro v _ ⟨rfl,rfl⟩;(conv=>whnf);refine brn (fun g=>?_) (fun g=>?_)
 ·have h0:za4 o d e x=0:=Zd0 g;(conv=>whnf);refine(zAE hs (by omega) room ⟨o,e,x⟩).mono ?_;rintro v _ ⟨rfl,rfl⟩;refine zR ?_;exact⟨by simp[zn0,h0],rfl⟩
 ·have h0:¬za4 o d e x=0:=Zd1 g;refine zR ?_;exact⟨by simp[zn0,h0],rfl⟩
end
section
variable {M:Mem} {a:Option Addr} {n c:Nat} {L:List K}
theorem zsW (hs:SrcOk M 3 a n (L.flatMap zfF)) (hn:n≤4194000) (room o d e x:Int):CallsM Tryz.prog F.zgn [zmi room a n c,idV o d e x] M fun v M'=>v = .int .i64 (zfo room L o d e x)∧M.le M':=by
 refine zvs (by simp) ?_;(conv=>whnf);refine(zgP o d e x M).mono ?_;rintro v _ ⟨rfl,rfl⟩;(conv=>whnf);refine brn (fun g=>?_) (fun g=>?_)
 ·have h0:¬za4 o d e x=0:=by simpa using g
  (conv=>whnf);refine(zgP o d e x M).mono ?_;rintro v _ ⟨rfl,rfl⟩;refine zR ?_;exact⟨by simp[zfo,h0],Mem.le_refl _⟩
 have h0:za4 o d e x=0:=by simpa using g
 (conv=>whnf);refine(zDc hs hn room o d e x).mono ?_;rintro v _ ⟨rfl,rfl⟩;(conv=>whnf);refine brn (fun g1=>?_) (fun g1=>?_)
 ·have h1:zn0 L o d e x=true:=g1;refine zR ?_;exact⟨by simp[zfo,h0,h1],Mem.le_refl _⟩
 have h1:zn0 L o d e x=false:=g1;refine zR ?_;refine(zBN hs hn room o d e x).mono ?_;rintro v M1 ⟨rfl,hle1⟩;refine zT (hle1) ?_;refine brn (fun g2=>?_) (fun g2=>?_)
 ·have h2:¬x=zhT L o e:=by simpa using g2
  refine zT (hle1) ?_;refine(zBM (hs.le hle1) hn room).mono ?_;rintro v M2 ⟨rfl,hle2⟩;refine zT ((Mem.le_trans hle1 hle2)) ?_;refine brn (fun g3=>?_) (fun g3=>?_)
  ·have h3:room≤zi3 L:=Zd0 g3;refine zR ?_;exact⟨by simp[zfo,h0,h1,h2,h3],Mem.le_trans hle1 hle2⟩
  ·have h3:¬room≤zi3 L:=Zd1 g3;refine zR ?_;exact⟨by simp[zfo,h0,h1,h3],Mem.le_trans hle1 hle2⟩
 ·have h2:x=zhT L o e:=by simpa using g2
  refine zT (hle1) ?_;(conv=>whnf)
  have:zfo room L o d e x=0:=by
   unfold zfo;rw[if_neg (fun h=>h h0),h1,if_neg (by simp),if_neg (fun h=>h.1 h2)]
  exact⟨by rw[this],hle1⟩
theorem zDd (hs:SrcOk M 3 a n (L.flatMap zfF)) (hn:n≤4194000) (room o d e x:Int):CallsM Tryz.prog F.zkP [zmi room a n c,idV o d e x] M fun v M'=>
  (zfo room L o d e x≠0∧v = .tuple #[zmi room a n c,.int .i64 (zfo room L o d e x)]∧M.le M') ∨
  (zfo room L o d e x=0∧∃ a' c',v = .tuple #[zmi room a' (n+1) c',.int .i64 0]∧NewSl M T.zbm 3 a' (n+1) c' ((putK ⟨o,e,x⟩ L).flatMap zfF) M'):=by
 refine zvl (by simp) ?_;(conv=>whnf);refine(zsW hs hn room o d e x).mono ?_;rintro v M1 ⟨rfl,hle1⟩;(conv=>whnf);refine brn (fun g=>?_) (fun g=>?_)
 ·have h0:¬zfo room L o d e x=0:=by simpa using g
  refine zR ?_;refine(zsW (hs.le hle1) hn room o d e x).mono ?_;rintro v M2 ⟨rfl,hle2⟩;refine zT (hle2) ?_;(conv=>whnf)
  exact .inl ⟨h0,rfl,Mem.le_trans hle1 hle2⟩
 have h0:zfo room L o d e x=0:=by simpa using g
 refine zR ?_;refine(zC8 (hs.le hle1) hn ⟨o,e,x⟩).mono ?_;rintro v M2 ⟨a',c',rfl,hN⟩;refine zT (hN.le) ?_;(conv=>whnf)
 exact .inr ⟨h0,a',c',rfl,hN.mono hle1⟩
end
end Go.Proofs.YtpdkkbpkplhdpaaGreat
namespace Go.Proofs.YtpdkkbpkplhdpaaGreat
open Go Go.Vm
structure RelS (es:EsT) (L:List K):Prop where
 inv:InvE es
 sort:zCt L
 same:∀ o e c,inE es o e c↔zit L o e c
theorem RelS.nil:RelS [] []:=⟨InvE.nil,⟨by simp,by simp⟩,fun o e c=>by
 simp only[inE,inM,zck,zbZ,zD,List.not_mem_nil,or_false,zit,iff_false];omega⟩
theorem RelS.canon {es:EsT} {L:List K} (h:RelS es L):Canon (inE es) (zb7 L):=(zwf h.sort).of h.same
theorem RelS.marks {es:EsT} {L:List K} (h:RelS es L) {l:List Mk} (hc:Canon (inE es) l):l=zb7 L:=hc.uniq h.canon
theorem RelS.perm {es:EsT} {L:List K} (h:RelS es L):(zb7 L).Perm (es.map zbe):=by
 obtain⟨toC,htoC⟩:∃ toC:Mk→MkC,toC=fun m=>⟨m.o,m.e,m.up,none,0,m.more⟩:=⟨_,rfl⟩
 have hto:∀ m,(toC m).mk'=m:=fun m=>by rw[htoC];rfl
 obtain⟨le,hle⟩:∃ le:Mk→Mk→Bool,le=fun x y=>decide (¬(y.o<x.o∨(y.o=x.o∧y.e<x.e))):=⟨_,rfl⟩
 have hs:((es.map zbe).mergeSort le).Pairwise (fun a b=>le a b=true):=List.pairwise_mergeSort (fun a b c=>by rw[hle];simp only[decide_eq_true_eq];omega) (fun a b=>by rw[hle];simp only[Bool.or_eq_true,decide_eq_true_eq];omega) _;have hp:((es.map zbe).mergeSort le).Perm (es.map zbe):=List.mergeSort_perm _ _
 have hid:(((es.map zbe).mergeSort le).map toC).map MkC.mk'=(es.map zbe).mergeSort le:=by
  rw[List.map_map,List.map_congr_left (f:=MkC.mk'∘toC) (g:=id) (fun m _=>hto m),List.map_id]
 have hc:=zhS h.inv (l:=((es.map zbe).mergeSort le).map toC) (by rw[hid];exact hp) (by
  rw[List.pairwise_map];refine hs.imp fun {x y} hxy=>?_
  rw[zhG];rw[hle] at hxy;rw[htoC]
  exact Zd0 hxy)
 rw[hid] at hc;rw[←h.marks hc];exact hp
theorem RelS.gaps {es:EsT} {L:List K} (h:RelS es L):zaI es=zi3 L:=by
 have:=(h.perm.map fun m=>m.more.length).sum_nat;rw[zi3,this,List.map_map];rfl
theorem zpo:∀ {l:List Mk} {o e:Int} {m:Mk},l.Pairwise zbJ→m∈l→m.o=o→m.e=e→zgq l o e=m.up+1
 | [],_,_,_,_,hm,_,_=>by cases hm
 | x::r,o,e,m,hp,hm,e1,e2=>by
  unfold zgq;split
  ·rename_i h;rw[zjY hp (x:=x) (y:=m) (by simp) hm (by omega) (by omega)]
  ·rename_i h;rcases List.mem_cons.1 hm with h1|h1
   ·subst h1;exact absurd ⟨e1,e2⟩ h
   ·exact zpo (List.pairwise_cons.1 hp).2 h1 e1 e2
theorem zpp:∀ {l:List Mk} {o e:Int},(∀ m∈l,¬(m.o=o∧m.e=e))→zgq l o e=1
 | [],_,_,_=>rfl
 | x::r,o,e,h=>by
  unfold zgq;rw[if_neg (h x (by simp))];exact zpp fun m hm=>h m (by simp[hm])
theorem RelS.next {es:EsT} {L:List K} (h:RelS es L) (o e:Int):zhT L o e=zck es (o,e)+1:=by
 unfold zhT zck;cases hx:zD es (o,e) with
 | some x=>
  have hm:zbe ((o,e),x)∈zb7 L:=h.perm.mem_iff.2 (List.mem_map.2 ⟨_,zN hx,rfl⟩);exact zpo h.canon.sorted hm rfl rfl
 | none=>
  refine zpp fun m hm ⟨e1,e2⟩=>?_
  obtain⟨q,hq,rfl⟩:=List.mem_map.1 (h.perm.mem_iff.1 hm)
  exact aget_none.1 hx (List.mem_map.2 ⟨q,hq,by
   obtain⟨⟨a,b⟩,z⟩:=q;simp only[zbe] at e1 e2 ⊢
   rw[e1,e2]⟩)
theorem RelS.has {es:EsT} {L:List K} (h:RelS es L) (o d e c:Int):zgh es o d e c=zn0 L o d e c:=by
 unfold zn0;by_cases h0:za4 o d e c=0
 ·rw[decide_eq_true h0,Bool.true_and];by_cases h1:inE es o e c
  ·rw[(zqt h0).2 h1];have h2:(⟨o,e,c⟩:K)∈L:=(h.same o e c).1 h1
   exact(decide_eq_true h2).symm
  ·have:zgh es o d e c=false:=by rw[←Bool.not_eq_true,zqt h0];exact h1
   rw[this];have h2:¬(⟨o,e,c⟩:K)∈L:=fun h2=>h1 ((h.same o e c).2 h2)
   exact(decide_eq_false h2).symm
 ·simp[zgh,h0]
theorem RelS.may {es:EsT} {L:List K} (h:RelS es L) (gaps:Int) (o d e c:Int):zc9 gaps es o d e c=zfo gaps L o d e c:=by
 unfold zc9 zfo;rw[h.has,h.next,h.gaps]
theorem RelS.step {es es':EsT} {L:List K} (h:RelS es L) {gaps:Int} {o d e c:Int} (hst:zuP gaps es es' o d e c) :
  (zfo gaps L o d e c≠0∧RelS es' L)∨(zfo gaps L o d e c=0∧RelS es' (putK ⟨o,e,c⟩ L)):=by
 rw[←h.may];rcases hst with ⟨hne,rfl⟩|⟨hz,x,rfl,hx⟩
 ·exact .inl ⟨hne,h⟩
 ·obtain⟨hid,hni, -⟩:=znY hz;obtain⟨-, hc1, -⟩:=zi2 hid;obtain⟨i1,i2, -, -⟩:=zx6 h.inv hz hx;have hnk:(⟨o,e,c⟩:K)∉L:=fun hm=>hni ((h.same _ _ _).2 hm)
  refine .inr ⟨hz,i1,⟨zpn _ h.sort.1 hnk,fun k hk=>?_⟩,fun o' e' c'=>?_⟩
  ·rcases(zmn _ _ _).1 hk with rfl|h1
   ·exact hc1
   ·exact h.sort.2 k h1
  ·rw[i2,h.same];unfold zit;rw[zmn];simp
end Go.Proofs.YtpdkkbpkplhdpaaGreat
namespace Go.Proofs.YtpdkkbpkplhdpaaGreat
open Go Go.Vm
attribute [local irreducible] Brn Ob Grow CallsM inR zax Mem.row Mem.cells Mem.setCells Mem.upd Go.Vm.Own zaD za5 zbc zaJ New SrcOk subA
def zfk (a b c d:Int) (n:Nat):Int:=if za4 a b c d≠0 then za4 a b c d else if n=0 then 2 else if 48<n then 3 else 0
set_option maxRecDepth 10000 in
theorem zlg (a b c d:Int) (p:Option Addr) (n k:Nat) (M:Mem):CallsM Tryz.prog F.zeQ [.agg #[.int .i64 a,.int .i64 b,.int .i64 c,.int .i64 d,.slice p n k]] M fun v M'=>v = .int .i64 (zfk a b c d n)∧M=M':=by
 refine zrm (by simp) ?_;(conv=>whnf)
 repeat' ((conv=>whnf);first
  | (refine(zgG _ _ _ _ _).mono ?_;rintro v M' ⟨rfl,rfl⟩)
  | refine brn (fun h=>?_) (fun h=>?_))
 all_goals (conv=>whnf)
 all_goals (refine⟨?_,rfl⟩;simp_all [zfk])
 all_goals omega
set_option maxRecDepth 10000 in
theorem zwg (a b c d:Int) (p:Option Addr) (n k:Nat) (M:Mem):CallsM Tryz.prog F.zgB [.agg #[.int .i64 a,.int .i64 b,.int .i64 c,.int .i64 d,.slice p n k]] M fun v M'=>v = .int .i64 (zfk a b c d n)∧M=M':=by
 refine zoK (by simp) ?_;(conv=>whnf)
 repeat' ((conv=>whnf);first
  | (refine(zgP _ _ _ _ _).mono ?_;rintro v M' ⟨rfl,rfl⟩)
  | refine brn (fun h=>?_) (fun h=>?_))
 all_goals (conv=>whnf)
 all_goals (refine⟨?_,rfl⟩;simp_all [zfk])
 all_goals omega
set_option maxRecDepth 10000 in
theorem zxA (a b c d a' b' c' d':Int) (p p':Option Addr) (n k n' k':Nat) (M:Mem) (l l':List UInt8) (h1:SrcOk M 1 p n (l.map zl)) (h2:SrcOk M 1 p' n' (l'.map zl)) :
  CallsM Tryz.prog F.zjq [.agg #[.int .i64 a,.int .i64 b,.int .i64 c,.int .i64 d,.slice p n k],.agg #[.int .i64 a',.int .i64 b',.int .i64 c',.int .i64 d',.slice p' n' k']] M fun v M'=>
   v = .bool (decide ((a=a'∧b=b'∧c=c'∧d=d')∧l=l'))∧M=M':=by
 refine ztU (by simp) ?_;(conv=>whnf)
 repeat' ((conv=>whnf);first
  | refine zyD h1 ?_
  | refine zyD h2 ?_
  | refine brn (fun h=>?_) (fun h=>?_))
 all_goals (conv=>whnf)
 all_goals (refine⟨?_,rfl⟩;simp_all)
end Go.Proofs.YtpdkkbpkplhdpaaGreat
namespace Go.Proofs.YtpdkkbpkplhdpaaGreat
open Go Go.Vm
attribute [local irreducible] Brn Ob Grow CallsM inR zax zav Mem.row Mem.cells Mem.setCells Mem.upd Go.Vm.Own zaD za5 zbc zaJ New SrcOk subA NewSl Mem.textAt Mem.mapAt Mem.iterAt zau zaj Wr NewEls Elems
set_option maxRecDepth 10000
section
structure zby where
 id:IdT
 p:List UInt8
deriving DecidableEq
structure StR where
 self:Int
 qh:Int
 qb:Int
 qg:Int
 epoch:Int
 used:List Int
 l:List zby
structure EvD where
 kind:Int
 id:IdT
 p:List UInt8
@[reducible] def zdJ (i:IdT):Int:=za4 i.o i.d i.e i.c
@[reducible] def zdm (i:IdT) (n:Nat):Int:=zfk i.o i.d i.e i.c n
def zey (i:IdT):Prop:=i.o=0∧i.d=0∧i.e=0∧i.c=0
instance (i:IdT):Decidable (zey i):=by unfold zey;infer_instance
def zaF (k:Int) (i:IdT) (n:Nat):Int:=
 if k=1 then (if ¬zey i∨0<n then 2 else 0)
 else if k=2 then zdm i n
 else if k=3∨k=4 then (if zdJ i≠0 then zdJ i else if 0<n then 2 else 0)
 else 1
def zm (l:List zby):Nat:=(l.map fun m=>m.p.length).sum
def zda (l:List zby) (i:IdT):Bool:=l.any fun m=>decide (m.id=i)
def zag (S:StR) (set:IdT→Int) (k:Int) (i:IdT) (n:Nat):Int:=
 if zaF k i n≠0 then zaF k i n
 else if k=1 then (if S.epoch=65535 then 10 else 0)
 else if k=2 then (if i.d=S.self∨(i.o=S.self∧S.epoch<i.e) then 2 else if zda S.l i then 5 else if S.qh≤S.l.length∨S.qb<zm S.l+n then 6 else 0)
 else if k=3 then (if zda S.l i then 0 else 4)
 else (if i.d≠S.self then 2 else set i)
def zcL (S:StR) (d:Int):Int:=S.used.getD d.toNat 0
def zJ (S:StR) (k:Int) (i:IdT) (p:List UInt8):StR:=
 if k=1 then { S with epoch:=S.epoch+1,used:=List.replicate 64 0 }
 else if k=2 then { S with l:=S.l++[⟨i,p⟩],used:=if i.o=S.self∧i.e=S.epoch then S.used.set i.d.toNat (max (zcL S i.d) i.c) else S.used }
 else if k=3 then { S with l:=S.l.filter fun m=>decide (m.id≠i) }
 else S
structure zeh (S:StR):Prop where
 self:0≤S.self∧S.self≤63
 epoch:0≤S.epoch∧S.epoch≤65535
 ulen:S.used.length=64
 used:∀ n∈S.used,0≤n∧n≤65535
 qh:(S.l.length:Int)≤S.qh∧S.qh≤2097152
 qb:(zm S.l:Int)≤S.qb∧S.qb≤134217728
 msgs:∀ m∈S.l,zdm m.id m.p.length=0∧m.id.d≠S.self∧(m.id.o=S.self→m.id.e≤S.epoch)
 nodup:(S.l.map (·.id)).Nodup
structure PX where
 id:IdT
 a:Option Addr
 c:Nat
 p:List UInt8
 n:Int
@[reducible] def PX.msg (x:PX):zby:=⟨x.id,x.p⟩
abbrev HsT:=List (IdT×PX)
@[reducible] def idA (i:IdT):Value := .agg #[.int .i64 i.o,.int .i64 i.d,.int .i64 i.e,.int .i64 i.c]
@[reducible] def pxV (x:PX):Value := .agg #[.int .i64 x.id.o,.int .i64 x.id.d,.int .i64 x.id.e,.int .i64 x.id.c,.slice x.a x.p.length x.c,.int .i64 x.n]
theorem idK:zku idA:=by
 intro a b;obtain⟨a1,a2,a3,a4⟩:=a;obtain⟨b1,b2,b3,b4⟩:=b;simp only[zfN,zb2,if_true,IdT.mk.injEq]
 (repeat' split)<;>simp_all
@[reducible] def zH (S:StR) (b:Nat) (came:Int) (bytes:Int) (sp:Nat):List Value:=
 [.int .i64 S.self,.int .i64 S.qh,.int .i64 S.qb,.int .i64 S.qg,.int .i64 S.epoch]++S.used.map zaa++[.map (some b),.int .i64 came,.int .i64 bytes,ptr sp]
structure StAt (M:Mem) (p b sp sb:Nat) (S:StR) (came:Int) (xs:HsT) (es:EsT):Prop where
 self:M.has p T.zo (zH S b came (zm S.l) sp)
 map:MapAt idA pxV M b xs
 data:∀ q∈xs,Wr M T.zn 1 q.2.a q.2.p.length q.2.c (q.2.p.map zl)
 set:SetAt M sp sb S.qg es
 held:xs.map (fun q=>q.2.msg)=S.l
 keys:∀ q∈xs,q.2.id=q.1
 ord:xs.Pairwise fun x y=>x.2.n<y.2.n
 came:0≤came∧∀ q∈xs,0≤q.2.n∧q.2.n<came
 ne:b≠sb
def stB (p b sp sb:Nat) (xs:HsT) (es:EsT):Nat→Prop:=fun y=>y=p∨y=b∨(∃ q∈xs,z6 q.2.a y)∨setB sp sb es y
variable {M:Mem} {p b sp sb:Nat} {S:StR} {came:Int} {xs:HsT} {es:EsT}
theorem SetAt.mono {M':Mem} {gaps:Int} (h:SetAt M sp sb gaps es) (hk:∀ y o,setB sp sb es y→M y=some o→M' y=some o):SetAt M' sp sb gaps es:=
 ⟨hk _ _ (.inl rfl) h.self,h.map.mono fun o ho=>hk _ _ (.inr (.inl rfl)) ho,fun q hq=>(h.ents q hq).mono fun y o hy ho=>hk y o (.inr (.inr ⟨q,hq,hy⟩)) ho,h.apart⟩
theorem StAt.mono {M':Mem} (h:StAt M p b sp sb S came xs es) (hk:∀ y o,stB p b sp sb xs es y→M y=some o→M' y=some o):StAt M' p b sp sb S came xs es:=
 ⟨hk _ _ (.inl rfl) h.self,h.map.mono fun o ho=>hk _ _ (.inr (.inl rfl)) ho,fun q hq=>(h.data q hq).mono fun y o hy ho=>hk _ o (.inr (.inr (.inl ⟨q,hq,_,hy,rfl⟩))) ho,h.set.mono fun y o hy ho=>hk y o (.inr (.inr (.inr hy))) ho,h.held,h.keys,h.ord,h.came,h.ne⟩
theorem StAt.le {M':Mem} (h:StAt M p b sp sb S came xs es) (hle:M.le M'):StAt M' p b sp sb S came xs es:=h.mono fun y o _=>hle y o
theorem zcU (hu:S.used.length=64) (b:Nat) (came bytes:Int) (sp:Nat):(zH S b came bytes sp).length=73:=by simp[hu]
theorem ze8 (hu:S.used.length=64) (b:Nat) (came bytes:Int) (sp:Nat):(zH S b came bytes sp)[69]? = some (.map (some b)):=by
 simp[hu]
theorem zto (hu:S.used.length=64) (b:Nat) (came bytes:Int) (sp:Nat):(zH S b came bytes sp)[70]? = some (.int .i64 came):=by
 simp[hu]
theorem zhn (hu:S.used.length=64) (b:Nat) (came bytes:Int) (sp:Nat):(zH S b came bytes sp)[71]? = some (.int .i64 bytes):=by
 simp[hu]
theorem zmo (hu:S.used.length=64) (b:Nat) (came bytes:Int) (sp:Nat):(zH S b came bytes sp)[72]? = some (ptr sp):=by
 simp[hu]
theorem ztp (hu:S.used.length=64) (b:Nat) (came bytes:Int) (sp:Nat) {d:Nat} (hd:d<64):(zH S b came bytes sp)[5+d]? = some (.int .i64 (S.used.getD d 0)):=by
 have h:d<S.used.length:=by omega
 rw[Nat.add_comm 5 d];simp[List.getElem?_append,h]
end
section
variable {M:Mem} {p b sp sb:Nat} {S:StR} {came:Int} {xs:HsT} {es:EsT}
theorem zjZ (n most:Int):CallsM Tryz.prog F.zdN [.int .i64 n,.int .i64 most] M fun v M'=>v = .bool (decide (0≤n∧n≤most))∧M=M':=by
 refine zw9 (by simp) ?_;(conv=>whnf);refine brn (fun h=>?_) (fun h=>?_)
 all_goals (conv=>whnf)
 ·exact⟨by have:=Zd0 h;simp_all,rfl⟩
 ·exact⟨by have:=Zd1 h;simp_all;omega,rfl⟩
theorem zx8 (k:Int) (i:IdT) (a:Option Addr) (n c:Nat):CallsM Tryz.prog F.zg9 [.agg #[.int .i64 k,.int .i64 i.o,.int .i64 i.d,.int .i64 i.e,.int .i64 i.c,.slice a n c]] M fun v M'=>v = .int .i64 (zaF k i n)∧M=M':=by
 refine zun (by simp) ?_;(conv=>whnf);refine brn (fun h=>?_) (fun h=>?_)
 ·have h':k=1:=Zd0 h;subst h';refine zR ?_;refine brn (fun g=>?_) (fun g=>?_)
  ·have g1:¬zey i:=by unfold zey;simp at g;omega
   refine zR ?_;exact⟨by unfold zaF;rw[if_pos rfl,if_pos (.inl g1)],rfl⟩
  have g1:zey i:=by unfold zey;simp at g;omega
  (conv=>whnf);refine brn (fun g2=>?_) (fun g2=>?_)
  ·have g3:0<n:=by have:=Zd0 g2;omega
   refine zR ?_;exact⟨by unfold zaF;rw[if_pos rfl,if_pos (.inr g3)],rfl⟩
  ·have g3:¬0<n:=by have:=Zd1 g2;omega
   refine zR ?_;exact⟨by unfold zaF;rw[if_pos rfl,if_neg (by simp[g1,g3])],rfl⟩
 (conv=>whnf);refine brn (fun h2=>?_) (fun h2=>?_)
 ·have h':k=2:=Zd0 h2;subst h';refine zR ?_;refine(zlg _ _ _ _ _ _ _ _).mono ?_;rintro v _ ⟨rfl,rfl⟩;refine zR ?_;exact⟨rfl,rfl⟩
 have e1:¬k=1:=Zd1 h;have e2:¬k=2:=Zd1 h2
 (conv=>whnf);refine brn (fun h3=>?_) (fun h3=>?_)
 ·have e3:k=3:=Zd0 h3;(conv=>whnf);refine brn_t h3 ?_;(conv=>whnf)
  refine zR ?_;refine(zgG _ _ _ _ _).mono ?_;rintro v _ ⟨rfl,rfl⟩;(conv=>whnf);refine brn (fun g=>?_) (fun g=>?_)
  ·have g':¬zdJ i=0:=by simpa using g
   refine zR ?_;exact⟨by unfold zaF;rw[if_neg e1,if_neg e2,if_pos (by omega),if_pos g'],rfl⟩
  have g':zdJ i=0:=by simpa using g
  (conv=>whnf);refine brn (fun g2=>?_) (fun g2=>?_)
  ·have g3:0<n:=by have:=Zd0 g2;omega
   refine zR ?_;exact⟨by unfold zaF;rw[if_neg e1,if_neg e2,if_pos (by omega),if_neg (by simp[g']),if_pos g3],rfl⟩
  ·have g3:¬0<n:=by have:=Zd1 g2;omega
   refine zR ?_;exact⟨by unfold zaF;rw[if_neg e1,if_neg e2,if_pos (by omega),if_neg (by simp[g']),if_neg g3],rfl⟩
 have e3:¬k=3:=Zd1 h3;(conv=>whnf);refine brn (fun h4=>?_) (fun h4=>?_)
 ·have e4:k=4:=Zd0 h4;(conv=>whnf)
  refine zR ?_;refine(zgG _ _ _ _ _).mono ?_;rintro v _ ⟨rfl,rfl⟩;(conv=>whnf);refine brn (fun g=>?_) (fun g=>?_)
  ·have g':¬zdJ i=0:=by simpa using g
   refine zR ?_;exact⟨by unfold zaF;rw[if_neg e1,if_neg e2,if_pos (by omega),if_pos g'],rfl⟩
  have g':zdJ i=0:=by simpa using g
  (conv=>whnf);refine brn (fun g2=>?_) (fun g2=>?_)
  ·have g3:0<n:=by have:=Zd0 g2;omega
   refine zR ?_;exact⟨by unfold zaF;rw[if_neg e1,if_neg e2,if_pos (by omega),if_neg (by simp[g']),if_pos g3],rfl⟩
  ·have g3:¬0<n:=by have:=Zd1 g2;omega
   refine zR ?_;exact⟨by unfold zaF;rw[if_neg e1,if_neg e2,if_pos (by omega),if_neg (by simp[g']),if_neg g3],rfl⟩
 ·have e4:¬k=4:=Zd1 h4;refine zR ?_;exact⟨by unfold zaF;rw[if_neg e1,if_neg e2,if_neg (by omega)],rfl⟩
structure FreshSt (M0 M:Mem) (p b sp sb:Nat) (S:StR) (came:Int) (xs:HsT) (es:EsT):Prop where
 le:M0.le M
 at':StAt M p b sp sb S came xs es
 inv:zeh S
 invE:InvE es
 room:(zaI es:Int)≤S.qg∧S.qg≤256
 fresh:∀ y,stB p b sp sb xs es y→M0 y=none
def zbr (self qh qb qg:Int):Prop:=¬(0≤self∧self≤63)∨¬(0≤qh∧qh≤256)∨¬(0≤qb∧qb≤1048576)∨¬(0≤qg∧qg≤256)
def zfp (self qh qb qg:Int):StR:=⟨self,qh,qb,qg,0,List.replicate 64 0,[]⟩
theorem zwi {self qh qb qg:Int} (h:¬zbr self qh qb qg):zeh (zfp self qh qb qg):=by
 unfold zbr at h;refine⟨?_,?_,?_,?_,?_,?_,?_,?_⟩<;>simp[zfp,zm]<;>omega
theorem zwj (self qh qb qg:Int):CallsM Tryz.prog F.zgm [.int .i64 self,.agg #[.int .i64 qh,.int .i64 qb,.int .i64 qg]] M fun v M'=>
  (zbr self qh qb qg∧v = .tuple #[.pointer none,.int .i64 1]∧M=M') ∨
  (¬zbr self qh qb qg∧∃ p b sp sb,v = .tuple #[ptr p,.int .i64 0]∧FreshSt M M' p b sp sb (zfp self qh qb qg) 0 [] []):=by
 refine zvg (by simp) ?_;refine zR ?_;refine(zjZ _ _).mono ?_;rintro v _ ⟨rfl,rfl⟩;(conv=>whnf);refine brn (fun g=>?_) (fun g=>?_)
 ·(conv=>whnf);refine zR ?_;exact .inl ⟨by unfold zbr;simp only[Bool.not_eq_true',decide_eq_false_iff_not] at *; omega,rfl,rfl⟩
 (conv=>whnf);refine(zjZ _ _).mono ?_;rintro v _ ⟨rfl,rfl⟩;(conv=>whnf);refine brn (fun g1=>?_) (fun g1=>?_)
 ·(conv=>whnf);refine zR ?_;exact .inl ⟨by unfold zbr;simp only[Bool.not_eq_true',decide_eq_false_iff_not] at *; omega,rfl,rfl⟩
 (conv=>whnf);refine(zjZ _ _).mono ?_;rintro v _ ⟨rfl,rfl⟩;(conv=>whnf);refine brn (fun g2=>?_) (fun g2=>?_)
 ·(conv=>whnf);refine zR ?_;exact .inl ⟨by unfold zbr;simp only[Bool.not_eq_true',decide_eq_false_iff_not] at *; omega,rfl,rfl⟩
 (conv=>whnf);refine(zjZ _ _).mono ?_;rintro v _ ⟨rfl,rfl⟩;(conv=>whnf);refine brn (fun g3=>?_) (fun g3=>?_)
 ·(conv=>whnf);refine zR ?_;exact .inl ⟨by unfold zbr;simp only[Bool.not_eq_true',decide_eq_false_iff_not] at *; omega,rfl,rfl⟩
 have hn:¬zbr self qh qb qg:=by
  unfold zbr;simp only[Bool.not_eq_false',decide_eq_true_eq] at *;omega
 refine zR ?_;refine(newS qg).mono ?_;rintro v M1 (⟨h, -⟩|⟨-, sp,sb,rfl,h1⟩)
 ·unfold zbr at hn;omega
 refine zR ?_;refine new (fun b hb=>?_);replace hb:M1 b=none:=hb;(conv=>whnf);refine new (fun p hp=>?_);replace hp:(M1.upd b (.map #[] 0)) p=none:=hp;have hne:p≠b:=fun e=>by subst e;rw[Mem.upd_same] at hp;cases hp
 rw[Mem.upd_ne _ _ hne] at hp;(conv=>whnf)
 refine .inr ⟨hn,p,b,sp,sb,rfl,?_⟩;have hq:M1.le (M1.upd b (.map #[] 0)):=Mem.le_upd hb
 have hp':(M1.upd b (.map #[] 0)) p=none:=by rw[Mem.upd_ne _ _ hne];exact hp
 have hq2:(M1.upd b (.map #[] 0)).le ((M1.upd b (.map #[] 0)).setCells p T.zo (zH (zfp self qh qb qg) b 0 0 sp)):=Mem.le_setCells hp';have hsl:=h1.at'.le (Mem.le_trans hq hq2)
 have hnb:b≠sb:=fun e=>by
  subst e;obtain⟨l,c,hh,_⟩:=h1.at'.map;rw[hh] at hb;cases hb
 have lo:∀ y,M1 y=none→M y=none:=fun y hy=>by
  cases e:M y with
  | none=>rfl
  | some o=>rw[h1.le y o e] at hy;cases hy
 refine⟨Mem.le_trans h1.le (Mem.le_trans hq hq2),⟨Mem.has_setCells,(MapAt.new M1 b).mono fun o ho=>hq2 _ _ ho,by simp,hsl,rfl,by simp,by simp,by simp,hnb⟩,zwi hn,InvE.nil,h1.room,fun y hy=>?_⟩;rcases hy with rfl|rfl|⟨q,hq,_⟩|hy
 ·exact lo _ hp
 ·exact lo _ hb
 ·cases hq
 ·exact h1.fresh y hy
end
section
variable {M:Mem} {p b sp sb:Nat} {S:StR} {came:Int} {xs:HsT} {es:EsT}
def za7 (S:StR) (d:Int):IdT×Int:=
 if S.epoch=0 then (⟨0,0,0,0⟩,7) else if ¬(0≤d∧d≤63) then (⟨0,0,0,0⟩,1) else if d=S.self then (⟨0,0,0,0⟩,2)
 else if zcL S d=65535 then (⟨0,0,0,0⟩,10) else (⟨S.self,d,S.epoch,zcL S d+1⟩,0)
theorem zpq (hI:zeh S) (d:Int):0≤zcL S d∧zcL S d≤65535:=by
 unfold zcL;rw[List.getD_eq_getElem?_getD];cases h:S.used[d.toNat]? with
 | none=>simp
 | some x=>exact hI.used x (List.mem_of_getElem? h)
theorem zBO (h:StAt M p b sp sb S came xs es) (hI:zeh S) (d:Int):CallsM Tryz.prog F.zee [ptr p,.int .i64 d] M fun v M'=>
  v = .tuple #[idA (za7 S d).1,.int .i64 (za7 S d).2]∧M=M':=by
 refine zl1 (by simp) ?_;have hr:=zpq hI d
 refine zR ?_;refine on (h.self.c1 rfl) ?_;(conv=>whnf);refine brn (fun g=>?_) (fun g=>?_)
 ·have g1:S.epoch=0:=Zd0 g;refine zR ?_;exact⟨by unfold za7;rw[if_pos g1],rfl⟩
 have g1:¬S.epoch=0:=Zd1 g;refine zR ?_;refine(zjZ _ _).mono ?_;rintro v _ ⟨rfl,rfl⟩;(conv=>whnf);refine brn (fun g2=>?_) (fun g2=>?_)
 ·have g3:¬(0≤d∧d≤63):=by simp at g2;omega
  refine zR ?_;exact⟨by unfold za7;rw[if_neg g1,if_pos g3],rfl⟩
 have g3:0≤d∧d≤63:=by simpa using g2
 (conv=>whnf);refine on (h.self.c1 rfl) ?_;(conv=>whnf);refine brn (fun g4=>?_) (fun g4=>?_)
 ·have g5:d=S.self:=Zd0 g4;refine zR ?_;exact⟨by unfold za7;rw[if_neg g1,if_neg (by omega),if_pos g5],rfl⟩
 have g5:¬d=S.self:=Zd1 g4;obtain⟨k,rfl⟩:∃ k:Nat,d=k:=⟨d.toNat,by omega⟩
 have hk:M.row p (0+0+5+((k:Int)).toNat*1) 1=some [.int .i64 (zcL S k)]:=by
  have:=h.self.c1 (ztp hI.ulen b came (zm S.l) sp (d:=k) (by omega));rw[show 0+0+5+((k:Int)).toNat*1=5+k by omega];exact this
 (conv=>whnf);refine ob (by omega) ?_;(conv=>whnf);refine on hk ?_;(conv=>whnf);refine brn (fun g6=>?_) (fun g6=>?_)
 ·have g7:zcL S k=65535:=Zd0 g6;refine zR ?_;exact⟨by unfold za7;rw[if_neg g1,if_neg (by omega),if_neg g5,if_pos g7],rfl⟩
 have g7:¬zcL S k=65535:=Zd1 g6;(conv=>whnf);refine on (h.self.c1 rfl) ?_;(conv=>whnf);refine on (h.self.c1 rfl) ?_;(conv=>whnf);refine ob (by omega) ?_;(conv=>whnf);refine on hk ?_;(conv=>whnf);refine ob (zd (by omega)) ?_;refine zR ?_;exact⟨by unfold za7;rw[if_neg g1,if_neg (by omega),if_neg g5,if_neg g7],rfl⟩
theorem zgS (h:StAt M p b sp sb S came xs es) (i:IdT):(zD xs i=none∧zda S.l i=false∧∀ m∈S.l,m.id≠i)∨(∃ x,zD xs i=some x∧x.id=i∧zda S.l i=true∧x.msg∈S.l):=by
 cases e:zD xs i with
 | none=>
  have hn:∀ m∈S.l,m.id≠i:=fun m hm he=>by
   rw[←h.held] at hm;obtain⟨q,hq,rfl⟩:=List.mem_map.1 hm;exact aget_none.1 e (List.mem_map.2 ⟨q,hq,by rw[←h.keys q hq];exact he⟩)
  refine .inl ⟨rfl,?_,hn⟩;unfold zda;rw[List.any_eq_false];intro m hm;simpa using hn m hm
 | some x=>
  have hm:=zN e;have hx:x.id=i:=h.keys _ hm
  have hl:x.msg∈S.l:=by rw[←h.held];exact List.mem_map.2 ⟨_,hm,rfl⟩
  refine .inr ⟨x,rfl,hx,?_,hl⟩;unfold zda;rw[List.any_eq_true];exact⟨_,hl,by simp[hx]⟩
theorem zDe (h:StAt M p b sp sb S came xs es) (hI:zeh S) (i:IdT):CallsM Tryz.prog F.zeq [ptr p,idA i] M fun v M'=>
  (v = .tuple #[.agg #[.int .i64 0,.int .i64 0,.int .i64 0,.int .i64 0,.slice none 0 0],.bool false]∧zda S.l i=false∧M=M') ∨
  (∃ a n c l,v = .tuple #[.agg #[.int .i64 i.o,.int .i64 i.d,.int .i64 i.e,.int .i64 i.c,.slice a n c],.bool true]∧zda S.l i=true∧⟨i,l⟩∈S.l∧NewSl M T.zn 1 a n c (l.map zl) M'):=by
 refine zmY (by simp) ?_;refine zR ?_;refine on (h.self.c1 (ze8 hI.ulen ..)) ?_;(conv=>whnf)
 refine h.map.get idK i (fun hn=>?_) (fun x j hx=>?_)
 ·rcases zgS h i with ⟨_,h0,_⟩|⟨x,hx,_⟩
  rotate_left
  ·rw[hn] at hx;cases hx
  refine zR ?_;exact .inl ⟨rfl,h0,rfl⟩
 ·rcases zgS h i with ⟨hn,_⟩|⟨x',hx',hxi,h0,hm⟩
  ·rw[hx] at hn;cases hn
  rw[hx] at hx';cases hx';have hd:=h.data _ (zN hx)
  have hpl:x.p.length≤48:=by
   have:zdm x.id x.p.length=0:=(hI.msgs _ hm).1;unfold zdm zfk at this
   repeat' split at this
   all_goals omega
  refine zR ?_;refine new (fun b2 hb2=>?_);replace hb2:M b2=none:=hb2;have hN1:NewSl M T.zn 1 (some ⟨b2,0,none⟩) 0 0 (([]:List UInt8).map zl) _:=NewSl.lit hb2 T.zn 1 0 [] rfl
  obtain⟨M5,hM5⟩:∃ M5,M5=M.setCells b2 T.zn []:=⟨_,rfl⟩
  rw[←hM5] at hN1;(conv=>whnf)
  erw [←hM5];refine zT (hN1.le) ?_;(conv=>whnf)
  refine zdR (hd.src.le hN1.le) ?_;(conv=>whnf);refine ze6 M _ hN1 (by first|omega|(dsimp only;omega)) (by simp[maxLen];omega) (by simp[Value.oneCell',zl]) fun a5 c5 M6 hN6=>?_
  refine zT (hN6.le) ?_;refine zR ?_;(conv=>whnf)
  exact .inr ⟨a5,_,c5,x.p,rfl,h0,by rw[←hxi];exact hm,by simpa using hN6⟩
end
section
variable {M M0:Mem} {p b sp sb:Nat} {S:StR} {came:Int} {xs:HsT} {es:EsT}
@[reducible] def zcV (S:StR) (es:EsT) (i:IdT):Int:=zc9 S.qg es i.o i.d i.e i.c
@[reducible] def evV (k:Int) (i:IdT) (a:Option Addr) (n c:Nat):Value := .agg #[.int .i64 k,.int .i64 i.o,.int .i64 i.d,.int .i64 i.e,.int .i64 i.c,.slice a n c]
theorem zwk (h:FreshSt M0 M p b sp sb S came xs es) (k:Int) (i:IdT) (a:Option Addr) (n c:Nat) (hn:n≤1048576):CallsM Tryz.prog F.zc3 [ptr p,evV k i a n c] M fun v M'=>
  v = .int .i64 (zag S (zcV S es) k i n)∧M.le M':=by
 refine znE (by simp) ?_;have hI:=h.inv
 have hA:=h.at';have hqb:=hI.qb
 have hqh:=hI.qh;have hxl:xs.length=S.l.length:=by rw[←hA.held,List.length_map]
 refine zR ?_;refine(zx8 k i a n c).mono ?_;rintro v _ ⟨rfl,rfl⟩;(conv=>whnf);refine brn (fun g=>?_) (fun g=>?_)
 ·have g1:¬zaF k i n=0:=by simpa using g
  refine zR ?_;exact⟨by unfold zag;rw[if_pos g1],Mem.le_refl _⟩
 have g1:zaF k i n=0:=by simpa using g
 have hk:k=1∨k=2∨k=3∨k=4:=by
  unfold zaF at g1
  repeat' split at g1
  all_goals omega
 refine zR ?_;refine on (hA.self.c1 (ze8 hI.ulen ..)) ?_;(conv=>whnf)
 refine hA.map.get idK i (fun hn=>?_) (fun x j hx=>?_)
 ·rcases zgS hA i with ⟨_,h0,_⟩|⟨x,hx,_⟩
  rotate_left
  ·rw[hn] at hx;cases hx
  rcases hk with rfl|rfl|rfl|rfl
  ·(conv=>whnf);refine zR ?_;refine on (hA.self.c1 rfl) ?_;(conv=>whnf);refine brn (fun g2=>?_) (fun g2=>?_)
   ·have g3:S.epoch=65535:=Zd0 g2;refine zR ?_;exact⟨by unfold zag;rw[if_neg (by simp[g1]),if_pos rfl,if_pos g3],Mem.le_refl _⟩
   ·have g3:¬S.epoch=65535:=Zd1 g2;refine zR ?_;exact⟨by unfold zag;rw[if_neg (by simp[g1]),if_pos rfl,if_neg g3],Mem.le_refl _⟩
  ·refine zR ?_;refine on (hA.self.c1 rfl) ?_;(conv=>whnf);refine brn (fun a1=>?_) (fun a1=>?_)
   ·have a2:i.d=S.self:=Zd0 a1;refine zR ?_;exact⟨by unfold zag;rw[if_neg (by simp[g1]),if_neg (by decide),if_pos rfl,if_pos (.inl a2)],Mem.le_refl _⟩
   have a2:¬i.d=S.self:=Zd1 a1;(conv=>whnf);refine on (hA.self.c1 rfl) ?_;(conv=>whnf);refine brn (fun a3=>?_) (fun a3=>?_)
   ·have a4:i.o=S.self:=Zd0 a3;(conv=>whnf);refine on (hA.self.c1 rfl) ?_;(conv=>whnf);refine brn (fun a5=>?_) (fun a5=>?_)
    ·have a6:S.epoch<i.e:=Zd0 a5;(conv=>whnf);refine brn_t a5 ?_;refine zR ?_;exact⟨by unfold zag;rw[if_neg (by simp[g1]),if_neg (by decide),if_pos rfl,if_pos (.inr ⟨a4,a6⟩)],Mem.le_refl _⟩
    ·have a6:¬S.epoch<i.e:=Zd1 a5;have a7:¬(i.d=S.self∨(i.o=S.self∧S.epoch<i.e)):=by omega
     refine zR ?_;refine on (hA.self.c1 (ze8 hI.ulen ..)) ?_;(conv=>whnf)
     refine hA.map.len fun e2 c2 hsz=>?_
     (conv=>whnf);refine on (hA.self.c1 rfl) ?_;(conv=>whnf);refine brn (fun a8=>?_) (fun a8=>?_)
     ·have a9:S.qh≤S.l.length:=by have:=Zd0 a8;dsimp only at this;rw[hsz] at this;omega
      refine zR ?_;exact⟨by unfold zag;rw[if_neg (by simp[g1]),if_neg (by decide),if_pos rfl,if_neg a7,h0,if_neg (by decide),if_pos (.inl a9)],Mem.le_refl _⟩
     have a9:¬S.qh≤S.l.length:=by have:=Zd1 a8;dsimp only at this;rw[hsz] at this;omega
     (conv=>whnf);refine on (hA.self.c1 rfl) ?_;(conv=>whnf);refine on (hA.self.c1 (zhn hI.ulen ..)) ?_;(conv=>whnf);refine ob (zd (by omega)) ?_;(conv=>whnf);refine brn (fun b8=>?_) (fun b8=>?_)
     ·have b9:S.qb<zm S.l+n:=by have:=Zd0 b8;omega
      refine zR ?_;exact⟨by unfold zag;rw[if_neg (by simp[g1]),if_neg (by decide),if_pos rfl,if_neg a7,h0,if_neg (by decide),if_pos (.inr b9)],Mem.le_refl _⟩
     have b9:¬S.qb<zm S.l+n:=by have:=Zd1 b8;omega
     refine zR ?_;(conv=>whnf)
     exact⟨by unfold zag;rw[if_neg (by simp[g1]),if_neg (by decide),if_pos rfl,if_neg a7,h0,if_neg (by decide),if_neg (by omega)],Mem.le_refl _⟩
   ·have a4:¬i.o=S.self:=Zd1 a3;have a7:¬(i.d=S.self∨(i.o=S.self∧S.epoch<i.e)):=by omega
    refine zR ?_;refine on (hA.self.c1 (ze8 hI.ulen ..)) ?_;(conv=>whnf)
    refine hA.map.len fun e2 c2 hsz=>?_
    (conv=>whnf);refine on (hA.self.c1 rfl) ?_;(conv=>whnf);refine brn (fun a8=>?_) (fun a8=>?_)
    ·have a9:S.qh≤S.l.length:=by have:=Zd0 a8;dsimp only at this;rw[hsz] at this;omega
     refine zR ?_;exact⟨by unfold zag;rw[if_neg (by simp[g1]),if_neg (by decide),if_pos rfl,if_neg a7,h0,if_neg (by decide),if_pos (.inl a9)],Mem.le_refl _⟩
    have a9:¬S.qh≤S.l.length:=by have:=Zd1 a8;dsimp only at this;rw[hsz] at this;omega
    (conv=>whnf);refine on (hA.self.c1 rfl) ?_;(conv=>whnf);refine on (hA.self.c1 (zhn hI.ulen ..)) ?_;(conv=>whnf);refine ob (zd (by omega)) ?_;(conv=>whnf);refine brn (fun b8=>?_) (fun b8=>?_)
    ·have b9:S.qb<zm S.l+n:=by have:=Zd0 b8;omega
     refine zR ?_;exact⟨by unfold zag;rw[if_neg (by simp[g1]),if_neg (by decide),if_pos rfl,if_neg a7,h0,if_neg (by decide),if_pos (.inr b9)],Mem.le_refl _⟩
    have b9:¬S.qb<zm S.l+n:=by have:=Zd1 b8;omega
    refine zR ?_;(conv=>whnf)
    exact⟨by unfold zag;rw[if_neg (by simp[g1]),if_neg (by decide),if_pos rfl,if_neg a7,h0,if_neg (by decide),if_neg (by omega)],Mem.le_refl _⟩
  ·(conv=>whnf);refine zR ?_;(conv=>whnf)
   exact⟨by unfold zag;rw[if_neg (by simp[g1]),if_neg (by decide),if_neg (by decide),if_pos rfl,h0];rfl,Mem.le_refl _⟩
  ·(conv=>whnf);refine zR ?_;refine on (hA.self.c1 rfl) ?_;(conv=>whnf);refine brn (fun g2=>?_) (fun g2=>?_)
   ·have g3:i.d≠S.self:=by simpa using g2
    refine zR ?_;exact⟨by unfold zag;rw[if_neg (by simp[g1]),if_neg (by decide),if_neg (by decide),if_neg (by decide),if_pos g3],Mem.le_refl _⟩
   ·have g3:¬i.d≠S.self:=by simpa using g2
    refine zR ?_;refine on (hA.self.c1 (zmo hI.ulen ..)) ?_;refine zR ?_;refine(zwb hA.set (by have:=h.room;omega) h.invE.good i.o i.d i.e i.c).mono ?_;rintro v M1 ⟨rfl,h1⟩;refine zR ?_;exact⟨by unfold zag;rw[if_neg (by simp[g1]),if_neg (by decide),if_neg (by decide),if_neg (by decide),if_neg g3],h1⟩
 ·rcases zgS hA i with ⟨hn,_⟩|⟨x',hx',hxi,h0,hm⟩
  ·rw[hx] at hn;cases hn
  rcases hk with rfl|rfl|rfl|rfl
  ·(conv=>whnf);refine zR ?_;refine on (hA.self.c1 rfl) ?_;(conv=>whnf);refine brn (fun g2=>?_) (fun g2=>?_)
   ·have g3:S.epoch=65535:=Zd0 g2;refine zR ?_;exact⟨by unfold zag;rw[if_neg (by simp[g1]),if_pos rfl,if_pos g3],Mem.le_refl _⟩
   ·have g3:¬S.epoch=65535:=Zd1 g2;refine zR ?_;exact⟨by unfold zag;rw[if_neg (by simp[g1]),if_pos rfl,if_neg g3],Mem.le_refl _⟩
  ·refine zR ?_;refine on (hA.self.c1 rfl) ?_;(conv=>whnf);refine brn (fun a1=>?_) (fun a1=>?_)
   ·have a2:i.d=S.self:=Zd0 a1;refine zR ?_;exact⟨by unfold zag;rw[if_neg (by simp[g1]),if_neg (by decide),if_pos rfl,if_pos (.inl a2)],Mem.le_refl _⟩
   have a2:¬i.d=S.self:=Zd1 a1;(conv=>whnf);refine on (hA.self.c1 rfl) ?_;(conv=>whnf);refine brn (fun a3=>?_) (fun a3=>?_)
   ·have a4:i.o=S.self:=Zd0 a3;(conv=>whnf);refine on (hA.self.c1 rfl) ?_;(conv=>whnf);refine brn (fun a5=>?_) (fun a5=>?_)
    ·have a6:S.epoch<i.e:=Zd0 a5;(conv=>whnf);refine brn_t a5 ?_;refine zR ?_;exact⟨by unfold zag;rw[if_neg (by simp[g1]),if_neg (by decide),if_pos rfl,if_pos (.inr ⟨a4,a6⟩)],Mem.le_refl _⟩
    ·have a6:¬S.epoch<i.e:=Zd1 a5;have a7:¬(i.d=S.self∨(i.o=S.self∧S.epoch<i.e)):=by omega
     refine zR ?_;exact⟨by unfold zag;rw[if_neg (by simp[g1]),if_neg (by decide),if_pos rfl,if_neg a7,h0];rfl,Mem.le_refl _⟩
   ·have a4:¬i.o=S.self:=Zd1 a3;have a7:¬(i.d=S.self∨(i.o=S.self∧S.epoch<i.e)):=by omega
    refine zR ?_;exact⟨by unfold zag;rw[if_neg (by simp[g1]),if_neg (by decide),if_pos rfl,if_neg a7,h0];rfl,Mem.le_refl _⟩
  ·(conv=>whnf);refine zR ?_;(conv=>whnf)
   exact⟨by unfold zag;rw[if_neg (by simp[g1]),if_neg (by decide),if_neg (by decide),if_pos rfl,h0];rfl,Mem.le_refl _⟩
  ·(conv=>whnf);refine zR ?_;refine on (hA.self.c1 rfl) ?_;(conv=>whnf);refine brn (fun g2=>?_) (fun g2=>?_)
   ·have g3:i.d≠S.self:=by simpa using g2
    refine zR ?_;exact⟨by unfold zag;rw[if_neg (by simp[g1]),if_neg (by decide),if_neg (by decide),if_neg (by decide),if_pos g3],Mem.le_refl _⟩
   ·have g3:¬i.d≠S.self:=by simpa using g2
    refine zR ?_;refine on (hA.self.c1 (zmo hI.ulen ..)) ?_;refine zR ?_;refine(zwb hA.set (by have:=h.room;omega) h.invE.good i.o i.d i.e i.c).mono ?_;rintro v M1 ⟨rfl,h1⟩;refine zR ?_;exact⟨by unfold zag;rw[if_neg (by simp[g1]),if_neg (by decide),if_neg (by decide),if_neg (by decide),if_neg g3],h1⟩
end
end Go.Proofs.YtpdkkbpkplhdpaaGreat
namespace Go.Proofs.YtpdkkbpkplhdpaaGreat
open Go Go.Vm
variable {S:StR} {set:IdT→Int} {k:Int} {i:IdT} {p:List UInt8}
theorem zmN (l r:List zby):zm (l++r)=zm l+zm r:=by simp[zm]
theorem zuy (l:List zby) (f:zby→Bool):zm (l.filter f)≤zm l:=by
 induction l with
 | nil=>simp
 | cons x r ih=>
  simp only[List.filter_cons];split
  ·simp only[zm,List.map_cons,List.sum_cons] at ih ⊢; omega
  ·simp only[zm,List.map_cons,List.sum_cons] at ih ⊢; omega
theorem zzp {l:List zby} (h:zda l i=false):∀ m∈l,m.id≠i:=fun m hm=>by
 unfold zda at h;rw[List.any_eq_false] at h;simpa using h m hm
theorem zfH {a b c d:Int} (h:za4 a b c d=0):(0≤a∧a≤63)∧(0≤b∧b≤63)∧(1≤c∧c≤65535)∧(1≤d∧d≤65535)∧a≠b:=by
 unfold za4 at h
 repeat' split at h
 all_goals omega
theorem za8 {n:Nat} (h:zdm i n=0):zdJ i=0∧0<n∧n≤48:=by
 unfold zdm zfk at h;unfold zdJ
 repeat' split at h
 all_goals omega
theorem zoi (h:zag S set 2 i p.length=0):zdm i p.length=0∧i.d≠S.self∧¬(i.o=S.self∧S.epoch<i.e)∧zda S.l i=false∧(S.l.length:Int)<S.qh∧(zm S.l:Int)+p.length≤S.qb:=by
 unfold zag at h;split at h
 ·rename_i g;exact absurd h g
 rename_i g;have g0:zaF 2 i p.length=0:=by simpa using g
 rw[if_neg (by decide),if_pos rfl] at h;have g1:zdm i p.length=0:=by unfold zaF at g0;rwa [if_neg (by decide),if_pos rfl] at g0
 split at h
 ·cases h
 rename_i g2;split at h
 ·cases h
 rename_i g3;split at h
 ·cases h
 rename_i g4;exact⟨g1,by omega,by omega,by simpa using g3,by omega,by omega⟩
theorem zmp (hI:zeh S) (hm:zag S set k i p.length=0):zeh (zJ S k i p):=by
 by_cases h1:k=1
 ·subst h1
  have he:S.epoch<65535:=by
   have:=hI.epoch;unfold zag at hm;split at hm
   ·rename_i g;exact absurd hm g
   rw[if_pos rfl] at hm;split at hm
   ·cases hm
   ·omega
  have e:zJ S 1 i p={ S with epoch:=S.epoch+1,used:=List.replicate 64 0 }:=by unfold zJ;rw[if_pos rfl]
  rw[e];refine⟨hI.self,?_,by simp,?_,hI.qh,hI.qb,fun m h=>?_,hI.nodup⟩
  ·have:=hI.epoch;dsimp only;omega
  ·intro n hn;dsimp only at hn;have:=List.eq_of_mem_replicate hn
   omega
  ·obtain⟨a,b,c⟩:=hI.msgs m h;exact⟨a,b,fun h=>by have:=c h;dsimp only;omega⟩
 by_cases h2:k=2
 ·subst h2;obtain⟨g1,g2,g3,g4,g5,g6⟩:=zoi hm;obtain⟨u1,u2,u3⟩:=za8 g1;have hc:=(zi2 u1).2
  have e:zJ S 2 i p={ S with l:=S.l++[⟨i,p⟩],used:=if i.o=S.self∧i.e=S.epoch then S.used.set i.d.toNat (max (zcL S i.d) i.c) else S.used }:=by unfold zJ;rw[if_neg (by decide),if_pos rfl]
  rw[e];refine⟨hI.self,hI.epoch,?_,?_,?_,?_,fun m h=>?_,?_⟩
  ·dsimp only;split
   ·rw[List.length_set];exact hI.ulen
   ·exact hI.ulen
  ·intro n hn;dsimp only at hn;split at hn
   ·rcases List.mem_or_eq_of_mem_set hn with h|h
    ·exact hI.used n h
    ·have:=zpq hI i.d;omega
   ·exact hI.used n hn
  ·have:=hI.qh;simp only[List.length_append,List.length_singleton];omega
  ·have:=hI.qb;rw[zmN];simp only[zm,List.map_cons,List.map_nil,List.sum_cons,List.sum_nil] at *; omega
  ·rcases List.mem_append.1 h with h|h
   ·exact hI.msgs m h
   ·simp at h;subst h;exact⟨g1,g2,fun h=>by dsimp only at h ⊢; omega⟩
  ·rw[List.map_append,List.nodup_append];refine⟨hI.nodup,by simp,fun a ha b hb=>?_⟩;simp at hb;subst hb;obtain⟨m,hm,rfl⟩:=List.mem_map.1 ha;exact zzp g4 m hm
 by_cases h3:k=3
 ·subst h3;have e:zJ S 3 i p={ S with l:=S.l.filter fun m=>decide (m.id≠i) }:=by unfold zJ;rw[if_neg (by decide),if_neg (by decide),if_pos rfl]
  rw[e];refine⟨hI.self,hI.epoch,hI.ulen,hI.used,?_,?_,fun m h=>hI.msgs m (List.mem_filter.1 h).1,?_⟩
  ·have:=hI.qh;have h4:=List.length_filter_le (fun m:zby=>decide (m.id≠i)) S.l;dsimp only;omega
  ·have:=hI.qb;have h4:=zuy S.l (fun m:zby=>decide (m.id≠i));dsimp only;omega
  ·exact hI.nodup.sublist (List.Sublist.map _ List.filter_sublist)
 ·have e:zJ S k i p=S:=by unfold zJ;rw[if_neg h1,if_neg h2,if_neg h3]
  rw[e];exact hI
end Go.Proofs.YtpdkkbpkplhdpaaGreat
namespace Go.Proofs.YtpdkkbpkplhdpaaGreat
open Go Go.Vm
attribute [local irreducible] Brn Ob Grow CallsM inR zax zav Mem.row Mem.cells Mem.setCells Mem.upd Go.Vm.Own zaD za5 zbc zaJ New SrcOk subA NewSl Mem.textAt Mem.mapAt Mem.iterAt zau zaj Wr NewEls Elems
set_option maxRecDepth 10000
variable {M M0:Mem} {p b sp sb:Nat} {S:StR} {came:Int} {xs:HsT} {es:EsT}
theorem StAt.pset (h:StAt M p b sp sb S came xs es):¬setB sp sb es p:=by
 rintro (e|e|⟨q,hq,hy⟩)
 ·have:=h.set.self;rw[←e] at this;exact absurd (this.inj h.self).1 (by decide)
 ·exact h.set.map.nb h.self e
 ·have hE:=h.set.ents q hq;rcases hy with e|⟨a,ha,e⟩
  ·have:=hE.self;rw[←e] at this;exact absurd (this.inj h.self).1 (by decide)
  ·obtain⟨cs,hh⟩:=hE.more.block ha;rw[e] at hh;exact absurd (hh.inj h.self).1 (by decide)
theorem StAt.bset (h:StAt M p b sp sb S came xs es):¬setB sp sb es b:=by
 rintro (e|e|⟨q,hq,hy⟩)
 ·exact h.map.nb h.set.self e.symm
 ·exact h.ne e
 ·have hE:=h.set.ents q hq;rcases hy with e|⟨a,ha,e⟩
  ·exact h.map.nb hE.self e.symm
  ·obtain⟨cs,hh⟩:=hE.more.block ha;exact h.map.nb hh e
theorem StAt.dhas (h:StAt M p b sp sb S came xs es) {q:IdT×PX} (hq:q∈xs) {y:Nat} (hy:z6 q.2.a y):∃ cs,M.has y T.zn cs:=by
 obtain⟨a,ha,e⟩:=hy;obtain⟨cs,hh⟩:=(h.data q hq).block ha;exact⟨cs,e▸hh⟩
theorem StAt.dset (h:StAt M p b sp sb S came xs es) {q:IdT×PX} (hq:q∈xs) {y:Nat} (hy:z6 q.2.a y):¬setB sp sb es y∧y≠p∧y≠b:=by
 obtain⟨cs,hc⟩:=h.dhas hq hy;refine⟨?_,fun e=>?_,h.map.nb hc⟩
 ·rintro (e|e|⟨q,hq,hy⟩)
  ·have:=h.set.self;rw[←e] at this;exact absurd (this.inj hc).1 (by decide)
  ·exact h.set.map.nb hc e
  ·have hE:=h.set.ents q hq;rcases hy with e|⟨a,ha,e⟩
   ·have:=hE.self;rw[←e] at this;exact absurd (this.inj hc).1 (by decide)
   ·obtain⟨cs,hh⟩:=hE.more.block ha;rw[e] at hh;exact absurd (hh.inj hc).1 (by decide)
 ·subst e;exact absurd (h.self.inj hc).1 (by decide)
theorem StAt.head {M':Mem} (h:StAt M p b sp sb S came xs es) {S':StR} {came':Int} (hk:Mem.keep (fun y=>y=p) M M') (hs:M'.has p T.zo (zH S' b came' (zm S'.l) sp)) (hl:S'.l=S.l) (hq:S'.qg=S.qg) (hc:came≤came'):StAt M' p b sp sb S' came' xs es:=by
 have hb:b≠p:=(h.map.nb h.self).symm;refine⟨hs,h.map.mono fun o ho=>hk b o hb ho,fun q hx=>(h.data q hx).mono fun a o ha ho=>hk _ o (h.dset hx ⟨a,ha,rfl⟩).2.1 ho,?_,hl▸h.held,h.keys,h.ord,⟨Int.le_trans h.came.1 hc,fun q hx=>⟨(h.came.2 q hx).1,Int.lt_of_lt_of_le (h.came.2 q hx).2 hc⟩⟩,h.ne⟩;rw[hq];exact h.set.mono fun y o hy ho=>hk y o (fun e=>h.pset (e▸hy)) ho
theorem StAt.turned {M':Mem} {es':EsT} (h:StAt M p b sp sb S came xs es) (hB:(M.minus (setB sp sb es)).le M') (hs:SetAt M' sp sb S.qg es'):StAt M' p b sp sb S came xs es':=by
 have keep:∀ y o,¬setB sp sb es y→M y=some o→M' y=some o:=fun y o hy ho=>hB y o (by unfold Mem.minus;rw[if_neg hy];exact ho)
 exact⟨keep _ _ h.pset h.self,h.map.mono fun o ho=>keep _ _ h.bset ho,fun q hq=>(h.data q hq).mono fun a o ha ho=>keep _ o (h.dset hq ⟨a,ha,rfl⟩).1 ho,hs,h.held,h.keys,h.ord,h.came,h.ne⟩
theorem StAt.turn {M':Mem} (h:StAt M p b sp sb S came xs es) {S':StR} {came':Int} {xs':HsT} (hk:Mem.keep (fun y=>y=p∨y=b) M M') (hs:M'.has p T.zo (zH S' b came' (zm S'.l) sp)) (hm:MapAt idA pxV M' b xs')
  (hd:∀ q∈xs',q∈xs∨Wr M' T.zn 1 q.2.a q.2.p.length q.2.c (q.2.p.map zl)) (hq:S'.qg=S.qg) (hl:xs'.map (fun q=>q.2.msg)=S'.l) (hkeys:∀ q∈xs',q.2.id=q.1) (hord:xs'.Pairwise fun x y=>x.2.n<y.2.n)
  (hc:0≤came'∧∀ q∈xs',0≤q.2.n∧q.2.n<came'):StAt M' p b sp sb S' came' xs' es:=by
 refine⟨hs,hm,fun q hx=>?_,?_,hl,hkeys,hord,hc,h.ne⟩
 ·rcases hd q hx with hx|hx
  ·exact(h.data q hx).mono fun a o ha ho=>hk _ o (fun e=>by have:=h.dset hx ⟨a,ha,rfl⟩;rcases e with e|e;exact this.2.1 e;exact this.2.2 e) ho
  ·exact hx
 ·rw[hq];exact h.set.mono fun y o hy ho=>hk y o (fun e=>by rcases e with e|e;exact h.pset (e▸hy);exact h.bset (e▸hy)) ho
theorem zrF {i:IdT}:∀ {l:List zby} {m:zby},(l.map (·.id)).Nodup→m∈l→m.id=i→zm (l.filter fun m=>decide (m.id≠i))+m.p.length=zm l
 | x::r,m,hn,hm,he=>by
  simp only[List.map_cons,List.nodup_cons] at hn;rcases List.mem_cons.1 hm with rfl|hm
  ·have hall:r.filter (fun m=>decide (m.id≠i))=r:=by
    rw[List.filter_eq_self];intro y hy;have:y.id≠m.id:=fun e=>hn.1 (List.mem_map.2 ⟨y,hy,e⟩)
    simp;rw[←he];exact this
   rw[List.filter_cons,if_neg (by simp[he]),hall];simp only[zm,List.map_cons,List.sum_cons];omega
  ·have hx:x.id≠i:=fun e=>hn.1 (List.mem_map.2 ⟨m,hm,by rw[he,e]⟩)
   have ih:=zrF hn.2 hm he;rw[List.filter_cons,if_pos (by simpa using hx)];simp only[zm,List.map_cons,List.sum_cons] at ih ⊢;omega
theorem zoj {L R:List Value} {x y:Value} {n:Nat} (h:L.length=n):ze (L++x::R) n [y]=L++y::R:=by
 unfold ze;subst h;simp
theorem zwl (S:StR) (b:Nat) (came bytes:Int) (sp:Nat):zH S b came bytes sp=([.int .i64 S.self,.int .i64 S.qh,.int .i64 S.qb,.int .i64 S.qg,.int .i64 S.epoch]++S.used.map zaa++[.map (some b)]) ++ .int .i64 came::[.int .i64 bytes,ptr sp]:=by simp[zH]
theorem zuz (hu:S.used.length=64) (came bytes v:Int):ze (zH S b came bytes sp) 70 [.int .i64 v]=zH S b v bytes sp:=by
 rw[zwl,zwl,zoj (by simp[hu])]
theorem zsX (hu:S.used.length=64) (came bytes v:Int):ze (zH S b came bytes sp) 71 [.int .i64 v]=zH S b came v sp:=by
 have e:∀ w,zH S b came w sp=([.int .i64 S.self,.int .i64 S.qh,.int .i64 S.qb,.int .i64 S.qg,.int .i64 S.epoch]++S.used.map zaa++[.map (some b),.int .i64 came]) ++ .int .i64 w::[ptr sp]:=fun w=>by simp[zH]
 rw[e,e,zoj (by simp[hu])]
theorem zmO (hu:S.used.length=64) (came bytes v:Int) {d:Nat} (hd:d<64):ze (zH S b came bytes sp) (5+d) [.int .i64 v]=zH { S with used:=S.used.set d v } b came bytes sp:=by
 unfold zH
 have h1:ze (([.int .i64 S.self,.int .i64 S.qh,.int .i64 S.qb,.int .i64 S.qg,.int .i64 S.epoch]:List Value)++S.used.map zaa++[.map (some b),.int .i64 came,.int .i64 bytes,ptr sp]) (5+d) [.int .i64 v]=([.int .i64 S.self,.int .i64 S.qh,.int .i64 S.qb,.int .i64 S.qg,.int .i64 S.epoch]:List Value)++(S.used.map zaa).set d (zaa v)++[.map (some b),.int .i64 came,.int .i64 bytes,ptr sp]:=by
  have hlt:d<(S.used.map zaa).length:=by simp[hu,hd]
  obtain⟨A,x,B,hAB,hA⟩:∃ A x B,S.used.map zaa=A++x::B∧A.length=d:=⟨_,_,_,(List.take_append_drop d _).symm.trans (by rw[List.drop_eq_getElem_cons hlt]),by simp[hu];omega⟩
  rw[hAB];have e2:(A++x::B).set d (zaa v)=A++zaa v::B:=by subst hA;simp
  rw[e2];have e3:∀ y,([.int .i64 S.self,.int .i64 S.qh,.int .i64 S.qb,.int .i64 S.qg,.int .i64 S.epoch]:List Value)++(A++y::B)++[.map (some b),.int .i64 came,.int .i64 bytes,ptr sp]=(([.int .i64 S.self,.int .i64 S.qh,.int .i64 S.qb,.int .i64 S.qg,.int .i64 S.epoch]:List Value)++A)++y::(B++[.map (some b),.int .i64 came,.int .i64 bytes,ptr sp]):=fun y=>by simp
  rw[e3,e3,zoj (by simp[hA];omega)]
 rw[h1,List.map_set]
end Go.Proofs.YtpdkkbpkplhdpaaGreat
