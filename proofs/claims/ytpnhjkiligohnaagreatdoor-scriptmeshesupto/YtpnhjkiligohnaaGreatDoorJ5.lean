/- Part of this proof;laid by program. -/
import Derived.Test.YtpnhjkiligohnaaGreatDoorJ4
import Derived.OrdersIn
set_option linter.unusedVariables false
set_option linter.unusedSimpArgs false
namespace Go.Vm
open Go.RowKit
section
def Closed (ops:Array Oper) (L:Array Bool):Prop:=
 ∀ (j:Nat) o,ops[j]? = some o→L.getD j false=true→∀ e∈o.after,Region.binds .any e=true→L.getD e.on false=true
theorem zsb {ops:Array Oper} {L:Array Bool} (hc:Closed ops L):∀ (n j i:Nat) (o:Oper),ops[j]? = some o→(∀ e∈o.after,Region.binds .any e=true→L.getD e.on false=true) →
  zkh ops n j i=true→L.getD i false=true
 | 0,_,_,_,_,_,h=>by simp[zkh] at h
 | n+1,j,i,o,ho,hp,h=>by
  simp only[zkh,ho] at h;obtain⟨e,he,hb⟩:=Array.any_eq_true'.1 h;simp only[Bool.and_eq_true,Bool.or_eq_true,beq_iff_eq] at hb;obtain⟨h1,h2⟩:=hb;have hl:=hp e he h1
  rcases h2 with h2|h2
  ·rw[←h2];exact hl
  ·cases hoe:ops[e.on]? with
   | none=>
    exfalso;cases n with
    | zero=>simp[zkh] at h2
    | succ n=>simp[zkh,hoe] at h2
   | some oe=>exact zsb hc n e.on i oe hoe (hc e.on oe hoe hl) h2
theorem zxk {L:Array Bool} {i:Nat} (h:L.getD i true=false):L.getD i false=false:=by
 rcases Nat.lt_or_ge i L.size with h'|h'
 ·simp[h'] at h ⊢; exact h
 ·simp[Array.getElem?_eq_none h'] at h
theorem Closed.set {ops:Array Oper} {L:Array Bool} (hc:Closed ops L) {i:Nat} (hi:i∈Region.ready .any ops L):Closed ops (L.setIfInBounds i true):=by
 intro j o ho hl e he hb;obtain⟨_,oi,hoi,hall⟩:=mem_ready.1 hi;by_cases hij:i=j
 ·subst hij;rw[ho] at hoi;cases hoi;exact getD_set_true (hall e he hb)
 ·rw[getD_set_ne false hij] at hl;exact getD_set_true (hc j o ho hl e he hb)
section
variable {P:Program} {ops:Array Oper} {Q:Exit→Act→World→Prop} {T:Nat→World→World→Prop}
def zdC (P:Program) (ops:Array Oper) (Q:Exit→Act→World→Prop) (T:Nat→World→World→Prop):Nat→Array Bool→Act→World→Prop
 | 0,listed,a,w=>Region.ready .any ops listed=[]∧Q .normal a w
 | fuel+1,listed,a,w=>
  (Region.ready .any ops listed=[]→Q .normal a w) ∧
  ∀ i∈Region.ready .any ops listed,wpOp P ops Q i (fun a' w'=>T i w w'∧zdC P ops Q T fuel (listed.setIfInBounds i true) a' w') a w
theorem zp8:∀ (fuel:Nat) (listed:Array Bool) (a:Act) (w:World),zdC P ops Q T fuel listed a w→wpAny P .any ops Q fuel listed a w
 | 0,_,_,_,h=>h
 | fuel+1,_,_,_,h=>⟨h.1,fun i hi=>wpOp_mono (fun a' w' h'=>zp8 fuel _ a' w' h'.2) (h.2 i hi)⟩
theorem zxl {T':Nat→World→World→Prop} (hT:∀ i w w',T i w w'→T' i w w'):∀ (fuel:Nat) (listed:Array Bool) (a:Act) (w:World),zdC P ops Q T fuel listed a w→zdC P ops Q T' fuel listed a w
 | 0,_,_,_,h=>h
 | fuel+1,_,_,_,h=>⟨h.1,fun i hi=>wpOp_mono (fun a' w' h'=>⟨hT _ _ _ h'.1,zxl hT fuel _ a' w' h'.2⟩) (h.2 i hi)⟩
theorem zCc {listed:Array Bool} {a:Act} {w:World} (hr:Region.ready .any ops listed=[]) (h:Q .normal a w):∀ fuel,zdC P ops Q T fuel listed a w
 | 0=>⟨hr,h⟩
 | _+1=>⟨fun _=>h,by rw[hr];simp⟩
theorem zAV {i:Nat} {oi:Oper} {v:Value} {R:World→Prop} (hi:ops[i]? = some oi) (hsel:∀ (j:Nat) (o:Oper) cs b,ops[j]? = some o→o.op ≠ .select cs b)
  (hQ:∀ c a w,Q (.panic c) (a.put oi.dst v) w→Q (.panic c) a w)
  (hTi:∀ w,T i w w) (hT:∀ j,j≠i→zkh ops 5 j i=false→∀ w w',T j w w'→R w→R w') :
  ∀ (fuel:Nat) (listed:Array Bool) (a:Act) (w:World),Closed ops listed →
   (∀ j oj,ops[j]? = some oj→j≠i→listed.getD j true=false→(∀ e∈oj.after,Region.binds .any e=true→e.on≠i)→oi.apart ops oj=true) →
   i∈Region.ready .any ops listed→YieldsIf P ops R oi v a→R w →
   zdC P ops Q T fuel (listed.setIfInBounds i true) (a.put oi.dst v) w→zdC P ops Q T (fuel+1) listed a w:=by
 intro fuel
 induction fuel with
 | zero=>
  intro listed a w _ _ hr hy hS H;refine⟨fun h=>(by rw[h] at hr;cases hr),fun j hj=>?_⟩;by_cases hji:j=i
  ·subst hji;exact hy.wpOp hi hS ⟨hTi w,H⟩
  ·have:=ready_mono hj hji;rw[H.1] at this;cases this
 | succ fuel ih=>
  intro listed a w hcl hfree hr hy hS H;refine⟨fun h=>(by rw[h] at hr;cases hr),fun j hj=>?_⟩;by_cases hji:j=i
  ·subst hji;exact hy.wpOp hi hS ⟨hTi w,H⟩
  ·have h1:=H.2 j (ready_mono hj hji);obtain⟨hjun,oj,hoj,hall⟩:=mem_ready.1 hj;have hun:=(mem_ready.1 hr).1
   have hnot:∀ e∈oj.after,Region.binds .any e=true→e.on≠i:=fun e he hb heq=>by
    have h1:=hall e he hb;rw[heq,zxk hun] at h1;cases h1
   have hw:zkh ops 5 j i=false:=by
    cases hw:zkh ops 5 j i with
    | false=>rfl
    | true=>
     have:=zsb hcl 5 j i oj hoj hall hw;rw[zxk hun] at this;cases this
   have h2:=wpOp_putIf hoj (hfree j oj hoj hji hjun hnot) (fun cs b=>hsel i oi cs b hi) (fun cs b=>hsel j oj cs b hoj) hQ hy h1
   have hfree':∀ k ok,ops[k]? = some ok→k≠i→(listed.setIfInBounds j true).getD k true=false →
     (∀ e∈ok.after,Region.binds .any e=true→e.on≠i)→oi.apart ops ok=true:=fun k ok hk hki hun hno=>by
    refine hfree k ok hk hki ?_ hno;by_cases hjk:j=k
    ·subst hjk;exact hjun
    ·rw[getD_set_ne true hjk] at hun;exact hun
   refine wpOp_mono (fun a' w' h3=>⟨h3.2.1,ih (listed.setIfInBounds j true) a' w' (hcl.set hj) hfree' (ready_mono hr (Ne.symm hji)) h3.1 (hT j hji hw w w' h3.2.1 hS) ?_⟩) h2;rw[Array.setIfInBounds_comm _ _ hji];exact h3.2.2
end
section
variable {P:Program} {F:Mem} {w0:World} {n:Nat} {ops:Array Oper} {Q:Exit→Act→World→Prop}
theorem zpn {ks:List Nat} {d:Nat→Nat}:∀ {l:List BE} {i j:Nat} {x:BE},(dim ks d i l)[j]? = some x→∃ e,l[j]? = some e∧(x=e∨x = .gone (d (i+j)))
 | [],_,_,_,h=>by simp[dim] at h
 | e::r,i,0,x,h=>by
  simp[dim] at h;refine⟨e,rfl,?_⟩;split at h
  ·exact .inr (by rw[←h];rfl)
  ·exact .inl h.symm
 | e::r,i,j+1,x,h=>by
  simp only[dim,List.getElem?_cons_succ] at h;obtain⟨e',h1,h2⟩:=zpn h;exact⟨e',by simpa using h1,by rw[show i+(j+1)=i+1+j by omega];exact h2⟩
theorem zGi {M:Mem} {e f:BE} {A:Prop} (h:bx1 M e f A):A∧(e=f∨(∃ b T cs vs,f = .live T cs∧e = .gone b∧zdq cs=some vs∧M b=some (.cells vs.toArray T (0,0)))∨∃ b,f = .gone b):=by
 unfold bx1 at h;split at h
 ·rename_i b T cs;obtain⟨vs,hvs,h⟩:=zK h;exact⟨h.2,.inr (.inl ⟨b,T,cs,vs,rfl,rfl,hvs,h.1⟩)⟩
 ·exact⟨h,.inr (.inr ⟨_,rfl⟩)⟩
 ·exact⟨h.2,.inl h.1⟩
theorem zsc {M:Mem}:∀ {l r:List BE} {A:Prop},zpk M l r A→A∧∀ (j:Nat) e,r[j]? = some e→l[j]? = some e∨(∃ b T cs vs,e = .live T cs∧l[j]? = some (.gone b)∧zdq cs=some vs∧M b=some (.cells vs.toArray T (0,0)))∨∃ b,e = .gone b
 | l,[],A,h=>by cases l<;>exact⟨h,by simp⟩
 | x::l,y::r,A,h=>by
  obtain⟨h2,h1⟩:=zGi h;obtain⟨h3,h4⟩:=zsc h2;refine⟨h3,fun j e he=>?_⟩;cases j with
  | zero=>
   simp at he;subst he;rcases h1 with h1|⟨b,T,cs,vs,h5,h6,h7,h8⟩|h1
   ·left;simp[h1]
   ·right;left;exact⟨b,T,cs,vs,h5,by simp[h6],h7,h8⟩
   ·right;right;exact h1
  | succ j=>exact h4 j e (by simpa using he)
 | [],_::_,_,h=>h.elim
theorem Rd.start {β0 γ:List Nat} {bx0:List BE} {X:Mem} {w:World} (h:Rd β0 ⟨[],bx0,X⟩ w) (fr:List (Nat×SV)):Rd (β0++γ) ⟨fr,bx0,X⟩ w:=by
 have hb:∀ (j:Nat) (b:Nat),β0[j]? = some b→(β0++γ)[j]? = some b:=fun j b hb=>by
  rw[List.getElem?_append_left (List.getElem?_eq_some_iff.1 hb).1];exact hb
 refine⟨h.M,fun j T cs hj=>?_,fun j b hj=>hb j b (h.gone j b hj)⟩;obtain⟨b,vs,h1,h2,h3⟩:=h.live j T cs hj;exact⟨b,vs,hb j b h1,zdA h2 γ,h3⟩
theorem zGj {rs:List Nat} {i:Nat} {p:Nat→Bool} (h:rs.find? p=some i):i∈rs∧p i=true:=
 ⟨List.mem_of_find?_eq_some h,List.find?_some h⟩
theorem zvs {K:St→Prop} {bx0:List BE} {β0:List Nat} (hns:Region.noSelect ops=true) (hQ:∀ c a w,¬Q (.panic c) a w)
  (hg0:∀ (j:Nat) b,bx0[j]? = some (.gone b)→β0[j]? = some b) (hl0:∀ (j:Nat) T cs,bx0[j]? = some (.live T cs)→∃ b vs,β0[j]? = some b∧zx β0 cs=some vs) :
  ∀ (fuel:Nat) (X:Mem) (PP:Mem→Prop) (_:∀ Y,PP Y→Y.le X) (_:PP X) (ok:Bool) (listed:Array Bool) (t:DTree) (γ:List Nat) (s:St) (a:Act) (w:World),
   zpZ P n ops fuel ok listed=some t→Closed ops listed→Rel (β0++γ) F w0 n s a w→(ok=true→Rd β0 ⟨[],bx0,X⟩ w)→zbr P X bx0 t s K →
   (∀ β' s' a' w',K s'→Rel β' F w0 n s' a' w'→Q .normal a' w') →
   zdC P ops Q (fun i w w'=>if (zaX P n ops i).isSome then w'=w else (zb8 P ops i=true→∀ Y,PP Y→Rd β0 ⟨[],bx0,Y⟩ w→Rd β0 ⟨[],bx0,Y⟩ w')) fuel listed a w:=by
 intro fuel
 induction fuel with
 | zero=>
  intro X PP hPP hPX ok listed t γ s a w ht _ R _ h hK;simp only[zpZ] at ht;split at ht
  ·rename_i hr;simp at ht;subst ht;exact⟨hr,hK _ _ _ _ h R⟩
  ·cases ht
 | succ fuel ih=>
  intro X PP hPP hPX ok listed t γ s a w ht hcl R hok h hK;simp only[zpZ] at ht;split at ht
  ·rename_i hr;simp at ht;subst ht;exact zCc hr (hK _ _ _ _ h R) _
  ·rename_i rs hne;have hne':Region.ready .any ops listed≠[]:=fun e=>hne e
   split at ht
   ·
    rename_i i hfind;obtain⟨hir,hpi⟩:=zGj hfind;simp only[Option.bind_eq_some_iff,Option.map_eq_some_iff] at ht;obtain⟨r,hq,t',ht',rfl⟩:=ht;simp only[Bool.and_eq_true,hq,Option.isSome_some,true_and] at hpi;obtain⟨hfree,hokr⟩:=hpi;unfold zaX at hq;split at hq
    ·rename_i oi hoi;split at hq
     ·rename_i r' hr';split at hq
      ·rename_i hqt;simp at hq;subst hq;obtain⟨g,hrop,hg,hgd,hdst,hd⟩:=zny hr';have hqs:(zaX P n ops i).isSome=true:=by simp[zaX,hoi,hr',hqt]
       have hTi:∀ w:World,(if (zaX P n ops i).isSome then w=w else (zb8 P ops i=true→∀ Y,PP Y→Rd β0 ⟨[],bx0,Y⟩ w→Rd β0 ⟨[],bx0,Y⟩ w)):=fun w=>by rw[if_pos hqs]
       have take:∀ (v:Value) (Rq:World→Prop),YieldsIf P ops Rq oi v a→Rq w →
         (∀ j,j≠i→zkh ops 5 j i=false→∀ w w':World,(if (zaX P n ops j).isSome then w'=w else (zb8 P ops j=true→∀ Y,PP Y→Rd β0 ⟨[],bx0,Y⟩ w→Rd β0 ⟨[],bx0,Y⟩ w'))→Rq w→Rq w') →
         (∃ s',zbr P X bx0 t' s' K∧Rel (β0++γ) F w0 n s' (a.put oi.dst v) w) →
         zdC P ops Q (fun i w w'=>if (zaX P n ops i).isSome then w'=w else (zb8 P ops i=true→∀ Y,PP Y→Rd β0 ⟨[],bx0,Y⟩ w→Rd β0 ⟨[],bx0,Y⟩ w')) (fuel+1) listed a w:=by
        intro v Rq hy hRq hstay ⟨s',hs',R'⟩;refine zAV (R:=Rq) hoi (Region.noSelect_spec hns) (fun c a w h=>absurd h (hQ c _ w)) hTi hstay fuel listed a w hcl (Region.free_spec hoi hfree) hir hy hRq ?_;exact ih X PP hPP hPX ok _ t' γ s' _ w ht' (hcl.set hir) R' hok hs' hK
       have run:vq r'.op ⟨s.fr,bx0,X⟩ (fun sv=>zfn r'.sp sv fun sv'=>s.putK r'.dst sv' fun s'=>zbr P X bx0 t' s' K)→Region.wanted oi (yielded ops a.tmps)=true →
         zdC P ops Q (fun i w w'=>if (zaX P n ops i).isSome then w'=w else (zb8 P ops i=true→∀ Y,PP Y→Rd β0 ⟨[],bx0,Y⟩ w→Rd β0 ⟨[],bx0,Y⟩ w')) (fuel+1) listed a w:=by
        intro hv hwant;simp only[zfu,hdst] at hv;have hfr:Fr (β0++γ) (⟨s.fr,bx0,X⟩:St).fr a:=R.fr
        have hb:∀ (j:Nat) (b:Nat),β0[j]? = some b→(β0++γ)[j]? = some b:=fun j b hb=>by
         rw[List.getElem?_append_left (List.getElem?_eq_some_iff.1 hb).1];exact hb
        obtain⟨sv,v,hk,hval,hruns⟩:=zAQ hrop hqt hfr (fun j b hj=>hb j b (hg0 j b hj)) (fun j T cs hj=>let ⟨b,vs,h1,h2⟩:=hl0 j T cs hj;⟨b,vs,hb j b h1,zdA h2 γ⟩) hv;obtain⟨s',hs',R',_⟩:=znz (K:=fun s'=>zbr P X bx0 t' s' K) hk hd (.inr hval) R;refine take v (fun w=>reads r'.op=true→Rd β0 ⟨[],bx0,X⟩ w) (.inl ⟨hwant,fun w hw=>?_⟩) (fun hrd=>?_) ?_ ⟨s',hs',R'⟩
        ·exact hruns w (fun hrd=>(hw hrd).start _)
        ·cases ok with
         | true=>exact hok rfl
         | false=>simp[hrd] at hokr
        ·intro j hji hw w1 w2 hT hR hrd;split at hT
         ·rw[hT];exact hR hrd
         ·refine hT ?_ X hPX (hR hrd);simp only[zb8,List.any_eq_true];refine⟨i,?_,?_⟩
          ·simp only[zCT,List.mem_filter,List.mem_range];exact⟨(Array.getElem?_eq_some_iff.1 hoi).1,by simp[hoi,hrop,hrd]⟩
          ·simp[hw];exact Ne.symm hji
       have skip:(s.putK r'.dst SV.skip fun s'=>zbr P X bx0 t' s' K)→Region.wanted oi (yielded ops a.tmps)=false →
         zdC P ops Q (fun i w w'=>if (zaX P n ops i).isSome then w'=w else (zb8 P ops i=true→∀ Y,PP Y→Rd β0 ⟨[],bx0,Y⟩ w→Rd β0 ⟨[],bx0,Y⟩ w')) (fuel+1) listed a w:=by
        intro hv hwant;simp only[zfu,hdst] at hv;exact take undef (fun _=>True) (.inr ⟨hwant,rfl⟩) trivial (fun _ _ _ _ _ _ _=>trivial) ⟨_,hv,R.put (sv:=SV.skip) hd (.inr rfl)⟩
       simp only[zbr,hgd] at h;cases g with
       | none=>exact run h (zp7 hg)
       | some q=>
        obtain⟨d,b⟩:=q;simp only at h;rcases zoE hg R.fr h with ⟨hw,h1⟩|⟨hw,h2⟩
        ·exact run h1 hw
        ·exact skip h2 hw
      ·cases hq
     ·cases hq
    ·cases hq
   ·
    refine⟨fun h0=>absurd h0 hne',?_⟩
    have key:∀ (rs:List Nat) (t:DTree),(∀ i∈rs,i∈Region.ready .any ops listed) →
      rs.foldr (fun i more=>more.bind fun m=>(zDy P n ops i).bind fun r=>
       if !zy r.op then (zpZ P n ops fuel (match zhi r.op with|true=>ok|false=>zb8 P ops i&&(ok||r.guard.isNone)) (listed.setIfInBounds i true)).map fun t => .alt r (zb8 P ops i && !zhi r.op) t m else none) (some .none)=some t →
      zbr P X bx0 t s K→∀ i∈rs,wpOp P ops Q i (fun a' w'=>(if (zaX P n ops i).isSome then w'=w else (zb8 P ops i=true→∀ Y,PP Y→Rd β0 ⟨[],bx0,Y⟩ w→Rd β0 ⟨[],bx0,Y⟩ w')) ∧
       zdC P ops Q (fun i w w'=>if (zaX P n ops i).isSome then w'=w else (zb8 P ops i=true→∀ Y,PP Y→Rd β0 ⟨[],bx0,Y⟩ w→Rd β0 ⟨[],bx0,Y⟩ w')) fuel (listed.setIfInBounds i true) a' w') a w:=by
     intro rs
     induction rs with
     | nil=>intro t _ _ _ i hi;cases hi
     | cons i rs ihr=>
      intro t hsub ht h;simp only[List.foldr_cons,Option.bind_eq_some_iff] at ht;obtain⟨m,hm,r,hra,ht⟩:=ht;split at ht
      ·rename_i hc;simp only[Option.map_eq_some_iff] at ht;obtain⟨t',ht',rfl⟩:=ht;have hnq:zy r.op=false:=by simpa using hc
       simp only[zbr] at h;obtain⟨h,hmore⟩:=h;intro k hk;rcases List.mem_cons.1 hk with rfl|hk
       ·have hkr:=hsub k (by simp);simp only[zDy,Option.bind_eq_some_iff] at hra;obtain⟨oi,hoi,hr'⟩:=hra;obtain⟨g,hrop,hg,hgd,hdst,hd⟩:=zny hr';have hqs:(zaX P n ops k).isSome=false:=by simp[zaX,hoi,hr',hnq]
        have run:vop P r s (fun s'=>zyl (zb8 P ops k && !zhi r.op) X bx0 s' fun X'=>zbr P X' bx0 t' s' K) →
          oi.wp P a w (fun a' w'=>(if (zaX P n ops k).isSome then w'=w else (zb8 P ops k=true→∀ Y,PP Y→Rd β0 ⟨[],bx0,Y⟩ w→Rd β0 ⟨[],bx0,Y⟩ w')) ∧
           zdC P ops Q (fun i w w'=>if (zaX P n ops i).isSome then w'=w else (zb8 P ops i=true→∀ Y,PP Y→Rd β0 ⟨[],bx0,Y⟩ w→Rd β0 ⟨[],bx0,Y⟩ w')) fuel (listed.setIfInBounds k true) a' w') Q:=by
         intro hv;refine zsa hr' R hv fun β' s' a' w' hk2 R' hext=>?_
         obtain⟨⟨γ',rfl⟩,hal⟩:=hext
         have hst:∃ (X':Mem) (PP':Mem→Prop),(∀ Y,PP Y→PP' Y)∧(∀ Y,PP' Y→Y.le X')∧PP' X'∧(zb8 P ops k=true→∀ Y,PP Y→Rd β0 ⟨[],bx0,Y⟩ w→Rd β0 ⟨[],bx0,Y⟩ w') ∧
           ((match zhi r.op with|true=>ok|false=>zb8 P ops k&&(ok||r.guard.isNone))=true→Rd β0 ⟨[],bx0,X'⟩ w')∧zbr P X' bx0 t' s' K:=by
          cases hal':zhi r.op with
          | true=>
           have hx:=hal hal'
           have keep:∀ Y,Rd β0 ⟨[],bx0,Y⟩ w→Rd β0 ⟨[],bx0,Y⟩ w':=fun Y hrd=>by
            refine⟨fun b o hb=>hx b o (hrd.M b o hb),fun j T cs hj=>?_,hrd.gone⟩;obtain⟨b,vs,h1,h2,h3⟩:=hrd.live j T cs hj;exact⟨b,vs,h1,h2,hx b _ h3⟩
           rw[hal'] at hk2;simp only[Bool.not_true,Bool.and_false,zyl] at hk2;exact⟨X,PP,fun _ h=>h,hPP,hPX,fun _ Y _=>keep Y,fun e=>keep X (hok e),hk2⟩
          | false=>
           rw[hal'] at hk2;simp only[Bool.not_false,Bool.and_true] at hk2;cases hnd:zb8 P ops k with
           | true=>
            rw[hnd] at hk2;simp only[zyl] at hk2;obtain⟨⟨X',hXX,hX,hk3⟩,hbx⟩:=zsc hk2
            have get:∀ Y:Mem,Y.le X'→Rd β0 ⟨[],bx0,Y⟩ w':=fun Y hY=>by
             refine⟨Mem.le_trans (Mem.le_trans hY hX) R'.rd.M,fun j T cs hj=>?_,hg0⟩;obtain⟨b,vs,h1,h2⟩:=hl0 j T cs hj;rcases hbx j _ hj with hbj|⟨b',T',cs',vs',he,hgn,hpl,hMb⟩|⟨b',he⟩
             case inr.inr=>cases he
             case inr.inl=>
              cases he
              have hb0:(β0++γ++γ')[j]? = some b:=by
               rw[List.getElem?_append_left (by have:=(List.getElem?_eq_some_iff.1 h1).1;simp;omega),List.getElem?_append_left (List.getElem?_eq_some_iff.1 h1).1];exact h1
              have hb1:=R'.rd.gone j b' hgn;rw[hb0] at hb1;cases hb1;have hv1:=zp3 (β:=β0) hpl
              rw[h2] at hv1;cases hv1;exact⟨b,vs,h1,h2,R'.rd.M b _ hMb⟩
             obtain⟨b',vs',h1',h2',h3'⟩:=R'.rd.live j T cs hbj
             have hb0:(β0++γ++γ')[j]? = some b:=by
              rw[List.getElem?_append_left (by have:=(List.getElem?_eq_some_iff.1 h1).1;simp;omega),List.getElem?_append_left (List.getElem?_eq_some_iff.1 h1).1];exact h1
             rw[hb0] at h1';cases h1';have hvv:=zdA (zdA h2 γ) γ'
             rw[hvv] at h2';cases h2';exact⟨b,vs,h1,h2,h3'⟩
            refine⟨X',fun Y=>PP Y∨Y=X',fun _ h => .inl h,fun Y hY=>?_,.inr rfl,fun _ Y hY _=>get Y (Mem.le_trans (hPP Y hY) hXX),fun _=>get X' (Mem.le_refl _),hk3⟩;rcases hY with hY|rfl
            ·exact Mem.le_trans (hPP Y hY) hXX
            ·exact Mem.le_refl _
           | false=>
            rw[hnd] at hk2;simp only[zyl] at hk2;exact⟨X,PP,fun _ h=>h,hPP,hPX,fun e=>by simp at e,fun e=>by simp at e,hk2⟩
         obtain⟨X',PP',hsub',hPP',hPX',hst1,hst2,hst3⟩:=hst;refine⟨by rw[hqs];simpa using hst1,?_⟩;refine zxl ?_ _ _ _ _ (ih X' PP' hPP' hPX' _ _ t' (γ++γ') s' a' w' ht' (hcl.set hkr) (by rw[←List.append_assoc];exact R') hst2 hst3 hK);intro i w1 w2 hT;split
         ·rename_i hq;rw[if_pos hq] at hT;exact hT
         ·rename_i hq;rw[if_neg hq] at hT;exact fun hn Y hY=>hT hn Y (hsub' Y hY)
        have skip:¬g.isNone=true→(s.putK r.dst SV.skip fun s'=>zbr P X bx0 t' s' K)→((if (zaX P n ops k).isSome then w=w else (zb8 P ops k=true→∀ Y,PP Y→Rd β0 ⟨[],bx0,Y⟩ w→Rd β0 ⟨[],bx0,Y⟩ w)) ∧
           zdC P ops Q (fun i w w'=>if (zaX P n ops i).isSome then w'=w else (zb8 P ops i=true→∀ Y,PP Y→Rd β0 ⟨[],bx0,Y⟩ w→Rd β0 ⟨[],bx0,Y⟩ w')) fuel (listed.setIfInBounds k true) (a.put oi.dst undef) w):=by
         intro hgs hv;simp only[zfu,hdst] at hv;refine⟨by rw[hqs];simp,?_⟩;refine ih X PP hPP hPX _ _ t' γ _ _ w ht' (hcl.set hkr) (R.put (sv:=SV.skip) hd (.inr rfl)) ?_ hv hK;intro e;split at e
         ·exact hok e
         ·rw[hgd] at e;simp only[Bool.and_eq_true,Bool.or_eq_true] at e;rcases e.2 with e|e
          ·exact hok e
          ·exact absurd e hgs
        unfold wpOp;simp only[hoi];simp only[hgd] at h;cases g with
        | none=>
         simp only at h;rw[if_pos (zp7 hg)];exact .inl (run h)
        | some q=>
         obtain⟨d,b⟩:=q;simp only at h;rcases zoE hg R.fr h with ⟨hw,h1⟩|⟨hw,h2⟩
         ·rw[if_pos hw];exact .inl (run h1)
         ·rw[if_neg (by rw[hw];simp)];have hs:=skip (by simp) h2
          simp only at hs ⊢;exact hs
       ·exact ihr m (fun j hj=>hsub j (by simp[hj])) hm hmore k hk
      ·cases ht
    exact fun i hi=>key _ t (fun j hj=>hj) ht h i hi
end
end
section
section
variable {P:Program} {Q:Exit→Act→World→Prop} {a:Act} {w:World} {l:Nat}
theorem zGk {row:String} {args:Array Value} {R:Value→World→Prop} (h:Rows P row args w R):RowsIn (Fence.wide.inRound l) 0 P row args w R:=
 fun c cs _=>let ⟨v,w',r,s⟩:=h c cs;⟨v,w',r,stepsIn_wide.2 s⟩
theorem zDE {o:Oper} {K:Act→World→Prop} (hd:∀ c,o.op ≠ .defer c) (h:o.wp P a w K Q):o.wpIn (Fence.wide.inRound l) 0 P a w K Q:=by
 refine⟨fun _ _=>trivial,?_⟩;rw[Oper.semAt_eq _ _ _ hd];unfold Oper.wp at h;generalize (execOp a.eval o).run P w=r at *;cases r with
 | ok n w'=>
  cases n<;>simp only[Oper.upon] at h<;>simp only[Oper.uponIn]<;>first
   | exact h
   | exact⟨fun h=>(by cases h),CallsIn.inRound l (callsIn_wide.2 h)⟩
   | exact⟨fun h=>(by cases h),zGk h⟩
   | exact h.elim
 | halt x w'=>cases x<;>simp only[Oper.upon] at h<;>simp only[Oper.uponIn]<;>exact h
theorem zAW {o:Oper} {K K':Act→World→Prop} (hk:∀ a w,K a w→K' a w) (hd:∀ c,o.op ≠ .defer c) (h:o.wp P a w K Q):o.wpIn (Fence.wide.inRound l) 0 P a w K' Q:=zDE hd (Oper.wp_mono hk h)
theorem zvt {o:Oper} (h:zk1 o=true):∀ c,o.op ≠ .defer c:=fun c hc=>by simp[zk1,hc] at h
theorem zoF {ops:Array Oper} (hQ:¬LetsOut Q):∀ (ls:List Oper) (a:Act) (w:World),(∀ o∈ls,zk1 o=true)→wpList P ops Q ls a w→wpListIn (Fence.wide.inRound l) 0 P ops Q ls a w
 | [],_,_,_,h=>h
 | o::ls,a,w,hd,h=>by
  unfold wpList at h;unfold wpListIn;split
  ·rename_i hw;rw[if_pos hw] at h;rcases h with h|⟨-, h⟩
   ·exact zAW (fun a w h=>zoF hQ ls a w (fun o ho=>hd o (by simp[ho])) h) (zvt (hd o (by simp))) h
   ·exact absurd h hQ
  ·rename_i hw;rw[if_neg hw] at h;exact⟨fun _ _=>trivial,zoF hQ ls _ w (fun o ho=>hd o (by simp[ho])) h⟩
theorem zm8 {ops:Array Oper} {md:Region.Mode} (hQ:¬LetsOut Q) (hd:∀ (i:Nat) o,ops[i]? = some o→zk1 o=true):∀ (fuel:Nat) (listed:Array Bool) (a:Act) (w:World),wpAny P md ops Q fuel listed a w→wpAnyIn (Fence.wide.inRound l) 0 P md ops Q fuel listed a w
 | 0,_,_,_,h=>h
 | fuel+1,listed,a,w,h=>by
  refine⟨h.1,fun i hi=>?_⟩;have h1:=h.2 i hi
  unfold wpOp at h1;unfold wpOpIn;cases ho:ops[i]? with
  | none=>rw[ho] at h1;exact zm8 hQ hd fuel _ a w h1
  | some o=>
   rw[ho] at h1;dsimp only at h1 ⊢;split
   ·rename_i hw;rw[if_pos hw] at h1;rcases h1 with h1|⟨-, h1⟩
    ·exact zAW (fun a w h=>zm8 hQ hd fuel _ a w h) (zvt (hd i o ho)) h1
    ·exact absurd h1 hQ
   ·rename_i hw;rw[if_neg hw] at h1;exact⟨fun _ _=>trivial,zm8 hQ hd fuel _ _ w h1⟩
end
theorem zef {p:Nat→Prop} (h:∃ n,p n):∃ n,p n∧∀ m,p m→n≤m:=by
 obtain⟨n,hn⟩:=h
 induction n using Nat.strongRecOn with
 | _ n ih=>
  by_cases hx:∃ m,m<n∧p m
  ·obtain⟨m,hm,hp⟩:=hx;exact ih m hm hp
  ·exact⟨n,hn,fun m hm=>Nat.le_of_not_lt fun hlt=>hx ⟨m,hlt,hm⟩⟩
theorem zzy {P:Program} {F:Mem} {w0:World} {n l:Nat} {kf:Nat→List Nat}:∀ (c:Code) (r:RCode),res P n kf c=some r→noD c=true →
  ∀ (K:Exit→St→Prop) (Q:Exit→Act→World→Prop) (β:List Nat) (s:St) (a:Act) (w:World),(∀ a w,¬Q .outgrown a w)→(∀ c a w,¬Q (.panic c) a w)→Rel β F w0 n s a w→vc P r K s →
  (∀ e β' s' a' w',K e s'→Rel β' F w0 n s' a' w'→Q e a' w')→c.wpIn (Fence.wide.inRound l) 0 P Q a w:=by
 intro c
 induction c with
 | skip=>
  intro r hr _ K Q β s a w _ _ R h hK;simp[res] at hr;subst hr;exact wpIn_skip (hK _ _ _ _ _ h R)
 | region id ops draw=>
  intro r hr hd K Q β s a w hQ hQ2 R h hK;have hL:¬LetsOut Q:=fun ⟨a,w,h⟩=>hQ a w h
  simp only[noD,Array.all_eq_true] at hd
  have hdm:∀ o∈ops.toList,zk1 o=true:=fun o ho=>by
   obtain⟨i,hi,rfl⟩:=List.getElem_of_mem ho;exact hd i (by simpa using hi)
  simp only[res] at hr;cases draw with
  | false=>
   simp only[Option.map_eq_some_iff] at hr;obtain⟨ls,hl,rfl⟩:=hr;exact wpIn_region_list (zoF hL _ _ _ hdm (zkl ops.toList 0 ls β s a w hl R h fun β' s' a' w' hk R'=>hK _ _ _ _ _ (by rw[zk2] at hk;exact hk) (R'.kill _)))
  | true=>
   simp only at hr;split at hr
   ·rename_i hc;simp only[Bool.and_eq_true] at hc;obtain⟨hm,hns⟩:=hc;simp only[Option.map_eq_some_iff] at hr;obtain⟨t,ht,rfl⟩:=hr
    have R1:Rel (β++[]) F w0 n s a { w with drawn:=w.drawn+1 }:=by
     rw[List.append_nil];exact⟨⟨R.rd.M,R.rd.live,R.rd.gone⟩,R.fr,R.len,R.Fle,R.dj,R.own,R.dist,R.nd,R.sz,R.os,R.out,R.tape,⟨R.grow.1,Nat.le_succ_of_le R.grow.2⟩⟩
    have main:∀ (bx0:List BE) (X:Mem),(∀ (j:Nat) T cs,bx0[j]? = some (.live T cs)→s.bx[j]? = some (.live T cs))→(∀ (j:Nat) b,bx0[j]? = some (.gone b)→β[j]? = some b)→X.le s.M→zbr P X bx0 t s (fun s'=>s'.killK (kf id) fun s''=>K .normal s'')→(Code.region id ops true).wpIn (Fence.wide.inRound l) 0 P Q a w:=by
     intro bx0 X hl hg hX hv;refine wpIn_mono (Q:=fun e a w=>e = .normal∧∃ β' s',K .normal s'∧Rel β' F w0 n s' a w) ?_ (fun e a w ⟨he,β',s',hk,R'⟩=>by subst he;exact hK _ _ _ _ _ hk R')
     refine wpIn_region_any hm (zm8 (by rintro ⟨a,w,h, -⟩;cases h) (fun i o ho=>hdm o (by rw[←Array.getElem?_toList] at ho;exact List.mem_of_getElem? ho)) _ _ _ _ (zp8 _ _ _ _ (zvs hns (fun c a w h=>by cases h.1) (bx0:=bx0) (β0:=β) hg
      (fun j T cs hj=>R.lv j T cs (hl j T cs hj)) ops.size X (fun Y=>Y=X) (fun Y hY=>by rw[hY];exact Mem.le_refl _) rfl true _ t [] s a _ ht ?_ R1 (fun _=>⟨Mem.le_trans hX R1.rd.M,fun j T cs hj=>R.rd.live j T cs (hl j T cs hj),hg⟩) hv ?_)))
     ·intro j o ho hl;exfalso;simp only[Array.getD_eq_getD_getElem?, Array.getElem?_replicate] at hl;split at hl<;>simp at hl
     ·intro β' s' a' w' hk R';rw[zk2] at hk;exact⟨rfl,β',_,hk,R'.kill _⟩
    simp only[vc,ztH] at h;cases hn:zhj t with
    | true=>
     rw[hn] at h;dsimp only at h;cases hst:zm3 t with
     | true=>
      rw[hst] at h;obtain⟨ks,X,hX,hv⟩:=h;refine main (dim ks (fun j=>β.getD j 0) 0 s.bx) X (fun j T cs hj=>?_) (fun j b hj=>?_) hX (hv _)
      ·obtain⟨e,h1,h2|h2⟩:=zpn hj
       ·rw[h1,h2]
       ·cases h2
      ·obtain⟨e,h1,h2|h2⟩:=zpn hj
       ·subst h2;exact R.rd.gone j b h1
       ·cases h2
        have hb:∃ b,β[j]? = some b:=by
         cases e with
         | live T cs=>obtain⟨b,vs,h3, -⟩:=R.lv j T cs h1;exact⟨b,h3⟩
         | gone b=>exact⟨b,R.rd.gone j b h1⟩
        obtain⟨b,hb⟩:=hb;rw[Nat.zero_add,List.getD_eq_getElem?_getD,hb];rfl
     | false=>
      rw[hst] at h;obtain⟨X,hX,hv⟩:=h;exact main s.bx X (fun _ _ _ h=>h) (fun j b hj=>R.rd.gone j b hj) hX hv
    | false=>
     rw[hn] at h;exact main s.bx s.M (fun _ _ _ h=>h) (fun j b hj=>R.rd.gone j b hj) (Mem.le_refl _) h
   ·cases hr
 | seq x y ihx ihy=>
  intro r hr hd K Q β s a w hQ hQ2 R h hK;simp only[noD,Bool.and_eq_true] at hd;simp only[res] at hr;split at hr
  ·rename_i rx ry hx hy;simp at hr;subst hr;refine wpIn_seq (ihx rx hx hd.1 _ _ β s a w (fun a w h=>hQ a w h) (fun c a w h=>hQ2 c a w h) R h ?_);intro e β' s' a' w' hk R';cases e<;>first|exact ihy ry hy hd.2 _ _ β' s' a' w' hQ hQ2 R' hk hK|exact hK _ _ _ _ _ hk R'
  ·cases hr
 | cond c x y ihx ihy=>
  intro r hr hd K Q β s a w hQ hQ2 R h hK;simp only[noD,Bool.and_eq_true] at hd;simp only[res] at hr;split at hr
  ·rename_i rx ry hx hy;simp at hr;subst hr;obtain⟨sv,v,hk,hv,he⟩:=zl R.fr h;obtain⟨b,rfl,h1,h2⟩:=zop hk hv;refine wpIn_cond he ?_;cases b with
   | true=>exact ihx rx hx hd.1 _ _ β s a w hQ hQ2 R (h1 rfl) hK
   | false=>exact ihy ry hy hd.2 _ _ β s a w hQ hQ2 R (h2 rfl) hK
  ·cases hr
 | block id x ih=>
  intro r hr hd K Q β s a w hQ hQ2 R h hK;simp only[res,Option.map_eq_some_iff] at hr;obtain⟨rx,hx,rfl⟩:=hr;refine wpIn_block (ih rx hx hd _ _ β s a w (fun a w h=>hQ a w h) (fun c a w h=>hQ2 c a w h) R h ?_);intro e β' s' a' w' hk R';cases e with
  | exit i=>
   simp only[zAJ] at hk;simp only[Exit.inBlock];split at hk
   ·rename_i hi;rw[if_pos (Nat.eq_of_beq_eq_true hi)];exact hK _ _ _ _ _ hk R'
   ·rename_i hi;rw[if_neg (Nat.ne_of_beq_eq_false hi)];exact hK _ _ _ _ _ hk R'
  | _=>exact hK _ _ _ _ _ hk R'
 | loop x ih=>
  intro r hr hd K Q β s a w hQ hQ2 R h hK;simp only[res,Option.map_eq_some_iff] at hr;obtain⟨rx,hx,rfl⟩:=hr;obtain⟨s1,h,R⟩:=zAS R h;obtain⟨I,⟨m0,t0,hI0,hs0⟩,hround⟩:=h
  let J:Act→World→Nat→Prop:=fun a w m=>∃ t β,I m t∧Rel β F w0 n t a w
  have hJ0:∃ m,J a w m:=⟨m0,t0,_,hI0,R.sub hs0⟩
  classical
  refine wpIn_loop (fun a w=>∃ m,J a w m) (fun a w=>if h:∃ m,J a w m then Classical.choose (zef h) else 0) hJ0 ?_;intro a1 w1 hJ;have hmin:=(Classical.choose_spec (zef hJ)).1
  obtain⟨t,β1,hI,R1⟩:=hmin;refine ih rx hx hd _ _ β1 t a1 w1 (fun a w h=>hQ a w h) (fun c a w h=>hQ2 c a w h) R1 (hround _ t hI) ?_;intro e β' s' a' w' hk R';cases e with
  | normal=>
   obtain⟨m',t',hlt,hI',hs'⟩:=hk;have hJ':J a' w' m':=⟨t',_,hI',R'.sub hs'⟩
   refine⟨⟨m',hJ'⟩,?_⟩;rw[dif_pos hJ,dif_pos ⟨m',hJ'⟩];exact Nat.lt_of_le_of_lt ((Classical.choose_spec (zef (p:=J a' w') ⟨m',hJ'⟩)).2 _ hJ') hlt
  | _=>exact hK _ _ _ _ _ hk R'
 | exit id=>
  intro r hr _ K Q β s a w _ _ R h hK;simp[res] at hr;subst hr;exact wpIn_exit (hK _ _ _ _ _ h R)
 | ret=>
  intro r hr _ K Q β s a w _ _ R h hK;simp[res] at hr;subst hr;exact wpIn_ret (hK _ _ _ _ _ h R)
 | label l=>
  intro r hr _ K Q β s a w _ _ R h hK;simp[res] at hr;subst hr;exact wpIn_label (hK _ _ _ _ _ h R)
 | _=>intro r hr hd;simp[res,noD] at hr hd
end
end Go.Vm
