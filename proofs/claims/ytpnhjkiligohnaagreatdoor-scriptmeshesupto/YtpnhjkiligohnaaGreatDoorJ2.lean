/- Part of this proof;laid by program. -/
import Derived.Test.YtpnhjkiligohnaaGreatDoorJ1
set_option linter.unusedVariables false
set_option linter.unusedSimpArgs false
namespace Go.Vm
open Go.RowKit
def zC (P:Program) (o:Oper) (a:Act) (w:World) (v:Value):Prop:=(execOp a.eval o).run P w = .ok (.value v) w
def Quiet (P:Program) (β:List Nat) (o:Oper) (s:St) (a:Act) (k:SV→Prop) (rd:Bool:=false):Prop:=
 ∃ sv v,k sv∧sv.val β=some v∧∀ w,(rd=true→Rd β s w)→zC P o a w v
theorem Quiet.reads {P:Program} {β:List Nat} {o:Oper} {s:St} {a:Act} {k:SV→Prop} (h:Quiet P β o s a k) (rd:Bool):Quiet P β o s a k rd:=
 let ⟨sv,v,h1,h2,h3⟩:=h;⟨sv,v,h1,h2,fun w _=>h3 w (by simp)⟩
section
variable {P:Program} {β:List Nat} {o:Oper} {s:St} {a:Act} {k:SV→Prop}
theorem zJ3 {x:Operand} (ho:o.op = .move x∨o.op = .assign x) (hf:Fr β s.fr a) (h:vq (.mov x) s k):Quiet P β o s a k:=by
 obtain⟨sv,v,hk,hv,he⟩:=zl hf h;refine⟨sv,v,hk,hv,fun w _=>?_⟩;rcases ho with ho|ho<;>simp[zC,execOp,ho,he]
theorem zMh {c x y:Operand} (ho:o.op = .pick c x y) (hf:Fr β s.fr a) (h:vq (.pick c x y) s k):Quiet P β o s a k:=by
 obtain⟨sv0,v0,hk0,hv0,he⟩:=zl hf h;obtain⟨b,rfl,h1,h2⟩:=zop hk0 hv0;cases b with
 | true=>
  obtain⟨sv,v,hk,hv,he'⟩:=zl hf (h1 rfl);exact⟨sv,v,hk,hv,fun w _=>by simp[zC,execOp,ho,he,he',asBool]⟩
 | false=>
  obtain⟨sv,v,hk,hv,he'⟩:=zl hf (h2 rfl);exact⟨sv,v,hk,hv,fun w _=>by simp[zC,execOp,ho,he,he',asBool]⟩
theorem zMi {T:TypeId} {p:Operand} {g:Bool} {z:List Value} (ho:o.op = .load T p) (hg:zeQ P T=some g) (hz:zcM P T=some z) (hgz:(g||z.length == 1)=true)
  (hf:Fr β s.fr a) (hgone:∀ (j:Nat) b,s.bx[j]? = some (.gone b)→β[j]? = some b)
  (hlive:∀ (j:Nat) T cs,s.bx[j]? = some (.live T cs)→∃ b vs,β[j]? = some b∧zx β cs=some vs)
  (h:vq (.load g z.length p) s k):Quiet P β o s a k true:=by
 have hsz:=zvi hz;rcases zr4 hf hgone (fun j T cs hj=>let ⟨b,_,hb,_⟩:=hlive j T cs hj;⟨b,hb⟩) h with ⟨j,o',T',cs,b,hj,hk,hb,he⟩|⟨b,o',hk,he⟩
 ·obtain⟨l,hl,hk⟩:=zK hk;obtain⟨hle,rfl⟩:=zm5 hl;obtain⟨b',vs,hb',hvs⟩:=hlive j T' cs hj;obtain⟨sv,hk2,hor⟩:=zl5 hk (zeM _ (zeN _ hvs));have hlen:=zbb hvs
  rcases hor with ⟨rfl,hv⟩|⟨rfl,u,hu,hv⟩
  ·refine⟨sv,_,hk2,hv,fun w hr=>?_⟩;have hr:=hr rfl
   obtain⟨b2,vs2,hb2,hvs2,hh⟩:=hr.live j T' cs hj;rw[hvs] at hvs2;cases hvs2;rw[hb] at hb2;cases hb2;simp only[zC,execOp,ho,Instr.loadAt,he,Instr.sureAddr,Sem.run_bind,Sem.run_pure,Result.andThen_ok];rw[zki hg hsz hh (by simp;omega)];rfl
  ·refine⟨sv,_,hk2,hv,fun w hr=>?_⟩;have hr:=hr rfl
   obtain⟨b2,vs2,hb2,hvs2,hh⟩:=hr.live j T' cs hj;rw[hvs] at hvs2;cases hvs2;rw[hb] at hb2;cases hb2;simp only[zC,execOp,ho,Instr.loadAt,he,Instr.sureAddr,Sem.run_bind,Sem.run_pure,Result.andThen_ok];rw[zkj (v:=u) hg ?_]
   ·rfl
   ·rw[zj1 hh];have h1:z.length=1:=by simpa using hgz
    rw[h1] at hu
    have:(List.drop o' vs)[0]? = some u:=by
     have:=congrArg (·[0]?) hu;simpa using this
    simpa using this
 ·obtain⟨vs,hrow,hk⟩:=zK hk;obtain⟨sv,hk2,hor⟩:=zl5 hk (zdy β vs);rcases hor with ⟨rfl,hv⟩|⟨rfl,u,rfl,hv⟩
  ·refine⟨sv,_,hk2,hv,fun w hr=>?_⟩;have hr:=hr rfl
   obtain⟨c,e,fz,hh,hle,rfl⟩:=znw hr.M hrow;simp only[zC,execOp,ho,Instr.loadAt,he,Instr.sureAddr,Sem.run_bind,Sem.run_pure,Result.andThen_ok];rw[zki hg hsz hh hle];rfl
  ·refine⟨sv,_,hk2,hv,fun w hr=>?_⟩;have hr:=hr rfl
   obtain⟨c,e,fz,hh,hle,hu⟩:=znw hr.M hrow;simp only[zC,execOp,ho,Instr.loadAt,he,Instr.sureAddr,Sem.run_bind,Sem.run_pure,Result.andThen_ok];rw[zkj (v:=u) hg ?_]
   ·rfl
   ·rw[zj1 hh];have h1:z.length=1:=by simpa using hgz
    rw[h1] at hu
    have:(List.drop o' c.toList)[0]? = some u:=by
     have:=congrArg (·[0]?) hu;simpa using this.symm
    simpa using this
theorem zK9 {x:Operand} (ho:o.op = .nilCheck x) (hf:Fr β s.fr a) (h:vq (.nilck x) s k):Quiet P β o s a k:=by
 obtain⟨sv,v,hk,hv,he⟩:=zl hf h;obtain⟨b,o',sv',rfl,hk',hv'⟩:=zoA hk hv;exact⟨sv',_,hk',hv',fun w _=>by simp[zC,execOp,ho,he]⟩
theorem zao {T:TypeId} {n:Nat} (h:zI P T=some n) (w:World):(sizeOf T).run P w = .ok n w:=by
 unfold zI at h;cases hi:P.info? T with
 | none=>simp[hi] at h
 | some i=>simp[hi] at h;simp[sizeOf,typeInfo,hi,h]
theorem zLa {T:TypeId} {p:Operand} {i:Nat} {fs:Array Field} {f:Field} {n:Nat} (ho:o.op = .fieldAddr T p i) (hu:P.underlying T=some (.struct fs)) (hi:fs[i]? = some f)
  (hn:zI P f.type=some n) (hn0:n≠0) (hf:Fr β s.fr a) (h:vq (.faddr f.offset p) s k):Quiet P β o s a k:=by
 obtain⟨sv,v,hk,hv,he⟩:=zl hf h;obtain⟨b,o',sv',rfl,hk',hv'⟩:=zoA hk hv;refine⟨sv',_,hk',hv',fun w _=>?_⟩;simp[zC,execOp,ho,Instr.fieldAt,run_underlying hu,hi,he,Instr.sureAddr,fieldPlace,zao hn,hn0,zcN]
theorem zLb {T E:TypeId} {x i:Operand} {n:Nat} (ho:o.op = .indexAddr T x i) (hu:P.underlying T=some (.slice E))
  (hn:zI P E=some n) (hf:Fr β s.fr a) (h:vq (.iaddr n x i) s k):Quiet P β o s a k:=by
 obtain⟨p,len,c,hk,he⟩:=zeL hf h;obtain⟨q,j,hk2,he'⟩:=zU hf hk;obtain⟨⟨h0,h1⟩,hk3⟩:=hk2;obtain⟨b,o',rfl,hk4⟩:=zj0 hk3;refine⟨_,_,hk4,rfl,fun w _=>?_⟩;simp[zC,execOp,ho,Instr.indexAt,run_underlying hu,he,he',asIntOf,h0,h1,zao hn,zcN]
theorem zHF {T E:TypeId} {x i:Operand} {n len:Nat} (ho:o.op = .indexAddr T x i) (hu:P.underlying T=some (.array len E))
  (hn:zI P E=some n) (hf:Fr β s.fr a) (h:vq (.iaddrA len n x i) s k):Quiet P β o s a k:=by
 obtain⟨q,j,hk2,he'⟩:=zU hf h;obtain⟨⟨h0,h1⟩,hk3⟩:=hk2;obtain⟨sv,v,hk,hv,he⟩:=zl hf hk3;obtain⟨b,o',sv',rfl,hk',hv'⟩:=zoA hk hv;refine⟨sv',_,hk',hv',fun w _=>?_⟩;simp[zC,execOp,ho,Instr.indexAt,run_underlying hu,he,he',asIntOf,h0,h1,zao hn,zcN,Instr.sureAddr]
theorem zNQ {t:TypeId} {x:Operand} (ho:o.op = .unOp .not t x) (hf:Fr β s.fr a) (h:vq (.not x) s k):Quiet P β o s a k:=by
 obtain⟨sv,v,hk,hv,he⟩:=zl hf h;unfold zMb at hk;split at hk
 ·rename_i b;simp[SV.val,SC.val] at hv;subst hv;cases b with
  | true=>exact⟨_,_,hk,rfl,fun w _=>by simp[zC,execOp,ho,he,Op.unary]⟩
  | false=>exact⟨_,_,hk,rfl,fun w _=>by simp[zC,execOp,ho,he,Op.unary]⟩
 ·rename_i b;simp[SV.val] at hv;subst hv;exact⟨_,_,hk,rfl,fun w _=>by simp[zC,execOp,ho,he,Op.unary]⟩
 ·exact hk.elim
theorem zp3 {β:List Nat}:∀ {cs:List SC} {vs:List Value},zdq cs=some vs→zx β cs=some vs
 | [],vs,h=>by simp[zdq] at h;subst h;rfl
 | .v x::r,vs,h=>by
  simp only[zdq,Option.map_eq_some_iff] at h;obtain⟨us,h1,rfl⟩:=h;simp[zx,SC.val,zp3 (β:=β) h1]
 | .bx _ _::_,vs,h=>by simp[zdq] at h
theorem zLc {β:List Nat} {sv:SV} {c:SC} {v:Value} (h:capOf sv=some c) (hv:sv.val β=some v):c.val β=some v:=by
 cases sv with
 | c x=>simp[capOf] at h;subst h;simpa[SV.val] using hv
 | ag cs=>
  simp only[capOf,Option.map_eq_some_iff] at h;obtain⟨vs,h1,rfl⟩:=h;simp only[SV.val,zp3 h1,Option.map_some] at hv;simpa[SC.val] using hv
 | sb x=>simp[capOf] at h;subst h;simpa[SV.val,SC.val] using hv
 | sl _ _=>simp[capOf] at h
 | fn _ _=>simp[capOf] at h
 | dead=>simp[capOf] at h
theorem zw9 (hf:Fr β s.fr a):∀ {xs:List Operand} {k:List SC→Prop},evCaps xs s k→∃ cs,k cs∧zx β cs=some (xs.map a.eval)
 | [],k,h=>⟨[],h,rfl⟩
 | x::r,k,h=>by
  simp only[evCaps] at h;obtain⟨sv,v,hk,hv,he⟩:=zl hf h;cases hc:capOf sv with
  | none=>rw[hc] at hk;exact hk.elim
  | some c=>
   rw[hc] at hk;obtain⟨cs,h1,h2⟩:=zw9 hf (xs:=r) hk;exact⟨c::cs,h1,by simp[zx,zLc hc hv,h2,he]⟩
theorem zMj {f:Nat} {first caps:Array Operand} (ho:o.op = .makeFunc (.func f) first caps) (h0:first.size=0) (hf:Fr β s.fr a) (h:vq (.mkfn f caps.toList) s k):Quiet P β o s a k:=by
 obtain⟨cs,h1,h2⟩:=zw9 hf h;obtain rfl:first = #[]:=Array.eq_empty_of_size_eq_zero h0
 exact⟨_,.func (.func f) #[] (caps.toList.map a.eval).toArray,h1,by simp only[SV.val,h2,Option.map_some],fun w _=>by simp[zC,execOp,ho,Instr.makeFunc];apply Array.ext';simp⟩
theorem zMk {f:Nat} {x:Operand} {first caps:Array Operand} (ho:o.op = .makeFunc (.func f) first caps) (h1:first = #[x]) (h2:caps = #[]) (hf:Fr β s.fr a) (h:vq (.mval f x) s k):Quiet P β o s a k:=by
 subst h1 h2;obtain⟨sv,v,hk,hv,he⟩:=zl hf h;unfold zJ0 at hk;split at hk
 ·simp[SV.val,SC.val] at hv;subst hv;exact⟨_,_,hk,rfl,fun w _=>by simp[zC,execOp,ho,Instr.makeFunc,he]⟩
 ·exact hk.elim
theorem zMl {T:TypeId} {x:Operand} (ho:o.op = .unOp .neg T x) (hf:Fr β s.fr a) (h:vq (.uneg x) s k):Quiet P β o s a k:=by
 obtain⟨q,n,hk,he⟩:=zU hf h;have hr:arith q (0 - n) k:=hk
 unfold arith at hr;split at hr
 ·exact⟨_,_,hr.ok,rfl,fun w _=>by simp[zC,execOp,ho,he,Op.unary,Op.intArith]⟩
 ·exact⟨_,_,hr,rfl,fun w _=>by simp[zC,execOp,ho,he,Op.unary,Op.intArith]⟩
theorem zMm {T:TypeId} {x:Operand} (ho:o.op = .unOp .xor T x) (hf:Fr β s.fr a) (h:vq (.ucom x) s k):Quiet P β o s a k:=by
 obtain⟨q,n,hk,he⟩:=zU hf h;exact⟨_,_,hk,rfl,fun w _=>by simp[zC,execOp,ho,he,Op.unary,Op.intBits,za3]⟩
theorem zNR {x:Operand} {T E:TypeId} (ho:o.op = .call { callee := .builtin .len,args := #[x],argTypes := #[T] })
  (hu:P.underlying T=some (.slice E)) (hf:Fr β s.fr a) (h:vq (.len x) s k):Quiet P β o s a k:=by
 obtain⟨p,n,c,hk,he⟩:=zeL hf h;exact⟨_,_,hk,rfl,fun w _=>by simp[zC,execOp,ho,resolve,invoke,builtin,Builtin.len_,run_underlying hu,he,goInt]⟩
theorem zMn {x:Operand} {T:TypeId} (ho:o.op = .call { callee := .builtin .len,args := #[x],argTypes := #[T] })
  (hu:P.underlying T=some .string) (hf:Fr β s.fr a) (h:vq (.lenS x) s k):Quiet P β o s a k:=by
 obtain⟨sv,v,hk,hv,he⟩:=zl hf h;unfold asStr at hk;split at hk
 ·simp[SV.val,SC.val] at hv;subst hv;exact⟨_,_,hk,rfl,fun w _=>by simp[zC,execOp,ho,resolve,invoke,builtin,Builtin.len_,run_underlying hu,he,goInt]⟩
 ·exact hk.elim
theorem zr7 (d:Nat) {T:TypeId} (hu:P.underlying T=some .bool) (x y:Bool) (w:World):(Op.equalIn (d+1) T (.bool x) (.bool y)).run P w = .ok (x == y) w:=by
 simp[Op.equalIn,run_underlying hu]
theorem zr8 (d:Nat) {T E:TypeId} (hu:P.underlying T=some (.pointer E)) (x:Option Addr) (w:World):(Op.equalIn (d+1) T (.pointer x) (.pointer none)).run P w = .ok x.isNone w:=by
 cases x<;>simp[Op.equalIn,run_underlying hu]
theorem run_eq {T U:TypeId} {x y:Operand} {vx vy:Value} (op:BinOp) (hop:op = .eql∨op = .neq) (ho:o.op = .binOp op T x y U) (hx:a.eval x=vx) (hy:a.eval y=vy)
  (hb:∀ op',binOp op' T vx vy=match op' with
   | .eql=>(do pure (.bool (←Op.equal T vx vy)))
   | .neq=>(do pure (.bool (!(←Op.equal T vx vy))))
   | _=>binOp op' T vx vy)
  (hg:∀ w:World,(eqGuard op T x y vx vy).run P w = .ok () w) {r:Bool} (he:∀ w:World,(Op.equal T vx vy).run P w = .ok r w) (w:World) :
  zC P o a w (.bool (if op = .eql then r else !r)):=by
 rcases hop with rfl|rfl
 ·have:=hb .eql;simp only at this;simp only[zC,execOp,ho,hx,hy,Sem.run_bind,hg,Result.andThen_ok,this,he,Sem.run_pure,if_true]
 ·have:=hb .neq;simp only at this;simp only[zC,execOp,ho,hx,hy,Sem.run_bind,hg,Result.andThen_ok,this,he,Sem.run_pure];rfl
theorem zMo {S T:TypeId} {q:IntKind} {x:Operand} (ho:o.op = .convert S T x) (hS:∃ d,P.underlying S=some d) (hu:P.underlying T=some (.int q)) (hf:Fr β s.fr a) (h:vq (.conv q x) s k):Quiet P β o s a k:=by
 obtain⟨q',n,hk,he⟩:=zU hf h;obtain⟨d,hS⟩:=hS;refine⟨_,_,hk,rfl,fun w _=>?_⟩;simp[zC,execOp,ho,convert,run_underlying hu,run_underlying hS,he,Conv.intToInt]
theorem zMp {op:BinOp} {T U:TypeId} {x y:Operand} (ho:o.op = .binOp op T x y U) (hu:P.underlying T=some .bool) (hf:Fr β s.fr a) (h:vq (.bbin op x y) s k):Quiet P β o s a k:=by
 obtain⟨b,hk,he⟩:=zzt hf h;obtain⟨c,hk2,he'⟩:=zzt hf hk
 have hg:∀ op (w:World),(eqGuard op T x y (.bool b) (.bool c)).run P w = .ok () w:=fun op w=>by
  unfold eqGuard;split<;>simp
 have hb:∀ op',binOp op' T (.bool b) (.bool c)=match op' with
   | .eql=>(do pure (.bool (←Op.equal T (.bool b) (.bool c))))
   | .neq=>(do pure (.bool (!(←Op.equal T (.bool b) (.bool c)))))
   | _=>binOp op' T (.bool b) (.bool c):=fun op'=>by cases op'<;>rfl
 unfold beqT at hk2;split at hk2
 ·exact⟨_,_,hk2,rfl,fun w _=>run_eq .eql (.inl rfl) ho he he' hb (hg _) (fun w=>zr7 9999 hu b c w) w⟩
 ·exact⟨_,_,hk2,rfl,fun w _=>run_eq .neq (.inr rfl) ho he he' hb (hg _) (fun w=>zr7 9999 hu b c w) w⟩
 ·exact hk2.elim
theorem zMq {op:BinOp} {T U:TypeId} {x y:Operand} (ho:o.op = .binOp op T x y U) (hf:Fr β s.fr a) (h:vq (.ibin op x y) s k):Quiet P β o s a k:=by
 obtain⟨q,m,hk,he⟩:=zU hf h;obtain⟨q',n,hk2,he'⟩:=zU hf hk;have hk3:ibin op q m n k:=by cases op<;>first|exact hk2|(simp only[sameK] at hk2;split at hk2;exact hk2;exact hk2.elim)
 have hq:op = .shl∨op = .shr∨q=q':=by cases op<;>first|exact .inl rfl|exact .inr (.inl rfl)|(simp only[sameK] at hk2;split at hk2;rename_i hd;exact .inr (.inr (by simpa using hd));exact hk2.elim)
 clear hk2
 have hg:∀ w:World,(eqGuard op T x y (.int q m) (.int q' n)).run P w = .ok () w:=fun w=>by
  unfold eqGuard;split<;>simp
 have fin:∀ {r:Int},arith q r k→(∀ w:World,(binOp op T (.int q m) (.int q' n)).run P w = .ok (.int q (q.wrap r)) w)→Quiet P β o s a k:=by
  intro r hr hb;unfold arith at hr;split at hr
  ·exact⟨_,_,hr.ok,rfl,fun w _=>by simp[zC,execOp,ho,he,he',hg,hb]⟩
  ·exact⟨_,_,hr,rfl,fun w _=>by simp[zC,execOp,ho,he,he',hg,hb]⟩
 cases op<;>simp only[reduceCtorEq,false_or,true_or,or_true] at hq<;>(try subst hq)<;>simp only[ibin] at hk3
 case add=>exact fin hk3 fun w=>by simp[binOp,Op.intArith]
 case sub=>exact fin hk3 fun w=>by simp[binOp,Op.intArith]
 case mul=>exact fin hk3 fun w=>by simp[binOp,Op.intArith]
 case quo=>
  obtain⟨hz,hk3⟩:=hk3;exact fin hk3 fun w=>by simp[binOp,Op.intDiv,hz]
 case rem=>
  obtain⟨hz,hk3⟩:=hk3;exact⟨_,_,hk3,rfl,fun w _=>by simp[zC,execOp,ho,he,he',hg,binOp,Op.intDiv,hz]⟩
 case and=>exact⟨_,_,hk3,rfl,fun w _=>by simp[zC,execOp,ho,he,he',hg,binOp,Op.intBits,za3]⟩
 case or=>exact⟨_,_,hk3,rfl,fun w _=>by simp[zC,execOp,ho,he,he',hg,binOp,Op.intBits,za3]⟩
 case xor=>exact⟨_,_,hk3,rfl,fun w _=>by simp[zC,execOp,ho,he,he',hg,binOp,Op.intBits,za3]⟩
 case andNot=>exact⟨_,_,hk3,rfl,fun w _=>by simp[zC,execOp,ho,he,he',hg,binOp,Op.intBits,za3]⟩
 case eql=>exact⟨_,_,hk3,rfl,fun w _=>by simp[zC,execOp,ho,he,he',hg,binOp,Op.intCmp,Bool.beq_eq_decide_eq]⟩
 case neq=>exact⟨_,_,hk3,rfl,fun w _=>by simp[zC,execOp,ho,he,he',hg,binOp,Op.intCmp,Bool.beq_eq_decide_eq,bne]⟩
 case lss=>exact⟨_,_,hk3,rfl,fun w _=>by simp[zC,execOp,ho,he,he',hg,binOp,Op.intCmp]⟩
 case leq=>exact⟨_,_,hk3,rfl,fun w _=>by simp[zC,execOp,ho,he,he',hg,binOp,Op.intCmp]⟩
 case gtr=>exact⟨_,_,hk3,rfl,fun w _=>by simp[zC,execOp,ho,he,he',hg,binOp,Op.intCmp]⟩
 case geq=>exact⟨_,_,hk3,rfl,fun w _=>by simp[zC,execOp,ho,he,he',hg,binOp,Op.intCmp]⟩
 case shl=>
  obtain⟨h0,hk3⟩:=hk3;have h0':¬n<0:=by omega
  exact⟨_,_,hk3,rfl,fun w _=>by simp[zC,execOp,ho,he,he',hg,binOp,Op.shift,h0']⟩
 case shr=>
  obtain⟨h0,hk3⟩:=hk3;have h0':¬n<0:=by omega
  exact⟨_,_,hk3,rfl,fun w _=>by simp[zC,execOp,ho,he,he',hg,binOp,Op.shift,h0']⟩
theorem zMr {op:BinOp} {T U E:TypeId} {x y:Operand} (ho:o.op = .binOp op T x y U) (hu:P.underlying T=some (.pointer E)) (hf:Fr β s.fr a) (h:vq (.pnil op x y) s k):Quiet P β o s a k:=by
 obtain⟨sv,v,hk,hv,he⟩:=zl hf h
 have hg:∀ op p (w:World),(eqGuard op T x y (.pointer p) (.pointer none)).run P w = .ok () w:=fun op p w=>by
  unfold eqGuard;split<;>simp
 have hb:∀ p op',binOp op' T (.pointer p) (.pointer none)=match op' with
   | .eql=>(do pure (.bool (←Op.equal T (.pointer p) (.pointer none))))
   | .neq=>(do pure (.bool (!(←Op.equal T (.pointer p) (.pointer none)))))
   | _=>binOp op' T (.pointer p) (.pointer none):=fun p op'=>by cases op'<;>rfl
 unfold asNil at hk;split at hk
 ·simp[SV.val,SC.val] at hv;subst hv;obtain⟨sv2,v2,hk2,hv2,he2⟩:=zl hf hk
  obtain⟨p,rfl,hk3⟩:∃ p,v2 = .pointer p∧nilT op p.isNone k:=by
   unfold ptrNil at hk2;split at hk2
   ·simp[SV.val,SC.val] at hv2;exact⟨_,hv2.symm,hk2⟩
   ·rename_i j o';simp only[SV.val,SC.val] at hv2;cases hbj:β[j]? with
    | none=>simp[hbj] at hv2
    | some b=>simp[hbj] at hv2;exact⟨_,hv2.symm,hk2⟩
   ·exact hk2.elim
  unfold nilT at hk3;split at hk3
  ·exact⟨_,_,hk3,rfl,fun w _=>run_eq .eql (.inl rfl) ho he2 he (hb p) (hg _ p) (fun w=>zr8 9999 hu p w) w⟩
  ·exact⟨_,_,hk3,rfl,fun w _=>run_eq .neq (.inr rfl) ho he2 he (hb p) (hg _ p) (fun w=>zr8 9999 hu p w) w⟩
  ·exact hk3.elim
 ·exact hk.elim
theorem zGb {x:Operand} {i:Nat} (ho:o.op = .extract x i) (hf:Fr β s.fr a) (h:vq (.extract x i) s k):Quiet P β o s a k:=by
 obtain⟨sv,v,hk,hv,he⟩:=zl hf h;unfold asTp at hk;split at hk
 ·rename_i vs;simp[SV.val,SC.val] at hv;subst hv;obtain⟨u,hu,hk2⟩:=zK hk;refine⟨_,_,hk2,zk3 β u,fun w _=>?_⟩;have:vs[i]? = some u:=by simpa using hu
  simp[zC,execOp,ho,he,Instr.extract,this]
 ·exact hk.elim
theorem zLd {T:TypeId} {x:Operand} {i n:Nat} {g:Bool} {fs:Array Field} {f:Field} (ho:o.op = .field T x i) (hu:P.underlying T=some (.struct fs)) (hi:fs[i]? = some f)
  (hg:zeQ P f.type=some g) (hn:zI P f.type=some n) (hgn:(g||n == 1)=true) (hf:Fr β s.fr a) (h:vq (.field g f.offset n x) s k):Quiet P β o s a k:=by
 obtain⟨sv,v,hk,hv,he⟩:=zl hf h;unfold asAg at hk;split at hk
 ·rename_i cs;obtain⟨l,hl,hk2⟩:=zK hk;obtain⟨hle,rfl⟩:=zm5 hl;simp[SV.val] at hv;obtain⟨vs,hvs,rfl⟩:=hv;have hlen:=zbb hvs
  obtain⟨sv2,hk3,hor⟩:=zl5 hk2 (zeM _ (zeN _ hvs));rcases hor with ⟨rfl,hv⟩|⟨rfl,u,hu',hv⟩
  ·refine⟨_,_,hk3,hv,fun w _=>?_⟩
   have h1:(isAgg f.type).run P w = .ok true w:=by
    unfold zeQ at hg;simp only[isAgg,Sem.run_bind];split at hg
    ·rename_i fs hu;simp[run_underlying hu]
    ·rename_i m e hu;simp[run_underlying hu]
    ·cases hg
    ·cases hg
   simp[zC,execOp,ho,he,Instr.field,run_underlying hu,hi,asAgg,part,h1,zao hn]
   try rw[List.extract_eq_take_drop]
   try (congr 1;omega)
  ·refine⟨_,_,hk3,hv,fun w _=>?_⟩
   have h1:(isAgg f.type).run P w = .ok false w:=by
    unfold zeQ at hg;simp only[isAgg,Sem.run_bind];cases hu:P.underlying f.type with
    | none=>simp[hu] at hg
    | some d=>
     rw[hu] at hg;cases d<;>simp at hg<;>simp[run_underlying hu]
   have hn1:n=1:=by simpa using hgn
   have:vs[f.offset]? = some u:=by
    have:=congrArg (·[0]?) hu';simpa[hn1] using this
   simp[zC,execOp,ho,he,Instr.field,run_underlying hu,hi,asAgg,part,h1,this]
 ·exact hk.elim
theorem zr9 (off:Nat):∀ (us:List Value) (i:Nat) (cells:Array Value),off+i+us.length≤cells.size →
  (us.zipIdx i).foldl (fun cs (p:Value×Nat)=>cs.setIfInBounds (off+p.2) p.1) cells=(splice cells.toList (off+i) us).toArray
 | [],i,cells,_=>by simp[splice]
 | u::us,i,cells,h=>by
  simp only[List.length_cons] at h;simp only[List.zipIdx_cons,List.foldl_cons];rw[zr9 off us (i+1) _ (by simp;omega)];apply Array.ext';simp only[splice,Array.toList_setIfInBounds,List.length_cons];apply List.ext_getElem?;intro j;simp only[List.append_assoc,List.getElem?_append,List.length_take,List.length_set,Array.length_toList,List.length_cons];rw[Nat.min_eq_left (by omega),Nat.min_eq_left (by omega)];by_cases h1:j<off+i
  ·have h2:j<off+(i+1):=by omega
   simp only[h1,h2,if_true];rw[List.getElem?_take_of_lt h2,List.getElem?_take_of_lt h1,List.getElem?_set_ne (by omega)]
  ·by_cases h3:j=off+i
   ·subst h3;have h2:off+i<off+(i+1):=by omega
    simp only[h2,if_true,Nat.lt_irrefl,if_false,Nat.sub_self];rw[List.getElem?_take_of_lt h2,List.getElem?_set_self (by simp;omega)];simp
   ·have h2:¬j<off+(i+1):=by omega
    simp only[h1,h2,if_false];have e:j - (off+i)=(j - (off+(i+1)))+1:=by omega
    rw[e];have hlt:(j - (off+(i+1))+1<us.length+1)↔(j - (off+(i+1))<us.length):=by omega
    by_cases h4:j - (off+(i+1))<us.length
    ·simp[h4]
    ·simp only[hlt,h4,if_false,List.getElem?_drop];rw[List.getElem?_set_ne (by omega)];congr 1;omega
theorem zGc (place:Nat→Option (Nat×Nat)) (cells:Array Value) (i:Nat) (v:Value) (rest:List (Nat×Value)) {off n:Nat} {us:List Value} (hp:place i=some (off,n))
  (hc:v.cells=us.toArray) (hn:us.length=n) (hle:off+n≤cells.size):Instr.fill place cells ((i,v)::rest)=Instr.fill place (splice cells.toList off us).toArray rest:=by
 simp only[Instr.fill,hp,hc];have h1:us.toArray.size=n:=by simp[hn]
 rw[if_neg (by rw[h1];simp;omega)];congr 1;have:=zr9 off us 0 cells (by omega)
 simp only[Nat.add_zero] at this;rw[←this,←Array.foldl_toList];simp
theorem zlX (hf:Fr β s.fr a) (place:Nat→Option (Nat×Nat)):∀ (parts:List (Nat×Operand)) (l:List (Nat×Nat×Operand)) (cs:List SC) (us:List Value) (k:List SC→Prop),
  parts.map (fun p=>(place p.1).map fun q=>(q.1,q.2,p.2))=l.map some→zx β cs=some us→build s l cs k →
  ∃ cs' us',k cs'∧zx β cs'=some us'∧us'.length=us.length∧Instr.fill place us.toArray (parts.map fun p=>(p.1,a.eval p.2))=some us'.toArray
 | [],[],cs,us,k,_,hv,h=>⟨cs,us,h,hv,rfl,rfl⟩
 | [],_::_,_,_,_,hm,_,_=>by simp at hm
 | _::_,[],_,_,_,hm,_,_=>by simp at hm
 | (i,x)::parts,(off,n,x')::l,cs,us,k,hm,hv,h=>by
  simp only[List.map_cons,List.cons.injEq] at hm;obtain⟨hm0,hm⟩:=hm;cases hp:place i with
  | none=>simp[hp] at hm0
  | some q=>
   simp[hp] at hm0;obtain⟨rfl,rfl,rfl⟩:=hm0;simp only[build] at h;obtain⟨sv,v,hk,hsv,he⟩:=zl hf h;obtain⟨lc,hlc,hk⟩:=zK hk;obtain⟨cs2,hfit,hb⟩:=zK hk;rw[z8] at hb;obtain⟨hln,hle,rfl⟩:=zzu hfit;obtain⟨ws,hws,hcells⟩:=zvC hsv hlc;have hl1:=zbb hws
   have hl2:=zbb hv;obtain⟨cs',us',h1,h2,h3,h4⟩:=zlX hf place parts l _ _ k hm (zvh q.1 hv hws) hb;refine⟨cs',us',h1,h2,?_,?_⟩
   ·rw[h3,zml];omega
   ·rw[List.map_cons];simp only[he];rw[zGc place us.toArray i v _ (off:=q.1) (n:=q.2) (us:=ws) hp hcells (by omega) (by simp;omega)];exact h4
theorem zzw {α γ:Type} {f:α→Option γ}:∀ {l:List α} {r:List γ},l.mapM f=some r→l.map f=r.map some
 | [],r,h=>by simp at h;subst h;rfl
 | x::l,r,h=>by
  simp only[List.mapM_cons,Option.bind_eq_bind,Option.bind_eq_some_iff] at h;obtain⟨y,hy,ys,hys,he⟩:=h;simp at he;subst he;simp[hy,zzw hys]
theorem zxa (w:World):∀ (fs:List Field) (pl:List (Nat×Nat)),(fs.mapM fun f=>(zI P f.type).map fun n=>(f.offset,n))=some pl →
  (fs.mapM (fun f=>(do pure (f.offset,←sizeOf f.type):Sem (Nat×Nat)))).run P w = .ok pl w
 | [],pl,h=>by simp at h;subst h;rfl
 | f::fs,pl,h=>by
  simp only[List.mapM_cons,Option.bind_eq_bind,Option.bind_eq_some_iff] at h;obtain⟨y,hy,ys,hys,he⟩:=h;simp at he;subst he;simp only[Option.map_eq_some_iff] at hy;obtain⟨n,hn,rfl⟩:=hy;have ih:=zxa w fs ys hys
  simp only[List.mapM_cons,Sem.run_bind,zao hn,Result.andThen_ok,Sem.run_pure,ih]
theorem zLe {T:TypeId} {parts:Array (Nat×Operand)} {z:List Value} {l:List (Nat×Nat×Operand)} (ho:o.op = .build T parts) (hz:zcM P T=some z) (hl:zvB P T parts.toList=some l)
  (hf:Fr β s.fr a) (h:vq (.build z l) s k):Quiet P β o s a k:=by
 simp only[vq,z8] at h;have hzero:=fun w:World=>zp0 w hz
 have e:(parts.map fun (x:Nat×Operand)=>(x.1,a.eval x.2)).toList=parts.toList.map fun p=>(p.1,a.eval p.2):=by simp
 unfold zvB at hl;split at hl
 ·rename_i fs hu;simp only[Option.bind_eq_some_iff] at hl;obtain⟨pl,hpl,hl⟩:=hl;have hm:=zzw hl
  obtain⟨cs',us',h1,h2,h3,h4⟩:=zlX hf (fun (i:Nat)=>pl[i]?) parts.toList l _ z _ hm (zdy β z) h;refine⟨_,.agg us'.toArray,h1,by simp[SV.val,h2],fun w _=>?_⟩;obtain⟨zv,hzv,hzc⟩:=hzero w;have hpr:=zxa w fs.toList pl hpl
  simp only[zC,execOp,ho,Instr.build,Sem.run_bind,hzv,Result.andThen_ok,run_underlying hu,hzc,Array.mapM_eq_mapM_toList,Sem.run_map,hpr];have e2:(fun (x:Nat)=>pl.toArray[x]?)=fun (i:Nat)=>pl[i]? := by funext i;simp
  simp only[e,e2,h4,Sem.run_pure,Result.andThen_ok]
 ·rename_i len E hu;cases hn:zI P E with
  | none=>simp[hn] at hl
  | some n=>
   simp[hn] at hl;obtain⟨cs',us',h1,h2,h3,h4⟩:=zlX hf (fun i=>some (i*n,n)) parts.toList l _ z _ (by rw[←hl];simp) (zdy β z) h;refine⟨_,.agg us'.toArray,h1,by simp[SV.val,h2],fun w _=>?_⟩;obtain⟨zv,hzv,hzc⟩:=hzero w;simp only[zC,execOp,ho,Instr.build,Sem.run_bind,hzv,Result.andThen_ok,run_underlying hu,zao hn,hzc];simp only[e,h4,Sem.run_pure,Result.andThen_ok]
 ·cases hl
theorem zil {sv:SV} {v:Value} {k:ByteArray→Prop} (h:asStr sv k) (hv:sv.val β=some v):∃ b,k b∧v = .string b:=by
 unfold asStr at h;split at h
 ·simp[SV.val,SC.val] at hv;exact⟨_,h,hv.symm⟩
 ·exact h.elim
theorem zm6 {op:BinOp} {r:Bool} {k:SV→Prop} (h:nilT op r k):(op = .eql∧k (.sb r))∨(op = .neq∧k (.sb !r)):=by
 unfold nilT at h;split at h
 ·exact .inl ⟨rfl,h⟩
 ·exact .inr ⟨rfl,h⟩
 ·exact h.elim
theorem zkk (a b:ByteArray):decide (a=b)=(a.toList == b.toList):=by
 by_cases h:a=b
 ·subst h;simp
 ·have:¬a.toList=b.toList:=fun e=>h (by
   rw[ByteArray.toList_eq,ByteArray.toList_eq] at e;obtain⟨⟨x⟩⟩:=a;obtain⟨⟨y⟩⟩:=b;simp at e
   rw[e])
  simp[h,this]
theorem zMs {op:BinOp} {T:TypeId} {x y:Operand} {U} (ho:o.op = .binOp op T x y U) (hf:Fr β s.fr a) (h:vq (.strE op x y) s k):Quiet P β o s a k:=by
 obtain⟨u,uv,hk,hu,he⟩:=zl hf h;obtain⟨b,hk,rfl⟩:=zil hk hu;obtain⟨v,vv,hk,hv,he'⟩:=zl hf hk;obtain⟨c,hk,rfl⟩:=zil hk hv;unfold strT at hk;split at hk
 ·exact⟨_,_,hk,rfl,fun w _=>by simp[zC,execOp,ho,he,he',eqGuard,binOp,Op.stringOp,zkk]⟩
 ·exact⟨_,_,hk,rfl,fun w _=>by simp[zC,execOp,ho,he,he',eqGuard,binOp,Op.stringOp,zkk]⟩
 ·obtain⟨hl,hk⟩:=hk
  have hl':¬(((b.size+c.size:Nat):Int)>IntKind.i64.max):=by
   have:IntKind.i64.max=9223372036854775807:=by decide
   rw[this];omega
  refine⟨_,_,hk,rfl,fun w _=>?_⟩;simp only[zC,execOp,ho,he,he',eqGuard,binOp,Op.stringOp];rw[if_neg hl'];simp
 ·exact⟨_,_,hk,rfl,fun w _=>by simp[zC,execOp,ho,he,he',eqGuard,binOp,Op.stringOp]⟩
 ·exact⟨_,_,hk,rfl,fun w _=>by simp[zC,execOp,ho,he,he',eqGuard,binOp,Op.stringOp,zkk]⟩
 ·exact⟨_,_,hk,rfl,fun w _=>by simp[zC,execOp,ho,he,he',eqGuard,binOp,Op.stringOp,zkk]⟩
 ·exact⟨_,_,hk,rfl,fun w _=>by simp[zC,execOp,ho,he,he',eqGuard,binOp,Op.stringOp]⟩
 ·exact hk.elim
theorem zGd (b:ByteArray) {j:Int} (h:0≤j∧j<b.size):b[j.toNat]? = some (b.toList.getD j.toNat 0):=by
 have hlt:j.toNat<b.size:=by omega
 rw[getElem?_pos b j.toNat hlt,ByteArray.toList_eq];have h2:j.toNat<b.data.toList.length:=by simpa using hlt
 rw[List.getD_eq_getElem?_getD,List.getElem?_eq_getElem h2];rfl
theorem zMt {T:TypeId} {x i:Operand} (ho:o.op = .index T x i) (hu:P.underlying T=some .string) (hf:Fr β s.fr a) (h:vq (.sidx x i) s k):Quiet P β o s a k:=by
 obtain⟨u,uv,hk,hu1,he⟩:=zl hf h;obtain⟨b,hk,rfl⟩:=zil hk hu1;obtain⟨q,j,hk,he'⟩:=zU hf hk;obtain⟨hj,hk⟩:=hk;refine⟨_,_,hk,rfl,fun w _=>?_⟩;simp only[zC,execOp,ho,he,he',Instr.index,asIntOf,Sem.run_bind,Sem.run_pure,Result.andThen_ok,run_underlying hu];rw[if_pos hj.1,zGd b hj];rfl
theorem zoq {x:Value} {q:IntKind} {j:Int} {y:Nat} {code:BoundsCode} (hx:x = .int q j) (h:0≤j∧j≤y) (w:World):(Instr.sliceBound x y code).run P w = .ok j.toNat w:=by
 subst hx;simp only[Instr.sliceBound,asIntOf,Sem.run_bind,Sem.run_pure,Result.andThen_ok];rw[if_pos h];rfl
theorem zNS {T:TypeId} {x:Operand} {lo hi:Option Operand} (ho:o.op = .slice T x lo hi none) (hu:P.underlying T=some .string) (hf:Fr β s.fr a) (h:vq (.ssl x lo hi) s k):Quiet P β o s a k:=by
 obtain⟨u,uv,hk,hu1,he⟩:=zl hf h;obtain⟨b,hk,rfl⟩:=zil hk hu1;have hnp:∀ E,P.underlying T≠some (.pointer E):=fun E=>by rw[hu];simp
 cases lo with
 | none=>
  cases hi with
  | none=>
   obtain⟨⟨h1,h2,h3⟩,hk⟩:=hk;refine⟨_,_,hk,rfl,fun w _=>?_⟩;simp[zC,execOp,ho,he,Instr.sliceAt,Instr.slice,Instr.sliceBounds,Sem.run_bind,Sem.run_pure,run_underlying hu]
  | some y=>
   obtain⟨q,j,hk,he'⟩:=zU hf hk;obtain⟨⟨h1,h2,h3⟩,hk⟩:=hk;refine⟨_,_,hk,rfl,fun w _=>?_⟩;simp[zC,execOp,ho,he,he',Instr.sliceAt,Instr.slice,Instr.sliceBounds,Sem.run_bind,run_underlying hu,zoq rfl ⟨h2,h3⟩]
 | some z=>
  obtain⟨q',l,hk,hel⟩:=zU hf hk;cases hi with
  | none=>
   obtain⟨⟨h1,h2,h3⟩,hk⟩:=hk;refine⟨_,_,hk,rfl,fun w _=>?_⟩;simp[zC,execOp,ho,he,hel,Instr.sliceAt,Instr.slice,Instr.sliceBounds,Sem.run_bind,run_underlying hu,zoq rfl ⟨h1,h2⟩]
  | some y=>
   obtain⟨q,j,hk,he'⟩:=zU hf hk;obtain⟨⟨h1,h2,h3⟩,hk⟩:=hk;have h0:(0:Int)≤j:=by omega
   have h4:l≤(j.toNat:Nat):=by omega
   refine⟨_,_,hk,rfl,fun w _=>?_⟩;simp[zC,execOp,ho,he,he',hel,Instr.sliceAt,Instr.slice,Instr.sliceBounds,Sem.run_bind,run_underlying hu,zoq rfl ⟨h0,h3⟩,zoq rfl ⟨h1,h4⟩]
theorem zJ4 {mx:Bool} {x y:Operand} {ts:Array TypeId} (ho:o.op = .call { callee := .builtin (if mx then .max else .min),args := #[x,y],argTypes:=ts }) (hf:Fr β s.fr a) (h:vq (.imm mx x y) s k):Quiet P β o s a k:=by
 obtain⟨q,m,hk,he⟩:=zU hf h;obtain⟨q',n,hk,he'⟩:=zU hf hk;cases mx with
 | true=>
  have hm:max m n=if n>m then n else m:=by split<;>omega
  exact⟨_,_,hk,rfl,fun w _=>by simp[zC,execOp,ho,resolve,invoke,builtin,Builtin.max_,Builtin.max2,he,he',hm]⟩
 | false=>
  have hm:min m n=if n<m then n else m:=by split<;>omega
  exact⟨_,_,hk,rfl,fun w _=>by simp[zC,execOp,ho,resolve,invoke,builtin,Builtin.min_,Builtin.min2,he,he',hm]⟩
theorem zLf {S T E:TypeId} {x:Operand} (ho:o.op = .convert S T x) (hS:P.underlying S=some (.slice E)) (hE:P.underlying E=some (.int .u8)) (hT:P.underlying T=some .string)
  (hf:Fr β s.fr a) (h:vq (.strOf x) s k):Quiet P β o s a k true:=by
 obtain⟨p,n,c,hk,he⟩:=zeL hf h;obtain⟨bs,⟨hl,hsrc⟩,hk⟩:=hk;refine⟨_,_,hk,rfl,fun w hr=>?_⟩;have hr:=hr rfl
 simp at hl;subst hl;simp only[zC,execOp,ho,he,Sem.run_bind];rcases hsrc with hbs|⟨b,o',rfl,hrow⟩
 ·have:bs=[]:=by simpa using hbs
  subst this;cases p with
  | none=>
   rw[run_convert_bytes_string w S T E none _ _ hS hE hT];simp[Conv.bytesToString];rfl
  | some q=>
   rw[run_convert_bytes_back w S T E q c [] hS hE hT (fun j hj=>by simp at hj)];rfl
 ·rw[run_convert_bytes_back w S T E ⟨b,o',none⟩ c bs hS hE hT ?_]
  ·rfl
  ·intro j hj;obtain⟨cs,e,fz,hh,hle,hvs⟩:=znw hr.M hrow;rw[zcN,zj1 hh];have:=congrArg (·[j]?) hvs
   simp[hj,z7] at this;exact this.symm
theorem zNT {T E:TypeId} {x:Operand} {lo hi:Option Operand} {n:Nat} (ho:o.op = .slice T x lo hi none) (hu:P.underlying T=some (.slice E)) (hn:zI P E=some n)
  (hf:Fr β s.fr a) (h:vq (.slx n x lo hi) s k):Quiet P β o s a k:=by
 obtain⟨p,m,c,hk,he⟩:=zeL hf h;have hel:P.elem T=E:=by simp[Program.elem,hu]
 have hu':P.underlying T=some (.slice (P.elem T)):=by rw[hel];exact hu
 have hsz:∀ w,(sizeOf (P.elem T)).run P w = .ok n w:=fun w=>by rw[hel];exact zao hn w
 cases lo with
 | none=>
  cases hi with
  | none=>
   obtain⟨⟨h1,h2,h3⟩,hk⟩:=hk;refine⟨_,_,hk,rfl,fun w _=>?_⟩;simp[zC,execOp,ho,he,run_sliceAt_slice _ _ _ _ _ _ hu',run_slice_all _ _ _ _ _ hu',hsz,sliced,zah]
  | some y=>
   obtain⟨q,h,hk,he'⟩:=zU hf hk;obtain⟨⟨h1,h2,h3⟩,hk⟩:=hk;refine⟨_,_,hk,rfl,fun w _=>?_⟩;simp[zC,execOp,ho,he,he',run_sliceAt_slice _ _ _ _ _ _ hu',run_slice_h _ _ _ _ _ hu' _ _ h2 h3,hsz,sliced,zah]
 | some z=>
  obtain⟨q',l,hk,hel⟩:=zU hf hk;cases hi with
  | none=>
   obtain⟨⟨h1,h2,h3⟩,hk⟩:=hk;refine⟨_,_,hk,rfl,fun w _=>?_⟩;simp[zC,execOp,ho,he,hel,run_sliceAt_slice _ _ _ _ _ _ hu',run_slice_l _ _ _ _ _ hu' _ _ h1 h2,hsz,sliced,zah]
  | some y=>
   obtain⟨q,h,hk,he'⟩:=zU hf hk;obtain⟨⟨h1,h2,h3⟩,hk⟩:=hk;refine⟨_,_,hk,rfl,fun w _=>?_⟩;simp[zC,execOp,ho,he,he',hel,run_sliceAt_slice _ _ _ _ _ _ hu',run_slice_lh _ _ _ _ _ hu' _ _ _ _ h1 h2 h3,hsz,sliced,zah]
theorem zMu {T E:TypeId} {x lo hi mx:Operand} {n:Nat} (ho:o.op = .slice T x (some lo) (some hi) (some mx)) (hu:P.underlying T=some (.slice E)) (hn:zI P E=some n)
  (hf:Fr β s.fr a) (h:vq (.slx3 n x lo hi mx) s k):Quiet P β o s a k:=by
 obtain⟨p,m,c,hk,he⟩:=zeL hf h;obtain⟨q1,l,hk,he1⟩:=zU hf hk;obtain⟨q2,h,hk,he2⟩:=zU hf hk;obtain⟨q3,t,hk,he3⟩:=zU hf hk;obtain⟨⟨h1,h2,h3,h4⟩,hk⟩:=hk;have hel:P.elem T=E:=by simp[Program.elem,hu]
 have hu':P.underlying T=some (.slice (P.elem T)):=by rw[hel];exact hu
 have b1:0≤t∧t≤(c:Int):=⟨by omega,h4⟩
 have b2:0≤h∧h≤((t.toNat:Nat):Int):=⟨by omega,by omega⟩
 have b3:0≤l∧l≤((h.toNat:Nat):Int):=⟨by omega,by omega⟩
 have b4:h≤max t 0:=by omega
 have b5:l≤max h 0:=by omega
 refine⟨_,_,hk,rfl,fun w _=>?_⟩;simp[zC,execOp,ho,he,he1,he2,he3,run_sliceAt_slice _ _ _ _ _ _ hu',Instr.slice,run_underlying hu,Instr.sliceBounds,Instr.sliceBound,asIntOf,b1,b2,b3,b4,b5,zao hn,zah]
theorem zLg {T E:TypeId} {x hi mx:Operand} {n:Nat} (ho:o.op = .slice T x none (some hi) (some mx)) (hu:P.underlying T=some (.slice E)) (hn:zI P E=some n)
  (hf:Fr β s.fr a) (h:vq (.slx3 n x (.const (.int .i64 0)) hi mx) s k):Quiet P β o s a k:=by
 obtain⟨p,m,c,hk,he⟩:=zeL hf h;obtain⟨q1,l,hk,he1⟩:=zU hf hk
 have hl0:l=0:=by
  have:a.eval (.const (.int .i64 0)) = .int .i64 0:=rfl;rw[this] at he1;cases he1;rfl
 subst hl0;obtain⟨q2,h,hk,he2⟩:=zU hf hk;obtain⟨q3,t,hk,he3⟩:=zU hf hk;obtain⟨⟨h1,h2,h3,h4⟩,hk⟩:=hk;have hel:P.elem T=E:=by simp[Program.elem,hu]
 have hu':P.underlying T=some (.slice (P.elem T)):=by rw[hel];exact hu
 have b1:0≤t∧t≤(c:Int):=⟨by omega,h4⟩
 have b2:0≤h∧h≤((t.toNat:Nat):Int):=⟨by omega,by omega⟩
 have b4:h≤max t 0:=by omega
 refine⟨_,_,hk,rfl,fun w _=>?_⟩;simp[zC,execOp,ho,he,he2,he3,run_sliceAt_slice _ _ _ _ _ _ hu',Instr.slice,run_underlying hu,Instr.sliceBounds,Instr.sliceBound,asIntOf,b1,b2,b4,zao hn,zah]
theorem zLh {op:BinOp} {T E:TypeId} {x y:Operand} {U} (ho:o.op = .binOp op T x y U) (hT:P.underlying T=some (.slice E)) (hf:Fr β s.fr a) (h:vq (.slnil op x y) s k):Quiet P β o s a k:=by
 obtain⟨u,uv,hk,hu,he⟩:=zl hf h;unfold asNilS at hk;split at hk
 ·rename_i n' c';simp[SV.val,SC.val] at hu;subst hu;obtain⟨sv,v,hk,hv,he'⟩:=zl hf hk
  have key:∀ (p:Option Addr) (m c:Nat),v = .slice p m c→nilT op p.isNone k→Quiet P β o s a k:=by
   rintro p m c rfl hk
   have hb:∀ op',binOp op' T (.slice p m c) (.slice none n' c')=match op' with
     | .eql=>(do pure (.bool (←Op.equal T (.slice p m c) (.slice none n' c'))))
     | .neq=>(do pure (.bool (!(←Op.equal T (.slice p m c) (.slice none n' c')))))
     | _=>binOp op' T (.slice p m c) (.slice none n' c'):=fun op'=>by cases op'<;>rfl
   rcases zm6 hk with ⟨rfl,hk⟩|⟨rfl,hk⟩
   ·exact⟨_,_,hk,rfl,fun w _=>run_eq .eql (.inl rfl) ho he' he hb (fun w=>by rw[eqGuard_at_slice];rfl) (fun w=>Lib.run_equalIn_slice_nil w 9999 T E p m c n' c' hT) w⟩
   ·exact⟨_,_,hk,rfl,fun w _=>run_eq .neq (.inr rfl) ho he' he hb (fun w=>by rw[eqGuard_at_slice];rfl) (fun w=>Lib.run_equalIn_slice_nil w 9999 T E p m c n' c' hT) w⟩
  unfold slNil at hk;split at hk
  ·simp[SV.val,SC.val] at hv;exact key _ _ _ hv.symm hk
  ·simp[SV.val] at hv;obtain⟨b,_,rfl⟩:=hv;exact key _ _ _ rfl hk
  ·exact hk.elim
 ·exact hk.elim
theorem zl7 {x y:SC} {k:Bool→Prop} (h:eqC x y k):∃ q m n,x = .v (.int q m)∧y = .v (.int q n)∧k (decide (m=n)):=by
 unfold eqC at h;split at h
 ·split at h
  ·rename_i hq;have hq:=Zd0 hq
   subst hq;exact⟨_,_,_,rfl,rfl,h⟩
  ·exact h.elim
 ·exact h.elim
theorem zp4 {T:TypeId} {q:IntKind} (hu:P.underlying T=some (.int q)) (xs:Array Value) (i:Nat) {v:Value} (h:xs[i]? = some v) (w:World):(part T xs i).run P w = .ok v w:=by
 have h1:(isAgg T).run P w = .ok false w:=by
  simp[isAgg,run_underlying hu]
 simp only[part,Sem.run_bind,h1,Result.andThen_ok,Bool.false_eq_true,if_false,h];rfl
theorem zxb (d:Nat) {xs ys:List Value}:∀ (cs ds:List SC) (i:Nat) (fs:List Field) (us vs:List Value) {k:Bool→Prop},eqCs cs ds k→zx β cs=some us→zx β ds=some vs →
  zcc P i fs=true→us=xs.drop i→vs=ys.drop i→fs.length=cs.length →
  ∃ r,k r∧∀ w:World,(Op.eqFields (d+1) xs.toArray ys.toArray fs).run P w = .ok r w:=by
 intro cs
 induction cs with
 | nil=>
  intro ds i fs us vs k h hu hv hi e1 e2 hl;cases ds with
  | nil=>
   have:fs=[]:=by simpa using hl
   subst this;exact⟨true,h,fun w=>by simp[Op.eqFields]⟩
  | cons=>exact h.elim
 | cons c cs ih=>
  intro ds i fs us vs k h hu hv hi e1 e2 hl;cases ds with
  | nil=>exact h.elim
  | cons e ds=>
   have h1:eqC c e (fun t=>eqCs cs ds fun t'=>k (t&&t')):=h;obtain⟨q,m,n,rfl,rfl,h2⟩:=zl7 h1;cases fs with
   | nil=>simp at hl
   | cons f fs=>
    simp only[zcc,Bool.and_eq_true,bne_iff_ne,ne_eq,beq_iff_eq] at hi;obtain⟨⟨⟨hn,ho⟩,hint⟩,hi⟩:=hi;simp only[zx,SC.val] at hu hv;cases hcu:zx β cs with
    | none=>simp[hcu] at hu
    | some us'=>
    cases hdv:zx β ds with
    | none=>simp[hdv] at hv
    | some vs'=>
    simp[hcu] at hu;simp[hdv] at hv
    have g1:xs[i]? = some (.int q m):=by
     have:=congrArg (·[0]?) e1;simp[←hu] at this;exact this.symm
    have g2:ys[i]? = some (.int q n):=by
     have:=congrArg (·[0]?) e2;simp[←hv] at this;exact this.symm
    have g3:us'=xs.drop (i+1):=by
     have:=congrArg (·.drop 1) e1;simpa[←hu] using this
    have g4:vs'=ys.drop (i+1):=by
     have:=congrArg (·.drop 1) e2;simpa[←hv] using this
    obtain⟨r,hk,hrun⟩:=ih ds (i+1) fs us' vs' h2 hcu hdv hi g3 g4 (by simpa using hl);split at hint
    ·rename_i q' hq';refine⟨_,hk,fun w=>?_⟩;have p1:=zp4 hq' xs.toArray i (by simpa using g1) w
     have p2:=zp4 hq' ys.toArray i (by simpa using g2) w;have p3:=run_equalIn_int w d f.type q q' m n hq'
     simp only[Op.eqFields,hn,ne_eq,not_false_eq_true,if_true,ho,Sem.run_bind,p1,p2,p3,Result.andThen_ok];by_cases hmn:m=n
     ·subst hmn;simp[hrun]
     ·simp[hmn]
    ·cases hint
theorem zdz {m n:Nat} {A:Prop} (h:zkg m n A):m=n∧A:=by
 unfold zkg at h;split at h
 ·exact⟨Nat.eq_of_beq_eq_true ‹_›, h⟩
 ·exact h.elim
theorem zeR {sv:SV} {v:Value} {k:List SC→Prop} (h:asAg sv k) (hv:sv.val β=some v):∃ cs vs,k cs∧zx β cs=some vs∧v = .agg vs.toArray:=by
 unfold asAg at h;split at h
 ·simp[SV.val] at hv;obtain⟨vs,h1,rfl⟩:=hv;exact⟨_,vs,h,h1,rfl⟩
 ·exact h.elim
theorem zNU {op:BinOp} {T:TypeId} {fs:Array Field} {x y:Operand} {U} (ho:o.op = .binOp op T x y U) (hT:P.underlying T=some (.struct fs)) (hi:zcc P 0 fs.toList=true) (hs:P.stoodInHeld T=false)
  (hg:P.eqGuardType P.depth T=false) (hf:Fr β s.fr a) (h:vq (.aeq op fs.toList.length x y) s k):Quiet P β o s a k:=by
 obtain⟨u,uv,hk,hu,he⟩:=zl hf h;obtain⟨cs,us,hk,hus,rfl⟩:=zeR hk hu;obtain⟨hl,hk⟩:=zdz hk;obtain⟨v,vv,hk,hv,he'⟩:=zl hf hk;obtain⟨ds,vs,hk,hvs,rfl⟩:=zeR hk hv;have hfo:P.fieldsOf T=fs:=by simp[Program.fieldsOf,hT]
 have hT':P.underlying T=some (.struct (P.fieldsOf T)):=by rw[hfo];exact hT
 obtain⟨r,hk1,hr1⟩:=zxb (P:=P) 9998 (xs:=us) (ys:=vs) cs ds 0 fs.toList us vs hk hus hvs hi rfl rfl hl.symm
 have hb:∀ op',binOp op' T (.agg us.toArray) (.agg vs.toArray)=match op' with
   | .eql=>(do pure (.bool (←Op.equal T (.agg us.toArray) (.agg vs.toArray))))
   | .neq=>(do pure (.bool (!(←Op.equal T (.agg us.toArray) (.agg vs.toArray)))))
   | _=>binOp op' T (.agg us.toArray) (.agg vs.toArray):=fun op'=>by cases op'<;>rfl
 have hq:∀ w:World,(Op.equal T (.agg us.toArray) (.agg vs.toArray)).run P w = .ok r w:=fun w=>by
  have:=run_equalIn_struct (P:=P) w 9999 T us.toArray vs.toArray hT' hs;rw[hfo,hr1 w] at this;exact this
 rcases zm6 hk1 with ⟨rfl,hk2⟩|⟨rfl,hk2⟩
 ·exact⟨_,_,hk2,rfl,fun w _=>run_eq .eql (.inl rfl) ho he he' hb (fun w=>run_eqGuard_agg w _ T x y _ _ hg) hq w⟩
 ·exact⟨_,_,hk2,rfl,fun w _=>run_eq .neq (.inr rfl) ho he he' hb (fun w=>run_eqGuard_agg w _ T x y _ _ hg) hq w⟩
theorem zAP:∀ {cs ds:List SC} {k:Bool→Prop},eqCs cs ds k→cs.length=ds.length
 | [],[],_,_=>rfl
 | [],_::_,_,h=>h.elim
 | _::_,[],_,h=>h.elim
 | c::cs,e::ds,k,h=>by
  have h1:eqC c e (fun t=>eqCs cs ds fun t'=>k (t&&t')):=h;obtain⟨_,_,_,_,_,h2⟩:=zl7 h1;simp[zAP h2]
theorem zxc:∀ (m:Nat) {cs ds:List SC} {k:Bool→Prop},eqCs cs ds k→eqCs (cs.take m) (ds.take m) fun r1=>eqCs (cs.drop m) (ds.drop m) fun r2=>k (r1&&r2)
 | 0,cs,ds,k,h=>by
  show eqCs [] [] _;show eqCs (cs.drop 0) (ds.drop 0) _
  simpa using h
 | m+1,[],[],k,h=>h
 | m+1,[],_::_,k,h=>h.elim
 | m+1,_::_,[],k,h=>h.elim
 | m+1,c::cs,e::ds,k,h=>by
  have h1:eqC c e (fun t=>eqCs cs ds fun t'=>k (t&&t')):=h;show eqC c e (fun t=>eqCs (cs.take m) (ds.take m) fun t'=>eqCs (cs.drop m) (ds.drop m) fun r2=>k ((t&&t')&&r2))
  obtain⟨q,a,b,rfl,rfl,h2⟩:=zl7 h1;have h3:=zxc m h2
  unfold eqC;simp only[decide_true, ↓reduceDIte];simpa[Bool.and_assoc] using h3
theorem ziA {P:Program}:∀ {fs:List Field} {i n:Nat},zb7 P i fs=some n→i≤n
 | [],i,n,h=>by simp[zb7] at h;omega
 | f::r,i,n,h=>by
  unfold zb7 at h;split at h
  ·split at h
   ·have:=ziA h;omega
   ·cases hs:zDx P f.type with
    | none=>simp[hs] at h
    | some m=>simp[hs] at h;have:=ziA h;omega
   ·cases h
  ·cases h
theorem zvm {T:TypeId} {fs:Array Field} (hu:P.underlying T=some (.struct fs)) {n:Nat} (hn:zI P T=some n) (xs:Array Value) (i:Nat) (w:World):(part T xs i).run P w = .ok (.agg (xs.extract i (i+n))) w:=by
 have h1:(isAgg T).run P w = .ok true w:=by
  simp[isAgg,run_underlying hu]
 simp[part,h1,zao hn]
theorem zoC (d:Nat) {xs ys:List Value}:∀ (fs:List Field) (cs ds:List SC) (i n:Nat) (us vs:List Value) {k:Bool→Prop},zb7 P i fs=some n→eqCs cs ds k→zx β cs=some us→zx β ds=some vs →
  us=xs.drop i→vs=ys.drop i→i+cs.length=n →
  ∃ r,k r∧∀ w:World,(Op.eqFields (d+2) xs.toArray ys.toArray fs).run P w = .ok r w
 | [],cs,ds,i,n,us,vs,k,hi,h,hu,hv,e1,e2,hl=>by
  simp[zb7] at hi
  have hc:cs=[]:=by
   cases cs with
   | nil=>rfl
   | cons=>simp at hl;omega
  subst hc;cases ds with
  | nil=>exact⟨true,h,fun w=>by simp[Op.eqFields]⟩
  | cons=>exact h.elim
 | f::fs,cs,ds,i,n,us,vs,k,hi,h,hu,hv,e1,e2,hl=>by
  unfold zb7 at hi;split at hi
  case isFalse=>cases hi
  rename_i hno;simp only[Bool.and_eq_true,bne_iff_ne,ne_eq,beq_iff_eq] at hno;obtain⟨hnm,ho⟩:=hno;split at hi
  ·rename_i q' hq';have hle:=ziA hi
   cases cs with
   | nil=>simp at hl;omega
   | cons c cs=>
   cases ds with
   | nil=>exact h.elim
   | cons e ds=>
   have h1:eqC c e (fun t=>eqCs cs ds fun t'=>k (t&&t')):=h;obtain⟨q,m,m',rfl,rfl,h2⟩:=zl7 h1;simp only[zx,SC.val] at hu hv;cases hcu:zx β cs with
   | none=>simp[hcu] at hu
   | some us'=>
   cases hdv:zx β ds with
   | none=>simp[hdv] at hv
   | some vs'=>
   simp[hcu] at hu;simp[hdv] at hv
   have g1:xs[i]? = some (.int q m):=by
    have:=congrArg (·[0]?) e1;simp[←hu] at this;exact this.symm
   have g2:ys[i]? = some (.int q m'):=by
    have:=congrArg (·[0]?) e2;simp[←hv] at this;exact this.symm
   have g3:us'=xs.drop (i+1):=by
    have:=congrArg (·.drop 1) e1;simpa[←hu] using this
   have g4:vs'=ys.drop (i+1):=by
    have:=congrArg (·.drop 1) e2;simpa[←hv] using this
   obtain⟨r,hk,hrun⟩:=zoC d fs cs ds (i+1) n us' vs' hi h2 hcu hdv g3 g4 (by simp at hl;omega);refine⟨_,hk,fun w=>?_⟩;have p1:=zp4 hq' xs.toArray i (by simpa using g1) w
   have p2:=zp4 hq' ys.toArray i (by simpa using g2) w;have p3:=run_equalIn_int w (d+1) f.type q q' m m' hq'
   simp only[Op.eqFields,hnm,ne_eq,not_false_eq_true,if_true,ho,Sem.run_bind,p1,p2,p3,Result.andThen_ok];by_cases hmn:m=m'
   ·subst hmn;simp[hrun]
   ·simp[hmn]
  ·rename_i gs hgs;cases hs:zDx P f.type with
   | none=>simp[hs] at hi
   | some m=>
   simp only[hs,Option.bind_some] at hi;unfold zDx at hs;rw[hgs] at hs;dsimp only at hs;split at hs
   case isFalse=>cases hs
   rename_i hc;simp only[Bool.and_eq_true,Bool.not_eq_true',beq_iff_eq] at hc;obtain⟨⟨c1,c2⟩,c3⟩:=hc;obtain rfl:gs.toList.length=m:=by simpa using hs
   have hle:=ziA hi;obtain⟨m,hm⟩:∃ m,m=gs.toList.length:=⟨_,rfl⟩
   rw[←hm] at hi hle c3;have hdl:=zAP h
   have h2:=zxc m h;have hu1:=zeM m hu
   have hv1:=zeM m hv;obtain⟨r1,hk1,hr1⟩:=zxb (P:=P) d (xs:=us.take m) (ys:=vs.take m) (cs.take m) (ds.take m) 0 gs.toList (us.take m) (vs.take m) h2 hu1 hv1 c1 rfl rfl (by rw[List.length_take];omega);obtain⟨r2,hk2,hr2⟩:=zoC d fs (cs.drop m) (ds.drop m) (i+m) n (us.drop m) (vs.drop m) hi hk1 (zeN m hu) (zeN m hv) (by rw[e1,List.drop_drop]) (by rw[e2,List.drop_drop]) (by rw[List.length_drop];omega);refine⟨_,hk2,fun w=>?_⟩;have p1:=zvm hgs c3 xs.toArray i w
   have p2:=zvm hgs c3 ys.toArray i w;have x1:xs.toArray.extract i (i+m)=(us.take m).toArray:=by rw[e1];simp[List.extract_eq_take_drop]
   have x2:ys.toArray.extract i (i+m)=(vs.take m).toArray:=by rw[e2];simp[List.extract_eq_take_drop]
   have hfo:P.fieldsOf f.type=gs:=by simp[Program.fieldsOf,hgs]
   have p3:=run_equalIn_struct (P:=P) w (d+1) f.type (us.take m).toArray (vs.take m).toArray (by rw[hfo];exact hgs) c2;rw[hfo,hr1 w] at p3;simp only[Op.eqFields,hnm,ne_eq,not_false_eq_true,if_true,ho,Sem.run_bind,p1,p2,x1,x2,p3,Result.andThen_ok];cases r1
   ·simp
   ·simp[hr2]
  ·cases hi
theorem zMv {op:BinOp} {T:TypeId} {fs:Array Field} {n:Nat} {x y:Operand} {U} (ho:o.op = .binOp op T x y U) (hT:P.underlying T=some (.struct fs)) (hi:zb7 P 0 fs.toList=some n) (hs:P.stoodInHeld T=false)
  (hg:P.eqGuardType P.depth T=false) (hf:Fr β s.fr a) (h:vq (.aeq op n x y) s k):Quiet P β o s a k:=by
 obtain⟨u,uv,hk,hu,he⟩:=zl hf h;obtain⟨cs,us,hk,hus,rfl⟩:=zeR hk hu;obtain⟨hl,hk⟩:=zdz hk;obtain⟨v,vv,hk,hv,he'⟩:=zl hf hk;obtain⟨ds,vs,hk,hvs,rfl⟩:=zeR hk hv;have hfo:P.fieldsOf T=fs:=by simp[Program.fieldsOf,hT]
 have hT':P.underlying T=some (.struct (P.fieldsOf T)):=by rw[hfo];exact hT
 obtain⟨r,hk1,hr1⟩:=zoC (P:=P) 9997 (xs:=us) (ys:=vs) fs.toList cs ds 0 n us vs hi hk hus hvs rfl rfl (by omega)
 have hb:∀ op',binOp op' T (.agg us.toArray) (.agg vs.toArray)=match op' with
   | .eql=>(do pure (.bool (←Op.equal T (.agg us.toArray) (.agg vs.toArray))))
   | .neq=>(do pure (.bool (!(←Op.equal T (.agg us.toArray) (.agg vs.toArray)))))
   | _=>binOp op' T (.agg us.toArray) (.agg vs.toArray):=fun op'=>by cases op'<;>rfl
 have hq:∀ w:World,(Op.equal T (.agg us.toArray) (.agg vs.toArray)).run P w = .ok r w:=fun w=>by
  have:=run_equalIn_struct (P:=P) w 9999 T us.toArray vs.toArray hT' hs;rw[hfo,hr1 w] at this;exact this
 rcases zm6 hk1 with ⟨rfl,hk2⟩|⟨rfl,hk2⟩
 ·exact⟨_,_,hk2,rfl,fun w _=>run_eq .eql (.inl rfl) ho he he' hb (fun w=>run_eqGuard_agg w _ T x y _ _ hg) hq w⟩
 ·exact⟨_,_,hk2,rfl,fun w _=>run_eq .neq (.inr rfl) ho he he' hb (fun w=>run_eqGuard_agg w _ T x y _ _ hg) hq w⟩
theorem zCa (d:Nat) {e:TypeId} {q0:IntKind} (he:P.underlying e=some (.int q0)) {xs ys:List Value}:∀ (cs ds:List SC) (i:Nat) (us vs:List Value) {k:Bool→Prop},eqCs cs ds k→zx β cs=some us→zx β ds=some vs →
  us=xs.drop i→vs=ys.drop i →
  ∃ r,k r∧∀ w:World,(Op.eqItems (d+1) e 1 xs.toArray ys.toArray (List.range' i cs.length)).run P w = .ok r w:=by
 intro cs
 induction cs with
 | nil=>
  intro ds i us vs k h hu hv e1 e2;cases ds with
  | nil=>exact⟨true,h,fun w=>by simp[Op.eqItems]⟩
  | cons=>exact h.elim
 | cons c cs ih=>
  intro ds i us vs k h hu hv e1 e2;cases ds with
  | nil=>exact h.elim
  | cons e' ds=>
   have h1:eqC c e' (fun t=>eqCs cs ds fun t'=>k (t&&t')):=h;obtain⟨q,m,n,rfl,rfl,h2⟩:=zl7 h1;simp only[zx,SC.val] at hu hv;cases hcu:zx β cs with
   | none=>simp[hcu] at hu
   | some us'=>
   cases hdv:zx β ds with
   | none=>simp[hdv] at hv
   | some vs'=>
   simp[hcu] at hu;simp[hdv] at hv
   have g1:xs[i]? = some (.int q m):=by
    have:=congrArg (·[0]?) e1;simp[←hu] at this;exact this.symm
   have g2:ys[i]? = some (.int q n):=by
    have:=congrArg (·[0]?) e2;simp[←hv] at this;exact this.symm
   have g3:us'=xs.drop (i+1):=by
    have:=congrArg (·.drop 1) e1;simpa[←hu] using this
   have g4:vs'=ys.drop (i+1):=by
    have:=congrArg (·.drop 1) e2;simpa[←hv] using this
   obtain⟨r,hk,hrun⟩:=ih ds (i+1) us' vs' h2 hcu hdv g3 g4;refine⟨_,hk,fun w=>?_⟩;have p1:=zcd he xs.toArray i (by simpa using g1) w
   have p2:=zcd he ys.toArray i (by simpa using g2) w;have p3:=run_equalIn_int w d e q q0 m n he
   simp only[List.length_cons,List.range'_succ,Op.eqItems,Nat.mul_one,Sem.run_bind,p1,p2,p3,Result.andThen_ok];by_cases hmn:m=n
   ·subst hmn;simp[hrun]
   ·simp[hmn]
theorem zMw {op:BinOp} {T E:TypeId} {n:Nat} {q0:IntKind} {x y:Operand} {U} (ho:o.op = .binOp op T x y U) (hT:P.underlying T=some (.array n E)) (hE:P.underlying E=some (.int q0)) (hs:zI P E=some 1)
  (hg:P.eqGuardType P.depth T=false) (hf:Fr β s.fr a) (h:vq (.aeq op n x y) s k):Quiet P β o s a k:=by
 obtain⟨u,uv,hk,hu,he⟩:=zl hf h;obtain⟨cs,us,hk,hus,rfl⟩:=zeR hk hu;obtain⟨hl,hk⟩:=zdz hk;obtain⟨v,vv,hk,hv,he'⟩:=zl hf hk;obtain⟨ds,vs,hk,hvs,rfl⟩:=zeR hk hv
 obtain⟨i,hi,hsz⟩:∃ i,P.info? E=some i∧i.size=1:=by
  unfold zI at hs;cases hi:P.info? E with
  | none=>simp[hi] at hs
  | some i=>simp[hi] at hs;exact⟨i,rfl,hs⟩
 have hco:P.cellsOf E=1:=by simp[Program.cellsOf,hi,hsz]
 obtain⟨r,hk1,hr1⟩:=zCa (P:=P) 9998 hE (xs:=us) (ys:=vs) cs ds 0 us vs hk hus hvs rfl rfl
 have hb:∀ op',binOp op' T (.agg us.toArray) (.agg vs.toArray)=match op' with
   | .eql=>(do pure (.bool (←Op.equal T (.agg us.toArray) (.agg vs.toArray))))
   | .neq=>(do pure (.bool (!(←Op.equal T (.agg us.toArray) (.agg vs.toArray)))))
   | _=>binOp op' T (.agg us.toArray) (.agg vs.toArray):=fun op'=>by cases op'<;>rfl
 have hq:∀ w:World,(Op.equal T (.agg us.toArray) (.agg vs.toArray)).run P w = .ok r w:=fun w=>by
  have:=run_equalIn_array (P:=P) w 9999 us.toArray vs.toArray hT hi;rw[hco] at this;have h2:=hr1 w
  rw[hl,←List.range_eq_range'] at h2;rw[h2] at this;exact this
 rcases zm6 hk1 with ⟨rfl,hk2⟩|⟨rfl,hk2⟩
 ·exact⟨_,_,hk2,rfl,fun w _=>run_eq .eql (.inl rfl) ho he he' hb (fun w=>run_eqGuard_agg w _ T x y _ _ hg) hq w⟩
 ·exact⟨_,_,hk2,rfl,fun w _=>run_eq .neq (.inr rfl) ho he he' hb (fun w=>run_eqGuard_agg w _ T x y _ _ hg) hq w⟩
theorem zMx {T E:TypeId} {x i:Operand} {len n:Nat} {g:Bool} (ho:o.op = .index T x i) (hu:P.underlying T=some (.array len E))
  (hg:zeQ P E=some g) (hn:zI P E=some n) (hgn:(g||n == 1)=true) (hf:Fr β s.fr a) (h:vq (.aidx g len n x i) s k):Quiet P β o s a k:=by
 obtain⟨q,j,hk,hei⟩:=zU hf h;obtain⟨hj,hk⟩:=hk;obtain⟨sv,v,hk,hv,he⟩:=zl hf hk;obtain⟨cs,vs,hk,hvs,rfl⟩:=zeR hk hv;obtain⟨l,hl,hk2⟩:=zK hk;obtain⟨hle,rfl⟩:=zm5 hl;have hlen:=zbb hvs
 obtain⟨sv2,hk3,hor⟩:=zl5 hk2 (zeM _ (zeN _ hvs));rcases hor with ⟨rfl,hv⟩|⟨rfl,u,hu',hv⟩
 ·refine⟨_,_,hk3,hv,fun w _=>?_⟩
  have h1:(isAgg E).run P w = .ok true w:=by
   unfold zeQ at hg;simp only[isAgg,Sem.run_bind];split at hg
   ·rename_i fs hu;simp[run_underlying hu]
   ·rename_i m e hu;simp[run_underlying hu]
   ·cases hg
   ·cases hg
  simp[zC,execOp,ho,he,hei,Instr.index,asIntOf,run_underlying hu,hj,part,h1,zao hn]
  try rw[List.extract_eq_take_drop]
  try (congr 1;omega)
 ·refine⟨_,_,hk3,hv,fun w _=>?_⟩
  have h1:(isAgg E).run P w = .ok false w:=by
   unfold zeQ at hg;simp only[isAgg,Sem.run_bind];cases hu:P.underlying E with
   | none=>simp[hu] at hg
   | some d=>
    rw[hu] at hg;cases d<;>simp at hg<;>simp[run_underlying hu]
  have hn1:n=1:=by simpa using hgn
  have:vs[j.toNat*n]? = some u:=by
   have:=congrArg (·[0]?) hu';simpa[hn1] using this
  simp[zC,execOp,ho,he,hei,Instr.index,asIntOf,run_underlying hu,hj,part,h1,zao hn,this]
theorem zim {sv:SV} {v:Value} {k:Option Nat→Prop} (h:asMap sv k) (hv:sv.val β=some v):∃ r,k r∧v = .map r:=by
 unfold asMap at h;split at h
 ·simp[SV.val,SC.val] at hv;exact⟨_,h,hv.symm⟩
 ·exact h.elim
theorem zeS {M:Mem} {r:Nat} {p:Array MapEntry×Nat} (h:M.mapAt r=some p):M r=some (.map p.1 p.2):=by
 unfold Mem.mapAt at h;split at h
 ·rename_i es c hm;simp at h;subst h;exact hm
 ·cases h
theorem zvn {M:Mem} {r:Nat} {p:Option Nat×Nat×Array Nat×Nat} (h:M.iterAt r=some p):M r=some (.mapIter p.1 p.2.1 p.2.2.1 p.2.2.2):=by
 unfold Mem.iterAt at h;split at h
 ·rename_i m a s b hm;simp at h;subst h;exact hm
 ·cases h
theorem zxd {ok:Bool} {z:Value} {f:Option (Nat×Value)} {k:SV→Prop} (h:mgot ok z f k) :
  ∃ sv v,k sv∧sv.val β=some v∧v=(if ok then .tuple #[(f.map (·.2)).getD z,.bool f.isSome] else (f.map (·.2)).getD z):=by
 unfold mgot at h;split at h
 ·split at h
  ·exact⟨_,_,h,rfl,rfl⟩
  ·exact⟨_,_,h,zk3 β _,rfl⟩
 ·split at h
  ·exact⟨_,_,h,rfl,rfl⟩
  ·exact⟨_,_,h,zk3 β _,rfl⟩
theorem zvo {T:TypeId} {z:Value} (h:zeroVal P T=some z) (w:World):(zeroValue T).run P w = .ok z w:=by
 unfold zeroVal at h;cases hi:P.info? T with
 | none=>simp[hi] at h
 | some i=>
  simp[hi] at h;simp[zeroValue,typeInfo,hi,h]
theorem zMy {T K E:TypeId} {kk:KK} {ok:Bool} {z:Value} {x key:Operand} (ho:o.op = .lookup T x key ok) (hT:P.underlying T=some (.map K E)) (hk:zbN P K=some kk) (hz:zeroVal P E=some z)
  (hf:Fr β s.fr a) (h:vq (.mget kk ok z x key) s k):Quiet P β o s a k true:=by
 obtain⟨u,uv,hv,hu,he⟩:=zl hf h;obtain⟨r,hv,rfl⟩:=zim hv hu;obtain⟨kv,kvv,hv,hkv,he'⟩:=zl hf hv;obtain⟨hv,hok⟩:=zp1 hv hkv;have hnil:∀ w:World,(Instr.findKey K kvv []).run P w = .ok none w:=fun w=>zp2 hk hok rfl w
 cases r with
 | none=>
  have hv':mgot ok z none k:=hv;obtain⟨sv,v,h1,h2,rfl⟩:=zxd (β:=β) hv';refine⟨_,_,h1,h2,fun w _=>?_⟩;have hc:=fun em=>zl6 (P:=P) hk hok em 9998 w
  cases ok<;>simp[zC,execOp,ho,Instr.lookup,run_underlying hT,he,he',hc,hnil,zvo hz,Result.andThen]
 | some b=>
  obtain⟨p,hp,hv⟩:=zK hv;obtain⟨f,hfi,hv⟩:=zK hv;obtain⟨sv,v,h1,h2,rfl⟩:=zxd (β:=β) hv;refine⟨_,_,h1,h2,fun w hr=>?_⟩;have hb:=(hr rfl).M _ _ (zeS hp)
  have hg:=MapKept.run_getObj_map (P:=P) hb;have hc:=fun em=>zl6 (P:=P) hk hok em 9998 w
  have hfr:=zp2 (P:=P) hk hok hfi w;cases ok<;>cases f<;>simp[zC,execOp,ho,Instr.lookup,run_underlying hT,he,he',hg,hc,hfr,zvo hz,Result.andThen]
theorem zMz {x:Operand} {T K E:TypeId} (ho:o.op = .call { callee := .builtin .len,args := #[x],argTypes := #[T] }) (hT:P.underlying T=some (.map K E))
  (hf:Fr β s.fr a) (h:vq (.mlen x) s k):Quiet P β o s a k true:=by
 obtain⟨u,uv,hv,hu,he⟩:=zl hf h;obtain⟨r,hv,rfl⟩:=zim hv hu;cases r with
 | none=>exact⟨_,_,hv,rfl,fun w _=>by simp[zC,execOp,ho,resolve,invoke,builtin,Builtin.len_,run_underlying hT,he,goInt]⟩
 | some b=>
  obtain⟨p,hp,hv⟩:=zK hv;refine⟨_,_,hv,rfl,fun w hr=>?_⟩;have hb:=(hr rfl).M _ _ (zeS hp)
  have hg:=MapKept.run_getObj_map (P:=P) hb;simp[zC,execOp,ho,resolve,invoke,builtin,Builtin.len_,run_underlying hT,he,goInt,hg]
theorem zHG {x:Operand} (ho:o.op = .entry x) (hf:Fr β s.fr a) (hgone:∀ (j:Nat) b,s.bx[j]? = some (.gone b)→β[j]? = some b)
  (hlive:∀ (j:Nat) T cs,s.bx[j]? = some (.live T cs)→∃ b vs,β[j]? = some b∧zx β cs=some vs)
  (h:vq (.mentry x) s k):Quiet P β o s a k true:=by
 rcases zr4 hf hgone (fun j T cs hj=>let ⟨b,_,hb,_⟩:=hlive j T cs hj;⟨b,hb⟩) h with ⟨j,o',T',cs,b,hj,hk,hb,he⟩|⟨b,o',hk,he⟩
 ·exact hk.elim
 ·obtain⟨rfl,hk⟩:=zdz hk;obtain⟨e,hE,hk⟩:=zK hk;refine⟨_,_,hk,rfl,fun w hr=>?_⟩;have hM:=(hr rfl).M
  unfold zak at hE;split at hE
  ·rename_i m since seen stepped hit;split at hE
   ·rename_i es clock stamp hm hs;split at hE
    ·rename_i hcl;simp only[Option.map_eq_some_iff] at hE;obtain⟨en,hen,rfl⟩:=hE;have h1:=hM _ _ (zvn hit)
     have h2:=hM _ _ (zeS hm)
     have g1:(getObj b).run P w = .ok (.mapIter (some m) since seen stepped) w:=by
      have:w.heap[b]? = _:=h1;simp[getObj,Sem.run,this]
     have g2:=MapKept.run_getObj_map (P:=P) h2;simp only[zC,execOp,ho,he,Instr.entry,Sem.run_bind,g1,g2,hs,Result.andThen_ok,hcl,bne_self_eq_false,Bool.false_eq_true,if_false,hen,Sem.run_pure]
    ·cases hE
   ·cases hE
  ·cases hE
theorem zAQ {ops:List Oper} {r:ROp} (hr:zn P ops o=some r) (hq:zy r=true) (hf:Fr β s.fr a)
  (hgone:∀ (j:Nat) b,s.bx[j]? = some (.gone b)→β[j]? = some b)
  (hlive:∀ (j:Nat) T cs,s.bx[j]? = some (.live T cs)→∃ b vs,β[j]? = some b∧zx β cs=some vs)
  (h:vq r s k):Quiet P β o s a k (reads r):=by
 cases ho:o.op with
 | move x=>simp[zn,ho] at hr;subst hr;exact(zJ3 (.inl ho) hf h).reads _
 | assign x=>simp[zn,ho] at hr;subst hr;exact(zJ3 (.inr ho) hf h).reads _
 | pick c x y=>simp[zn,ho] at hr;subst hr;exact(zMh ho hf h).reads _
 | build T parts=>
  simp only[zn,ho,Option.bind_eq_some_iff,Option.map_eq_some_iff] at hr;obtain⟨z,hz,l,hl,rfl⟩:=hr;exact(zLe ho hz hl hf h).reads _
 | load T p=>
  simp only[zn,ho,Option.bind_eq_some_iff] at hr;obtain⟨g,hg,z,hz,hr⟩:=hr;split at hr
  ·rename_i hgz;simp at hr;subst hr;exact zMi ho hg hz hgz hf hgone hlive h
  ·cases hr
 | nilCheck x=>simp[zn,ho] at hr;subst hr;exact(zK9 ho hf h).reads _
 | fieldAddr T p i=>
  simp only[zn,ho] at hr;split at hr
  ·rename_i fs hu;simp only[Option.bind_eq_some_iff] at hr;obtain⟨f,hfi,n,hn,hr⟩:=hr;split at hr
   ·cases hr
   ·simp at hr;subst hr;exact(zLa ho hu hfi hn ‹_› hf h).reads _
  ·cases hr
 | field T x i=>
  simp only[zn,ho] at hr;split at hr
  ·rename_i fs hu;simp only[Option.bind_eq_some_iff] at hr;obtain⟨f,hfi,g,hg,n,hn,hr⟩:=hr;split at hr
   ·simp at hr;subst hr;exact(zLd ho hu hfi hg hn ‹_› hf h).reads _
   ·cases hr
  ·cases hr
 | indexAddr T x i=>
  simp only[zn,ho] at hr;split at hr
  ·rename_i E hu;simp only[Option.map_eq_some_iff] at hr;obtain⟨n,hn,rfl⟩:=hr;exact(zLb ho hu hn hf h).reads _
  ·rename_i len E hu;simp only[Option.map_eq_some_iff] at hr;obtain⟨n,hn,rfl⟩:=hr;exact(zHF ho hu hn hf h).reads _
  ·cases hr
 | binOp op T x y U=>
  simp only[zn,ho] at hr;split at hr
  ·simp at hr;subst hr;exact(zMq ho hf h).reads _
  ·simp at hr;subst hr;exact(zMp ho ‹_› hf h).reads _
  ·simp at hr;subst hr;exact(zMr ho ‹_› hf h).reads _
  ·simp at hr;subst hr;exact(zMs ho hf h).reads _
  ·simp at hr;subst hr;exact(zLh ho ‹_› hf h).reads _
  ·split at hr
   ·rename_i hc;simp only[Bool.and_eq_true,Bool.not_eq_true'] at hc;obtain⟨⟨h1,h2⟩,h3⟩:=hc;simp at hr;subst hr;exact(zNU ho ‹_› h1 h2 h3 hf (by simpa using h)).reads _
   ·rw[Option.bind_eq_some_iff] at hr;obtain⟨n,h2,hr⟩:=hr;split at hr
    ·rename_i hc2;simp only[Bool.and_eq_true,Bool.not_eq_true'] at hc2;simp at hr;subst hr;exact(zMv ho ‹_› h2 hc2.1 hc2.2 hf h).reads _
    ·cases hr
  ·split at hr
   ·split at hr
    ·rename_i hc;simp only[Bool.not_eq_true'] at hc;simp at hr;subst hr;exact(zMw ho ‹_› ‹_› ‹_› hc hf h).reads _
    ·cases hr
   ·cases hr
  ·cases hr
 | unOp op T x=>
  cases op with
  | not=>simp[zn,ho] at hr;subst hr;exact(zNQ ho hf h).reads _
  | neg=>
   simp only[zn,ho] at hr;split at hr
   ·simp at hr;subst hr;exact(zMl ho hf h).reads _
   ·cases hr
  | xor=>
   simp only[zn,ho] at hr;split at hr
   ·simp at hr;subst hr;exact(zMm ho hf h).reads _
   ·cases hr
  | plus=>simp[zn,ho] at hr
 | convert S T x=>
  simp only[zn,ho] at hr;split at hr
  ·simp at hr;subst hr;exact(zMo ho ⟨_, ‹P.underlying S=_›⟩ ‹P.underlying T=_› hf h).reads _
  ·split at hr
   ·rename_i hb;simp at hr;subst hr;unfold ztJ at hb;split at hb
    ·split at hb
     ·exact zLf ho ‹P.underlying S=_› ‹_› ‹P.underlying T=_› hf h
     ·cases hb
    ·cases hb
   ·cases hr
  ·split at hr
   ·simp at hr;subst hr;simp[zy] at hq
   ·cases hr
  ·cases hr
 | slice T x lo hi mx=>
  cases mx with
  | some _=>
   cases lo with
   | none=>
    cases hi with
    | none=>simp[zn,ho] at hr
    | some _=>
     simp only[zn,ho] at hr;split at hr
     ·simp only[Option.map_eq_some_iff] at hr;obtain⟨n,hn,rfl⟩:=hr;exact(zLg ho ‹_› hn hf h).reads _
     ·cases hr
   | some _=>
    cases hi with
    | none=>simp[zn,ho] at hr
    | some _=>
     simp only[zn,ho] at hr;split at hr
     ·simp only[Option.map_eq_some_iff] at hr;obtain⟨n,hn,rfl⟩:=hr;exact(zMu ho ‹_› hn hf h).reads _
     ·cases hr
  | none=>
   simp only[zn,ho] at hr;split at hr
   ·simp only[Option.map_eq_some_iff] at hr;obtain⟨n,hn,rfl⟩:=hr;exact(zNT ho ‹_› hn hf h).reads _
   ·simp at hr;subst hr;exact(zNS ho ‹_› hf h).reads _
   ·split at hr
    ·simp only[Option.map_eq_some_iff] at hr;obtain⟨_,_,rfl⟩:=hr;simp[zy] at hq
    ·cases hr
   ·cases hr
 | index T x i=>
  simp only[zn,ho] at hr;split at hr
  ·simp at hr;subst hr;exact(zMt ho ‹_› hf h).reads _
  ·simp only[Option.bind_eq_some_iff] at hr;obtain⟨g,hg,n,hn,hr⟩:=hr;split at hr
   ·simp at hr;subst hr;exact(zMx ho ‹_› hg hn ‹_› hf h).reads _
   ·cases hr
  ·cases hr
 | extract x i=>simp[zn,ho] at hr;subst hr;exact(zGb ho hf h).reads _
 | lookup T x key ok=>
  simp only[zn,ho] at hr;split at hr
  ·simp only[Option.bind_eq_some_iff,Option.map_eq_some_iff] at hr;obtain⟨kk,hk,z,hz,rfl⟩:=hr;exact zMy ho ‹_› hk hz hf h
  ·cases hr
 | entry x=>simp[zn,ho] at hr;subst hr;exact zHG ho hf hgone hlive h
 | makeMap T m=>cases m<;>simp[zn,ho] at hr;subst hr;simp[zy] at hq
 | makeSlice T x y=>
  simp only[zn,ho] at hr;split at hr
  ·simp only[Option.bind_eq_some_iff] at hr;obtain⟨_,_,_,_,hr⟩:=hr;split at hr
   ·simp at hr;subst hr;cases hso:zAM x y<;>simp[hso,zy] at hq
   ·cases hr
  ·cases hr
 | mapUpdate T x key v=>
  simp only[zn,ho] at hr;split at hr
  ·simp only[Option.map_eq_some_iff] at hr;obtain⟨_,_,rfl⟩:=hr;simp[zy] at hq
  ·cases hr
 | insert T x key v=>
  simp only[zn,ho] at hr;split at hr
  ·simp only[Option.map_eq_some_iff] at hr;obtain⟨_,_,rfl⟩:=hr;simp[zy] at hq
  ·cases hr
 | range T x=>
  simp only[zn,ho] at hr;split at hr
  ·simp at hr;subst hr;simp[zy] at hq
  ·simp at hr;subst hr;simp[zy] at hq
  ·cases hr
 | next x b=>cases b<;>simp[zn,ho] at hr<;>subst hr<;>simp[zy] at hq
 | call c=>
  obtain⟨callee,args,argTypes⟩:=c;cases callee with
  | value f=>simp[zn,ho] at hr;subst hr;simp[zy] at hq
  | invoke x m=>simp[zn,ho] at hr
  | builtin b=>
   cases b<;>simp[zn,ho] at hr
   ·split at hr
    ·split at hr
     ·simp only[Option.bind_eq_some_iff] at hr;obtain⟨_,_,_,_,hr⟩:=hr;split at hr
      ·simp at hr;subst hr;simp[zy] at hq
      ·cases hr
     ·cases hr
    ·cases hr
   ·split at hr
    ·split at hr
     ·split at hr
      ·simp at hr;obtain⟨-, rfl⟩:=hr;simp[zy] at hq
      ·cases hr
     ·cases hr
    ·cases hr
   ·split at hr
    ·split at hr
     ·simp only[Option.bind_eq_some_iff] at hr;obtain⟨_,_,hr⟩:=hr;split at hr
      ·simp at hr;subst hr;simp[zy] at hq
      ·cases hr
     ·cases hr
    ·cases hr
   ·split at hr
    ·split at hr
     ·simp only[Option.map_eq_some_iff] at hr;obtain⟨_,_,rfl⟩:=hr;simp[zy] at hq
     ·cases hr
    ·cases hr
   ·split at hr
    ·rename_i x T hx hT;have hx':args = #[x]:=by cases args;simp_all
     have hT':argTypes = #[T]:=by cases argTypes;simp_all
     subst hx' hT';split at hr
     ·simp at hr;subst hr;exact(zNR ho ‹_› hf h).reads _
     ·simp at hr;subst hr;exact(zMn ho ‹_› hf h).reads _
     ·simp at hr;subst hr;exact zMz ho ‹_› hf h
     ·cases hr
    ·cases hr
   ·split at hr
    ·rename_i x y hx;have hx':args = #[x,y]:=by cases args;simp_all
     subst hx';simp at hr;subst hr;exact(zJ4 (mx:=true) ho hf h).reads _
    ·cases hr
   ·split at hr
    ·rename_i x y hx;have hx':args = #[x,y]:=by cases args;simp_all
     subst hx';simp at hr;subst hr;exact(zJ4 (mx:=false) ho hf h).reads _
    ·cases hr
 | box T x=>simp[zn,ho] at hr;subst hr;simp[zy] at hq
 | alloc T=>simp[zn,ho] at hr;obtain⟨_,_,rfl⟩:=hr;simp[zy] at hq
 | store T p x=>simp[zn,ho] at hr;obtain⟨_,_,rfl⟩:=hr;simp[zy] at hq
 | buildSlice T n parts=>
  simp only[zn,ho] at hr;split at hr
  ·simp only[Option.bind_eq_some_iff] at hr;obtain⟨_,_,_,_,hr⟩:=hr;split at hr
   ·simp at hr;subst hr;simp[zy] at hq
   ·cases hr
  ·cases hr
 | makeFunc fn first caps=>
  cases fn with
  | func f=>
   simp only[zn,ho] at hr;split at hr
   ·simp at hr;subst hr;exact(zMj ho ‹_› hf h).reads _
   ·split at hr
    ·rename_i hx hc;simp at hr;subst hr;exact(zMk ho (by cases first;simp_all) (by cases caps;simp_all) hf h).reads _
    ·cases hr
  | _=>simp[zn,ho] at hr
 | _=>simp[zn,ho] at hr
end
end Go.Vm
