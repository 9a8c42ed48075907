/- Part. -/
import Derived.Test.YtlgbofpennelhaaGreatJ0
set_option linter.all false
set_option maxHeartbeats 0
namespace Go.Vm
open Go.RowKit
section
def zaa (P:Program) (o:Oper) (a:Act) (w:World) (v:Value):Prop:=(execOp a.eval o).run P w = .ok (.value v) w
def Quiet (P:Program) (β:List Nat) (o:Oper) (s:St) (a:Act) (k:SV→Prop) (rd:Bool:=false):Prop:=
 ∃ sv v,k sv∧sv.val β=some v∧∀ w,(rd=true→Rd β s w)→zaa P o a w v
theorem Quiet.reads {P:Program} {β:List Nat} {o:Oper} {s:St} {a:Act} {k:SV→Prop} (h:Quiet P β o s a k) (rd:Bool):Quiet P β o s a k rd:=
 let ⟨sv,v,h1,h2,h3⟩:=h;⟨sv,v,h1,h2,fun w _=>h3 w (by simp)⟩
section
variable {P:Program} {β:List Nat} {o:Oper} {s:St} {a:Act} {k:SV→Prop}
theorem zFJ {x:Operand} (ho:o.op = .move x∨o.op = .assign x) (hf:Fr β s.fr a) (h:vq (.mov x) s k):Quiet P β o s a k:=by
 obtain⟨sv,v,hk,hv,he⟩:=zl hf h;refine⟨sv,v,hk,hv,fun w _=>?_⟩;rcases ho with ho|ho<;>simp[zaa,execOp,ho,he]
theorem zHV {c x y:Operand} (ho:o.op = .pick c x y) (hf:Fr β s.fr a) (h:vq (.pick c x y) s k):Quiet P β o s a k:=by
 obtain⟨sv0,v0,hk0,hv0,he⟩:=zl hf h;obtain⟨b,rfl,h1,h2⟩:=zkr hk0 hv0;cases b with
 | true=>
  obtain⟨sv,v,hk,hv,he'⟩:=zl hf (h1 rfl);exact⟨sv,v,hk,hv,fun w _=>by simp[zaa,execOp,ho,he,he',asBool]⟩
 | false=>
  obtain⟨sv,v,hk,hv,he'⟩:=zl hf (h2 rfl);exact⟨sv,v,hk,hv,fun w _=>by simp[zaa,execOp,ho,he,he',asBool]⟩
theorem zHW {T:TypeId} {p:Operand} {g:Bool} {z:List Value} (ho:o.op = .load T p) (hg:ze8 P T=some g) (hz:zdJ P T=some z) (hgz:(g||z.length == 1)=true)
  (hf:Fr β s.fr a) (hgone:∀ (j:Nat) b,s.bx[j]? = some (.gone b)→β[j]? = some b)
  (hlive:∀ (j:Nat) T cs,s.bx[j]? = some (.live T cs)→∃ b vs,β[j]? = some b∧zY β cs=some vs)
  (h:vq (.load g z.length p) s k):Quiet P β o s a k true:=by
 have hsz:=zpH hz;rcases znI hf hgone (fun j T cs hj=>let ⟨b,_,hb,_⟩:=hlive j T cs hj;⟨b,hb⟩) h with ⟨j,o',T',cs,b,hj,hk,hb,he⟩|⟨b,o',hk,he⟩
 ·obtain⟨l,hl,hk⟩:=zal hk;obtain⟨hle,rfl⟩:=zjb hl;obtain⟨b',vs,hb',hvs⟩:=hlive j T' cs hj;obtain⟨sv,hk2,hor⟩:=ziw hk (ze1 _ (ze2 _ hvs));have hlen:=zb1 hvs
  rcases hor with ⟨rfl,hv⟩|⟨rfl,u,hu,hv⟩
  ·refine⟨sv,_,hk2,hv,fun w hr=>?_⟩;have hr:=hr rfl
   obtain⟨b2,vs2,hb2,hvs2,hh⟩:=hr.live j T' cs hj;rw[hvs] at hvs2;cases hvs2;rw[hb] at hb2;cases hb2;simp only[zaa,execOp,ho,Instr.loadAt,he,Instr.sureAddr,Yo,Y6,Yk];rw[zhk hg hsz hh (by simp;omega)];rfl
  ·refine⟨sv,_,hk2,hv,fun w hr=>?_⟩;have hr:=hr rfl
   obtain⟨b2,vs2,hb2,hvs2,hh⟩:=hr.live j T' cs hj;rw[hvs] at hvs2;cases hvs2;rw[hb] at hb2;cases hb2;simp only[zaa,execOp,ho,Instr.loadAt,he,Instr.sureAddr,Yo,Y6,Yk];rw[zhl (v:=u) hg ?_]
   ·rfl
   ·rw[zg9 hh];have h1:z.length=1:=by simpa using hgz
    rw[h1] at hu
    have:(List.drop o' vs)[0]? = some u:=by
     have:=congrArg (·[0]?) hu;simpa using this
    simpa using this
 ·obtain⟨vs,hrow,hk⟩:=zal hk;obtain⟨sv,hk2,hor⟩:=ziw hk (zeh β vs);rcases hor with ⟨rfl,hv⟩|⟨rfl,u,rfl,hv⟩
  ·refine⟨sv,_,hk2,hv,fun w hr=>?_⟩;have hr:=hr rfl
   obtain⟨c,e,fz,hh,hle,rfl⟩:=zjI hr.M hrow;simp only[zaa,execOp,ho,Instr.loadAt,he,Instr.sureAddr,Yo,Y6,Yk];rw[zhk hg hsz hh hle];rfl
  ·refine⟨sv,_,hk2,hv,fun w hr=>?_⟩;have hr:=hr rfl
   obtain⟨c,e,fz,hh,hle,hu⟩:=zjI hr.M hrow;simp only[zaa,execOp,ho,Instr.loadAt,he,Instr.sureAddr,Yo,Y6,Yk];rw[zhl (v:=u) hg ?_]
   ·rfl
   ·rw[zg9 hh];have h1:z.length=1:=by simpa using hgz
    rw[h1] at hu
    have:(List.drop o' c.toList)[0]? = some u:=by
     have:=congrArg (·[0]?) hu;simpa using this.symm
    simpa using this
theorem zGi {x:Operand} (ho:o.op = .nilCheck x) (hf:Fr β s.fr a) (h:vq (.nilck x) s k):Quiet P β o s a k:=by
 obtain⟨sv,v,hk,hv,he⟩:=zl hf h;obtain⟨b,o',sv',rfl,hk',hv'⟩:=zkU hk hv;exact⟨sv',_,hk',hv',fun w _=>by simp[zaa,execOp,ho,he]⟩
theorem zbe {T:TypeId} {n:Nat} (h:zac P T=some n) (w:World):(sizeOf T).run P w = .ok n w:=by
 unfold zac at h;cases hi:P.info? T with
 | none=>simp[hi] at h
 | some i=>simp[hi] at h;simp[sizeOf,typeInfo,hi,h]
theorem zGj {T:TypeId} {p:Operand} {i:Nat} {fs:Array Field} {f:Field} {n:Nat} (ho:o.op = .fieldAddr T p i) (hu:P.underlying T=some (.struct fs)) (hi:fs[i]? = some f)
  (hn:zac P f.type=some n) (hn0:n≠0) (hf:Fr β s.fr a) (h:vq (.faddr f.offset p) s k):Quiet P β o s a k:=by
 obtain⟨sv,v,hk,hv,he⟩:=zl hf h;obtain⟨b,o',sv',rfl,hk',hv'⟩:=zkU hk hv;refine⟨sv',_,hk',hv',fun w _=>?_⟩;simp[zaa,execOp,ho,Instr.fieldAt,run_underlying hu,hi,he,Instr.sureAddr,fieldPlace,zbe hn,hn0,zb7]
theorem zGk {T E:TypeId} {x i:Operand} {n:Nat} (ho:o.op = .indexAddr T x i) (hu:P.underlying T=some (.slice E))
  (hn:zac P E=some n) (hf:Fr β s.fr a) (h:vq (.iaddr n x i) s k):Quiet P β o s a k:=by
 obtain⟨p,len,c,hk,he⟩:=ze0 hf h;obtain⟨q,j,hk2,he'⟩:=zas hf hk;obtain⟨⟨h0,h1⟩,hk3⟩:=hk2;obtain⟨b,o',rfl,hk4⟩:=zg8 hk3;refine⟨_,_,hk4,rfl,fun w _=>?_⟩;simp[zaa,execOp,ho,Instr.indexAt,run_underlying hu,he,he',asIntOf,h0,h1,zbe hn,zb7]
theorem zDA {T E:TypeId} {x i:Operand} {n len:Nat} (ho:o.op = .indexAddr T x i) (hu:P.underlying T=some (.array len E))
  (hn:zac P E=some n) (hf:Fr β s.fr a) (h:vq (.iaddrA len n x i) s k):Quiet P β o s a k:=by
 obtain⟨q,j,hk2,he'⟩:=zas hf h;obtain⟨⟨h0,h1⟩,hk3⟩:=hk2;obtain⟨sv,v,hk,hv,he⟩:=zl hf hk3;obtain⟨b,o',sv',rfl,hk',hv'⟩:=zkU hk hv;refine⟨sv',_,hk',hv',fun w _=>?_⟩;simp[zaa,execOp,ho,Instr.indexAt,run_underlying hu,he,he',asIntOf,h0,h1,zbe hn,zb7,Instr.sureAddr]
theorem zJm {t:TypeId} {x:Operand} (ho:o.op = .unOp .not t x) (hf:Fr β s.fr a) (h:vq (.not x) s k):Quiet P β o s a k:=by
 obtain⟨sv,v,hk,hv,he⟩:=zl hf h;unfold zHM at hk;split at hk
 ·rename_i b;simp[SV.val,SC.val] at hv;subst hv;cases b with
  | true=>exact⟨_,_,hk,rfl,fun w _=>by simp[zaa,execOp,ho,he,Op.unary]⟩
  | false=>exact⟨_,_,hk,rfl,fun w _=>by simp[zaa,execOp,ho,he,Op.unary]⟩
 ·rename_i b;simp[SV.val] at hv;subst hv;exact⟨_,_,hk,rfl,fun w _=>by simp[zaa,execOp,ho,he,Op.unary]⟩
 ·exact hk.elim
theorem zlU {β:List Nat}:∀ {cs:List SC} {vs:List Value},zf3 cs=some vs→zY β cs=some vs
 | [],vs,h=>by simp[zf3] at h;subst h;rfl
 | .v x::r,vs,h=>by
  simp only[zf3,Ye] at h;obtain⟨us,h1,rfl⟩:=h;simp[zY,SC.val,zlU (β:=β) h1]
 | .bx _ _::_,vs,h=>by simp[zf3] at h
theorem zGl {β:List Nat} {sv:SV} {c:SC} {v:Value} (h:zja sv=some c) (hv:sv.val β=some v):c.val β=some v:=by
 cases sv with
 | c x=>simp[zja] at h;subst h;simpa[SV.val] using hv
 | ag cs=>
  simp only[zja,Ye] at h;obtain⟨vs,h1,rfl⟩:=h;simp only[SV.val,zlU h1,Yc0] at hv;simpa[SC.val] using hv
 | sb x=>simp[zja] at h;subst h;simpa[SV.val,SC.val] using hv
 | sl _ _=>simp[zja] at h
 | fn _ _=>simp[zja] at h
 | dead=>simp[zja] at h
theorem zrn (hf:Fr β s.fr a):∀ {xs:List Operand} {k:List SC→Prop},zrk xs s k→∃ cs,k cs∧zY β cs=some (xs.map a.eval)
 | [],k,h=>⟨[],h,rfl⟩
 | x::r,k,h=>by
  simp only[zrk] at h;obtain⟨sv,v,hk,hv,he⟩:=zl hf h;cases hc:zja sv with
  | none=>rw[hc] at hk;exact hk.elim
  | some c=>
   rw[hc] at hk;obtain⟨cs,h1,h2⟩:=zrn hf (xs:=r) hk;exact⟨c::cs,h1,by simp[zY,zGl hc hv,h2,he]⟩
theorem zHX {f:Nat} {first caps:Array Operand} (ho:o.op = .makeFunc (.func f) first caps) (h0:first.size=0) (hf:Fr β s.fr a) (h:vq (.mkfn f caps.toList) s k):Quiet P β o s a k:=by
 obtain⟨cs,h1,h2⟩:=zrn hf h;obtain rfl:first = #[]:=Array.eq_empty_of_size_eq_zero h0
 exact⟨_,.func (.func f) #[] (caps.toList.map a.eval).toArray,h1,by simp only[SV.val,h2,Yc0],fun w _=>by simp[zaa,execOp,ho,Instr.makeFunc];apply Array.ext';simp⟩
theorem zHY {f:Nat} {x:Operand} {first caps:Array Operand} (ho:o.op = .makeFunc (.func f) first caps) (h1:first = #[x]) (h2:caps = #[]) (hf:Fr β s.fr a) (h:vq (.mval f x) s k):Quiet P β o s a k:=by
 subst h1 h2;obtain⟨sv,v,hk,hv,he⟩:=zl hf h;unfold zFF at hk;split at hk
 ·simp[SV.val,SC.val] at hv;subst hv;exact⟨_,_,hk,rfl,fun w _=>by simp[zaa,execOp,ho,Instr.makeFunc,he]⟩
 ·exact hk.elim
theorem zHZ {T:TypeId} {x:Operand} (ho:o.op = .unOp .neg T x) (hf:Fr β s.fr a) (h:vq (.uneg x) s k):Quiet P β o s a k:=by
 obtain⟨q,n,hk,he⟩:=zas hf h;have hr:zkq q (0 - n) k:=hk
 unfold zkq at hr;split at hr
 ·exact⟨_,_,hr.ok,rfl,fun w _=>by simp[zaa,execOp,ho,he,Op.unary,Op.intArith]⟩
 ·exact⟨_,_,hr,rfl,fun w _=>by simp[zaa,execOp,ho,he,Op.unary,Op.intArith]⟩
theorem zH0 {T:TypeId} {x:Operand} (ho:o.op = .unOp .xor T x) (hf:Fr β s.fr a) (h:vq (.ucom x) s k):Quiet P β o s a k:=by
 obtain⟨q,n,hk,he⟩:=zas hf h;exact⟨_,_,hk,rfl,fun w _=>by simp[zaa,execOp,ho,he,Op.unary,Op.intBits,zD]⟩
theorem zJn {x:Operand} {T E:TypeId} (ho:o.op = .call { callee := .builtin .len,args := #[x],argTypes := #[T] })
  (hu:P.underlying T=some (.slice E)) (hf:Fr β s.fr a) (h:vq (.len x) s k):Quiet P β o s a k:=by
 obtain⟨p,n,c,hk,he⟩:=ze0 hf h;exact⟨_,_,hk,rfl,fun w _=>by simp[zaa,execOp,ho,resolve,invoke,builtin,Builtin.len_,run_underlying hu,he,goInt]⟩
theorem zH1 {x:Operand} {T:TypeId} (ho:o.op = .call { callee := .builtin .len,args := #[x],argTypes := #[T] })
  (hu:P.underlying T=some .string) (hf:Fr β s.fr a) (h:vq (.lenS x) s k):Quiet P β o s a k:=by
 obtain⟨sv,v,hk,hv,he⟩:=zl hf h;unfold zi9 at hk;split at hk
 ·simp[SV.val,SC.val] at hv;subst hv;exact⟨_,_,hk,rfl,fun w _=>by simp[zaa,execOp,ho,resolve,invoke,builtin,Builtin.len_,run_underlying hu,he,goInt]⟩
 ·exact hk.elim
theorem znL (d:Nat) {T:TypeId} (hu:P.underlying T=some .bool) (x y:Bool) (w:World):(Op.equalIn (d+1) T (.bool x) (.bool y)).run P w = .ok (x == y) w:=by
 simp[Op.equalIn,run_underlying hu]
theorem znM (d:Nat) {T E:TypeId} (hu:P.underlying T=some (.pointer E)) (x:Option Addr) (w:World):(Op.equalIn (d+1) T (.pointer x) (.pointer none)).run P w = .ok x.isNone w:=by
 cases x<;>simp[Op.equalIn,run_underlying hu]
theorem run_eq {T U:TypeId} {x y:Operand} {vx vy:Value} (op:BinOp) (hop:op = .eql∨op = .neq) (ho:o.op = .binOp op T x y U) (hx:a.eval x=vx) (hy:a.eval y=vy)
  (hb:∀ op',binOp op' T vx vy=match op' with
   | .eql=>(do pure (.bool (←Op.equal T vx vy)))
   | .neq=>(do pure (.bool (!(←Op.equal T vx vy))))
   | _=>binOp op' T vx vy)
  (hg:∀ w:World,(eqGuard op T x y vx vy).run P w = .ok () w) {r:Bool} (he:∀ w:World,(Op.equal T vx vy).run P w = .ok r w) (w:World) :
  zaa P o a w (.bool (if op = .eql then r else !r)):=by
 rcases hop with rfl|rfl
 ·have:=hb .eql;simp only at this;simp only[zaa,execOp,ho,hx,hy,Yo,hg,Yk,this,he,Y6,if_true]
 ·have:=hb .neq;simp only at this;simp only[zaa,execOp,ho,hx,hy,Yo,hg,Yk,this,he,Y6];rfl
theorem zH2 {S T:TypeId} {q:IntKind} {x:Operand} (ho:o.op = .convert S T x) (hS:∃ d,P.underlying S=some d) (hu:P.underlying T=some (.int q)) (hf:Fr β s.fr a) (h:vq (.conv q x) s k):Quiet P β o s a k:=by
 obtain⟨q',n,hk,he⟩:=zas hf h;obtain⟨d,hS⟩:=hS;refine⟨_,_,hk,rfl,fun w _=>?_⟩;simp[zaa,execOp,ho,convert,run_underlying hu,run_underlying hS,he,Conv.intToInt]
theorem zH3 {op:BinOp} {T U:TypeId} {x y:Operand} (ho:o.op = .binOp op T x y U) (hu:P.underlying T=some .bool) (hf:Fr β s.fr a) (h:vq (.bbin op x y) s k):Quiet P β o s a k:=by
 obtain⟨b,hk,he⟩:=ztI hf h;obtain⟨c,hk2,he'⟩:=ztI hf hk
 have hg:∀ op (w:World),(eqGuard op T x y (.bool b) (.bool c)).run P w = .ok () w:=fun op w=>by
  unfold eqGuard;split<;>simp
 have hb:∀ op',binOp op' T (.bool b) (.bool c)=match op' with
   | .eql=>(do pure (.bool (←Op.equal T (.bool b) (.bool c))))
   | .neq=>(do pure (.bool (!(←Op.equal T (.bool b) (.bool c)))))
   | _=>binOp op' T (.bool b) (.bool c):=fun op'=>by cases op'<;>rfl
 unfold zHL at hk2;split at hk2
 ·exact⟨_,_,hk2,rfl,fun w _=>run_eq .eql (.inl rfl) ho he he' hb (hg _) (fun w=>znL 9999 hu b c w) w⟩
 ·exact⟨_,_,hk2,rfl,fun w _=>run_eq .neq (.inr rfl) ho he he' hb (hg _) (fun w=>znL 9999 hu b c w) w⟩
 ·exact hk2.elim
theorem zH4 {op:BinOp} {T U:TypeId} {x y:Operand} (ho:o.op = .binOp op T x y U) (hf:Fr β s.fr a) (h:vq (.ibin op x y) s k):Quiet P β o s a k:=by
 obtain⟨q,m,hk,he⟩:=zas hf h;obtain⟨q',n,hk2,he'⟩:=zas hf hk;have hk3:ibin op q m n k:=by cases op<;>first|exact hk2|(simp only[zzp] at hk2;split at hk2;exact hk2;exact hk2.elim)
 have hq:op = .shl∨op = .shr∨q=q':=by cases op<;>first|exact .inl rfl|exact .inr (.inl rfl)|(simp only[zzp] at hk2;split at hk2;rename_i hd;exact .inr (.inr (by simpa using hd));exact hk2.elim)
 clear hk2
 have hg:∀ w:World,(eqGuard op T x y (.int q m) (.int q' n)).run P w = .ok () w:=fun w=>by
  unfold eqGuard;split<;>simp
 have fin:∀ {r:Int},zkq q r k→(∀ w:World,(binOp op T (.int q m) (.int q' n)).run P w = .ok (.int q (q.wrap r)) w)→Quiet P β o s a k:=by
  intro r hr hb;unfold zkq at hr;split at hr
  ·exact⟨_,_,hr.ok,rfl,fun w _=>by simp[zaa,execOp,ho,he,he',hg,hb]⟩
  ·exact⟨_,_,hr,rfl,fun w _=>by simp[zaa,execOp,ho,he,he',hg,hb]⟩
 cases op<;>simp only[reduceCtorEq,false_or,true_or,or_true] at hq<;>(try subst hq)<;>simp only[ibin] at hk3
 case add=>exact fin hk3 fun w=>by simp[binOp,Op.intArith]
 case sub=>exact fin hk3 fun w=>by simp[binOp,Op.intArith]
 case mul=>exact fin hk3 fun w=>by simp[binOp,Op.intArith]
 case quo=>
  obtain⟨hz,hk3⟩:=hk3;exact fin hk3 fun w=>by simp[binOp,Op.intDiv,hz]
 case rem=>
  obtain⟨hz,hk3⟩:=hk3;exact⟨_,_,hk3,rfl,fun w _=>by simp[zaa,execOp,ho,he,he',hg,binOp,Op.intDiv,hz]⟩
 case and=>exact⟨_,_,hk3,rfl,fun w _=>by simp[zaa,execOp,ho,he,he',hg,binOp,Op.intBits,zD]⟩
 case or=>exact⟨_,_,hk3,rfl,fun w _=>by simp[zaa,execOp,ho,he,he',hg,binOp,Op.intBits,zD]⟩
 case xor=>exact⟨_,_,hk3,rfl,fun w _=>by simp[zaa,execOp,ho,he,he',hg,binOp,Op.intBits,zD]⟩
 case andNot=>exact⟨_,_,hk3,rfl,fun w _=>by simp[zaa,execOp,ho,he,he',hg,binOp,Op.intBits,zD]⟩
 case eql=>exact⟨_,_,hk3,rfl,fun w _=>by simp[zaa,execOp,ho,he,he',hg,binOp,Op.intCmp,Bool.beq_eq_decide_eq]⟩
 case neq=>exact⟨_,_,hk3,rfl,fun w _=>by simp[zaa,execOp,ho,he,he',hg,binOp,Op.intCmp,Bool.beq_eq_decide_eq,bne]⟩
 case lss=>exact⟨_,_,hk3,rfl,fun w _=>by simp[zaa,execOp,ho,he,he',hg,binOp,Op.intCmp]⟩
 case leq=>exact⟨_,_,hk3,rfl,fun w _=>by simp[zaa,execOp,ho,he,he',hg,binOp,Op.intCmp]⟩
 case gtr=>exact⟨_,_,hk3,rfl,fun w _=>by simp[zaa,execOp,ho,he,he',hg,binOp,Op.intCmp]⟩
 case geq=>exact⟨_,_,hk3,rfl,fun w _=>by simp[zaa,execOp,ho,he,he',hg,binOp,Op.intCmp]⟩
 case shl=>
  obtain⟨h0,hk3⟩:=hk3;have h0':¬n<0:=by omega
  exact⟨_,_,hk3,rfl,fun w _=>by simp[zaa,execOp,ho,he,he',hg,binOp,Op.shift,h0']⟩
 case shr=>
  obtain⟨h0,hk3⟩:=hk3;have h0':¬n<0:=by omega
  exact⟨_,_,hk3,rfl,fun w _=>by simp[zaa,execOp,ho,he,he',hg,binOp,Op.shift,h0']⟩
theorem zH5 {op:BinOp} {T U E:TypeId} {x y:Operand} (ho:o.op = .binOp op T x y U) (hu:P.underlying T=some (.pointer E)) (hf:Fr β s.fr a) (h:vq (.pnil op x y) s k):Quiet P β o s a k:=by
 obtain⟨sv,v,hk,hv,he⟩:=zl hf h
 have hg:∀ op p (w:World),(eqGuard op T x y (.pointer p) (.pointer none)).run P w = .ok () w:=fun op p w=>by
  unfold eqGuard;split<;>simp
 have hb:∀ p op',binOp op' T (.pointer p) (.pointer none)=match op' with
   | .eql=>(do pure (.bool (←Op.equal T (.pointer p) (.pointer none))))
   | .neq=>(do pure (.bool (!(←Op.equal T (.pointer p) (.pointer none)))))
   | _=>binOp op' T (.pointer p) (.pointer none):=fun p op'=>by cases op'<;>rfl
 unfold zFD at hk;split at hk
 ·simp[SV.val,SC.val] at hv;subst hv;obtain⟨sv2,v2,hk2,hv2,he2⟩:=zl hf hk
  obtain⟨p,rfl,hk3⟩:∃ p,v2 = .pointer p∧znF op p.isNone k:=by
   unfold zBn at hk2;split at hk2
   ·simp[SV.val,SC.val] at hv2;exact⟨_,hv2.symm,hk2⟩
   ·rename_i j o';simp only[SV.val,SC.val] at hv2;cases hbj:β[j]? with
    | none=>simp[hbj] at hv2
    | some b=>simp[hbj] at hv2;exact⟨_,hv2.symm,hk2⟩
   ·exact hk2.elim
  unfold znF at hk3;split at hk3
  ·exact⟨_,_,hk3,rfl,fun w _=>run_eq .eql (.inl rfl) ho he2 he (hb p) (hg _ p) (fun w=>znM 9999 hu p w) w⟩
  ·exact⟨_,_,hk3,rfl,fun w _=>run_eq .neq (.inr rfl) ho he2 he (hb p) (hg _ p) (fun w=>znM 9999 hu p w) w⟩
  ·exact hk3.elim
 ·exact hk.elim
theorem zBz {x:Operand} {i:Nat} (ho:o.op = .extract x i) (hf:Fr β s.fr a) (h:vq (.extract x i) s k):Quiet P β o s a k:=by
 obtain⟨sv,v,hk,hv,he⟩:=zl hf h;unfold zHN at hk;split at hk
 ·rename_i vs;simp[SV.val,SC.val] at hv;subst hv;obtain⟨u,hu,hk2⟩:=zal hk;refine⟨_,_,hk2,zh3 β u,fun w _=>?_⟩;have:vs[i]? = some u:=by simpa using hu
  simp[zaa,execOp,ho,he,Instr.extract,this]
 ·exact hk.elim
theorem zGm {T:TypeId} {x:Operand} {i n:Nat} {g:Bool} {fs:Array Field} {f:Field} (ho:o.op = .field T x i) (hu:P.underlying T=some (.struct fs)) (hi:fs[i]? = some f)
  (hg:ze8 P f.type=some g) (hn:zac P f.type=some n) (hgn:(g||n == 1)=true) (hf:Fr β s.fr a) (h:vq (.field g f.offset n x) s k):Quiet P β o s a k:=by
 obtain⟨sv,v,hk,hv,he⟩:=zl hf h;unfold zqm at hk;split at hk
 ·rename_i cs;obtain⟨l,hl,hk2⟩:=zal hk;obtain⟨hle,rfl⟩:=zjb hl;simp[SV.val] at hv;obtain⟨vs,hvs,rfl⟩:=hv;have hlen:=zb1 hvs
  obtain⟨sv2,hk3,hor⟩:=ziw hk2 (ze1 _ (ze2 _ hvs));rcases hor with ⟨rfl,hv⟩|⟨rfl,u,hu',hv⟩
  ·refine⟨_,_,hk3,hv,fun w _=>?_⟩
   have h1:(isAgg f.type).run P w = .ok true w:=by
    unfold ze8 at hg;simp only[isAgg,Yo];split at hg
    ·rename_i fs hu;simp[run_underlying hu]
    ·rename_i m e hu;simp[run_underlying hu]
    ·cases hg
    ·cases hg
   simp[zaa,execOp,ho,he,Instr.field,run_underlying hu,hi,asAgg,part,h1,zbe hn]
   try rw[Ycw]
   try (congr 1;omega)
  ·refine⟨_,_,hk3,hv,fun w _=>?_⟩
   have h1:(isAgg f.type).run P w = .ok false w:=by
    unfold ze8 at hg;simp only[isAgg,Yo];cases hu:P.underlying f.type with
    | none=>simp[hu] at hg
    | some d=>
     rw[hu] at hg;cases d<;>simp at hg<;>simp[run_underlying hu]
   have hn1:n=1:=by simpa using hgn
   have:vs[f.offset]? = some u:=by
    have:=congrArg (·[0]?) hu';simpa[hn1] using this
   simp[zaa,execOp,ho,he,Instr.field,run_underlying hu,hi,asAgg,part,h1,this]
 ·exact hk.elim
theorem znN (off:Nat):∀ (us:List Value) (i:Nat) (cells:Array Value),off+i+us.length≤cells.size →
  (us.zipIdx i).foldl (fun cs (p:Value×Nat)=>cs.setIfInBounds (off+p.2) p.1) cells=(zd cells.toList (off+i) us).toArray
 | [],i,cells,_=>by simp[zd]
 | u::us,i,cells,h=>by
  simp only[Ym] at h;simp only[List.zipIdx_cons,Yal];rw[znN off us (i+1) _ (by simp;omega)];apply Array.ext';simp only[zd,Array.toList_setIfInBounds,Ym];apply Yb1;intro j;simp only[Yr,List.getElem?_append,Ya2,List.length_set,Array.length_toList,Ym];rw[Ybg (by omega),Ybg (by omega)];by_cases h1:j<off+i
  ·have h2:j<off+(i+1):=by omega
   simp only[h1,h2,if_true];rw[Ya6 h2,Ya6 h1,Ydb (by omega)]
  ·by_cases h3:j=off+i
   ·subst h3;have h2:off+i<off+(i+1):=by omega
    simp only[h2,if_true,Nat.lt_irrefl,if_false,Nat.sub_self];rw[Ya6 h2,Ycp (by simp;omega)];simp
   ·have h2:¬j<off+(i+1):=by omega
    simp only[h1,h2,if_false];have e:j - (off+i)=(j - (off+(i+1)))+1:=by omega
    rw[e];have hlt:(j - (off+(i+1))+1<us.length+1)↔(j - (off+(i+1))<us.length):=by omega
    by_cases h4:j - (off+(i+1))<us.length
    ·simp[h4]
    ·simp only[hlt,h4,if_false,Ybw];rw[Ydb (by omega)];congr 1;omega
theorem zBA (place:Nat→Option (Nat×Nat)) (cells:Array Value) (i:Nat) (v:Value) (rest:List (Nat×Value)) {off n:Nat} {us:List Value} (hp:place i=some (off,n))
  (hc:v.cells=us.toArray) (hn:us.length=n) (hle:off+n≤cells.size):Instr.fill place cells ((i,v)::rest)=Instr.fill place (zd cells.toList off us).toArray rest:=by
 simp only[Instr.fill,hp,hc];have h1:us.toArray.size=n:=by simp[hn]
 rw[if_neg (by rw[h1];simp;omega)];congr 1;have:=znN off us 0 cells (by omega)
 simp only[Ybx] at this;rw[←this,←Array.foldl_toList];simp
theorem zii (hf:Fr β s.fr a) (place:Nat→Option (Nat×Nat)):∀ (parts:List (Nat×Operand)) (l:List (Nat×Nat×Operand)) (cs:List SC) (us:List Value) (k:List SC→Prop),
  parts.map (fun p=>(place p.1).map fun q=>(q.1,q.2,p.2))=l.map some→zY β cs=some us→build s l cs k →
  ∃ cs' us',k cs'∧zY β cs'=some us'∧us'.length=us.length∧Instr.fill place us.toArray (parts.map fun p=>(p.1,a.eval p.2))=some us'.toArray
 | [],[],cs,us,k,_,hv,h=>⟨cs,us,h,hv,rfl,rfl⟩
 | [],_::_,_,_,_,hm,_,_=>by simp at hm
 | _::_,[],_,_,_,hm,_,_=>by simp at hm
 | (i,x)::parts,(off,n,x')::l,cs,us,k,hm,hv,h=>by
  simp only[Yq,List.cons.injEq] at hm;obtain⟨hm0,hm⟩:=hm;cases hp:place i with
  | none=>simp[hp] at hm0
  | some q=>
   simp[hp] at hm0;obtain⟨rfl,rfl,rfl⟩:=hm0;simp only[build] at h;obtain⟨sv,v,hk,hsv,he⟩:=zl hf h;obtain⟨lc,hlc,hk⟩:=zal hk;obtain⟨cs2,hfit,hb⟩:=zal hk;rw[zbW] at hb;obtain⟨hln,hle,rfl⟩:=ztJ hfit;obtain⟨ws,hws,hcells⟩:=zqo hsv hlc;have hl1:=zb1 hws
   have hl2:=zb1 hv;obtain⟨cs',us',h1,h2,h3,h4⟩:=zii hf place parts l _ _ k hm (zpG q.1 hv hws) hb;refine⟨cs',us',h1,h2,?_,?_⟩
   ·rw[h3,ziO];omega
   ·rw[Yq];simp only[he];rw[zBA place us.toArray i v _ (off:=q.1) (n:=q.2) (us:=ws) hp hcells (by omega) (by simp;omega)];exact h4
theorem ztL {α γ:Type} {f:α→Option γ}:∀ {l:List α} {r:List γ},l.mapM f=some r→l.map f=r.map some
 | [],r,h=>by simp at h;subst h;rfl
 | x::l,r,h=>by
  simp only[List.mapM_cons,Option.bind_eq_bind,Yn] at h;obtain⟨y,hy,ys,hys,he⟩:=h;simp at he;subst he;simp[hy,ztL hys]
theorem zro (w:World):∀ (fs:List Field) (pl:List (Nat×Nat)),(fs.mapM fun f=>(zac P f.type).map fun n=>(f.offset,n))=some pl →
  (fs.mapM (fun f=>(do pure (f.offset,←sizeOf f.type):Sem (Nat×Nat)))).run P w = .ok pl w
 | [],pl,h=>by simp at h;subst h;rfl
 | f::fs,pl,h=>by
  simp only[List.mapM_cons,Option.bind_eq_bind,Yn] at h;obtain⟨y,hy,ys,hys,he⟩:=h;simp at he;subst he;simp only[Ye] at hy;obtain⟨n,hn,rfl⟩:=hy;have ih:=zro w fs ys hys
  simp only[List.mapM_cons,Yo,zbe hn,Yk,Y6,ih]
theorem zGn {T:TypeId} {parts:Array (Nat×Operand)} {z:List Value} {l:List (Nat×Nat×Operand)} (ho:o.op = .build T parts) (hz:zdJ P T=some z) (hl:zqn P T parts.toList=some l)
  (hf:Fr β s.fr a) (h:vq (.build z l) s k):Quiet P β o s a k:=by
 simp only[vq,zbW] at h;have hzero:=fun w:World=>zlR w hz
 have e:(parts.map fun (x:Nat×Operand)=>(x.1,a.eval x.2)).toList=parts.toList.map fun p=>(p.1,a.eval p.2):=by simp
 unfold zqn at hl;split at hl
 ·rename_i fs hu;simp only[Yn] at hl;obtain⟨pl,hpl,hl⟩:=hl;have hm:=ztL hl
  obtain⟨cs',us',h1,h2,h3,h4⟩:=zii hf (fun (i:Nat)=>pl[i]?) parts.toList l _ z _ hm (zeh β z) h;refine⟨_,.agg us'.toArray,h1,by simp[SV.val,h2],fun w _=>?_⟩;obtain⟨zv,hzv,hzc⟩:=hzero w;have hpr:=zro w fs.toList pl hpl
  simp only[zaa,execOp,ho,Instr.build,Yo,hzv,Yk,run_underlying hu,hzc,Array.mapM_eq_mapM_toList,Sem.run_map,hpr];have e2:(fun (x:Nat)=>pl.toArray[x]?)=fun (i:Nat)=>pl[i]? := by funext i;simp
  simp only[e,e2,h4,Y6,Yk]
 ·rename_i len E hu;cases hn:zac P E with
  | none=>simp[hn] at hl
  | some n=>
   simp[hn] at hl;obtain⟨cs',us',h1,h2,h3,h4⟩:=zii hf (fun i=>some (i*n,n)) parts.toList l _ z _ (by rw[←hl];simp) (zeh β z) h;refine⟨_,.agg us'.toArray,h1,by simp[SV.val,h2],fun w _=>?_⟩;obtain⟨zv,hzv,hzc⟩:=hzero w;simp only[zaa,execOp,ho,Instr.build,Yo,hzv,Yk,run_underlying hu,zbe hn,hzc];simp only[e,h4,Y6,Yk]
 ·cases hl
theorem zgx {sv:SV} {v:Value} {k:ByteArray→Prop} (h:zi9 sv k) (hv:sv.val β=some v):∃ b,k b∧v = .string b:=by
 unfold zi9 at h;split at h
 ·simp[SV.val,SC.val] at hv;exact⟨_,h,hv.symm⟩
 ·exact h.elim
theorem zjc {op:BinOp} {r:Bool} {k:SV→Prop} (h:znF op r k):(op = .eql∧k (.sb r))∨(op = .neq∧k (.sb !r)):=by
 unfold znF at h;split at h
 ·exact .inl ⟨rfl,h⟩
 ·exact .inr ⟨rfl,h⟩
 ·exact h.elim
theorem zhm (a b:ByteArray):decide (a=b)=(a.toList == b.toList):=by
 by_cases h:a=b
 ·subst h;simp
 ·have:¬a.toList=b.toList:=fun e=>h (by
   rw[Yck,Yck] at e;obtain⟨⟨x⟩⟩:=a;obtain⟨⟨y⟩⟩:=b;simp at e
   rw[e])
  simp[h,this]
theorem zH6 {op:BinOp} {T:TypeId} {x y:Operand} {U} (ho:o.op = .binOp op T x y U) (hf:Fr β s.fr a) (h:vq (.strE op x y) s k):Quiet P β o s a k:=by
 obtain⟨u,uv,hk,hu,he⟩:=zl hf h;obtain⟨b,hk,rfl⟩:=zgx hk hu;obtain⟨v,vv,hk,hv,he'⟩:=zl hf hk;obtain⟨c,hk,rfl⟩:=zgx hk hv;unfold zHK at hk;split at hk
 ·exact⟨_,_,hk,rfl,fun w _=>by simp[zaa,execOp,ho,he,he',eqGuard,binOp,Op.stringOp,zhm]⟩
 ·exact⟨_,_,hk,rfl,fun w _=>by simp[zaa,execOp,ho,he,he',eqGuard,binOp,Op.stringOp,zhm]⟩
 ·obtain⟨hl,hk⟩:=hk
  have hl':¬(((b.size+c.size:Nat):Int)>IntKind.i64.max):=by
   have:IntKind.i64.max=9223372036854775807:=by decide
   rw[this];omega
  refine⟨_,_,hk,rfl,fun w _=>?_⟩;simp only[zaa,execOp,ho,he,he',eqGuard,binOp,Op.stringOp];rw[if_neg hl'];simp
 ·exact⟨_,_,hk,rfl,fun w _=>by simp[zaa,execOp,ho,he,he',eqGuard,binOp,Op.stringOp]⟩
 ·exact⟨_,_,hk,rfl,fun w _=>by simp[zaa,execOp,ho,he,he',eqGuard,binOp,Op.stringOp,zhm]⟩
 ·exact⟨_,_,hk,rfl,fun w _=>by simp[zaa,execOp,ho,he,he',eqGuard,binOp,Op.stringOp,zhm]⟩
 ·exact⟨_,_,hk,rfl,fun w _=>by simp[zaa,execOp,ho,he,he',eqGuard,binOp,Op.stringOp]⟩
 ·exact hk.elim
theorem zBB (b:ByteArray) {j:Int} (h:0≤j∧j<b.size):b[j.toNat]? = some (b.toList.getD j.toNat 0):=by
 have hlt:j.toNat<b.size:=by omega
 rw[getElem?_pos b j.toNat hlt,Yck];have h2:j.toNat<b.data.toList.length:=by simpa using hlt
 rw[Ys,Yb h2];rfl
theorem zH7 {T:TypeId} {x i:Operand} (ho:o.op = .index T x i) (hu:P.underlying T=some .string) (hf:Fr β s.fr a) (h:vq (.sidx x i) s k):Quiet P β o s a k:=by
 obtain⟨u,uv,hk,hu1,he⟩:=zl hf h;obtain⟨b,hk,rfl⟩:=zgx hk hu1;obtain⟨q,j,hk,he'⟩:=zas hf hk;obtain⟨hj,hk⟩:=hk;refine⟨_,_,hk,rfl,fun w _=>?_⟩;simp only[zaa,execOp,ho,he,he',Instr.index,asIntOf,Yo,Y6,Yk,run_underlying hu];rw[if_pos hj.1,zBB b hj];rfl
theorem zks {x:Value} {q:IntKind} {j:Int} {y:Nat} {code:BoundsCode} (hx:x = .int q j) (h:0≤j∧j≤y) (w:World):(Instr.sliceBound x y code).run P w = .ok j.toNat w:=by
 subst hx;simp only[Instr.sliceBound,asIntOf,Yo,Y6,Yk];rw[if_pos h];rfl
theorem zJo {T:TypeId} {x:Operand} {lo hi:Option Operand} (ho:o.op = .slice T x lo hi none) (hu:P.underlying T=some .string) (hf:Fr β s.fr a) (h:vq (.ssl x lo hi) s k):Quiet P β o s a k:=by
 obtain⟨u,uv,hk,hu1,he⟩:=zl hf h;obtain⟨b,hk,rfl⟩:=zgx hk hu1;have hnp:∀ E,P.underlying T≠some (.pointer E):=fun E=>by rw[hu];simp
 cases lo with
 | none=>
  cases hi with
  | none=>
   obtain⟨⟨h1,h2,h3⟩,hk⟩:=hk;refine⟨_,_,hk,rfl,fun w _=>?_⟩;simp[zaa,execOp,ho,he,Instr.sliceAt,Instr.slice,Instr.sliceBounds,Yo,Y6,run_underlying hu]
  | some y=>
   obtain⟨q,j,hk,he'⟩:=zas hf hk;obtain⟨⟨h1,h2,h3⟩,hk⟩:=hk;refine⟨_,_,hk,rfl,fun w _=>?_⟩;simp[zaa,execOp,ho,he,he',Instr.sliceAt,Instr.slice,Instr.sliceBounds,Yo,run_underlying hu,zks rfl ⟨h2,h3⟩]
 | some z=>
  obtain⟨q',l,hk,hel⟩:=zas hf hk;cases hi with
  | none=>
   obtain⟨⟨h1,h2,h3⟩,hk⟩:=hk;refine⟨_,_,hk,rfl,fun w _=>?_⟩;simp[zaa,execOp,ho,he,hel,Instr.sliceAt,Instr.slice,Instr.sliceBounds,Yo,run_underlying hu,zks rfl ⟨h1,h2⟩]
  | some y=>
   obtain⟨q,j,hk,he'⟩:=zas hf hk;obtain⟨⟨h1,h2,h3⟩,hk⟩:=hk;have h0:(0:Int)≤j:=by omega
   have h4:l≤(j.toNat:Nat):=by omega
   refine⟨_,_,hk,rfl,fun w _=>?_⟩;simp[zaa,execOp,ho,he,he',hel,Instr.sliceAt,Instr.slice,Instr.sliceBounds,Yo,run_underlying hu,zks rfl ⟨h0,h3⟩,zks rfl ⟨h1,h4⟩]
theorem zFK {mx:Bool} {x y:Operand} {ts:Array TypeId} (ho:o.op = .call { callee := .builtin (if mx then .max else .min),args := #[x,y],argTypes:=ts }) (hf:Fr β s.fr a) (h:vq (.imm mx x y) s k):Quiet P β o s a k:=by
 obtain⟨q,m,hk,he⟩:=zas hf h;obtain⟨q',n,hk,he'⟩:=zas hf hk;cases mx with
 | true=>
  have hm:max m n=if n>m then n else m:=by split<;>omega
  exact⟨_,_,hk,rfl,fun w _=>by simp[zaa,execOp,ho,resolve,invoke,builtin,Builtin.max_,Builtin.max2,he,he',hm]⟩
 | false=>
  have hm:min m n=if n<m then n else m:=by split<;>omega
  exact⟨_,_,hk,rfl,fun w _=>by simp[zaa,execOp,ho,resolve,invoke,builtin,Builtin.min_,Builtin.min2,he,he',hm]⟩
theorem zGo {S T E:TypeId} {x:Operand} (ho:o.op = .convert S T x) (hS:P.underlying S=some (.slice E)) (hE:P.underlying E=some (.int .u8)) (hT:P.underlying T=some .string)
  (hf:Fr β s.fr a) (h:vq (.strOf x) s k):Quiet P β o s a k true:=by
 obtain⟨p,n,c,hk,he⟩:=ze0 hf h;obtain⟨bs,⟨hl,hsrc⟩,hk⟩:=hk;refine⟨_,_,hk,rfl,fun w hr=>?_⟩;have hr:=hr rfl
 simp at hl;subst hl;simp only[zaa,execOp,ho,he,Yo];rcases hsrc with hbs|⟨b,o',rfl,hrow⟩
 ·have:bs=[]:=by simpa using hbs
  subst this;cases p with
  | none=>
   rw[run_convert_bytes_string w S T E none _ _ hS hE hT];simp[Conv.bytesToString];rfl
  | some q=>
   rw[run_convert_bytes_back w S T E q c [] hS hE hT (fun j hj=>by simp at hj)];rfl
 ·rw[run_convert_bytes_back w S T E ⟨b,o',none⟩ c bs hS hE hT ?_]
  ·rfl
  ·intro j hj;obtain⟨cs,e,fz,hh,hle,hvs⟩:=zjI hr.M hrow;rw[zb7,zg9 hh];have:=congrArg (·[j]?) hvs
   simp[hj,zc] at this;exact this.symm
theorem zJp {T E:TypeId} {x:Operand} {lo hi:Option Operand} {n:Nat} (ho:o.op = .slice T x lo hi none) (hu:P.underlying T=some (.slice E)) (hn:zac P E=some n)
  (hf:Fr β s.fr a) (h:vq (.slx n x lo hi) s k):Quiet P β o s a k:=by
 obtain⟨p,m,c,hk,he⟩:=ze0 hf h;have hel:P.elem T=E:=by simp[Program.elem,hu]
 have hu':P.underlying T=some (.slice (P.elem T)):=by rw[hel];exact hu
 have hsz:∀ w,(sizeOf (P.elem T)).run P w = .ok n w:=fun w=>by rw[hel];exact zbe hn w
 cases lo with
 | none=>
  cases hi with
  | none=>
   obtain⟨⟨h1,h2,h3⟩,hk⟩:=hk;refine⟨_,_,hk,rfl,fun w _=>?_⟩;simp[zaa,execOp,ho,he,run_sliceAt_slice _ _ _ _ _ _ hu',run_slice_all _ _ _ _ _ hu',hsz,sliced,subA]
  | some y=>
   obtain⟨q,h,hk,he'⟩:=zas hf hk;obtain⟨⟨h1,h2,h3⟩,hk⟩:=hk;refine⟨_,_,hk,rfl,fun w _=>?_⟩;simp[zaa,execOp,ho,he,he',run_sliceAt_slice _ _ _ _ _ _ hu',run_slice_h _ _ _ _ _ hu' _ _ h2 h3,hsz,sliced,subA]
 | some z=>
  obtain⟨q',l,hk,hel⟩:=zas hf hk;cases hi with
  | none=>
   obtain⟨⟨h1,h2,h3⟩,hk⟩:=hk;refine⟨_,_,hk,rfl,fun w _=>?_⟩;simp[zaa,execOp,ho,he,hel,run_sliceAt_slice _ _ _ _ _ _ hu',run_slice_l _ _ _ _ _ hu' _ _ h1 h2,hsz,sliced,subA]
  | some y=>
   obtain⟨q,h,hk,he'⟩:=zas hf hk;obtain⟨⟨h1,h2,h3⟩,hk⟩:=hk;refine⟨_,_,hk,rfl,fun w _=>?_⟩;simp[zaa,execOp,ho,he,he',hel,run_sliceAt_slice _ _ _ _ _ _ hu',run_slice_lh _ _ _ _ _ hu' _ _ _ _ h1 h2 h3,hsz,sliced,subA]
theorem zH8 {T E:TypeId} {x lo hi mx:Operand} {n:Nat} (ho:o.op = .slice T x (some lo) (some hi) (some mx)) (hu:P.underlying T=some (.slice E)) (hn:zac P E=some n)
  (hf:Fr β s.fr a) (h:vq (.slx3 n x lo hi mx) s k):Quiet P β o s a k:=by
 obtain⟨p,m,c,hk,he⟩:=ze0 hf h;obtain⟨q1,l,hk,he1⟩:=zas hf hk;obtain⟨q2,h,hk,he2⟩:=zas hf hk;obtain⟨q3,t,hk,he3⟩:=zas hf hk;obtain⟨⟨h1,h2,h3,h4⟩,hk⟩:=hk;have hel:P.elem T=E:=by simp[Program.elem,hu]
 have hu':P.underlying T=some (.slice (P.elem T)):=by rw[hel];exact hu
 have b1:0≤t∧t≤(c:Int):=⟨by omega,h4⟩
 have b2:0≤h∧h≤((t.toNat:Nat):Int):=⟨by omega,by omega⟩
 have b3:0≤l∧l≤((h.toNat:Nat):Int):=⟨by omega,by omega⟩
 have b4:h≤max t 0:=by omega
 have b5:l≤max h 0:=by omega
 refine⟨_,_,hk,rfl,fun w _=>?_⟩;simp[zaa,execOp,ho,he,he1,he2,he3,run_sliceAt_slice _ _ _ _ _ _ hu',Instr.slice,run_underlying hu,Instr.sliceBounds,Instr.sliceBound,asIntOf,b1,b2,b3,b4,b5,zbe hn,subA]
theorem zGp {T E:TypeId} {x hi mx:Operand} {n:Nat} (ho:o.op = .slice T x none (some hi) (some mx)) (hu:P.underlying T=some (.slice E)) (hn:zac P E=some n)
  (hf:Fr β s.fr a) (h:vq (.slx3 n x (.const (.int .i64 0)) hi mx) s k):Quiet P β o s a k:=by
 obtain⟨p,m,c,hk,he⟩:=ze0 hf h;obtain⟨q1,l,hk,he1⟩:=zas hf hk
 have hl0:l=0:=by
  have:a.eval (.const (.int .i64 0)) = .int .i64 0:=rfl;rw[this] at he1;cases he1;rfl
 subst hl0;obtain⟨q2,h,hk,he2⟩:=zas hf hk;obtain⟨q3,t,hk,he3⟩:=zas hf hk;obtain⟨⟨h1,h2,h3,h4⟩,hk⟩:=hk;have hel:P.elem T=E:=by simp[Program.elem,hu]
 have hu':P.underlying T=some (.slice (P.elem T)):=by rw[hel];exact hu
 have b1:0≤t∧t≤(c:Int):=⟨by omega,h4⟩
 have b2:0≤h∧h≤((t.toNat:Nat):Int):=⟨by omega,by omega⟩
 have b4:h≤max t 0:=by omega
 refine⟨_,_,hk,rfl,fun w _=>?_⟩;simp[zaa,execOp,ho,he,he2,he3,run_sliceAt_slice _ _ _ _ _ _ hu',Instr.slice,run_underlying hu,Instr.sliceBounds,Instr.sliceBound,asIntOf,b1,b2,b4,zbe hn,subA]
theorem zGq {op:BinOp} {T E:TypeId} {x y:Operand} {U} (ho:o.op = .binOp op T x y U) (hT:P.underlying T=some (.slice E)) (hf:Fr β s.fr a) (h:vq (.slnil op x y) s k):Quiet P β o s a k:=by
 obtain⟨u,uv,hk,hu,he⟩:=zl hf h;unfold zBo at hk;split at hk
 ·rename_i n' c';simp[SV.val,SC.val] at hu;subst hu;obtain⟨sv,v,hk,hv,he'⟩:=zl hf hk
  have key:∀ (p:Option Addr) (m c:Nat),v = .slice p m c→znF op p.isNone k→Quiet P β o s a k:=by
   rintro p m c rfl hk
   have hb:∀ op',binOp op' T (.slice p m c) (.slice none n' c')=match op' with
     | .eql=>(do pure (.bool (←Op.equal T (.slice p m c) (.slice none n' c'))))
     | .neq=>(do pure (.bool (!(←Op.equal T (.slice p m c) (.slice none n' c')))))
     | _=>binOp op' T (.slice p m c) (.slice none n' c'):=fun op'=>by cases op'<;>rfl
   rcases zjc hk with ⟨rfl,hk⟩|⟨rfl,hk⟩
   ·exact⟨_,_,hk,rfl,fun w _=>run_eq .eql (.inl rfl) ho he' he hb (fun w=>by rw[eqGuard_at_slice];rfl) (fun w=>Lib.run_equalIn_slice_nil w 9999 T E p m c n' c' hT) w⟩
   ·exact⟨_,_,hk,rfl,fun w _=>run_eq .neq (.inr rfl) ho he' he hb (fun w=>by rw[eqGuard_at_slice];rfl) (fun w=>Lib.run_equalIn_slice_nil w 9999 T E p m c n' c' hT) w⟩
  unfold zFE at hk;split at hk
  ·simp[SV.val,SC.val] at hv;exact key _ _ _ hv.symm hk
  ·simp[SV.val] at hv;obtain⟨b,_,rfl⟩:=hv;exact key _ _ _ rfl hk
  ·exact hk.elim
 ·exact hk.elim
theorem ziy {x y:SC} {k:Bool→Prop} (h:eqC x y k):∃ q m n,x = .v (.int q m)∧y = .v (.int q n)∧k (decide (m=n)):=by
 unfold eqC at h;split at h
 ·split at h
  ·rename_i hq;have hq:=Zd0 hq
   subst hq;exact⟨_,_,_,rfl,rfl,h⟩
  ·exact h.elim
 ·exact h.elim
theorem zlV {T:TypeId} {q:IntKind} (hu:P.underlying T=some (.int q)) (xs:Array Value) (i:Nat) {v:Value} (h:xs[i]? = some v) (w:World):(part T xs i).run P w = .ok v w:=by
 have h1:(isAgg T).run P w = .ok false w:=by
  simp[isAgg,run_underlying hu]
 simp only[part,Yo,h1,Yk,Ybp,if_false,h];rfl
theorem zrp (d:Nat) {xs ys:List Value}:∀ (cs ds:List SC) (i:Nat) (fs:List Field) (us vs:List Value) {k:Bool→Prop},zfq cs ds k→zY β cs=some us→zY β ds=some vs →
  zdh P i fs=true→us=xs.drop i→vs=ys.drop i→fs.length=cs.length →
  ∃ r,k r∧∀ w:World,(Op.eqFields (d+1) xs.toArray ys.toArray fs).run P w = .ok r w:=by
 intro cs
 induction cs with
 | nil=>
  intro ds i fs us vs k h hu hv hi e1 e2 hl;cases ds with
  | nil=>
   have:fs=[]:=by simpa using hl
   subst this;exact⟨true,h,fun w=>by simp[Op.eqFields]⟩
  | cons=>exact h.elim
 | cons c cs ih=>
  intro ds i fs us vs k h hu hv hi e1 e2 hl;cases ds with
  | nil=>exact h.elim
  | cons e ds=>
   have h1:eqC c e (fun t=>zfq cs ds fun t'=>k (t&&t')):=h;obtain⟨q,m,n,rfl,rfl,h2⟩:=ziy h1;cases fs with
   | nil=>simp at hl
   | cons f fs=>
    simp only[zdh,Yl,bne_iff_ne,ne_eq,beq_iff_eq] at hi;obtain⟨⟨⟨hn,ho⟩,hint⟩,hi⟩:=hi;simp only[zY,SC.val] at hu hv;cases hcu:zY β cs with
    | none=>simp[hcu] at hu
    | some us'=>
    cases hdv:zY β ds with
    | none=>simp[hdv] at hv
    | some vs'=>
    simp[hcu] at hu;simp[hdv] at hv
    have g1:xs[i]? = some (.int q m):=by
     have:=congrArg (·[0]?) e1;simp[←hu] at this;exact this.symm
    have g2:ys[i]? = some (.int q n):=by
     have:=congrArg (·[0]?) e2;simp[←hv] at this;exact this.symm
    have g3:us'=xs.drop (i+1):=by
     have:=congrArg (·.drop 1) e1;simpa[←hu] using this
    have g4:vs'=ys.drop (i+1):=by
     have:=congrArg (·.drop 1) e2;simpa[←hv] using this
    obtain⟨r,hk,hrun⟩:=ih ds (i+1) fs us' vs' h2 hcu hdv hi g3 g4 (by simpa using hl);split at hint
    ·rename_i q' hq';refine⟨_,hk,fun w=>?_⟩;have p1:=zlV hq' xs.toArray i (by simpa using g1) w
     have p2:=zlV hq' ys.toArray i (by simpa using g2) w;have p3:=run_equalIn_int w d f.type q q' m n hq'
     simp only[Op.eqFields,hn,ne_eq,not_false_eq_true,if_true,ho,Yo,p1,p2,p3,Yk];by_cases hmn:m=n
     ·subst hmn;simp[hrun]
     ·simp[hmn]
    ·cases hint
theorem zei {m n:Nat} {A:Prop} (h:ziN m n A):m=n∧A:=by
 unfold ziN at h;split at h
 ·exact⟨Ya9 ‹_›, h⟩
 ·exact h.elim
theorem ze9 {sv:SV} {v:Value} {k:List SC→Prop} (h:zqm sv k) (hv:sv.val β=some v):∃ cs vs,k cs∧zY β cs=some vs∧v = .agg vs.toArray:=by
 unfold zqm at h;split at h
 ·simp[SV.val] at hv;obtain⟨vs,h1,rfl⟩:=hv;exact⟨_,vs,h,h1,rfl⟩
 ·exact h.elim
theorem zJq {op:BinOp} {T:TypeId} {fs:Array Field} {x y:Operand} {U} (ho:o.op = .binOp op T x y U) (hT:P.underlying T=some (.struct fs)) (hi:zdh P 0 fs.toList=true) (hs:P.stoodInHeld T=false)
  (hg:P.eqGuardType P.depth T=false) (hf:Fr β s.fr a) (h:vq (.aeq op fs.toList.length x y) s k):Quiet P β o s a k:=by
 obtain⟨u,uv,hk,hu,he⟩:=zl hf h;obtain⟨cs,us,hk,hus,rfl⟩:=ze9 hk hu;obtain⟨hl,hk⟩:=zei hk;obtain⟨v,vv,hk,hv,he'⟩:=zl hf hk;obtain⟨ds,vs,hk,hvs,rfl⟩:=ze9 hk hv;have hfo:P.fieldsOf T=fs:=by simp[Program.fieldsOf,hT]
 have hT':P.underlying T=some (.struct (P.fieldsOf T)):=by rw[hfo];exact hT
 obtain⟨r,hk1,hr1⟩:=zrp (P:=P) 9998 (xs:=us) (ys:=vs) cs ds 0 fs.toList us vs hk hus hvs hi rfl rfl hl.symm
 have hb:∀ op',binOp op' T (.agg us.toArray) (.agg vs.toArray)=match op' with
   | .eql=>(do pure (.bool (←Op.equal T (.agg us.toArray) (.agg vs.toArray))))
   | .neq=>(do pure (.bool (!(←Op.equal T (.agg us.toArray) (.agg vs.toArray)))))
   | _=>binOp op' T (.agg us.toArray) (.agg vs.toArray):=fun op'=>by cases op'<;>rfl
 have hq:∀ w:World,(Op.equal T (.agg us.toArray) (.agg vs.toArray)).run P w = .ok r w:=fun w=>by
  have:=run_equalIn_struct (P:=P) w 9999 T us.toArray vs.toArray hT' hs;rw[hfo,hr1 w] at this;exact this
 rcases zjc hk1 with ⟨rfl,hk2⟩|⟨rfl,hk2⟩
 ·exact⟨_,_,hk2,rfl,fun w _=>run_eq .eql (.inl rfl) ho he he' hb (fun w=>run_eqGuard_agg w _ T x y _ _ hg) hq w⟩
 ·exact⟨_,_,hk2,rfl,fun w _=>run_eq .neq (.inr rfl) ho he he' hb (fun w=>run_eqGuard_agg w _ T x y _ _ hg) hq w⟩
theorem zvv:∀ {cs ds:List SC} {k:Bool→Prop},zfq cs ds k→cs.length=ds.length
 | [],[],_,_=>rfl
 | [],_::_,_,h=>h.elim
 | _::_,[],_,h=>h.elim
 | c::cs,e::ds,k,h=>by
  have h1:eqC c e (fun t=>zfq cs ds fun t'=>k (t&&t')):=h;obtain⟨_,_,_,_,_,h2⟩:=ziy h1;simp[zvv h2]
theorem zrq:∀ (m:Nat) {cs ds:List SC} {k:Bool→Prop},zfq cs ds k→zfq (cs.take m) (ds.take m) fun r1=>zfq (cs.drop m) (ds.drop m) fun r2=>k (r1&&r2)
 | 0,cs,ds,k,h=>by
  show zfq [] [] _;show zfq (cs.drop 0) (ds.drop 0) _
  simpa using h
 | m+1,[],[],k,h=>h
 | m+1,[],_::_,k,h=>h.elim
 | m+1,_::_,[],k,h=>h.elim
 | m+1,c::cs,e::ds,k,h=>by
  have h1:eqC c e (fun t=>zfq cs ds fun t'=>k (t&&t')):=h;show eqC c e (fun t=>zfq (cs.take m) (ds.take m) fun t'=>zfq (cs.drop m) (ds.drop m) fun r2=>k ((t&&t')&&r2))
  obtain⟨q,a,b,rfl,rfl,h2⟩:=ziy h1;have h3:=zrq m h2
  unfold eqC;simp only[decide_true, ↓reduceDIte];simpa[Bool.and_assoc] using h3
theorem zgH {P:Program}:∀ {fs:List Field} {i n:Nat},zda P i fs=some n→i≤n
 | [],i,n,h=>by simp[zda] at h;omega
 | f::r,i,n,h=>by
  unfold zda at h;split at h
  ·split at h
   ·have:=zgH h;omega
   ·cases hs:zzB P f.type with
    | none=>simp[hs] at h
    | some m=>simp[hs] at h;have:=zgH h;omega
   ·cases h
  ·cases h
theorem zpL {T:TypeId} {fs:Array Field} (hu:P.underlying T=some (.struct fs)) {n:Nat} (hn:zac P T=some n) (xs:Array Value) (i:Nat) (w:World):(part T xs i).run P w = .ok (.agg (xs.extract i (i+n))) w:=by
 have h1:(isAgg T).run P w = .ok true w:=by
  simp[isAgg,run_underlying hu]
 simp[part,h1,zbe hn]
theorem zkW (d:Nat) {xs ys:List Value}:∀ (fs:List Field) (cs ds:List SC) (i n:Nat) (us vs:List Value) {k:Bool→Prop},zda P i fs=some n→zfq cs ds k→zY β cs=some us→zY β ds=some vs →
  us=xs.drop i→vs=ys.drop i→i+cs.length=n →
  ∃ r,k r∧∀ w:World,(Op.eqFields (d+2) xs.toArray ys.toArray fs).run P w = .ok r w
 | [],cs,ds,i,n,us,vs,k,hi,h,hu,hv,e1,e2,hl=>by
  simp[zda] at hi
  have hc:cs=[]:=by
   cases cs with
   | nil=>rfl
   | cons=>simp at hl;omega
  subst hc;cases ds with
  | nil=>exact⟨true,h,fun w=>by simp[Op.eqFields]⟩
  | cons=>exact h.elim
 | f::fs,cs,ds,i,n,us,vs,k,hi,h,hu,hv,e1,e2,hl=>by
  unfold zda at hi;split at hi
  case isFalse=>cases hi
  rename_i hno;simp only[Yl,bne_iff_ne,ne_eq,beq_iff_eq] at hno;obtain⟨hnm,ho⟩:=hno;split at hi
  ·rename_i q' hq';have hle:=zgH hi
   cases cs with
   | nil=>simp at hl;omega
   | cons c cs=>
   cases ds with
   | nil=>exact h.elim
   | cons e ds=>
   have h1:eqC c e (fun t=>zfq cs ds fun t'=>k (t&&t')):=h;obtain⟨q,m,m',rfl,rfl,h2⟩:=ziy h1;simp only[zY,SC.val] at hu hv;cases hcu:zY β cs with
   | none=>simp[hcu] at hu
   | some us'=>
   cases hdv:zY β ds with
   | none=>simp[hdv] at hv
   | some vs'=>
   simp[hcu] at hu;simp[hdv] at hv
   have g1:xs[i]? = some (.int q m):=by
    have:=congrArg (·[0]?) e1;simp[←hu] at this;exact this.symm
   have g2:ys[i]? = some (.int q m'):=by
    have:=congrArg (·[0]?) e2;simp[←hv] at this;exact this.symm
   have g3:us'=xs.drop (i+1):=by
    have:=congrArg (·.drop 1) e1;simpa[←hu] using this
   have g4:vs'=ys.drop (i+1):=by
    have:=congrArg (·.drop 1) e2;simpa[←hv] using this
   obtain⟨r,hk,hrun⟩:=zkW d fs cs ds (i+1) n us' vs' hi h2 hcu hdv g3 g4 (by simp at hl;omega);refine⟨_,hk,fun w=>?_⟩;have p1:=zlV hq' xs.toArray i (by simpa using g1) w
   have p2:=zlV hq' ys.toArray i (by simpa using g2) w;have p3:=run_equalIn_int w (d+1) f.type q q' m m' hq'
   simp only[Op.eqFields,hnm,ne_eq,not_false_eq_true,if_true,ho,Yo,p1,p2,p3,Yk];by_cases hmn:m=m'
   ·subst hmn;simp[hrun]
   ·simp[hmn]
  ·rename_i gs hgs;cases hs:zzB P f.type with
   | none=>simp[hs] at hi
   | some m=>
   simp only[hs,Ybf] at hi;unfold zzB at hs;rw[hgs] at hs;dsimp only at hs;split at hs
   case isFalse=>cases hs
   rename_i hc;simp only[Yl,Yah,beq_iff_eq] at hc;obtain⟨⟨c1,c2⟩,c3⟩:=hc;obtain rfl:gs.toList.length=m:=by simpa using hs
   have hle:=zgH hi;obtain⟨m,hm⟩:∃ m,m=gs.toList.length:=⟨_,rfl⟩
   rw[←hm] at hi hle c3;have hdl:=zvv h
   have h2:=zrq m h;have hu1:=ze1 m hu
   have hv1:=ze1 m hv;obtain⟨r1,hk1,hr1⟩:=zrp (P:=P) d (xs:=us.take m) (ys:=vs.take m) (cs.take m) (ds.take m) 0 gs.toList (us.take m) (vs.take m) h2 hu1 hv1 c1 rfl rfl (by rw[Ya2];omega);obtain⟨r2,hk2,hr2⟩:=zkW d fs (cs.drop m) (ds.drop m) (i+m) n (us.drop m) (vs.drop m) hi hk1 (ze2 m hu) (ze2 m hv) (by rw[e1,Ybo]) (by rw[e2,Ybo]) (by rw[Ydc];omega);refine⟨_,hk2,fun w=>?_⟩;have p1:=zpL hgs c3 xs.toArray i w
   have p2:=zpL hgs c3 ys.toArray i w;have x1:xs.toArray.extract i (i+m)=(us.take m).toArray:=by rw[e1];simp[Ycw]
   have x2:ys.toArray.extract i (i+m)=(vs.take m).toArray:=by rw[e2];simp[Ycw]
   have hfo:P.fieldsOf f.type=gs:=by simp[Program.fieldsOf,hgs]
   have p3:=run_equalIn_struct (P:=P) w (d+1) f.type (us.take m).toArray (vs.take m).toArray (by rw[hfo];exact hgs) c2;rw[hfo,hr1 w] at p3;simp only[Op.eqFields,hnm,ne_eq,not_false_eq_true,if_true,ho,Yo,p1,p2,x1,x2,p3,Yk];cases r1
   ·simp
   ·simp[hr2]
  ·cases hi
theorem zH9 {op:BinOp} {T:TypeId} {fs:Array Field} {n:Nat} {x y:Operand} {U} (ho:o.op = .binOp op T x y U) (hT:P.underlying T=some (.struct fs)) (hi:zda P 0 fs.toList=some n) (hs:P.stoodInHeld T=false)
  (hg:P.eqGuardType P.depth T=false) (hf:Fr β s.fr a) (h:vq (.aeq op n x y) s k):Quiet P β o s a k:=by
 obtain⟨u,uv,hk,hu,he⟩:=zl hf h;obtain⟨cs,us,hk,hus,rfl⟩:=ze9 hk hu;obtain⟨hl,hk⟩:=zei hk;obtain⟨v,vv,hk,hv,he'⟩:=zl hf hk;obtain⟨ds,vs,hk,hvs,rfl⟩:=ze9 hk hv;have hfo:P.fieldsOf T=fs:=by simp[Program.fieldsOf,hT]
 have hT':P.underlying T=some (.struct (P.fieldsOf T)):=by rw[hfo];exact hT
 obtain⟨r,hk1,hr1⟩:=zkW (P:=P) 9997 (xs:=us) (ys:=vs) fs.toList cs ds 0 n us vs hi hk hus hvs rfl rfl (by omega)
 have hb:∀ op',binOp op' T (.agg us.toArray) (.agg vs.toArray)=match op' with
   | .eql=>(do pure (.bool (←Op.equal T (.agg us.toArray) (.agg vs.toArray))))
   | .neq=>(do pure (.bool (!(←Op.equal T (.agg us.toArray) (.agg vs.toArray)))))
   | _=>binOp op' T (.agg us.toArray) (.agg vs.toArray):=fun op'=>by cases op'<;>rfl
 have hq:∀ w:World,(Op.equal T (.agg us.toArray) (.agg vs.toArray)).run P w = .ok r w:=fun w=>by
  have:=run_equalIn_struct (P:=P) w 9999 T us.toArray vs.toArray hT' hs;rw[hfo,hr1 w] at this;exact this
 rcases zjc hk1 with ⟨rfl,hk2⟩|⟨rfl,hk2⟩
 ·exact⟨_,_,hk2,rfl,fun w _=>run_eq .eql (.inl rfl) ho he he' hb (fun w=>run_eqGuard_agg w _ T x y _ _ hg) hq w⟩
 ·exact⟨_,_,hk2,rfl,fun w _=>run_eq .neq (.inr rfl) ho he he' hb (fun w=>run_eqGuard_agg w _ T x y _ _ hg) hq w⟩
theorem zxq (d:Nat) {e:TypeId} {q0:IntKind} (he:P.underlying e=some (.int q0)) {xs ys:List Value}:∀ (cs ds:List SC) (i:Nat) (us vs:List Value) {k:Bool→Prop},zfq cs ds k→zY β cs=some us→zY β ds=some vs →
  us=xs.drop i→vs=ys.drop i →
  ∃ r,k r∧∀ w:World,(Op.eqItems (d+1) e 1 xs.toArray ys.toArray (List.range' i cs.length)).run P w = .ok r w:=by
 intro cs
 induction cs with
 | nil=>
  intro ds i us vs k h hu hv e1 e2;cases ds with
  | nil=>exact⟨true,h,fun w=>by simp[Op.eqItems]⟩
  | cons=>exact h.elim
 | cons c cs ih=>
  intro ds i us vs k h hu hv e1 e2;cases ds with
  | nil=>exact h.elim
  | cons e' ds=>
   have h1:eqC c e' (fun t=>zfq cs ds fun t'=>k (t&&t')):=h;obtain⟨q,m,n,rfl,rfl,h2⟩:=ziy h1;simp only[zY,SC.val] at hu hv;cases hcu:zY β cs with
   | none=>simp[hcu] at hu
   | some us'=>
   cases hdv:zY β ds with
   | none=>simp[hdv] at hv
   | some vs'=>
   simp[hcu] at hu;simp[hdv] at hv
   have g1:xs[i]? = some (.int q m):=by
    have:=congrArg (·[0]?) e1;simp[←hu] at this;exact this.symm
   have g2:ys[i]? = some (.int q n):=by
    have:=congrArg (·[0]?) e2;simp[←hv] at this;exact this.symm
   have g3:us'=xs.drop (i+1):=by
    have:=congrArg (·.drop 1) e1;simpa[←hu] using this
   have g4:vs'=ys.drop (i+1):=by
    have:=congrArg (·.drop 1) e2;simpa[←hv] using this
   obtain⟨r,hk,hrun⟩:=ih ds (i+1) us' vs' h2 hcu hdv g3 g4;refine⟨_,hk,fun w=>?_⟩;have p1:=zdi he xs.toArray i (by simpa using g1) w
   have p2:=zdi he ys.toArray i (by simpa using g2) w;have p3:=run_equalIn_int w d e q q0 m n he
   simp only[Ym,List.range'_succ,Op.eqItems,Ybi,Yo,p1,p2,p3,Yk];by_cases hmn:m=n
   ·subst hmn;simp[hrun]
   ·simp[hmn]
theorem zIa {op:BinOp} {T E:TypeId} {n:Nat} {q0:IntKind} {x y:Operand} {U} (ho:o.op = .binOp op T x y U) (hT:P.underlying T=some (.array n E)) (hE:P.underlying E=some (.int q0)) (hs:zac P E=some 1)
  (hg:P.eqGuardType P.depth T=false) (hf:Fr β s.fr a) (h:vq (.aeq op n x y) s k):Quiet P β o s a k:=by
 obtain⟨u,uv,hk,hu,he⟩:=zl hf h;obtain⟨cs,us,hk,hus,rfl⟩:=ze9 hk hu;obtain⟨hl,hk⟩:=zei hk;obtain⟨v,vv,hk,hv,he'⟩:=zl hf hk;obtain⟨ds,vs,hk,hvs,rfl⟩:=ze9 hk hv
 obtain⟨i,hi,hsz⟩:∃ i,P.info? E=some i∧i.size=1:=by
  unfold zac at hs;cases hi:P.info? E with
  | none=>simp[hi] at hs
  | some i=>simp[hi] at hs;exact⟨i,rfl,hs⟩
 have hco:P.cellsOf E=1:=by simp[Program.cellsOf,hi,hsz]
 obtain⟨r,hk1,hr1⟩:=zxq (P:=P) 9998 hE (xs:=us) (ys:=vs) cs ds 0 us vs hk hus hvs rfl rfl
 have hb:∀ op',binOp op' T (.agg us.toArray) (.agg vs.toArray)=match op' with
   | .eql=>(do pure (.bool (←Op.equal T (.agg us.toArray) (.agg vs.toArray))))
   | .neq=>(do pure (.bool (!(←Op.equal T (.agg us.toArray) (.agg vs.toArray)))))
   | _=>binOp op' T (.agg us.toArray) (.agg vs.toArray):=fun op'=>by cases op'<;>rfl
 have hq:∀ w:World,(Op.equal T (.agg us.toArray) (.agg vs.toArray)).run P w = .ok r w:=fun w=>by
  have:=run_equalIn_array (P:=P) w 9999 us.toArray vs.toArray hT hi;rw[hco] at this;have h2:=hr1 w
  rw[hl,←List.range_eq_range'] at h2;rw[h2] at this;exact this
 rcases zjc hk1 with ⟨rfl,hk2⟩|⟨rfl,hk2⟩
 ·exact⟨_,_,hk2,rfl,fun w _=>run_eq .eql (.inl rfl) ho he he' hb (fun w=>run_eqGuard_agg w _ T x y _ _ hg) hq w⟩
 ·exact⟨_,_,hk2,rfl,fun w _=>run_eq .neq (.inr rfl) ho he he' hb (fun w=>run_eqGuard_agg w _ T x y _ _ hg) hq w⟩
theorem zIb {T E:TypeId} {x i:Operand} {len n:Nat} {g:Bool} (ho:o.op = .index T x i) (hu:P.underlying T=some (.array len E))
  (hg:ze8 P E=some g) (hn:zac P E=some n) (hgn:(g||n == 1)=true) (hf:Fr β s.fr a) (h:vq (.aidx g len n x i) s k):Quiet P β o s a k:=by
 obtain⟨q,j,hk,hei⟩:=zas hf h;obtain⟨hj,hk⟩:=hk;obtain⟨sv,v,hk,hv,he⟩:=zl hf hk;obtain⟨cs,vs,hk,hvs,rfl⟩:=ze9 hk hv;obtain⟨l,hl,hk2⟩:=zal hk;obtain⟨hle,rfl⟩:=zjb hl;have hlen:=zb1 hvs
 obtain⟨sv2,hk3,hor⟩:=ziw hk2 (ze1 _ (ze2 _ hvs));rcases hor with ⟨rfl,hv⟩|⟨rfl,u,hu',hv⟩
 ·refine⟨_,_,hk3,hv,fun w _=>?_⟩
  have h1:(isAgg E).run P w = .ok true w:=by
   unfold ze8 at hg;simp only[isAgg,Yo];split at hg
   ·rename_i fs hu;simp[run_underlying hu]
   ·rename_i m e hu;simp[run_underlying hu]
   ·cases hg
   ·cases hg
  simp[zaa,execOp,ho,he,hei,Instr.index,asIntOf,run_underlying hu,hj,part,h1,zbe hn]
  try rw[Ycw]
  try (congr 1;omega)
 ·refine⟨_,_,hk3,hv,fun w _=>?_⟩
  have h1:(isAgg E).run P w = .ok false w:=by
   unfold ze8 at hg;simp only[isAgg,Yo];cases hu:P.underlying E with
   | none=>simp[hu] at hg
   | some d=>
    rw[hu] at hg;cases d<;>simp at hg<;>simp[run_underlying hu]
  have hn1:n=1:=by simpa using hgn
  have:vs[j.toNat*n]? = some u:=by
   have:=congrArg (·[0]?) hu';simpa[hn1] using this
  simp[zaa,execOp,ho,he,hei,Instr.index,asIntOf,run_underlying hu,hj,part,h1,zbe hn,this]
theorem zgy {sv:SV} {v:Value} {k:Option Nat→Prop} (h:zlO sv k) (hv:sv.val β=some v):∃ r,k r∧v = .map r:=by
 unfold zlO at h;split at h
 ·simp[SV.val,SC.val] at hv;exact⟨_,h,hv.symm⟩
 ·exact h.elim
theorem zfa {M:Mem} {r:Nat} {p:Array MapEntry×Nat} (h:M.mapAt r=some p):M r=some (.map p.1 p.2):=by
 unfold Mem.mapAt at h;split at h
 ·rename_i es c hm;simp at h;subst h;exact hm
 ·cases h
theorem zpM {M:Mem} {r:Nat} {p:Option Nat×Nat×Array Nat×Nat} (h:M.iterAt r=some p):M r=some (.mapIter p.1 p.2.1 p.2.2.1 p.2.2.2):=by
 unfold Mem.iterAt at h;split at h
 ·rename_i m a s b hm;simp at h;subst h;exact hm
 ·cases h
theorem zrr {ok:Bool} {z:Value} {f:Option (Nat×Value)} {k:SV→Prop} (h:zsy ok z f k) :
  ∃ sv v,k sv∧sv.val β=some v∧v=(if ok then .tuple #[(f.map (·.2)).getD z,.bool f.isSome] else (f.map (·.2)).getD z):=by
 unfold zsy at h;split at h
 ·split at h
  ·exact⟨_,_,h,rfl,rfl⟩
  ·exact⟨_,_,h,zh3 β _,rfl⟩
 ·split at h
  ·exact⟨_,_,h,rfl,rfl⟩
  ·exact⟨_,_,h,zh3 β _,rfl⟩
theorem zpN {T:TypeId} {z:Value} (h:zeroVal P T=some z) (w:World):(zeroValue T).run P w = .ok z w:=by
 unfold zeroVal at h;cases hi:P.info? T with
 | none=>simp[hi] at h
 | some i=>
  simp[hi] at h;simp[zeroValue,typeInfo,hi,h]
theorem zIc {T K E:TypeId} {kk:KK} {ok:Bool} {z:Value} {x key:Operand} (ho:o.op = .lookup T x key ok) (hT:P.underlying T=some (.map K E)) (hk:zcK P K=some kk) (hz:zeroVal P E=some z)
  (hf:Fr β s.fr a) (h:vq (.mget kk ok z x key) s k):Quiet P β o s a k true:=by
 obtain⟨u,uv,hv,hu,he⟩:=zl hf h;obtain⟨r,hv,rfl⟩:=zgy hv hu;obtain⟨kv,kvv,hv,hkv,he'⟩:=zl hf hv;obtain⟨hv,hok⟩:=zlS hv hkv;have hnil:∀ w:World,(Instr.findKey K kvv []).run P w = .ok none w:=fun w=>zlT hk hok rfl w
 cases r with
 | none=>
  have hv':zsy ok z none k:=hv;obtain⟨sv,v,h1,h2,rfl⟩:=zrr (β:=β) hv';refine⟨_,_,h1,h2,fun w _=>?_⟩;have hc:=fun em=>zix (P:=P) hk hok em 9998 w
  cases ok<;>simp[zaa,execOp,ho,Instr.lookup,run_underlying hT,he,he',hc,hnil,zpN hz,Result.andThen]
 | some b=>
  obtain⟨p,hp,hv⟩:=zal hv;obtain⟨f,hfi,hv⟩:=zal hv;obtain⟨sv,v,h1,h2,rfl⟩:=zrr (β:=β) hv;refine⟨_,_,h1,h2,fun w hr=>?_⟩;have hb:=(hr rfl).M _ _ (zfa hp)
  have hg:=Yb4 (P:=P) hb;have hc:=fun em=>zix (P:=P) hk hok em 9998 w
  have hfr:=zlT (P:=P) hk hok hfi w;cases ok<;>cases f<;>simp[zaa,execOp,ho,Instr.lookup,run_underlying hT,he,he',hg,hc,hfr,zpN hz,Result.andThen]
theorem zId {x:Operand} {T K E:TypeId} (ho:o.op = .call { callee := .builtin .len,args := #[x],argTypes := #[T] }) (hT:P.underlying T=some (.map K E))
  (hf:Fr β s.fr a) (h:vq (.mlen x) s k):Quiet P β o s a k true:=by
 obtain⟨u,uv,hv,hu,he⟩:=zl hf h;obtain⟨r,hv,rfl⟩:=zgy hv hu;cases r with
 | none=>exact⟨_,_,hv,rfl,fun w _=>by simp[zaa,execOp,ho,resolve,invoke,builtin,Builtin.len_,run_underlying hT,he,goInt]⟩
 | some b=>
  obtain⟨p,hp,hv⟩:=zal hv;refine⟨_,_,hv,rfl,fun w hr=>?_⟩;have hb:=(hr rfl).M _ _ (zfa hp)
  have hg:=Yb4 (P:=P) hb;simp[zaa,execOp,ho,resolve,invoke,builtin,Builtin.len_,run_underlying hT,he,goInt,hg]
theorem zDB {x:Operand} (ho:o.op = .entry x) (hf:Fr β s.fr a) (hgone:∀ (j:Nat) b,s.bx[j]? = some (.gone b)→β[j]? = some b)
  (hlive:∀ (j:Nat) T cs,s.bx[j]? = some (.live T cs)→∃ b vs,β[j]? = some b∧zY β cs=some vs)
  (h:vq (.mentry x) s k):Quiet P β o s a k true:=by
 rcases znI hf hgone (fun j T cs hj=>let ⟨b,_,hb,_⟩:=hlive j T cs hj;⟨b,hb⟩) h with ⟨j,o',T',cs,b,hj,hk,hb,he⟩|⟨b,o',hk,he⟩
 ·exact hk.elim
 ·obtain⟨rfl,hk⟩:=zei hk;obtain⟨e,hE,hk⟩:=zal hk;refine⟨_,_,hk,rfl,fun w hr=>?_⟩;have hM:=(hr rfl).M
  unfold zC at hE;split at hE
  ·rename_i m since seen stepped hit;split at hE
   ·rename_i es clock stamp hm hs;split at hE
    ·rename_i hcl;simp only[Ye] at hE;obtain⟨en,hen,rfl⟩:=hE;have h1:=hM _ _ (zpM hit)
     have h2:=hM _ _ (zfa hm)
     have g1:(getObj b).run P w = .ok (.mapIter (some m) since seen stepped) w:=by
      have:w.heap[b]? = _:=h1;simp[getObj,Sem.run,this]
     have g2:=Yb4 (P:=P) h2;simp only[zaa,execOp,ho,he,Instr.entry,Yo,g1,g2,hs,Yk,hcl,bne_self_eq_false,Ybp,if_false,hen,Y6]
    ·cases hE
   ·cases hE
  ·cases hE
theorem zvw {ops:List Oper} {r:ROp} (hr:zo P ops o=some r) (hq:z6 r=true) (hf:Fr β s.fr a)
  (hgone:∀ (j:Nat) b,s.bx[j]? = some (.gone b)→β[j]? = some b)
  (hlive:∀ (j:Nat) T cs,s.bx[j]? = some (.live T cs)→∃ b vs,β[j]? = some b∧zY β cs=some vs)
  (h:vq r s k):Quiet P β o s a k (reads r):=by
 cases ho:o.op with
 | move x=>simp[zo,ho] at hr;subst hr;exact(zFJ (.inl ho) hf h).reads _
 | assign x=>simp[zo,ho] at hr;subst hr;exact(zFJ (.inr ho) hf h).reads _
 | pick c x y=>simp[zo,ho] at hr;subst hr;exact(zHV ho hf h).reads _
 | build T parts=>
  simp only[zo,ho,Yn,Ye] at hr;obtain⟨z,hz,l,hl,rfl⟩:=hr;exact(zGn ho hz hl hf h).reads _
 | load T p=>
  simp only[zo,ho,Yn] at hr;obtain⟨g,hg,z,hz,hr⟩:=hr;split at hr
  ·rename_i hgz;simp at hr;subst hr;exact zHW ho hg hz hgz hf hgone hlive h
  ·cases hr
 | nilCheck x=>simp[zo,ho] at hr;subst hr;exact(zGi ho hf h).reads _
 | fieldAddr T p i=>
  simp only[zo,ho] at hr;split at hr
  ·rename_i fs hu;simp only[Yn] at hr;obtain⟨f,hfi,n,hn,hr⟩:=hr;split at hr
   ·cases hr
   ·simp at hr;subst hr;exact(zGj ho hu hfi hn ‹_› hf h).reads _
  ·cases hr
 | field T x i=>
  simp only[zo,ho] at hr;split at hr
  ·rename_i fs hu;simp only[Yn] at hr;obtain⟨f,hfi,g,hg,n,hn,hr⟩:=hr;split at hr
   ·simp at hr;subst hr;exact(zGm ho hu hfi hg hn ‹_› hf h).reads _
   ·cases hr
  ·cases hr
 | indexAddr T x i=>
  simp only[zo,ho] at hr;split at hr
  ·rename_i E hu;simp only[Ye] at hr;obtain⟨n,hn,rfl⟩:=hr;exact(zGk ho hu hn hf h).reads _
  ·rename_i len E hu;simp only[Ye] at hr;obtain⟨n,hn,rfl⟩:=hr;exact(zDA ho hu hn hf h).reads _
  ·cases hr
 | binOp op T x y U=>
  simp only[zo,ho] at hr;split at hr
  ·simp at hr;subst hr;exact(zH4 ho hf h).reads _
  ·simp at hr;subst hr;exact(zH3 ho ‹_› hf h).reads _
  ·simp at hr;subst hr;exact(zH5 ho ‹_› hf h).reads _
  ·simp at hr;subst hr;exact(zH6 ho hf h).reads _
  ·simp at hr;subst hr;exact(zGq ho ‹_› hf h).reads _
  ·split at hr
   ·rename_i hc;simp only[Yl,Yah] at hc;obtain⟨⟨h1,h2⟩,h3⟩:=hc;simp at hr;subst hr;exact(zJq ho ‹_› h1 h2 h3 hf (by simpa using h)).reads _
   ·rw[Yn] at hr;obtain⟨n,h2,hr⟩:=hr;split at hr
    ·rename_i hc2;simp only[Yl,Yah] at hc2;simp at hr;subst hr;exact(zH9 ho ‹_› h2 hc2.1 hc2.2 hf h).reads _
    ·cases hr
  ·split at hr
   ·split at hr
    ·rename_i hc;simp only[Yah] at hc;simp at hr;subst hr;exact(zIa ho ‹_› ‹_› ‹_› hc hf h).reads _
    ·cases hr
   ·cases hr
  ·cases hr
 | unOp op T x=>
  cases op with
  | not=>simp[zo,ho] at hr;subst hr;exact(zJm ho hf h).reads _
  | neg=>
   simp only[zo,ho] at hr;split at hr
   ·simp at hr;subst hr;exact(zHZ ho hf h).reads _
   ·cases hr
  | xor=>
   simp only[zo,ho] at hr;split at hr
   ·simp at hr;subst hr;exact(zH0 ho hf h).reads _
   ·cases hr
  | plus=>simp[zo,ho] at hr
 | convert S T x=>
  simp only[zo,ho] at hr;split at hr
  ·simp at hr;subst hr;exact(zH2 ho ⟨_, ‹P.underlying S=_›⟩ ‹P.underlying T=_› hf h).reads _
  ·split at hr
   ·rename_i hb;simp at hr;subst hr;unfold zoQ at hb;split at hb
    ·split at hb
     ·exact zGo ho ‹P.underlying S=_› ‹_› ‹P.underlying T=_› hf h
     ·cases hb
    ·cases hb
   ·cases hr
  ·split at hr
   ·simp at hr;subst hr;simp[z6] at hq
   ·cases hr
  ·cases hr
 | slice T x lo hi mx=>
  cases mx with
  | some _=>
   cases lo with
   | none=>
    cases hi with
    | none=>simp[zo,ho] at hr
    | some _=>
     simp only[zo,ho] at hr;split at hr
     ·simp only[Ye] at hr;obtain⟨n,hn,rfl⟩:=hr;exact(zGp ho ‹_› hn hf h).reads _
     ·cases hr
   | some _=>
    cases hi with
    | none=>simp[zo,ho] at hr
    | some _=>
     simp only[zo,ho] at hr;split at hr
     ·simp only[Ye] at hr;obtain⟨n,hn,rfl⟩:=hr;exact(zH8 ho ‹_› hn hf h).reads _
     ·cases hr
  | none=>
   simp only[zo,ho] at hr;split at hr
   ·simp only[Ye] at hr;obtain⟨n,hn,rfl⟩:=hr;exact(zJp ho ‹_› hn hf h).reads _
   ·simp at hr;subst hr;exact(zJo ho ‹_› hf h).reads _
   ·split at hr
    ·simp only[Ye] at hr;obtain⟨_,_,rfl⟩:=hr;simp[z6] at hq
    ·cases hr
   ·cases hr
 | index T x i=>
  simp only[zo,ho] at hr;split at hr
  ·simp at hr;subst hr;exact(zH7 ho ‹_› hf h).reads _
  ·simp only[Yn] at hr;obtain⟨g,hg,n,hn,hr⟩:=hr;split at hr
   ·simp at hr;subst hr;exact(zIb ho ‹_› hg hn ‹_› hf h).reads _
   ·cases hr
  ·cases hr
 | extract x i=>simp[zo,ho] at hr;subst hr;exact(zBz ho hf h).reads _
 | lookup T x key ok=>
  simp only[zo,ho] at hr;split at hr
  ·simp only[Yn,Ye] at hr;obtain⟨kk,hk,z,hz,rfl⟩:=hr;exact zIc ho ‹_› hk hz hf h
  ·cases hr
 | entry x=>simp[zo,ho] at hr;subst hr;exact zDB ho hf hgone hlive h
 | makeMap T m=>cases m<;>simp[zo,ho] at hr;subst hr;simp[z6] at hq
 | makeSlice T x y=>
  simp only[zo,ho] at hr;split at hr
  ·simp only[Yn] at hr;obtain⟨_,_,_,_,hr⟩:=hr;split at hr
   ·simp at hr;subst hr;cases hso:zvs x y<;>simp[hso,z6] at hq
   ·cases hr
  ·cases hr
 | mapUpdate T x key v=>
  simp only[zo,ho] at hr;split at hr
  ·simp only[Ye] at hr;obtain⟨_,_,rfl⟩:=hr;simp[z6] at hq
  ·cases hr
 | insert T x key v=>
  simp only[zo,ho] at hr;split at hr
  ·simp only[Ye] at hr;obtain⟨_,_,rfl⟩:=hr;simp[z6] at hq
  ·cases hr
 | range T x=>
  simp only[zo,ho] at hr;split at hr
  ·simp at hr;subst hr;simp[z6] at hq
  ·simp at hr;subst hr;simp[z6] at hq
  ·cases hr
 | next x b=>cases b<;>simp[zo,ho] at hr<;>subst hr<;>simp[z6] at hq
 | call c=>
  obtain⟨callee,args,argTypes⟩:=c;cases callee with
  | value f=>simp[zo,ho] at hr;subst hr;simp[z6] at hq
  | invoke x m=>simp[zo,ho] at hr
  | builtin b=>
   cases b<;>simp[zo,ho] at hr
   ·split at hr
    ·split at hr
     ·simp only[Yn] at hr;obtain⟨_,_,_,_,hr⟩:=hr;split at hr
      ·simp at hr;subst hr;simp[z6] at hq
      ·cases hr
     ·cases hr
    ·cases hr
   ·split at hr
    ·split at hr
     ·split at hr
      ·simp at hr;obtain⟨-, rfl⟩:=hr;simp[z6] at hq
      ·cases hr
     ·cases hr
    ·cases hr
   ·split at hr
    ·split at hr
     ·simp only[Yn] at hr;obtain⟨_,_,hr⟩:=hr;split at hr
      ·simp at hr;subst hr;simp[z6] at hq
      ·cases hr
     ·cases hr
    ·cases hr
   ·split at hr
    ·split at hr
     ·simp only[Ye] at hr;obtain⟨_,_,rfl⟩:=hr;simp[z6] at hq
     ·cases hr
    ·cases hr
   ·split at hr
    ·rename_i x T hx hT;have hx':args = #[x]:=by cases args;simp_all
     have hT':argTypes = #[T]:=by cases argTypes;simp_all
     subst hx' hT';split at hr
     ·simp at hr;subst hr;exact(zJn ho ‹_› hf h).reads _
     ·simp at hr;subst hr;exact(zH1 ho ‹_› hf h).reads _
     ·simp at hr;subst hr;exact zId ho ‹_› hf h
     ·cases hr
    ·cases hr
   ·split at hr
    ·rename_i x y hx;have hx':args = #[x,y]:=by cases args;simp_all
     subst hx';simp at hr;subst hr;exact(zFK (mx:=true) ho hf h).reads _
    ·cases hr
   ·split at hr
    ·rename_i x y hx;have hx':args = #[x,y]:=by cases args;simp_all
     subst hx';simp at hr;subst hr;exact(zFK (mx:=false) ho hf h).reads _
    ·cases hr
 | box T x=>simp[zo,ho] at hr;subst hr;simp[z6] at hq
 | alloc T=>simp[zo,ho] at hr;obtain⟨_,_,rfl⟩:=hr;simp[z6] at hq
 | store T p x=>simp[zo,ho] at hr;obtain⟨_,_,rfl⟩:=hr;simp[z6] at hq
 | buildSlice T n parts=>
  simp only[zo,ho] at hr;split at hr
  ·simp only[Yn] at hr;obtain⟨_,_,_,_,hr⟩:=hr;split at hr
   ·simp at hr;subst hr;simp[z6] at hq
   ·cases hr
  ·cases hr
 | makeFunc fn first caps=>
  cases fn with
  | func f=>
   simp only[zo,ho] at hr;split at hr
   ·simp at hr;subst hr;exact(zHX ho ‹_› hf h).reads _
   ·split at hr
    ·rename_i hx hc;simp at hr;subst hr;exact(zHY ho (by cases first;simp_all) (by cases caps;simp_all) hf h).reads _
    ·cases hr
  | _=>simp[zo,ho] at hr
 | _=>simp[zo,ho] at hr
end
end
section
structure Rel (β:List Nat) (F:Mem) (w0:World) (n:Nat) (s:St) (a:Act) (w:World):Prop where
 rd:Rd β s w
 fr:Fr β s.fr a
 len:β.length=s.bx.length
 Fle:F.le (zk w)
 dj:s.M.disj F
 own:∀ (j:Nat) T cs,s.bx[j]? = some (.live T cs)→∀ b,β[j]? = some b→s.M b=none∧F b=none
 dist:∀ (i j:Nat) Ti ci Tj cj,s.bx[i]? = some (.live Ti ci)→s.bx[j]? = some (.live Tj cj)→i≠j→β[i]? ≠ β[j]?
 nd:(∀ d∈a.defers,∃ D:Nat,d={ target := .collected D,args := #[] }∧w0.heap.size≤D∧F D=some (.deferred (some [])))∧(a.defers.map Deferred.target).Nodup
 sz:a.tmps.size=n
 os:w.os=w0.os
 out:w.output=w0.output
 tape:w.tape=w0.tape
 grow:w0.heap.size≤w.heap.size∧w0.drawn≤w.drawn
section
variable {P:Program} {β:List Nat} {F:Mem} {w0:World} {n:Nat} {s:St} {a:Act} {w:World}
theorem Rel.lv (R:Rel β F w0 n s a w) (j:Nat) (T:TypeId) (cs:List SC) (h:s.bx[j]? = some (.live T cs)):∃ b vs,β[j]? = some b∧zY β cs=some vs:=
 let ⟨b,vs,h1,h2,_⟩:=R.rd.live j T cs h;⟨b,vs,h1,h2⟩
theorem Rel.put (R:Rel β F w0 n s a w) {d:Option Nat} (hd:∀ e,d=some e→e<n) {sv:SV} {v:Value} (hv:sv = .dead∨sv.val β=some v) :
  Rel β F w0 n (s.put d sv) (a.put d v) w:=by
 cases d with
 | none=>exact R
 | some d=>
  have hdn:d<n:=hd d rfl;refine⟨⟨R.rd.M,R.rd.live,R.rd.gone⟩,?_,R.len,R.Fle,R.dj,R.own,R.dist,by simpa[Act.put] using R.nd,by simpa[Act.put] using R.sz,R.os,R.out,R.tape,R.grow⟩;intro e sv' h;simp only[St.put,lk] at h;split at h
  ·rename_i hde;have hde:=Ya9 hde
   subst hde;simp at h;subst h;rcases hv with hv|hv
   ·simp_all
   ·exact .inr ⟨v,hv,by simp[Act.put,R.sz,hdn]⟩
  ·rename_i hde;have hde:¬d=e:=Ydx hde
   rcases R.fr e sv' h with h|⟨v',h1,h2⟩
   ·exact .inl h
   ·refine .inr ⟨v',h1,?_⟩;simp only[Act.put,Array.getElem?_setIfInBounds];rw[if_neg hde];exact h2
theorem zqp {d e:Nat} {sv:SV}:∀ {l:List (Nat×SV)},lk (zi8 d l) e=some sv→lk l e=some sv
 | [],h=>h
 | (t,x)::r,h=>by
  simp only[zi8] at h;cases htd:Nat.beq t d with
  | true=>
   rw[htd] at h;have htd':=Ya9 htd
   have h2:=zqp h;cases hte:Nat.beq t e with
   | true=>
    exfalso;have hte':=Ya9 hte
    subst hte';subst htd'
    have hn:∀ (l:List (Nat×SV)),lk (zi8 t l) t=none:=by
     intro l
     induction l with
     | nil=>rfl
     | cons p q ih=>
      obtain⟨u,y⟩:=p;simp only[zi8];cases hu:Nat.beq u t with
      | true=>exact ih
      | false=>simp only[lk,hu];exact ih
    simp only[hn r] at h;cases h
   | false=>simp only[lk,hte];exact h2
  | false=>
   rw[htd] at h;simp only[lk] at h ⊢;cases hte:Nat.beq t e with
   | true=>simp_all
   | false=>rw[hte] at h;exact zqp h
theorem zvx {e:Nat} {sv:SV}:∀ {ds:List Nat} {l:List (Nat×SV)},lk (zf2 ds l) e=some sv→lk l e=some sv
 | [],_,h=>h
 | _::ds,_,h=>zqp (zvx (ds:=ds) h)
theorem Rel.kill (R:Rel β F w0 n s a w) (l:List Nat):Rel β F w0 n (s.kill l) a w:=
 ⟨⟨R.rd.M,R.rd.live,R.rd.gone⟩,fun d sv h=>R.fr d sv (zvx h),R.len,R.Fle,R.dj,R.own,R.dist,R.nd,R.sz,R.os,R.out,R.tape,R.grow⟩
theorem SC.val_mono {x:SC} {v:Value} (h:x.val β=some v) (γ:List Nat):x.val (β++γ)=some v:=by
 cases x with
 | v y=>exact h
 | bx j o=>
  simp only[SC.val] at h ⊢;cases hb:β[j]? with
  | none=>simp_all
  | some b=>
   grind
theorem zej:∀ {cs:List SC} {vs:List Value},zY β cs=some vs→∀ γ,zY (β++γ) cs=some vs
 | [],_,h,_=>h
 | x::r,vs,h,γ=>by
  simp only[zY] at h ⊢;split at h
  ·rename_i v vs' h1 h2;simp at h;subst h;simp[SC.val_mono h1 γ,zej h2 γ]
  ·cases h
theorem SV.val_mono {sv:SV} {v:Value} (h:sv.val β=some v) (γ:List Nat):sv.val (β++γ)=some v:=by
 cases sv with
 | c x=>exact SC.val_mono h γ
 | ag cs=>
  simp only[SV.val,Ye] at h ⊢;obtain⟨vs,h1,h2⟩:=h;exact⟨vs,zej h1 γ,h2⟩
 | sl j m=>
  simp only[SV.val] at h ⊢;cases hb:β[j]? with
  | none=>simp_all
  | some b=>
   grind
 | fn f cs=>
  simp only[SV.val,Ye] at h ⊢;obtain⟨vs,h1,h2⟩:=h;exact⟨vs,zej h1 γ,h2⟩
 | sb x=>exact h
 | dead=>assumption
theorem zcD (w:World) (o:Obj) {b:Nat} {x:Obj} (h:zk w b=some x):zk { w with heap:=w.heap.push o } b=some x:=by
 have hlt:b<w.heap.size:=(Y7.1 h).1;show (w.heap.push o)[b]? = some x
 rw[Array.getElem?_push_lt hlt,←Ybk hlt];exact h
theorem Mem.none_of_le {M:Mem} (h:M.le (zk w)) {b:Nat} (hb:w.heap.size≤b):M b=none:=by
 cases hm:M b with
 | none=>rfl
 | some x=>
  have:=h b x hm;have hlt:b<w.heap.size:=(Y7.1 this).1
  omega
theorem Rel.newBox (R:Rel β F w0 n s a w) (T:TypeId) {cs:List SC} {vs:List Value} (hv:zY β cs=some vs) :
  Rel (β++[w.heap.size]) F w0 n { s with bx:=s.bx++[.live T cs] } a { w with heap:=w.heap.push (.cells vs.toArray T) }:=by
 have hnew:∀ (j:Nat) e,(s.bx++[BE.live T cs])[j]? = some e→(s.bx[j]? = some e)∨(j=s.bx.length∧e = .live T cs):=by
  intro j e h;rcases Ydo j s.bx.length with h'|h'
  ·rw[Yag h'] at h;exact .inl h
  ·rw[Yan h'] at h;rcases Nat.eq_or_lt_of_le h' with h2|h2
   ·subst h2;simp at h;exact .inr ⟨rfl,h.symm⟩
   ·rw[Yca oE] at h;cases h
 have hβn:(β++[w.heap.size])[s.bx.length]? = some w.heap.size:=by rw[←R.len];simp
 have hβo:∀ (j:Nat) b,β[j]? = some b→(β++[w.heap.size])[j]? = some b:=fun j b h=>by grind
 have hlt:∀ (j:Nat) T cs b,s.bx[j]? = some (.live T cs)→β[j]? = some b→b<w.heap.size:=fun j T cs b h hb=>by
  obtain⟨b',vs',h1,_,h3⟩:=R.rd.live j T cs h;rw[hb] at h1;cases h1;exact(Y7.1 h3).1
 refine⟨⟨fun b o h=>zcD w _ (R.rd.M b o h),?_,?_⟩,?_,by simp[R.len],fun b o h=>zcD w _ (R.Fle b o h),R.dj,?_,?_,R.nd,R.sz,R.os,R.out,R.tape,⟨by simp;have:=R.grow.1;omega,R.grow.2⟩⟩
 ·intro j T' cs' h;rcases hnew j _ h with h'|⟨rfl,h'⟩
  ·obtain⟨b,vs',h1,h2,h3⟩:=R.rd.live j T' cs' h';exact⟨b,vs',hβo j b h1,zej h2 _,zcD w _ h3⟩
  ·cases h';exact⟨_,vs,hβn,zej hv _,by simp⟩
 ·intro j b h;rcases hnew j _ h with h'|⟨rfl,h'⟩
  ·exact hβo j b (R.rd.gone j b h')
  ·cases h'
 ·intro d sv h;rcases R.fr d sv h with h|⟨v,h1,h2⟩
  ·exact .inl h
  ·exact .inr ⟨v,SV.val_mono h1 _,h2⟩
 ·intro j T' cs' h b hb;rcases hnew j _ h with h'|⟨rfl,h'⟩
  ·obtain⟨b',vs',h1,_,_⟩:=R.rd.live j T' cs' h';rw[hβo j b' h1] at hb;cases hb;exact R.own j T' cs' h' b h1
  ·rw[hβn] at hb;cases hb;exact⟨Mem.none_of_le R.rd.M (Yd _),Mem.none_of_le R.Fle (Yd _)⟩
 ·intro i j Ti ci Tj cj hi hj hij;rcases hnew i _ hi with hi'|⟨rfl,hi'⟩<;>rcases hnew j _ hj with hj'|⟨rfl,hj'⟩
  ·obtain⟨bi,_,h1,_,_⟩:=R.rd.live i _ _ hi';obtain⟨bj,_,h2,_,_⟩:=R.rd.live j _ _ hj';rw[hβo i bi h1,hβo j bj h2];have:=R.dist i j Ti ci Tj cj hi' hj' hij
   rw[h1,h2] at this;exact this
  ·grind
  ·grind
  ·omega
theorem zrs (R:Rel β F w0 n s a w):∀ {cs:List SC} {vs:List Value},zuZ s.bx cs=some vs→zY β cs=some vs
 | [],_,h=>h
 | x::r,vs,h=>by
  simp only[zuZ] at h;split at h
  ·rename_i v vs' h1 h2;simp at h;subst h
   have hx:x.val β=some v:=by
    cases x with
    | v y=>assumption
    | bx j o=>
     simp only[flat,zjA] at h1;split at h1
     ·rename_i b hj;simp at h1;subst h1;simp[SC.val,R.rd.gone j b hj]
     ·cases h1
   simp[zY,hx,zrs R h2]
  ·cases h
theorem zkt (R:Rel β F w0 n s a w) {j:Nat} {k:Nat→St→Prop} (h:pub j s k) :
  ∃ b s',k b s'∧Rel β F w0 n s' a w∧β[j]? = some b∧s'.fr=s.fr:=by
 unfold pub zHO at h;rw[zjA] at h;split at h
 ·rename_i b hj;exact⟨b,s,h,R,R.rd.gone j b hj,rfl⟩
 ·rename_i T cs hj
  ·obtain⟨vs,hvs,h⟩:=zal h;have hv:=zrs R hvs
   obtain⟨b,vs',hb,hv',hh⟩:=R.rd.live j T cs hj;rw[hv] at hv';cases hv';obtain⟨hMb,hFb⟩:=R.own j T cs hj b hb;have hjlt:=(Yu.1 hj).1
   have hset:∀ (i:Nat) e,(s.bx.set j (.gone b))[i]? = some e→(i=j∧e = .gone b)∨(i≠j∧s.bx[i]? = some e):=by
    intro i e hi;by_cases hij:i=j
    ·subst hij;rw[Ycp hjlt] at hi;simp at hi;exact .inl ⟨rfl,hi.symm⟩
    ·rw[Ydb (Ne.symm hij)] at hi;exact .inr ⟨hij,hi⟩
   simp only[zbW] at h;have h2:=h b hMb
   simp only[zbW] at h2;refine⟨b,_,h2,⟨⟨?_,?_,?_⟩,R.fr,by simp[R.len],R.Fle,?_,?_,?_,R.nd,R.sz,R.os,R.out,R.tape,R.grow⟩,hb,rfl⟩
   ·intro c o hc;have hc':(s.M.upd b (.cells vs.toArray T (0,0))) c=some o:=hc
    by_cases hcb:c=b
    ·subst hcb;rw[Yam] at hc';cases hc';exact hh
    ·rw[Yh _ _ hcb] at hc';exact R.rd.M c o hc'
   ·intro i T' cs' hi;rcases hset i _ hi with ⟨_,hi'⟩|⟨_,hi'⟩
    ·cases hi'
    ·exact R.rd.live i T' cs' hi'
   ·intro i b' hi;rcases hset i _ hi with ⟨rfl,hi'⟩|⟨_,hi'⟩
    ·simp_all
    ·exact R.rd.gone i b' hi'
   ·intro c;by_cases hcb:c=b
    ·simp_all
    ·show (s.M.upd b _) c=none∨_;rw[Yh _ _ hcb];exact R.dj c
   ·intro i T' cs' hi b' hb';rcases hset i _ hi with ⟨_,hi'⟩|⟨hij,hi'⟩
    ·cases hi'
    ·obtain⟨h1,h2⟩:=R.own i T' cs' hi' b' hb';refine⟨?_,h2⟩
     have:b'≠b:=fun e=>by
      subst e;exact R.dist i j _ _ _ _ hi' hj hij (hb'.trans hb.symm)
     show (s.M.upd b _) b'=none;rw[Yh _ _ this];exact h1
   ·intro i i' Ti ci Tj cj hi hi' hne;rcases hset i _ hi with ⟨_,h3⟩|⟨_,h3⟩
    ·cases h3
    ·rcases hset i' _ hi' with ⟨_,h4⟩|⟨_,h4⟩
     ·cases h4
     ·exact R.dist i i' _ _ _ _ h3 h4 hne
 ·exact h.elim
theorem zlW:∀ (j:Nat) (s:St) (k:St→Prop),Rel β F w0 n s a w→zzx j s k→∃ s',k s'∧Rel β F w0 n s' a w∧s'.fr=s.fr
 | 0,s,k,R,h=>⟨s,h,R,rfl⟩
 | j+1,s,k,R,h=>by
  obtain⟨s1,h1,R1,e1⟩:=zlW j s _ R h;obtain⟨b,s2,h2,R2, -, e2⟩:=zkt R1 h1;exact⟨s2,h2,R2,e2.trans e1⟩
theorem zvy {body:(Exit→St→Prop)→St→Prop} {Q:Exit→St→Prop} (R:Rel β F w0 n s a w) (h:zI body Q s):∃ s',zF body Q s'∧Rel β F w0 n s' a w:=by
 rcases h with h|h
 ·exact⟨s,h,R⟩
 ·obtain⟨s',h1,R1, -⟩:=zlW _ _ _ R h;exact⟨s',h1,R1⟩
theorem zpO (R:Rel β F w0 n s a w) {x:SC} {v:Value} (hv:x.val β=some v) {k:Value→St→Prop} (h:zzr x s k) :
  ∃ s',k v s'∧Rel β F w0 n s' a w∧s'.fr=s.fr:=by
 cases x with
 | v y=>simp[SC.val] at hv;subst hv;exact⟨s,h,R,rfl⟩
 | bx j o=>
  obtain⟨b,s',hk,R',hb,hfr⟩:=zkt R h;simp[SC.val,hb] at hv;subst hv;exact⟨s',hk,R',hfr⟩
theorem zeL:∀ {cs:List SC} {s:St} {vs:List Value} {k:List Value→St→Prop},Rel β F w0 n s a w→zY β cs=some vs→zjE cs s k →
  ∃ s',k vs s'∧Rel β F w0 n s' a w∧s'.fr=s.fr
 | [],s,vs,k,R,hv,h=>by simp[zY] at hv;subst hv;exact⟨s,h,R,rfl⟩
 | x::r,s,vs,k,R,hv,h=>by
  simp only[zY] at hv;split at hv
  ·rename_i v vs' h1 h2;simp at hv;subst hv;obtain⟨s1,hk,R1,e1⟩:=zpO R h1 h;obtain⟨s2,hk2,R2,e2⟩:=zeL R1 h2 hk;exact⟨s2,hk2,R2,e2.trans e1⟩
  ·cases hv
theorem zek (R:Rel β F w0 n s a w) {sv:SV} {v:Value} (hv:sv.val β=some v) {k:Value→St→Prop} (h:zkR sv s k) :
  ∃ s',k v s'∧Rel β F w0 n s' a w∧s'.fr=s.fr:=by
 cases sv with
 | c x=>exact zpO R hv h
 | ag cs=>
  simp only[SV.val,Ye] at hv;obtain⟨vs,h1,rfl⟩:=hv;exact zeL R h1 h
 | sl j m=>
  obtain⟨b,s',hk,R',hb,hfr⟩:=zkt R h;simp[SV.val,hb] at hv;subst hv;exact⟨s',hk,R',hfr⟩
 | fn f cs=>
  simp only[SV.val,Ye] at hv;obtain⟨vs,h1,rfl⟩:=hv;exact zeL R h1 h
 | sb x=>simp[SV.val] at hv;subst hv;exact⟨s,h,R,rfl⟩
 | dead=>exact h.elim
theorem zpP:∀ {xs:List Operand} {s:St} {k:List Value→St→Prop},Rel β F w0 n s a w→zzs xs s k →
  ∃ s',k (xs.map a.eval) s'∧Rel β F w0 n s' a w∧s'.fr=s.fr
 | [],s,k,R,h=>⟨s,h,R,rfl⟩
 | x::r,s,k,R,h=>by
  obtain⟨sv,v,hk,hv,he⟩:=zl R.fr h;obtain⟨s1,hk1,R1,e1⟩:=zek R hv hk;obtain⟨s2,hk2,R2,e2⟩:=zpP R1 hk1;exact⟨s2,by simpa[he] using hk2,R2,e2.trans e1⟩
end
end
end Go.Vm
