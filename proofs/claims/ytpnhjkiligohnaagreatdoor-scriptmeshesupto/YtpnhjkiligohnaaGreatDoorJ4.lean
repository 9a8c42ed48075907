/- Part of this proof;laid by program. -/
import Derived.Test.YtpnhjkiligohnaaGreatDoorJ3
set_option linter.unusedVariables false
set_option linter.unusedSimpArgs false
namespace Go.Vm
open Go.RowKit
section
variable {P:Program} {β:List Nat} {F:Mem} {w0:World} {n:Nat} {s:St} {a:Act} {w:World}
theorem zos {T:TypeId} {b o m:Nat} {v:Value} {us:List Value} {c:Array Value} {e:TypeId} (hm:zI P T=some m) (hc:v.cells=us.toArray) (hl:us.length=m)
  (hb:w.heap[b]? = some (.cells c e (0,0))) (hle:o+m≤c.size) (h1:∀ u∈us,u.oneCell'=true) :
  (storeVar T ⟨b,o,none⟩ v).run P w = .ok () (w.setRow b (splice c.toList o us).toArray):=by
 have:=run_storeCells_at (P:=P) b o e us 0 c w hb (by omega) h1;simp only[Nat.add_zero] at this;simp only[storeVar,Sem.run_bind,zao hm,Result.andThen_ok,hc];simp[hl,this,splice]
theorem zhk {b:Nat} (c':Array Value) {x:Nat} {o:Obj} (h:zj w x=some o) (hx:x≠b) :
  zj (w.setRow b c') x=some o:=by
 show (w.setRow b c').heap[x]? = some o;rw[setRow_other w b x c' hx];exact h
theorem zDA {cs:List SC}:∀ {us:List Value},zx β cs=some us→cs.all zw3=true→∀ u∈us,u.oneCell'=true:=by
 induction cs with
 | nil=>intro us h _ u hu;simp[zx] at h;subst h;cases hu
 | cons x r ih=>
  intro us h ha u hu;simp only[zx] at h;simp only[List.all_cons,Bool.and_eq_true] at ha;split at h
  ·rename_i v vs h1 h2;simp at h;subst h;rcases List.mem_cons.1 hu with rfl|hu
   ·cases x with
    | v y=>simp[SC.val] at h1;subst h1;exact ha.1
    | bx j o=>
     simp only[SC.val] at h1;cases hb:β[j]? with
     | none=>simp[hb] at h1
     | some b=>simp[hb] at h1;subst h1;rfl
   ·exact ih h2 ha.2 u hu
  ·cases h
theorem Rel.setBox (R:Rel β F w0 n s a w) {j:Nat} {T:TypeId} {cs cs':List SC} {b:Nat} {vs vs':List Value} (hj:s.bx[j]? = some (.live T cs)) (hb:β[j]? = some b)
  (hh:w.heap[b]? = some (.cells vs.toArray T (0,0))) (hv:zx β cs'=some vs'):Rel β F w0 n { s with bx:=s.bx.set j (.live T cs') } a (w.setRow b vs'.toArray):=by
 obtain⟨hMb,hFb⟩:=R.own j T cs hj b hb;have hjlt:=(List.getElem?_eq_some_iff.1 hj).1
 have hset:∀ (i:Nat) e,(s.bx.set j (.live T cs'))[i]? = some e→(i=j∧e = .live T cs')∨(i≠j∧s.bx[i]? = some e):=by
  intro i e hi;by_cases hij:i=j
  ·subst hij;rw[List.getElem?_set_self hjlt] at hi;simp at hi;exact .inl ⟨rfl,hi.symm⟩
  ·rw[List.getElem?_set_ne (Ne.symm hij)] at hi;exact .inr ⟨hij,hi⟩
 have hlv:∀ (i:Nat) Ti ci,(s.bx.set j (.live T cs'))[i]? = some (.live Ti ci)→∃ Ti' ci',s.bx[i]? = some (.live Ti' ci'):=by
  intro i Ti ci hi;rcases hset i _ hi with ⟨rfl,_⟩|⟨_,h⟩
  ·exact⟨_,_,hj⟩
  ·exact⟨_,_,h⟩
 refine⟨⟨?_,?_,?_⟩,R.fr,by simp[R.len],?_,R.dj,?_,?_,R.nd,R.sz,R.os,R.out,R.tape,⟨by simp;exact R.grow.1,R.grow.2⟩⟩
 ·intro x o hx;exact zhk _ (R.rd.M x o hx) (fun e=>by subst e;rw[hMb] at hx;cases hx)
 ·intro i T' ci hi;rcases hset i _ hi with ⟨rfl,h⟩|⟨hij,h⟩
  ·cases h;exact⟨b,vs',hb,hv,setRow_heap w b _ _ T _ hh⟩
  ·obtain⟨bi,vi,h1,h2,h3⟩:=R.rd.live i T' ci h;refine⟨bi,vi,h1,h2,zhk _ h3 (fun e=>?_)⟩;subst e;exact R.dist i j _ _ _ _ h hj hij (h1.trans hb.symm)
 ·intro i bi hi;rcases hset i _ hi with ⟨_,h⟩|⟨_,h⟩
  ·cases h
  ·exact R.rd.gone i bi h
 ·intro x o hx;exact zhk _ (R.Fle x o hx) (fun e=>by subst e;rw[hFb] at hx;cases hx)
 ·intro i T' ci hi bi hbi;obtain⟨Ti',ci',h⟩:=hlv i T' ci hi;exact R.own i Ti' ci' h bi hbi
 ·intro i i' Ti ci Tj cj hi hi' hne;obtain⟨_,_,h⟩:=hlv i Ti ci hi;obtain⟨_,_,h'⟩:=hlv i' Tj cj hi';exact R.dist i i' _ _ _ _ h h' hne
theorem Rel.setMem (R:Rel β F w0 n s a w) {b:Nat} {c:List Value} {e:TypeId} (hb:s.M b=some (.cells c.toArray e (0,0))) (c':List Value) :
  Rel β F w0 n { s with M:=s.M.upd b (.cells c'.toArray e (0,0)) } a (w.setRow b c'.toArray):=by
 have hh:=R.rd.M b _ hb
 have hF:F b=none:=by
  rcases R.dj b with h|h
  ·rw[hb] at h;cases h
  ·exact h
 refine⟨⟨?_,?_,R.rd.gone⟩,R.fr,R.len,?_,?_,?_,R.dist,R.nd,R.sz,R.os,R.out,R.tape,⟨by simp;exact R.grow.1,R.grow.2⟩⟩
 ·intro x o hx;have hx':(s.M.upd b (.cells c'.toArray e (0,0))) x=some o:=hx
  by_cases hxb:x=b
  ·subst hxb;rw[Mem.upd_same] at hx';cases hx';exact setRow_heap w x _ _ e _ hh
  ·rw[Mem.upd_ne _ _ hxb] at hx';exact zhk _ (R.rd.M x o hx') hxb
 ·intro i T' ci hi;obtain⟨bi,vi,h1,h2,h3⟩:=R.rd.live i T' ci hi;refine⟨bi,vi,h1,h2,zhk _ h3 (fun e'=>?_)⟩;subst e';have:=(R.own i T' ci hi bi h1).1
  rw[hb] at this;cases this
 ·intro x o hx;exact zhk _ (R.Fle x o hx) (fun e'=>by subst e';rw[hF] at hx;cases hx)
 ·intro x;by_cases hxb:x=b
  ·subst hxb;exact .inr hF
  ·show (s.M.upd b _) x=none∨_;rw[Mem.upd_ne _ _ hxb];exact R.dj x
 ·intro i T' ci hi bi hbi;obtain⟨h1,h2⟩:=R.own i T' ci hi bi hbi;refine⟨?_,h2⟩;have:bi≠b:=fun e'=>by subst e';rw[hb] at h1;cases h1
  show (s.M.upd b _) bi=none;rw[Mem.upd_ne _ _ this];exact h1
theorem Rel.called (R:Rel β F w0 n s a w) {w':World} {M':Mem} (hM:M'.le (zj w')) (hF:∀ b o,s.M b=none→zj w b=some o→zj w' b=some o)
  (hd:∀ b o,s.M b=none→zj w b=some o→M' b=none) (e1:w'.os=w.os) (e2:w'.output=w.output) (e3:w'.tape=w.tape) (e4:w.heap.size≤w'.heap.size∧w.drawn≤w'.drawn) :
  Rel β F w0 n { s with M:=M' } a w':=by
 have hFM:∀ b o,F b=some o→s.M b=none:=fun b o h=>by
  rcases R.dj b with h'|h'
  ·exact h'
  ·rw[h'] at h;cases h
 refine⟨⟨hM,?_,R.rd.gone⟩,R.fr,R.len,fun b o h=>hF b o (hFM b o h) (R.Fle b o h),?_,?_,R.dist,R.nd,R.sz,e1.trans R.os,e2.trans R.out,e3.trans R.tape,⟨Nat.le_trans R.grow.1 e4.1,Nat.le_trans R.grow.2 e4.2⟩⟩
 ·intro i T' ci hi;obtain⟨bi,vi,h1,h2,h3⟩:=R.rd.live i T' ci hi;exact⟨bi,vi,h1,h2,hF bi _ (R.own i T' ci hi bi h1).1 h3⟩
 ·intro b;cases hb:F b with
  | none=>exact .inr rfl
  | some o=>exact .inl (hd b o (hFM b o hb) (R.Fle b o hb))
 ·intro i T' ci hi bi hbi;obtain⟨h1,h2⟩:=R.own i T' ci hi bi hbi;obtain⟨bi',vi,h3,_,h4⟩:=R.rd.live i T' ci hi;rw[hbi] at h3;cases h3;exact⟨hd bi _ h1 h4,h2⟩
theorem zxf {f:Nat} (h:zfm P f=true) (args:Array Value) (w:World):(callFunc f args).run P w = .ok (.enter f args) w:=by
 unfold zfm at h;split at h
 ·rename_i fn hf;simp only[Bool.and_eq_true,bne_iff_ne,ne_eq] at h;simp[callFunc,hf,h.2];intro hn;simp[hn] at h
 ·cases h
theorem zDB (R:Rel β F w0 n s a w) {o:Oper} {f:Operand} {args:Array Operand} {ats:Array TypeId} (ho:o.op = .call { callee := .value f,args:=args,argTypes:=ats })
  {next:Act→World→Prop} {Q:Exit→Act→World→Prop} {K:SV→St→Prop} (h:vl P (.call f args.toList) s K)
  (hnext:∀ sv v s' w',K sv s'→sv.val β=some v→Rel β F w0 n s' a w'→next (a.put o.dst v) w'):o.wp P a w next Q:=by
 obtain⟨sv,v,hk,hv,he⟩:=zl R.fr h
 have key:∀ (g:Nat) (fst cap:Array Value) (vs:List Value) (s':St),v = .func (.func g) fst cap→vs=args.toList.map a.eval→Rel β F w0 n s' a w →
   callF P g (fst.toList++vs++cap.toList) s' K→o.wp P a w next Q:=by
  intro g fst cap vs s' hvf hvs R' hc;unfold callF at hc;rw[z8] at hc;obtain⟨hen,hc⟩:=hc;unfold Oper.wp
  have hrun:(execOp a.eval o).run P w = .ok (.enter g (fst++args.map a.eval++cap)) w:=by
   simp only[execOp,ho,resolve,he,hvf,Deferred.ofValue,Sem.run_bind,Sem.run_pure,Result.andThen_ok,invoke];rw[zxf hen]
  rw[hrun];simp only[Oper.upon]
  let F':Mem:=fun b=>if s'.M b=none then zj w b else none
  have hF'le:F'.le (zj w):=fun b o h=>by
   simp only[F'] at h;split at h
   ·exact h
   ·cases h
  have hdj:s'.M.disj F':=fun b=>by
   by_cases h:s'.M b=none
   ·exact .inl h
   ·right;simp only[F'];rw[if_neg h]
  have:=hc F' w R'.rd.M hF'le hdj
  have e:(fst.toList++vs++cap.toList).toArray=fst++args.map a.eval++cap:=by
   subst hvs;apply Array.ext';simp
  rw[e] at this;refine this.mono fun en w' ⟨v',M',he',hk',hM',hF2,hd2,e1,e2,e3,e4⟩=>?_
  subst he'
  have hsub:∀ b o,s'.M b=none→zj w b=some o→F' b=some o:=fun b o h1 h2=>by
   show (if s'.M b=none then zj w b else none)=some o;rw[if_pos h1];exact h2
  refine hnext _ _ _ w' hk' (zk3 β v') (Rel.called R' hM' (fun b o h1 h2=>hF2 b o (hsub b o h1 h2)) (fun b o h1 h2=>?_) e1 e2 e3 e4);rcases hd2 b with h|h
  ·exact h
  ·rw[hsub b o h1 h2] at h;cases h
 obtain⟨s',hk',R',_⟩:=zvq R hk;unfold zJ1 at hk';split at hk'
 ·rename_i g fst cap;simp[SV.val,SC.val] at hv;exact key g fst cap _ s' hv.symm rfl R' hk'
 ·rename_i g cap;simp only[SV.val,Option.map_eq_some_iff] at hv;obtain⟨cvs,hcv,rfl⟩:=hv;obtain⟨s2,hk2,R2,_⟩:=zee R' hcv hk';exact key g #[] cvs.toArray _ s2 rfl rfl R2 (by simpa using hk2)
 ·exact hk'.elim
theorem zxg {T:TypeId} {v:Value}:(newVar T v).run P w = .ok ⟨w.heap.size,0,none⟩ { w with heap:=w.heap.push (.cells v.cells T) }:=by
 simp[newVar,newRow]
theorem zp6 (z:Array Value) (m:Nat):(Array.range (m*z.size)).map (fun i=>z[i % z.size]!)=((List.replicate m z.toList).flatten).toArray:=by
 apply Array.ext';simp only[Array.toList_map,Array.toList_range]
 induction m with
 | zero=>simp
 | succ m ih=>
  rw[List.replicate_succ',List.flatten_append,←ih,Nat.succ_mul,List.range_add,List.map_append];congr 1;simp only[List.map_map,List.flatten_cons,List.flatten_nil,List.append_nil];apply List.ext_getElem?;intro j;simp only[List.getElem?_map];by_cases hj:j<z.size
  ·simp[hj,Nat.mod_eq_of_lt hj]
  ·simp[hj]
theorem zoD {P:Program} {T:TypeId} {z:List Value} {i:TypeInfo} (h:zcM P T=some z) (hi:P.info? T=some i):∃ zv,i.zero=some zv∧zv.cells=z.toArray∧z.length=i.size:=by
 unfold zcM at h;simp only[hi,Option.bind_some] at h;cases hz:i.zero with
 | none=>simp[hz] at h
 | some zz=>
  simp only[hz,Option.bind_some] at h;split at h
  ·rename_i hs;simp at h;subst h;exact⟨zz,rfl,by simp,by simpa using hs⟩
  ·cases h
theorem zvr {M:Mem} (hM:M.le (zj w)) {size:Nat} {p:Option Addr} {m c:Nat} {vs:List Value} (h:SrcOk M size p m vs) :
  vs.length=m*size∧(Builtin.firstCells size m (.slice p m c)).run P w = .ok vs.toArray w∧(Builtin.firstCells size m (.slice p m c)).run P w.drew = .ok vs.toArray w.drew:=by
 obtain⟨hl,h⟩:=h;refine⟨hl,?_⟩;rcases h with rfl|⟨b,o,rfl,hrow⟩
 ·cases p with
  | none=>exact⟨run_firstCells_none w size m m c,run_firstCells_none w.drew size m m c⟩
  | some q=>exact⟨run_firstCells_some w size m q m c [] hl (fun j v hj=>by simp at hj),run_firstCells_some w.drew size m q m c [] hl (fun j v hj=>by simp at hj)⟩
 ·have hc:∀ (j:Nat) (v:Value),vs[j]? = some v→w.cell? ((⟨b,o,none⟩:Addr).add j)=some v:=by
   intro j v hj;obtain⟨cs,e,fz,hh,hle,hvs⟩:=znw hM hrow;rw[zcN,zj1 hh];have hj2:=(List.getElem?_eq_some_iff.1 hj).1
   have h3:((cs.toList.drop o).take (m*size))[j]? = some v:=hvs▸hj;rw[List.getElem?_take] at h3;split at h3
   ·simpa using h3
   ·cases h3
  exact⟨run_firstCells_some w size m _ m c vs hl hc,run_firstCells_some w.drew size m _ m c vs hl hc⟩
theorem zxh (R:Rel β F w0 n s a w) {size:Nat} {tx:TypeId} {sv:SV} {v:Value} (hv:sv.val β=some v) {k:Nat→List Value→St→Prop} (h:zr0 size sv s k) (hk:zAy P tx=true) :
  ∃ m news s',k m news s'∧Rel β F w0 n s' a w∧((∀ u∈news,u.oneCell'=true)→Src P size tx v m news w):=by
 have kind:(∃ e',P.underlying tx=some (.slice e'))∨P.underlying tx=some .string:=by
  unfold zAy at hk;split at hk
  ·exact .inl ⟨_, ‹_›⟩
  ·exact .inr ‹_›
  ·cases hk
 unfold zr0 at h;split at h
 ·rename_i j m;unfold zHC at h;rw[zno] at h;split at h
  ·rename_i T cs hj;obtain⟨hl,h⟩:=zdz h;obtain⟨b,vs,hb,hvs,hh⟩:=R.rd.live j T cs hj;obtain⟨s',hk',R',_⟩:=zee R hvs h;simp[SV.val,hb] at hv;subst hv;have hvl:=zbb hvs
   have hc:∀ (j:Nat) (v:Value),vs[j]? = some v→w.cell? ((⟨b,0,none⟩:Addr).add j)=some v:=by
    intro j v hj;rw[zcN,zj1 hh];simpa using hj
   exact⟨m,vs,s',hk',R',fun h1=>⟨kind,fun _=>rfl,run_firstCells_some w size m _ m m vs (by omega) hc,run_firstCells_some w.drew size m _ m m vs (by omega) hc,by omega,h1⟩⟩
  ·exact h.elim
 ·rename_i p m c;obtain⟨vs,hsrc,h⟩:=h;simp[SV.val,SC.val] at hv;subst hv;obtain⟨h1,h2,h3⟩:=zvr (P:=P) (c:=c) R.rd.M hsrc;exact⟨m,vs,_,h,R,fun h4=>⟨kind,fun _=>rfl,h2,h3,h1,h4⟩⟩
 ·rename_i b;obtain⟨hl,h⟩:=zdz h;subst hl;simp[SV.val,SC.val] at hv;subst hv;exact⟨b.size,byteCells b,s,h,R,fun h4=>⟨kind,fun _=>rfl,firstCells_string b w,firstCells_string b w.drew,by rw[byteCells_length];omega,h4⟩⟩
 ·exact h.elim
theorem zym (M:Mem) (b:Nat) (E:TypeId) (x y:List Value):(M.setCells b E x).setCells b E y=M.setCells b E y:=by
 funext c;by_cases h:c=b
 ·subst h;simp[Mem.setCells,Mem.upd_same]
 ·simp[Mem.setCells,Mem.upd_ne _ _ h]
theorem zAT (R:Rel β F w0 n s a w) {E t tx ty:TypeId} {i:TypeInfo} {z:Value} {p:Option Addr} {m c m':Nat} {news:List Value} {k:Option Addr→Nat→Mem→Prop} {v:Value}
  (ht:P.underlying t=some (.slice E)) (hi:P.info? E=some i) (hz:i.zero=some z) (hzs:z.cells.size=i.size) (hs:(∀ u∈news,u.oneCell'=true)→Src P i.size tx v m' news w)
  (hby:(m+m')*i.bytes≤140737488355328) (hmax:m+m'≤maxLen) (h1:∀ u∈news,u.oneCell'=true) {M0:Mem} {L:List Value} (hL:L.length=m*i.size) (hroom:¬m+m'≤c) (hM0:M0.le s.M)
  (hold:(Builtin.firstCells i.size m (.slice p m c)).run P w.drew = .ok L.toArray w.drew)
  (hk:∀ a' c' M',c'≤maxLen→Own M0 E i.size a' (m+m') c' (L++news) M'→k a' c' M') :
  ∃ p' c' M' w',(Builtin.append_ #[t,tx] ty #[.slice p m c,v]).run P w = .ok (.slice p' (m+m') c') w'∧k p' c' M'∧Rel β F w0 n { s with M:=M' } a w':=by
 have hs:=hs h1;have hnl:=hs.newsLen
 have hsmall:m+m'≤9223372036854775807:=by simp only[maxLen] at hmax;omega
 have hrun:=run_append_grow_src (P:=P) w t tx ty E i z ht hi hz p m c L hold v m' news hs (by omega) (by omega) (growslice_fits (by omega) hby);have hge:=grownCap_ge w (m+m') c E
 have hnew:∀ o,zj w w.heap.size≠some o:=fun o h=>by
  have:w.heap[w.heap.size]? = some o:=h;simp at this
 let cells:List Value:=L++news++(Builtin.zeroCells z.cells (grownCap w (m+m') c E - (m+m'))).toList
 have hcells:((L++news).toArray++Builtin.zeroCells z.cells (grownCap w (m+m') c E - (m+m')))=cells.toArray:=by
  apply Array.ext';simp[cells]
 rw[hcells] at hrun;refine⟨_,_,M0.setCells w.heap.size E cells,_,hrun,hk _ (grownCap w (m+m') c E) _ (grownCap_le_maxLen w (m+m') c E hmax) ⟨by rw[List.length_append,hL,hnl,Nat.add_mul],hge,.inr ⟨w.heap.size,cells,rfl,?_,rfl,?_,?_⟩⟩,?_⟩
 ·cases h:M0 w.heap.size with
  | none=>rfl
  | some o=>exact absurd (R.rd.M _ _ (hM0 _ _ h)) (hnew o)
 ·simp only[cells,List.length_append,hL,hnl,Array.length_toList,size_zeroCells,hzs];rw[←Nat.add_mul,←Nat.add_mul];congr 1;omega
 ·simp only[cells];rw[List.take_append_of_le_length (by simp[hL,hnl,Nat.add_mul]),List.take_of_length_le (by simp[hL,hnl,Nat.add_mul])]
 ·refine Rel.called R ?_ (fun b o _ h=>zbG w _ h) (fun b o h1 h2=>?_) rfl rfl rfl ⟨by simp[World.alloc],Nat.le_succ _⟩
  ·intro x o hx;by_cases hxe:x=w.heap.size
   ·subst hxe;simp[Mem.setCells,Mem.upd_same] at hx;subst hx;show (w.heap.push _)[w.heap.size]? = _
    simp
   ·simp[Mem.setCells,Mem.upd_ne _ _ hxe] at hx;exact zbG w _ (R.rd.M _ _ (hM0 _ _ hx))
  ·have hne:b≠w.heap.size:=fun e=>by subst e;exact hnew _ h2
   simp only[Mem.setCells,Mem.upd_ne _ _ hne];cases h:M0 b with
   | none=>rfl
   | some o'=>rw[hM0 _ _ h] at h1;cases h1
theorem zGe (R:Rel β F w0 n s a w) {E t tx ty:TypeId} {i:TypeInfo} {z:Value} {p:Option Addr} {m c m':Nat} {news:List Value} {k:Option Addr→Nat→Mem→Prop} {v:Value}
  (ht:P.underlying t=some (.slice E)) (hi:P.info? E=some i) (hz:i.zero=some z) (hzs:z.cells.size=i.size) (hs:(∀ u∈news,u.oneCell'=true)→Src P i.size tx v m' news w)
  (h:zaU E i.size i.bytes p m c m' news s.M k) :
  ∃ p' c' M' w',(Builtin.append_ #[t,tx] ty #[.slice p m c,v]).run P w = .ok (.slice p' (m+m') c') w'∧k p' c' M'∧Rel β F w0 n { s with M:=M' } a w':=by
 obtain⟨hby,hmax,h1,⟨M0,L,⟨hL,hmc,hown⟩,hk⟩|⟨hroom,hmc,L,hsrc,hk⟩|⟨hz0,hmc,hk⟩⟩:=h
 rotate_left
 ·obtain⟨h2, -, h3⟩:=zvr (P:=P) (c:=c) R.rd.M hsrc;exact zAT R ht hi hz hzs hs hby hmax h1 h2 (by omega) (Mem.le_refl _) h3 hk
 ·subst hz0;have hs:=hs h1
  have:news=[]:=by simpa using hs.newsLen
  subst this;exact⟨p,c,s.M,w,run_append_nothing (P:=P) w t tx ty E i ht hi p m c hmc v hs,hk,R⟩
 have hs:=hs h1;have hnl:=hs.newsLen
 have hsmall:m+m'≤9223372036854775807:=by simp only[maxLen] at hmax;omega
 by_cases hroom:m+m'≤c
 ·by_cases hnews:m'=0
  ·subst hnews;have:news=[]:=by simpa using hnl
   subst this;have hrun:=run_append_nothing (P:=P) w t tx ty E i ht hi p m c hmc v hs
   refine⟨p,c,s.M,w,hrun,hk p c s.M (.inl rfl) ?_,R⟩;simpa using ⟨hL,hmc,hown⟩
  ·rcases hown with ⟨_,hc0,_⟩|⟨b,cs,rfl,hb0,hM,hcl,hct⟩
   ·omega
   ·have hMb:s.M b=some (.cells cs.toArray E (0,0)):=by rw[hM];simp[Mem.setCells,Mem.upd_same]
    have hh:=R.rd.M b _ hMb;have hle:(m+m')*i.size≤c*i.size:=Nat.mul_le_mul_right _ hroom
    rw[Nat.add_mul] at hle;have hst:=run_storeCells_at (P:=P) b (m*i.size) E news 0 cs.toArray w hh (by simp;omega) hs.one
    simp only[Nat.add_zero] at hst
    have hrun:(Builtin.append_ #[t,tx] ty #[.slice (some ⟨b,0,none⟩) m c,v]).run P w = .ok (.slice (some ⟨b,0,none⟩) (m+m') c) (w.setRow b (splice cs (m*i.size) news).toArray):=by
     rcases hs.kind with ⟨e',hkd⟩|hkd<;>simp[Builtin.append_,run_underlying ht,run_underlying hkd,sizeOf,typeInfo,hi,hs.len,hroom,hs.cells,Addr.add_lit,hst,splice]
    have R':=Rel.setMem R hMb (splice cs (m*i.size) news)
    have e:s.M.upd b (.cells (splice cs (m*i.size) news).toArray E (0,0))=M0.setCells b E (splice cs (m*i.size) news):=by
     rw[hM];exact zym M0 b E cs _
    rw[e] at R';refine⟨_,_,_,_,hrun,hk _ c _ (.inl rfl) ⟨by rw[List.length_append,hL,hnl,Nat.add_mul],hroom,.inr ⟨b,_,rfl,hb0,rfl,?_,?_⟩⟩,R'⟩
    ·rw[zml _ _ _ (by omega),hcl]
    ·have e2:(cs.take (m*i.size)).length=m*i.size:=by rw[hct,hL]
     rw[splice,hct,List.take_append_of_le_length (by simp[hL,hnl,Nat.add_mul]),List.take_of_length_le (by simp[hL,hnl,Nat.add_mul])]
 ·have hold:(Builtin.firstCells i.size m (.slice p m c)).run P w.drew = .ok L.toArray w.drew:=by
   rcases hown with ⟨rfl,hc0,_⟩|⟨b,cs,rfl,hb0,hM,hcl,hct⟩
   ·have:L=[]:=by
     have:m=0:=by omega
     subst this;simpa using hL
    subst this;exact run_firstCells_none w.drew i.size m m c
   ·have hMb:s.M b=some (.cells cs.toArray E (0,0)):=by rw[hM];simp[Mem.setCells,Mem.upd_same]
    have hh:=R.rd.M b _ hMb;refine run_firstCells_some w.drew i.size m _ m c L hL fun j u hj=>?_
    show w.cell? _=some u;rw[zcN,zj1 hh];rw[←hct] at hj;simp[List.getElem?_take] at hj;simpa using hj.2
  have hM0:M0.le s.M:=by
   rcases hown with ⟨_,_,e⟩|⟨b,cs,_,hb0,e,_,_⟩
   ·rw[e];exact Mem.le_refl _
   ·rw[e];intro x o hx;have hne:x≠b:=fun e=>by subst e;rw[hb0] at hx;cases hx
    simpa[Mem.setCells,Mem.upd_ne _ _ hne] using hx
  exact zAT R ht hi hz hzs (fun _=>hs) hby hmax h1 hL hroom hM0 hold fun a' c' M' hc' ho=>hk a' c' M' (.inr hc') ho
theorem zGf {b:Nat} {o o':Obj} (hb:w.heap[b]? = some o):(w.heap.setIfInBounds b o')[b]? = some o'∧∀ x,x≠b→(w.heap.setIfInBounds b o')[x]? = w.heap[x]? := MapKept.heap_set hb
theorem zin {b:Nat} {o o':Obj} (hb:w.heap[b]? = some o) (hne:∀ c e f,o ≠ .cells c e f):(setObj b o').run P w = .ok () { w with heap:=w.heap.setIfInBounds b o' }:=by
 cases o with
 | cells c e f=>exact absurd rfl (hne c e f)
 | _=>simp[setObj,Sem.run,hb]
theorem zCV (w:World) (o:Obj):zj w w.heap.size≠some o:=fun h=>by
 have:w.heap[w.heap.size]? = some o:=h;simp at this
theorem Rel.newObj (R:Rel β F w0 n s a w) (o:Obj):Rel β F w0 n { s with M:=s.M.upd w.heap.size o } a { w with heap:=w.heap.push o }:=by
 refine Rel.called R ?_ (fun b o' _ h=>zbG w _ h) (fun b o' h1 h2=>?_) rfl rfl rfl ⟨by simp,Nat.le_refl _⟩
 ·intro x o' hx;by_cases hxe:x=w.heap.size
  ·subst hxe;rw[Mem.upd_same] at hx;cases hx;show (w.heap.push _)[w.heap.size]? = _
   simp
  ·rw[Mem.upd_ne _ _ hxe] at hx;exact zbG w _ (R.rd.M _ _ hx)
 ·have hne:b≠w.heap.size:=fun e=>by subst e;exact zCV w _ h2
  rw[Mem.upd_ne _ _ hne];exact h1
theorem New.here (R:Rel β F w0 n s a w) {k:Nat→Prop} (h:New s.M k):k w.heap.size:=by
 refine h _ ?_;cases hx:s.M w.heap.size with
 | none=>rfl
 | some o=>exact absurd (R.rd.M _ _ hx) (zCV w o)
theorem Rel.setObj (R:Rel β F w0 n s a w) {b:Nat} {o:Obj} (hb:s.M b=some o) (o':Obj):Rel β F w0 n { s with M:=s.M.upd b o' } a { w with heap:=w.heap.setIfInBounds b o' }:=by
 have hh:=R.rd.M b _ hb;obtain⟨h1,h2⟩:=zGf (w:=w) (o':=o') hh;refine Rel.called R ?_ (fun c o2 hc h=>?_) (fun c o2 hc h=>?_) rfl rfl rfl ⟨by simp,Nat.le_refl _⟩
 ·intro x o2 hx;by_cases hxb:x=b
  ·subst hxb;rw[Mem.upd_same] at hx;cases hx;exact h1
  ·rw[Mem.upd_ne _ _ hxb] at hx;show (w.heap.setIfInBounds b o')[x]? = _
   rw[h2 x hxb];exact R.rd.M x _ hx
 ·have hne:c≠b:=fun e=>by subst e;rw[hb] at hc;cases hc
  show (w.heap.setIfInBounds b o')[c]? = _;rw[h2 c hne];exact h
 ·have hne:c≠b:=fun e=>by subst e;rw[hb] at hc;cases hc
  rw[Mem.upd_ne _ _ hne];exact hc
theorem zm7 {r:Option Nat} {A:Prop} {k:Nat→Prop} (h:zpX r A k):(r=none∧A)∨∃ b,r=some b∧k b:=by
 cases r with
 | none=>exact .inl ⟨rfl,h⟩
 | some b=>exact .inr ⟨b,rfl,h⟩
theorem Rel.drew (R:Rel β F w0 n s a w):Rel β F w0 n s a w.drew:=Rel.called R R.rd.M (fun _ _ _ h=>h) (fun _ _ h _=>h) rfl rfl rfl ⟨Nat.le_refl _,Nat.le_succ _⟩
theorem zCb {key:Value} {es:Array MapEntry} {f:Option (Nat×Value)} (h:kfind key es.toList 0=some f) (i:Nat) (v:Value) (hf:f=some (i,v)) :
  ∃ e,es[i]? = some e∧e.key=key:=by
 have gen:∀ (l:List MapEntry) (j:Nat),kfind key l j=some f→∃ e,l[i - j]? = some e∧e.key=key∧j≤i:=by
  intro l
  induction l with
  | nil=>intro j h;subst hf;simp[kfind] at h
  | cons e l ih=>
   intro j h;simp only[kfind] at h;split at h
   ·rename_i hs;subst hf;simp at h;obtain⟨rfl,_⟩:=h;exact⟨e,by simp,(zHE hs).symm,Nat.le_refl _⟩
   ·obtain⟨e',h1,h2,h3⟩:=ih (j+1) h;refine⟨e',?_,h2,by omega⟩;rw[show i - j=(i - (j+1))+1 by omega];simpa using h1
   ·cases h
 obtain⟨e,h1,h2,_⟩:=gen es.toList 0 h;exact⟨e,by simpa using h1,h2⟩
theorem zHH {T K E:TypeId} {kk:KK} (hT:P.underlying T=some (.map K E)) (hk:zbN P K=some kk) {key v:Value} (hok:ztK kk key) {b:Nat} {p:Array MapEntry×Nat} (hb:w.heap[b]? = some (.map p.1 p.2))
  {f:Option (Nat×Value)} (h:kfind key p.1.toList 0=some f) :
  (Instr.mapUpdate T (.map (some b)) key v).run P w = .ok () { w with heap:=w.heap.setIfInBounds b (mput p f key v) }:=by
 have hg:=MapKept.run_getObj_map (P:=P) hb;have hc:=fun em=>zl6 (P:=P) hk hok em 9998 w
 have hfr:=zp2 (P:=P) hk hok h w;have hst:=zGa (P:=P) hok w
 cases f with
 | none=>
  simp[Instr.mapUpdate,run_underlying hT,hg,hc,hfr,Result.andThen,zin hb (fun _ _ _ h=>by cases h),mput]
 | some q=>
  obtain⟨i,v0⟩:=q;obtain⟨e,h1,h2⟩:=zCb h i v0 rfl;simp[Instr.mapUpdate,run_underlying hT,hg,hc,hfr,Result.andThen,zin hb (fun _ _ _ h=>by cases h),mput,h1,h2,hst]
theorem zHI {T K E ty:TypeId} {U:TypeId} {kk:KK} (hT:P.underlying T=some (.map K E)) (hk:zbN P K=some kk) {key:Value} (hok:ztK kk key) {b:Nat} {p:Array MapEntry×Nat} (hb:w.heap[b]? = some (.map p.1 p.2))
  {f:Option (Nat×Value)} (h:kfind key p.1.toList 0=some f) :
  (Builtin.delete_ #[T,U] ty #[.map (some b),key]).run P w = .ok (.tuple #[]) { w with heap:=w.heap.setIfInBounds b (zw1 p f) }:=by
 have hg:=MapKept.run_getObj_map (P:=P) hb;have hc:=fun em=>zl6 (P:=P) hk hok em 9998 w
 have hfr:=zp2 (P:=P) hk hok h w;cases f with
 | none=>simp[Builtin.delete_,run_underlying hT,hg,hc,hfr,Result.andThen,zin hb (fun _ _ _ h=>by cases h),zw1]
 | some q=>
  obtain⟨i,v0⟩:=q;simp[Builtin.delete_,run_underlying hT,hg,hc,hfr,Result.andThen,zin hb (fun _ _ _ h=>by cases h),zw1]
theorem zDC (R:Rel β F w0 n s a w) {b since last m clock:Nat} {seen:Array Nat} {es:Array MapEntry} {ty:TypeId} {k:SV→Mem→Prop} (hb:s.M b=some (.mapIter (some m) since seen last)) (hm:s.M m=some (.map es clock))
  (h:zaV s.M b since last m seen es clock k) :
  ∃ sv v M' w',(Instr.next (.pointer (some ⟨b,0,none⟩)) false ty).run P w = .ok v w'∧k sv M'∧sv.val β=some v∧Rel β F w0 n { s with M:=M' } a w':=by
 obtain⟨h0,hover,hnext⟩:=h;have hB:w.heap[b]? = _:=R.rd.M b _ hb
 have hMm:w.heap[m]? = _:=R.rd.M m _ hm
 have test:(!seen.isEmpty && !es.isEmpty&&es.all (fun x=>decide (x.born≥last)))=false:=by
  rcases h0 with h0|h0|⟨e,he,hlt⟩
  ·simp[h0]
  ·simp[h0]
  ·have:es.all (fun x=>decide (x.born≥last))=false:=by
    rw[Bool.eq_false_iff];intro hall;rw[Array.all_eq_true_iff_forall_mem] at hall;have:=hall e (by simpa using he)
    simp at this;omega
   simp[this]
 have g1:(getObj b).run P w = .ok (.mapIter (some m) since seen last) w:=by simp[getObj,Sem.run,hB]
 have g2:(getObj m).run P w = .ok (.map es clock) w:=by simp[getObj,Sem.run,hMm]
 let left:=es.filter fun e => !seen.contains e.born
 let old:=left.filter fun x=>decide (x.born<since)
 let new:=left.filter fun x=>decide (x.born≥since)
 let cands:Array (Option MapEntry):=(if old.isEmpty then #[none] else #[])++(old++new).map some
 have hpos:0<cands.size:=by
  simp only[cands];cases ho:old.isEmpty with
  | true=>simp;omega
  | false=>
   have:0<old.size:=by
    rcases Nat.eq_zero_or_pos old.size with h|h
    ·simp[Array.isEmpty,h] at ho
    ·exact h
   simp;omega
 have hch:∃ (j:Nat) (w1:World),j<cands.size∧(w1=w∨w1=w.drew)∧(choose (Question.mapNext cands.size)).run P w = .ok j w1:=by
  by_cases hf:cands.size≤1
  ·exact⟨0,w,hpos,.inl rfl,by simp[choose,Sem.run,Question.forced,hf]⟩
  ·exact⟨_,w.drew,Nat.mod_lt _ hpos,.inr rfl,by
    simp only[choose,Sem.run,Question.forced,decide_eq_true_eq,hf,if_false,Question.cut]
    rfl⟩
 obtain⟨j,w1,hj,hw1,hrun⟩:=hch
 have R1:Rel β F w0 n s a w1:=by
  rcases hw1 with rfl|rfl
  ·exact R
  ·exact R.drew
 have hB1:w1.heap[b]? = _:=R1.rd.M b _ hb
 have hmem:∀ x∈cands,(x=none∧old.isEmpty=true)∨∃ e,x=some e∧e∈es.toList∧seen.contains e.born=false:=by
  intro x hx;simp only[cands,Array.mem_append,Array.mem_map] at hx;rcases hx with hx|⟨e,he,rfl⟩
  ·split at hx
   ·simp at hx;exact .inl ⟨hx, ‹_›⟩
   ·simp at hx
  ·refine .inr ⟨e,rfl,?_⟩
   have:e∈left:=by
    simp only[old,new,Array.mem_filter] at he;rcases he with he|he
    ·exact he.1
    ·exact he.1
   simp only[left,Array.mem_filter,Bool.not_eq_true'] at this;exact⟨by simpa using this.1,this.2⟩
 have hpre:(Instr.next (.pointer (some ⟨b,0,none⟩)) false ty).run P w=(match cands[j]? with
   | some (some e)=>((do setObj b (.mapIter (some m) since (seen.push e.born) clock);pure (.tuple #[.bool true,e.key,e.val])):Sem Value).run P w1
   | some none => .ok (.tuple #[.bool false]) w1
   | none=>(stuck "Next: no such candidate" : Sem Value).run P w1):=by
  simp only[Instr.next,Sem.run_bind,g1,g2,Result.andThen_ok,test,Bool.false_eq_true,if_false];have:(choose (Question.mapNext cands.size)).run P w = .ok j w1:=hrun
  simp only[cands,old,new,left] at this ⊢;rw[this];simp only[Result.andThen_ok];split<;>simp_all
 rw[hpre];rw[Array.getElem?_eq_getElem hj];rcases hmem _ (Array.getElem_mem hj) with ⟨hx,hold⟩|⟨e,hx,he,hs⟩
 ·rw[hx];refine⟨_,_,_,_,rfl,hover ?_,rfl,R1⟩;intro e he;by_cases hse:seen.contains e.born=true
  ·exact .inl hse
  ·right;rcases Nat.lt_or_ge e.born since with hlt|hge
   ·exfalso
    have:e∈old:=by
     simp only[old,left,Array.mem_filter];exact⟨⟨by simpa using he,by simpa using hse⟩,by simpa using hlt⟩
    rw[Array.isEmpty_iff] at hold;rw[hold] at this;simp at this
   ·exact hge
 ·rw[hx];have hR:=Rel.setObj R1 hb (.mapIter (some m) since (seen.push e.born) clock)
  refine⟨_,_,_,_,?_,hnext e he hs,rfl,hR⟩;simp only[Sem.run_bind,zin hB1 (fun _ _ _ h=>by cases h),Result.andThen_ok,Sem.run_pure]
def Ext (β β':List Nat) (r:ROp) (w w':World):Prop:=(∃ γ,β'=β++γ)∧(zhi r=true→∀ b o,zj w b=some o→zj w' b=some o)
theorem Ext.same {r:ROp} {w':World} (h:zhi r=false):Ext β β r w w':=⟨⟨[],by simp⟩,fun e=>by rw[h] at e;cases e⟩
theorem zxi (R:Rel β F w0 n s a w) {o:Oper} {T KT ET:TypeId} {x key y:Operand} {kk:KK} (ho:o.op = .mapUpdate T x key y∨o.op = .insert T x key y) (hu:P.underlying T=some (.map KT ET)) (hkk:zbN P KT=some kk)
  {next:Act→World→Prop} {Q:Exit→Act→World→Prop} {K:SV→St→Prop} (h:vl P (.mset kk x key y) s K)
  (hnext:∀ s' w',K .dead s'→Rel β F w0 n s' a w'→next (a.put o.dst undef) w'):o.wp P a w next Q:=by
 simp only[vl] at h;obtain⟨u,uv,hk,hu2,he⟩:=zl R.fr h;obtain⟨r,hk,rfl⟩:=zim hk hu2;rcases zm7 hk with ⟨rfl,hk⟩|⟨b,rfl,hk⟩
 ·exact hk.elim
 obtain⟨kv,kvv,hk,hkv,he'⟩:=zl R.fr hk;obtain⟨hk,hok⟩:=zp1 hk hkv;obtain⟨sv,v,hk,hv,he2⟩:=zl R.fr hk;obtain⟨s1,hk,R1,_⟩:=zdB R hv hk;obtain⟨p,hp,hk⟩:=zK hk;obtain⟨f,hfi,hk⟩:=zK hk;have hMb:=zeS hp
 have hrun:=zHH (P:=P) hu hkk (v:=v) hok (R1.rd.M _ _ hMb) hfi
 have hrun':(execOp a.eval o).run P w = .ok .skip { w with heap:=w.heap.setIfInBounds b (mput p f kvv v) }:=by
  rcases ho with ho|ho<;>simp only[execOp,ho,he,he',he2,Sem.run_bind,hrun,Result.andThen_ok,Sem.run_pure]
 unfold Oper.wp;rw[hrun'];exact hnext _ _ hk (Rel.setObj R1 hMb _)
theorem zDD {M:Mem} {r:Nat} {p:ByteArray×Nat} (h:M.sitAt r=some p):M r=some (.stringIter p.1 p.2):=by
 unfold Mem.sitAt at h;split at h
 ·rename_i s q hm;simp at h;subst h;exact hm
 ·cases h
theorem zHJ {ops:List Oper} {o:Oper} {r:ROp} (hr:zn P ops o=some r) (hq:zy r=false) (R:Rel β F w0 n s a w)
  {next:Act→World→Prop} {Q:Exit→Act→World→Prop} {K:SV→St→Prop} (h:vl P r s K)
  (hnext:∀ β' sv v s' w',K sv s'→(sv = .dead∨sv.val β'=some v)→Rel β' F w0 n s' a w'→Ext β β' r w w'→next (a.put o.dst v) w'):o.wp P a w next Q:=by
 cases ho:o.op with
 | box T x=>
  simp[zn,ho] at hr;subst hr;simp only[vl] at h;obtain⟨sv,v,hk,hv,he⟩:=zl R.fr h;obtain⟨cs,hcs,hk⟩:=zK hk;obtain⟨us,hu,hc⟩:=zvC hv hcs;simp only[z8,znp] at hk
  have hrun:(execOp a.eval o).run P w = .ok (.value (.pointer (some ⟨w.heap.size,0,none⟩))) { w with heap:=w.heap.push (.cells us.toArray T) }:=by
   simp[execOp,ho,Instr.box,he,zxg,hc]
  unfold Oper.wp;rw[hrun];have R':=Rel.newBox R T hu
  refine hnext _ _ _ _ _ hk (.inr ?_) R' ⟨⟨_,rfl⟩,fun _ b x hx=>zbG w _ hx⟩;simp[SV.val,SC.val,←R.len]
 | alloc T=>
  simp only[zn,ho,Option.map_eq_some_iff] at hr;obtain⟨z,hz,rfl⟩:=hr;simp only[vl,z8,znp] at h;obtain⟨zv,hzv,hzc⟩:=zp0 w hz
  have hrun:(execOp a.eval o).run P w = .ok (.value (.pointer (some ⟨w.heap.size,0,none⟩))) { w with heap:=w.heap.push (.cells z.toArray T) }:=by
   simp only[execOp,ho,Instr.alloc,Sem.run_bind,hzv,Result.andThen_ok,zxg,hzc,Sem.run_pure]
  unfold Oper.wp;rw[hrun];have R':=Rel.newBox R T (zdy β z)
  refine hnext _ _ _ _ _ h (.inr ?_) R' ⟨⟨_,rfl⟩,fun _ b x hx=>zbG w _ hx⟩;simp[SV.val,SC.val,←R.len]
 | store T p x=>
  simp only[zn,ho,Option.map_eq_some_iff] at hr;obtain⟨m,hm,rfl⟩:=hr;simp only[vl] at h;obtain⟨sv,v,hk,hv,he⟩:=zl R.fr h;obtain⟨l,hl,hk⟩:=zK hk
  obtain⟨hone,hk2⟩:l.all zw3=true∧_:=by
   unfold oneC at hk;split at hk
   ·exact⟨‹_›, hk⟩
   ·exact hk.elim
  obtain⟨us,hu,hc⟩:=zvC hv hl;have hul:=zbb hu
  have h1:=zDA hu hone;rcases R.rd.evP R.fr hk2 with ⟨j,o',T',cs,b,vs,hj,hk3,hb,hvs,hp⟩|⟨b,o',hk3,hp⟩
  ·obtain⟨cs',hfit,hk4⟩:=zK hk3;obtain⟨hlm,hle,rfl⟩:=zzu hfit;rw[z8,zno,hj] at hk4;simp only[zMc,zCU] at hk4;obtain⟨b',vs',hb',hvs',hh⟩:=R.rd.live j T' cs hj;rw[hb] at hb';cases hb';rw[hvs] at hvs';cases hvs';have hvl:=zbb hvs
   have hst:=zos (P:=P) (o:=o') hm hc (by omega) hh (by simp;omega) h1
   have hrun:(execOp a.eval o).run P w = .ok .skip (w.setRow b (splice vs o' us).toArray):=by
    simp only[execOp,ho,Instr.storeAt,hp,he,Instr.sureAddr,Sem.run_bind,Sem.run_pure,Result.andThen_ok,hst]
   unfold Oper.wp;rw[hrun];exact hnext _ _ _ _ _ hk4 (.inl rfl) (Rel.setBox R hj hb hh (zvh o' hvs hu)) (Ext.same rfl)
  ·obtain⟨hlm,hk3⟩:l.length=m∧_:=by
    unfold zkg at hk3;split at hk3
    ·exact⟨Nat.eq_of_beq_eq_true ‹_›, hk3⟩
    ·exact hk3.elim
   obtain⟨s',hk4,R',_⟩:=zee R hu hk3;obtain⟨⟨e,c⟩,hMc,hk5⟩:=zK hk4;obtain⟨hle,hk6⟩:=hk5
   have hMb:s'.M b=some (.cells c.toArray e (0,0)):=by
    unfold Mem.cells at hMc;split at hMc
    ·rename_i c' e' hc';simp at hMc;obtain⟨rfl,rfl⟩:=hMc;simpa using hc'
    ·cases hMc
   have hh:=R'.rd.M b _ hMb;simp only at hle;have hst:=zos (P:=P) (o:=o') hm hc (by omega) hh (by simp;omega) h1
   have hrun:(execOp a.eval o).run P w = .ok .skip (w.setRow b (splice c o' us).toArray):=by
    simp only[execOp,ho,Instr.storeAt,hp,he,Instr.sureAddr,Sem.run_bind,Sem.run_pure,Result.andThen_ok,hst]
   unfold Oper.wp;rw[hrun];exact hnext _ _ _ _ _ hk6 (.inl rfl) (Rel.setMem R' hMb _) (Ext.same rfl)
 | buildSlice T m parts=>
  simp only[zn,ho] at hr;split at hr
  ·rename_i E hu;simp only[Option.bind_eq_some_iff] at hr;obtain⟨z,hz,sz,hsz,hr⟩:=hr;split at hr
   ·rename_i hcond;obtain⟨hbig,hsz0⟩:=hcond;simp only[Option.some.injEq] at hr;subst hr;simp only[vl,z8,znp] at h;have hzs:=zvi hz
    have hzl:z.length=sz:=by rw[hzs] at hsz;exact Option.some.inj hsz
    obtain⟨cs',us',h1,h2,h3,h4⟩:=zlX R.fr (fun i=>some (i*sz,sz)) parts.toList _ _ _ _ (by simp) (zdy β _) h;obtain⟨zv,hzv,hzc⟩:=zp0 w hz;have e:(parts.map fun (x:Nat×Operand)=>(x.1,a.eval x.2)).toList=parts.toList.map fun p=>(p.1,a.eval p.2):=by simp
    have hzero:(Array.range (m*sz)).map (fun i=>zv.cells[i % zv.cells.size]!)=((List.replicate m z).flatten).toArray:=by
     have hs:zv.cells.size=sz:=by rw[hzc];simpa using hzl
     have:=zp6 zv.cells m;rw[hs] at this ⊢;rw[this,hzc]
    have hrun:(execOp a.eval o).run P w = .ok (.value (.slice (some ⟨w.heap.size,0,none⟩) m m)) { w with heap:=w.heap.push (.cells us'.toArray E) }:=by
     have hnb:¬m*sz>2 ^ 24:=by omega
     by_cases hm0:m*sz=0
     ·have hm00:m=0:=by
       rcases Nat.mul_eq_zero.1 hm0 with h|h
       ·exact h
       ·exact absurd h hsz0
      subst hm00;simp only[List.replicate_zero,List.flatten_nil] at h4;have hr0:(Array.range 0).map (fun i=>(#[]:Array Value)[i % (#[]:Array Value).size]!) = #[]:=by simp
      simp only[execOp,ho,Instr.buildSlice,Sem.run_bind,run_underlying hu,zao hsz,Result.andThen_ok,Nat.zero_mul,e,if_true,Nat.not_lt_zero,if_false,Sem.run_pure,gt_iff_lt,hr0,h4,newRow,run_newObj]
     ·simp only[execOp,ho,Instr.buildSlice,Sem.run_bind,run_underlying hu,zao hsz,Result.andThen_ok,e,Sem.run_ite,hnb,if_false,hm0,hzv,Sem.run_pure,hzero,h4,newRow,run_newObj]
    unfold Oper.wp;rw[hrun];have R':=Rel.newBox R E h2
    cases hfl:zCS ops o with
    | true=>
     rw[hfl] at h1;refine hnext _ _ _ _ _ h1 (.inr ?_) R' ⟨⟨_,rfl⟩,fun _ b x hx=>zbG w _ hx⟩;simp[SV.val,←R.len]
    | false=>
     rw[hfl] at h1;obtain⟨b,s',hk,R2,hb,_⟩:=zor R' h1;refine hnext _ _ _ _ _ hk (.inr ?_) R2 ⟨⟨_,rfl⟩,fun _ b x hx=>zbG w _ hx⟩;have:(β++[w.heap.size])[s.bx.length]? = some w.heap.size:=by rw[←R.len];simp
     rw[this] at hb;cases hb;simp[SV.val,SC.val]
   ·cases hr
  ·cases hr
 | call c=>
  obtain⟨callee,args,argTypes⟩:=c;cases callee with
  | value f=>
   simp[zn,ho] at hr;subst hr;exact zDB R ho h fun sv v s' w' hk hv R'=>hnext _ _ _ _ _ hk (.inr hv) R' (Ext.same rfl)
  | invoke x m=>simp[zn,ho] at hr
  | builtin b=>
   cases b<;>simp only[zn,ho] at hr<;>first|cases hr|skip
   ·split at hr
    ·rename_i x y t tx hx hT;have hx':args = #[x,y]:=by cases args;simp_all
     have hT':argTypes = #[t,tx]:=by cases argTypes;simp_all
     subst hx' hT';split at hr
     ·rename_i E hu;simp only[Option.bind_eq_some_iff] at hr;obtain⟨z,hz,i,hi,hr⟩:=hr;split at hr
      ·rename_i hc;simp only[Bool.and_eq_true] at hc;simp only[Option.some.injEq] at hr;subst hr;obtain⟨zv,hzv,hzc,hzl⟩:=zoD hz hi;simp only[vl] at h;obtain⟨u,uv,hk,hu2,he⟩:=zl R.fr h;obtain⟨s1,hk,R1,_⟩:=zdB R hu2 hk;unfold zAw at hk;split at hk
       ·rename_i p m c;obtain⟨v,vv,hk,hv,he'⟩:=zl R1.fr hk;obtain⟨m',news,s2,hk,R2,hsrc⟩:=zxh (P:=P) (tx:=tx) R1 hv hk hc.1;rw[hzl] at hk hsrc;obtain⟨p',c',M',w',hrun,hk2,R3⟩:=zGe (P:=P) R2 (ty:=o.type) hu hi hzv (by rw[hzc];simpa using hzl) hsrc hk
        have hrun':(execOp a.eval o).run P w = .ok (.value (.slice p' (m+m') c')) w':=by
         simp only[execOp,ho,resolve,invoke,builtin,Sem.run_bind,Sem.run_pure,Result.andThen_ok];simp[he,he',hrun]
        unfold Oper.wp;rw[hrun'];exact hnext _ _ _ _ _ hk2 (.inr rfl) R3 (Ext.same rfl)
       ·exact hk.elim
      ·cases hr
     ·cases hr
    ·cases hr
   ·split at hr
    ·rename_i x t hx hT;have hx':args = #[x]:=by cases args;simp_all
     have hT':argTypes = #[t]:=by cases argTypes;simp_all
     subst hx' hT';split at hr
     ·rename_i E hu;split at hr
      ·rename_i z hz;split at hr
       ·rename_i hone;simp only[Option.some.injEq] at hr;subst hr;simp only[vl] at h;obtain⟨p,m,c,hk,he⟩:=zeL R.fr h;unfold zHD at hk;split at hk
        ·have hrun:(Builtin.clear_ #[t] o.type #[.slice p 0 c]).run P w = .ok (.tuple #[]) w:=by
          cases p<;>simp[Builtin.clear_,run_underlying hu]
         have hrun':(execOp a.eval o).run P w = .ok (.value (.tuple #[])) w:=by
          simp only[execOp,ho,resolve,invoke,builtin,Sem.run_bind,Sem.run_pure,Result.andThen_ok];simp[he,hrun]
         unfold Oper.wp;rw[hrun'];exact hnext _ _ _ _ _ hk (.inr rfl) R (Ext.same rfl)
        ·rename_i m;obtain⟨b,o',rfl,hk⟩:=zj0 hk;obtain⟨⟨e,cs⟩,hMc,hk⟩:=zK hk;obtain⟨hle,hk⟩:=hk
         have hMb:s.M b=some (.cells cs.toArray e (0,0)):=by
          unfold Mem.cells at hMc;split at hMc
          ·rename_i c' e' hc';simp at hMc;obtain⟨rfl,rfl⟩:=hMc;simpa using hc'
          ·cases hMc
         have hh:=R.rd.M b _ hMb;simp only at hle;have h1:∀ u∈List.replicate (m+1) z,u.oneCell'=true:=fun u hu=>by rw[List.eq_of_mem_replicate hu];exact hone
         have hst:=run_storeCells_at (P:=P) b o' e (List.replicate (m+1) z) 0 cs.toArray w hh (by simp;omega) h1;simp only[Nat.add_zero] at hst;obtain⟨zv,hzv,hzc⟩:=zp0 (P:=P) w hz;have hzc':zv.cells = #[z]:=hzc
         have hrep:(Builtin.zeroCells zv.cells (m+1)).toList=List.replicate (m+1) z:=by
          rw[hzc'];simp[Builtin.zeroCells];apply List.ext_getElem
          ·simp
          ·intro i h1 h2;simp[Nat.mod_one]
         have hrun:(Builtin.clear_ #[t] o.type #[.slice (some ⟨b,o',none⟩) (m+1) c]).run P w = .ok (.tuple #[]) (w.setRow b (splice cs o' (List.replicate (m+1) z)).toArray):=by
          simp[Builtin.clear_,run_underlying hu,hzv,hrep,hst,splice]
         have hrun':(execOp a.eval o).run P w = .ok (.value (.tuple #[])) (w.setRow b (splice cs o' (List.replicate (m+1) z)).toArray):=by
          simp only[execOp,ho,resolve,invoke,builtin,Sem.run_bind,Sem.run_pure,Result.andThen_ok];simp[he,hrun]
         unfold Oper.wp;rw[hrun'];exact hnext _ _ _ _ _ hk (.inr rfl) (Rel.setMem R hMb _) (Ext.same rfl)
       ·cases hr
      ·cases hr
     ·cases hr
    ·cases hr
   ·split at hr
    ·rename_i x y t tx hx hT;have hx':args = #[x,y]:=by cases args;simp_all
     have hT':argTypes = #[t,tx]:=by cases argTypes;simp_all
     subst hx' hT';split at hr
     ·rename_i E hu;simp only[Option.bind_eq_some_iff] at hr;obtain⟨sz,hsz,hr⟩:=hr;split at hr
      ·rename_i hc;simp only[Option.some.injEq] at hr;subst hr;simp only[vl] at h;obtain⟨u,uv,hk,hu2,he⟩:=zl R.fr h;obtain⟨s1,hk,R1,_⟩:=zdB R hu2 hk;unfold zAw at hk;split at hk
       ·rename_i p m c;obtain⟨v,vv,hk,hv,he'⟩:=zl R1.fr hk;obtain⟨m',news,s2,hk,R2,hsrc⟩:=zxh (P:=P) (tx:=tx) R1 hv hk hc;obtain⟨⟨hmm,h1⟩,hk⟩:=hk;have hs:=hsrc h1
        have hnl:=hs.newsLen;obtain⟨b,o',rfl,hk⟩:=zj0 hk;obtain⟨⟨e,cs⟩,hMc,hk⟩:=zK hk;obtain⟨hle,hk⟩:=hk
        have hMb:s2.M b=some (.cells cs.toArray e (0,0)):=by
         unfold Mem.cells at hMc;split at hMc
         ·rename_i c' e' hc';simp at hMc;obtain⟨rfl,rfl⟩:=hMc;simpa using hc'
         ·cases hMc
        have hh:=R2.rd.M b _ hMb;simp only at hle;have hst:=run_storeCells_at (P:=P) b o' e news 0 cs.toArray w hh (by simp;omega) h1
        simp only[Nat.add_zero] at hst;have hmin:Nat.min m' m=m':=Nat.min_eq_left hmm
        have hrun:(Builtin.copy_ #[t,tx] o.type #[.slice (some ⟨b,o',none⟩) m c,vv]).run P w = .ok (.int .i64 m') (w.setRow b (splice cs o' news).toArray):=by
         rcases hs.kind with ⟨e',hkd⟩|hkd<;>simp[Builtin.copy_,run_underlying hu,zao hsz,hs.len,hmin,hs.cells,hst,splice,goInt]
        have hrun':(execOp a.eval o).run P w = .ok (.value (.int .i64 m')) (w.setRow b (splice cs o' news).toArray):=by
         simp only[execOp,ho,resolve,invoke,builtin,Sem.run_bind,Sem.run_pure,Result.andThen_ok];simp[he,he',hrun]
        unfold Oper.wp;rw[hrun'];exact hnext _ _ _ _ _ hk (.inr rfl) (Rel.setMem R2 hMb _) (Ext.same rfl)
       ·exact hk.elim
      ·cases hr
     ·cases hr
    ·cases hr
   ·split at hr
    ·rename_i x y t tx hx hT;have hx':args = #[x,y]:=by cases args;simp_all
     have hT':argTypes = #[t,tx]:=by cases argTypes;simp_all
     subst hx' hT';split at hr
     ·rename_i KT ET hu;simp only[Option.map_eq_some_iff] at hr;obtain⟨kk,hkk,rfl⟩:=hr;simp only[vl] at h;obtain⟨u,uv,hk,hu2,he⟩:=zl R.fr h;obtain⟨r,hk,rfl⟩:=zim hk hu2;obtain⟨kv,kvv,hk,hkv,he'⟩:=zl R.fr hk;obtain⟨hk,hok⟩:=zp1 hk hkv;rcases zm7 hk with ⟨rfl,hk⟩|⟨b,rfl,hk⟩
      ·have hc:=fun em=>zl6 (P:=P) hkk hok em 9998 w
       have hrun':(execOp a.eval o).run P w = .ok (.value (.tuple #[])) w:=by
        simp[execOp,ho,resolve,invoke,builtin,he,he',Builtin.delete_,run_underlying hu,hc,Result.andThen]
       unfold Oper.wp;rw[hrun'];exact hnext _ _ _ _ _ hk (.inr rfl) R (Ext.same rfl)
      ·obtain⟨p,hp,hk⟩:=zK hk;obtain⟨f,hfi,hk⟩:=zK hk;have hMb:=zeS hp
       have hrun:=zHI (P:=P) (ty:=o.type) (U:=tx) hu hkk hok (R.rd.M _ _ hMb) hfi
       have hrun':(execOp a.eval o).run P w = .ok (.value (.tuple #[])) { w with heap:=w.heap.setIfInBounds b (zw1 p f) }:=by
        simp only[execOp,ho,resolve,invoke,builtin,Sem.run_bind,Sem.run_pure,Result.andThen_ok];simp[he,he',hrun]
       unfold Oper.wp;rw[hrun'];exact hnext _ _ _ _ _ hk (.inr rfl) (Rel.setObj R hMb _) (Ext.same rfl)
     ·cases hr
    ·cases hr
   ·split at hr
    ·split at hr
     ·simp at hr;subst hr;simp[zy] at hq
     ·simp at hr;subst hr;simp[zy] at hq
     ·simp at hr;subst hr;simp[zy] at hq
     ·cases hr
    ·cases hr
   ·split at hr
    ·simp at hr;subst hr;simp[zy] at hq
    ·cases hr
   ·split at hr
    ·simp at hr;subst hr;simp[zy] at hq
    ·cases hr
 | move x=>simp[zn,ho] at hr;subst hr;simp[zy] at hq
 | assign x=>simp[zn,ho] at hr;subst hr;simp[zy] at hq
 | pick c x y=>simp[zn,ho] at hr;subst hr;simp[zy] at hq
 | build T parts=>
  simp only[zn,ho,Option.bind_eq_some_iff,Option.map_eq_some_iff] at hr;obtain⟨z,hz,l,hl,rfl⟩:=hr;simp[zy] at hq
 | load T p=>
  simp only[zn,ho,Option.bind_eq_some_iff] at hr;obtain⟨g,hg,z,hz,hr⟩:=hr;split at hr
  ·simp at hr;subst hr;simp[zy] at hq
  ·cases hr
 | nilCheck x=>simp[zn,ho] at hr;subst hr;simp[zy] at hq
 | fieldAddr T p i=>
  simp only[zn,ho] at hr;split at hr
  ·simp only[Option.bind_eq_some_iff] at hr;obtain⟨f,hfi,n,hn,hr⟩:=hr;split at hr
   ·cases hr
   ·simp at hr;subst hr;simp[zy] at hq
  ·cases hr
 | field T x i=>
  simp only[zn,ho] at hr;split at hr
  ·simp only[Option.bind_eq_some_iff] at hr;obtain⟨f,hfi,g,hg,n,hn,hr⟩:=hr;split at hr
   ·simp at hr;subst hr;simp[zy] at hq
   ·cases hr
  ·cases hr
 | indexAddr T x i=>
  simp only[zn,ho] at hr;split at hr
  ·simp only[Option.map_eq_some_iff] at hr;obtain⟨n,hn,rfl⟩:=hr;simp[zy] at hq
  ·simp only[Option.map_eq_some_iff] at hr;obtain⟨n,hn,rfl⟩:=hr;simp[zy] at hq
  ·cases hr
 | binOp op T x y U=>
  simp only[zn,ho] at hr;split at hr<;>first|(simp at hr;subst hr;simp[zy] at hq;done)|(split at hr<;>first|(simp at hr;subst hr;simp[zy] at hq;done)|(rw[Option.bind_eq_some_iff] at hr;obtain⟨n,_,hr⟩:=hr;split at hr<;>first|(simp at hr;subst hr;simp[zy] at hq;done)|(cases hr;done))|(cases hr;done)|(split at hr<;>first|(simp at hr;subst hr;simp[zy] at hq;done)|(cases hr;done)))|(cases hr;done)
 | unOp op T x=>
  cases op with
  | not=>simp[zn,ho] at hr;subst hr;simp[zy] at hq
  | neg=>
   simp only[zn,ho] at hr;split at hr
   ·simp at hr;subst hr;simp[zy] at hq
   ·cases hr
  | xor=>
   simp only[zn,ho] at hr;split at hr
   ·simp at hr;subst hr;simp[zy] at hq
   ·cases hr
  | plus=>simp[zn,ho] at hr
 | convert S T x=>
  simp only[zn,ho] at hr;split at hr
  ·simp at hr;subst hr;simp[zy] at hq
  ·split at hr
   ·simp at hr;subst hr;simp[zy] at hq
   ·cases hr
  ·split at hr
   ·rename_i e1 e2 hT hS hc;simp only[Bool.and_eq_true,beq_iff_eq] at hc;obtain⟨hby,rfl⟩:=hc;simp only[Option.some.injEq] at hr;subst hr;simp only[vl] at h;obtain⟨p,m,c,hk,he⟩:=zeL R.fr h;obtain⟨b,o',rfl,hk⟩:=zj0 hk;obtain⟨ob,hob,hk⟩:=zK hk
    have hu8:P.underlying e1=some (.int .u8):=by
     unfold ztJ at hby;rw[hT] at hby;simp only at hby;split at hby
     ·rename_i hx;exact hx
     ·cases hby
    unfold Mem.textAt at hob;split at hob
    ·rename_i cs e fz hMb;simp only[Option.some.injEq] at hob;have hB:w.heap[b]? = _:=R.rd.M b _ hMb
     have hrun':(execOp a.eval o).run P w = .ok (.value (.slice (some ⟨b,o',none⟩) m c)) { w with heap:=w.heap.setIfInBounds b ob }:=by
      have hfr:w.freeze ⟨b,cs.size,none⟩ 1={ w with heap:=w.heap.setIfInBounds b ob }:=by
       simp only[World.freeze,Nat.one_ne_zero,if_false];congr 1;apply Array.ext_getElem?;intro j;by_cases hj:j=b
       ·subst hj;have hlt:=(Array.getElem?_eq_some_iff.1 hB).1
        have hB2:w.heap[j]=Obj.cells cs e fz:=by
         rw[Array.getElem?_eq_getElem hlt] at hB;exact Option.some.inj hB
        simp[hlt,←hob,Array.getElem_modify_self,hB2]
       ·simp[Array.getElem?_modify,Ne.symm hj]
      have hms:(markStringish ⟨b,o',none⟩).run P w = .ok () { w with heap:=w.heap.setIfInBounds b ob }:=by
       simp only[markStringish,shape,freeze,Sem.run_bind,Sem.run,World.shape?, hB,Result.andThen,hfr]
      simp only[execOp,ho,he,convert,Sem.run_bind,run_underlying hT,run_underlying hu8,Result.andThen_ok,beq_self_eq_true,hms,Sem.run_pure]
     unfold Oper.wp;rw[hrun'];exact hnext _ _ _ _ _ hk (.inr rfl) (Rel.setObj R hMb _) (Ext.same rfl)
    ·cases hob
   ·cases hr
  ·cases hr
 | slice T x lo hi mx=>
  cases mx with
  | some _=>
   cases lo with
   | none=>
    cases hi with
    | none=>simp[zn,ho] at hr
    | some _=>
     simp only[zn,ho] at hr;split at hr
     ·simp only[Option.map_eq_some_iff] at hr;obtain⟨n,hn,rfl⟩:=hr;simp[zy] at hq
     ·cases hr
   | some _=>
    cases hi with
    | none=>simp[zn,ho] at hr
    | some _=>
     simp only[zn,ho] at hr;split at hr
     ·simp only[Option.map_eq_some_iff] at hr;obtain⟨n,hn,rfl⟩:=hr;simp[zy] at hq
     ·cases hr
  | none=>
   simp only[zn,ho] at hr;split at hr
   ·simp only[Option.map_eq_some_iff] at hr;obtain⟨n,hn,rfl⟩:=hr;simp[zy] at hq
   ·simp at hr;subst hr;simp[zy] at hq
   ·rename_i len E hu;split at hr
    ·rename_i hc;simp only[Bool.and_eq_true,Option.isNone_iff_eq_none] at hc;obtain⟨rfl,rfl⟩:=hc;simp only[Option.map_eq_some_iff] at hr;obtain⟨sz,hsz,rfl⟩:=hr;simp only[vl] at h;obtain⟨u,uv,hk,hu2,he⟩:=zl R.fr h;obtain⟨s1,hk,R1,_⟩:=zdB R hu2 hk;unfold zMd at hk;split at hk
     ·rename_i b o'
      have hrun:(execOp a.eval o).run P w = .ok (.value (.slice (some ⟨b,o',none⟩) len len)) w:=by
       simp[execOp,ho,he,Instr.sliceAt,run_underlying hu,Instr.sureAddr,Instr.sliceBounds,zao hsz,zcN]
      unfold Oper.wp;rw[hrun];exact hnext _ _ _ _ _ hk (.inr rfl) R1 (Ext.same rfl)
     ·exact hk.elim
    ·cases hr
   ·cases hr
 | index T x i=>
  simp only[zn,ho] at hr;split at hr
  ·simp at hr;subst hr;simp[zy] at hq
  ·simp only[Option.bind_eq_some_iff] at hr;obtain⟨_,_,_,_,hr⟩:=hr;split at hr
   ·simp at hr;subst hr;simp[zy] at hq
   ·cases hr
  ·cases hr
 | extract x i=>simp[zn,ho] at hr;subst hr;simp[zy] at hq
 | lookup T x key ok=>
  simp only[zn,ho] at hr;split at hr
  ·simp only[Option.bind_eq_some_iff,Option.map_eq_some_iff] at hr;obtain⟨kk,hk,z,hz,rfl⟩:=hr;simp[zy] at hq
  ·cases hr
 | entry x=>simp[zn,ho] at hr;subst hr;simp[zy] at hq
 | makeMap T m=>
  cases m with
  | some _=>simp[zn,ho] at hr
  | none=>
   simp only[zn,ho,Option.some.injEq] at hr;subst hr;have hk:=New.here R h
   have hrun':(execOp a.eval o).run P w = .ok (.value (.map (some w.heap.size))) { w with heap:=w.heap.push (.map #[] 0) }:=by
    simp[execOp,ho,Instr.makeMap]
   unfold Oper.wp;rw[hrun'];exact hnext _ _ _ _ _ hk (.inr rfl) (Rel.newObj R _) (Ext.same rfl)
 | makeSlice T x y=>
  simp only[zn,ho] at hr;split at hr
  ·rename_i E hu;simp only[Option.bind_eq_some_iff] at hr;obtain⟨z,hz,i,hi,hr⟩:=hr;split at hr
   ·rename_i hzl0;simp only[Option.some.injEq] at hr;cases hso:zAM x y<;>simp only[hso,if_true,if_false,Bool.false_eq_true] at hr<;>subst hr
    rotate_left
    ·obtain⟨zv,hzv,hzc,hzl⟩:=zoD hz hi;simp only[vl] at h;obtain⟨q,m,hk,he⟩:=zU R.fr h;obtain⟨q',c,hk,he'⟩:=zU R.fr hk;obtain⟨⟨h0,rfl,hby,h63⟩,hk⟩:=hk;have hk:=New.here R hk
     have hrun:=run_make (P:=P) w T E i zv hu hi hzv q q' m m h0 (Int.le_refl _) hby h63
     have hcells:madeCells zv.cells (m.toNat*i.size)=((List.replicate m.toNat z).flatten).toArray:=by
      have:=zp6 zv.cells m.toNat;rw[hzc] at this;simp only[madeCells,hzc,←hzl];simpa using this
     rw[hcells] at hrun
     have hrun':(execOp a.eval o).run P w = .ok (.value (.slice (some ⟨w.heap.size,0,none⟩) m.toNat m.toNat)) { w with heap:=w.heap.push (.cells ((List.replicate m.toNat z).flatten).toArray E) }:=by
      simp only[execOp,ho,he,he',Sem.run_bind,hrun,Result.andThen_ok,Sem.run_pure];rfl
     unfold Oper.wp;rw[hrun'];exact hnext _ _ _ _ _ hk (.inr rfl) (Rel.newObj R _) (Ext.same rfl)
    ·obtain⟨zv,hzv,hzc,hzl⟩:=zoD hz hi;simp only[vl] at h;obtain⟨q,m,hk,he⟩:=zU R.fr h;obtain⟨q',c,hk,he'⟩:=zU R.fr hk;obtain⟨⟨h0,hmc,hby,h63⟩,hk⟩:=hk;have hk:=New.here R hk
     have hrun:=run_make (P:=P) w T E i zv hu hi hzv q q' m c h0 hmc hby h63
     have hcells:madeCells zv.cells (c.toNat*i.size)=((List.replicate c.toNat z).flatten).toArray:=by
      have:=zp6 zv.cells c.toNat;rw[hzc] at this;simp only[madeCells,hzc,←hzl];simpa using this
     rw[hcells] at hrun
     have hrun':(execOp a.eval o).run P w = .ok (.value (.slice (some ⟨w.heap.size,0,none⟩) m.toNat c.toNat)) { w with heap:=w.heap.push (.cells ((List.replicate c.toNat z).flatten).toArray E) }:=by
      simp only[execOp,ho,he,he',Sem.run_bind,hrun,Result.andThen_ok,Sem.run_pure];rfl
     unfold Oper.wp;rw[hrun'];exact hnext _ _ _ _ _ hk (.inr rfl) (Rel.newObj R _) (Ext.same rfl)
   ·cases hr
  ·cases hr
 | mapUpdate T x key y=>
  simp only[zn,ho] at hr;split at hr
  ·rename_i KT ET hu;simp only[Option.map_eq_some_iff] at hr;obtain⟨kk,hkk,rfl⟩:=hr;exact zxi R (.inl ho) hu hkk h fun s' w' hk R'=>hnext _ _ _ _ _ hk (.inl rfl) R' (Ext.same rfl)
  ·cases hr
 | insert T x key y=>
  simp only[zn,ho] at hr;split at hr
  ·rename_i KT ET hu;simp only[Option.map_eq_some_iff] at hr;obtain⟨kk,hkk,rfl⟩:=hr;exact zxi R (.inr ho) hu hkk h fun s' w' hk R'=>hnext _ _ _ _ _ hk (.inl rfl) R' (Ext.same rfl)
  ·cases hr
 | range T x=>
  simp only[zn,ho] at hr;split at hr
  ·rename_i KT ET hu;simp only[Option.some.injEq] at hr;subst hr;simp only[vl] at h;obtain⟨u,uv,hk,hu2,he⟩:=zl R.fr h;obtain⟨r,hk,rfl⟩:=zim hk hu2;rcases zm7 hk with ⟨rfl,hk⟩|⟨m,rfl,hk⟩
   ·have hk:=New.here R hk
    have hrun':(execOp a.eval o).run P w = .ok (.value (.pointer (some ⟨w.heap.size,0,none⟩))) { w with heap:=w.heap.push (.mapIter none 0 #[] 0) }:=by
     simp[execOp,ho,he,Instr.range,run_underlying hu]
    unfold Oper.wp;rw[hrun'];exact hnext _ _ _ _ _ hk (.inr rfl) (Rel.newObj R _) (Ext.same rfl)
   ·obtain⟨p,hp,hk⟩:=zK hk;have hk:=New.here R hk
    have hg:=MapKept.run_getObj_map (P:=P) (R.rd.M _ _ (zeS hp))
    have hrun':(execOp a.eval o).run P w = .ok (.value (.pointer (some ⟨w.heap.size,0,none⟩))) { w with heap:=w.heap.push (.mapIter (some m) p.2 #[] p.2) }:=by
     simp[execOp,ho,he,Instr.range,run_underlying hu,hg]
    unfold Oper.wp;rw[hrun'];exact hnext _ _ _ _ _ hk (.inr rfl) (Rel.newObj R _) (Ext.same rfl)
  ·rename_i hu;simp only[Option.some.injEq] at hr;subst hr;simp only[vl] at h;obtain⟨u,uv,hk,hu2,he⟩:=zl R.fr h;obtain⟨str,hk,rfl⟩:=zil hk hu2;have hk:=New.here R hk
   have hrun':(execOp a.eval o).run P w = .ok (.value (.pointer (some ⟨w.heap.size,0,none⟩))) { w with heap:=w.heap.push (.stringIter str 0) }:=by
    simp[execOp,ho,he,Instr.range,run_underlying hu]
   unfold Oper.wp;rw[hrun'];exact hnext _ _ _ _ _ hk (.inr rfl) (Rel.newObj R _) (Ext.same rfl)
  ·cases hr
 | next x bs=>
  cases bs with
  | true=>
   simp only[zn,ho,Option.some.injEq] at hr;subst hr;simp only[vl] at h;rcases R.rd.evP R.fr h with ⟨j,o',T',cs,b,vs,hj,hk3,hb,hvs,hp⟩|⟨b,o',hk3,hp⟩
   ·exact hk3.elim
   ·obtain⟨rfl,hk⟩:=zdz hk3;obtain⟨t,ht,hk⟩:=zK hk;have hMb:=zDD ht
    obtain⟨str,pos⟩:=t;have hB:w.heap[b]? = _:=R.rd.M b _ hMb
    have g1:(getObj b).run P w = .ok (.stringIter str pos) w:=by simp[getObj,Sem.run,hB]
    by_cases hlt:pos<str.size
    ·obtain⟨hc,hk⟩:=hk.1 hlt
     have hdec:Utf8.decode str pos=((str.get! pos).toNat,1):=by
      unfold Utf8.decode;simp only[Nat.add_zero];rw[if_pos hc]
     have hrun':(execOp a.eval o).run P w = .ok (.value (.tuple #[.bool true,.int .i64 pos,.int .i32 (str.get! pos).toNat])) { w with heap:=w.heap.setIfInBounds b (.stringIter str (pos+1)) }:=by
      simp only[execOp,ho,hp,Instr.next,Sem.run_bind,g1,Result.andThen_ok,if_pos hlt,hdec];simp[setObj,Sem.run,goInt,hB]
     unfold Oper.wp;rw[hrun'];exact hnext _ _ _ _ _ hk (.inr rfl) (Rel.setObj R hMb _) (Ext.same rfl)
    ·have hk:=hk.2 hlt
     have hrun':(execOp a.eval o).run P w = .ok (.value (.tuple #[.bool false])) w:=by
      simp[execOp,ho,hp,Instr.next,g1,hlt]
     unfold Oper.wp;rw[hrun'];exact hnext _ _ _ _ _ hk (.inr rfl) R (Ext.same rfl)
  | false=>
   simp only[zn,ho,Option.some.injEq] at hr;subst hr;simp only[vl] at h;rcases R.rd.evP R.fr h with ⟨j,o',T',cs,b,vs,hj,hk3,hb,hvs,hp⟩|⟨b,o',hk3,hp⟩
   ·exact hk3.elim
   ·obtain⟨rfl,hk⟩:=zdz hk3;obtain⟨t,ht,hk⟩:=zK hk;have hMb:=zvn ht
    obtain⟨im,since,seen,last⟩:=t;rcases zm7 hk with ⟨h0,hk⟩|⟨m,h0,hk⟩
    ·simp only at h0;subst h0;have hB:w.heap[b]? = _:=R.rd.M b _ hMb
     have hrun':(execOp a.eval o).run P w = .ok (.value (.tuple #[.bool false])) w:=by
      have g1:(getObj b).run P w = .ok (.mapIter none since seen last) w:=by simp[getObj,Sem.run,hB]
      simp[execOp,ho,hp,Instr.next,g1]
     unfold Oper.wp;rw[hrun'];exact hnext _ _ _ _ _ hk (.inr rfl) R (Ext.same rfl)
    ·simp only at h0;subst h0;obtain⟨p,hpm,hk⟩:=zK hk;obtain⟨sv,v,M',w',hrun,hk,hv,R'⟩:=zDC (P:=P) (ty:=o.type) R hMb (zeS hpm) hk
     have hrun':(execOp a.eval o).run P w = .ok (.value v) w':=by
      simp only[execOp,ho,hp,Sem.run_bind,hrun,Result.andThen_ok,Sem.run_pure]
     unfold Oper.wp;rw[hrun'];exact hnext _ _ _ _ _ hk (.inr hv) R' (Ext.same rfl)
 | makeFunc fn first caps=>
  cases fn with
  | func f=>
   simp only[zn,ho] at hr;split at hr
   ·simp at hr;subst hr;simp[zy] at hq
   ·split at hr
    ·simp at hr;subst hr;simp[zy] at hq
    ·cases hr
  | _=>simp[zn,ho] at hr
 | _=>simp[zn,ho] at hr
theorem zGg {o:Oper} (h:zDw n o=true):∀ e,o.dst=some e→e<n:=fun e he=>by simpa[zDw,he] using h
theorem zny {ops:List Oper} {j:Nat} {o:Oper} {r:zZ} (hr:zk0 P n ops j o=some r) :
  ∃ g,zn P ops o=some r.op∧znn ops o.guard=some g∧r.guard=g∧r.dst=o.dst∧(∀ e,o.dst=some e→e<n):=by
 simp only[zk0,Option.bind_eq_some_iff] at hr;obtain⟨rop,hrop,g,hg,hr⟩:=hr;split at hr
 ·rename_i hd;simp only[Option.some.injEq] at hr;subst hr;exact⟨g,hrop,hg,rfl,rfl,zGg hd⟩
 ·cases hr
theorem znz {sp:Bool} {sv:SV} {v:Value} {d:Option Nat} {K:St→Prop} {w':World} (hs:zfn sp sv (fun sv'=>K (s.put d sv'))) (hd:∀ e,d=some e→e<n)
  (hv:sv = .dead∨sv.val β=some v) (R':Rel β F w0 n s a w'):∃ s',K s'∧Rel β F w0 n s' (a.put d v) w'∧s'.bx=s.bx∧s'.M=s.M:=by
 have e:∀ sv,(s.put d sv).bx=s.bx∧(s.put d sv).M=s.M:=fun sv=>by cases d<;>exact⟨rfl,rfl⟩
 unfold zfn at hs;split at hs
 ·rcases hv with hv|hv
  ·subst hv;exact hs.elim
  ·obtain⟨x,rfl,h1,h2⟩:=zop hs hv;cases x with
   | true=>exact⟨_,h1 rfl,R'.put hd (.inr rfl),(e _).1,(e _).2⟩
   | false=>exact⟨_,h2 rfl,R'.put hd (.inr rfl),(e _).1,(e _).2⟩
 ·exact⟨_,hs,R'.put hd hv,(e _).1,(e _).2⟩
theorem zsa {ops:List Oper} {j:Nat} {o:Oper} {r:zZ} (hr:zk0 P n ops j o=some r) (R:Rel β F w0 n s a w)
  {next:Act→World→Prop} {Q:Exit→Act→World→Prop} {K:St→Prop} (h:vop P r s K)
  (hnext:∀ β' s' a' w',K s'→Rel β' F w0 n s' a' w'→Ext β β' r.op w w'→next a' w'):o.wp P a w next Q:=by
 obtain⟨g,hrop,hg,_,hdst,hd⟩:=zny hr;simp only[vop,zfu,hdst] at h;cases hq:zy r.op with
 | true=>
  simp only[hq] at h;obtain⟨sv,v,hk,hv,hrun⟩:=zAQ hrop hq R.fr R.rd.gone R.lv h;have:=hrun w (fun _=>R.rd)
  unfold Oper.wp;unfold zC at this;rw[this];obtain⟨s',h1,h2,_⟩:=znz hk hd (.inr hv) R;exact hnext _ _ _ _ h1 h2 ⟨⟨[],by simp⟩,fun _ _ _ h=>h⟩
 | false=>
  simp only[hq] at h;refine zHJ hrop hq R h fun β' sv v s' w' hk hv R' he=>?_
  obtain⟨s2,h1,h2,_⟩:=znz hk hd hv R';exact hnext _ _ _ _ h1 h2 he
theorem zp7 {ops:Array Oper} {o:Oper} (hg:znn ops.toList o.guard=some none):Region.wanted o (yielded ops a.tmps)=true:=by
 unfold znn at hg;split at hg
 ·rename_i hn;simp[Region.wanted,hn]
 ·split at hg<;>cases hg
theorem zoE {ops:Array Oper} {o:Oper} {d:Nat} {b:Bool} {A B:Prop} (hg:znn ops.toList o.guard=some (some (d,b))) (hf:Fr β s.fr a) (h:ev s (.tmp d) fun sv=>brG b sv A B) :
  (Region.wanted o (yielded ops a.tmps)=true∧A)∨(Region.wanted o (yielded ops a.tmps)=false∧B):=by
 obtain⟨sv,v,hk,hv,he⟩:=zl hf h;unfold znn at hg;split at hg
 ·cases hg
 ·rename_i i b' hn;split at hg
  ·rename_i d' hd;simp only[Option.some.injEq,Prod.mk.injEq] at hg;obtain⟨rfl,rfl⟩:=hg;have hd':(ops[i]?).bind (·.dst)=some d':=by simpa using hd
   have hwant:∀ x,v = .bool x→Region.wanted o (yielded ops a.tmps)=(x == b'):=by
    rintro x rfl
    have ht:a.tmps[d']? = some (.bool x):=by
     simp only[Act.eval,Array.getD_eq_getD_getElem?] at he;cases h:a.tmps[d']? with
     | none=>simp[h,undef] at he
     | some v=>simp[h] at he;rw[he]
    simp only[Region.wanted,hn,yielded,hd',Option.bind_some,ht];cases x<;>cases b'<;>rfl
   have hnot:∀ vs,v = .tuple vs→Region.wanted o (yielded ops a.tmps)=false:=by
    rintro vs rfl;simp only[Region.wanted,hn,yielded,hd',Option.bind_some];simp only[Act.eval,Array.getD_eq_getD_getElem?] at he;cases h:a.tmps[d']? with
    | none=>simp
    | some v=>simp[h] at he;rw[he];simp
   unfold brG at hk;split at hk
   ·rename_i x;simp[SV.val,SC.val] at hv;have:=hwant x hv.symm
    cases b'<;>cases x<;>simp only[lit] at hk<;>first|exact .inl ⟨by rw[this];rfl,hk⟩|exact .inr ⟨by rw[this];rfl,hk⟩
   ·rename_i x;simp[SV.val] at hv;have:=hwant x hv.symm
    cases b'<;>cases x<;>first|exact .inl ⟨by rw[this];rfl,hk.1 rfl⟩|exact .inr ⟨by rw[this];rfl,hk.2 rfl⟩|exact .inl ⟨by rw[this];rfl,hk.2 rfl⟩|exact .inr ⟨by rw[this];rfl,hk.1 rfl⟩
   ·rename_i vs;simp[SV.val,SC.val] at hv;exact .inr ⟨hnot _ hv.symm,hk⟩
   ·exact hk.elim
  ·cases hg
theorem zkl {ops:Array Oper} {Q:Exit→Act→World→Prop} {K:St→Prop}:∀ (l:List Oper) (j:Nat) (rl:List zZ) (β:List Nat) (s:St) (a:Act) (w:World),
  znu P n ops.toList j l=some rl→Rel β F w0 n s a w→zpY P rl s K →
  (∀ β' s' a' w',K s'→Rel β' F w0 n s' a' w'→Q .normal a' w')→wpList P ops Q l a w
 | [],j,rl,β,s,a,w,hr,R,h,hK=>by
  simp[znu] at hr;subst hr;exact hK _ _ _ _ h R
 | o::l,j,rl,β,s,a,w,hr,R,h,hK=>by
  simp only[znu] at hr;split at hr
  ·rename_i x xs hx hxs;simp only[Option.some.injEq] at hr;subst hr;have hx0:=hx
   simp only[zk0,Option.bind_eq_some_iff] at hx;obtain⟨rop,hrop,g,hg,hx⟩:=hx;split at hx
   ·rename_i hd;simp only[Option.some.injEq] at hx;have hxg:x.guard=g:=by rw[←hx]
    have hxd:x.dst=o.dst:=by rw[←hx]
    simp only[zpY,hxg,zfu] at h;unfold wpList;cases g with
    | none=>
     simp only at h;rw[if_pos (zp7 hg)];exact .inl (zsa hx0 R h fun β' s' a' w' hk R' _=>zkl l (j+1) xs β' s' a' w' hxs R' hk hK)
    | some q=>
     obtain⟨d,b⟩:=q;simp only at h;rcases zoE hg R.fr h with ⟨hw,h1⟩|⟨hw,h2⟩
     ·rw[if_pos hw];exact .inl (zsa hx0 R h1 fun β' s' a' w' hk R' _=>zkl l (j+1) xs β' s' a' w' hxs R' hk hK)
     ·rw[if_neg (by rw[hw];simp)];refine zkl l (j+1) xs β _ _ w hxs (R.put (sv:=SV.skip) (zGg hd) (.inr rfl)) ?_ hK;rw[←hxd];exact h2
   ·cases hx
  ·cases hr
theorem zxj {m:Nat}:∀ {x:SC} {v:Value},x.val β=some v→x.lt m=true→x.val (β.take m)=some v
 | .v _,_,h,_=>h
 | .bx j o,v,h,hl=>by
  simp only[SC.lt,decide_eq_true_eq] at hl;simp only[SC.val] at h ⊢;rw[List.getElem?_take_of_lt hl];exact h
theorem zkm {m:Nat}:∀ {cs:List SC} {vs:List Value},zx β cs=some vs→cs.all (SC.lt m)=true→zx (β.take m) cs=some vs
 | [],_,h,_=>h
 | x::r,vs,h,hl=>by
  simp only[List.all_cons,Bool.and_eq_true] at hl;simp only[zx] at h ⊢;split at h
  ·rename_i v vs' h1 h2;simp at h;subst h;simp[zxj h1 hl.1,zkm h2 hl.2]
  ·cases h
theorem SV.take_lt {m:Nat} {sv:SV} {v:Value} (h:sv.val β=some v) (hl:sv.lt m=true):sv.val (β.take m)=some v:=by
 cases sv with
 | c x=>exact zxj h hl
 | ag cs=>
  simp only[SV.val,Option.map_eq_some_iff] at h ⊢;obtain⟨vs,h1,h2⟩:=h;exact⟨vs,zkm h1 hl,h2⟩
 | sl j k=>
  simp only[SV.lt,decide_eq_true_eq] at hl;simp only[SV.val] at h ⊢;rw[List.getElem?_take_of_lt hl];exact h
 | fn f cs=>
  simp only[SV.val,Option.map_eq_some_iff] at h ⊢;obtain⟨vs,h1,h2⟩:=h;exact⟨vs,zkm h1 hl,h2⟩
 | sb x=>exact h
 | dead=>simp[SV.val] at h
theorem zGh:∀ {fr:List (Nat×SV)} {d:Nat} {sv:SV},lk fr d=some sv→(d,sv)∈fr
 | (t,x)::r,d,sv,h=>by
  simp only[lk] at h;split at h
  ·rename_i e;have e:=Nat.eq_of_beq_eq_true e;subst e;simp at h;subst h;simp
  ·exact List.mem_cons_of_mem _ (zGh h)
theorem zAU {l:List (Nat×SV)}:∀ {r:List (Nat×SV)},zw5 l r→∀ d sv,lk r d=some sv→lk l d=some sv
 | (t,x)::r,h,d,sv,hl=>by
  simp only[lk] at hl;split at hl
  ·rename_i e;have e:=Nat.eq_of_beq_eq_true e;subst e;simp at hl;subst hl;exact h.1
  ·exact zAU h.2 d sv hl
theorem zzx:∀ {l r:List BE},zw6 l r→∀ (j:Nat) e,r[j]? = some e→l[j]? = some e
 | _,[],_,j,e,h=>by simp at h
 | x::l,y::r,h,j,e,he=>by
  cases j with
  | zero=>simp at he ⊢; rw[h.1];exact he
  | succ j=>simp at he ⊢; exact zzx h.2 j e he
 | [],_::_,h,_,_,_=>h.elim
theorem Rel.sub (R:Rel β F w0 n s a w) {t:St} (hs:t.sub s):Rel (β.take t.bx.length) F w0 n t a w:=by
 obtain⟨hfr,hbxs,hMle,hwf⟩:=hs;have hbx:=zzx hbxs
 simp only[St.wf,Bool.and_eq_true,List.all_eq_true] at hwf
 have hle:t.bx.length≤s.bx.length:=by
  rcases Nat.lt_or_ge s.bx.length t.bx.length with h|h
  ·have h1:=List.getElem?_eq_getElem h;have h2:=hbx _ _ h1
   have:=(List.getElem?_eq_some_iff.1 h2).1;omega
  ·exact h
 have hb:∀ (j:Nat) e b,t.bx[j]? = some e→β[j]? = some b→(β.take t.bx.length)[j]? = some b:=fun j e b h hb=>by
  rw[List.getElem?_take_of_lt (List.getElem?_eq_some_iff.1 h).1];exact hb
 have hb':∀ (j:Nat) b,(β.take t.bx.length)[j]? = some b→β[j]? = some b:=fun j b h=>by
  have hlt:=(List.getElem?_eq_some_iff.1 h).1;rw[List.getElem?_take_of_lt (by simp at hlt;omega)] at h;exact h
 refine⟨⟨Mem.le_trans hMle R.rd.M,?_,?_⟩,?_,by simp[R.len];omega,R.Fle,Mem.disj_of_le R.dj hMle,?_,?_,R.nd,R.sz,R.os,R.out,R.tape,R.grow⟩
 ·intro j T cs h;obtain⟨b,vs,h1,h2,h3⟩:=R.rd.live j T cs (hbx j _ h);have:=hwf.2 _ (List.mem_of_getElem? h)
  exact⟨b,vs,hb j _ b h h1,zkm h2 this,h3⟩
 ·intro j b h;exact hb j _ b h (R.rd.gone j b (hbx j _ h))
 ·intro d sv h;have hlt:=hwf.1 _ (zGh h)
  rcases R.fr d sv (zAU hfr d sv h) with h2|⟨v,h2,h3⟩
  ·exact .inl h2
  ·exact .inr ⟨v,SV.take_lt h2 hlt,h3⟩
 ·intro j T cs h b hbj;obtain⟨h1,h2⟩:=R.own j T cs (hbx j _ h) b (hb' j b hbj);refine⟨?_,h2⟩;cases ht:t.M b with
  | none=>rfl
  | some o=>rw[hMle b o ht] at h1;cases h1
 ·intro i j Ti ci Tj cj hi hj hne;have:=R.dist i j Ti ci Tj cj (hbx i _ hi) (hbx j _ hj) hne
  rw[List.getElem?_take_of_lt (List.getElem?_eq_some_iff.1 hi).1,List.getElem?_take_of_lt (List.getElem?_eq_some_iff.1 hj).1];exact this
end
end Go.Vm
