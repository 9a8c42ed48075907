/- Part. -/
import Derived.Test.YtlgbofpennelhaaGreatJ1
import Derived.OrdersIn
set_option linter.all false
set_option maxHeartbeats 0
namespace Go.Vm
open Go.RowKit
section
section
variable {P:Program} {β:List Nat} {F:Mem} {w0:World} {n:Nat} {s:St} {a:Act} {w:World}
theorem zku {T:TypeId} {b o m:Nat} {v:Value} {us:List Value} {c:Array Value} {e:TypeId} (hm:zac P T=some m) (hc:v.cells=us.toArray) (hl:us.length=m)
  (hb:w.heap[b]? = some (.cells c e (0,0))) (hle:o+m≤c.size) (h1:∀ u∈us,u.oneCell'=true) :
  (storeVar T ⟨b,o,none⟩ v).run P w = .ok () (w.setRow b (zd c.toList o us).toArray):=by
 have:=run_storeCells_at (P:=P) b o e us 0 c w hb oM h1;simp only[Ybx] at this;simp only[storeVar,Yo,zbe hm,Yk,hc];simp[hl,this,zd]
theorem zf5 {b:Nat} (c':Array Value) {x:Nat} {o:Obj} (h:zk w x=some o) (hx:x≠b) :
  zk (w.setRow b c') x=some o:=by
 show (w.setRow b c').heap[x]? = some o;rw[setRow_other w b x c' hx];exact h
theorem zzE {cs:List SC}:∀ {us:List Value},zY β cs=some us→cs.all zzt=true→∀ u∈us,u.oneCell'=true:=by
 induction cs with
 | nil=>intro us h _ u hu;simp[zY] at h;subst h;cases hu
 | cons x r ih=>
  intro us h ha u hu;simp only[zY] at h;simp only[Ydy,Yl] at ha;split at h
  ·rename_i v vs h1 h2;simp at h;subst h;rcases Yp.1 hu with rfl|hu
   ·cases x with
    | v y=>simp[SC.val] at h1;subst h1;exact ha.1
    | bx j o=>
     simp only[SC.val] at h1;cases hb:β[j]? with
     | none=>simp_all
     | some b=>simp[hb] at h1;subst h1;rfl
   ·simp_all
  ·cases h
theorem Rel.setBox (R:Rel β F w0 n s a w) {j:Nat} {T:TypeId} {cs cs':List SC} {b:Nat} {vs vs':List Value} (hj:s.bx[j]? = some (.live T cs)) (hb:β[j]? = some b)
  (hh:w.heap[b]? = some (.cells vs.toArray T (0,0))) (hv:zY β cs'=some vs'):Rel β F w0 n { s with bx:=s.bx.set j (.live T cs') } a (w.setRow b vs'.toArray):=by
 obtain⟨hMb,hFb⟩:=R.own j T cs hj b hb;have hjlt:=(Yu.1 hj).1
 have hset:∀ (i:Nat) e,(s.bx.set j (.live T cs'))[i]? = some e→(i=j∧e = .live T cs')∨(i≠j∧s.bx[i]? = some e):=by
  intro i e hi;by_cases hij:i=j
  ·subst hij;rw[Ycp hjlt] at hi;simp at hi;exact .inl ⟨rfl,hi.symm⟩
  ·rw[Ydb (Ne.symm hij)] at hi;exact .inr ⟨hij,hi⟩
 have hlv:∀ (i:Nat) Ti ci,(s.bx.set j (.live T cs'))[i]? = some (.live Ti ci)→∃ Ti' ci',s.bx[i]? = some (.live Ti' ci'):=by
  intro i Ti ci hi;rcases hset i _ hi with ⟨rfl,_⟩|⟨_,h⟩
  ·exact⟨_,_,hj⟩
  ·exact⟨_,_,h⟩
 refine⟨⟨?_,?_,?_⟩,R.fr,by simp[R.len],?_,R.dj,?_,?_,R.nd,R.sz,R.os,R.out,R.tape,⟨by simp;exact R.grow.1,R.grow.2⟩⟩
 ·intro x o hx;exact zf5 _ (R.rd.M x o hx) (fun e=>by simp_all)
 ·intro i T' ci hi;rcases hset i _ hi with ⟨rfl,h⟩|⟨hij,h⟩
  ·cases h;exact⟨b,vs',hb,hv,setRow_heap w b _ _ T _ hh⟩
  ·obtain⟨bi,vi,h1,h2,h3⟩:=R.rd.live i T' ci h;refine⟨bi,vi,h1,h2,zf5 _ h3 (fun e=>?_)⟩;subst e;exact R.dist i j _ _ _ _ h hj hij (h1.trans hb.symm)
 ·intro i bi hi;rcases hset i _ hi with ⟨_,h⟩|⟨_,h⟩
  ·cases h
  ·exact R.rd.gone i bi h
 ·intro x o hx;exact zf5 _ (R.Fle x o hx) (fun e=>by simp_all)
 ·intro i T' ci hi bi hbi;obtain⟨Ti',ci',h⟩:=hlv i T' ci hi;exact R.own i Ti' ci' h bi hbi
 ·intro i i' Ti ci Tj cj hi hi' hne;obtain⟨_,_,h⟩:=hlv i Ti ci hi;obtain⟨_,_,h'⟩:=hlv i' Tj cj hi';exact R.dist i i' _ _ _ _ h h' hne
theorem Rel.setMem (R:Rel β F w0 n s a w) {b:Nat} {c:List Value} {e:TypeId} (hb:s.M b=some (.cells c.toArray e (0,0))) (c':List Value) :
  Rel β F w0 n { s with M:=s.M.upd b (.cells c'.toArray e (0,0)) } a (w.setRow b c'.toArray):=by
 have hh:=R.rd.M b _ hb
 have hF:F b=none:=by
  rcases R.dj b with h|h
  ·simp_all
  ·exact h
 refine⟨⟨?_,?_,R.rd.gone⟩,R.fr,R.len,?_,?_,?_,R.dist,R.nd,R.sz,R.os,R.out,R.tape,⟨by simp;exact R.grow.1,R.grow.2⟩⟩
 ·intro x o hx;have hx':(s.M.upd b (.cells c'.toArray e (0,0))) x=some o:=hx
  by_cases hxb:x=b
  ·subst hxb;rw[Yam] at hx';cases hx';exact setRow_heap w x _ _ e _ hh
  ·rw[Yh _ _ hxb] at hx';exact zf5 _ (R.rd.M x o hx') hxb
 ·intro i T' ci hi;obtain⟨bi,vi,h1,h2,h3⟩:=R.rd.live i T' ci hi;refine⟨bi,vi,h1,h2,zf5 _ h3 (fun e'=>?_)⟩;subst e';have:=(R.own i T' ci hi bi h1).1
  rw[hb] at this;cases this
 ·intro x o hx;exact zf5 _ (R.Fle x o hx) (fun e'=>by simp_all)
 ·intro x;by_cases hxb:x=b
  ·simp_all
  ·show (s.M.upd b _) x=none∨_;rw[Yh _ _ hxb];exact R.dj x
 ·intro i T' ci hi bi hbi;obtain⟨h1,h2⟩:=R.own i T' ci hi bi hbi;refine⟨?_,h2⟩;have:bi≠b:=fun e'=>by simp_all
  show (s.M.upd b _) bi=none;rw[Yh _ _ this];exact h1
theorem Rel.called (R:Rel β F w0 n s a w) {w':World} {M':Mem} (hM:M'.le (zk w')) (hF:∀ b o,s.M b=none→zk w b=some o→zk w' b=some o)
  (hd:∀ b o,s.M b=none→zk w b=some o→M' b=none) (e1:w'.os=w.os) (e2:w'.output=w.output) (e3:w'.tape=w.tape) (e4:w.heap.size≤w'.heap.size∧w.drawn≤w'.drawn) :
  Rel β F w0 n { s with M:=M' } a w':=by
 have hFM:∀ b o,F b=some o→s.M b=none:=fun b o h=>by
  rcases R.dj b with h'|h'
  ·omega
  ·simp_all
 refine⟨⟨hM,?_,R.rd.gone⟩,R.fr,R.len,fun b o h=>hF b o (hFM b o h) (R.Fle b o h),?_,?_,R.dist,R.nd,R.sz,e1.trans R.os,e2.trans R.out,e3.trans R.tape,⟨Yz R.grow.1 e4.1,Yz R.grow.2 e4.2⟩⟩
 ·intro i T' ci hi;obtain⟨bi,vi,h1,h2,h3⟩:=R.rd.live i T' ci hi;exact⟨bi,vi,h1,h2,hF bi _ (R.own i T' ci hi bi h1).1 h3⟩
 ·intro b;cases hb:F b with
  | none=>simp
  | some o=>exact .inl (hd b o (hFM b o hb) (R.Fle b o hb))
 ·intro i T' ci hi bi hbi;obtain⟨h1,h2⟩:=R.own i T' ci hi bi hbi;obtain⟨bi',vi,h3,_,h4⟩:=R.rd.live i T' ci hi;rw[hbi] at h3;cases h3;exact⟨hd bi _ h1 h4,h2⟩
theorem zhn {f:Nat} (h:zdZ P f=true) (args:Array Value) (w:World):(callFunc f args).run P w = .ok (.enter f args) w:=by
 unfold zdZ at h;split at h
 ·rename_i fn hf;simp only[Yl,bne_iff_ne,ne_eq] at h;simp[callFunc,hf,h.2];intro hn;simp[hn] at h
 ·cases h
theorem zzF (R:Rel β F w0 n s a w) {o:Oper} {f:Operand} {args:Array Operand} {ats:Array TypeId} (ho:o.op = .call { callee := .value f,args:=args,argTypes:=ats })
  {next:Act→World→Prop} {Q:Exit→Act→World→Prop} {K:SV→St→Prop} (h:vl P (.call f args.toList) s K)
  (hnext:∀ sv v s' w',K sv s'→sv.val β=some v→Rel β F w0 n s' a w'→next (a.put o.dst v) w'):o.wp P a w next Q:=by
 obtain⟨sv,v,hk,hv,he⟩:=zl R.fr h
 have key:∀ (g:Nat) (fst cap:Array Value) (vs:List Value) (s':St),v = .func (.func g) fst cap→vs=args.toList.map a.eval→Rel β F w0 n s' a w →
   zu0 P g (fst.toList++vs++cap.toList) s' K→o.wp P a w next Q:=by
  intro g fst cap vs s' hvf hvs R' hc;unfold zu0 at hc;rw[zbW] at hc;obtain⟨hen,hc⟩:=hc;unfold Oper.wp
  have hrun:(execOp a.eval o).run P w = .ok (.enter g (fst++args.map a.eval++cap)) w:=by
   simp only[execOp,ho,resolve,he,hvf,Deferred.ofValue,Yo,Y6,Yk,invoke];rw[zhn hen]
  rw[hrun];simp only[Oper.upon]
  let F':Mem:=fun b=>if s'.M b=none then zk w b else none
  have hF'le:F'.le (zk w):=fun b o h=>by grind
  have hdj:s'.M.disj F':=fun b=>by grind
  have:=hc F' w R'.rd.M hF'le hdj
  have e:(fst.toList++vs++cap.toList).toArray=fst++args.map a.eval++cap:=by
   subst hvs;apply Array.ext';simp
  rw[e] at this;refine this.mono fun en w' ⟨v',M',he',hk',hM',hF2,hd2,e1,e2,e3,e4⟩=>?_
  subst he';have hsub:∀ b o,s'.M b=none→zk w b=some o→F' b=some o:=fun b o h1 h2=>by grind
  refine hnext _ _ _ w' hk' (zh3 β v') (Rel.called R' hM' (fun b o h1 h2=>hF2 b o (hsub b o h1 h2)) (fun b o h1 h2=>?_) e1 e2 e3 e4);rcases hd2 b with h|h
  ·exact h
  ·simp_all
 obtain⟨s',hk',R',_⟩:=zpP R hk;unfold zFG at hk';split at hk'
 ·rename_i g fst cap;simp[SV.val,SC.val] at hv;exact key g fst cap _ s' hv.symm rfl R' hk'
 ·rename_i g cap;simp only[SV.val,Ye] at hv;obtain⟨cvs,hcv,rfl⟩:=hv;obtain⟨s2,hk2,R2,_⟩:=zeL R' hcv hk';exact key g #[] cvs.toArray _ s2 rfl rfl R2 (by simp_all)
 ·simp_all
theorem zrt {T:TypeId} {v:Value}:(newVar T v).run P w = .ok ⟨w.heap.size,0,none⟩ { w with heap:=w.heap.push (.cells v.cells T) }:=by rfl
theorem zlX (z:Array Value) (m:Nat):(Array.range (m*z.size)).map (fun i=>z[i % z.size]!)=((List.replicate m z.toList).flatten).toArray:=by
 apply Array.ext';simp only[Array.toList_map,Array.toList_range]
 induction m with
 | zero=>simp
 | succ m ih=>
  rw[List.replicate_succ',Ydi,←ih,Ydp,List.range_add,Yv];congr 1;simp only[Ya4,List.flatten_cons,List.flatten_nil,Yt];apply Yb1;intro j;simp only[Ya7];by_cases hj:j<z.size
  ·simp[hj,Ybj hj]
  ·grind
theorem zkX {P:Program} {T:TypeId} {z:List Value} {i:TypeInfo} (h:zdJ P T=some z) (hi:P.info? T=some i):∃ zv,i.zero=some zv∧zv.cells=z.toArray∧z.length=i.size:=by
 unfold zdJ at h;simp only[hi,Ybf] at h;cases hz:i.zero with
 | none=>simp_all
 | some zz=>
  grind
theorem zpQ {M:Mem} (hM:M.le (zk w)) {size:Nat} {p:Option Addr} {m c:Nat} {vs:List Value} (h:SrcOk M size p m vs) :
  vs.length=m*size∧(Builtin.firstCells size m (.slice p m c)).run P w = .ok vs.toArray w∧(Builtin.firstCells size m (.slice p m c)).run P w.drew = .ok vs.toArray w.drew:=by
 obtain⟨hl,h⟩:=h;refine⟨hl,?_⟩;rcases h with rfl|⟨b,o,rfl,hrow⟩
 ·cases p with
  | none=>exact⟨run_firstCells_none w size m m c,run_firstCells_none w.drew size m m c⟩
  | some q=>exact⟨run_firstCells_some w size m q m c [] hl (fun j v hj=>by grind),run_firstCells_some w.drew size m q m c [] hl (fun j v hj=>by grind)⟩
 ·have hc:∀ (j:Nat) (v:Value),vs[j]? = some v→w.cell? ((⟨b,o,none⟩:Addr).add j)=some v:=by
   intro j v hj;obtain⟨cs,e,fz,hh,hle,hvs⟩:=zjI hM hrow;rw[zb7,zg9 hh];have hj2:=(Yu.1 hj).1
   have h3:((cs.toList.drop o).take (m*size))[j]? = some v:=hvs▸hj;rw[Ycb] at h3;split at h3
   ·simp_all
   ·omega
  exact⟨run_firstCells_some w size m _ m c vs hl hc,run_firstCells_some w.drew size m _ m c vs hl hc⟩
theorem zru (R:Rel β F w0 n s a w) {size:Nat} {tx:TypeId} {sv:SV} {v:Value} (hv:sv.val β=some v) {k:Nat→List Value→St→Prop} (h:zzu size sv s k) (hk:zu6 P tx=true) :
  ∃ m news s',k m news s'∧Rel β F w0 n s' a w∧((∀ u∈news,u.oneCell'=true)→Src P size tx v m news w):=by
 have kind:(∃ e',P.underlying tx=some (.slice e'))∨P.underlying tx=some .string:=by
  unfold zu6 at hk;split at hk
  ·simp_all
  ·simp_all
  ·grind
 unfold zzu at h;split at h
 ·rename_i j m;unfold zHQ at h;rw[zjA] at h;split at h
  ·rename_i T cs hj;obtain⟨hl,h⟩:=zei h;obtain⟨b,vs,hb,hvs,hh⟩:=R.rd.live j T cs hj;obtain⟨s',hk',R',_⟩:=zeL R hvs h;simp[SV.val,hb] at hv;subst hv;have hvl:=zb1 hvs
   have hc:∀ (j:Nat) (v:Value),vs[j]? = some v→w.cell? ((⟨b,0,none⟩:Addr).add j)=some v:=by
    intro j v hj;rw[zb7,zg9 hh];simpa using hj
   exact⟨m,vs,s',hk',R',fun h1=>⟨kind,fun _=>rfl,run_firstCells_some w size m _ m m vs oM hc,run_firstCells_some w.drew size m _ m m vs oM hc,by omega,h1⟩⟩
  ·simp_all
 ·rename_i p m c;obtain⟨vs,hsrc,h⟩:=h;simp[SV.val,SC.val] at hv;subst hv;obtain⟨h1,h2,h3⟩:=zpQ (P:=P) (c:=c) R.rd.M hsrc;exact⟨m,vs,_,h,R,fun h4=>⟨kind,fun _=>rfl,h2,h3,h1,h4⟩⟩
 ·rename_i b;obtain⟨hl,h⟩:=zei h;subst hl;simp[SV.val,SC.val] at hv;subst hv;exact⟨b.size,byteCells b,s,h,R,fun h4=>⟨kind,fun _=>rfl,firstCells_string b w,firstCells_string b w.drew,by rw[byteCells_length];omega,h4⟩⟩
 ·simp_all
theorem zsC (M:Mem) (b:Nat) (E:TypeId) (x y:List Value):(M.setCells b E x).setCells b E y=M.setCells b E y:=by
 funext c;by_cases h:c=b
 ·subst h;simp[Mem.setCells,Yam]
 ·simp[Mem.setCells,Yh _ _ h]
theorem zvz (R:Rel β F w0 n s a w) {E t tx ty:TypeId} {i:TypeInfo} {z:Value} {p:Option Addr} {m c m':Nat} {news:List Value} {k:Option Addr→Nat→Mem→Prop} {v:Value}
  (ht:P.underlying t=some (.slice E)) (hi:P.info? E=some i) (hz:i.zero=some z) (hzs:z.cells.size=i.size) (hs:(∀ u∈news,u.oneCell'=true)→Src P i.size tx v m' news w)
  (hby:(m+m')*i.bytes≤140737488355328) (hmax:m+m'≤maxLen) (h1:∀ u∈news,u.oneCell'=true) {M0:Mem} {L:List Value} (hL:L.length=m*i.size) (hroom:¬m+m'≤c) (hM0:M0.le s.M)
  (hold:(Builtin.firstCells i.size m (.slice p m c)).run P w.drew = .ok L.toArray w.drew)
  (hk:∀ a' c' M',c'≤maxLen→Own M0 E i.size a' (m+m') c' (L++news) M'→k a' c' M') :
  ∃ p' c' M' w',(Builtin.append_ #[t,tx] ty #[.slice p m c,v]).run P w = .ok (.slice p' (m+m') c') w'∧k p' c' M'∧Rel β F w0 n { s with M:=M' } a w':=by
 have hs:=hs h1;have hnl:=hs.newsLen
 have hsmall:m+m'≤9223372036854775807:=by simp only[maxLen] at hmax;omega
 have hrun:=run_append_grow_src (P:=P) w t tx ty E i z ht hi hz p m c L hold v m' news hs oM oM (growslice_fits oM hby);have hge:=grownCap_ge w (m+m') c E
 have hnew:∀ o,zk w w.heap.size≠some o:=fun o h=>by
  have:w.heap[w.heap.size]? = some o:=h;simp at this
 let cells:List Value:=L++news++(Builtin.zeroCells z.cells (grownCap w (m+m') c E - (m+m'))).toList
 have hcells:((L++news).toArray++Builtin.zeroCells z.cells (grownCap w (m+m') c E - (m+m')))=cells.toArray:=by
  apply Array.ext';simp[cells]
 rw[hcells] at hrun;refine⟨_,_,M0.setCells w.heap.size E cells,_,hrun,hk _ (grownCap w (m+m') c E) _ (grownCap_le_maxLen w (m+m') c E hmax) ⟨by rw[Yi,hL,hnl,Ycq],hge,.inr ⟨w.heap.size,cells,rfl,?_,rfl,?_,?_⟩⟩,?_⟩
 ·cases h:M0 w.heap.size with
  | none=>rfl
  | some o=>exact absurd (R.rd.M _ _ (hM0 _ _ h)) (hnew o)
 ·simp only[cells,Yi,hL,hnl,Array.length_toList,size_zeroCells,hzs];rw[←Ycq,←Ycq];congr 1;omega
 ·simp only[cells];rw[Y4 (by simp[hL,hnl,Ycq]),Yf (by simp[hL,hnl,Ycq])]
 ·refine Rel.called R ?_ (fun b o _ h=>zcD w _ h) (fun b o h1 h2=>?_) rfl rfl rfl ⟨by simp,Yc3 _⟩
  ·intro x o hx;by_cases hxe:x=w.heap.size
   ·subst hxe;simp[Mem.setCells,Yam] at hx;subst hx;show (w.heap.push _)[w.heap.size]? = _
    simp
   ·simp[Mem.setCells,Yh _ _ hxe] at hx;exact zcD w _ (R.rd.M _ _ (hM0 _ _ hx))
  ·have hne:b≠w.heap.size:=fun e=>by simp_all
   simp only[Mem.setCells,Yh _ _ hne];cases h:M0 b with
   | none=>rfl
   | some o'=>rw[hM0 _ _ h] at h1;cases h1
theorem zBC (R:Rel β F w0 n s a w) {E t tx ty:TypeId} {i:TypeInfo} {z:Value} {p:Option Addr} {m c m':Nat} {news:List Value} {k:Option Addr→Nat→Mem→Prop} {v:Value}
  (ht:P.underlying t=some (.slice E)) (hi:P.info? E=some i) (hz:i.zero=some z) (hzs:z.cells.size=i.size) (hs:(∀ u∈news,u.oneCell'=true)→Src P i.size tx v m' news w)
  (h:zZ E i.size i.bytes p m c m' news s.M k) :
  ∃ p' c' M' w',(Builtin.append_ #[t,tx] ty #[.slice p m c,v]).run P w = .ok (.slice p' (m+m') c') w'∧k p' c' M'∧Rel β F w0 n { s with M:=M' } a w':=by
 obtain⟨hby,hmax,h1,⟨M0,L,⟨hL,hmc,hown⟩,hk⟩|⟨hroom,hmc,L,hsrc,hk⟩|⟨hz0,hmc,hk⟩⟩:=h
 rotate_left
 ·obtain⟨h2, -, h3⟩:=zpQ (P:=P) (c:=c) R.rd.M hsrc;exact zvz R ht hi hz hzs hs hby hmax h1 h2 oM (Ya _) h3 hk
 ·subst hz0;have hs:=hs h1
  have:news=[]:=by simpa using hs.newsLen
  subst this;exact⟨p,c,s.M,w,run_append_nothing (P:=P) w t tx ty E i ht hi p m c hmc v hs,hk,R⟩
 have hs:=hs h1;have hnl:=hs.newsLen
 have hsmall:m+m'≤9223372036854775807:=by simp only[maxLen] at hmax;omega
 by_cases hroom:m+m'≤c
 ·by_cases hnews:m'=0
  ·subst hnews;have:news=[]:=by simpa using hnl
   subst this;have hrun:=run_append_nothing (P:=P) w t tx ty E i ht hi p m c hmc v hs
   refine⟨p,c,s.M,w,hrun,hk p c s.M (.inl rfl) ?_,R⟩;simpa using ⟨hL,hmc,hown⟩
  ·rcases hown with ⟨_,hc0,_⟩|⟨b,cs,rfl,hb0,hM,hcl,hct⟩
   ·omega
   ·have hMb:s.M b=some (.cells cs.toArray E (0,0)):=by rw[hM];simp[Mem.setCells,Yam]
    have hh:=R.rd.M b _ hMb;have hle:(m+m')*i.size≤c*i.size:=Ybr _ hroom
    rw[Ycq] at hle;have hst:=run_storeCells_at (P:=P) b (m*i.size) E news 0 cs.toArray w hh (by simp_all) hs.one
    simp only[Ybx] at hst
    have hrun:(Builtin.append_ #[t,tx] ty #[.slice (some ⟨b,0,none⟩) m c,v]).run P w = .ok (.slice (some ⟨b,0,none⟩) (m+m') c) (w.setRow b (zd cs (m*i.size) news).toArray):=by
     rcases hs.kind with ⟨e',hkd⟩|hkd<;>simp[Builtin.append_,run_underlying ht,run_underlying hkd,sizeOf,typeInfo,hi,hs.len,hroom,hs.cells,Addr.add_lit,hst,zd]
    have R':=Rel.setMem R hMb (zd cs (m*i.size) news)
    have e:s.M.upd b (.cells (zd cs (m*i.size) news).toArray E (0,0))=M0.setCells b E (zd cs (m*i.size) news):=by
     rw[hM];exact zsC M0 b E cs _
    rw[e] at R';refine⟨_,_,_,_,hrun,hk _ c _ (.inl rfl) ⟨by rw[Yi,hL,hnl,Ycq],hroom,.inr ⟨b,_,rfl,hb0,rfl,?_,?_⟩⟩,R'⟩
    ·rw[ziO _ _ _ (by omega),hcl]
    ·have e2:(cs.take (m*i.size)).length=m*i.size:=by rw[hct,hL]
     rw[zd,hct,Y4 (by simp[hL,hnl,Ycq]),Yf (by simp[hL,hnl,Ycq])]
 ·have hold:(Builtin.firstCells i.size m (.slice p m c)).run P w.drew = .ok L.toArray w.drew:=by
   rcases hown with ⟨rfl,hc0,_⟩|⟨b,cs,rfl,hb0,hM,hcl,hct⟩
   ·have:L=[]:=by
     have:m=0:=by omega
     subst this;simpa using hL
    subst this;exact run_firstCells_none w.drew i.size m m c
   ·have hMb:s.M b=some (.cells cs.toArray E (0,0)):=by rw[hM];simp[Mem.setCells,Yam]
    have hh:=R.rd.M b _ hMb;refine run_firstCells_some w.drew i.size m _ m c L hL fun j u hj=>?_
    show w.cell? _=some u;rw[zb7,zg9 hh];rw[←hct] at hj;simp[Ycb] at hj;simpa using hj.2
  have hM0:M0.le s.M:=by
   rcases hown with ⟨_,_,e⟩|⟨b,cs,_,hb0,e,_,_⟩
   ·rw[e];exact Ya _
   ·rw[e];intro x o hx;have hne:x≠b:=fun e=>by simp_all
    simpa[Mem.setCells,Yh _ _ hne] using hx
  exact zvz R ht hi hz hzs (fun _=>hs) hby hmax h1 hL hroom hM0 hold fun a' c' M' hc' ho=>hk a' c' M' (.inr hc') ho
theorem zBD {b:Nat} {o o':Obj} (hb:w.heap[b]? = some o):(w.heap.setIfInBounds b o')[b]? = some o'∧∀ x,x≠b→(w.heap.setIfInBounds b o')[x]? = w.heap[x]? := MapKept.heap_set hb
theorem zgz {b:Nat} {o o':Obj} (hb:w.heap[b]? = some o) (hne:∀ c e f,o ≠ .cells c e f):(setObj b o').run P w = .ok () { w with heap:=w.heap.setIfInBounds b o' }:=by
 cases o with
 | cells c e f=>simp_all
 | _=>simp[setObj,Sem.run,hb]
theorem zyx (w:World) (o:Obj):zk w w.heap.size≠some o:=fun h=>by
 have:w.heap[w.heap.size]? = some o:=h;simp at this
theorem Rel.newObj (R:Rel β F w0 n s a w) (o:Obj):Rel β F w0 n { s with M:=s.M.upd w.heap.size o } a { w with heap:=w.heap.push o }:=by
 refine Rel.called R ?_ (fun b o' _ h=>zcD w _ h) (fun b o' h1 h2=>?_) rfl rfl rfl ⟨by simp,Yd _⟩
 ·intro x o' hx;by_cases hxe:x=w.heap.size
  ·subst hxe;rw[Yam] at hx;cases hx;show (w.heap.push _)[w.heap.size]? = _
   simp
  ·rw[Yh _ _ hxe] at hx;exact zcD w _ (R.rd.M _ _ hx)
 ·have hne:b≠w.heap.size:=fun e=>by subst e;exact zyx w _ h2
  rw[Yh _ _ hne];exact h1
theorem New.here (R:Rel β F w0 n s a w) {k:Nat→Prop} (h:New s.M k):k w.heap.size:=by
 refine h _ ?_;cases hx:s.M w.heap.size with
 | none=>rfl
 | some o=>exact absurd (R.rd.M _ _ hx) (zyx w o)
theorem Rel.setObj (R:Rel β F w0 n s a w) {b:Nat} {o:Obj} (hb:s.M b=some o) (o':Obj):Rel β F w0 n { s with M:=s.M.upd b o' } a { w with heap:=w.heap.setIfInBounds b o' }:=by
 have hh:=R.rd.M b _ hb;obtain⟨h1,h2⟩:=zBD (w:=w) (o':=o') hh;refine Rel.called R ?_ (fun c o2 hc h=>?_) (fun c o2 hc h=>?_) rfl rfl rfl ⟨by simp,Yd _⟩
 ·intro x o2 hx;by_cases hxb:x=b
  ·subst hxb;rw[Yam] at hx;cases hx;exact h1
  ·rw[Yh _ _ hxb] at hx;show (w.heap.setIfInBounds b o')[x]? = _
   rw[h2 x hxb];exact R.rd.M x _ hx
 ·have hne:c≠b:=fun e=>by simp_all
  show (w.heap.setIfInBounds b o')[c]? = _;rw[h2 c hne];exact h
 ·have hne:c≠b:=fun e=>by simp_all
  rw[Yh _ _ hne];exact hc
theorem zjd {r:Option Nat} {A:Prop} {k:Nat→Prop} (h:zkQ r A k):(r=none∧A)∨∃ b,r=some b∧k b:=by
 cases r with
 | none=>exact .inl ⟨rfl,h⟩
 | some b=>exact .inr ⟨b,rfl,h⟩
theorem Rel.drew (R:Rel β F w0 n s a w):Rel β F w0 n s a w.drew:=Rel.called R R.rd.M (fun _ _ _ h=>h) (fun _ _ h _=>h) rfl rfl rfl ⟨Yd _,Yc3 _⟩
theorem zxr {key:Value} {es:Array MapEntry} {f:Option (Nat×Value)} (h:zB key es.toList 0=some f) (i:Nat) (v:Value) (hf:f=some (i,v)) :
  ∃ e,es[i]? = some e∧e.key=key:=by
 have gen:∀ (l:List MapEntry) (j:Nat),zB key l j=some f→∃ e,l[i - j]? = some e∧e.key=key∧j≤i:=by
  intro l
  induction l with
  | nil=>intro j h;subst hf;simp[zB] at h
  | cons e l ih=>
   intro j h;simp only[zB] at h;split at h
   ·rename_i hs;subst hf;simp at h;obtain⟨rfl,_⟩:=h;exact⟨e,by simp,(zDz hs).symm,Yd _⟩
   ·grind
   ·cases h
 obtain⟨e,h1,h2,_⟩:=gen es.toList 0 h;exact⟨e,by simp_all,h2⟩
theorem zDC {T K E:TypeId} {kk:KK} (hT:P.underlying T=some (.map K E)) (hk:zcK P K=some kk) {key v:Value} (hok:zoR kk key) {b:Nat} {p:Array MapEntry×Nat} (hb:w.heap[b]? = some (.map p.1 p.2))
  {f:Option (Nat×Value)} (h:zB key p.1.toList 0=some f) :
  (Instr.mapUpdate T (.map (some b)) key v).run P w = .ok () { w with heap:=w.heap.setIfInBounds b (zdg p f key v) }:=by
 have hg:=Yb4 (P:=P) hb;have hc:=fun em=>zix (P:=P) hk hok em 9998 w
 have hfr:=zlT (P:=P) hk hok h w;have hst:=zBy (P:=P) hok w
 cases f with
 | none=>
  simp[Instr.mapUpdate,run_underlying hT,hg,hc,hfr,Result.andThen,zgz hb (fun _ _ _ h=>by cases h),zdg]
 | some q=>
  obtain⟨i,v0⟩:=q;obtain⟨e,h1,h2⟩:=zxr h i v0 rfl;simp[Instr.mapUpdate,run_underlying hT,hg,hc,hfr,Result.andThen,zgz hb (fun _ _ _ h=>by cases h),zdg,h1,h2,hst]
theorem zDD {T K E ty:TypeId} {U:TypeId} {kk:KK} (hT:P.underlying T=some (.map K E)) (hk:zcK P K=some kk) {key:Value} (hok:zoR kk key) {b:Nat} {p:Array MapEntry×Nat} (hb:w.heap[b]? = some (.map p.1 p.2))
  {f:Option (Nat×Value)} (h:zB key p.1.toList 0=some f) :
  (Builtin.delete_ #[T,U] ty #[.map (some b),key]).run P w = .ok (.tuple #[]) { w with heap:=w.heap.setIfInBounds b (zdq p f) }:=by
 have hg:=Yb4 (P:=P) hb;have hc:=fun em=>zix (P:=P) hk hok em 9998 w
 have hfr:=zlT (P:=P) hk hok h w;cases f with
 | none=>simp[Builtin.delete_,run_underlying hT,hg,hc,hfr,Result.andThen,zgz hb (fun _ _ _ h=>by cases h),zdq]
 | some q=>
  obtain⟨i,v0⟩:=q;simp[Builtin.delete_,run_underlying hT,hg,hc,hfr,Result.andThen,zgz hb (fun _ _ _ h=>by cases h),zdq]
theorem zzG (R:Rel β F w0 n s a w) {b since last m clock:Nat} {seen:Array Nat} {es:Array MapEntry} {ty:TypeId} {k:SV→Mem→Prop} (hb:s.M b=some (.mapIter (some m) since seen last)) (hm:s.M m=some (.map es clock))
  (h:zO s.M b since last m seen es clock k) :
  ∃ sv v M' w',(Instr.next (.pointer (some ⟨b,0,none⟩)) false ty).run P w = .ok v w'∧k sv M'∧sv.val β=some v∧Rel β F w0 n { s with M:=M' } a w':=by
 obtain⟨h0,hover,hnext⟩:=h;have hB:w.heap[b]? = _:=R.rd.M b _ hb
 have hMm:w.heap[m]? = _:=R.rd.M m _ hm
 have test:(!seen.isEmpty && !es.isEmpty&&es.all (fun x=>decide (x.born≥last)))=false:=by
  rcases h0 with h0|h0|⟨e,he,hlt⟩
  ·grind
  ·grind
  ·have:es.all (fun x=>decide (x.born≥last))=false:=by
    rw[Bool.eq_false_iff];intro hall;rw[Array.all_eq_true_iff_forall_mem] at hall;have:=hall e (by simpa using he)
    simp at this;omega
   simp[this]
 have g1:(getObj b).run P w = .ok (.mapIter (some m) since seen last) w:=by simp[getObj,Sem.run,hB]
 have g2:(getObj m).run P w = .ok (.map es clock) w:=by simp[getObj,Sem.run,hMm]
 let left:=es.filter fun e => !seen.contains e.born
 let old:=left.filter fun x=>decide (x.born<since)
 let new:=left.filter fun x=>decide (x.born≥since)
 let cands:Array (Option MapEntry):=(if old.isEmpty then #[none] else #[])++(old++new).map some
 have hpos:0<cands.size:=by
  simp only[cands];cases ho:old.isEmpty with
  | true=>grind
  | false=>
   have:0<old.size:=by
    rcases Nat.eq_zero_or_pos old.size with h|h
    ·simp[Array.isEmpty,h] at ho
    ·exact h
   simp;omega
 have hch:∃ (j:Nat) (w1:World),j<cands.size∧(w1=w∨w1=w.drew)∧(choose (Question.mapNext cands.size)).run P w = .ok j w1:=by
  by_cases hf:cands.size≤1
  ·exact⟨0,w,hpos,.inl rfl,by simp[choose,Sem.run,Question.forced,hf]⟩
  ·exact⟨_,w.drew,Nat.mod_lt _ hpos,.inr rfl,by
    simp only[choose,Sem.run,Question.forced,decide_eq_true_eq,hf,if_false,Question.cut]
    rfl⟩
 obtain⟨j,w1,hj,hw1,hrun⟩:=hch
 have R1:Rel β F w0 n s a w1:=by
  rcases hw1 with rfl|rfl
  ·exact R
  ·exact R.drew
 have hB1:w1.heap[b]? = _:=R1.rd.M b _ hb
 have hmem:∀ x∈cands,(x=none∧old.isEmpty=true)∨∃ e,x=some e∧e∈es.toList∧seen.contains e.born=false:=by
  intro x hx;simp only[cands,Array.mem_append,Array.mem_map] at hx;rcases hx with hx|⟨e,he,rfl⟩
  ·simp_all
  ·grind
 have hpre:(Instr.next (.pointer (some ⟨b,0,none⟩)) false ty).run P w=(match cands[j]? with
   | some (some e)=>((do setObj b (.mapIter (some m) since (seen.push e.born) clock);pure (.tuple #[.bool true,e.key,e.val])):Sem Value).run P w1
   | some none => .ok (.tuple #[.bool false]) w1
   | none=>(stuck "Next: no such candidate" : Sem Value).run P w1):=by
  simp only[Instr.next,Yo,g1,g2,Yk,test,Ybp,if_false];have:(choose (Question.mapNext cands.size)).run P w = .ok j w1:=hrun
  simp only[cands,old,new,left] at this ⊢;rw[this];simp only[Yk];split<;>simp_all
 rw[hpre];rw[Ybk hj];rcases hmem _ (Array.getElem_mem hj) with ⟨hx,hold⟩|⟨e,hx,he,hs⟩
 ·rw[hx];refine⟨_,_,_,_,rfl,hover ?_,rfl,R1⟩;intro e he;by_cases hse:seen.contains e.born=true
  ·simp_all
  ·right;rcases Ydo e.born since with hlt|hge
   ·exfalso
    have:e∈old:=by
     simp only[old,left,Array.mem_filter];exact⟨⟨by simpa using he,by simpa using hse⟩,by simpa using hlt⟩
    rw[Array.isEmpty_iff] at hold;rw[hold] at this;simp at this
   ·omega
 ·rw[hx];have hR:=Rel.setObj R1 hb (.mapIter (some m) since (seen.push e.born) clock)
  refine⟨_,_,_,_,?_,hnext e he hs,rfl,hR⟩;simp only[Yo,zgz hB1 (fun _ _ _ h=>by cases h),Yk,Y6]
def Ext (β β':List Nat) (r:ROp) (w w':World):Prop:=(∃ γ,β'=β++γ)∧(zf4 r=true→∀ b o,zk w b=some o→zk w' b=some o)
theorem Ext.same {r:ROp} {w':World} (h:zf4 r=false):Ext β β r w w':=⟨⟨[],by simp⟩,fun e=>by simp_all⟩
theorem zrv (R:Rel β F w0 n s a w) {o:Oper} {T KT ET:TypeId} {x key y:Operand} {kk:KK} (ho:o.op = .mapUpdate T x key y∨o.op = .insert T x key y) (hu:P.underlying T=some (.map KT ET)) (hkk:zcK P KT=some kk)
  {next:Act→World→Prop} {Q:Exit→Act→World→Prop} {K:SV→St→Prop} (h:vl P (.mset kk x key y) s K)
  (hnext:∀ s' w',K .dead s'→Rel β F w0 n s' a w'→next (a.put o.dst undef) w'):o.wp P a w next Q:=by
 simp only[vl] at h;obtain⟨u,uv,hk,hu2,he⟩:=zl R.fr h;obtain⟨r,hk,rfl⟩:=zgy hk hu2;rcases zjd hk with ⟨rfl,hk⟩|⟨b,rfl,hk⟩
 ·simp_all
 obtain⟨kv,kvv,hk,hkv,he'⟩:=zl R.fr hk;obtain⟨hk,hok⟩:=zlS hk hkv;obtain⟨sv,v,hk,hv,he2⟩:=zl R.fr hk;obtain⟨s1,hk,R1,_⟩:=zek R hv hk;obtain⟨p,hp,hk⟩:=zal hk;obtain⟨f,hfi,hk⟩:=zal hk;have hMb:=zfa hp
 have hrun:=zDC (P:=P) hu hkk (v:=v) hok (R1.rd.M _ _ hMb) hfi
 have hrun':(execOp a.eval o).run P w = .ok .skip { w with heap:=w.heap.setIfInBounds b (zdg p f kvv v) }:=by
  rcases ho with ho|ho<;>simp only[execOp,ho,he,he',he2,Yo,hrun,Yk,Y6]
 unfold Oper.wp;rw[hrun'];exact hnext _ _ hk (Rel.setObj R1 hMb _)
theorem zzH {M:Mem} {r:Nat} {p:ByteArray×Nat} (h:M.sitAt r=some p):M r=some (.stringIter p.1 p.2):=by
 unfold Mem.sitAt at h;split at h
 ·grind
 ·cases h
theorem zDE {ops:List Oper} {o:Oper} {r:ROp} (hr:zo P ops o=some r) (hq:z6 r=false) (R:Rel β F w0 n s a w)
  {next:Act→World→Prop} {Q:Exit→Act→World→Prop} {K:SV→St→Prop} (h:vl P r s K)
  (hnext:∀ β' sv v s' w',K sv s'→(sv = .dead∨sv.val β'=some v)→Rel β' F w0 n s' a w'→Ext β β' r w w'→next (a.put o.dst v) w'):o.wp P a w next Q:=by
 cases ho:o.op with
 | box T x=>
  simp[zo,ho] at hr;subst hr;simp only[vl] at h;obtain⟨sv,v,hk,hv,he⟩:=zl R.fr h;obtain⟨cs,hcs,hk⟩:=zal hk;obtain⟨us,hu,hc⟩:=zqo hv hcs;simp only[zbW,zsB] at hk
  have hrun:(execOp a.eval o).run P w = .ok (.value (.pointer (some ⟨w.heap.size,0,none⟩))) { w with heap:=w.heap.push (.cells us.toArray T) }:=by
   simp[execOp,ho,Instr.box,he,zrt,hc]
  unfold Oper.wp;rw[hrun];have R':=Rel.newBox R T hu
  refine hnext _ _ _ _ _ hk (.inr ?_) R' ⟨⟨_,rfl⟩,fun _ b x hx=>zcD w _ hx⟩;simp[SV.val,SC.val,←R.len]
 | alloc T=>
  simp only[zo,ho,Ye] at hr;obtain⟨z,hz,rfl⟩:=hr;simp only[vl,zbW,zsB] at h;obtain⟨zv,hzv,hzc⟩:=zlR w hz
  have hrun:(execOp a.eval o).run P w = .ok (.value (.pointer (some ⟨w.heap.size,0,none⟩))) { w with heap:=w.heap.push (.cells z.toArray T) }:=by
   simp only[execOp,ho,Instr.alloc,Yo,hzv,Yk,zrt,hzc,Y6]
  unfold Oper.wp;rw[hrun];have R':=Rel.newBox R T (zeh β z)
  refine hnext _ _ _ _ _ h (.inr ?_) R' ⟨⟨_,rfl⟩,fun _ b x hx=>zcD w _ hx⟩;simp[SV.val,SC.val,←R.len]
 | store T p x=>
  simp only[zo,ho,Ye] at hr;obtain⟨m,hm,rfl⟩:=hr;simp only[vl] at h;obtain⟨sv,v,hk,hv,he⟩:=zl R.fr h;obtain⟨l,hl,hk⟩:=zal hk
  obtain⟨hone,hk2⟩:l.all zzt=true∧_:=by
   unfold oneC at hk;split at hk
   ·exact⟨‹_›, hk⟩
   ·simp_all
  obtain⟨us,hu,hc⟩:=zqo hv hl;have hul:=zb1 hu
  have h1:=zzE hu hone;rcases R.rd.evP R.fr hk2 with ⟨j,o',T',cs,b,vs,hj,hk3,hb,hvs,hp⟩|⟨b,o',hk3,hp⟩
  ·obtain⟨cs',hfit,hk4⟩:=zal hk3;obtain⟨hlm,hle,rfl⟩:=ztJ hfit;rw[zbW,zjA,hj] at hk4;simp only[zHP,zGh] at hk4;obtain⟨b',vs',hb',hvs',hh⟩:=R.rd.live j T' cs hj;rw[hb] at hb';cases hb';rw[hvs] at hvs';cases hvs';have hvl:=zb1 hvs
   have hst:=zku (P:=P) (o:=o') hm hc oM hh (by simp_all) h1
   have hrun:(execOp a.eval o).run P w = .ok .skip (w.setRow b (zd vs o' us).toArray):=by
    simp only[execOp,ho,Instr.storeAt,hp,he,Instr.sureAddr,Yo,Y6,Yk,hst]
   unfold Oper.wp;rw[hrun];exact hnext _ _ _ _ _ hk4 (.inl rfl) (Rel.setBox R hj hb hh (zpG o' hvs hu)) (Ext.same rfl)
  ·obtain⟨hlm,hk3⟩:l.length=m∧_:=by
    unfold ziN at hk3;split at hk3
    ·exact⟨Ya9 ‹_›, hk3⟩
    ·simp_all
   obtain⟨s',hk4,R',_⟩:=zeL R hu hk3;obtain⟨⟨e,c⟩,hMc,hk5⟩:=zal hk4;obtain⟨hle,hk6⟩:=hk5
   have hMb:s'.M b=some (.cells c.toArray e (0,0)):=by
    unfold Mem.cells at hMc;split at hMc
    ·rename_i c' e' hc';simp at hMc;obtain⟨rfl,rfl⟩:=hMc;simpa using hc'
    ·grind
   have hh:=R'.rd.M b _ hMb;simp only at hle;have hst:=zku (P:=P) (o:=o') hm hc oM hh (by omega) h1
   have hrun:(execOp a.eval o).run P w = .ok .skip (w.setRow b (zd c o' us).toArray):=by
    simp only[execOp,ho,Instr.storeAt,hp,he,Instr.sureAddr,Yo,Y6,Yk,hst]
   unfold Oper.wp;rw[hrun];exact hnext _ _ _ _ _ hk6 (.inl rfl) (Rel.setMem R' hMb _) (Ext.same rfl)
 | buildSlice T m parts=>
  simp only[zo,ho] at hr;split at hr
  ·rename_i E hu;simp only[Yn] at hr;obtain⟨z,hz,sz,hsz,hr⟩:=hr;split at hr
   ·rename_i hcond;obtain⟨hbig,hsz0⟩:=hcond;simp only[Y3] at hr;subst hr;simp only[vl,zbW,zsB] at h;have hzs:=zpH hz
    have hzl:z.length=sz:=by rw[hzs] at hsz;exact Yb2 hsz
    obtain⟨cs',us',h1,h2,h3,h4⟩:=zii R.fr (fun i=>some (i*sz,sz)) parts.toList _ _ _ _ oS (zeh β _) h;obtain⟨zv,hzv,hzc⟩:=zlR w hz;have e:(parts.map fun (x:Nat×Operand)=>(x.1,a.eval x.2)).toList=parts.toList.map fun p=>(p.1,a.eval p.2):=by simp
    have hzero:(Array.range (m*sz)).map (fun i=>zv.cells[i % zv.cells.size]!)=((List.replicate m z).flatten).toArray:=by
     have hs:zv.cells.size=sz:=by rw[hzc];simpa using hzl
     have:=zlX zv.cells m;rw[hs] at this ⊢;rw[this,hzc]
    have hrun:(execOp a.eval o).run P w = .ok (.value (.slice (some ⟨w.heap.size,0,none⟩) m m)) { w with heap:=w.heap.push (.cells us'.toArray E) }:=by
     have hnb:¬m*sz>2 ^ 24:=by omega
     by_cases hm0:m*sz=0
     ·have hm00:m=0:=by
       rcases Nat.mul_eq_zero.1 hm0 with h|h
       ·exact h
       ·omega
      subst hm00;simp only[List.replicate_zero,List.flatten_nil] at h4;have hr0:(Array.range 0).map (fun i=>(#[]:Array Value)[i % (#[]:Array Value).size]!) = #[]:=by simp
      simp only[execOp,ho,Instr.buildSlice,Yo,run_underlying hu,zbe hsz,Yk,Nat.zero_mul,e,if_true,Nat.not_lt_zero,if_false,Y6,gt_iff_lt,hr0,h4,newRow,run_newObj]
     ·simp only[execOp,ho,Instr.buildSlice,Yo,run_underlying hu,zbe hsz,Yk,e,Sem.run_ite,hnb,if_false,hm0,hzv,Y6,hzero,h4,newRow,run_newObj]
    unfold Oper.wp;rw[hrun];have R':=Rel.newBox R E h2
    cases hfl:zyu ops o with
    | true=>
     rw[hfl] at h1;refine hnext _ _ _ _ _ h1 (.inr ?_) R' ⟨⟨_,rfl⟩,fun _ b x hx=>zcD w _ hx⟩;simp[SV.val,←R.len]
    | false=>
     rw[hfl] at h1;obtain⟨b,s',hk,R2,hb,_⟩:=zkt R' h1;refine hnext _ _ _ _ _ hk (.inr ?_) R2 ⟨⟨_,rfl⟩,fun _ b x hx=>zcD w _ hx⟩;have:(β++[w.heap.size])[s.bx.length]? = some w.heap.size:=by rw[←R.len];simp
     rw[this] at hb;cases hb;simp[SV.val,SC.val]
   ·grind
  ·grind
 | call c=>
  obtain⟨callee,args,argTypes⟩:=c;cases callee with
  | value f=>
   simp[zo,ho] at hr;subst hr;exact zzF R ho h fun sv v s' w' hk hv R'=>hnext _ _ _ _ _ hk (.inr hv) R' (Ext.same rfl)
  | invoke x m=>simp[zo,ho] at hr
  | builtin b=>
   cases b<;>simp only[zo,ho] at hr<;>first|cases hr|skip
   ·split at hr
    ·rename_i x y t tx hx hT;have hx':args = #[x,y]:=by cases args;simp_all
     have hT':argTypes = #[t,tx]:=by cases argTypes;simp_all
     subst hx' hT';split at hr
     ·rename_i E hu;simp only[Yn] at hr;obtain⟨z,hz,i,hi,hr⟩:=hr;split at hr
      ·rename_i hc;simp only[Yl] at hc;simp only[Y3] at hr;subst hr;obtain⟨zv,hzv,hzc,hzl⟩:=zkX hz hi;simp only[vl] at h;obtain⟨u,uv,hk,hu2,he⟩:=zl R.fr h;obtain⟨s1,hk,R1,_⟩:=zek R hu2 hk;unfold zu1 at hk;split at hk
       ·rename_i p m c;obtain⟨v,vv,hk,hv,he'⟩:=zl R1.fr hk;obtain⟨m',news,s2,hk,R2,hsrc⟩:=zru (P:=P) (tx:=tx) R1 hv hk hc.1;rw[hzl] at hk hsrc;obtain⟨p',c',M',w',hrun,hk2,R3⟩:=zBC (P:=P) R2 (ty:=o.type) hu hi hzv (by simp_all) hsrc hk
        have hrun':(execOp a.eval o).run P w = .ok (.value (.slice p' (m+m') c')) w':=by
         simp only[execOp,ho,resolve,invoke,builtin,Yo,Y6,Yk];simp[he,he',hrun]
        unfold Oper.wp;rw[hrun'];exact hnext _ _ _ _ _ hk2 (.inr rfl) R3 (Ext.same rfl)
       ·simp_all
      ·grind
     ·grind
    ·grind
   ·split at hr
    ·rename_i x t hx hT;have hx':args = #[x]:=by cases args;simp_all
     have hT':argTypes = #[t]:=by cases argTypes;simp_all
     subst hx' hT';split at hr
     ·rename_i E hu;split at hr
      ·rename_i z hz;split at hr
       ·rename_i hone;simp only[Y3] at hr;subst hr;simp only[vl] at h;obtain⟨p,m,c,hk,he⟩:=ze0 R.fr h;unfold zDy at hk;split at hk
        ·have hrun:(Builtin.clear_ #[t] o.type #[.slice p 0 c]).run P w = .ok (.tuple #[]) w:=by
          cases p<;>simp[Builtin.clear_,run_underlying hu]
         have hrun':(execOp a.eval o).run P w = .ok (.value (.tuple #[])) w:=by
          simp only[execOp,ho,resolve,invoke,builtin,Yo,Y6,Yk];simp[he,hrun]
         unfold Oper.wp;rw[hrun'];exact hnext _ _ _ _ _ hk (.inr rfl) R (Ext.same rfl)
        ·rename_i m;obtain⟨b,o',rfl,hk⟩:=zg8 hk;obtain⟨⟨e,cs⟩,hMc,hk⟩:=zal hk;obtain⟨hle,hk⟩:=hk
         have hMb:s.M b=some (.cells cs.toArray e (0,0)):=by
          unfold Mem.cells at hMc;split at hMc
          ·rename_i c' e' hc';simp at hMc;obtain⟨rfl,rfl⟩:=hMc;simpa using hc'
          ·grind
         have hh:=R.rd.M b _ hMb;simp only at hle;have h1:∀ u∈List.replicate (m+1) z,u.oneCell'=true:=fun u hu=>by simp_all
         have hst:=run_storeCells_at (P:=P) b o' e (List.replicate (m+1) z) 0 cs.toArray w hh (by simp_all) h1;simp only[Ybx] at hst;obtain⟨zv,hzv,hzc⟩:=zlR (P:=P) w hz;have hzc':zv.cells = #[z]:=hzc
         have hrep:(Builtin.zeroCells zv.cells (m+1)).toList=List.replicate (m+1) z:=by
          rw[hzc'];simp[Builtin.zeroCells];apply Ycy
          ·simp
          ·grind
         have hrun:(Builtin.clear_ #[t] o.type #[.slice (some ⟨b,o',none⟩) (m+1) c]).run P w = .ok (.tuple #[]) (w.setRow b (zd cs o' (List.replicate (m+1) z)).toArray):=by
          simp[Builtin.clear_,run_underlying hu,hzv,hrep,hst,zd]
         have hrun':(execOp a.eval o).run P w = .ok (.value (.tuple #[])) (w.setRow b (zd cs o' (List.replicate (m+1) z)).toArray):=by
          simp only[execOp,ho,resolve,invoke,builtin,Yo,Y6,Yk];simp[he,hrun]
         unfold Oper.wp;rw[hrun'];exact hnext _ _ _ _ _ hk (.inr rfl) (Rel.setMem R hMb _) (Ext.same rfl)
       ·grind
      ·grind
     ·grind
    ·grind
   ·split at hr
    ·rename_i x y t tx hx hT;have hx':args = #[x,y]:=by cases args;simp_all
     have hT':argTypes = #[t,tx]:=by cases argTypes;simp_all
     subst hx' hT';split at hr
     ·rename_i E hu;simp only[Yn] at hr;obtain⟨sz,hsz,hr⟩:=hr;split at hr
      ·rename_i hc;simp only[Y3] at hr;subst hr;simp only[vl] at h;obtain⟨u,uv,hk,hu2,he⟩:=zl R.fr h;obtain⟨s1,hk,R1,_⟩:=zek R hu2 hk;unfold zu1 at hk;split at hk
       ·rename_i p m c;obtain⟨v,vv,hk,hv,he'⟩:=zl R1.fr hk;obtain⟨m',news,s2,hk,R2,hsrc⟩:=zru (P:=P) (tx:=tx) R1 hv hk hc;obtain⟨⟨hmm,h1⟩,hk⟩:=hk;have hs:=hsrc h1
        have hnl:=hs.newsLen;obtain⟨b,o',rfl,hk⟩:=zg8 hk;obtain⟨⟨e,cs⟩,hMc,hk⟩:=zal hk;obtain⟨hle,hk⟩:=hk
        have hMb:s2.M b=some (.cells cs.toArray e (0,0)):=by
         unfold Mem.cells at hMc;split at hMc
         ·rename_i c' e' hc';simp at hMc;obtain⟨rfl,rfl⟩:=hMc;simpa using hc'
         ·grind
        have hh:=R2.rd.M b _ hMb;simp only at hle;have hst:=run_storeCells_at (P:=P) b o' e news 0 cs.toArray w hh (by simp_all) h1
        simp only[Ybx] at hst;have hmin:Nat.min m' m=m':=Ybg hmm
        have hrun:(Builtin.copy_ #[t,tx] o.type #[.slice (some ⟨b,o',none⟩) m c,vv]).run P w = .ok (.int .i64 m') (w.setRow b (zd cs o' news).toArray):=by
         rcases hs.kind with ⟨e',hkd⟩|hkd<;>simp[Builtin.copy_,run_underlying hu,zbe hsz,hs.len,hmin,hs.cells,hst,zd,goInt]
        have hrun':(execOp a.eval o).run P w = .ok (.value (.int .i64 m')) (w.setRow b (zd cs o' news).toArray):=by
         simp only[execOp,ho,resolve,invoke,builtin,Yo,Y6,Yk];simp[he,he',hrun]
        unfold Oper.wp;rw[hrun'];exact hnext _ _ _ _ _ hk (.inr rfl) (Rel.setMem R2 hMb _) (Ext.same rfl)
       ·simp_all
      ·grind
     ·grind
    ·grind
   ·split at hr
    ·rename_i x y t tx hx hT;have hx':args = #[x,y]:=by cases args;simp_all
     have hT':argTypes = #[t,tx]:=by cases argTypes;simp_all
     subst hx' hT';split at hr
     ·rename_i KT ET hu;simp only[Ye] at hr;obtain⟨kk,hkk,rfl⟩:=hr;simp only[vl] at h;obtain⟨u,uv,hk,hu2,he⟩:=zl R.fr h;obtain⟨r,hk,rfl⟩:=zgy hk hu2;obtain⟨kv,kvv,hk,hkv,he'⟩:=zl R.fr hk;obtain⟨hk,hok⟩:=zlS hk hkv;rcases zjd hk with ⟨rfl,hk⟩|⟨b,rfl,hk⟩
      ·have hc:=fun em=>zix (P:=P) hkk hok em 9998 w
       have hrun':(execOp a.eval o).run P w = .ok (.value (.tuple #[])) w:=by
        simp[execOp,ho,resolve,invoke,builtin,he,he',Builtin.delete_,run_underlying hu,hc,Result.andThen]
       unfold Oper.wp;rw[hrun'];exact hnext _ _ _ _ _ hk (.inr rfl) R (Ext.same rfl)
      ·obtain⟨p,hp,hk⟩:=zal hk;obtain⟨f,hfi,hk⟩:=zal hk;have hMb:=zfa hp
       have hrun:=zDD (P:=P) (ty:=o.type) (U:=tx) hu hkk hok (R.rd.M _ _ hMb) hfi
       have hrun':(execOp a.eval o).run P w = .ok (.value (.tuple #[])) { w with heap:=w.heap.setIfInBounds b (zdq p f) }:=by
        simp only[execOp,ho,resolve,invoke,builtin,Yo,Y6,Yk];simp[he,he',hrun]
       unfold Oper.wp;rw[hrun'];exact hnext _ _ _ _ _ hk (.inr rfl) (Rel.setObj R hMb _) (Ext.same rfl)
     ·grind
    ·grind
   ·split at hr
    ·split at hr
     ·simp at hr;subst hr;simp[z6] at hq
     ·simp at hr;subst hr;simp[z6] at hq
     ·simp at hr;subst hr;simp[z6] at hq
     ·grind
    ·grind
   ·split at hr
    ·simp at hr;subst hr;simp[z6] at hq
    ·grind
   ·split at hr
    ·simp at hr;subst hr;simp[z6] at hq
    ·grind
 | move x=>simp[zo,ho] at hr;subst hr;simp[z6] at hq
 | assign x=>simp[zo,ho] at hr;subst hr;simp[z6] at hq
 | pick c x y=>simp[zo,ho] at hr;subst hr;simp[z6] at hq
 | build T parts=>
  simp only[zo,ho,Yn,Ye] at hr;obtain⟨z,hz,l,hl,rfl⟩:=hr;simp[z6] at hq
 | load T p=>
  simp only[zo,ho,Yn] at hr;obtain⟨g,hg,z,hz,hr⟩:=hr;split at hr
  ·simp at hr;subst hr;simp[z6] at hq
  ·grind
 | nilCheck x=>simp[zo,ho] at hr;subst hr;simp[z6] at hq
 | fieldAddr T p i=>
  simp only[zo,ho] at hr;split at hr
  ·simp only[Yn] at hr;obtain⟨f,hfi,n,hn,hr⟩:=hr;split at hr
   ·grind
   ·simp at hr;subst hr;simp[z6] at hq
  ·grind
 | field T x i=>
  simp only[zo,ho] at hr;split at hr
  ·simp only[Yn] at hr;obtain⟨f,hfi,g,hg,n,hn,hr⟩:=hr;split at hr
   ·simp at hr;subst hr;simp[z6] at hq
   ·grind
  ·grind
 | indexAddr T x i=>
  simp only[zo,ho] at hr;split at hr
  ·simp only[Ye] at hr;obtain⟨n,hn,rfl⟩:=hr;simp[z6] at hq
  ·simp only[Ye] at hr;obtain⟨n,hn,rfl⟩:=hr;simp[z6] at hq
  ·grind
 | binOp op T x y U=>
  simp only[zo,ho] at hr;split at hr<;>first|(simp at hr;subst hr;simp[z6] at hq;done)|(split at hr<;>first|(simp at hr;subst hr;simp[z6] at hq;done)|(rw[Yn] at hr;obtain⟨n,_,hr⟩:=hr;split at hr<;>first|(simp at hr;subst hr;simp[z6] at hq;done)|(cases hr;done))|(cases hr;done)|(split at hr<;>first|(simp at hr;subst hr;simp[z6] at hq;done)|(cases hr;done)))|(cases hr;done)
 | unOp op T x=>
  cases op with
  | not=>simp[zo,ho] at hr;subst hr;simp[z6] at hq
  | neg=>
   simp only[zo,ho] at hr;split at hr
   ·simp at hr;subst hr;simp[z6] at hq
   ·grind
  | xor=>
   simp only[zo,ho] at hr;split at hr
   ·simp at hr;subst hr;simp[z6] at hq
   ·grind
  | plus=>simp[zo,ho] at hr
 | convert S T x=>
  simp only[zo,ho] at hr;split at hr
  ·simp at hr;subst hr;simp[z6] at hq
  ·split at hr
   ·simp at hr;subst hr;simp[z6] at hq
   ·grind
  ·split at hr
   ·rename_i e1 e2 hT hS hc;simp only[Yl,beq_iff_eq] at hc;obtain⟨hby,rfl⟩:=hc;simp only[Y3] at hr;subst hr;simp only[vl] at h;obtain⟨p,m,c,hk,he⟩:=ze0 R.fr h;obtain⟨b,o',rfl,hk⟩:=zg8 hk;obtain⟨ob,hob,hk⟩:=zal hk
    have hu8:P.underlying e1=some (.int .u8):=by
     unfold zoQ at hby;rw[hT] at hby;simp only at hby;split at hby
     ·omega
     ·grind
    unfold Mem.textAt at hob;split at hob
    ·rename_i cs e fz hMb;simp only[Y3] at hob;have hB:w.heap[b]? = _:=R.rd.M b _ hMb
     have hrun':(execOp a.eval o).run P w = .ok (.value (.slice (some ⟨b,o',none⟩) m c)) { w with heap:=w.heap.setIfInBounds b ob }:=by
      have hfr:w.freeze ⟨b,cs.size,none⟩ 1={ w with heap:=w.heap.setIfInBounds b ob }:=by
       simp only[World.freeze,Nat.one_ne_zero,if_false];congr 1;apply Array.ext_getElem?;intro j;by_cases hj:j=b
       ·grind
       ·grind
      have hms:(markStringish ⟨b,o',none⟩).run P w = .ok () { w with heap:=w.heap.setIfInBounds b ob }:=by
       simp only[markStringish,shape,freeze,Yo,Sem.run,World.shape?, hB,Result.andThen,hfr]
      simp only[execOp,ho,he,convert,Yo,run_underlying hT,run_underlying hu8,Yk,beq_self_eq_true,hms,Y6]
     unfold Oper.wp;rw[hrun'];exact hnext _ _ _ _ _ hk (.inr rfl) (Rel.setObj R hMb _) (Ext.same rfl)
    ·grind
   ·grind
  ·grind
 | slice T x lo hi mx=>
  cases mx with
  | some _=>
   cases lo with
   | none=>
    cases hi with
    | none=>simp[zo,ho] at hr
    | some _=>
     simp only[zo,ho] at hr;split at hr
     ·simp only[Ye] at hr;obtain⟨n,hn,rfl⟩:=hr;simp[z6] at hq
     ·grind
   | some _=>
    cases hi with
    | none=>simp[zo,ho] at hr
    | some _=>
     simp only[zo,ho] at hr;split at hr
     ·simp only[Ye] at hr;obtain⟨n,hn,rfl⟩:=hr;simp[z6] at hq
     ·grind
  | none=>
   simp only[zo,ho] at hr;split at hr
   ·simp only[Ye] at hr;obtain⟨n,hn,rfl⟩:=hr;simp[z6] at hq
   ·simp at hr;subst hr;simp[z6] at hq
   ·rename_i len E hu;split at hr
    ·rename_i hc;simp only[Yl,Option.isNone_iff_eq_none] at hc;obtain⟨rfl,rfl⟩:=hc;simp only[Ye] at hr;obtain⟨sz,hsz,rfl⟩:=hr;simp only[vl] at h;obtain⟨u,uv,hk,hu2,he⟩:=zl R.fr h;obtain⟨s1,hk,R1,_⟩:=zek R hu2 hk;unfold zHR at hk;split at hk
     ·rename_i b o'
      have hrun:(execOp a.eval o).run P w = .ok (.value (.slice (some ⟨b,o',none⟩) len len)) w:=by
       simp[execOp,ho,he,Instr.sliceAt,run_underlying hu,Instr.sureAddr,Instr.sliceBounds,zbe hsz,zb7]
      unfold Oper.wp;rw[hrun];exact hnext _ _ _ _ _ hk (.inr rfl) R1 (Ext.same rfl)
     ·simp_all
    ·grind
   ·grind
 | index T x i=>
  simp only[zo,ho] at hr;split at hr
  ·simp at hr;subst hr;simp[z6] at hq
  ·simp only[Yn] at hr;obtain⟨_,_,_,_,hr⟩:=hr;split at hr
   ·simp at hr;subst hr;simp[z6] at hq
   ·grind
  ·grind
 | extract x i=>simp[zo,ho] at hr;subst hr;simp[z6] at hq
 | lookup T x key ok=>
  simp only[zo,ho] at hr;split at hr
  ·simp only[Yn,Ye] at hr;obtain⟨kk,hk,z,hz,rfl⟩:=hr;simp[z6] at hq
  ·grind
 | entry x=>simp[zo,ho] at hr;subst hr;simp[z6] at hq
 | makeMap T m=>
  cases m with
  | some _=>simp[zo,ho] at hr
  | none=>
   simp only[zo,ho,Y3] at hr;subst hr;have hk:=New.here R h
   have hrun':(execOp a.eval o).run P w = .ok (.value (.map (some w.heap.size))) { w with heap:=w.heap.push (.map #[] 0) }:=by
    simp[execOp,ho,Instr.makeMap]
   unfold Oper.wp;rw[hrun'];exact hnext _ _ _ _ _ hk (.inr rfl) (Rel.newObj R _) (Ext.same rfl)
 | makeSlice T x y=>
  simp only[zo,ho] at hr;split at hr
  ·rename_i E hu;simp only[Yn] at hr;obtain⟨z,hz,i,hi,hr⟩:=hr;split at hr
   ·rename_i hzl0;simp only[Y3] at hr;cases hso:zvs x y<;>simp only[hso,if_true,if_false,Ybp] at hr<;>subst hr
    rotate_left
    ·obtain⟨zv,hzv,hzc,hzl⟩:=zkX hz hi;simp only[vl] at h;obtain⟨q,m,hk,he⟩:=zas R.fr h;obtain⟨q',c,hk,he'⟩:=zas R.fr hk;obtain⟨⟨h0,rfl,hby,h63⟩,hk⟩:=hk;have hk:=New.here R hk
     have hrun:=run_make (P:=P) w T E i zv hu hi hzv q q' m m h0 (Yae _) hby h63
     have hcells:madeCells zv.cells (m.toNat*i.size)=((List.replicate m.toNat z).flatten).toArray:=by
      have:=zlX zv.cells m.toNat;rw[hzc] at this;simp only[madeCells,hzc,←hzl];simpa using this
     rw[hcells] at hrun
     have hrun':(execOp a.eval o).run P w = .ok (.value (.slice (some ⟨w.heap.size,0,none⟩) m.toNat m.toNat)) { w with heap:=w.heap.push (.cells ((List.replicate m.toNat z).flatten).toArray E) }:=by
      simp only[execOp,ho,he,he',Yo,hrun,Yk,Y6];rfl
     unfold Oper.wp;rw[hrun'];exact hnext _ _ _ _ _ hk (.inr rfl) (Rel.newObj R _) (Ext.same rfl)
    ·obtain⟨zv,hzv,hzc,hzl⟩:=zkX hz hi;simp only[vl] at h;obtain⟨q,m,hk,he⟩:=zas R.fr h;obtain⟨q',c,hk,he'⟩:=zas R.fr hk;obtain⟨⟨h0,hmc,hby,h63⟩,hk⟩:=hk;have hk:=New.here R hk
     have hrun:=run_make (P:=P) w T E i zv hu hi hzv q q' m c h0 hmc hby h63
     have hcells:madeCells zv.cells (c.toNat*i.size)=((List.replicate c.toNat z).flatten).toArray:=by
      have:=zlX zv.cells c.toNat;rw[hzc] at this;simp only[madeCells,hzc,←hzl];simpa using this
     rw[hcells] at hrun
     have hrun':(execOp a.eval o).run P w = .ok (.value (.slice (some ⟨w.heap.size,0,none⟩) m.toNat c.toNat)) { w with heap:=w.heap.push (.cells ((List.replicate c.toNat z).flatten).toArray E) }:=by
      simp only[execOp,ho,he,he',Yo,hrun,Yk,Y6];rfl
     unfold Oper.wp;rw[hrun'];exact hnext _ _ _ _ _ hk (.inr rfl) (Rel.newObj R _) (Ext.same rfl)
   ·grind
  ·grind
 | mapUpdate T x key y=>
  simp only[zo,ho] at hr;split at hr
  ·rename_i KT ET hu;simp only[Ye] at hr;obtain⟨kk,hkk,rfl⟩:=hr;exact zrv R (.inl ho) hu hkk h fun s' w' hk R'=>hnext _ _ _ _ _ hk (.inl rfl) R' (Ext.same rfl)
  ·grind
 | insert T x key y=>
  simp only[zo,ho] at hr;split at hr
  ·rename_i KT ET hu;simp only[Ye] at hr;obtain⟨kk,hkk,rfl⟩:=hr;exact zrv R (.inr ho) hu hkk h fun s' w' hk R'=>hnext _ _ _ _ _ hk (.inl rfl) R' (Ext.same rfl)
  ·grind
 | range T x=>
  simp only[zo,ho] at hr;split at hr
  ·rename_i KT ET hu;simp only[Y3] at hr;subst hr;simp only[vl] at h;obtain⟨u,uv,hk,hu2,he⟩:=zl R.fr h;obtain⟨r,hk,rfl⟩:=zgy hk hu2;rcases zjd hk with ⟨rfl,hk⟩|⟨m,rfl,hk⟩
   ·have hk:=New.here R hk
    have hrun':(execOp a.eval o).run P w = .ok (.value (.pointer (some ⟨w.heap.size,0,none⟩))) { w with heap:=w.heap.push (.mapIter none 0 #[] 0) }:=by
     simp[execOp,ho,he,Instr.range,run_underlying hu]
    unfold Oper.wp;rw[hrun'];exact hnext _ _ _ _ _ hk (.inr rfl) (Rel.newObj R _) (Ext.same rfl)
   ·obtain⟨p,hp,hk⟩:=zal hk;have hk:=New.here R hk
    have hg:=Yb4 (P:=P) (R.rd.M _ _ (zfa hp))
    have hrun':(execOp a.eval o).run P w = .ok (.value (.pointer (some ⟨w.heap.size,0,none⟩))) { w with heap:=w.heap.push (.mapIter (some m) p.2 #[] p.2) }:=by
     simp[execOp,ho,he,Instr.range,run_underlying hu,hg]
    unfold Oper.wp;rw[hrun'];exact hnext _ _ _ _ _ hk (.inr rfl) (Rel.newObj R _) (Ext.same rfl)
  ·rename_i hu;simp only[Y3] at hr;subst hr;simp only[vl] at h;obtain⟨u,uv,hk,hu2,he⟩:=zl R.fr h;obtain⟨str,hk,rfl⟩:=zgx hk hu2;have hk:=New.here R hk
   have hrun':(execOp a.eval o).run P w = .ok (.value (.pointer (some ⟨w.heap.size,0,none⟩))) { w with heap:=w.heap.push (.stringIter str 0) }:=by
    simp[execOp,ho,he,Instr.range,run_underlying hu]
   unfold Oper.wp;rw[hrun'];exact hnext _ _ _ _ _ hk (.inr rfl) (Rel.newObj R _) (Ext.same rfl)
  ·grind
 | next x bs=>
  cases bs with
  | true=>
   simp only[zo,ho,Y3] at hr;subst hr;simp only[vl] at h;rcases R.rd.evP R.fr h with ⟨j,o',T',cs,b,vs,hj,hk3,hb,hvs,hp⟩|⟨b,o',hk3,hp⟩
   ·simp_all
   ·obtain⟨rfl,hk⟩:=zei hk3;obtain⟨t,ht,hk⟩:=zal hk;have hMb:=zzH ht
    obtain⟨str,pos⟩:=t;have hB:w.heap[b]? = _:=R.rd.M b _ hMb
    have g1:(getObj b).run P w = .ok (.stringIter str pos) w:=by simp[getObj,Sem.run,hB]
    by_cases hlt:pos<str.size
    ·obtain⟨hc,hk⟩:=hk.1 hlt
     have hdec:Utf8.decode str pos=((str.get! pos).toNat,1):=by
      unfold Utf8.decode;simp only[Ybx];rw[if_pos hc]
     have hrun':(execOp a.eval o).run P w = .ok (.value (.tuple #[.bool true,.int .i64 pos,.int .i32 (str.get! pos).toNat])) { w with heap:=w.heap.setIfInBounds b (.stringIter str (pos+1)) }:=by
      simp only[execOp,ho,hp,Instr.next,Yo,g1,Yk,if_pos hlt,hdec];simp[setObj,Sem.run,goInt,hB]
     unfold Oper.wp;rw[hrun'];exact hnext _ _ _ _ _ hk (.inr rfl) (Rel.setObj R hMb _) (Ext.same rfl)
    ·have hk:=hk.2 hlt
     have hrun':(execOp a.eval o).run P w = .ok (.value (.tuple #[.bool false])) w:=by
      simp[execOp,ho,hp,Instr.next,g1,hlt]
     unfold Oper.wp;rw[hrun'];exact hnext _ _ _ _ _ hk (.inr rfl) R (Ext.same rfl)
  | false=>
   simp only[zo,ho,Y3] at hr;subst hr;simp only[vl] at h;rcases R.rd.evP R.fr h with ⟨j,o',T',cs,b,vs,hj,hk3,hb,hvs,hp⟩|⟨b,o',hk3,hp⟩
   ·simp_all
   ·obtain⟨rfl,hk⟩:=zei hk3;obtain⟨t,ht,hk⟩:=zal hk;have hMb:=zpM ht
    obtain⟨im,since,seen,last⟩:=t;rcases zjd hk with ⟨h0,hk⟩|⟨m,h0,hk⟩
    ·simp only at h0;subst h0;have hB:w.heap[b]? = _:=R.rd.M b _ hMb
     have hrun':(execOp a.eval o).run P w = .ok (.value (.tuple #[.bool false])) w:=by
      have g1:(getObj b).run P w = .ok (.mapIter none since seen last) w:=by simp[getObj,Sem.run,hB]
      simp[execOp,ho,hp,Instr.next,g1]
     unfold Oper.wp;rw[hrun'];exact hnext _ _ _ _ _ hk (.inr rfl) R (Ext.same rfl)
    ·simp only at h0;subst h0;obtain⟨p,hpm,hk⟩:=zal hk;obtain⟨sv,v,M',w',hrun,hk,hv,R'⟩:=zzG (P:=P) (ty:=o.type) R hMb (zfa hpm) hk
     have hrun':(execOp a.eval o).run P w = .ok (.value v) w':=by
      simp only[execOp,ho,hp,Yo,hrun,Yk,Y6]
     unfold Oper.wp;rw[hrun'];exact hnext _ _ _ _ _ hk (.inr hv) R' (Ext.same rfl)
 | makeFunc fn first caps=>
  cases fn with
  | func f=>
   simp only[zo,ho] at hr;split at hr
   ·simp at hr;subst hr;simp[z6] at hq
   ·split at hr
    ·simp at hr;subst hr;simp[z6] at hq
    ·grind
  | _=>simp[zo,ho] at hr
 | _=>simp[zo,ho] at hr
theorem zBE {o:Oper} (h:zzA n o=true):∀ e,o.dst=some e→e<n:=fun e he=>by simpa[zzA,he] using h
theorem zjK {ops:List Oper} {j:Nat} {o:Oper} {r:zaZ} (hr:zh1 P n ops j o=some r) :
  ∃ g,zo P ops o=some r.op∧zh0 ops o.guard=some g∧r.guard=g∧r.dst=o.dst∧(∀ e,o.dst=some e→e<n):=by
 simp only[zh1,Yn] at hr;obtain⟨rop,hrop,g,hg,hr⟩:=hr;split at hr
 ·rename_i hd;simp only[Y3] at hr;subst hr;exact⟨g,hrop,hg,rfl,rfl,zBE hd⟩
 ·grind
theorem zjL {sp:Bool} {sv:SV} {v:Value} {d:Option Nat} {K:St→Prop} {w':World} (hs:zjF sp sv (fun sv'=>K (s.put d sv'))) (hd:∀ e,d=some e→e<n)
  (hv:sv = .dead∨sv.val β=some v) (R':Rel β F w0 n s a w'):∃ s',K s'∧Rel β F w0 n s' (a.put d v) w'∧s'.bx=s.bx∧s'.M=s.M:=by
 have e:∀ sv,(s.put d sv).bx=s.bx∧(s.put d sv).M=s.M:=fun sv=>by cases d<;>exact⟨rfl,rfl⟩
 unfold zjF at hs;split at hs
 ·rcases hv with hv|hv
  ·subst hv;exact hs.elim
  ·obtain⟨x,rfl,h1,h2⟩:=zkr hs hv;cases x with
   | true=>exact⟨_,h1 rfl,R'.put hd (.inr rfl),(e _).1,(e _).2⟩
   | false=>exact⟨_,h2 rfl,R'.put hd (.inr rfl),(e _).1,(e _).2⟩
 ·exact⟨_,hs,R'.put hd hv,(e _).1,(e _).2⟩
theorem znO {ops:List Oper} {j:Nat} {o:Oper} {r:zaZ} (hr:zh1 P n ops j o=some r) (R:Rel β F w0 n s a w)
  {next:Act→World→Prop} {Q:Exit→Act→World→Prop} {K:St→Prop} (h:vop P r s K)
  (hnext:∀ β' s' a' w',K s'→Rel β' F w0 n s' a' w'→Ext β β' r.op w w'→next a' w'):o.wp P a w next Q:=by
 obtain⟨g,hrop,hg,_,hdst,hd⟩:=zjK hr;simp only[vop,zlu,hdst] at h;cases hq:z6 r.op with
 | true=>
  simp only[hq] at h;obtain⟨sv,v,hk,hv,hrun⟩:=zvw hrop hq R.fr R.rd.gone R.lv h;have:=hrun w (fun _=>R.rd)
  unfold Oper.wp;unfold zaa at this;rw[this];obtain⟨s',h1,h2,_⟩:=zjL hk hd (.inr hv) R;exact hnext _ _ _ _ h1 h2 ⟨⟨[],by simp⟩,fun _ _ _ h=>h⟩
 | false=>
  simp only[hq] at h;refine zDE hrop hq R h fun β' sv v s' w' hk hv R' he=>?_
  obtain⟨s2,h1,h2,_⟩:=zjL hk hd hv R';exact hnext _ _ _ _ h1 h2 he
theorem zlY {ops:Array Oper} {o:Oper} (hg:zh0 ops.toList o.guard=some none):Region.wanted o (yielded ops a.tmps)=true:=by
 unfold zh0 at hg;split at hg
 ·rename_i hn;simp[Region.wanted,hn]
 ·split at hg<;>cases hg
theorem zkY {ops:Array Oper} {o:Oper} {d:Nat} {b:Bool} {A B:Prop} (hg:zh0 ops.toList o.guard=some (some (d,b))) (hf:Fr β s.fr a) (h:ev s (.tmp d) fun sv=>brG b sv A B) :
  (Region.wanted o (yielded ops a.tmps)=true∧A)∨(Region.wanted o (yielded ops a.tmps)=false∧B):=by
 obtain⟨sv,v,hk,hv,he⟩:=zl hf h;unfold zh0 at hg;split at hg
 ·grind
 ·rename_i i b' hn;split at hg
  ·rename_i d' hd;simp only[Y3,Yci] at hg;obtain⟨rfl,rfl⟩:=hg;have hd':(ops[i]?).bind (·.dst)=some d':=by simpa using hd
   have hwant:∀ x,v = .bool x→Region.wanted o (yielded ops a.tmps)=(x == b'):=by
    rintro x rfl
    have ht:a.tmps[d']? = some (.bool x):=by
     simp only[Act.eval,Ycs] at he;cases h:a.tmps[d']? with
     | none=>simp[h,undef] at he
     | some v=>simp_all
    simp only[Region.wanted,hn,yielded,hd',Ybf,ht];cases x<;>cases b'<;>rfl
   have hnot:∀ vs,v = .tuple vs→Region.wanted o (yielded ops a.tmps)=false:=by
    rintro vs rfl;simp only[Region.wanted,hn,yielded,hd',Ybf];simp only[Act.eval,Ycs] at he;cases h:a.tmps[d']? with
    | none=>simp
    | some v=>simp_all
   unfold brG at hk;split at hk
   ·rename_i x;simp[SV.val,SC.val] at hv;have:=hwant x hv.symm
    cases b'<;>cases x<;>simp only[lit] at hk<;>first|exact .inl ⟨by rw[this];rfl,hk⟩|exact .inr ⟨by rw[this];rfl,hk⟩
   ·rename_i x;simp[SV.val] at hv;have:=hwant x hv.symm
    cases b'<;>cases x<;>first|exact .inl ⟨by simp_all,hk.1 rfl⟩|exact .inr ⟨by simp_all,hk.2 rfl⟩|exact .inl ⟨by simp_all,hk.2 rfl⟩|exact .inr ⟨by simp_all,hk.1 rfl⟩
   ·rename_i vs;simp[SV.val,SC.val] at hv;exact .inr ⟨hnot _ hv.symm,hk⟩
   ·simp_all
  ·grind
theorem zho {ops:Array Oper} {Q:Exit→Act→World→Prop} {K:St→Prop}:∀ (l:List Oper) (j:Nat) (rl:List zaZ) (β:List Nat) (s:St) (a:Act) (w:World),
  zjG P n ops.toList j l=some rl→Rel β F w0 n s a w→zsz P rl s K →
  (∀ β' s' a' w',K s'→Rel β' F w0 n s' a' w'→Q .normal a' w')→wpList P ops Q l a w
 | [],j,rl,β,s,a,w,hr,R,h,hK=>by
  simp[zjG] at hr;subst hr;exact hK _ _ _ _ h R
 | o::l,j,rl,β,s,a,w,hr,R,h,hK=>by
  simp only[zjG] at hr;split at hr
  ·rename_i x xs hx hxs;simp only[Y3] at hr;subst hr;have hx0:=hx
   simp only[zh1,Yn] at hx;obtain⟨rop,hrop,g,hg,hx⟩:=hx;split at hx
   ·rename_i hd;simp only[Y3] at hx;have hxg:x.guard=g:=by rw[←hx]
    have hxd:x.dst=o.dst:=by rw[←hx]
    simp only[zsz,hxg,zlu] at h;unfold wpList;cases g with
    | none=>
     simp only at h;rw[if_pos (zlY hg)];exact .inl (znO hx0 R h fun β' s' a' w' hk R' _=>zho l (j+1) xs β' s' a' w' hxs R' hk hK)
    | some q=>
     obtain⟨d,b⟩:=q;simp only at h;rcases zkY hg R.fr h with ⟨hw,h1⟩|⟨hw,h2⟩
     ·rw[if_pos hw];exact .inl (znO hx0 R h1 fun β' s' a' w' hk R' _=>zho l (j+1) xs β' s' a' w' hxs R' hk hK)
     ·rw[if_neg (by simp_all)];refine zho l (j+1) xs β _ _ w hxs (R.put (sv:=SV.skip) (zBE hd) (.inr rfl)) ?_ hK;rw[←hxd];exact h2
   ·grind
  ·grind
theorem zrw {m:Nat}:∀ {x:SC} {v:Value},x.val β=some v→x.lt m=true→x.val (β.take m)=some v
 | .v _,_,h,_=>h
 | .bx j o,v,h,hl=>by
  simp only[SC.lt,decide_eq_true_eq] at hl;simp only[SC.val] at h ⊢;rw[Ya6 hl];exact h
theorem zhp {m:Nat}:∀ {cs:List SC} {vs:List Value},zY β cs=some vs→cs.all (SC.lt m)=true→zY (β.take m) cs=some vs
 | [],_,h,_=>h
 | x::r,vs,h,hl=>by
  simp only[Ydy,Yl] at hl;simp only[zY] at h ⊢;split at h
  ·rename_i v vs' h1 h2;simp at h;subst h;simp[zrw h1 hl.1,zhp h2 hl.2]
  ·cases h
theorem SV.take_lt {m:Nat} {sv:SV} {v:Value} (h:sv.val β=some v) (hl:sv.lt m=true):sv.val (β.take m)=some v:=by
 cases sv with
 | c x=>exact zrw h hl
 | ag cs=>
  simp only[SV.val,Ye] at h ⊢;obtain⟨vs,h1,h2⟩:=h;exact⟨vs,zhp h1 hl,h2⟩
 | sl j k=>
  simp only[SV.lt,decide_eq_true_eq] at hl;simp only[SV.val] at h ⊢;rw[Ya6 hl];exact h
 | fn f cs=>
  simp only[SV.val,Ye] at h ⊢;obtain⟨vs,h1,h2⟩:=h;exact⟨vs,zhp h1 hl,h2⟩
 | sb x=>exact h
 | dead=>assumption
theorem zBF:∀ {fr:List (Nat×SV)} {d:Nat} {sv:SV},lk fr d=some sv→(d,sv)∈fr
 | (t,x)::r,d,sv,h=>by
  simp only[lk] at h;split at h
  ·simp_all
  ·exact Yak _ (zBF h)
theorem zvA {l:List (Nat×SV)}:∀ {r:List (Nat×SV)},zu3 l r→∀ d sv,lk r d=some sv→lk l d=some sv
 | (t,x)::r,h,d,sv,hl=>by
  simp only[lk] at hl;split at hl
  ·rename_i e;have e:=Ya9 e;subst e;simp at hl;subst hl;exact h.1
  ·exact zvA h.2 d sv hl
theorem ztM:∀ {l r:List BE},zu4 l r→∀ (j:Nat) e,r[j]? = some e→l[j]? = some e
 | _,[],_,j,e,h=>by grind
 | x::l,y::r,h,j,e,he=>by
  cases j with
  | zero=>simp at he ⊢; rw[h.1];exact he
  | succ j=>simp at he ⊢; exact ztM h.2 j e he
 | [],_::_,h,_,_,_=>h.elim
theorem Rel.sub (R:Rel β F w0 n s a w) {t:St} (hs:t.sub s):Rel (β.take t.bx.length) F w0 n t a w:=by
 obtain⟨hfr,hbxs,hMle,hwf⟩:=hs;have hbx:=ztM hbxs
 simp only[St.wf,Yl,Yaz] at hwf
 have hle:t.bx.length≤s.bx.length:=by
  rcases Ydo s.bx.length t.bx.length with h|h
  ·have h1:=Yb h;have h2:=hbx _ _ h1
   have:=(Yu.1 h2).1;omega
  ·exact h
 have hb:∀ (j:Nat) e b,t.bx[j]? = some e→β[j]? = some b→(β.take t.bx.length)[j]? = some b:=fun j e b h hb=>by grind
 have hb':∀ (j:Nat) b,(β.take t.bx.length)[j]? = some b→β[j]? = some b:=fun j b h=>by grind
 refine⟨⟨Yc hMle R.rd.M,?_,?_⟩,?_,by simp[R.len];omega,R.Fle,Mem.disj_of_le R.dj hMle,?_,?_,R.nd,R.sz,R.os,R.out,R.tape,R.grow⟩
 ·intro j T cs h;obtain⟨b,vs,h1,h2,h3⟩:=R.rd.live j T cs (hbx j _ h);have:=hwf.2 _ (Yao h)
  exact⟨b,vs,hb j _ b h h1,zhp h2 this,h3⟩
 ·intro j b h;exact hb j _ b h (R.rd.gone j b (hbx j _ h))
 ·intro d sv h;have hlt:=hwf.1 _ (zBF h)
  rcases R.fr d sv (zvA hfr d sv h) with h2|⟨v,h2,h3⟩
  ·simp_all
  ·exact .inr ⟨v,SV.take_lt h2 hlt,h3⟩
 ·intro j T cs h b hbj;obtain⟨h1,h2⟩:=R.own j T cs (hbx j _ h) b (hb' j b hbj);refine⟨?_,h2⟩;cases ht:t.M b with
  | none=>rfl
  | some o=>rw[hMle b o ht] at h1;cases h1
 ·intro i j Ti ci Tj cj hi hj hne;have:=R.dist i j Ti ci Tj cj (hbx i _ hi) (hbx j _ hj) hne
  rw[Ya6 (Yu.1 hi).1,Ya6 (Yu.1 hj).1];exact this
end
end
section
def Closed (ops:Array Oper) (L:Array Bool):Prop:=
 ∀ (j:Nat) o,ops[j]? = some o→L.getD j false=true→∀ e∈o.after,Region.binds .any e=true→L.getD e.on false=true
theorem znP {ops:Array Oper} {L:Array Bool} (hc:Closed ops L):∀ (n j i:Nat) (o:Oper),ops[j]? = some o→(∀ e∈o.after,Region.binds .any e=true→L.getD e.on false=true) →
  waits ops n j i=true→L.getD i false=true
 | 0,_,_,_,_,_,h=>by simp[waits] at h
 | n+1,j,i,o,ho,hp,h=>by
  simp only[waits,ho] at h;obtain⟨e,he,hb⟩:=Array.any_eq_true'.1 h;simp only[Yl,Ydl,beq_iff_eq] at hb;obtain⟨h1,h2⟩:=hb;have hl:=hp e he h1
  rcases h2 with h2|h2
  ·simp_all
  ·cases hoe:ops[e.on]? with
   | none=>
    exfalso;cases n with
    | zero=>simp[waits] at h2
    | succ n=>simp[waits,hoe] at h2
   | some oe=>exact znP hc n e.on i oe hoe (hc e.on oe hoe hl) h2
theorem zzI {L:Array Bool} {i:Nat} (h:L.getD i true=false):L.getD i false=false:=by grind
theorem Closed.set {ops:Array Oper} {L:Array Bool} (hc:Closed ops L) {i:Nat} (hi:i∈Region.ready .any ops L):Closed ops (L.setIfInBounds i true):=by
 intro j o ho hl e he hb;obtain⟨_,oi,hoi,hall⟩:=mem_ready.1 hi;by_cases hij:i=j
 ·subst hij;rw[ho] at hoi;cases hoi;exact getD_set_true (hall e he hb)
 ·rw[getD_set_ne false hij] at hl;exact getD_set_true (hc j o ho hl e he hb)
section
variable {P:Program} {ops:Array Oper} {Q:Exit→Act→World→Prop} {T:Nat→World→World→Prop}
def zel (P:Program) (ops:Array Oper) (Q:Exit→Act→World→Prop) (T:Nat→World→World→Prop):Nat→Array Bool→Act→World→Prop
 | 0,listed,a,w=>Region.ready .any ops listed=[]∧Q .normal a w
 | fuel+1,listed,a,w=>
  (Region.ready .any ops listed=[]→Q .normal a w) ∧
  ∀ i∈Region.ready .any ops listed,wpOp P ops Q i (fun a' w'=>T i w w'∧zel P ops Q T fuel (listed.setIfInBounds i true) a' w') a w
theorem zlZ:∀ (fuel:Nat) (listed:Array Bool) (a:Act) (w:World),zel P ops Q T fuel listed a w→wpAny P .any ops Q fuel listed a w
 | 0,_,_,_,h=>h
 | fuel+1,_,_,_,h=>⟨h.1,fun i hi=>wpOp_mono (fun a' w' h'=>zlZ fuel _ a' w' h'.2) (h.2 i hi)⟩
theorem zrx {T':Nat→World→World→Prop} (hT:∀ i w w',T i w w'→T' i w w'):∀ (fuel:Nat) (listed:Array Bool) (a:Act) (w:World),zel P ops Q T fuel listed a w→zel P ops Q T' fuel listed a w
 | 0,_,_,_,h=>h
 | fuel+1,_,_,_,h=>⟨h.1,fun i hi=>wpOp_mono (fun a' w' h'=>⟨hT _ _ _ h'.1,zrx hT fuel _ a' w' h'.2⟩) (h.2 i hi)⟩
theorem zxs {listed:Array Bool} {a:Act} {w:World} (hr:Region.ready .any ops listed=[]) (h:Q .normal a w):∀ fuel,zel P ops Q T fuel listed a w
 | 0=>⟨hr,h⟩
 | _+1=>⟨fun _=>h,by simp_all⟩
theorem zvB {i:Nat} {oi:Oper} {v:Value} {R:World→Prop} (hi:ops[i]? = some oi) (hsel:∀ (j:Nat) (o:Oper) cs b,ops[j]? = some o→o.op ≠ .select cs b)
  (hQ:∀ c a w,Q (.panic c) (a.put oi.dst v) w→Q (.panic c) a w)
  (hTi:∀ w,T i w w) (hT:∀ j,j≠i→waits ops 5 j i=false→∀ w w',T j w w'→R w→R w') :
  ∀ (fuel:Nat) (listed:Array Bool) (a:Act) (w:World),Closed ops listed →
   (∀ j oj,ops[j]? = some oj→j≠i→listed.getD j true=false→(∀ e∈oj.after,Region.binds .any e=true→e.on≠i)→oi.apart ops oj=true) →
   i∈Region.ready .any ops listed→YieldsIf P ops R oi v a→R w →
   zel P ops Q T fuel (listed.setIfInBounds i true) (a.put oi.dst v) w→zel P ops Q T (fuel+1) listed a w:=by
 intro fuel
 induction fuel with
 | zero=>
  intro listed a w _ _ hr hy hS H;refine⟨fun h=>(by rw[h] at hr;cases hr),fun j hj=>?_⟩;by_cases hji:j=i
  ·subst hji;exact hy.wpOp hi hS ⟨hTi w,H⟩
  ·have:=ready_mono hj hji;rw[H.1] at this;cases this
 | succ fuel ih=>
  intro listed a w hcl hfree hr hy hS H;refine⟨fun h=>(by rw[h] at hr;cases hr),fun j hj=>?_⟩;by_cases hji:j=i
  ·subst hji;exact hy.wpOp hi hS ⟨hTi w,H⟩
  ·have h1:=H.2 j (ready_mono hj hji);obtain⟨hjun,oj,hoj,hall⟩:=mem_ready.1 hj;have hun:=(mem_ready.1 hr).1
   have hnot:∀ e∈oj.after,Region.binds .any e=true→e.on≠i:=fun e he hb heq=>by grind
   have hw:waits ops 5 j i=false:=by
    cases hw:waits ops 5 j i with
    | false=>rfl
    | true=>
     have:=znP hcl 5 j i oj hoj hall hw;rw[zzI hun] at this;cases this
   have h2:=wpOp_putIf hoj (hfree j oj hoj hji hjun hnot) (fun cs b=>hsel i oi cs b hi) (fun cs b=>hsel j oj cs b hoj) hQ hy h1
   have hfree':∀ k ok,ops[k]? = some ok→k≠i→(listed.setIfInBounds j true).getD k true=false →
     (∀ e∈ok.after,Region.binds .any e=true→e.on≠i)→oi.apart ops ok=true:=fun k ok hk hki hun hno=>by
    refine hfree k ok hk hki ?_ hno;by_cases hjk:j=k
    ·simp_all
    ·simp_all
   refine wpOp_mono (fun a' w' h3=>⟨h3.2.1,ih (listed.setIfInBounds j true) a' w' (hcl.set hj) hfree' (ready_mono hr (Ne.symm hji)) h3.1 (hT j hji hw w w' h3.2.1 hS) ?_⟩) h2;rw[Array.setIfInBounds_comm _ _ hji];exact h3.2.2
end
section
variable {P:Program} {F:Mem} {w0:World} {n:Nat} {ops:Array Oper} {Q:Exit→Act→World→Prop}
theorem zlw {ks:List Nat} {d:Nat→Nat}:∀ {l:List BE} {i j:Nat} {x:BE},(dim ks d i l)[j]? = some x→∃ e,l[j]? = some e∧(x=e∨x = .gone (d (i+j)))
 | [],_,_,_,h=>by simp[dim] at h
 | e::r,i,0,x,h=>by
  simp[dim] at h;refine⟨e,rfl,?_⟩;split at h
  ·simp_all
  ·simp_all
 | e::r,i,j+1,x,h=>by
  simp only[dim,List.getElem?_cons_succ] at h;obtain⟨e',h1,h2⟩:=zlw h;exact⟨e',by simp_all,by grind⟩
theorem zBG {M:Mem} {e f:BE} {A:Prop} (h:bx1 M e f A):A∧(e=f∨(∃ b T cs vs,f = .live T cs∧e = .gone b∧zf3 cs=some vs∧M b=some (.cells vs.toArray T (0,0)))∨∃ b,f = .gone b):=by
 unfold bx1 at h;split at h
 ·rename_i b T cs;obtain⟨vs,hvs,h⟩:=zal h;exact⟨h.2,.inr (.inl ⟨b,T,cs,vs,rfl,rfl,hvs,h.1⟩)⟩
 ·simp_all
 ·exact⟨h.2,.inl h.1⟩
theorem znQ {M:Mem}:∀ {l r:List BE} {A:Prop},zvq M l r A→A∧∀ (j:Nat) e,r[j]? = some e→l[j]? = some e∨(∃ b T cs vs,e = .live T cs∧l[j]? = some (.gone b)∧zf3 cs=some vs∧M b=some (.cells vs.toArray T (0,0)))∨∃ b,e = .gone b
 | l,[],A,h=>by cases l<;>exact⟨h,by simp⟩
 | x::l,y::r,A,h=>by
  obtain⟨h2,h1⟩:=zBG h;obtain⟨h3,h4⟩:=znQ h2;refine⟨h3,fun j e he=>?_⟩;cases j with
  | zero=>
   simp_all
  | succ j=>simp_all
 | [],_::_,_,h=>h.elim
theorem Rd.start {β0 γ:List Nat} {bx0:List BE} {X:Mem} {w:World} (h:Rd β0 ⟨[],bx0,X⟩ w) (fr:List (Nat×SV)):Rd (β0++γ) ⟨fr,bx0,X⟩ w:=by
 have hb:∀ (j:Nat) (b:Nat),β0[j]? = some b→(β0++γ)[j]? = some b:=fun j b hb=>by grind
 refine⟨h.M,fun j T cs hj=>?_,fun j b hj=>hb j b (h.gone j b hj)⟩;obtain⟨b,vs,h1,h2,h3⟩:=h.live j T cs hj;exact⟨b,vs,hb j b h1,zej h2 γ,h3⟩
theorem zBH {rs:List Nat} {i:Nat} {p:Nat→Bool} (h:rs.find? p=some i):i∈rs∧p i=true:=
 ⟨Ycf h,Ydm h⟩
theorem zpR {K:St→Prop} {bx0:List BE} {β0:List Nat} (hns:Region.noSelect ops=true) (hQ:∀ c a w,¬Q (.panic c) a w)
  (hg0:∀ (j:Nat) b,bx0[j]? = some (.gone b)→β0[j]? = some b) (hl0:∀ (j:Nat) T cs,bx0[j]? = some (.live T cs)→∃ b vs,β0[j]? = some b∧zY β0 cs=some vs) :
  ∀ (fuel:Nat) (X:Mem) (PP:Mem→Prop) (_:∀ Y,PP Y→Y.le X) (_:PP X) (ok:Bool) (listed:Array Bool) (t:DTree) (γ:List Nat) (s:St) (a:Act) (w:World),
   zlP P n ops fuel ok listed=some t→Closed ops listed→Rel (β0++γ) F w0 n s a w→(ok=true→Rd β0 ⟨[],bx0,X⟩ w)→zcC P X bx0 t s K →
   (∀ β' s' a' w',K s'→Rel β' F w0 n s' a' w'→Q .normal a' w') →
   zel P ops Q (fun i w w'=>if (zbU P n ops i).isSome then w'=w else (zdb P ops i=true→∀ Y,PP Y→Rd β0 ⟨[],bx0,Y⟩ w→Rd β0 ⟨[],bx0,Y⟩ w')) fuel listed a w:=by
 intro fuel
 induction fuel with
 | zero=>
  intro X PP hPP hPX ok listed t γ s a w ht _ R _ h hK;simp only[zlP] at ht;split at ht
  ·rename_i hr;simp at ht;subst ht;exact⟨hr,hK _ _ _ _ h R⟩
  ·grind
 | succ fuel ih=>
  intro X PP hPP hPX ok listed t γ s a w ht hcl R hok h hK;simp only[zlP] at ht;split at ht
  ·rename_i hr;simp at ht;subst ht;exact zxs hr (hK _ _ _ _ h R) _
  ·rename_i rs hne;have hne':Region.ready .any ops listed≠[]:=fun e=>hne e
   split at ht
   ·
    rename_i i hfind;obtain⟨hir,hpi⟩:=zBH hfind;simp only[Yn,Ye] at ht;obtain⟨r,hq,t',ht',rfl⟩:=ht;simp only[Yl,hq,Option.isSome_some,true_and] at hpi;obtain⟨hfree,hokr⟩:=hpi;unfold zbU at hq;split at hq
    ·rename_i oi hoi;split at hq
     ·rename_i r' hr';split at hq
      ·rename_i hqt;simp at hq;subst hq;obtain⟨g,hrop,hg,hgd,hdst,hd⟩:=zjK hr';have hqs:(zbU P n ops i).isSome=true:=by simp[zbU,hoi,hr',hqt]
       have hTi:∀ w:World,(if (zbU P n ops i).isSome then w=w else (zdb P ops i=true→∀ Y,PP Y→Rd β0 ⟨[],bx0,Y⟩ w→Rd β0 ⟨[],bx0,Y⟩ w)):=fun w=>by rw[if_pos hqs]
       have take:∀ (v:Value) (Rq:World→Prop),YieldsIf P ops Rq oi v a→Rq w →
         (∀ j,j≠i→waits ops 5 j i=false→∀ w w':World,(if (zbU P n ops j).isSome then w'=w else (zdb P ops j=true→∀ Y,PP Y→Rd β0 ⟨[],bx0,Y⟩ w→Rd β0 ⟨[],bx0,Y⟩ w'))→Rq w→Rq w') →
         (∃ s',zcC P X bx0 t' s' K∧Rel (β0++γ) F w0 n s' (a.put oi.dst v) w) →
         zel P ops Q (fun i w w'=>if (zbU P n ops i).isSome then w'=w else (zdb P ops i=true→∀ Y,PP Y→Rd β0 ⟨[],bx0,Y⟩ w→Rd β0 ⟨[],bx0,Y⟩ w')) (fuel+1) listed a w:=by
        intro v Rq hy hRq hstay ⟨s',hs',R'⟩;refine zvB (R:=Rq) hoi (Region.noSelect_spec hns) (fun c a w h=>absurd h (hQ c _ w)) hTi hstay fuel listed a w hcl (Region.free_spec hoi hfree) hir hy hRq ?_;exact ih X PP hPP hPX ok _ t' γ s' _ w ht' (hcl.set hir) R' hok hs' hK
       have run:vq r'.op ⟨s.fr,bx0,X⟩ (fun sv=>zjF r'.sp sv fun sv'=>s.putK r'.dst sv' fun s'=>zcC P X bx0 t' s' K)→Region.wanted oi (yielded ops a.tmps)=true →
         zel P ops Q (fun i w w'=>if (zbU P n ops i).isSome then w'=w else (zdb P ops i=true→∀ Y,PP Y→Rd β0 ⟨[],bx0,Y⟩ w→Rd β0 ⟨[],bx0,Y⟩ w')) (fuel+1) listed a w:=by
        intro hv hwant;simp only[zlu,hdst] at hv;have hfr:Fr (β0++γ) (⟨s.fr,bx0,X⟩:St).fr a:=R.fr
        have hb:∀ (j:Nat) (b:Nat),β0[j]? = some b→(β0++γ)[j]? = some b:=fun j b hb=>by grind
        obtain⟨sv,v,hk,hval,hruns⟩:=zvw hrop hqt hfr (fun j b hj=>hb j b (hg0 j b hj)) (fun j T cs hj=>let ⟨b,vs,h1,h2⟩:=hl0 j T cs hj;⟨b,vs,hb j b h1,zej h2 γ⟩) hv;obtain⟨s',hs',R',_⟩:=zjL (K:=fun s'=>zcC P X bx0 t' s' K) hk hd (.inr hval) R;refine take v (fun w=>reads r'.op=true→Rd β0 ⟨[],bx0,X⟩ w) (.inl ⟨hwant,fun w hw=>?_⟩) (fun hrd=>?_) ?_ ⟨s',hs',R'⟩
        ·exact hruns w (fun hrd=>(hw hrd).start _)
        ·simp_all
        ·intro j hji hw w1 w2 hT hR hrd;split at hT
         ·simp_all
         ·refine hT ?_ X hPX (hR hrd);simp only[zdb,Yb7];refine⟨i,?_,?_⟩
          ·simp only[zyw,Ya3,Ydv];exact⟨(Y7.1 hoi).1,by simp_all⟩
          ·grind
       have skip:(s.putK r'.dst SV.skip fun s'=>zcC P X bx0 t' s' K)→Region.wanted oi (yielded ops a.tmps)=false →
         zel P ops Q (fun i w w'=>if (zbU P n ops i).isSome then w'=w else (zdb P ops i=true→∀ Y,PP Y→Rd β0 ⟨[],bx0,Y⟩ w→Rd β0 ⟨[],bx0,Y⟩ w')) (fuel+1) listed a w:=by
        intro hv hwant;simp only[zlu,hdst] at hv;exact take undef (fun _=>True) (.inr ⟨hwant,rfl⟩) trivial (fun _ _ _ _ _ _ _=>trivial) ⟨_,hv,R.put (sv:=SV.skip) hd (.inr rfl)⟩
       simp only[zcC,hgd] at h;cases g with
       | none=>exact run h (zlY hg)
       | some q=>
        obtain⟨d,b⟩:=q;simp only at h;rcases zkY hg R.fr h with ⟨hw,h1⟩|⟨hw,h2⟩
        ·simp_all
        ·simp_all
      ·grind
     ·grind
    ·grind
   ·
    refine⟨fun h0=>absurd h0 hne',?_⟩
    have key:∀ (rs:List Nat) (t:DTree),(∀ i∈rs,i∈Region.ready .any ops listed) →
      rs.foldr (fun i more=>more.bind fun m=>(zzC P n ops i).bind fun r=>
       if !z6 r.op then (zlP P n ops fuel (match zf4 r.op with|true=>ok|false=>zdb P ops i&&(ok||r.guard.isNone)) (listed.setIfInBounds i true)).map fun t => .alt r (zdb P ops i && !zf4 r.op) t m else none) (some .none)=some t →
      zcC P X bx0 t s K→∀ i∈rs,wpOp P ops Q i (fun a' w'=>(if (zbU P n ops i).isSome then w'=w else (zdb P ops i=true→∀ Y,PP Y→Rd β0 ⟨[],bx0,Y⟩ w→Rd β0 ⟨[],bx0,Y⟩ w')) ∧
       zel P ops Q (fun i w w'=>if (zbU P n ops i).isSome then w'=w else (zdb P ops i=true→∀ Y,PP Y→Rd β0 ⟨[],bx0,Y⟩ w→Rd β0 ⟨[],bx0,Y⟩ w')) fuel (listed.setIfInBounds i true) a' w') a w:=by
     intro rs
     induction rs with
     | nil=>simp
     | cons i rs ihr=>
      intro t hsub ht h;simp only[Yb3,Yn] at ht;obtain⟨m,hm,r,hra,ht⟩:=ht;split at ht
      ·rename_i hc;simp only[Ye] at ht;obtain⟨t',ht',rfl⟩:=ht;have hnq:z6 r.op=false:=by simpa using hc
       simp only[zcC] at h;obtain⟨h,hmore⟩:=h;intro k hk;rcases Yp.1 hk with rfl|hk
       ·have hkr:=hsub k oS;simp only[zzC,Yn] at hra;obtain⟨oi,hoi,hr'⟩:=hra;obtain⟨g,hrop,hg,hgd,hdst,hd⟩:=zjK hr';have hqs:(zbU P n ops k).isSome=false:=by simp[zbU,hoi,hr',hnq]
        have run:vop P r s (fun s'=>zsA (zdb P ops k && !zf4 r.op) X bx0 s' fun X'=>zcC P X' bx0 t' s' K) →
          oi.wp P a w (fun a' w'=>(if (zbU P n ops k).isSome then w'=w else (zdb P ops k=true→∀ Y,PP Y→Rd β0 ⟨[],bx0,Y⟩ w→Rd β0 ⟨[],bx0,Y⟩ w')) ∧
           zel P ops Q (fun i w w'=>if (zbU P n ops i).isSome then w'=w else (zdb P ops i=true→∀ Y,PP Y→Rd β0 ⟨[],bx0,Y⟩ w→Rd β0 ⟨[],bx0,Y⟩ w')) fuel (listed.setIfInBounds k true) a' w') Q:=by
         intro hv;refine znO hr' R hv fun β' s' a' w' hk2 R' hext=>?_
         obtain⟨⟨γ',rfl⟩,hal⟩:=hext
         have hst:∃ (X':Mem) (PP':Mem→Prop),(∀ Y,PP Y→PP' Y)∧(∀ Y,PP' Y→Y.le X')∧PP' X'∧(zdb P ops k=true→∀ Y,PP Y→Rd β0 ⟨[],bx0,Y⟩ w→Rd β0 ⟨[],bx0,Y⟩ w') ∧
           ((match zf4 r.op with|true=>ok|false=>zdb P ops k&&(ok||r.guard.isNone))=true→Rd β0 ⟨[],bx0,X'⟩ w')∧zcC P X' bx0 t' s' K:=by
          cases hal':zf4 r.op with
          | true=>
           have hx:=hal hal'
           have keep:∀ Y,Rd β0 ⟨[],bx0,Y⟩ w→Rd β0 ⟨[],bx0,Y⟩ w':=fun Y hrd=>by
            refine⟨fun b o hb=>hx b o (hrd.M b o hb),fun j T cs hj=>?_,hrd.gone⟩;obtain⟨b,vs,h1,h2,h3⟩:=hrd.live j T cs hj;exact⟨b,vs,h1,h2,hx b _ h3⟩
           rw[hal'] at hk2;simp only[Bool.not_true,Bool.and_false,zsA] at hk2;exact⟨X,PP,fun _ h=>h,hPP,hPX,fun _ Y _=>keep Y,fun e=>keep X (hok e),hk2⟩
          | false=>
           rw[hal'] at hk2;simp only[Bool.not_false,Bool.and_true] at hk2;cases hnd:zdb P ops k with
           | true=>
            rw[hnd] at hk2;simp only[zsA] at hk2;obtain⟨⟨X',hXX,hX,hk3⟩,hbx⟩:=znQ hk2
            have get:∀ Y:Mem,Y.le X'→Rd β0 ⟨[],bx0,Y⟩ w':=fun Y hY=>by
             refine⟨Yc (Yc hY hX) R'.rd.M,fun j T cs hj=>?_,hg0⟩;obtain⟨b,vs,h1,h2⟩:=hl0 j T cs hj;rcases hbx j _ hj with hbj|⟨b',T',cs',vs',he,hgn,hpl,hMb⟩|⟨b',he⟩
             case inr.inr=>grind
             case inr.inl=>
              cases he
              have hb0:(β0++γ++γ')[j]? = some b:=by
               rw[Yag (by have:=(Yu.1 h1).1;simp;omega),Yag (Yu.1 h1).1];exact h1
              have hb1:=R'.rd.gone j b' hgn;rw[hb0] at hb1;cases hb1;have hv1:=zlU (β:=β0) hpl
              rw[h2] at hv1;cases hv1;exact⟨b,vs,h1,h2,R'.rd.M b _ hMb⟩
             obtain⟨b',vs',h1',h2',h3'⟩:=R'.rd.live j T cs hbj
             have hb0:(β0++γ++γ')[j]? = some b:=by
              rw[Yag (by have:=(Yu.1 h1).1;simp;omega),Yag (Yu.1 h1).1];exact h1
             rw[hb0] at h1';cases h1';have hvv:=zej (zej h2 γ) γ'
             rw[hvv] at h2';cases h2';exact⟨b,vs,h1,h2,h3'⟩
            refine⟨X',fun Y=>PP Y∨Y=X',fun _ h => .inl h,fun Y hY=>?_,.inr rfl,fun _ Y hY _=>get Y (Yc (hPP Y hY) hXX),fun _=>get X' (Ya _),hk3⟩;rcases hY with hY|rfl
            ·exact Yc (hPP Y hY) hXX
            ·exact Ya _
           | false=>
            rw[hnd] at hk2;simp only[zsA] at hk2;exact⟨X,PP,fun _ h=>h,hPP,hPX,fun e=>by grind,fun e=>by grind,hk2⟩
         obtain⟨X',PP',hsub',hPP',hPX',hst1,hst2,hst3⟩:=hst;refine⟨by simp_all,?_⟩;refine zrx ?_ _ _ _ _ (ih X' PP' hPP' hPX' _ _ t' (γ++γ') s' a' w' ht' (hcl.set hkr) (by simp_all) hst2 hst3 hK);intro i w1 w2 hT;split
         ·simp_all
         ·simp_all
        have skip:¬g.isNone=true→(s.putK r.dst SV.skip fun s'=>zcC P X bx0 t' s' K)→((if (zbU P n ops k).isSome then w=w else (zdb P ops k=true→∀ Y,PP Y→Rd β0 ⟨[],bx0,Y⟩ w→Rd β0 ⟨[],bx0,Y⟩ w)) ∧
           zel P ops Q (fun i w w'=>if (zbU P n ops i).isSome then w'=w else (zdb P ops i=true→∀ Y,PP Y→Rd β0 ⟨[],bx0,Y⟩ w→Rd β0 ⟨[],bx0,Y⟩ w')) fuel (listed.setIfInBounds k true) (a.put oi.dst undef) w):=by
         intro hgs hv;simp only[zlu,hdst] at hv;refine⟨by simp,?_⟩;refine ih X PP hPP hPX _ _ t' γ _ _ w ht' (hcl.set hkr) (R.put (sv:=SV.skip) hd (.inr rfl)) ?_ hv hK;intro e;split at e
         ·simp_all
         ·simp_all
        unfold wpOp;simp only[hoi];simp only[hgd] at h;cases g with
        | none=>
         simp only at h;rw[if_pos (zlY hg)];exact .inl (run h)
        | some q=>
         obtain⟨d,b⟩:=q;simp only at h;rcases zkY hg R.fr h with ⟨hw,h1⟩|⟨hw,h2⟩
         ·simp_all
         ·simp_all
       ·simp_all
      ·grind
    exact fun i hi=>key _ t (fun j hj=>hj) ht h i hi
end
end
section
section
variable {P:Program} {Q:Exit→Act→World→Prop} {a:Act} {w:World} {l:Nat}
theorem zBI {row:String} {args:Array Value} {R:Value→World→Prop} (h:Rows P row args w R):RowsIn (Fence.wide.inRound l) 0 P row args w R:=
 fun c cs _=>let ⟨v,w',r,s⟩:=h c cs;⟨v,w',r,stepsIn_wide.2 s⟩
theorem zzJ {o:Oper} {K:Act→World→Prop} (hd:∀ c,o.op ≠ .defer c) (h:o.wp P a w K Q):o.wpIn (Fence.wide.inRound l) 0 P a w K Q:=by
 refine⟨fun _ _=>trivial,?_⟩;rw[Oper.semAt_eq _ _ _ hd];unfold Oper.wp at h;generalize (execOp a.eval o).run P w=r at *;cases r with
 | ok n w'=>
  cases n<;>simp only[Oper.upon] at h<;>simp only[Oper.uponIn]<;>first
   | exact h
   | exact⟨fun h=>(by cases h),CallsIn.inRound l (callsIn_wide.2 h)⟩
   | exact⟨fun h=>(by cases h),zBI h⟩
   | exact h.elim
 | halt x w'=>cases x<;>simp only[Oper.upon] at h<;>simp only[Oper.uponIn]<;>exact h
theorem zvC {o:Oper} {K K':Act→World→Prop} (hk:∀ a w,K a w→K' a w) (hd:∀ c,o.op ≠ .defer c) (h:o.wp P a w K Q):o.wpIn (Fence.wide.inRound l) 0 P a w K' Q:=zzJ hd (Oper.wp_mono hk h)
theorem zpS {o:Oper} (h:zh2 o=true):∀ c,o.op ≠ .defer c:=fun c hc=>by simp[zh2,hc] at h
theorem zkZ {ops:Array Oper} (hQ:¬LetsOut Q):∀ (ls:List Oper) (a:Act) (w:World),(∀ o∈ls,zh2 o=true)→wpList P ops Q ls a w→wpListIn (Fence.wide.inRound l) 0 P ops Q ls a w
 | [],_,_,_,h=>h
 | o::ls,a,w,hd,h=>by
  unfold wpList at h;unfold wpListIn;split
  ·rename_i hw;rw[if_pos hw] at h;rcases h with h|⟨-, h⟩
   ·exact zvC (fun a w h=>zkZ hQ ls a w (fun o ho=>hd o (by simp[ho])) h) (zpS (hd o oS)) h
   ·simp_all
  ·rename_i hw;rw[if_neg hw] at h;exact⟨fun _ _=>trivial,zkZ hQ ls _ w (fun o ho=>hd o (by simp[ho])) h⟩
theorem zje {ops:Array Oper} {md:Region.Mode} (hQ:¬LetsOut Q) (hd:∀ (i:Nat) o,ops[i]? = some o→zh2 o=true):∀ (fuel:Nat) (listed:Array Bool) (a:Act) (w:World),wpAny P md ops Q fuel listed a w→wpAnyIn (Fence.wide.inRound l) 0 P md ops Q fuel listed a w
 | 0,_,_,_,h=>h
 | fuel+1,listed,a,w,h=>by
  refine⟨h.1,fun i hi=>?_⟩;have h1:=h.2 i hi
  unfold wpOp at h1;unfold wpOpIn;cases ho:ops[i]? with
  | none=>rw[ho] at h1;exact zje hQ hd fuel _ a w h1
  | some o=>
   rw[ho] at h1;dsimp only at h1 ⊢;split
   ·rename_i hw;rw[if_pos hw] at h1;rcases h1 with h1|⟨-, h1⟩
    ·exact zvC (fun a w h=>zje hQ hd fuel _ a w h) (zpS (hd i o ho)) h1
    ·simp_all
   ·rename_i hw;rw[if_neg hw] at h1;exact⟨fun _ _=>trivial,zje hQ hd fuel _ _ w h1⟩
end
theorem zeM {p:Nat→Prop} (h:∃ n,p n):∃ n,p n∧∀ m,p m→n≤m:=by
 obtain⟨n,hn⟩:=h
 induction n using Nat.strongRecOn with
 | _ n ih=>
  grind
theorem ztN {P:Program} {F:Mem} {w0:World} {n l:Nat} {kf:Nat→List Nat}:∀ (c:Code) (r:zbN),res P n kf c=some r→noD c=true →
  ∀ (K:Exit→St→Prop) (Q:Exit→Act→World→Prop) (β:List Nat) (s:St) (a:Act) (w:World),(∀ a w,¬Q .outgrown a w)→(∀ c a w,¬Q (.panic c) a w)→Rel β F w0 n s a w→vc P r K s →
  (∀ e β' s' a' w',K e s'→Rel β' F w0 n s' a' w'→Q e a' w')→c.wpIn (Fence.wide.inRound l) 0 P Q a w:=by
 intro c
 induction c with
 | skip=>
  intro r hr _ K Q β s a w _ _ R h hK;simp[res] at hr;subst hr;exact wpIn_skip (hK _ _ _ _ _ h R)
 | region id ops draw=>
  intro r hr hd K Q β s a w hQ hQ2 R h hK;have hL:¬LetsOut Q:=fun ⟨a,w,h⟩=>hQ a w h
  simp only[noD,Array.all_eq_true] at hd
  have hdm:∀ o∈ops.toList,zh2 o=true:=fun o ho=>by
   obtain⟨i,hi,rfl⟩:=Ybm ho;exact hd i (by omega)
  simp only[res] at hr;cases draw with
  | false=>
   simp only[Ye] at hr;obtain⟨ls,hl,rfl⟩:=hr;exact wpIn_region_list (zkZ hL _ _ _ hdm (zho ops.toList 0 ls β s a w hl R h fun β' s' a' w' hk R'=>hK _ _ _ _ _ (by rw[zlQ] at hk;exact hk) (R'.kill _)))
  | true=>
   simp only at hr;split at hr
   ·rename_i hc;simp only[Yl] at hc;obtain⟨hm,hns⟩:=hc;simp only[Ye] at hr;obtain⟨t,ht,rfl⟩:=hr
    have R1:Rel (β++[]) F w0 n s a { w with drawn:=w.drawn+1 }:=by
     rw[Yt];exact⟨⟨R.rd.M,R.rd.live,R.rd.gone⟩,R.fr,R.len,R.Fle,R.dj,R.own,R.dist,R.nd,R.sz,R.os,R.out,R.tape,⟨R.grow.1,Nat.le_succ_of_le R.grow.2⟩⟩
    have main:∀ (bx0:List BE) (X:Mem),(∀ (j:Nat) T cs,bx0[j]? = some (.live T cs)→s.bx[j]? = some (.live T cs))→(∀ (j:Nat) b,bx0[j]? = some (.gone b)→β[j]? = some b)→X.le s.M→zcC P X bx0 t s (fun s'=>s'.killK (kf id) fun s''=>K .normal s'')→(Code.region id ops true).wpIn (Fence.wide.inRound l) 0 P Q a w:=by
     intro bx0 X hl hg hX hv;refine wpIn_mono (Q:=fun e a w=>e = .normal∧∃ β' s',K .normal s'∧Rel β' F w0 n s' a w) ?_ (fun e a w ⟨he,β',s',hk,R'⟩=>by subst he;exact hK _ _ _ _ _ hk R')
     refine wpIn_region_any hm (zje (by rintro ⟨a,w,h, -⟩;cases h) (fun i o ho=>hdm o (by grind)) _ _ _ _ (zlZ _ _ _ _ (zpR hns (fun c a w h=>by cases h.1) (bx0:=bx0) (β0:=β) hg
      (fun j T cs hj=>R.lv j T cs (hl j T cs hj)) ops.size X (fun Y=>Y=X) (fun Y hY=>by rw[hY];exact Ya _) rfl true _ t [] s a _ ht ?_ R1 (fun _=>⟨Yc hX R1.rd.M,fun j T cs hj=>R.rd.live j T cs (hl j T cs hj),hg⟩) hv ?_)))
     ·intro j o ho hl;exfalso;simp only[Ycs,Array.getElem?_replicate] at hl;split at hl<;>simp at hl
     ·intro β' s' a' w' hk R';rw[zlQ] at hk;exact⟨rfl,β',_,hk,R'.kill _⟩
    simp only[vc,zzv] at h;cases hn:zjz t with
    | true=>
     rw[hn] at h;dsimp only at h;cases hst:zoN t with
     | true=>
      rw[hst] at h;obtain⟨ks,X,hX,hv⟩:=h;refine main (dim ks (fun j=>β.getD j 0) 0 s.bx) X (fun j T cs hj=>?_) (fun j b hj=>?_) hX (hv _)
      ·obtain⟨e,h1,h2|h2⟩:=zlw hj
       ·rw[h1,h2]
       ·cases h2
      ·obtain⟨e,h1,h2|h2⟩:=zlw hj
       ·subst h2;exact R.rd.gone j b h1
       ·cases h2
        have hb:∃ b,β[j]? = some b:=by
         cases e with
         | live T cs=>obtain⟨b,vs,h3, -⟩:=R.lv j T cs h1;exact⟨b,h3⟩
         | gone b=>exact⟨b,R.rd.gone j b h1⟩
        obtain⟨b,hb⟩:=hb;rw[Yap,Ys,hb];rfl
     | false=>
      rw[hst] at h;obtain⟨X,hX,hv⟩:=h;exact main s.bx X (fun _ _ _ h=>h) (fun j b hj=>R.rd.gone j b hj) hX hv
    | false=>
     rw[hn] at h;exact main s.bx s.M (fun _ _ _ h=>h) (fun j b hj=>R.rd.gone j b hj) (Ya _) h
   ·cases hr
 | seq x y ihx ihy=>
  intro r hr hd K Q β s a w hQ hQ2 R h hK;simp only[noD,Yl] at hd;simp only[res] at hr;split at hr
  ·rename_i rx ry hx hy;simp at hr;subst hr;refine wpIn_seq (ihx rx hx hd.1 _ _ β s a w (fun a w h=>hQ a w h) (fun c a w h=>hQ2 c a w h) R h ?_);intro e β' s' a' w' hk R';cases e<;>first|exact ihy ry hy hd.2 _ _ β' s' a' w' hQ hQ2 R' hk hK|exact hK _ _ _ _ _ hk R'
  ·cases hr
 | cond c x y ihx ihy=>
  intro r hr hd K Q β s a w hQ hQ2 R h hK;simp only[noD,Yl] at hd;simp only[res] at hr;split at hr
  ·rename_i rx ry hx hy;simp at hr;subst hr;obtain⟨sv,v,hk,hv,he⟩:=zl R.fr h;obtain⟨b,rfl,h1,h2⟩:=zkr hk hv;refine wpIn_cond he ?_;cases b with
   | true=>grind
   | false=>grind
  ·cases hr
 | block id x ih=>
  intro r hr hd K Q β s a w hQ hQ2 R h hK;simp only[res,Ye] at hr;obtain⟨rx,hx,rfl⟩:=hr;refine wpIn_block (ih rx hx hd _ _ β s a w (fun a w h=>hQ a w h) (fun c a w h=>hQ2 c a w h) R h ?_);intro e β' s' a' w' hk R';cases e with
  | exit i=>
   simp only[zvr] at hk;simp only[Exit.inBlock];split at hk
   ·rename_i hi;rw[if_pos (Ya9 hi)];exact hK _ _ _ _ _ hk R'
   ·rename_i hi;rw[if_neg (Ydx hi)];exact hK _ _ _ _ _ hk R'
  | _=>exact hK _ _ _ _ _ hk R'
 | loop x ih=>
  intro r hr hd K Q β s a w hQ hQ2 R h hK;simp only[res,Ye] at hr;obtain⟨rx,hx,rfl⟩:=hr;obtain⟨s1,h,R⟩:=zvy R h;obtain⟨I,⟨m0,t0,hI0,hs0⟩,hround⟩:=h
  let J:Act→World→Nat→Prop:=fun a w m=>∃ t β,I m t∧Rel β F w0 n t a w
  have hJ0:∃ m,J a w m:=⟨m0,t0,_,hI0,R.sub hs0⟩
  classical
  refine wpIn_loop (fun a w=>∃ m,J a w m) (fun a w=>if h:∃ m,J a w m then Classical.choose (zeM h) else 0) hJ0 ?_;intro a1 w1 hJ;have hmin:=(Yc5 (zeM hJ)).1
  obtain⟨t,β1,hI,R1⟩:=hmin;refine ih rx hx hd _ _ β1 t a1 w1 (fun a w h=>hQ a w h) (fun c a w h=>hQ2 c a w h) R1 (hround _ t hI) ?_;intro e β' s' a' w' hk R';cases e with
  | normal=>
   obtain⟨m',t',hlt,hI',hs'⟩:=hk;have hJ':J a' w' m':=⟨t',_,hI',R'.sub hs'⟩
   refine⟨⟨m',hJ'⟩,?_⟩;rw[dif_pos hJ,dif_pos ⟨m',hJ'⟩];exact Nat.lt_of_le_of_lt ((Yc5 (zeM (p:=J a' w') ⟨m',hJ'⟩)).2 _ hJ') hlt
  | _=>exact hK _ _ _ _ _ hk R'
 | exit id=>
  intro r hr _ K Q β s a w _ _ R h hK;simp[res] at hr;subst hr;exact wpIn_exit (hK _ _ _ _ _ h R)
 | ret=>
  intro r hr _ K Q β s a w _ _ R h hK;simp[res] at hr;subst hr;exact wpIn_ret (hK _ _ _ _ _ h R)
 | label l=>
  intro r hr _ K Q β s a w _ _ R h hK;simp[res] at hr;subst hr;exact wpIn_label (hK _ _ _ _ _ h R)
 | _=>intro r hr hd;simp[res,noD] at hr hd
end
end Go.Vm
