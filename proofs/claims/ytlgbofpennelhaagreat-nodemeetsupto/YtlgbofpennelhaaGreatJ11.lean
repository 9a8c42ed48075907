/- Part. -/
import Derived.Test.YtlgbofpennelhaaGreatRows
import Derived.ProofKit
import Derived.OpenShut
import Derived.JoinedCond
import Derived.Sort.Walk0
import Derived.Shelf.Sort.Plain
import Derived.Shelf.Slices.In.SortNone
import Derived.Test.YtlgbofpennelhaaGreatJ8
set_option linter.all false
set_option maxHeartbeats 0
namespace Go.Proofs.YtlgbofpennelhaaGreat
open Go.ChangeShapes Go.WideShapes Go.ChangeAt Go.RowKit Go.Vm
namespace Br
set_option maxRecDepth 100000
theorem own:ownKnob Tryz.prog.godebug=none:=by rfl
theorem ztS:Tryz.prog.underlying 4=some .bool:=by rfl
theorem zGt:laidOutB Tryz.prog=true:=by kernel_rfl
theorem zIl {H:Type} (d:DataW H):1≤Rows.uptoBulk d:=by
 cases d with
 | lit l=>cases l<;>simp[Rows.uptoBulk]
 | nil=>simp[Rows.uptoBulk]
 | ptr d=>simp[Rows.uptoBulk]
 | slice elems spare=>simp[Rows.uptoBulk]
 | agg parts=>simp[Rows.uptoBulk]
 | iface t d=>simp[Rows.uptoBulk]
 | map entries=>simp[Rows.uptoBulk]
 | held h=>simp[Rows.uptoBulk]
theorem zyE {H:Type} {d:DataW H} {l:List (DataW H)} (h:d∈l):Rows.uptoBulk d≤Rows.uptoBulkAll l:=by
 induction l with
 | nil=>cases h
 | cons x r ih=>
  simp only[Rows.uptoBulkAll];cases Yp.1 h with
  | inl e=>simp_all
  | inr e=>grind
theorem zBQ {H:Type} (l:List (DataW H)):l.length≤Rows.uptoBulkAll l:=by
 induction l with
 | nil=>simp
 | cons x r ih=>have:=zIl x;simp only[Rows.uptoBulkAll,Ym];omega
def Reads (t:TypeId) (s:Nat) {α:Type} (R:Mem→List Value→α→Prop):Prop:=
 ∀ (H:Type) (enc:TypeId×Value→H) (W:World) (fuel:Nat) (cs:List Value) (d:DataW H) (ps:List MemPlace),
  DataW.trod enc Tryz.prog W 0 (fun _=>true) true fuel t cs=some (d,ps)→Rows.uptoBulk d≤1048576→cs.length=s∧∃ x,R (zk W) cs x
def zvU (k:IntKind) (n:Int):Prop:=(Lit.int k n).wf=true
theorem Reads.int {t:TypeId} {k:IntKind} (hu:Tryz.prog.underlying t=some (.int k)):Reads t 1 fun (_:Mem) cs (n:Int)=>cs=[.int k n]∧zvU k n:=by
 intro H enc W fuel cs d ps h _;cases fuel with
 | zero=>simp[DataW.trod] at h
 | succ m=>
  unfold DataW.trod at h;rw[hu] at h;split at h<;>first|(simp at *; done)|skip
  rename_i k2 k1 n e1;split at h
  ·rename_i hk;cases e1;exact⟨rfl,n,by rw[hk.1],hk.2⟩
  ·cases h
theorem zGu {W:World} {b o n:Nat} {f:Option Nat} {vs:List Value} (hf:f=none) (hn:0<n) (h:W.cells? 0 ⟨b,o,f⟩ n=some vs):(zk W).row b o n=some vs:=by
 subst hf;unfold World.cells? at h;simp only[Y5,if_true] at h;have hl:=mapM_some_length h
 have hg:∀ i,i<n→W.cell? ⟨b,o+i,none⟩=vs[i]? := fun i hi=>by
  have:=mapM_some_get h i i (by grind)
  rwa [zb7] at this
 have h0:=hg 0 hn;rw[List.length_range] at hl;unfold Mem.row zk;cases hw:W.heap[b]? with
 | none=>
  simp only[World.cell?, hw] at h0;rw[Yb oM] at h0;cases h0
 | some ob=>
  cases ob with
  | cells c e fz=>
   have hc:∀ i,i<n→c[o+i]? = vs[i]? := fun i hi=>by
    have:=hg i hi;simpa[World.cell?, hw] using this
   have hlast:=hc (n - 1) oM;rw[Yb oM] at hlast;have hsz:=(Y7.1 hlast).1
   simp only;rw[if_pos oM];congr 1;apply Yb1;intro i;by_cases hi:i<n
   ·rw[Ycb,if_pos hi,Ybw,Array.getElem?_toList,hc i hi]
   ·rw[Ycb,if_neg hi,Yca (by omega)]
  | _=>
   simp only[World.cell?, hw] at h0;rw[Yb oM] at h0;cases h0
theorem zDK {W W':World} (h:(zk W).le (zk W')) (hos:W'.os=W.os) (ht:W'.tape=W.tape) (ho:W'.output=W.output) (hs:W.heap.size≤W'.heap.size):Below W.heap.size W W':=
 ⟨hos,ht,ho,hs,fun k hk=>by
  have:W.heap[k]? = some W.heap[k]:=Ybk hk;rw[this]
  exact h k _ this⟩
theorem zBR {M:Mem} {b o s:Nat} (cl:List (List Value)) (hs:0<s) (hne:cl.length≠0) (h:∀ i cs,cl[i]? = some cs→M.row b (o+i*s) s=some cs) (hl:∀ cs∈cl,cs.length=s) {n:Nat} (hn:cl.length=n) :
  M.row b o (n*s)=some cl.flatten:=by
 have hflat:cl.flatten.length=n*s:=by
  rw[List.length_flatten]
  have:cl.map List.length=List.replicate n s:=by
   apply Ycy (by grind);intro i h1 h2;simp at h1;simp[hl _ (Yai h1)]
  rw[this];simp
 have hlast:=h (n - 1) _ (Yb oM);unfold Mem.row at h hlast ⊢;cases hM:M b with
 | none=>simp_all
 | some ob=>
  cases ob with
  | cells c e fz=>
   rw[hM] at hlast;simp only[hM] at h
   have hsz:o+(n - 1)*s+s≤c.size:=by
    simp only at hlast;split at hlast
    ·assumption
    ·cases hlast
   have hmul:n*s=(n - 1)*s+s:=by
    have:n=(n - 1)+1:=by omega
    rw[this,Ydp];simp
   simp only;rw[if_pos oM];congr 1;apply Yb1;intro j;by_cases hj:j<n*s
   ·have hq:j / s<n:=by rw[Nat.div_lt_iff_lt_mul hs];exact hj
    have hj2:=Nat.div_add_mod j s;have hmod:=Nat.mod_lt j hs
    have h8:=h (j / s) _ (Yb oM);split at h8
    ·have h9:=congrArg (·[j % s]?) (Yb2 h8);simp only[Ycb,if_pos hmod,Ybw] at h9;rw[Ycb,if_pos hj,Ybw];have e1:o+j / s*s+j % s=o+j:=by rw[Nat.add_assoc,Yd6,hj2]
     rw[e1] at h9;rw[h9];have h10:=ziP hl (Yb (show j / s<cl.length by omega))
     have h11:=congrArg (·[j % s]?) h10;simp only[Ycb,if_pos hmod,Ybw] at h11;rw[Yd6,hj2] at h11;exact h11.symm
    ·grind
   ·rw[Yca (by simp;omega),Yca (by omega)]
  | _=>simp_all
theorem pick {α β:Type} {p:Nat→α→β→Prop}:∀ {n:Nat} (_:∀ i,i<n→∃ a b,p i a b),∃ (l:List α) (r:List β),l.length=n∧r.length=n∧∀ (i:Nat) a b,l[i]? = some a→r[i]? = some b→p i a b
 | 0,_=>⟨[],[],rfl,rfl,by simp⟩
 | n+1,h=>by
  obtain⟨l,r,h1,h2,h3⟩:=pick (n:=n) fun i hi=>h i oM
  obtain⟨a,b,hab⟩:=h n oM;refine⟨l++[a],r++[b],by grind,by grind,fun i a' b' ha hb=>?_⟩;by_cases hi:i<n
  ·rw[Yag oM] at ha hb;exact h3 i a' b' ha hb
  ·have hl:=(Yu.1 ha).1;simp at hl;have:i=n:=by omega
   subst this;rw[Yan oM] at ha hb;simp[h1,h2] at ha hb;subst ha;subst hb;exact hab
theorem Reads.slice {t e:TypeId} {s:Nat} {α:Type} {R:Mem→List Value→α→Prop} (hu:Tryz.prog.underlying t=some (.slice e)) (hc:Tryz.prog.cellsOf e=s) (hs:0<s) (hr:Reads e s R) :
  Reads t 1 fun M cs (l:List α)=>∃ a n c,cs=[.slice a n c]∧Elems M s a n (R M) l∧n≤1048576∧n≤c:=by
 intro H enc W fuel cs d ps h hb;cases fuel with
 | zero=>simp[DataW.trod] at h
 | succ m=>
  unfold DataW.trod at h;rw[hu] at h;split at h<;>first|(simp at *; done)|skip
  ·exact⟨rfl,[],none,0,0,rfl,Elems.nil _ _ _,by omega,Yd _⟩
  ·rename_i e' a len cap h1;cases h1;rw[hc] at h;dsimp only at h;split at h
   ·rename_i hcond;simp only[Yn,Ye] at h;obtain⟨els,hels,rest,hrest,hd⟩:=h;simp only[Yci] at hd;obtain⟨hd, -⟩:=hd;subst hd;simp only[Rows.uptoBulk] at hb;have hlen:=mapM_some_length hels
    rw[List.length_range] at hlen;have hle:=zBQ (els.map (·.1))
    rw[Y9] at hle
    have hel:∀ i (hi:i<len),∃ (cs:List Value) (x:α),W.cells? 0 (a.add (i*s)) s=some cs∧cs.length=s∧R (zk W) cs x:=by
     intro i hi;have h3:=mapM_some_get hels i i (by grind)
     rw[Yb oM] at h3;obtain⟨cs,h4,h5⟩:=Yn.1 h3
     obtain⟨h6,x,h7⟩:=hr H enc W m cs _ _ h5 (by
      have:=zyE (Yj.2 ⟨els[i]'oM,Yai _,rfl⟩:(els[i]'oM).1∈els.map (·.1))
      exact Yz this oM)
     exact⟨cs,x,h4,h6,h7⟩
    refine⟨rfl,?_⟩;by_cases hz:len=0
    ·subst hz;exact⟨[],a,0,cap,rfl,⟨[],⟨by simp,.inl rfl⟩,rfl,rfl,by simp,by simp⟩,by omega,Y5 _⟩
    obtain⟨b,o,f⟩:=a;obtain⟨cs0,x0,h0,hl0,_⟩:=hel 0 oM
    have hf:f=none:=by
     have h8:W.cells? 0 (⟨b,o,f⟩:Addr) s=some cs0:=by simpa[Addr.add] using h0
     unfold World.cells? at h8;simp only[Y5,if_true] at h8;have h9:=mapM_some_get h8 0 0 (by grind)
     rw[Yb oM] at h9;simp only[World.cell?, Addr.add,if_true] at h9;split at h9
     ·simp_all
     ·grind
    subst hf;obtain⟨cl,xl,hcl,hxl,hp⟩:=pick hel
    have hflat:cl.flatten.length=len*s:=by
     rw[List.length_flatten]
     have:cl.map List.length=List.replicate len s:=by
      apply Ycy (by grind);intro i h1 h2;simp at h1;simp[(hp i _ _ (Yb h1) (Yb oM)).2.1]
     rw[this];simp
    have hrow:∀ i (hi:i<len),∀ cs,cl[i]? = some cs→(zk W).row b (o+i*s) s=some cs:=by
     intro i hi cs hc;have h8:=(hp i _ _ hc (Yb oM)).1
     rw[zb7] at h8;exact zGu rfl hs h8
    refine⟨xl,some ⟨b,o,none⟩,len,cap,rfl,⟨cl,⟨hflat,.inr ⟨b,o,rfl,zBR cl hs (by omega) (fun i cs hc=>hrow i (by grind) cs hc) (fun cs hc=>?_) hcl⟩⟩,hcl,hxl,fun cs hc=>?_,fun i cs x hi hx=>(hp i cs x hi hx).2.2⟩,by omega,hcond.2.1⟩
    all_goals
     obtain⟨i,hi,rfl⟩:=List.mem_iff_getElem.1 hc;exact(hp i _ _ (Yb hi) (Yb oM)).2.1
   ·cases h
theorem zlE {H:Type} {enc:TypeId×Value→H} {W:World}:∀ {ts:List TypeId} {vs:List Value} {ds:List (DataW H)} {ps:List MemPlace},DataW.TrodAll enc Tryz.prog W 0 (fun _=>true) true ts vs ds ps→ds.length=ts.length
 | [],vs,ds,ps,h=>by obtain⟨_,rfl,_⟩:=trodAll_nil h;rfl
 | t::ts,vs,ds,ps,h=>by obtain⟨v,vs',d,ds',p,q,_,rfl,_,_,h⟩:=trodAll_cons h;simp[zlE h]
theorem znf {H:Type} {enc:TypeId×Value→H} {W W':World} (hbel:Below W.heap.size W W') {sp:Nat→Bool}:∀ {ts:List TypeId} {vs:List Value} {ds:List (DataW H)} {ps:List MemPlace},
  DataW.TrodAll enc Tryz.prog W 0 (fun _=>true) true ts vs ds ps→(∀ t∈ts,Tryz.prog.readableRec t=true∧t<Tryz.prog.types.size)→(∀ x∈ps,x.block<W.heap.size)→(∀ x∈ps,sp x.block=true)→DataW.TrodAll enc Tryz.prog W' 0 sp true ts vs ds ps
 | [],vs,ds,ps,h,_,_,_=>by obtain⟨rfl,rfl,rfl⟩:=trodAll_nil h;exact trodAll_mk0
 | t::ts,vs,ds,ps,h,hr,hlt,hsp=>by
  obtain⟨v,vs',d,ds',p1,p2,rfl,rfl,rfl,h0,hA⟩:=trodAll_cons h;obtain⟨h1,h2⟩:=hr t oS
  exact trodAll_cons_mk (WideElems.Trod_stays zGt h1 h2 h0 (fun x hx=>hbel.same (hlt x (Ych _ hx))) (fun x hx=>hsp x (Ych _ hx)))
   (znf hbel hA (fun x hx=>hr x (Yak _ hx)) (fun x hx=>hlt x (Yc7 _ hx)) (fun x hx=>hsp x (Yc7 _ hx)))
set_option maxRecDepth 10000 in
theorem zJw {fn:Func} {f:Nat} {s:ChangeSpec} {handsOn again fresh:Bool} (hs:∀ H (ds:List (DataW H)),ds.length=fn.params.size→(s.fn H ds).results=[.lit (.bool true)]∧(s.fn H ds).args=ds∧(s.fn H ds).vars=[])
  (hv:s.vars=[]) (hres:fn.resultTypes = #[4]) (hread':fn.params.toList.all (fun t=>Tryz.prog.readableRec t&&decide (t<Tryz.prog.types.size))=true)
  (H:Type) (enc:TypeId×Value→H) (W:World) (args:Array Value) (ds gs:List (DataW H)) (before:List MemPlace)
  (hW:DataW.Whole enc Tryz.prog fn.params.toList s.vars false W args.toList ds gs before) (law:CallsM Tryz.prog f args.toList (zk W) fun v M'=>v = .bool true∧(zk W).le M') :
  Calls Tryz.prog f args W fun e W'=>∃ v,e = .returned v∧s.post enc Tryz.prog fn false fresh handsOn again W args v W':=by
 have hread:∀ t∈fn.params.toList,Tryz.prog.readableRec t=true∧t<Tryz.prog.types.size:=fun t ht=>by grind
 have hW':=hW;obtain⟨p,q,hA,hV,rfl,hfz,hnd⟩:=hW;rw[hv] at hV;obtain⟨rfl,rfl⟩:=trodVars_none hV;have hlen:ds.length=fn.params.size:=by simpa using zlE hA
 simp only[Yt] at hW';obtain⟨h1,h2,h3⟩:=hs H ds hlen;have:=law.2 (fun _=>none) W (Ya _) (fun _ _ h=>by cases h) (fun _ => .inr rfl)
 simp only[Array.toArray_toList] at this;refine this.mono fun e W' ⟨v,M',he,⟨hvt,hle⟩,hM',_,_,hos,hout,htape,hsz⟩=>?_
 subst he;subst hvt;have hbel:Below W.heap.size W W':=zDK (Yc hle hM') hos htape hout hsz.1
 have hlt:∀ x∈p,x.block<W.heap.size:=fun x hx=>by simpa using hW'.lt x hx
 have hres':∀ (b:Nat) (sp:Nat→Bool) (hd:Bool),DataW.TrodAll enc Tryz.prog W' b sp hd fn.resultTypes.toList ((Value.bool true).resultList fn.resultTypes.size) (s.fn H (ds++[])).results []:=fun b sp hd=>by
  rw[Yt,h1,hres];exact trodAll_cons_mk (shut_bool ztS _) trodAll_mk0
 have hargs':∀ sp:Nat→Bool,(∀ x∈p,sp x.block=true)→DataW.TrodAll enc Tryz.prog W' 0 sp true fn.params.toList args.toList (s.fn H (ds++[])).args p:=fun sp hsp=>by
  rw[Yt,h2];exact znf hbel hA hread hlt hsp
 have hvars':∀ sp:Nat→Bool,DataW.TrodVars enc Tryz.prog W' sp s.vars (s.fn H (ds++[])).vars []:=fun sp=>by rw[hv,Yt,h3];exact rfl
 have hbelow:∀ x∈p,decide (x.block<W.heap.size)=true:=fun x hx=>decide_eq_true (hlt x hx)
 have hub:Tryz.prog.underlying 4=some .bool:=ztS;have hok:=ok_one (P:=Tryz.prog) (W':=W') (v := .bool true) hres rfl (okWide_bool_mk hub true)
 have hkept:=hbel.frame (fun x=>x∈p∧(x∈([]:List MemPlace)∨x∈p∨x∈([]:List MemPlace)));refine⟨_,rfl,ds,[],p,[],p,[],hW',hres' _ _ _,hargs' _ hbelow,hvars' _,hkept,fun _=>⟨hok,_,_,([]++p)++[],⟨[]++p,[],trodAll_append (hargs' _ (fun _ _=>rfl)) (hres' _ _ _),hvars' _,rfl,?_,?_⟩,?_⟩⟩
 ·intro b off hx;have hx':MemPlace.cell b off∈p:=by simpa using hx
  rw[hbel.frozen (p:=⟨b,off,none⟩) (hlt _ hx')];exact hfz b off (by simp_all)
 ·simp
 ·simp_all
theorem zGv {v x:Value} (hn:∀ cs,v ≠ .agg cs) (hx:v.cells.toList=[x]):v=x:=by
 unfold Value.cells at hx;split at hx
 ·simp_all
 ·simp_all
theorem zvV {t:TypeId} {d:TypeDesc} (hu:Tryz.prog.underlying t=some d) (hd:(match d with | .int _ | .bool | .string | .slice _=>true|_=>false)=true) {W:World} {base:Nat} {v x:Value} (h:Value.okWide Tryz.prog W .any base t v) (hx:v.cells.toList=[x]):v=x:=by
 refine zGv (fun cs e=>?_) hx;rw[e] at h;cases d with
 | int k=>simp[Value.okWide,Cell.okWide,Cell.ok,hu] at h
 | bool=>simp[Value.okWide,Cell.okWide,Cell.ok,hu] at h
 | string=>simp[Value.okWide,Cell.okWide,Cell.ok,hu] at h
 | slice e'=>simp[Value.okWide,Cell.okWide,Cell.ok,hu] at h
 | _=>grind
theorem zJx {H:Type} {ds:List (DataW H)} (h:Rows.uptoSmall H (ds++[])=true):∀ d∈ds,Rows.uptoBulk d≤1048576:=fun d hd=>by
 have h1:Rows.uptoBulkAll (ds++[])≤1048576:=Zd0 h;rw[Yt] at h1;exact Yz (zyE hd) h1
end Br
end Go.Proofs.YtlgbofpennelhaaGreat
namespace Go.Vm
theorem MapAt.relabel {κ α:Type} [DecidableEq κ] {kv:κ→Value} {vv:α→Value} {M:Mem} {b:Nat} {m:List (κ×α)} (h:MapAt kv vv M b m) (f:κ×α→α) (hf:∀ q∈m,vv (f q)=vv q.2):MapAt kv vv M b (m.map fun q=>(q.1,f q)):=by
 obtain⟨l,c,h1,h2,rfl⟩:=h;refine⟨l.map fun q=>(q.1,q.2.1,f q.2),c,?_,⟨?_,?_,?_⟩,?_⟩
 ·rw[h1];unfold zbf;congr 2;rw[Ya4];congr 1;apply Yav;intro q hq;simp only[Function.comp_apply,zbO,hf q.2 (Yj.2 ⟨q,hq,rfl⟩)]
 ·have:=h2.keys;simpa[Ya4,Function.comp_def] using this
 ·intro q hq;obtain⟨q',hq',rfl⟩:=Yj.1 hq;exact h2.old q' hq'
 ·have:=h2.apart;simpa[Ya4,Function.comp_def] using this
 ·simp
section
variable {κ α:Type} [DecidableEq κ]
theorem zBS {l:List (κ×α)} {k:κ} {x:α} (h:ze l k=some x):zbX l k x=l:=by
 induction l with
 | nil=>rfl
 | cons q r ih=>
  obtain⟨a,y⟩:=q;simp only[ze] at h;simp only[zbX];split at h
  ·simp_all
  ·simp_all
theorem zBT (l:List (κ×α)) (k:κ) (x y:α):zbX (zbX l k x) k y=zbX l k y:=by
 induction l with
 | nil=>rfl
 | cons q r ih=>
  obtain⟨a,z⟩:=q;simp only[zbX];split
  ·simp[zbX]
  ·rename_i e;simp only[zbX,if_neg e,ih]
theorem zxK {l:List (κ×α)} {k:κ} {x y:α} (h:ze l k=none):zbX (l++[(k,x)]) k y=l++[(k,y)]:=by
 induction l with
 | nil=>simp[zbX]
 | cons q r ih=>
  obtain⟨a,z⟩:=q;simp only[ze] at h;split at h
  ·cases h
  ·rename_i e;simp only[Yby,zbX,if_neg e,ih h]
theorem zod (l:List (κ×α)) (k:κ) (x y:α):zt (zt l k x) k y=zt l k y:=by
 cases h:ze l k with
 | some z=>
  have e1:∀ w,zt l k w=zbX l k w:=fun w=>by simp[zt,h]
  have e2:ze (zbX l k x) k=some x:=by rw[ztO];simp[h]
  rw[e1,e1];simp only[zt,e2,zBT]
 | none=>
  have e1:∀ w,zt l k w=l++[(k,w)]:=fun w=>by simp[zt,h]
  have e2:ze (l++[(k,x)]) k=some x:=by rw[zpY,h];simp[ze]
  rw[e1,e1];simp only[zt,e2,zxK h]
theorem zmi {l:List (κ×α)} {k:κ} {x:α} (hn:(l.map (·.1)).Nodup) (h:ze l k=some x) (y:α):∃ u v,l=u++(k,x)::v∧zbX l k y=u++(k,y)::v∧(∀ q∈u,q.1≠k)∧∀ q∈v,q.1≠k:=by
 induction l with
 | nil=>cases h
 | cons q r ih=>
  obtain⟨a,z⟩:=q;simp only[Yq,Yau] at hn;simp only[ze] at h;split at h
  ·rename_i e;subst e;cases h;exact⟨[],r,rfl,by simp[zbX],by simp,fun q hq e=>hn.1 (e▸Yj.2 ⟨q,hq,rfl⟩)⟩
  ·rename_i e;obtain⟨u,v,h1,h2,h3,h4⟩:=ih hn.2 h;refine⟨(a,z)::u,v,by rw[h1];rfl,by simp only[zbX,if_neg e,h2];rfl,fun q hq=>?_,h4⟩;rcases Yp.1 hq with rfl|hq
   ·exact e
   ·grind
end
end Go.Vm
namespace Go.Proofs.YtlgbofpennelhaaGreat
open Go Go.Vm
def bl (b:ByteArray):List UInt8:=b.data.toList
theorem zkz (b:ByteArray):b.toList=bl b:=by simp[Yck,bl]
theorem zlF {a b:ByteArray} (h:bl a=bl b):a=b:=ByteArray.ext (Array.toList_inj.1 h)
theorem zmj (l:List UInt8):bl ⟨l.toArray⟩=l:=by simp[bl]
theorem zJy (b:ByteArray):(⟨(bl b).toArray⟩:ByteArray)=b:=by rfl
theorem zbv (a b:ByteArray):bl (a++b)=bl a++bl b:=by rfl
theorem zbP (b:ByteArray):(bl b).length=b.size:=by simp[bl]
def zij (a b:ByteArray):Bool:=Op.bytesLess a.toList b.toList
theorem ziC (a b:ByteArray):zij a b=true↔bl a<bl b:=by
 unfold zij;rw[Go.Proofs.bytesLess_eq,zkz,zkz];exact decide_eq_true_iff
theorem zfK (a:ByteArray):zij a a=false:=by
 rw[←Yb9,ziC];exact List.lt_irrefl _
theorem zxL {a b c:ByteArray} (h:zij a b=true) (h':zij b c=true):zij a c=true:=by
 rw[ziC] at *; exact List.lt_trans h h'
theorem zBU {a b:ByteArray} (h:zij a b=false) (hne:a≠b):zij b a=true:=by
 rw[←Yb9,ziC] at h;rw[ziC];apply Ybe;intro h';exact hne (zlF (List.le_antisymm h' h))
structure FileR where
 name:ByteArray
 safe:ByteArray
 tail:ByteArray
def FileR.all (f:FileR):ByteArray:=f.safe++f.tail
structure zf where
 limit:Int
 l:List FileR
 left:Int
 down:Bool
def SortedR (L:List FileR):Prop:=L.Pairwise fun x y=>zij x.name y.name=true
def zh (L:List FileR) (n:ByteArray):Option FileR:=L.find? fun f=>decide (f.name=n)
def za0 (L:List FileR):Nat:=(L.map fun f=>f.safe.size+f.tail.size).sum
def zaP (L:List FileR) (n:ByteArray):List FileR:=L.filter fun f=>decide (f.name≠n)
def ziU (f:FileR):List FileR→List FileR
 | []=>[f]
 | x::r=>if zij f.name x.name=true then f::x::r else x::ziU f r
def za5 (L:List FileR) (f:FileR):List FileR:=ziU f (zaP L f.name)
theorem zqJ (f x:FileR):∀ L,x∈ziU f L↔x=f∨x∈L
 | []=>by simp[ziU]
 | y::r=>by
  unfold ziU;split
  ·simp
  ·simp only[Yp,zqJ f x r];constructor
   ·grind
   ·grind
theorem zp2 {f:FileR}:∀ {L:List FileR},SortedR L→(∀ x∈L,x.name≠f.name)→SortedR (ziU f L)
 | [],_,_=>by simp[ziU,SortedR]
 | y::r,h,hne=>by
  obtain⟨h1,h2⟩:=Yx.1 h;unfold ziU;split
  ·rename_i hl;refine Yx.2 ⟨fun x hx=>?_,h⟩;rcases Yp.1 hx with rfl|hx
   ·exact hl
   ·exact zxL hl (h1 x hx)
  ·rename_i hl;refine Yx.2 ⟨fun x hx=>?_,zp2 h2 fun x hx=>hne x (by simp[hx])⟩;rcases(zqJ f x r).1 hx with rfl|hx
   ·exact zBU (by simp_all) (fun e=>hne y oS e.symm)
   ·simp_all
theorem zik (f:FileR):∀ L,(ziU f L).length=L.length+1
 | []=>rfl
 | y::r=>by unfold ziU;split<;>simp[zik f r]
theorem zkA (f:FileR):∀ L,za0 (ziU f L)=f.safe.size+f.tail.size+za0 L
 | []=>by rfl
 | y::r=>by
  unfold ziU;split
  ·simp[za0]
  ·have:=zkA f r;simp only[za0,Yq,Ybb] at this ⊢;omega
theorem zfz {L:List FileR} (h:SortedR L) (n:ByteArray):SortedR (zaP L n):=h.filter _
theorem withoutR_mem {L:List FileR} {n:ByteArray} {x:FileR}:x∈zaP L n↔x∈L∧x.name≠n:=by simp[zaP]
theorem zhv {L:List FileR} (h:SortedR L) (f:FileR):SortedR (za5 L f):=zp2 (zfz h _) fun _ hx=>(withoutR_mem.1 hx).2
theorem withR_mem {L:List FileR} {f x:FileR}:x∈za5 L f↔x=f∨(x∈L∧x.name≠f.name):=by rw[za5,zqJ,withoutR_mem]
theorem SortedR.uniq {L:List FileR} (h:SortedR L) {x y:FileR} (hx:x∈L) (hy:y∈L) (e:x.name=y.name):x=y:=by
 induction L with
 | nil=>cases hx
 | cons z r ih=>
  obtain⟨h1,h2⟩:=Yx.1 h;rcases Yp.1 hx with rfl|hx'
  ·rcases Yp.1 hy with rfl|hy'
   ·rfl
   ·have:=h1 y hy';rw[e,zfK] at this;cases this
  ·rcases Yp.1 hy with rfl|hy'
   ·have:=h1 x hx';rw[←e,zfK] at this;cases this
   ·exact ih h2 hx' hy'
theorem zaC {L:List FileR} (h:SortedR L) {n:ByteArray} {x:FileR}:zh L n=some x↔x∈L∧x.name=n:=by
 unfold zh;constructor
 ·grind
 ·rintro ⟨hx,rfl⟩;cases hf:L.find? (fun f=>decide (f.name=x.name)) with
  | none=>
   grind
  | some y=>
   rw[h.uniq (Ycf hf) hx (Zd0 (Ydm (p:=fun f:FileR=>decide (f.name=x.name)) hf))]
theorem findR_none {L:List FileR} {n:ByteArray}:zh L n=none↔∀ x∈L,x.name≠n:=by
 unfold zh;rw[List.find?_eq_none];simp
theorem zdN {L:List FileR} (h:SortedR L) (f:FileR) (n:ByteArray):zh (za5 L f) n=if n=f.name then some f else zh L n:=by
 split
 ·rename_i e;rw[zaC (zhv h f),withR_mem];exact⟨.inl rfl,e.symm⟩
 ·rename_i e;cases hf:zh L n with
  | none=>
   rw[findR_none] at hf ⊢;intro x hx;rcases withR_mem.1 hx with rfl|⟨hx,_⟩
   ·grind
   ·simp_all
  | some y=>
   rw[zaC h] at hf;rw[zaC (zhv h f),withR_mem];exact⟨.inr ⟨hf.1,by simp_all⟩,hf.2⟩
theorem zgI {L:List FileR} (h:SortedR L) (m n:ByteArray):zh (zaP L m) n=if n=m then none else zh L n:=by
 split
 ·rename_i e;rw[findR_none];intro x hx;rw[e];exact(withoutR_mem.1 hx).2
 ·rename_i e;cases hf:zh L n with
  | none=>
   rw[findR_none] at hf ⊢;exact fun x hx=>hf x (withoutR_mem.1 hx).1
  | some y=>
   rw[zaC h] at hf;rw[zaC (zfz h m),withoutR_mem];exact⟨⟨hf.1,by simp_all⟩,hf.2⟩
theorem zfL {L:List FileR} {n:ByteArray} (h:zh L n=none):zaP L n=L:=by
 rw[findR_none] at h;unfold zaP;rw[Ycz];intro x hx;simpa using h x hx
theorem zci {L:List FileR} (h:SortedR L) {n:ByteArray} {x:FileR} (hf:zh L n=some x):(zaP L n).length+1=L.length∧za0 (zaP L n)+(x.safe.size+x.tail.size)=za0 L:=by
 obtain⟨hx,rfl⟩:=(zaC h).1 hf;clear hf
 induction L with
 | nil=>cases hx
 | cons z r ih=>
  obtain⟨h1,h2⟩:=Yx.1 h;unfold zaP;rw[Yb8];by_cases e:z.name=x.name
  ·have:z=x:=h.uniq oS hx e;subst this;rw[if_neg oS];have hr:zaP r z.name=r:=zfL (findR_none.2 fun y hy e=>by have:=h1 y hy;rw[e,zfK] at this;cases this)
   have hr':List.filter (fun f=>decide (f.name≠z.name)) r=r:=hr;rw[hr'];simp[za0];omega
  ·rw[if_pos (by simp_all)];have hx':x∈r:=by rcases Yp.1 hx with rfl|h;exact absurd rfl e;exact h
   obtain⟨h3,h4⟩:=ih h2 hx';unfold zaP at h3 h4;unfold za0 at h4;simp only[za0,Yq,Ybb,Ym];omega
def zbZ (b:ByteArray):Bool:=decide (0<b.size∧b.size≤12)&&(bl b).all fun c=>decide (c.toNat=46∨(48≤c.toNat∧c.toNat≤57)∨(97≤c.toNat∧c.toNat≤122))
def zaM (D:zf) (n:ByteArray):Int:=if D.down=true then 9 else if zbZ n=false then 2 else 0
def zat (D:zf) (n:ByteArray):Int:=if zaM D n≠0 then zaM D n else if zh D.l n=none then 4 else 0
def zbb (D:zf) (l:List FileR):zf:=⟨D.limit,l,if 0<D.left then D.left - 1 else D.left,decide (D.left=1)⟩
def zq (D:zf) (n:ByteArray):FileR:=(zh D.l n).getD ⟨n,.empty,.empty⟩
def newR:Int→zf×Int:=fun limit=>if limit<1∨1048576<limit then (⟨0,[],0,false⟩,1) else (⟨limit,[], -1,false⟩,0)
def zap (D:zf) (n:ByteArray) (p:List UInt8):zf×Int:=
 if zaM D n≠0 then (D,zaM D n) else if D.limit - za0 D.l<p.length∨(zh D.l n=none∧64≤D.l.length) then (D,6)
 else (zbb D (za5 D.l ⟨n,(zq D n).safe,(zq D n).tail++⟨p.toArray⟩⟩),0)
def zbz (D:zf) (n:ByteArray):zf×Int:=
 if zat D n≠0 then (D,zat D n) else (zbb D (za5 D.l ⟨n,(zq D n).all,.empty⟩),0)
def zcp (D:zf) (n:ByteArray) (k:Int):zf×Int:=
 if zat D n≠0 then (D,zat D n) else if k<0∨(zq D n).all.size<k then (D,1) else (zbb D (za5 D.l ⟨n,(zq D n).all.extract 0 k.toNat,.empty⟩),0)
def zoS (D:zf) (n m:ByteArray):zf×Int:=
 if zaM D n≠0 then (D,zaM D n) else if zaM D m≠0 then (D,zaM D m) else if zat D n≠0 then (D,zat D n)
 else if 0<(zq D n).tail.size then (D,7) else (zbb D (za5 (zaP D.l n) ⟨m,(zq D n).safe,.empty⟩),0)
def z7 (D:zf) (n:ByteArray):zf×Int:=if zat D n≠0 then (D,zat D n) else (zbb D (zaP D.l n),0)
def zao (D:zf) (n:ByteArray):ByteArray×Int:=if zat D n≠0 then (.empty,zat D n) else ((zq D n).all,0)
structure InvD (D:zf):Prop where
 sort:SortedR D.l
 len:D.l.length≤64
 used:za0 D.l≤1048576
 limit:0≤D.limit∧D.limit≤1048576
 left : -1≤D.left∧D.left≤9223372036854775807
end Go.Proofs.YtlgbofpennelhaaGreat
namespace Go.Vm
open Go.RowKit Go.Shelf Go.Sort Go.Proofs
section
theorem zxM {α:Type} [Inhabited α] (enc:α→Value) (d:Array α) (cs:List Value) (h:d.size≤cs.length):putCells enc 0 d cs.toArray=(d.toList.map enc++cs.drop d.size).toArray:=by
 apply Array.ext_getElem?;intro k;simp only[putCells,Array.getElem?_mapIdx,List.getElem?_toArray];by_cases hk:k<d.size
 ·have hc:k<cs.length:=by omega
  rw[Yag (by simp_all),Ya7];have e1:cs[k]? = some cs[k]:=Yb hc
  have e2:d.toList[k]? = some d[k]:=by simp[hk]
  rw[e1,e2];simp[hk]
 ·grind
theorem turned {α:Type} [Inhabited α] {M F:Mem} {w:World} (hM:M.le (zk w)) (hF:F.le (zk w)) (hdj:M.disj F) {b:Nat} {E:TypeId} {cs:List Value} (hh:M.has b E cs) (enc:α→Value) (d:Array α) (hd:d.size≤cs.length) (n:Nat) (os:Array Obj) :
  (M.setCells b E (d.toList.map enc++cs.drop d.size)).le (zk (grow (putRow enc (Sort.ahead w n) b 0 d) os))∧F.le (zk (grow (putRow enc (Sort.ahead w n) b 0 d) os))∧(M.setCells b E (d.toList.map enc++cs.drop d.size)).disj F ∧
  (grow (putRow enc (Sort.ahead w n) b 0 d) os).os=w.os∧(grow (putRow enc (Sort.ahead w n) b 0 d) os).output=w.output∧(grow (putRow enc (Sort.ahead w n) b 0 d) os).tape=w.tape ∧
  w.heap.size≤(grow (putRow enc (Sort.ahead w n) b 0 d) os).heap.size∧w.drawn≤(grow (putRow enc (Sort.ahead w n) b 0 d) os).drawn:=by
 have hhb:w.heap[b]? = some (.cells cs.toArray E (0,0)):=hM _ _ hh;have hb:b<w.heap.size:=(Y7.1 hhb).1
 have hFb:F b=none:=(hdj b).resolve_left (by unfold Mem.has at hh;rw[hh];simp)
 have other:∀ x o,x≠b→w.heap[x]? = some o→zk (grow (putRow enc (Sort.ahead w n) b 0 d) os) x=some o:=fun x o hx hxo=>by
  have hlt:x<w.heap.size:=(Y7.1 hxo).1;show (w.heap.modify b (onCells (putCells enc 0 d))++os)[x]? = some o
  rw[Ycv (by simp_all),Yc8,if_neg (Ne.symm hx)];exact hxo
 refine⟨fun x o hx=>?_,fun x o hx=>?_,fun x=>?_,rfl,rfl,rfl,by simp,by simp[grow,putRow,mapBlock]⟩
 ·by_cases e:x=b
  ·subst e;simp only[Mem.setCells,Yam,Y3] at hx;subst hx;show (w.heap.modify x (onCells (putCells enc 0 d))++os)[x]? = _
   rw[Ycv (by simp_all),Yc8,if_pos rfl,hhb];simp only[Yc0,onCells,zxM enc d cs hd]
  ·simp only[Mem.setCells,Yh _ _ e] at hx;exact other x o e (hM x o hx)
 ·have e:x≠b:=fun e=>by simp_all
  exact other x o e (hF x o hx)
 ·by_cases e:x=b
  ·simp_all
  ·simp only[Mem.setCells,Yh _ _ e];exact hdj x
theorem holds_of {α:Type} [Inhabited α] {M:Mem} {w:World} (hM:M.le (zk w)) {b:Nat} {E:TypeId} {cs:List Value} (hh:M.has b E cs) (enc:α→Value) (l:List α) (h:cs.take l.length=l.map enc):Holds enc w b 0 l.toArray:=by
 have hhb:w.heap[b]? = some (.cells cs.toArray E (0,0)):=hM _ _ hh;intro j hj;have hj:j<l.length:=by simpa using hj
 constructor
 ·simp only[World.cell?, hhb,Yap];have:(cs.take l.length)[j]? = (l.map enc)[j]? := by rw[h]
  rw[Ya6 hj,Ya7,Yb hj] at this;simp[this,hj]
 ·simp[World.frozen?, hhb]
section
variable {P:Program} {ρ:Ren}
def zdr (l:List Int):List Int:=l.mergeSort fun x y=>decide (x≤y)
theorem zDL (Ly:Lays.n189 P ρ) (he:zdZ P (ρ.f 189)=true) {M:Mem} {E:TypeId} {a:Option Addr} {n c:Nat} {l:List Int} (h:Wr M E 1 a n c (l.map (Value.int .i64))) (hn:n<4611686018427387904) :
  CallsM P (ρ.f 189) [.slice a n c] M fun v M'=>v = .tuple #[]∧Wr M' E 1 a n c ((zdr l).map (Value.int .i64))∧Mem.keep (blk a) M M':=by
 refine⟨he,fun F w hM hF hdj=>?_⟩;have hll:l.length=n:=h.maplen
 obtain⟨h1,h2,⟨rfl,rfl⟩|⟨b,cs,rfl,hh,hcl,ht⟩⟩:=h
 ·have:n=0:=by omega
  subst this;have:l=[]:=by simpa using hll
  subst this;refine(Any.slices_Sort_int_none Ly none 0 w).mono ?_;rintro e w' ⟨rfl,rfl⟩;exact⟨_,M,rfl,⟨rfl,⟨by simp[zdr],Yd _,.inl ⟨rfl,rfl⟩⟩,Yas _ _⟩,hM,hF,hdj,rfl,rfl,rfl,Yd _,Yd _⟩
 ·have hb:b<w.heap.size:=(Y7.1 (hM _ _ hh)).1;have hH:=holds_of hM hh (Value.int .i64) l (by simp_all)
  have hs:=Any.slices_Sort_int Ly b 0 c l w hH hb oM;rw[hll] at hs;refine hs.mono ?_;rintro e w' ⟨rfl,q,os,rfl⟩;have hsl:(zdr l).length=l.length:=List.length_mergeSort l
  have ht':=turned hM hF hdj hh (Value.int .i64) (zdr l).toArray (by simp_all) q os;refine⟨_,M.setCells b E ((zdr l).toArray.toList.map (Value.int .i64)++cs.drop (zdr l).toArray.size),rfl,⟨rfl,⟨by simp_all,h2,.inr ⟨b,_,rfl,Yg,?_,?_⟩⟩,?_⟩,ht'⟩
  ·simp_all
  ·simp_all
  ·intro x o hx hxo;have e:x≠b:=fun e=>hx ⟨_,rfl,e.symm⟩
   simp only[Mem.setCells,Yh _ _ e];exact hxo
theorem zhw (l:List Int):(zdr l).Perm l:=List.mergeSort_perm l _
theorem zh5 (l:List Int):(zdr l).Pairwise (· ≤ ·):=by
 have:=List.pairwise_mergeSort (le:=fun (x y:Int)=>decide (x≤y)) (fun a b c h1 h2=>by grind) (fun a b=>by simp;omega) l;exact this.imp fun h=>by simp_all
end
end
section
section
variable {P:Program} {ρ:Ren}
def zhb (l:List (List UInt8)):List (List UInt8):=l.mergeSort fun x y=>decide (x≤y)
theorem zDM (Ly:Lays.n190 P ρ) (he:zdZ P (ρ.f 190)=true) {M:Mem} {E:TypeId} {a:Option Addr} {n c:Nat} {l:List (List UInt8)} (h:Wr M E 1 a n c (l.map encStr)) (hn:n<4611686018427387904) :
  CallsM P (ρ.f 190) [.slice a n c] M fun v M'=>v = .tuple #[]∧Wr M' E 1 a n c ((zhb l).map encStr)∧Mem.keep (blk a) M M':=by
 refine⟨he,fun F w hM hF hdj=>?_⟩;have hll:l.length=n:=h.maplen
 obtain⟨h1,h2,⟨rfl,rfl⟩|⟨b,cs,rfl,hh,hcl,ht⟩⟩:=h
 ·have:n=0:=by omega
  subst this;have:l=[]:=by simpa using hll
  subst this;refine(Any.slices_Sort_string_none Ly none 0 w).mono ?_;rintro e w' ⟨rfl,rfl⟩;exact⟨_,M,rfl,⟨rfl,⟨by simp[zhb],Yd _,.inl ⟨rfl,rfl⟩⟩,Yas _ _⟩,hM,hF,hdj,rfl,rfl,rfl,Yd _,Yd _⟩
 ·have hb:b<w.heap.size:=(Y7.1 (hM _ _ hh)).1;have hH:=holds_of hM hh encStr l (by simp_all)
  have hs:=Any.slices_Sort_string Ly b 0 c l w hH hb oM;rw[hll] at hs;refine hs.mono ?_;rintro e w' ⟨rfl,q,os,rfl⟩;have hsl:(zhb l).length=l.length:=List.length_mergeSort l
  have ht':=turned hM hF hdj hh encStr (zhb l).toArray (by simp_all) q os;refine⟨_,M.setCells b E ((zhb l).toArray.toList.map encStr++cs.drop (zhb l).toArray.size),rfl,⟨rfl,⟨by simp_all,h2,.inr ⟨b,_,rfl,Yg,?_,?_⟩⟩,?_⟩,ht'⟩
  ·simp_all
  ·simp_all
  ·intro x o hx hxo;have e:x≠b:=fun e=>hx ⟨_,rfl,e.symm⟩
   simp only[Mem.setCells,Yh _ _ e];exact hxo
theorem zvW (l:List (List UInt8)):(zhb l).Perm l:=List.mergeSort_perm l _
end
end
end Go.Vm
namespace Go.Proofs.YtlgbofpennelhaaGreat
open Go Go.Vm Go.Proofs.Tryz
attribute [local irreducible] Brn Ob Grow CallsM inR zI zF Mem.row Mem.cells Mem.setCells Mem.upd Go.Vm.Own zZ zaj zam zO New SrcOk subA NewSl Mem.textAt Mem.mapAt Mem.iterAt zC zB Wr NewEls Elems
set_option maxRecDepth 10000
section
@[reducible] def zgZ (k:ByteArray):Value := .string k
theorem zsZ:zeE zgZ:=fun _ _=>rfl
structure FX where
 f:Nat
 a:Option Addr
 c:Nat
 p:List UInt8
 safe:Nat
@[reducible] def fxV (x:FX):Value:=ptr x.f
structure FXAt (M:Mem) (x:FX):Prop where
 self:M.has x.f 120 [.slice x.a x.p.length x.c,.int .i64 x.safe]
 row:Wr M 5 1 x.a x.p.length x.c (x.p.map zc)
def FX.own (x:FX):Nat→Prop:=fun y=>y=x.f∨blk x.a y
theorem FXAt.mono {M M':Mem} {x:FX} (h:FXAt M x) (hk:∀ y o,x.own y→M y=some o→M' y=some o):FXAt M' x:=
 ⟨hk _ _ (.inl rfl) h.self,h.row.mono fun q o hq=>hk _ o (.inr ⟨q,hq,rfl⟩)⟩
theorem FXAt.le {M M':Mem} {x:FX} (h:FXAt M x) (hle:M.le M'):FXAt M' x:=h.mono fun y o _=>hle y o
def zIm (x y:FX):Prop:=∀ z,x.own z→¬y.own z
abbrev FsT:=List (ByteArray×FX)
structure DAt (M:Mem) (p b:Nat) (D:zf) (es:FsT):Prop where
 self:M.has p 99 [.int .i64 D.limit,.map (some b),.int .i64 D.left,.bool D.down]
 map:MapAt zgZ fxV M b es
 ents:∀ q∈es,FXAt M q.2
 apart:es.Pairwise fun x y=>zIm x.2 y.2
def zav (p b:Nat) (es:FsT):Nat→Prop:=fun y=>y=p∨y=b∨∃ q∈es,q.2.own y
theorem DAt.mono {M M':Mem} {p b:Nat} {D:zf} {es:FsT} (h:DAt M p b D es) (hk:∀ y o,zav p b es y→M y=some o→M' y=some o):DAt M' p b D es:=
 ⟨hk _ _ (.inl rfl) h.self,h.map.mono fun o ho=>hk _ _ (.inr (.inl rfl)) ho,fun q hq=>(h.ents q hq).mono fun y o hy ho=>hk y o (.inr (.inr ⟨q,hq,hy⟩)) ho,h.apart⟩
theorem DAt.le {M M':Mem} {p b:Nat} {D:zf} {es:FsT} (h:DAt M p b D es) (hle:M.le M'):DAt M' p b D es:=h.mono fun y o _=>hle y o
theorem FXAt.nomap {M:Mem} {x:FX} (h:FXAt M x) {b:Nat} {es:FsT} (hm:MapAt zgZ fxV M b es):¬x.own b:=by
 rintro (e|⟨q,hq,e⟩)
 ·exact hm.nb h.self e.symm
 ·obtain⟨cs,hh⟩:=h.row.block hq;exact hm.nb hh e
theorem FXAt.full {M:Mem} {x:FX} (h:FXAt M x) {y:Nat} (hy:x.own y):M y≠none:=by
 rcases hy with rfl|⟨q,hq,rfl⟩
 ·have:=h.self;unfold Mem.has at this;rw[this];simp
 ·obtain⟨cs,hh⟩:=h.row.block hq;unfold Mem.has at hh;rw[hh];simp
theorem FXAt.nodisk {M:Mem} {x:FX} (h:FXAt M x) {p:Nat} {l:List Value} (hp:M.has p 99 l):¬x.own p:=by
 rintro (e|⟨q,hq,e⟩)
 ·subst e;exact absurd (h.self.inj hp).1 oD
 ·obtain⟨cs,hh⟩:=h.row.block hq;subst e;exact absurd (hh.inj hp).1 oD
theorem DAt.full {M:Mem} {p b:Nat} {D:zf} {es:FsT} (h:DAt M p b D es) {y:Nat} (hy:zav p b es y):M y≠none:=by
 rcases hy with rfl|rfl|⟨q,hq,hy⟩
 ·have:=h.self;unfold Mem.has at this;rw[this];simp
 ·obtain⟨l,c,hh,_⟩:=h.map;rw[hh];simp[zbf]
 ·exact(h.ents q hq).full hy
variable {M:Mem} {p b:Nat} {D:zf} {es:FsT}
theorem DAt.turn {M':Mem} (h:DAt M p b D es) {k:ByteArray} {x x':FX} (hx:ze es k=some x) (hk:Mem.keep x.own M M') (he:FXAt M' x') (hr:x'.f=x.f) (hown:∀ y,x'.own y→x.own y∨M y=none):DAt M' p b D (zt es k x'):=by
 have hxe:=h.ents _ (zG hx);have hpa:zt es k x'=zbX es k x':=by simp[zt,hx]
 obtain⟨u,v,h1,h2,h3,h4⟩:=zmi h.map.nodup hx x';have hap:=h.apart
 rw[h1] at hap;have hap':=Yax.1 hap
 have hmem:∀ q,q∈u∨q∈v→q∈es:=fun q hq=>by grind
 have hfar:∀ q,q∈u∨q∈v→∀ y,q.2.own y→¬x.own y:=fun q hq y hy hxy=>by
  rcases hq with hq|hq
  ·exact hap'.2.2 q hq (k,x) oS y hy hxy
  ·exact(Yx.1 hap'.2.1).1 q hq y hxy hy
 have hfar':∀ q,q∈u∨q∈v→∀ y,q.2.own y→¬x'.own y:=fun q hq y hy hxy=>by
  rcases hown y hxy with h5|h5
  ·grind
  ·exact(h.ents q (hmem q hq)).full hy h5
 rw[hpa,h2];refine⟨hk _ _ (hxe.nodisk h.self) h.self,?_,fun q hq=>?_,?_⟩
 ·have hm:=h.map.relabel (fun q=>if q.1=k then x' else q.2) (fun q hq=>by grind)
  have e:(es.map fun q=>(q.1,if q.1=k then x' else q.2))=u++(k,x')::v:=by
   rw[h1,Yv,Yq];congr 1
   ·rw[Yav (g:=id),Ydh];intro q hq;simp[h3 q hq]
   ·congr 1
    ·simp
    ·rw[Yav (g:=id),Ydh];intro q hq;simp[h4 q hq]
  rw[e] at hm;exact hm.mono fun o ho=>hk _ o (hxe.nomap h.map) ho
 ·rcases Yy.1 hq with hq|hq
  ·exact(h.ents q (hmem q (.inl hq))).mono fun y o hy ho=>hk y o (hfar q (.inl hq) y hy) ho
  ·rcases Yp.1 hq with rfl|hq
   ·exact he
   ·exact(h.ents q (hmem q (.inr hq))).mono fun y o hy ho=>hk y o (hfar q (.inr hq) y hy) ho
 ·rw[Yax];refine⟨hap'.1,Yx.2 ⟨fun q hq y hy hqy=>hfar' q (.inr hq) y hqy hy,(Yx.1 hap'.2.1).2⟩,fun q hq q' hq'=>?_⟩;rcases Yp.1 hq' with rfl|hq'
  ·exact fun y hy hxy=>hfar' q (.inl hq) y hy hxy
  ·grind
theorem DAt.more {M':Mem} (h:DAt M p b D es) {k:ByteArray} {x:FX} (hx:ze es k=none) (hk:Mem.keep (fun y=>y=b) M M') (hm:MapAt zgZ fxV M' b (zt es k x)) (he:FXAt M' x) (hown:∀ q∈es,∀ y,x.own y→¬q.2.own y):DAt M' p b D (zt es k x):=by
 have hpa:zt es k x=es++[(k,x)]:=by simp[zt,hx]
 refine⟨hk _ _ (h.map.nb h.self) h.self,hm,fun q hq=>?_,?_⟩
 ·rw[hpa] at hq;rcases Yy.1 hq with hq|hq
  ·exact(h.ents q hq).mono fun y o hy ho=>hk y o (fun e=>by subst e;exact(h.ents q hq).nomap h.map hy) ho
  ·simp_all
 ·rw[hpa,Yax];refine⟨h.apart,by simp,fun q hq q' hq'=>?_⟩;simp at hq';subst hq';exact fun y hy hxy=>hown q hq y hxy hy
theorem DAt.less {M':Mem} (h:DAt M p b D es) (k:ByteArray) (hk:Mem.keep (fun y=>y=b) M M') (hm:MapAt zgZ fxV M' b (zaO es k)):DAt M' p b D (zaO es k):=
 ⟨hk _ _ (h.map.nb h.self) h.self,hm,fun q hq=>(h.ents q (Ya3.1 hq).1).mono fun y o hy ho=>hk y o (fun e=>by subst e;exact(h.ents q (Ya3.1 hq).1).nomap h.map hy) ho,h.apart.sublist Ycl⟩
theorem DAt.head {M':Mem} (h:DAt M p b D es) (D':zf) (hk:Mem.keep (fun y=>y=p) M M') (hs:M'.has p 99 [.int .i64 D'.limit,.map (some b),.int .i64 D'.left,.bool D'.down]):DAt M' p b D' es:=
 ⟨hs,h.map.mono fun o ho=>hk _ _ (fun e=>h.map.nb h.self e.symm) ho,fun q hq=>(h.ents q hq).mono fun y o hy ho=>hk y o (fun e=>by subst e;exact(h.ents q hq).nodisk h.self hy) ho,h.apart⟩
theorem zmk {k:ByteArray} {x':FX} {y:Nat} (hy:zav p b (zt es k x') y) (hn:(es.map (·.1)).Nodup):zav p b es y∨x'.own y:=by
 rcases hy with rfl|rfl|⟨q,hq,hy⟩
 ·exact .inl (.inl rfl)
 ·exact .inl (.inr (.inl rfl))
 ·by_cases e:q.1=k
  ·have hg:ze (zt es k x') k=some q.2:=zbK (zf6 hn k x') (by grind);rw[zbL,if_pos rfl] at hg;cases hg;exact .inr hy
  ·have hg:ze (zt es k x') q.1=some q.2:=zbK (zf6 hn k x') hq;rw[zbL,if_neg e] at hg;exact .inl (.inr (.inr ⟨q,zG hg,hy⟩))
theorem zz0 {k:ByteArray} {y:Nat} (hy:zav p b (zaO es k) y):zav p b es y:=by
 rcases hy with rfl|rfl|⟨q,hq,hy⟩
 ·exact .inl rfl
 ·exact .inr (.inl rfl)
 ·exact .inr (.inr ⟨q,(Ya3.1 hq).1,hy⟩)
def cont (f:FileR):List UInt8×Nat:=(bl f.all,f.safe.size)
structure RelD (es:FsT) (L:List FileR):Prop where
 sort:SortedR L
 nodup:(es.map (·.1)).Nodup
 same:∀ n,(ze es n).map (fun x=>(x.p,x.safe))=(zh L n).map cont
theorem RelD.nil:RelD [] []:=⟨by simp[SortedR],by simp,fun n=>by rfl⟩
theorem RelD.put {L:List FileR} (h:RelD es L) {f:FileR} {x:FX} (hx:(x.p,x.safe)=cont f):RelD (zt es f.name x) (za5 L f):=by
 refine⟨zhv h.sort f,zf6 h.nodup _ _,fun n=>?_⟩;rw[zbL,zdN h.sort];split
 ·simp[hx]
 ·exact h.same n
theorem RelD.del {L:List FileR} (h:RelD es L) (n:ByteArray):RelD (zaO es n) (zaP L n):=by
 refine⟨zfz h.sort n,zzV h.nodup _,fun m=>?_⟩;rw[zfI,zgI h.sort];split
 ·rfl
 ·exact h.same m
theorem RelD.none {L:List FileR} (h:RelD es L) {n:ByteArray}:ze es n=none↔zh L n=none:=by
 have:=h.same n;constructor
 ·intro e;rw[e] at this;simpa using this.symm
 ·intro e;rw[e] at this;simpa using this
theorem RelD.get {L:List FileR} (h:RelD es L) {n:ByteArray} {x:FX} (hx:ze es n=some x):∃ f,zh L n=some f∧f.name=n∧x.p=bl f.all∧x.safe=f.safe.size:=by
 have:=h.same n;rw[hx] at this;cases hf:zh L n with
 | none=>simp_all
 | some f=>
  rw[hf] at this;simp only[Yc0,Y3,cont,Yci] at this;exact⟨f,rfl,((zaC h.sort).1 hf).2,this.1,this.2⟩
theorem RelD.perm {L:List FileR} (h:RelD es L):(es.map fun q=>(q.1,q.2.p,q.2.safe)).Perm (L.map fun f=>(f.name,bl f.all,f.safe.size)):=by
 have n1:(es.map fun q=>(q.1,q.2.p,q.2.safe)).Nodup:=by
  have:((es.map fun q=>(q.1,q.2.p,q.2.safe)).map (·.1)).Nodup:=by rw[Ya4];exact h.nodup
  exact zqG this
 have n2:(L.map fun f=>(f.name,bl f.all,f.safe.size)).Nodup:=by
  unfold List.Nodup;rw[Ybd];refine h.sort.imp fun {x y} hxy e=>?_
  rw[show x.name=y.name from congrArg (·.1) e,zfK] at hxy;cases hxy
 rw[List.perm_ext_iff_of_nodup n1 n2];rintro ⟨n,p,s⟩;constructor
 ·intro hm;obtain⟨q,hq,e⟩:=Yj.1 hm;obtain⟨f,hf,hn,h1,h2⟩:=h.get (zbK h.nodup hq);refine Yj.2 ⟨f,((zaC h.sort).1 hf).1,?_⟩;rw[←e,hn,h1,h2]
 ·intro hm;obtain⟨f,hf,e⟩:=Yj.1 hm;have hff:zh L f.name=some f:=(zaC h.sort).2 ⟨hf,rfl⟩
  have:=h.same f.name;rw[hff] at this;cases hg:ze es f.name with
  | none=>simp_all
  | some x=>
   rw[hg] at this;simp only[Yc0,Y3,cont,Yci] at this;refine Yj.2 ⟨_,zG hg,?_⟩;rw[←e,this.1,this.2]
theorem FileR.all_size (f:FileR):(bl f.all).length=f.safe.size+f.tail.size:=by rw[zbP];simp[FileR.all]
theorem RelD.len {L:List FileR} (h:RelD es L):es.length=L.length:=by have:=h.perm.length_eq;simpa using this
def zgJ (es:FsT):Nat:=(es.map fun q=>q.2.p.length).sum
theorem RelD.used {L:List FileR} (h:RelD es L):zgJ es=za0 L:=by
 have:=(h.perm.map fun z=>z.2.1.length).sum_nat;rw[Ya4,Ya4] at this;unfold zgJ za0;refine Eq.trans this ?_;congr 1;apply Yav;intro f _;exact f.all_size
theorem RelD.names {L:List FileR} (h:RelD es L):(es.map (·.1)).Perm (L.map (·.name)):=by
 have:=h.perm.map (·.1);rw[Ya4,Ya4] at this;exact this
theorem zvY {q:ByteArray×FX} (hq:q∈es):q.2.p.length≤zgJ es:=by
 unfold zgJ
 induction es with
 | nil=>cases hq
 | cons z r ih=>
  grind
end
section
variable {M:Mem} {p b:Nat} {D:zf} {es:FsT}
theorem zDN (s:ByteArray) (hs:s.size≤4611686018427387904):CallsM prog 89 [.string s] M fun v M'=>v = .bool (zbZ s)∧M=M':=by
 refine zuJ oS ?_
 have okc:∀ i,zbZ s=true→i<s.size→((s.toList.getD i 0).toNat=46∨(48≤(s.toList.getD i 0).toNat∧(s.toList.getD i 0).toNat≤57)∨(97≤(s.toList.getD i 0).toNat∧(s.toList.getD i 0).toNat≤122)):=fun i h hi=>by
  unfold zbZ at h;rw[Yl,Yaz] at h;have hl:i<(bl s).length:=by rw[zbP];exact hi
  have:=h.2 _ (Yai hl);rw[zkz,Ys,Yb hl];exact Zd0 this
 refine zem [7] (fun (i:Nat)=>[(7,.int .i64 i)]) (fun i=>i≤s.size∧∀ j,j<i→((s.toList.getD j 0).toNat=46∨(48≤(s.toList.getD j 0).toNat∧(s.toList.getD j 0).toNat≤57)∨(97≤(s.toList.getD j 0).toNat∧(s.toList.getD j 0).toNat≤122))) (fun i=>s.size - i) 0 ⟨by omega,by omega⟩ zS ?_;rintro i ⟨hi,hall⟩;refine brn (fun g=>?_) (fun g=>?_)
 ·have hlt:i<s.size:=by have:=Zd0 g;omega
  have hok:=fun h=>okc i h hlt
  generalize hc:(s.toList.getD i 0).toNat=c at hok;refine ob (by omega) ?_;rw[Yc4,hc];refine brn (fun g1=>?_) (fun g1=>?_)
  ·replace g1:¬(c:Int)=46:=by simpa using g1
   refine brn (fun g2=>?_) (fun g2=>?_)
   ·replace g2:=Zd0 g2;refine brn (fun g4=>?_) (fun g4=>?_)
    ·replace g4:=Zd0 g4
     ·refine zR ?_;refine⟨?_,rfl⟩
      have:zbZ s=false:=by
       rw[←Yb9];intro h;have:=hok h;omega
      rw[this]
    ·grind
   ·replace g2:=Zd1 g2;refine brn (fun g3=>?_) (fun g3=>?_)
    ·replace g3:=Zd0 g3;refine brn (fun g4=>?_) (fun g4=>?_)
     ·replace g4:=Zd0 g4
      ·refine zR ?_;refine⟨?_,rfl⟩
       have:zbZ s=false:=by
        rw[←Yb9];intro h;have:=hok h;omega
       rw[this]
     ·replace g4:=Zd1 g4;refine brn (fun g5=>?_) (fun g5=>?_)
      ·replace g5:=Zd0 g5
       ·refine zR ?_;refine⟨?_,rfl⟩
        have:zbZ s=false:=by
         rw[←Yb9];intro h;have:=hok h;omega
        rw[this]
      ·replace g5:=Zd1 g5;refine obr (inR_i64 (by omega)) ?_;refine⟨i+1,⟨by omega,fun j hj=>?_⟩,by omega,zS⟩;by_cases e:j=i
       ·grind
       ·grind
    ·replace g3:=Zd1 g3;refine obr (inR_i64 (by omega)) ?_;refine⟨i+1,⟨by omega,fun j hj=>?_⟩,by omega,zS⟩;by_cases e:j=i
     ·grind
     ·grind
  ·replace g1:(c:Int)=46:=by simpa using g1
   refine obr (inR_i64 (by omega)) ?_;refine⟨i+1,⟨by omega,fun j hj=>?_⟩,by omega,zS⟩;by_cases e:j=i
   ·grind
   ·grind
 have hge:i=s.size:=by have:=Zd1 g;omega
 subst hge
 have hv:zbZ s=decide (0<s.size∧s.size≤12):=by
  unfold zbZ
  have:((bl s).all fun c=>decide (c.toNat=46∨(48≤c.toNat∧c.toNat≤57)∨(97≤c.toNat∧c.toNat≤122)))=true:=by
   rw[Yaz];intro c hc;obtain⟨j,hj,rfl⟩:=Ybm hc;have:=hall j (by assumption)
   rw[zkz,Ys,Yb hj] at this;exact decide_eq_true this
  rw[this,Bool.and_true]
 refine brn (fun g1=>?_) (fun g1=>?_)
 ·replace g1:=Zd0 g1;refine zR ?_;refine⟨?_,rfl⟩;rw[hv];congr 1;exact decide_eq_decide.2 ⟨fun h=>by omega,fun h=>by omega⟩
 ·replace g1:=Zd1 g1;refine zR ?_;refine⟨?_,rfl⟩;rw[hv,decide_eq_false oM]
theorem zvZ (h:DAt M p b D es) {a:Option Addr} {n c:Nat} {ns:List ByteArray} (hs:SrcOk M 1 a n (ns.map zgZ)) (hn:n≤4194304) (hsz:∀ s∈ns,s.size≤4611686018427387904) :
  CallsM prog 43 [ptr p,.slice a n c] M fun v M'=>v = .int .i64 (if D.down=true then 9 else if ns.all zbZ=true then 0 else 2)∧M=M':=by
 refine znX oS ?_;have hl:=hs.maplen
 refine zK h.self ?_;cases g:D.down
 rotate_left
 ·refine zR ?_;exact⟨by simp,rfl⟩
 refine zem [15] (fun (i:Nat)=>[(15,.int .i64 i)]) (fun i=>i≤n∧∀ j s,j<i→ns[j]? = some s→zbZ s=true) (fun i=>n - i) 0 ⟨by omega,by omega⟩ zS ?_;rintro i ⟨hi,hall⟩;refine brn (fun g1=>?_) (fun g1=>?_)
 ·have hlt:i<n:=by have:=Zd0 g1;omega
  obtain⟨hkx,bx,ox,hax,hrx⟩:=hs.at (i:=i) hlt;have hxi:ns[i]? = some ns[i]:=Yb hkx
  have hxm:ns[i]∈ns:=Yai hkx;generalize ns[i]=x at *;refine ob (by omega) ?_;refine atp hax ?_;refine on hrx ?_;refine zJ (zDN x (hsz x hxm)) ?_;refine brn (fun g2=>?_) (fun g2=>?_)
  ·refine zR ?_;refine⟨?_,rfl⟩;rw[if_neg oS,if_neg];intro h2;rw[Yaz] at h2;rw[h2 x hxm] at g2;cases g2
  ·have g3:zbZ x=true:=by simpa using g2
   refine obr (inR_i64 (by omega)) ?_;refine⟨i+1,⟨by omega,fun j s hj hs=>?_⟩,by omega,zS⟩;by_cases e:j=i
   ·simp_all
   ·grind
 have hge:i=n:=by have:=Zd1 g1;omega
 refine zR ?_;refine⟨?_,rfl⟩;rw[if_neg oS,if_pos];rw[Yaz];intro s hs;obtain⟨j,hj,rfl⟩:=Ybm hs;exact hall j _ oM (Yb hj)
theorem zBV (D:zf) (s:ByteArray):(if D.down=true then (9:Int) else if [s].all zbZ=true then 0 else 2)=zaM D s:=by
 unfold zaM;by_cases h:zbZ s=true<;>simp[h]
theorem zml (h:DAt M p b D es) (hr:RelD es D.l) (s:ByteArray) (hs:s.size≤4611686018427387904) :
  CallsM prog 225 [ptr p,.string s] M fun v M'=>M.le M'∧((zat D s≠0∧v = .tuple #[.pointer none,.int .i64 (zat D s)])∨(zat D s=0∧∃ x,ze es s=some x∧v = .tuple #[ptr x.f,.int .i64 0])):=by
 refine zn6 oS ?_;refine zR ?_;refine new (fun b1 hb1=>?_);replace hb1:M b1=none:=hb1;have hle1:M.le (M.setCells b1 9 [.string s]):=Yw hb1
 have hs1:SrcOk (M.setCells b1 9 [.string s]) 1 (some ⟨b1,0,none⟩) 1 ([s].map zgZ):=SrcOk.lit rfl;obtain⟨M1,hM1⟩:=oI (M.setCells b1 9 [.string s]);rw[←hM1] at hle1 hs1;erw [←hM1];refine(zvZ (h.le hle1) hs1 oM (by simp_all)).mono ?_;rintro v _ ⟨rfl,rfl⟩;rw[zBV];refine brn (fun g=>?_) (fun g=>?_)
 ·have g1:¬zaM D s=0:=by simpa using g
  have e:zat D s=zaM D s:=by unfold zat;rw[if_pos g1]
  refine zR ?_;exact⟨hle1,.inl ⟨by omega,by rw[e]⟩⟩
 have g1:zaM D s=0:=by simpa using g
 refine zK ((h.le hle1).self) ?_;refine(h.le hle1).map.get zsZ s (fun hn=>?_) (fun x j hx=>?_)
 ·have e:zat D s=4:=by unfold zat;rw[if_neg (by simp[g1]),if_pos (hr.none.1 hn)]
  refine zR ?_;exact⟨hle1,.inl ⟨by omega,by rw[e]⟩⟩
 ·have e:zat D s=0:=by
   unfold zat;rw[if_neg (by simp[g1]),if_neg];intro hf;rw[hr.none.2 hf] at hx;cases hx
  refine zR ?_;exact⟨hle1,.inr ⟨e,x,hx,rfl⟩⟩
theorem zjm (h:DAt M p b D es) (hd:D.down=false) (l:List FileR) (hl:D.left≤9223372036854775807) :
  CallsM prog 226 [ptr p] M fun v M'=>v = .int .i64 0∧DAt M' p b (zbb D l) es∧Mem.keep (fun y=>y=p) M M':=by
 refine zmf oS ?_;refine zK h.self ?_;refine brn (fun g=>?_) (fun g=>?_)
 ·replace g:=Zd0 g;refine zR ?_;refine on (h.self.c1 rfl) ?_;refine obr (inR_i64 oM) ?_;refine on h.self.cells ?_;refine ob oS ?_
  have hk1:Mem.keep (fun y=>y=p) M (M.setCells p 99 [.int .i64 D.limit,.map (some b),.int .i64 (D.left - 1),.bool D.down]):=fun y o hy ho=>by
   unfold Mem.setCells;rw[Yh _ _ hy];exact ho
  have hs1:(M.setCells p 99 [.int .i64 D.limit,.map (some b),.int .i64 (D.left - 1),.bool D.down]).has p 99 [.int .i64 D.limit,.map (some b),.int .i64 (D.left - 1),.bool D.down]:=Yg;obtain⟨M1,hM1⟩:=oI (M.setCells p 99 [.int .i64 D.limit,.map (some b),.int .i64 (D.left - 1),.bool D.down]);rw[←hM1] at hk1 hs1;erw [←hM1];refine on (hs1.c1 rfl) ?_;refine on hs1.cells ?_;refine ob oS ?_
  have hk2:Mem.keep (fun y=>y=p) M1 (M1.setCells p 99 [.int .i64 D.limit,.map (some b),.int .i64 (D.left - 1),.bool (decide (D.left - 1=0))]):=fun y o hy ho=>by
   unfold Mem.setCells;rw[Yh _ _ hy];exact ho
  have hs2:(M1.setCells p 99 [.int .i64 D.limit,.map (some b),.int .i64 (D.left - 1),.bool (decide (D.left - 1=0))]).has p 99 [.int .i64 D.limit,.map (some b),.int .i64 (D.left - 1),.bool (decide (D.left - 1=0))]:=Yg;obtain⟨M2,hM2⟩:=oI (M1.setCells p 99 [.int .i64 D.limit,.map (some b),.int .i64 (D.left - 1),.bool (decide (D.left - 1=0))]);rw[←hM2] at hk2 hs2;erw [←hM2];refine zR ?_
  have e:zbb D l=⟨D.limit,l,D.left - 1,decide (D.left - 1=0)⟩:=by
   unfold zbb;rw[if_pos g];congr 1;exact decide_eq_decide.2 ⟨fun h=>by omega,fun h=>by omega⟩
  rw[e];have hk12:=Yac hk1 hk2
  exact⟨rfl,h.head ⟨D.limit,l,D.left - 1,decide (D.left - 1=0)⟩ hk12 hs2,hk12⟩
 ·replace g:=Zd1 g;refine zR ?_;refine⟨rfl,?_,Yas _ _⟩
  have e:zbb D l=⟨D.limit,l,D.left,D.down⟩:=by
   unfold zbb;rw[if_neg g,hd,decide_eq_false oM]
  rw[e];exact⟨h.self,h.map,h.ents,h.apart⟩
end
section
variable {M:Mem} {p b:Nat} {D:zf} {es:FsT}
structure StepD (M M':Mem) (p b:Nat) (es es':FsT) (D':zf):Prop where
 at':DAt M' p b D' es'
 rel:RelD es' D'.l
 keep:Mem.keep (zav p b es) M M'
 own:∀ y,zav p b es' y→zav p b es y∨M y=none
theorem StepD.same (h:DAt M p b D es) (hr:RelD es D.l) {M':Mem} (hle:M.le M'):StepD M M' p b es es D:=⟨h.le hle,hr,Ybt hle,fun _ hy => .inl hy⟩
theorem zyF (h:DAt M p b D es) (hg:zgJ es≤4611686018427387904):CallsM prog 284 [ptr p] M fun v M'=>v = .int .i64 (zgJ es)∧M.le M':=by
 refine zps oS ?_;refine brn_t rfl ?_;refine zK h.self ?_;refine h.map.range fun q bi hbi hI=>?_
 replace hbi:M bi=none:=hbi
 refine zak (σ:=Mem×Nat×FsT) [3] (fun x=>[(3,.int .i64 x.2.1)]) (fun _=>[]) (fun x=>x.1)
  (fun|⟨M1,n,todo⟩=>M.le M1∧Iter zgZ fxV M1 bi b es todo∧n+zgJ todo=zgJ es) (fun x=>x.2.2.length) ⟨_,0,es⟩
  ⟨Ya8 hbi,hI,by omega⟩ zS ?_
 rintro ⟨M1,n,todo⟩ ⟨hle,hI1,hsum⟩;refine hI1.next (fun h0=>?_) (fun i k todo' o' hperm hI2 hent=>?_)
 ·subst h0;refine zR ?_;refine⟨?_,hle⟩;have:zgJ []=0:=rfl
  congr 1;dsimp only;omega
 ·have hle2:M.le (M1.upd bi o'):=fun y o hb=>by
   rw[Yh _ _ (fun e=>by simp_all)];exact hle _ _ hb
  obtain⟨M2,hM2⟩:=oI (M1.upd bi o');rw[←hM2] at hI2 hent hle2;have hmem:(i,k)∈es:=hI1.todo_sub _ (hperm.mem_iff.2 oS)
  have hke:=(h.le hle2).ents _ hmem
  have hs:zgJ todo=k.p.length+zgJ todo':=by
   have:=(hperm.map fun q=>q.2.p.length).sum_nat;simpa[zgJ] using this
  erw [←hM2];refine zR ?_;refine on hent ?_;refine on (hke.self.c1 rfl) ?_;refine obr (inR_i64 (by grind)) ?_;refine⟨⟨M2,n+k.p.length,todo'⟩,⟨hle2,hI2,by omega⟩,by have:=hperm.length_eq;simp at this ⊢; omega,zS⟩
theorem zGw (limit:Int):CallsM prog 15 [.int .i64 limit] M fun v M'=>
  ((limit<1∨1048576<limit)∧v = .tuple #[.pointer none,.int .i64 1]∧M'=M) ∨
  (¬(limit<1∨1048576<limit)∧∃ p b,v = .tuple #[ptr p,.int .i64 0]∧M.le M'∧DAt M' p b ⟨limit,[], -1,false⟩ []∧∀ y,zav p b [] y→M y=none):=by
 refine zxx oS ?_;refine brn (fun h=>?_) (fun h=>?_)
 ·refine zR ?_;exact .inl ⟨.inl (Zd0 h),rfl,rfl⟩
 refine brn (fun h1=>?_) (fun h1=>?_)
 ·(conv=>whnf);exact .inl ⟨.inr (Zd0 h1),rfl,rfl⟩
 ·refine new (fun b hb=>?_);replace hb:M b=none:=hb;refine new (fun p hp=>?_);replace hp:(M.upd b (.map #[] 0)) p=none:=hp;have hne:p≠b:=fun e=>by subst e;rw[Yam] at hp;cases hp
  rw[Yh _ _ hne] at hp
  have hn:¬(limit<1∨1048576<limit):=by
   have:=Zd1 h;have:=Zd1 h1
   omega
  refine .inr ⟨hn,p,b,rfl,Yc (Ya8 hb) (Yw (by rw[Yh _ _ hne];exact hp)),⟨Yg,?_,by simp,by simp⟩,fun y hy=>?_⟩
  ·refine(Ydq M b).mono fun o ho=>?_
   unfold Mem.setCells;rw[Yh _ _ (Ne.symm hne)];exact ho
  ·rcases hy with rfl|rfl|⟨q,hq,_⟩
   ·exact hp
   ·exact hb
   ·cases hq
theorem Wr.newSl {E:TypeId} {s:Nat} {a:Option Addr} {n c:Nat} {L:List Value} (h:Wr M E s a n c L):NewSl (M.minus (blk a)) E s a n c L M:=by
 unfold Wr at h;obtain⟨h1,h2,h3⟩:=h;exact newSl_iff.2 ⟨Yab _ _,h1,h2,h3.imp id fun ⟨b,cs,ha,hh,hr⟩=>⟨b,cs,ha,Yaq ⟨_,ha,rfl⟩,hh,hr⟩⟩
theorem zBW (h:DAt M p b D es) (hr:RelD es D.l) (hI:InvD D) (s:ByteArray) (hs:s.size≤4611686018427387904) {a:Option Addr} {n c:Nat} {l:List UInt8} (hl:SrcOk M 1 a n (l.map zc)) :
  CallsM prog 207 [ptr p,.string s,.slice a n c] M fun v M'=>v = .int .i64 (zap D s l).2∧∃ es',StepD M M' p b es es' (zap D s l).1:=by
 refine zns oS ?_;have hll:=hl.maplen
 refine zR ?_;refine new (fun b1 hb1=>?_);replace hb1:M b1=none:=hb1;have hle1:M.le (M.setCells b1 9 [.string s]):=Yw hb1
 have hs1:SrcOk (M.setCells b1 9 [.string s]) 1 (some ⟨b1,0,none⟩) 1 ([s].map zgZ):=SrcOk.lit rfl;obtain⟨M1,hM1⟩:=oI (M.setCells b1 9 [.string s]);rw[←hM1] at hle1 hs1;erw [←hM1];refine(zvZ (h.le hle1) hs1 oM (by simp_all)).mono ?_;rintro v _ ⟨rfl,rfl⟩;rw[zBV];refine brn (fun g=>?_) (fun g=>?_)
 ·have g1:¬zaM D s=0:=by simpa using g
  have e:zap D s l=(D,zaM D s):=by unfold zap;rw[if_pos g1]
  refine zR ?_;rw[e];exact⟨rfl,es,.same h hr hle1⟩
 have g1:zaM D s=0:=by simpa using g
 have hdn:D.down=false:=by
  rw[←Yb9];intro hd;unfold zaM at g1;rw[if_pos hd] at g1;cases g1
 have hu:=hr.used;have hIu:=hI.used
 have hlim:=hI.limit;refine zK ((h.le hle1).self) ?_;refine(h.le hle1).map.get zsZ s (fun hn=>?_) (fun x j hx=>?_)
 rotate_left
 refine⟨M1,Ya _,?_⟩;refine on ((h.le hle1).self.c1 rfl) ?_;refine⟨?_,True.intro⟩;refine(zyF (h.le hle1) oM).mono ?_;rintro v M2 ⟨rfl,hle2⟩;have hle12:=Yc hle1 hle2
 rw[hu];refine zT (hle2) ?_;refine obr (inR_i64 (by omega)) ?_;refine brn (fun g2=>?_) (fun g2=>?_)
 ·replace g2:=Zd0 g2;have e:zap D s l=(D,6):=by unfold zap;rw[if_neg (by simp[g1]),if_pos (.inl oM)]
  refine zR ?_;rw[e];exact⟨rfl,es,.same h hr hle12⟩
 replace g2:=Zd1 g2;obtain⟨f,hf,hfn,hfp,hfs⟩:=hr.get hx
 have hfull:¬(D.limit - za0 D.l<l.length∨(zh D.l s=none∧64≤D.l.length)):=by
  rw[hf];simp;omega
 have hfile:zq D s=f:=by unfold zq;rw[hf];rfl
 rename Mem=>M3
 have h3:DAt M3 p b D es:=h.le hle12;have hl3:SrcOk M3 1 a n (l.map zc):=hl.le hle12
 have hx3l:x.p.length≤1048576:=by have:=zvY (zG hx);dsimp only at this;omega
 have hxp2:x.p=bl (zq D s).safe++bl (zq D s).tail:=by rw[hfile,hfp,FileR.all,zbv]
 have hxs:x.safe=(zq D s).safe.size:=by rw[hfile,hfs]
 obtain⟨es3,he3⟩:=oI es;rw[←he3] at h3 hx;have hes3:∀ x',zt es3 s x'=zt es s x':=fun x'=>by rw[he3]
 have hk13:Mem.keep (zav p b es) M M3:=Ybt hle12;have hown3:∀ y,zav p b es3 y→zav p b es y∨M y=none:=fun y hy => .inl (he3▸hy)
 have hful3:∀ y,zav p b es y→M3 y≠none:=fun y hy=>h3.full (he3▸hy)
 rotate_left
 refine⟨M1,Ya _,?_⟩;refine on ((h.le hle1).self.c1 rfl) ?_;refine⟨?_,True.intro⟩;refine(zyF (h.le hle1) oM).mono ?_;rintro v M2 ⟨rfl,hle2⟩;have hle12:=Yc hle1 hle2
 rw[hu];refine zT (hle2) ?_;refine obr (inR_i64 (by omega)) ?_;refine brn (fun g2=>?_) (fun g2=>?_)
 ·replace g2:=Zd0 g2;have e:zap D s l=(D,6):=by unfold zap;rw[if_neg (by simp[g1]),if_pos (.inl oM)]
  refine zR ?_;rw[e];exact⟨rfl,es,.same h hr hle12⟩
 replace g2:=Zd1 g2;have hfn:=hr.none.1 hn
 refine zK ((h.le hle1).self) ?_;refine(h.le hle1).map.len fun mes mc hmes=>?_
 refine brn (fun g3=>?_) (fun g3=>?_)
 ·replace g3:=Zd0 g3;dsimp only at g3
  have e:zap D s l=(D,6):=by
   unfold zap;rw[if_neg (by simp[g1]),if_pos (.inr ⟨hfn,by have:=hr.len;omega⟩)]
  refine zR ?_;rw[e];exact⟨rfl,es,.same h hr hle12⟩
 replace g3:=Zd1 g3;dsimp only at g3;have hfull:¬(D.limit - za0 D.l<l.length∨(zh D.l s=none∧64≤D.l.length)):=by have:=hr.len;omega
 refine zK ((h.le hle12).self) ?_;refine new (fun r hr0=>?_);replace hr0:M2 r=none:=hr0;obtain⟨x,hxf,hxa,hxc,hxp,hxs0⟩:∃ x:FX,r=x.f∧x.a=none∧x.c=0∧x.p=[]∧x.safe=0:=⟨⟨r,none,0,[],0⟩,rfl,rfl,rfl,rfl,rfl⟩
 subst hxf;have hle23:M2.le (M2.setCells x.f 120 [.slice none 0 0,.int .i64 0]):=Yw hr0
 have hself23:(M2.setCells x.f 120 [.slice none 0 0,.int .i64 0]).has x.f 120 [.slice none 0 0,.int .i64 0]:=Yg;obtain⟨Mb,hMb⟩:=oI (M2.setCells x.f 120 [.slice none 0 0,.int .i64 0]);rw[←hMb] at hle23 hself23;erw [←hMb];have hb:=(h.le hle12).le hle23
 refine zR ?_;refine hb.map.put zsZ s x fun q2 f2 hm=>?_
 replace hm:=hm Mb;obtain⟨M3,hM3⟩:=oI (Mb.upd b (zdg q2 f2 (zgZ s) (fxV x)));have hkb:Mem.keep (fun y=>y=b) Mb M3:=hM3▸Yad _ _ rfl
 rw[←hM3] at hm;erw [←hM3];have hnb:x.f≠b:=hb.map.nb hself23
 have hr1:M1 x.f=none:=by
  cases e:M1 x.f with
  | none=>rfl
  | some z=>rw[hle2 _ _ e] at hr0;cases hr0
 have hr00:M x.f=none:=by
  cases e:M x.f with
  | none=>rfl
  | some z=>rw[hle1 _ _ e] at hr1;cases hr1
 have hEb:FXAt Mb x:=by
  refine⟨?_,?_⟩
  ·simp_all
  ·rw[hxa,hxc,hxp];unfold Wr;exact⟨rfl,Yd _,.inl ⟨rfl,rfl⟩⟩
 have hxown:∀ y,x.own y→y=x.f:=fun y hy=>by
  rcases hy with rfl|⟨q,hq,_⟩
  ·rfl
  ·simp_all
 have hE3:FXAt M3 x:=hEb.mono fun y o hy ho=>hkb _ _ (by grind) ho
 have h3:=hb.more hn hkb hm hE3 (fun q hq y hy hqy=>by
  rw[hxown y hy] at hqy
  exact((h.le hle12).ents q hq).full hqy hr0)
 have hl3:SrcOk M3 1 a n (l.map zc):=hb.map.src ((hl.le hle12).le hle23) hkb;have hfile:zq D s=⟨s,.empty,.empty⟩:=by unfold zq;rw[hfn];rfl
 have hx:ze (zt es s x) s=some x:=by rw[zbL,if_pos rfl]
 obtain⟨es3,he3⟩:=oI (zt es s x);rw[←he3] at h3 hx;have hx3l:x.p.length≤1048576:=by rw[hxp];simp
 have hxp2:x.p=bl (zq D s).safe++bl (zq D s).tail:=by rw[hfile];first|rw[hxp];rfl|rw[hxs0];rfl
 have hxs:x.safe=(zq D s).safe.size:=by rw[hfile];first|rw[hxp];rfl|rw[hxs0];rfl
 have hes3:∀ x',zt es3 s x'=zt es s x':=fun x'=>by rw[he3,zod]
 have hk13:Mem.keep (zav p b es) M M3:=fun y o hy ho=>hkb _ _ (fun e=>hy (.inr (.inl e))) (hle23 _ _ (hle12 _ _ ho))
 have hown3:∀ y,zav p b es3 y→zav p b es y∨M y=none:=fun y hy=>by
  rw[he3] at hy;rcases zmk hy h.map.nodup with h1|h1
  ·simp_all
  ·grind
 have hful3:∀ y,zav p b es y→M3 y≠none:=fun y hy=>by
  by_cases e:y=b
  ·rw[e];obtain⟨l1,cc,hh,_⟩:=h3.map;rw[hh];simp[zbf]
  ·obtain⟨z,hz⟩:=Yba.1 (hb.full hy);rw[hkb _ _ e hz];simp
 refine zR ?_
 all_goals
  have hx3:FXAt M3 x:=h3.ents _ (zG hx);refine zK hx3.self ?_;refine zb2 hl3 ?_;refine ziQ (M3.minus (blk x.a)) _ (Wr.newSl hx3.row) oM (by simp[maxLen];omega) (zaA l) fun a4 c4 M4 hN4 hk4=>?_
  have hxa4:∀ y,blk a4 y→blk x.a y∨M3 y=none:=fun y ⟨q,hq,e⟩=>by
   have:=(hN4.block hq).1;rw[e] at this;exact Mem.minus_none this
  have hself4:M4.has x.f 120 [.slice x.a x.p.length x.c,.int .i64 x.safe]:=hk4 _ _ (fun ⟨q,hq,e⟩=>by
   obtain⟨cs,hh⟩:=hx3.row.block hq;rw[e] at hh
   exact absurd (hh.inj hx3.self).1 (by decide)) hx3.self
  refine zR ?_;refine on hself4.cells ?_;refine ob oS ?_
  have hk5:Mem.keep (fun y=>y=x.f) M4 (M4.setCells x.f 120 [.slice a4 (x.p.length+n) c4,.int .i64 x.safe]):=fun y o hy ho=>by
   unfold Mem.setCells;rw[Yh _ _ hy];exact ho
  have hs5:(M4.setCells x.f 120 [.slice a4 (x.p.length+n) c4,.int .i64 x.safe]).has x.f 120 [.slice a4 (x.p.length+n) c4,.int .i64 x.safe]:=Yg;obtain⟨M5,hM5⟩:=oI (M4.setCells x.f 120 [.slice a4 (x.p.length+n) c4,.int .i64 x.safe]);rw[←hM5] at hk5 hs5;erw [←hM5];obtain⟨x',hx'⟩:∃ x':FX,x'=⟨x.f,a4,c4,x.p++l,x.safe⟩:=⟨_,rfl⟩
  have hlen':x'.p.length=x.p.length+n:=by rw[hx'];simp[hll]
  have hE5:FXAt M5 x':=by
   refine⟨?_,?_⟩
   ·simp_all
   ·rw[hlen',hx'];have hw:=hN4.wr
    rw[←Yv] at hw;refine hw.mono fun q o hq ho=>hk5 _ _ (fun e=>?_) ho
    obtain⟨cs,hh⟩:=(hN4.block hq).2;rw[e] at hh;exact absurd (hh.inj hself4).1 oD
  have hown5:∀ y,x'.own y→x.own y∨M3 y=none:=fun y hy=>by
   rw[hx'] at hy;rcases hy with rfl|hy
   ·exact .inl (.inl rfl)
   ·rcases hxa4 y hy with h1|h1
    ·exact .inl (.inr h1)
    ·simp_all
  have hk35:Mem.keep x.own M3 M5:=fun y o hy ho=>hk5 _ _ (fun e=>hy (.inl e)) (hk4 _ _ (fun e=>hy (.inr e)) ho)
  have h5:=h3.turn hx hk35 hE5 (by rw[hx']) hown5;obtain⟨es5,hes5⟩:=oI (zt es3 s x');rw[←hes5] at h5
  have hrel5:RelD es5 (za5 D.l ⟨s,(zq D s).safe,(zq D s).tail++⟨l.toArray⟩⟩):=by
   rw[hes5,hes3 x'];exact hr.put (x:=x') (f:=⟨s,(zq D s).safe,(zq D s).tail++⟨l.toArray⟩⟩) (by rw[hx'];simp[cont,FileR.all,zbv,zmj,hxp2,hxs])
  refine zM (zjm h5 hdn (za5 D.l ⟨s,(zq D s).safe,(zq D s).tail++⟨l.toArray⟩⟩) hI.left.2) ?_;rintro v M6 ⟨rfl,h6,hk6⟩
  have e:zap D s l=(zbb D (za5 D.l ⟨s,(zq D s).safe,(zq D s).tail++⟨l.toArray⟩⟩),0):=by
   unfold zap;rw[if_neg (by simp[g1]),if_neg hfull]
  refine zR ?_;rw[e];have hkk:Mem.keep (zav p b es) M M6:=fun y o hy ho=>hk6 _ _ (fun e=>hy (.inl e)) (hk35 _ _ (fun e=>?_) (hk13 _ _ hy ho))
  ·refine⟨rfl,es5,h6,hrel5,hkk,fun y hy=>?_⟩;rw[hes5] at hy;rcases zmk hy h3.map.nodup with h1|h1
   ·simp_all
   ·rcases hown5 y h1 with h2|h2
    ·exact hown3 y (.inr (.inr ⟨_,zG hx,h2⟩))
    ·right;cases e:M y with
     | none=>rfl
     | some z=>
      by_cases hb:zav p b es y
      ·grind
      ·rw[hk13 _ _ hb e] at h2;cases h2
  ·rcases hown3 y (.inr (.inr ⟨_,zG hx,e⟩)) with h1|h1
   ·exact hy h1
   ·rw[h1] at ho;cases ho
end
section
variable {M:Mem}
theorem zs0 (base size:Int):CallsM prog 176 [.int .i64 base,.int .i64 size] M fun v M'=>∃ B1 B2,v = .func (.func 264) #[] #[.pointer (some ⟨B1,0,none⟩),.pointer (some ⟨B2,0,none⟩)] ∧
  M'.has B1 3 [.int .i64 size]∧M'.has B2 3 [.int .i64 base]∧M.le M':=by
 refine zsO oS ?_;refine zR ?_;refine new (fun b1 hb1=>?_);replace hb1:M b1=none:=hb1;refine new (fun b2 hb2=>?_);replace hb2:(M.setCells b1 3 [.int .i64 size]) b2=none:=hb2;refine zR ?_;have hle1:M.le (M.setCells b1 3 [.int .i64 size]):=Yw hb1
 have hle2:(M.setCells b1 3 [.int .i64 size]).le ((M.setCells b1 3 [.int .i64 size]).setCells b2 3 [.int .i64 base]):=Yw hb2;exact⟨b1,b2,rfl,Mem.has.le hle2 Yg,Yg,Yc hle1 hle2⟩
def IU (b1:Nat) (out:List Int) (M:Mem):Prop:=∃ a c,M.has b1 53 [.slice a out.length c]∧Wr M 3 1 a out.length c (out.map (Value.int .i64))∧(out=[]→a=none∧c=0)
theorem zGx (x:Int):∀ u∈[Value.int .i64 x],u.oneCell'=true:=fun u hu=>by simp at hu;subst hu;rfl
set_option maxHeartbeats 1000000 in
theorem zv0 {p:Nat} {sz:Value} {base un:Int} {al:Value} (h:M.has p 287 [sz,.int .i64 base,al,.int .i64 un]) (hu : -9223372036854775808≤un∧un<9223372036854775808) :
  CallsM prog 111 [.pointer (some ⟨p,0,none⟩)] M fun v M'=>∃ a c,v = .slice a (zbY base (zaF un)).length c∧NewSl M 3 1 a (zbY base (zaF un)).length c ((zbY base (zaF un)).map (Value.int .i64)) M'∧(zbY base (zaF un)=[]→a=none∧c=0):=by
 refine zk3 oS ?_
 repeat' (first|refine⟨?_,True.intro⟩|refine⟨?_,?_,True.intro⟩|refine brn_t rfl ?_|refine brn_f rfl ?_|refine ob rfl ?_|refine obr rfl ?_|refine ob oD ?_|refine obr oD ?_|refine grow_same (Ya _) ?_|refine ob (Ya _) ?_|refine⟨_,Ya _,?_⟩|fail)
 refine zQ h ?_;refine(zs0 base un).mono ?_;rintro v M1 ⟨B1,B2,rfl,hB1,hB2,hle1⟩;refine⟨rfl,?_⟩;refine new (fun b1 hb1=>?_);replace hb1:M1 b1=none:=hb1;have hle2:M1.le (M1.setCells b1 53 [.slice none 0 0]):=Yw hb1
 have h1b1:=Yg (M:=M1) (b:=b1) (E:=53) (l:=[.slice none 0 0]);obtain⟨M3,hM3⟩:=oI (M1.setCells b1 53 [.slice none 0 0]);rw[←hM3] at hle2 h1b1;obtain⟨M0,hM0⟩:∃ M0:Mem,M0=M3.minus (fun y=>y≠b1):=⟨_,rfl⟩
 have h01:M0 b1=M3 b1:=by rw[hM0];unfold Mem.minus;rw[if_neg oS]
 erw [←hM3];refine rangeV (zsY (A:=M1) hB1 hB2 hu) (by kernel_rfl) rfl hle2 (fun _=>rfl) (IU b1) M0 (hM0▸Yab _ _) (fun b hb=>?_) ⟨none,0,?_,?_,fun _=>⟨rfl,rfl⟩⟩ ?_ ?_
 ·rw[hM0];refine Yaq (fun e=>?_);rw[e] at hb;exact hb hb1
 ·unfold Mem.has at h1b1 ⊢; rw[h01];exact h1b1
 ·unfold Wr;exact⟨rfl,Yd _,.inl ⟨rfl,rfl⟩⟩
 ·rintro pre x Mb Mx Mc ⟨a2,c2,ho1,ho2,ho3⟩ hlt ⟨hx1,hx2⟩ hfr hle4 hle5;have g1:Mc.has b1 53 [.slice a2 pre.length c2]:=Mem.has.le hle4 ho1
  have g3:=ho2.le hle4;have hN:zaF un≤128:=by unfold zaF;omega
  refine zR ?_;refine⟨rfl,?_⟩;refine zW g1 ?_;refine ziQ (Mc.minus (blk a2)) _ (Wr.newSl g3) oM (by simp[maxLen];omega) (zGx x) fun a4 c4 M4 hN4 hk4=>?_
  have hb1n:¬blk a2 b1:=fun ⟨q,hq,e⟩=>by
   obtain⟨cs,hh⟩:=g3.block hq;rw[e] at hh;exact absurd (hh.inj g1).1 oD
  have k1:M4.has b1 53 [.slice a2 pre.length c2]:=hk4 _ _ hb1n g1;have k3:=hN4.wr
  have hb4:∀ q,a4=some q→q.block≠b1:=fun q hq e=>by
   obtain⟨cs,hh⟩:=k3.block hq;rw[e] at hh;exact absurd (hh.inj k1).1 oD
  refine zR ?_;refine on k1.cells ?_;refine ob oS ?_
  have hk5:Mem.keep (fun y=>y=b1) M4 (M4.setCells b1 53 [.slice a4 (pre.length+1) c4]):=fun y o hy ho=>by
   unfold Mem.setCells;rw[Yh _ _ hy];exact ho
  have m1:(M4.setCells b1 53 [.slice a4 (pre.length+1) c4]).has b1 53 [.slice a4 (pre.length+1) c4]:=Yg;obtain⟨M5,hM5⟩:=oI (M4.setCells b1 53 [.slice a4 (pre.length+1) c4]);rw[←hM5] at hk5 m1;refine⟨rfl,M5,⟨a4,c4,?_,?_,fun h=>by simp at h⟩,hM5▸Ya _⟩
  ·rw[Yi];exact m1
  ·rw[Yi,Yv];refine k3.mono fun q o hq ho=>hk5 _ _ (hb4 q hq) ho
 ·rintro xs Mb Mc hD ⟨a2,c2,ho1,ho2,ho3⟩ hdj hle4 hle5;have g1:Mc.has b1 53 [.slice a2 xs.length c2]:=Mem.has.le hle4 ho1
  refine zW g1 ?_;subst hD;refine⟨a2,c2,rfl,?_,ho3⟩;refine newSl_iff.2 ⟨Yc hle1 hle5,?_⟩;unfold Wr at ho2;obtain⟨w1,w2,w3⟩:=ho2;refine⟨w1,w2,w3.imp id fun ⟨b,cs,ha,hh,hr⟩=>⟨b,cs,ha,?_,hh.le hle4,hr⟩⟩;cases e:M b with
  | none=>rfl
  | some o=>
   have:=hdj b (by rw[hle1 _ _ e];simp);unfold Mem.has at hh;rw[hh] at this;cases this
end
end Go.Proofs.YtlgbofpennelhaaGreat
namespace Go.Proofs.YtlgbofpennelhaaGreat
open Go Go.Vm
section
class Pay (α:Type) where
 len:α→Nat
 emp:α
instance:Pay (List UInt8):=⟨List.length,[]⟩
def inc (n:Int):Int:=IntKind.i64.wrap (n+1)
structure SndR (α:Type) where
 size:Int
 base:Int
 all:List α
 under:Nat
structure RcvR (α:Type) where
 size:Int
 waits:Int
 kept:List (Int×α)
 asked:List (Int×Int)
structure CtlR (α:Type) where
 kind:Int
 ns:Int
 nr:Int
 p:Bool
 me:Int
 peer:Int
 data:α
structure LnkR (α:Type) where
 me:Int
 peer:Int
 up:Bool
 size:Int
 timer:Int
 tries:Int
 left:Int
 tried:Int
 resets:Int
 busy:Bool
 held:Bool
 S:SndR α
 R:RcvR α
 out:List (CtlR α)
 inn:List α
section
variable {α:Type} [Pay α]
def zdO (X:SndR α) (l:α):Int:=if Pay.len l=0 then 2 else if 121<Pay.len l then 3 else if 64≤X.all.length then 6 else 0
def zfA (X:SndR α) (l:α):SndR α:=if zdO X l=0 then { X with all:=X.all++[l] } else X
def zcm (X:SndR α):SndR α:={ X with under:=X.under+1 }
def zfM (X:SndR α) (nr:Int):Int:=if nr<0∨128≤nr then 1 else if (X.under:Int)<zb9 X.base nr then 7 else 0
def zgp (X:SndR α) (nr:Int):Nat:=if zfM X nr=0 then (zb9 X.base nr).toNat else 0
def zdP (X:SndR α) (nr:Int):SndR α:=if zfM X nr=0 then { X with all:=X.all.drop (zgp X nr),under:=X.under - zgp X nr,base:=nr } else X
def zeO (X:SndR α) (ns:Int):Int:=if ns<0∨128≤ns then 1 else if zb9 X.base ns<(X.under:Int) then 0 else 4
def zcX (X:SndR α) (ns:Int):α:=if zeO X ns=0 then X.all.getD (zb9 X.base ns).toNat Pay.emp else Pay.emp
def zv1 (X:SndR α):SndR α:=⟨X.size,0,[],0⟩
def zeP (X:RcvR α) (ns:Int) (l:α):Int:=
 if ns<0∨128≤ns then 1 else if Pay.len l=0 then 2 else if 121<Pay.len l then 3 else if zb9 X.waits ns<X.size then (if (ze X.kept ns).isSome then 5 else 0) else 7
def zd1:Nat→RcvR α→List α→RcvR α×List α
 | 0,X,t=>(X,t)
 | n+1,X,t=>match ze X.kept X.waits with
  | none=>(X,t)
  | some l=>zd1 n { X with kept:=zaO X.kept X.waits,asked:=zaO X.asked X.waits,waits:=(X.waits+1) % 128 } (t++[l])
def zdc (X:RcvR α):List Int:=zht X.waits (X.kept.map (·.1))
def zdd (X:RcvR α):List Int:=match (zdc X).getLast? with|none=>[]|some to=>zkx X.waits to (zdc X)
def zgK:List Int→List (Int×Int)→List Int→List (Int×Int)×List Int
 | [],a,out=>(a,out)
 | n::r,a,out=>zgK r (zt a n (inc ((ze a n).getD 0))) (if (ze a n).getD 0=0 then out++[n] else out)
structure TakeO (α:Type) where
 X:RcvR α
 told:List α
 asks:List Int
 e:Int
def zaG (X:RcvR α) (ns:Int) (l:α):TakeO α:=
 if zeP X ns l≠0 then ⟨X,[],[],zeP X ns l⟩ else
  let a:=zd1 (X.kept.length+1) { X with kept:=zt X.kept ns l } []
  let b:=zgK (zdd a.1) a.1.asked []
  ⟨{ a.1 with asked:=b.1 },a.2,b.2,0⟩
def zBX (X:RcvR α):RcvR α:=⟨X.size,0,[],[]⟩
def LnkR.add (X:LnkR α) (c:CtlR α):LnkR α:={ X with out:=X.out++[{ c with me:=X.me }] }
def zfN (X:LnkR α) (poll:Bool):LnkR α:={ X.add ⟨5,0,0,poll,0,0,Pay.emp⟩ with left:=X.timer }
def zb3 (X:LnkR α):LnkR α:={ X with S:=zv1 X.S,R:=zBX X.R,resets:=inc X.resets,left:=0,tried:=0,busy:=false }
def zjn (X:LnkR α):LnkR α:=zfN (zb3 { X with me:=(X.me+1) % 65536,up:=false,peer := -1 }) false
def zcu (X:LnkR α) (ns:Int) (l:α) (poll:Bool):LnkR α:=X.add ⟨1,ns,X.R.waits,poll,0,X.peer,l⟩
def zcv:Nat→LnkR α→LnkR α
 | 0,X=>X
 | n+1,X=>if X.up=false∨X.busy=true then X else if X.S.under=X.S.all.length∨(X.S.under:Int)=X.S.size then X else
   zcv n (let Y:=zcu { X with S:=zcm X.S } ((X.S.base+X.S.under) % 128) (X.S.all.getD X.S.under Pay.emp) false
    if X.left=0 then { Y with left:=X.timer } else Y)
def zcQ (X:LnkR α):LnkR α:=zcv 65 X
def zdX (X:LnkR α):LnkR α:=X.add ⟨if X.held then 3 else 2,0,X.R.waits,false,0,X.peer,Pay.emp⟩
def zcz (X:LnkR α) (nr:Int):LnkR α:=
 if zfM X.S nr=0∧zgp X.S nr≠0 then { X with S:=zdP X.S nr,tried:=0,left:=if 0<(zdP X.S nr).under then X.timer else 0 } else { X with S:=zdP X.S nr }
def zeQ (X:LnkR α) (l:α):Int:=if X.up then zdO X.S l else 7
def zds (X:LnkR α) (l:α):LnkR α:=if zeQ X l=0 then zcQ { X with S:=zfA X.S l } else X
def zcR (X:LnkR α):LnkR α:=
 if X.left=0 then X else
  let Y:={ X with left:=X.left - 1 }
  if 0<Y.left then Y else
  if Y.up=false then zfN Y true else
  if 0<Y.S.under then
   (if Y.tried=Y.tries then zjn Y else { zcu { Y with tried:=Y.tried+1 } Y.S.base (zcX Y.S Y.S.base) true with left:=Y.timer }) else
  if Y.busy=true∧0<Y.S.all.length then { Y.add ⟨2,0,Y.R.waits,true,0,Y.peer,Pay.emp⟩ with left:=Y.timer } else Y
def zd2 (X:LnkR α) (c:CtlR α):LnkR α:=
 let Y:=if c.me=X.peer then X else
  let Z:=zb3 { X with peer:=c.me }
  if X.up then Z else { Z with left:=X.left }
 Y.add ⟨6,0,0,c.p,0,Y.peer,Pay.emp⟩
def zdK (X:LnkR α):LnkR α:={ X with up:=true,left:=0,tried:=0 }
def uaL (X:LnkR α) (c:CtlR α):LnkR α:=
 if c.peer≠X.me∨X.up=true then X else zdK (if c.me=X.peer then X else zb3 { X with peer:=c.me })
def dmL (X:LnkR α) (c:CtlR α):LnkR α:=if X.up=true∧c.peer=X.me∧c.me≠X.peer then zjn X else X
def zfO (X:LnkR α) (c:CtlR α):LnkR α:=
 let Y:=zcQ (zcz { X with busy:=decide (c.kind=3) } c.nr)
 let Z:=if Y.busy=true∧0<Y.S.all.length∧Y.left=0 then { Y with left:=Y.timer } else Y
 if c.p then zdX Z else Z
def zgB (X:LnkR α) (c:CtlR α):LnkR α:=if zeO X.S c.nr=0 then zcu X c.nr (zcX X.S c.nr) false else X
def zdQ:List Int→LnkR α→LnkR α
 | [],X=>X
 | n::r,X=>zdQ r (X.add ⟨4,0,n,false,0,X.peer,Pay.emp⟩)
def zeR (X:LnkR α) (c:CtlR α):LnkR α:=
 let Y:=zcQ (zcz X c.nr)
 let Z:=if c.p then { Y with R:={ Y.R with asked:=[] } } else Y
 let t:=zaG Z.R c.ns c.data
 zdX (if Z.held then Z else zdQ t.asks { Z with R:=t.X,inn:=Z.inn++t.told })
def zgb (X:LnkR α) (c:CtlR α):LnkR α:=
 let Y:=if X.up then X else zdK X
 if c.kind=1 then zeR Y c else if c.kind=4 then zgB Y c else zfO Y c
def zcj (c:CtlR α):Int:=
 let n:=Pay.len c.data
 if c.kind<1∨7<c.kind then 1 else
 if ¬(0≤c.ns∧c.ns≤127)∨¬(0≤c.nr∧c.nr≤127)∨¬(0≤c.me∧c.me≤65535)∨¬(0≤c.peer∧c.peer≤65535) then 1 else
 if (c.kind≠1∧c.ns≠0)∨(4<c.kind∧c.nr≠0)∨(c.kind=5∧c.peer≠0)∨¬(c.kind=1↔0<n) then 2 else
 if 121<n then 3 else 0
def zde (X:LnkR α) (c:CtlR α):LnkR α:=
 if c.kind=5 then zd2 X c else if c.kind=6 then uaL X c else if c.kind=7 then dmL X c else
 if c.me=X.peer∧c.peer=X.me then zgb X c else
 if X.up then X else X.add ⟨7,0,0,false,0,c.me,Pay.emp⟩
def zv2 (me size timer tries:Int):LnkR α:=
 zfN ⟨me, -1,false,size,timer,tries,0,0,0,false,false,⟨size,0,[],0⟩,⟨size,0,[],[]⟩,[],[]⟩ false
end
end
section
inductive KRel (B:Mem):List (Int×Value)→List (Int×List UInt8)→Prop
 | nil:KRel B [] []
 | cons {k:Int} {q:Option Addr} {c:Nat} {l:List UInt8} {mv:List (Int×Value)} {m:List (Int×List UInt8)}:l.length≤c→Row B q l→KRel B mv m→KRel B ((k,.slice q l.length c)::mv) ((k,l)::m)
section
variable {B B':Mem} {mv:List (Int×Value)} {m:List (Int×List UInt8)}
theorem KRel.le (h:KRel B mv m) (hle:B.le B'):KRel B' mv m:=by
 induction h with
 | nil=>exact .nil
 | cons h1 h2 _ ih=>exact .cons h1 (h2.le hle) ih
theorem KRel.keys (h:KRel B mv m):mv.map (·.1)=m.map (·.1):=by
 induction h with
 | nil=>rfl
 | cons _ _ _ ih=>simp[ih]
theorem KRel.get (h:KRel B mv m) (k:Int):(ze mv k=none∧ze m k=none)∨∃ q c l,ze mv k=some (.slice q l.length c)∧ze m k=some l∧l.length≤c∧Row B q l:=by
 induction h with
 | nil=>exact .inl ⟨rfl,rfl⟩
 | @cons k' q c l mv m h1 h2 _ ih=>
  by_cases e:k'=k
  ·exact .inr ⟨q,c,l,by simp[ze,e],by simp[ze,e],h1,h2⟩
  ·simpa[ze,e] using ih
theorem KRel.snoc (h:KRel B mv m) {k:Int} {q:Option Addr} {c:Nat} {l:List UInt8} (h1:l.length≤c) (h2:Row B q l):KRel B (mv++[(k,.slice q l.length c)]) (m++[(k,l)]):=by
 induction h with
 | nil=>exact .cons h1 h2 .nil
 | cons h3 h4 _ ih=>exact .cons h3 h4 ih
theorem KRel.del (h:KRel B mv m) (k:Int):KRel B (zaO mv k) (zaO m k):=by
 induction h with
 | nil=>exact .nil
 | @cons k' q c l mv m h1 h2 _ ih=>
  by_cases e:k'=k
  ·simpa[zaO,e] using ih
  ·have:=KRel.cons (k:=k') h1 h2 ih;simpa[zaO,e] using this
theorem zjT {α:Type} {m:List (Int×α)} {k:Int} (h:ze m k=none) (x:α):zt m k x=m++[(k,x)]:=by unfold zt;rw[h]
theorem zDO {α:Type} {m:List (Int×α)} {k:Int} {x:α} (h:ze m k=some x):(zaO m k).length<m.length:=by
 have:=zG h;unfold zaO
 induction m with
 | nil=>cases this
 | cons a r ih=>
  obtain⟨b,y⟩:=a;by_cases e:b=k
  ·grind
  ·have h':ze r k=some x:=by simpa[ze,e] using h
   have:=ih h' (zG h');simp[Yb8,e] at this ⊢; omega
end
theorem zxN {l r:List Int} (h:l.Perm r):zfk l=zfk r:=by
 funext n;unfold zfk;rw[Bool.eq_iff_iff,Yb7,Yb7];exact⟨fun ⟨x,hx,e⟩=>⟨x,h.mem_iff.1 hx,e⟩,fun ⟨x,hx,e⟩=>⟨x,h.mem_iff.2 hx,e⟩⟩
theorem zz1 {b:Int} {l r:List Int} (h:l.Perm r):zht b l=zht b r:=by unfold zht;rw[zxN h]
theorem zmm (b:Int) (n:Nat):(zbY b n).length=n:=by simp[zbY]
theorem zBY (b:Int) (l:List Int):(zht b l).length≤128:=Yz (Yat _ _) (by rw[zmm];exact Yd _)
theorem ztT (b t:Int) (l:List Int):(zkx b t l).length≤128:=Yz (Yat _ _) (by rw[zmm];unfold zb9;omega)
theorem zmn:∀ (n:Nat) (l:List Nat),l.Nodup→(∀ x∈l,x<n)→l.length≤n
 | 0,[],_,_=>Yd _
 | 0,a::r,_,h=>absurd (h a oS) oM
 | n+1,l,h,hx=>by
  have h1:=zmn n (l.erase n) (h.erase n) fun x hm=>by grind
  have:=List.length_erase (a:=n) (l:=l);split at this<;>omega
theorem zIn {l:List Int} (hn:l.Nodup) (h:∀ x∈l,0≤x∧x<128):l.length≤128:=by
 have h1:(l.map Int.toNat).Nodup:=by
  rw[List.Nodup,Ybd];refine(Yd5.1 hn).imp fun {a b} hab e=>hab.2.2 ?_
  have:=h a hab.1;have:=h b hab.2.1;omega
 have:=zmn 128 _ h1 fun x hx=>by grind
 simpa using this
end
end Go.Proofs.YtlgbofpennelhaaGreat
namespace Go.Proofs.YtlgbofpennelhaaGreat
open Go Go.Vm
attribute [local irreducible] Brn Ob Grow CallsM inR zI zF Mem.row Mem.cells Mem.setCells Mem.upd Go.Vm.Own zZ zaj zam zO New SrcOk subA NewSl Mem.textAt Mem.mapAt Mem.iterAt zC zB Wr NewEls Elems
set_option maxRecDepth 10000
variable {M B:Mem}
structure zL1 where
 kind:Nat
 node:Nat
 to:Nat
 n:Nat
 data:List UInt8
end Go.Proofs.YtlgbofpennelhaaGreat
namespace Go.Proofs.YtlgbofpennelhaaGreat
def zKJ (p q:Nat×Nat):Prop:=p.1<q.1∨(p.1=q.1∧p.2<q.2)
structure zLi (n:Nat) (L:List (Nat×Nat)):Prop where
 num:1≤n∧n≤64
 mem:∀ p∈L,p.1<p.2∧p.2<n
 lt:L.Pairwise zKJ
section
variable {n:Nat} {L:List (Nat×Nat)}
def zKK (L:List (Nat×Nat)):List (Nat×Nat):=L.flatMap fun p=>[(p.1,p.2),(p.2,p.1)]
instance (L:List (Nat×Nat)) (w:Nat×Nat):Decidable (w∈zKK L):=inferInstance
end
end Go.Proofs.YtlgbofpennelhaaGreat
namespace Go.Proofs.YtlgbofpennelhaaGreat
open Go Go.Vm Go.Proofs.Tryz
attribute [local irreducible] Brn Ob Grow CallsM inR zI zF Mem.row Mem.cells Mem.setCells Mem.upd Go.Vm.Own zZ zaj zam zO New SrcOk subA NewSl Mem.textAt Mem.mapAt Mem.iterAt zC zB Wr NewEls Elems
set_option maxRecDepth 10000
section
variable {M M':Mem}
structure StI where
 qh:Int
 qb:Int
 qg:Int
 disk:Int
 seg:Int
 win:Int
 timer:Int
 tries:Int
 wait:Int
 delay:Int
theorem zh6 (M:Mem) (b:Nat) (E:TypeId) (l:List Value):Mem.keep (fun y=>y=b) M (M.setCells b E l):=by
 unfold Mem.setCells;exact Yad (S:=fun y=>y=b) M (b:=b) _ rfl
end
section
variable {B M M':Mem}
theorem zoe (a b:Int) (M:Mem):CallsM prog 179 [.int .i64 a,.int .i64 b] M fun v M'=>v = .int .i64 (zb9 a b)∧M=M':=by
 refine zuK oS ?_;refine zN (zeo b M) ?_;refine zN (zeo a M) ?_;refine zV ?_;refine zN (zeo _ M) ?_;exact⟨by unfold zb9;congr 1;omega,rfl⟩
theorem zBZ (a n b:Int) (M:Mem):CallsM prog 178 [.int .i64 a,.int .i64 n,.int .i64 b] M fun v M'=>v = .bool (decide (zb9 a b<n))∧M=M':=by
 refine zvF oS ?_;refine zN (zoe a b M) ?_;exact⟨rfl,rfl⟩
theorem zDP (a:Int) (M:Mem):CallsM prog 412 [.int .i64 a] M fun v M'=>v = .int .i64 ((a+1) % 128)∧M=M':=by
 refine zsV oS ?_;refine zN (zeo a M) ?_;refine zV ?_;refine zN (zeo _ M) ?_;exact⟨by simp,rfl⟩
abbrev zla:=SndR (List UInt8)
theorem zep (l:List UInt8):Pay.len l=l.length:=rfl
@[reducible] def zmo (X:zla) (qa:Option Addr) (ca:Nat):List Value:=[.int .i64 X.size,.int .i64 X.base,.slice qa X.all.length ca,.int .i64 (X.under:Nat)]
structure zDQ (X:zla):Prop where
 size:1≤X.size∧X.size≤63
 base:0≤X.base∧X.base<128
 under:X.under≤X.all.length∧(X.under:Int)≤X.size
 few:X.all.length≤64
 each:∀ l∈X.all,0<l.length∧l.length≤121
structure SndAt (B M:Mem) (s:Nat) (qa:Option Addr) (ca:Nat) (X:zla):Prop where
 le:B.le M
 self:M.has s 287 (zmo X qa ca)
 row:∃ vs,SrcOk M 1 qa X.all.length vs∧Brows B vs X.all
 cap:X.all.length≤ca
 blk:∀ r,qa=some r→∃ cs,M.has r.block 37 cs
 bs:B s=none
 bq:∀ r,qa=some r→B r.block=none
 inv:zDQ X
def zc6 (s:Nat) (qa:Option Addr):Nat→Prop:=fun y=>y=s∨blk qa y
section
variable {s ca:Nat} {qa:Option Addr} {X:zla}
theorem SndAt.ne (h:SndAt B M s qa ca X) {r:Addr} (hr:qa=some r):r.block≠s:=fun e=>by
 obtain⟨cs,hc⟩:=h.blk r hr;rw[e] at hc;have:=(hc.inj h.self).1;revert this;decide
theorem SndAt.apart (h:SndAt B M s qa ca X):(∀ y,zc6 s qa y→M y≠none)∧∀ y,zc6 s qa y→B y=none:=by
 refine⟨fun y hy=>?_,fun y hy=>?_⟩
 ·rcases hy with rfl|⟨r,hr,rfl⟩
  ·have:=h.self;unfold Mem.has at this;rw[this];simp
  ·obtain⟨cs,hc⟩:=h.blk r hr;unfold Mem.has at hc;rw[hc];simp
 ·rcases hy with rfl|⟨r,hr,rfl⟩
  ·exact h.bs
  ·exact h.bq r hr
theorem SndAt.stay (h:SndAt B M s qa ca X) {B':Mem} (hB:B.le B') (hle:B'.le M') (hs:∀ y,zc6 s qa y→M' y=M y∧B' y=none):SndAt B' M' s qa ca X:=by
 have has:∀ {y:Nat} {E:TypeId} {l:List Value},zc6 s qa y→M.has y E l→M'.has y E l:=fun {y E l} hy hh=>by unfold Mem.has at hh ⊢; rw[(hs y hy).1];exact hh
 obtain⟨vs,h1,h2⟩:=h.row;refine⟨hle,has (.inl rfl) h.self,⟨vs,zgX h1 fun r hr=>(hs _ (.inr ⟨r,hr,rfl⟩)).1,h2.le hB⟩,h.cap,fun r hr=>?_,(hs s (.inl rfl)).2,fun r hr=>(hs _ (.inr ⟨r,hr,rfl⟩)).2,h.inv⟩;obtain⟨cs,hc⟩:=h.blk r hr;exact⟨cs,has (.inr ⟨r,hr,rfl⟩) hc⟩
theorem SndAt.put (h:SndAt B M s qa ca X) {X':zla} (e:X'.all=X.all) (hI:zDQ X'):SndAt B (M.setCells s 287 (zmo X' qa ca)) s qa ca X':=by
 have hk:=zh6 M s 287 (zmo X' qa ca);obtain⟨vs,h1,h2⟩:=h.row;refine⟨fun y o ho=>hk y o (fun e=>by rw[e,h.bs] at ho;cases ho) (h.le _ _ ho),Yg,⟨vs,e▸zgX h1 fun r hr=>?_,e▸h2⟩,e▸h.cap,fun r hr=>?_,h.bs,h.bq,hI⟩
 ·unfold Mem.setCells;rw[Yh _ _ (h.ne hr)]
 ·obtain⟨cs,hc⟩:=h.blk r hr;exact⟨cs,hk _ _ (h.ne hr) hc⟩
theorem SndAt.beside (h:SndAt B M s qa ca X) {a:Option Addr} {c:Nat} {l:List UInt8} (hN:NewSl M 5 1 a l.length c (l.map zc) M'):∃ B',Row B' a l∧SndAt B' M' s qa ca X∧Tn B M (zc6 s qa) B' M' (zc6 s qa):=by
 obtain⟨B',h1,h2,h3,h4⟩:=zyz hN h.le;refine⟨B',h3,h.stay h1 h2 fun y hy=>?_,Tn.le h1 hN.le h4⟩;refine⟨?_,zIh h4 (h.apart.1 y hy) (h.apart.2 y hy)⟩;cases ho:M y with
 | none=>exact absurd ho (h.apart.1 y hy)
 | some o=>exact hN.le _ _ ho
theorem ztU (h:SndAt B M s qa ca X):CallsM prog 115 [ptr s] M fun v M'=>v = .int .i64 (X.all.length:Nat)∧M=M':=by
 refine zl4 oS ?_;refine brn_f rfl ?_;refine zK h.self ?_;exact⟨rfl,rfl⟩
theorem zz2 (h:SndAt B M s qa ca X) {q:Option Addr} {c:Nat} {l:List UInt8} (hl:SrcOk M 1 q l.length (l.map zc)) (hn:l.length≤1048576) :
  CallsM prog 182 [ptr s,.slice q l.length c] M fun v M'=>v = .int .i64 (zdO X l)∧∃ B' qa' ca',SndAt B' M' s qa' ca' (zfA X l)∧Tn B M (zc6 s qa) B' M' (zc6 s qa'):=by
 have hI:=h.inv
 have same:zdO X l≠0→∃ B' qa' ca',SndAt B' M s qa' ca' (zfA X l)∧Tn B M (zc6 s qa) B' M (zc6 s qa'):=fun he=>by
  unfold zfA;rw[if_neg he];exact⟨B,qa,ca,h,Tn.refl _ _ _⟩
 refine zlz oS ?_;refine brn_f rfl ?_;refine brn (fun g1=>?_) (fun g1=>?_)
 ·have g:l.length=0:=by have:=Zd0 g1;omega
  have e:zdO X l=2:=by unfold zdO;rw[zep];rw[if_pos g]
  refine zR ?_;exact⟨by rw[e],same (by omega)⟩
 have g1':¬l.length=0:=by have:=Zd1 g1;omega
 refine brn (fun g2=>?_) (fun g2=>?_)
 ·have g:121<l.length:=by have:=Zd0 g2;omega
  have e:zdO X l=3:=by unfold zdO;rw[zep];rw[if_neg g1',if_pos g]
  refine zR ?_;exact⟨by rw[e],same (by omega)⟩
 have g2':¬121<l.length:=by have:=Zd1 g2;omega
 refine on (h.self.c1 rfl) ?_;refine brn (fun g3=>?_) (fun g3=>?_)
 ·have g:64≤X.all.length:=by have:=Zd0 g3;omega
  have e:zdO X l=6:=by unfold zdO;rw[zep];rw[if_neg g1',if_neg g2',if_pos g]
  refine zR ?_;exact⟨by rw[e],same (by omega)⟩
 have g3':¬64≤X.all.length:=by have:=Zd1 g3;omega
 have e:zdO X l=0:=by unfold zdO;rw[zep];rw[if_neg g1',if_neg g2',if_neg g3']
 refine zQ h.self ?_;obtain⟨vs,hvs,hR⟩:=h.row;have hcap:=h.cap
 have hfew:=hI.few;have hsub:=hvs.sub (lo:=0) (hi:=X.all.length) (c:=X.all.length) oM oM oM oM
 rw[Nat.zero_mul,Ycn,Ybi,Ycr,Yf (by have:=hvs.len;omega)] at hsub;refine ob (by omega) ?_;refine zR ?_;refine new fun e0 he0=>?_
 replace he0:M e0=none:=he0;have hN0:NewSl M 5 1 (some ⟨e0,0,none⟩) 0 0 (([]:List UInt8).map zc) (M.setCells e0 5 []):=Ybc he0 5 1 0 [] rfl
 obtain⟨M1,hM1⟩:=oI (M.setCells e0 5 []);rw[←hM1] at hN0;erw [←hM1];refine zR ?_;refine zb2 (hl.le hN0.le) ?_;refine ziQ M _ hN0 oM (by simp[maxLen];omega) (zaA l) fun a2 c2 M2 hN2 hk2=>?_
 rw[Ybz,Yaa,Yap] at hN2;refine zT (hN2.le) ?_;refine zR ?_;refine zKI vs (hsub.le hN2.le) oM oM oM (by simp[maxLen];omega) oC fun a3 c3 M3 hN3=>?_
 have hl23:=Yc hN2.le hN3.le;have hs3:=h.self.le hl23
 refine zR ?_;refine on hs3.cells ?_;refine ob oS ?_;obtain⟨M4,hM4⟩:=oI (M3.setCells s 287 [.int .i64 X.size,.int .i64 X.base,.slice a3 (X.all.length+1) c3,.int .i64 (X.under:Nat)]);have hk4:Mem.keep (fun y=>y=s) M3 M4:=hM4▸zh6 _ _ _ _
 have hs4:M4.has s 287 [.int .i64 X.size,.int .i64 X.base,.slice a3 (X.all.length+1) c3,.int .i64 (X.under:Nat)]:=hM4▸Yg;erw [←hM4];refine zR ?_;obtain⟨B',hB1,hB2,hB3,hB4⟩:=zyz hN2 h.le;have hsM:M s≠none:=h.apart.1 s (.inl rfl)
 have off:∀ y,M y≠none→B y=none→B' y=none:=fun y h1 h2=>by grind
 have hB's:=off s hsM h.bs;have hb3:∀ r,a3=some r→M2 r.block=none∧∃ cs,M3.has r.block 37 cs:=fun r hr=>hN3.block hr
 have hne:∀ r,a3=some r→r.block≠s:=fun r hr e=>by
  have:=(hb3 r hr).1;rw[e] at this;cases ho:M s with
  | none=>simp_all
  | some o=>rw[hN2.le _ _ ho] at this;cases this
 have he':zfA X l={ X with all:=X.all++[l] }:=by unfold zfA;rw[if_pos e]
 refine⟨by rw[e],B',a3,c3,⟨fun y o ho=>hk4 y o (fun h=>by simp_all) (hN3.le _ _ (hB2 _ _ ho)),?_,⟨vs++[.slice a2 l.length c2],?_,?_⟩,?_,fun r hr=>?_,hB's,fun r hr=>?_,?_⟩,hB1,fun y o hy ho=>hk4 y o (fun h=>hy (.inl h)) (hl23 _ _ ho),fun y hy=>(hB4 y hy).imp id .inl,fun y hy=>?_⟩
 ·grind
 ·rw[he'];have h5:=hN3.src
  simp only[Yc4,Int.toNat_zero,Ycr,Yap,Yi,Ym,Yar] at h5 ⊢;refine zgX h5 fun r hr=>?_
  rw[hM4];unfold Mem.setCells;rw[Yh _ _ (hne r hr)]
 ·rw[he'];exact(hR.le hB1).snoc (newSl_iff.1 hN2).2.2.1 hB3
 ·rw[he'];have:=(newSl_iff.1 hN3).2.2.1
  simpa using this
 ·obtain⟨_,cs,hc⟩:=hb3 r hr;exact⟨cs,hk4 _ _ (hne r hr) hc⟩
 ·cases ho:B' r.block with
  | none=>rfl
  | some o=>
   have:=(hb3 r hr).1;rw[hB2 _ _ ho] at this;cases this
 ·rw[he'];refine⟨hI.size,hI.base,⟨by simp;have:=hI.under.1;omega,hI.under.2⟩,by grind,fun l' hl'=>?_⟩;simp only[Yy,Y0] at hl';rcases hl' with hl'|rfl
  ·exact hI.each l' hl'
  ·omega
 ·rcases hy with rfl|⟨r,hr,rfl⟩
  ·exact .inl (.inl rfl)
  ·refine .inr ?_;cases ho:M r.block with
   | none=>rfl
   | some o=>
    have:=(hb3 r hr).1;rw[hN2.le _ _ ho] at this;cases this
theorem zz3 (h:SndAt B M s qa ca X) (hx:X.under=X.all.length∨(X.under:Int)=X.size):CallsM prog 270 [ptr s] M fun v M'=>v = .tuple #[.int .i64 0,.slice none 0 0,.bool false]∧M=M':=by
 refine zha oS ?_;refine zW h.self ?_;refine on (h.self.c1 rfl) ?_;refine brn (fun g=>?_) (fun g=>?_)
 ·refine zR ?_;exact⟨rfl,rfl⟩
 ·have g':¬X.under=X.all.length:=by have:=Zd1 g;omega
  have hx':=hx.resolve_left g';refine zW h.self ?_;refine on (h.self.c1 rfl) ?_;refine brn_t (decide_eq_true hx') ?_;refine zR ?_;exact⟨rfl,rfl⟩
theorem zz4 (h:SndAt B M s qa ca X) (h1:X.under≠X.all.length) (h2:(X.under:Int)≠X.size) {l:List UInt8} (hl:X.all[X.under]? = some l):CallsM prog 270 [ptr s] M fun v M'=>∃ q c B',v = .tuple #[.int .i64 ((X.base+X.under) % 128),.slice q l.length c,.bool true]∧l.length≤c∧Row B' q l∧SndAt B' M' s qa ca (zcm X)∧Tn B M (zc6 s qa) B' M' (zc6 s qa):=by
 have hI:=h.inv;obtain⟨vs,hvs,hR⟩:=h.row;have hlt:=(Yu.1 hl).1
 obtain⟨v,hv⟩:∃ v,vs[X.under]? = some v:=⟨_,Yb (by have:=hR.1;omega)⟩
 obtain⟨q,c,rfl,hcap,hrow⟩:=hR.2 _ _ _ hv hl;obtain⟨b,o,e1,hcell⟩:=hvs.get hv;have h121:=hI.each l (Yao hl)
 have hsz:=hI.size;have hbs:=hI.base
 have hun:=hI.under;refine zha oS ?_;refine zW h.self ?_;refine on (h.self.c1 rfl) ?_;refine brn_f (decide_eq_false oM) ?_;refine zW h.self ?_;refine on (h.self.c1 rfl) ?_;refine brn_f (decide_eq_false h2) ?_;refine zR ?_;refine on (h.self.c1 rfl) ?_;refine zR ?_;refine on (h.self.c1 rfl) ?_;refine zR ?_;refine ob oM ?_;refine atp e1 ?_;refine on hcell ?_;refine zW h.self ?_;refine obr (inR_i64 (by omega)) ?_;refine on h.self.cells ?_;refine ob oS ?_;have hX:zDQ (zcm X):=⟨hsz,hbs,by simp[zcm];omega,hI.few,hI.each⟩
 have h0:SndAt B _ s qa ca (zcm X):=h.put rfl hX;have ht:Tn B M (zc6 s qa) B _ (zc6 s qa):=Tn.set (E:=287) (l:=zmo (zcm X) qa ca) (.inl rfl)
 obtain⟨M1,hM1⟩:=oI (M.setCells s 287 (zmo (zcm X) qa ca));rw[←hM1] at h0 ht;have hs1:=h0.self
 have hl1:SrcOk M1 1 q l.length (l.map zc):=hrow.le h0.le;erw [←hM1];refine zQ hs1 ?_;refine obr (inR_i64 (by have:=hI.few;simp[zcm];omega)) ?_;refine zR ?_;refine obr (inR_i64 (by have:=hI.few;simp[zcm];omega)) ?_
 have hend:∀ a2 c2 M2,NewSl M1 5 1 a2 l.length c2 (l.map zc) M2→∃ q c B',(Value.tuple #[.int .i64 (((zcm X).base+((zcm X).under:Nat) - 1) % 128),.slice a2 l.length c2,.bool true]:Value) = .tuple #[.int .i64 ((X.base+X.under) % 128),.slice q l.length c,.bool true]∧l.length≤c∧Row B' q l∧SndAt B' M2 s qa ca (zcm X)∧Tn B M (zc6 s qa) B' M2 (zc6 s qa):=fun a2 c2 M2 hN=>by
  obtain⟨B',h3,h4,h5⟩:=h0.beside hN;exact⟨a2,c2,B',by rw[show (zcm X).base+((zcm X).under:Nat) - 1=X.base+X.under by simp[zcm];omega],(newSl_iff.1 hN).2.2.1,h3,h4,ht.trans h5⟩
 refine⟨?_,?_,True.intro⟩
 ·refine zN (zeo _ M1) ?_;refine new fun e0 he0=>?_
  replace he0:M1 e0=none:=he0;have hN0:NewSl M1 5 1 (some ⟨e0,0,none⟩) 0 0 (([]:List UInt8).map zc) (M1.setCells e0 5 []):=Ybc he0 5 1 0 [] rfl
  obtain⟨M1',hM1'⟩:∃ M1',M1'=M1.setCells e0 5 []:=⟨_,rfl⟩
  rw[←hM1'] at hN0;erw [←hM1'];refine zR ?_;refine zb2 (hl1.le hN0.le) ?_;refine ziQ M1 _ hN0 oM (by simp[maxLen];omega) (zaA l) fun a2 c2 M2 hN2 hk2=>?_
  rw[Ybz,Yaa,Yap] at hN2;refine zT (hN2.le) ?_;refine zR ?_;rw[Yap];exact hend a2 c2 M2 hN2
 ·refine zR ?_;refine new fun e0 he0=>?_
  replace he0:M1 e0=none:=he0;have hN0:NewSl M1 5 1 (some ⟨e0,0,none⟩) 0 0 (([]:List UInt8).map zc) (M1.setCells e0 5 []):=Ybc he0 5 1 0 [] rfl
  obtain⟨M1',hM1'⟩:∃ M1',M1'=M1.setCells e0 5 []:=⟨_,rfl⟩
  rw[←hM1'] at hN0;erw [←hM1'];refine zJ (zeo _ M1') ?_;refine zT (hN0.le) ?_;refine zR ?_;refine zb2 (hl1.le hN0.le) ?_;refine ziQ M1 _ hN0 oM (by simp[maxLen];omega) (zaA l) fun a2 c2 M2 hN2 hk2=>?_
  rw[Ybz,Yaa,Yap] at hN2;refine zT (hN2.le) ?_;refine zR ?_;rw[Yap];exact hend a2 c2 M2 hN2
theorem zGy {z:Value} {E:TypeId} {fr:List (Nat×SV)} {bx:List BE} {c n len:Nat} {vs:List Value} {K:St→Prop} (hs:SrcOk M 1 qa len vs) (hn:n≤len) (hc:len≤c) (hb:∀ r,qa=some r→∃ cs,M.has r.block E cs)
  (hk:∀ M1,SrcOk M1 1 (subA qa n c 1) (len - n) (vs.drop n)→Mem.keep (blk qa) M M1→(∀ r,qa=some r→∃ cs,M1.has r.block E cs)→K ⟨fr,bx,M1⟩):zDy z (subA qa 0 c 1) n ⟨fr,bx,M⟩ K:=by
 have hlen:=hs.len;have hd:=hs.sub (lo:=n) (hi:=len) (c:=c) hn oM hc oM
 rw[Ybi,Ybi,Yf (by simp_all)] at hd;cases n with
 | zero=>exact hk M hd (Yas _ _) hb
 | succ m=>
  unfold SrcOk at hs hd;have h0:=hs.2
  obtain⟨b,o,e,hrow⟩:=h0.resolve_left (fun e=>by grind);subst e;obtain⟨cs,hcs⟩:=hb _ rfl;rw[Ybi] at hrow
  have hlim:o+len≤cs.length∧(cs.drop o).take len=vs:=by
   have hcs':=hcs;unfold Mem.row at hrow;unfold Mem.has at hcs';simp only[hcs'] at hrow;split at hrow
   ·simp_all
   ·grind
  obtain⟨hlim,hcut⟩:=hlim;have hlc:(zd cs o (List.replicate (m+1) z)).length=cs.length:=ziO _ _ _ (by grind)
  rw[show subA (some ⟨b,o,none⟩) 0 c 1=some ⟨b,o,none⟩ by unfold subA;rw[if_neg oM];simp[zb7]];show onO (M.cells b) _
  refine on hcs.cells ?_;refine ob (by grind) ?_
  have hrest:List.drop (m+1) vs=[]∨∃ b' o',subA (some (⟨b,o,none⟩:Addr)) (m+1) c 1=some ⟨b',o',none⟩∧(M.setCells b E (zd cs o (List.replicate (m+1) z))).row b' o' ((len - (m+1))*1)=some (List.drop (m+1) vs):=by
   by_cases hz:len - (m+1)=0
   ·grind
   refine .inr ⟨b,o+(m+1),by unfold subA;rw[if_neg oM];simp[zb7],?_⟩;rw[Mem.row_cells (by omega)];congr 1;rw[show (zd cs o (List.replicate (m+1) z)).drop (o+(m+1))=cs.drop (o+(m+1)) by unfold zd;rw[List.drop_left' oE];simp,←hcut,Ycm,Ybo,Ybi]
  have hk0:=zh6 M b E (zd cs o (List.replicate (m+1) z));refine hk _ (by unfold SrcOk;refine⟨hd.1,?_⟩;exact hrest) (fun y p hy hp=>hk0 y p (fun e=>hy ⟨_,rfl,e.symm⟩) hp) (fun r hr=>⟨_,by cases hr;exact Yg⟩)
theorem zB0 (h:SndAt B M s qa ca X) (nr:Int):CallsM prog 410 [ptr s,.int .i64 nr] M fun v M'=>v = .tuple #[.int .i64 (zgp X nr:Nat),.int .i64 (zfM X nr)]∧∃ B' qa' ca',SndAt B' M' s qa' ca' (zdP X nr)∧Tn B M (zc6 s qa) B' M' (zc6 s qa'):=by
 have hI:=h.inv
 have same:zfM X nr≠0→∃ B' qa' ca',SndAt B' M s qa' ca' (zdP X nr)∧Tn B M (zc6 s qa) B' M (zc6 s qa'):=fun he=>by
  unfold zdP;rw[if_neg he];exact⟨B,qa,ca,h,Tn.refl _ _ _⟩
 refine zmg oS ?_;refine brn_f rfl ?_;by_cases g:nr<0∨128≤nr
 ·have e:zfM X nr=1:=by unfold zfM;rw[if_pos g]
  have e0:zgp X nr=0:=by unfold zgp;rw[e];rfl
  have fin:(Value.tuple #[.int .i64 0,.int .i64 1]:Value) = .tuple #[.int .i64 (zgp X nr:Nat),.int .i64 (zfM X nr)]:=by rw[e,e0];rfl
  refine brn (fun g1=>?_) (fun g1=>?_)
  ·exact⟨fin,same (by omega)⟩
  ·have g2:=Zd1 g1;refine brn_t (decide_eq_true oM) ?_;refine zR ?_;exact⟨fin,same (by omega)⟩
 have g1:0≤nr∧nr<128:=by omega
 refine brn_f (decide_eq_false oM) ?_;refine brn_f (decide_eq_false oM) ?_;refine zW h.self ?_;refine zN (zoe _ nr M) ?_;refine on (h.self.c1 rfl) ?_;by_cases g2:(X.under:Int)<zb9 X.base nr
 ·have e:zfM X nr=7:=by unfold zfM;rw[if_neg g,if_pos g2]
  have e0:zgp X nr=0:=by unfold zgp;rw[e];rfl
  refine brn_t (decide_eq_true g2) ?_;refine zR ?_;exact⟨by simp_all,same (by omega)⟩
 have hw:0≤zb9 X.base nr:=by unfold zb9;omega
 obtain⟨n,hn⟩:∃ n:Nat,(n:Int)=zb9 X.base nr:=⟨(zb9 X.base nr).toNat,by omega⟩
 have e:zfM X nr=0:=by unfold zfM;rw[if_neg g,if_neg g2]
 have e0:zgp X nr=n:=by unfold zgp;rw[e,←hn];simp
 refine brn_f (decide_eq_false g2) ?_;rw[←hn];refine zK h.self ?_;have hle:n≤X.all.length:=by have:=hI.under.1;omega
 have hcap:=h.cap;refine ob oM ?_;obtain⟨vs,hvs,hR⟩:=h.row;rw[show ((n:Int).toNat - Int.toNat 0)=n by omega];refine zGy hvs hle hcap h.blk fun M1 hv1 hk1 hb1=>?_
 have hs1:M1.has s 287 (zmo X qa ca):=hk1 _ _ (fun ⟨r,hr,e⟩=>h.ne hr e) h.self;refine zR ?_;refine on (hs1.c1 rfl) ?_;refine zR ?_;refine ob (by omega) ?_;refine zR ?_;refine on (hs1.c1 rfl) ?_;(conv=>whnf)
 refine obr (inR_i64 (by have:=hI.few;have:=hI.under;omega)) ?_;refine zR ?_;refine on hs1.cells ?_;refine ob oS ?_;obtain⟨M2,hM2⟩:=oI (M1.setCells s 287 [.int .i64 X.size,.int .i64 X.base,.slice (subA qa n ca 1) (X.all.length - n) (ca - n),.int .i64 (X.under:Nat)]);have hs2:M2.has s 287 [.int .i64 X.size,.int .i64 X.base,.slice (subA qa n ca 1) (X.all.length - n) (ca - n),.int .i64 (X.under:Nat)]:=hM2▸Yg
 have hk2:Mem.keep (fun y=>y=s) M1 M2:=hM2▸zh6 _ _ _ _;erw [←hM2];refine zR ?_;refine on hs2.cells ?_;refine ob oS ?_;obtain⟨M3,hM3⟩:=oI (M2.setCells s 287 [.int .i64 X.size,.int .i64 X.base,.slice (subA qa n ca 1) (X.all.length - n) (ca - n),.int .i64 ((X.under:Nat) - (n:Nat))]);have hs3:M3.has s 287 [.int .i64 X.size,.int .i64 X.base,.slice (subA qa n ca 1) (X.all.length - n) (ca - n),.int .i64 ((X.under:Nat) - (n:Nat))]:=hM3▸Yg
 have hk3:Mem.keep (fun y=>y=s) M1 M3:=Yac hk2 (hM3▸zh6 _ _ _ _);erw [←hM3];refine zR ?_;refine on hs3.cells ?_;refine ob oS ?_;obtain⟨M4,hM4⟩:=oI (M3.setCells s 287 [.int .i64 X.size,.int .i64 nr,.slice (subA qa n ca 1) (X.all.length - n) (ca - n),.int .i64 ((X.under:Nat) - (n:Nat))]);have hs4:M4.has s 287 [.int .i64 X.size,.int .i64 nr,.slice (subA qa n ca 1) (X.all.length - n) (ca - n),.int .i64 ((X.under:Nat) - (n:Nat))]:=hM4▸Yg
 have hk4:Mem.keep (fun y=>y=s) M1 M4:=Yac hk3 (hM4▸zh6 _ _ _ _);erw [←hM4];refine zR ?_
 have hsub:∀ r,subA qa n ca 1=some r→∃ r0,qa=some r0∧r0.block=r.block:=fun r hr=>by
  unfold subA at hr;split at hr
  ·simp_all
  ·obtain⟨r0,h1,rfl⟩:=Ye.1 hr;exact⟨r0,h1,by simp only[Addr.add];split<;>rfl⟩
 have hne:∀ r,subA qa n ca 1=some r→r.block≠s:=fun r hr=>by
  obtain⟨r0,h1,h2⟩:=hsub r hr;rw[←h2];exact h.ne h1
 have he':zdP X nr={ X with all:=X.all.drop n,under:=X.under - n,base:=nr }:=by unfold zdP;rw[if_pos e,e0]
 refine⟨by grind,B,subA qa n ca 1,ca - n,⟨?_,?_,⟨vs.drop n,?_,?_⟩,?_,fun r hr=>?_,h.bs,fun r hr=>?_,?_⟩,Ya _,?_,fun _ h => .inl h,fun y hy=>?_⟩
 ·exact fun y o ho=>hk4 y o (fun e=>by rw[e,h.bs] at ho;cases ho) (hk1 y o (fun ⟨r,hr,e⟩=>by rw[←e,h.bq r hr] at ho;cases ho) (h.le _ _ ho))
 ·grind
 ·rw[he'];simp only[Ydc];refine zgX hv1 fun r hr=>?_
  rw[hM4,hM3,hM2];unfold Mem.setCells;rw[Yh _ _ (hne r hr),Yh _ _ (hne r hr),Yh _ _ (hne r hr)]
 ·rw[he'];exact hR.drop n
 ·grind
 ·obtain⟨r0,h1,h2⟩:=hsub r hr;obtain⟨cs,hc⟩:=hb1 r0 h1;exact⟨cs,hk4 _ _ (hne r hr) (h2▸hc)⟩
 ·obtain⟨r0,h1,h2⟩:=hsub r hr;rw[←h2];exact h.bq r0 h1
 ·rw[he'];refine⟨hI.size,g1,⟨?_,?_⟩,?_,fun l' hl'=>hI.each l' (List.mem_of_mem_drop hl')⟩<;>simp<;>have:=hI.under<;>have:=hI.few<;>omega
 ·exact fun y o hy ho=>hk4 y o (fun e=>hy (.inl e)) (hk1 y o (fun e=>hy (.inr e)) ho)
 ·rcases hy with rfl|⟨r,hr,rfl⟩
  ·exact .inl (.inl rfl)
  ·obtain⟨r0,h1,h2⟩:=hsub r hr;exact .inl (.inr ⟨r0,h1,h2⟩)
def zmp (s:Nat) (qa:Option Addr) (ca:Nat) (X:zla):Pt:=⟨zc6 s qa,fun B M=>SndAt B M s qa ca X,fun h hy=>h.apart.1 _ hy,fun h hy=>h.apart.2 _ hy,fun h hB hle hs=>h.stay hB hle hs⟩
theorem SndAt.bare {size base:Int} (h:M.has s 287 [.int .i64 size,.int .i64 base,.slice none 0 0,.int .i64 0]) (hle:B.le M) (hB:B s=none) (hs:1≤size∧size≤63) (hb:0≤base∧base<128):SndAt B M s none 0 ⟨size,base,[],0⟩:=
 ⟨hle,h,⟨[],Ybh _ _,Ydr⟩,Yd _,fun r hr=>(by grind),hB,fun r hr=>(by grind),⟨hs,hb,⟨Yd _,by grind⟩,Y5 _,fun l hl=>(by grind)⟩⟩
end
end
end Go.Proofs.YtlgbofpennelhaaGreat
namespace Go.Proofs.YtlgbofpennelhaaGreat
open Go Go.Vm Go.Proofs.Tryz
attribute [local irreducible] Brn Ob Grow CallsM inR zI zF Mem.row Mem.cells Mem.setCells Mem.upd Go.Vm.Own zZ zaj zam zO New SrcOk subA NewSl Mem.textAt Mem.mapAt Mem.iterAt zC zB Wr NewEls Elems zc9 zeK zfF zef zeg
set_option maxRecDepth 10000
section
variable {M:Mem}
@[reducible] def zkB (f:Nat→Bool):List Value:=[.bool (f 0),.bool (f 1),.bool (f 2),.bool (f 3),.bool (f 4),.bool (f 5),.bool (f 6),.bool (f 7),.bool (f 8),.bool (f 9),.bool (f 10),.bool (f 11),.bool (f 12),.bool (f 13),.bool (f 14),.bool (f 15),.bool (f 16),.bool (f 17),.bool (f 18),.bool (f 19),.bool (f 20),.bool (f 21),.bool (f 22),.bool (f 23),.bool (f 24),.bool (f 25),.bool (f 26),.bool (f 27),.bool (f 28),.bool (f 29),.bool (f 30),.bool (f 31),.bool (f 32),.bool (f 33),.bool (f 34),.bool (f 35),.bool (f 36),.bool (f 37),.bool (f 38),.bool (f 39),.bool (f 40),.bool (f 41),.bool (f 42),.bool (f 43),.bool (f 44),.bool (f 45),.bool (f 46),.bool (f 47),.bool (f 48),.bool (f 49),.bool (f 50),.bool (f 51),.bool (f 52),.bool (f 53),.bool (f 54),.bool (f 55),.bool (f 56),.bool (f 57),.bool (f 58),.bool (f 59),.bool (f 60),.bool (f 61),.bool (f 62),.bool (f 63),.bool (f 64),.bool (f 65),.bool (f 66),.bool (f 67),.bool (f 68),.bool (f 69),.bool (f 70),.bool (f 71),.bool (f 72),.bool (f 73),.bool (f 74),.bool (f 75),.bool (f 76),.bool (f 77),.bool (f 78),.bool (f 79),.bool (f 80),.bool (f 81),.bool (f 82),.bool (f 83),.bool (f 84),.bool (f 85),.bool (f 86),.bool (f 87),.bool (f 88),.bool (f 89),.bool (f 90),.bool (f 91),.bool (f 92),.bool (f 93),.bool (f 94),.bool (f 95),.bool (f 96),.bool (f 97),.bool (f 98),.bool (f 99),.bool (f 100),.bool (f 101),.bool (f 102),.bool (f 103),.bool (f 104),.bool (f 105),.bool (f 106),.bool (f 107),.bool (f 108),.bool (f 109),.bool (f 110),.bool (f 111),.bool (f 112),.bool (f 113),.bool (f 114),.bool (f 115),.bool (f 116),.bool (f 117),.bool (f 118),.bool (f 119),.bool (f 120),.bool (f 121),.bool (f 122),.bool (f 123),.bool (f 124),.bool (f 125),.bool (f 126),.bool (f 127)]
@[reducible] def zoT (f:Nat→Bool):List SC:=[.v (.bool (f 0)),.v (.bool (f 1)),.v (.bool (f 2)),.v (.bool (f 3)),.v (.bool (f 4)),.v (.bool (f 5)),.v (.bool (f 6)),.v (.bool (f 7)),.v (.bool (f 8)),.v (.bool (f 9)),.v (.bool (f 10)),.v (.bool (f 11)),.v (.bool (f 12)),.v (.bool (f 13)),.v (.bool (f 14)),.v (.bool (f 15)),.v (.bool (f 16)),.v (.bool (f 17)),.v (.bool (f 18)),.v (.bool (f 19)),.v (.bool (f 20)),.v (.bool (f 21)),.v (.bool (f 22)),.v (.bool (f 23)),.v (.bool (f 24)),.v (.bool (f 25)),.v (.bool (f 26)),.v (.bool (f 27)),.v (.bool (f 28)),.v (.bool (f 29)),.v (.bool (f 30)),.v (.bool (f 31)),.v (.bool (f 32)),.v (.bool (f 33)),.v (.bool (f 34)),.v (.bool (f 35)),.v (.bool (f 36)),.v (.bool (f 37)),.v (.bool (f 38)),.v (.bool (f 39)),.v (.bool (f 40)),.v (.bool (f 41)),.v (.bool (f 42)),.v (.bool (f 43)),.v (.bool (f 44)),.v (.bool (f 45)),.v (.bool (f 46)),.v (.bool (f 47)),.v (.bool (f 48)),.v (.bool (f 49)),.v (.bool (f 50)),.v (.bool (f 51)),.v (.bool (f 52)),.v (.bool (f 53)),.v (.bool (f 54)),.v (.bool (f 55)),.v (.bool (f 56)),.v (.bool (f 57)),.v (.bool (f 58)),.v (.bool (f 59)),.v (.bool (f 60)),.v (.bool (f 61)),.v (.bool (f 62)),.v (.bool (f 63)),.v (.bool (f 64)),.v (.bool (f 65)),.v (.bool (f 66)),.v (.bool (f 67)),.v (.bool (f 68)),.v (.bool (f 69)),.v (.bool (f 70)),.v (.bool (f 71)),.v (.bool (f 72)),.v (.bool (f 73)),.v (.bool (f 74)),.v (.bool (f 75)),.v (.bool (f 76)),.v (.bool (f 77)),.v (.bool (f 78)),.v (.bool (f 79)),.v (.bool (f 80)),.v (.bool (f 81)),.v (.bool (f 82)),.v (.bool (f 83)),.v (.bool (f 84)),.v (.bool (f 85)),.v (.bool (f 86)),.v (.bool (f 87)),.v (.bool (f 88)),.v (.bool (f 89)),.v (.bool (f 90)),.v (.bool (f 91)),.v (.bool (f 92)),.v (.bool (f 93)),.v (.bool (f 94)),.v (.bool (f 95)),.v (.bool (f 96)),.v (.bool (f 97)),.v (.bool (f 98)),.v (.bool (f 99)),.v (.bool (f 100)),.v (.bool (f 101)),.v (.bool (f 102)),.v (.bool (f 103)),.v (.bool (f 104)),.v (.bool (f 105)),.v (.bool (f 106)),.v (.bool (f 107)),.v (.bool (f 108)),.v (.bool (f 109)),.v (.bool (f 110)),.v (.bool (f 111)),.v (.bool (f 112)),.v (.bool (f 113)),.v (.bool (f 114)),.v (.bool (f 115)),.v (.bool (f 116)),.v (.bool (f 117)),.v (.bool (f 118)),.v (.bool (f 119)),.v (.bool (f 120)),.v (.bool (f 121)),.v (.bool (f 122)),.v (.bool (f 123)),.v (.bool (f 124)),.v (.bool (f 125)),.v (.bool (f 126)),.v (.bool (f 127))]
theorem zDR (f:Nat→Bool):zkB f=(List.range 128).map (fun i=>Value.bool (f i)):=rfl
theorem zv3 (f:Nat→Bool):zoT f=(List.range 128).map (fun i=>SC.v (.bool (f i))):=rfl
theorem zIo (f:Nat→Bool) {i:Nat} (hi:i<128) (x:Bool):znE [SC.v (.bool x)] (0+i*1) 1 (zoT f)=some (zoT fun j=>if j=i then x else f j):=by
 have hl:(zoT f).length=128:=rfl;unfold znE;rw[if_pos ⟨rfl,by omega⟩];congr 1;rw[splice_one _ _ _ (by omega),zv3,zv3];apply Ycy
 ·simp
 ·intro j h1 h2;simp only[List.getElem_set,Yd2,Yds];by_cases hj:j=i
  ·simp_all
  ·rw[if_neg (by omega),if_neg hj]
theorem zv4 (f:Nat→Bool) {i:Nat} (hi:i<128):(zkB f)[0+i*1]? = some (.bool (f i)):=by
 rw[zDR,Yap,Ybi,Ya7,List.getElem?_range hi];rfl
@[reducible] def amN (l:List Int):Nat→Bool:=fun j=>zfk l (j:Nat)
theorem zDS (l:List Int) {i:Nat} {x:Int} (hx:l[i]? = some x):(fun j:Nat=>if j=(x % 128).toNat then true else amN (l.take i) j)=amN (l.take (i+1)):=by
 funext j;unfold amN zfk;rw[Y1,hx,List.any_append];by_cases e:j=(x % 128).toNat
 ·grind
 ·grind
theorem zyG {a:Option Addr} {n c:Nat} {l:List Int} (hs:SrcOk M 1 a n (l.map zi)) (hn:n≤4194304):CallsM prog 502 [.slice a n c] M fun v M'=>v = .agg (zkB (amN l)).toArray∧M=M':=by
 have hl:l.length=n:=hs.maplen;refine zuN oS ?_;refine zR ?_;refine zak (σ:=Nat) [8] (fun i=>[(8,.int .i64 i)]) (fun i=>[.live 594 (zoT fun _=>false),.live 594 (zoT (amN (l.take i)))]) (fun _=>M) (fun i=>i≤n) (fun i=>n - i) 0 (Y5 _) zS ?_;intro i hi;refine brn (fun g=>?_) (fun g=>?_)
 ·have hi':i<n:=by have:=Zd0 g;omega
  obtain⟨hil,b,o,hab,hrow⟩:=hs.at hi';refine ob oM ?_;refine atp hab ?_;refine on hrow ?_;refine zJ (zeo _ M) ?_;refine ob oM ?_;refine on (zIo _ oM true) ?_;refine zP ?_;refine⟨i+1,hi',by omega,?_⟩;rw[←zDS l (Yb hil)];exact zS
 ·have hi':i=n:=by have:=Zd1 g;omega
  subst hi';refine zR ?_;refine⟨?_,rfl⟩;rw[Yf oM]
def IW (b1 b2:Nat) (f:Nat→Bool) (out:List Int) (M:Mem):Prop:=∃ a c,Sep Mem.empty M [zby b1 53 [.slice a out.length c],zaB 3 1 a out.length c (out.map zi),zby b2 594 (zkB f)]
theorem IW.start {b1 b2:Nat} {f:Nat→Bool} {M1 M3:Mem} (h1:M3.has b1 53 [.slice none 0 0]) (h2:M3.has b2 594 (zkB f)) (hn1:M1 b1=none) (hn2:M1 b2=none):IW b1 b2 f [] (M3.minus fun y=>M1 y≠none):=by
 have ne:b1≠b2:=fun e=>by
  subst e;have h3:M3.has b1 594 (zkB f):=h2
  exact absurd (h1.inj h3).1 oD
 have g:∀ {y:Nat} {E:TypeId} {l:List Value},M1 y=none→M3.has y E l→(M3.minus fun y=>M1 y≠none).has y E l:=fun {y E l} hy h=>by
  unfold Mem.has at h ⊢;unfold Mem.minus;rw[if_neg (by simp[hy])];exact h
 refine⟨none,0,⟨fun b o e=>(by cases e),fun p hp=>?_,?_⟩⟩
 ·simp only[Yp,Yco,or_false] at hp;rcases hp with rfl|rfl|rfl
  ·exact⟨g hn1 h1,rfl⟩
  ·exact(Yaw _ _ _).mono (Yc6 _)
  ·exact⟨g hn2 h2,rfl⟩
 ·refine Yx.2 ⟨fun p hp y hy hy'=>?_,Yx.2 ⟨fun p hp y ⟨r,hr,_⟩=>(by cases hr),Yay ..⟩⟩;simp only[Yp,Yco,or_false] at hp;rcases hp with rfl|rfl
  ·obtain⟨r,hr,_⟩:=hy';cases hr
  ·exact ne ((show y=b1 from hy).symm.trans hy')
theorem IW.up {b1 b2:Nat} {f:Nat→Bool} {out:List Int} {M M':Mem} (h:IW b1 b2 f out M) (hle:M.le M'):∃ a c,At Mem.empty M' (zc4 [zby b1 53 [.slice a out.length c],zaB 3 1 a out.length c (out.map zi),zby b2 594 (zkB f)]) Mem.empty M' [zby b1 53 [.slice a out.length c],zaB 3 1 a out.length c (out.map zi),zby b2 594 (zkB f)]:=by
 obtain⟨a,c,h⟩:=h;exact⟨a,c,(h.at.up hle).sep.at⟩
theorem IW.done {b1 b2:Nat} {f:Nat→Bool} {out:List Int} {A M Mb Mc:Mem} (h:IW b1 b2 f out Mb) (hMA:M.le A) (hA:A.le Mc) (hdj:∀ b,A b≠none→Mb b=none) (hle:Mb.le Mc):∃ a c,Mc.has b1 53 [.slice a out.length c]∧NewSl M 3 1 a out.length c (out.map zi) Mc:=by
 obtain⟨a,c,h⟩:=h;have hN:NewSl Mem.empty 3 1 a out.length c (out.map zi) Mb:=h.ok (zaB 3 1 a out.length c (out.map zi)) oS
 have h1:Mb.has b1 53 [.slice a out.length c]:=(h.ok (zby b1 53 [.slice a out.length c]) oS).1;refine⟨a,c,h1.le hle,newSl_iff.2 ⟨Yc hMA hA,?_⟩⟩;obtain⟨_,w1,w2,w3⟩:=newSl_iff.1 hN;refine⟨w1,w2,w3.imp id fun ⟨b,cs,ha,_,hh,hr⟩=>⟨b,cs,ha,?_,hh.le hle,hr⟩⟩;cases e:M b with
 | none=>rfl
 | some o=>
  have:=hdj b (by rw[hMA _ _ e];simp);unfold Mem.has at hh;rw[hh] at this;cases this
set_option maxHeartbeats 1000000 in
theorem zDT (base:Int) {a:Option Addr} {n c:Nat} {l:List Int} (hs:SrcOk M 1 a n (l.map zi)) (hn:n≤4194304) :
  CallsM prog 501 [.int .i64 base,.slice a n c] M fun v M'=>∃ a' c',v = .slice a' (zht base l).length c'∧NewSl M 3 1 a' (zht base l).length c' ((zht base l).map zi) M':=by
 refine zsW oS ?_;refine zN (zyG hs hn) ?_;refine(zs0 base 128).mono ?_;rintro v M1 ⟨B1,B2,rfl,hB1,hB2,hle1⟩;have hu : -9223372036854775808≤(128:Int)∧(128:Int)<9223372036854775808:=by decide
 have hW:zht base l=(zbY base (zaF 128)).filter (zfk l):=rfl;have hN:zaF 128≤128:=by decide
 obtain⟨P,hP⟩:∃ P:Int→Bool,P=zfk l:=⟨_,rfl⟩
 have hPx:∀ x:Int,0≤x∧x<128→amN l x.toNat=P x:=fun x hx=>by rw[hP];show zfk l (x.toNat:Int)=_;rw[Ydk hx.1]
 rw[hW,←hP];refine⟨rfl,?_⟩;refine zzX fun b2 M2 hb2 hle2 h2 hne2=>?_
 refine zzX fun b1 M3 hb1 hle3 h1 hne3=>?_
 have hn1:M1 b1=none:=zvN hle2 hb1;refine rangeV (zsY (A:=M1) hB1 hB2 hu) (by kernel_rfl) rfl (Yc hle2 hle3) (fun _=>rfl) (fun xs=>IW b1 b2 (amN l) (xs.filter P)) _ (Yab _ _) (fun b hb=>Yaq hb) (IW.start h1 (h2.le hle3) hn1 hb2) ?_ ?_
 ·rintro pre x Mb Mx Mc hI hlt ⟨hx1,hx2⟩ hfr hle4 hle5;have hl1:=Yat P pre
  obtain⟨a2,c2,h3⟩:=hI.up hle4;refine zR ?_;refine⟨rfl,?_⟩;refine ob oM ?_;refine on ((h3.cell 2 rfl).c1 (zv4 (amN l) oM)) ?_;rw[hPx x hx1];refine zfs (fun g=>?_) (fun g=>?_)
  ·
    have e:P x=true:=by simpa using g
    have ef:(pre++[x]).filter P=pre.filter P++[x]:=by rw[Yce];simp[e]
    refine zA (h3) ?_;refine h3.appV 1 rfl oM (by simp[maxLen];omega) oC fun a4 c4 M4 hc4 h4=>?_
    refine zA (h4) ?_;refine h4.stoV 0 rfl oS fun M5 h5=>?_
    refine⟨rfl,M5,⟨a4,c4,(h5.c ?_).sep⟩,Ya _⟩;rw[ef];simp[zd]
  ·
    have e:P x=false:=by simpa using g
    have ef:(pre++[x]).filter P=pre.filter P:=by rw[Yce];simp[e]
    refine zR ?_;refine⟨rfl,Mc,?_,Ya _⟩;rw[ef];exact⟨a2,c2,h3.sep⟩
 ·rintro xs Mb Mc hD hI hdj hle4 hle5;obtain⟨a2,c2,g1,hNN⟩:=hI.done hle1 hle5 hdj hle4;refine zW g1 ?_;subst hD;exact⟨a2,c2,rfl,hNN⟩
set_option maxHeartbeats 1000000 in
theorem zz5 (base to:Int) {a:Option Addr} {n c:Nat} {l:List Int} (hs:SrcOk M 1 a n (l.map zi)) (hn:n≤4194304) :
  CallsM prog 470 [.int .i64 base,.int .i64 to,.slice a n c] M fun v M'=>∃ a' c',v = .slice a' (zkx base to l).length c'∧NewSl M 3 1 a' (zkx base to l).length c' ((zkx base to l).map zi) M':=by
 refine zpw oS ?_;refine zN (zyG hs hn) ?_;refine zN (zoe base to M) ?_;have hw:0≤zb9 base to∧zb9 base to<128:=by unfold zb9;omega
 refine(zs0 base (zb9 base to)).mono ?_;rintro v M1 ⟨B1,B2,rfl,hB1,hB2,hle1⟩;have hu : -9223372036854775808≤zb9 base to∧zb9 base to<9223372036854775808:=by omega
 obtain⟨P,hP⟩:∃ P:Int→Bool,P=fun n => !zfk l n:=⟨_,rfl⟩
 have hN:zaF (zb9 base to)≤128:=by unfold zaF;omega
 have hW:zkx base to l=(zbY base (zaF (zb9 base to))).filter P:=by
  rw[hP];unfold zkx;rw[show zaF (zb9 base to)=(zb9 base to).toNat by unfold zaF;omega]
 have hPx:∀ x:Int,0≤x∧x<128→amN l x.toNat = !P x:=fun x hx=>by grind
 rw[hW];refine⟨rfl,?_⟩;refine zzX fun b2 M2 hb2 hle2 h2 hne2=>?_
 refine zzX fun b1 M3 hb1 hle3 h1 hne3=>?_
 have hn1:M1 b1=none:=zvN hle2 hb1;refine rangeV (zsY (A:=M1) hB1 hB2 hu) (by kernel_rfl) rfl (Yc hle2 hle3) (fun _=>rfl) (fun xs=>IW b1 b2 (amN l) (xs.filter P)) _ (Yab _ _) (fun b hb=>Yaq hb) (IW.start h1 (h2.le hle3) hn1 hb2) ?_ ?_
 ·rintro pre x Mb Mx Mc hI hlt ⟨hx1,hx2⟩ hfr hle4 hle5;have hl1:=Yat P pre
  obtain⟨a2,c2,h3⟩:=hI.up hle4;refine zR ?_;refine⟨rfl,?_⟩;refine ob oM ?_;refine on ((h3.cell 2 rfl).c1 (zv4 (amN l) oM)) ?_;rw[hPx x hx1];refine zfs (fun g=>?_) (fun g=>?_)
  ·
    refine zR ?_;have e:P x=false:=by simpa using g
    have ef:(pre++[x]).filter P=pre.filter P:=by rw[Yce];simp[e]
    refine zR ?_;refine⟨rfl,Mc,?_,Ya _⟩;rw[ef];exact⟨a2,c2,h3.sep⟩
  ·
    refine zR ?_;have e:P x=true:=by simpa using g
    have ef:(pre++[x]).filter P=pre.filter P++[x]:=by rw[Yce];simp[e]
    refine zA (h3) ?_;refine h3.appV 1 rfl oM (by simp[maxLen];omega) oC fun a4 c4 M4 hc4 h4=>?_
    refine zA (h4) ?_;refine h4.stoV 0 rfl oS fun M5 h5=>?_
    refine⟨rfl,M5,⟨a4,c4,(h5.c ?_).sep⟩,Ya _⟩;rw[ef];simp[zd]
 ·rintro xs Mb Mc hD hI hdj hle4 hle5;obtain⟨a2,c2,g1,hNN⟩:=hI.done hle1 hle5 hdj hle4;refine zW g1 ?_;subst hD;exact⟨a2,c2,rfl,hNN⟩
end
section
variable {B0 M0 B M:Mem} {S0:Nat→Prop}
theorem zfp:zeE zi:=by intro a b;simp[zeD]
abbrev zh7:=RcvR (List UInt8)
structure zmq (X:zh7):Prop where
 size:1≤X.size∧X.size≤63
 waits:0≤X.waits∧X.waits<128
 keys:∀ q∈X.kept,(0≤q.1∧q.1<128)∧q.2.length≤121
@[reducible] def zFR (X:zh7) (mk ma:Nat):List Value:=[.int .i64 X.size,.int .i64 X.waits,.map (some mk),.map (some ma)]
@[reducible] def zgc (r mk ma:Nat) (X:zh7) (mv:List (Int×Value)):List Pt:=[zby r 290 (zFR X mk ma),zgn zi (id:Value→Value) mk mv,zgn zi zi ma X.asked]
def zlb (r mk ma:Nat):Nat→Prop:=fun y=>y=r∨y=mk∨y=ma
theorem zFS (r mk ma:Nat) (X:zh7) (mv:List (Int×Value)) (y:Nat):zc4 (zgc r mk ma X mv) y↔zlb r mk ma y:=by simp[zc4,zby,zgn,zlb]
def rcvP (r mk ma:Nat) (X:zh7):Pt:=objP (zlb r mk ma) (zgc r mk ma X) (fun B mv=>KRel B mv X.kept∧zmq X) (zFS r mk ma X) fun _ _ _ h hle=>⟨h.1.le hle,h.2⟩
section
variable {r mk ma:Nat} {X:zh7} {mv:List (Int×Value)} {tl:List Pt}
theorem rcvP.opn (h:(rcvP r mk ma X).ok B M):∃ mv,At B M (zlb r mk ma) B M (zgc r mk ma X mv)∧KRel B mv X.kept∧zmq X:=zsX (qs:=zgc r mk ma X) (R:=fun B mv=>KRel B mv X.kept∧zmq X) h (zFS r mk ma X)
theorem rcvP.cls (h:At B0 M0 S0 B M (zgc r mk ma X mv)) (hk:KRel B mv X.kept) (hI:zmq X):At B0 M0 S0 B M [rcvP r mk ma X]:=by unfold rcvP;exact objP.cls h ⟨hk,hI⟩
theorem zil (h:(rcvP r mk ma X).ok B M):CallsM prog 117 [ptr r] M fun v M'=>v = .int .i64 X.waits∧M=M':=by
 obtain⟨mv,h,hk,hI⟩:=rcvP.opn h;refine zk5 oS ?_;refine zA (h) ?_;exact⟨rfl,rfl⟩
theorem zxO (h:At B0 M0 S0 B M (zgc r mk ma X mv)) (hk:KRel B mv X.kept) (ns:Int) {q:Option Addr} {c:Nat} (l:List UInt8):CallsM prog 411 [ptr r,.int .i64 ns,.slice q l.length c] M fun v M'=>v = .int .i64 (zeP X ns l)∧M=M':=by
 refine zk9 oS ?_;unfold zeP;rw[zep];refine zR ?_;refine brn (fun g=>?_) (fun g=>?_)
 ·have g:=Zd0 g;refine zR ?_;exact⟨by simp_all,rfl⟩
 have g1:=Zd1 g;refine brn (fun g=>?_) (fun g=>?_)
 ·have g:=Zd0 g;refine zR ?_;exact⟨by simp_all,rfl⟩
 have g2:=Zd1 g;rw[if_neg oM];refine brn (fun g=>?_) (fun g=>?_)
 ·have g:=Zd0 g;refine zR ?_;exact⟨by simp_all,rfl⟩
 have g3:=Zd1 g;rw[if_neg oM];refine brn (fun g=>?_) (fun g=>?_)
 ·have g:=Zd0 g;refine zR ?_;exact⟨by grind,rfl⟩
 have g4:=Zd1 g;rw[if_neg oM];refine zA (h) ?_;refine zJ (zBZ _ _ _ M) ?_;refine zA (h) ?_;refine brn (fun g=>?_) (fun g=>?_)
 ·have g:¬zb9 X.waits ns<X.size:=by simpa using g
  refine zR ?_;exact⟨by grind,rfl⟩
 have g5:zb9 X.waits ns<X.size:=by simpa using g
 rw[if_pos g5];refine zA (h) ?_;refine(h.part 1 rfl).1.get zfp ns (fun g=>?_) (fun x j g=>?_)
 ·have e:ze X.kept ns=none:=by
   rcases hk.get ns with ⟨_,h2⟩|⟨_,_,_,h1,_⟩
   ·exact h2
   ·simp_all
  refine zR ?_;exact⟨by rw[e];rfl,rfl⟩
 ·obtain⟨q1,c1,l',rfl,e⟩:∃ q1 c1 l',x = .slice q1 (List.length l') c1∧ze X.kept ns=some l':=by
   rcases hk.get ns with ⟨h1,_⟩|⟨q1,c1,l',h1,h2,_⟩
   ·simp_all
   ·grind
  refine zR ?_;exact⟨by rw[e];rfl,rfl⟩
theorem zs1 (h:At B0 M0 S0 B M (zgc r mk ma X mv)) (hk:KRel B mv X.kept) (hI:zmq X):mv.length≤128:=by
 have:=zIn (h.part 1 rfl).1.nodup (by
  rw[hk.keys];intro x hx;obtain⟨q,hq,rfl⟩:=Yj.1 hx
  exact(hI.keys q hq).1)
 simpa using this
theorem zz6 (h:At B0 M0 S0 B M (zgc r mk ma X mv)) (hk:KRel B mv X.kept) (hI:zmq X) :
  CallsM prog 469 [ptr r] M fun v M'=>∃ a c,v = .slice a (zdc X).length c∧At B0 M0 S0 B M' (zgc r mk ma X mv++[zaB 3 1 a (zdc X).length c ((zdc X).map zi)]):=by
 have hfew:=zs1 h hk hI;refine zlD oS ?_;refine zA (h) ?_;refine h.rangeV 1 rfl fun it M1 h1=>?_
 have h2:=h1.row0 3 1
 refine zak (σ:=Mem×List (Int×Value)×List Int×Option Addr×Nat) [3] (fun x=>[(3,.slice x.2.2.2.1 x.2.2.1.length x.2.2.2.2)]) (fun _=>[]) (fun x=>x.1)
  (fun|⟨Mx,todo,l,a,c⟩=>At B0 M0 S0 B Mx [zby r 290 (zFR X mk ma),zu7 zi (id:Value→Value) it mk mv todo,zgn zi zi ma X.asked,zaB 3 1 a l.length c (l.map zi)]∧(l++todo.map (·.1)).Perm (mv.map (·.1)))
  (fun x=>x.2.1.length) ⟨M1,mv,[],none,0⟩ ⟨h2,by simp⟩ zS ?_
 rintro ⟨Mx,todo,l,a,c⟩ ⟨h3,hp⟩;have hl:l.length+todo.length=mv.length:=by simpa using hp.length_eq
 refine h3.nextV 1 rfl (fun e h4=>?_) (fun key x todo' M2 hpt h4 he=>?_)
 ·subst e;refine zA (h4) ?_;refine(zDT X.waits (h4.row 3 rfl).src oM).mono ?_;rintro v M3 ⟨a3,c3,rfl,hN⟩;have h5:=(h4.newR hN).drop 3 rfl
  have e:zht X.waits l=zdc X:=by unfold zdc;rw[←hk.keys];exact zz1 (by simp_all)
  rw[e] at h5 ⊢;refine zR ?_;exact⟨a3,c3,rfl,h5⟩
 ·have hlt:=hpt.length_eq;simp only[Ym] at hlt;refine zR ?_;refine on he ?_;refine zR ?_;refine h4.appV 3 rfl (by grind) (by simp[maxLen];omega) (by simp[Value.oneCell',zi]) fun a4 c4 M4 hc4 h5=>?_
  refine⟨⟨M4,todo',l++[key],a4,c4⟩,⟨h5.c oS,?_⟩,by simp_all,?_⟩
  ·grind
  ·simp only[Yi,Ym,Yar];exact zS
theorem zuO (h:At B0 M0 S0 B M (zgc r mk ma X mv)) (hk:KRel B mv X.kept) (hI:zmq X) :
  CallsM prog 413 [ptr r] M fun v M'=>∃ a c,v = .slice a (zdd X).length c∧At B0 M0 S0 B M' (zgc r mk ma X mv++[zaB 3 1 a (zdd X).length c ((zdd X).map zi)]):=by
 refine zjR oS ?_;refine zM (zz6 h hk hI) ?_;rintro v M1 ⟨a,c,rfl,h1⟩;refine brn (fun g=>?_) (fun g=>?_)
 ·have e:zdc X=[]:=Y8 (by simp_all);have e2:zdd X=[]:=by unfold zdd;rw[e];rfl
  refine zR ?_;rw[e2];exact⟨none,0,rfl,(h1.drop 3 rfl).row0 3 1⟩
 ·have hpos:0<(zdc X).length:=by have:=Zd1 g;omega
  have hlen:(zdc X).length≤128:=zBY _ _;have hs:=(h1.row 3 rfl).src
  obtain⟨hil,b,o,hab,hrow⟩:=hs.at (i:=(zdc X).length - 1) oM;have ei:((zdc X).length:Int) - 1=((zdc X).length - 1:Nat):=by omega
  have e2:zdd X=zkx X.waits ((zdc X)[(zdc X).length - 1]) (zdc X):=by
   unfold zdd;rw[List.getLast?_eq_getElem?, Yb hil]
  refine zA (h1) ?_;refine obr (inR_i64 oM) ?_;rw[ei];refine ob oM ?_;refine atp hab ?_;refine on hrow ?_;refine zM (zz5 X.waits _ hs oM) ?_;rintro v M2 ⟨a2,c2,rfl,hN⟩;have h3:=(h1.newR hN).drop 3 rfl
  rw[←e2] at h3 ⊢;refine zR ?_;exact⟨a2,c2,rfl,h3⟩
end
end
end Go.Proofs.YtlgbofpennelhaaGreat
