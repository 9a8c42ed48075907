/- Part of this proof;laid by program. -/
import Derived.Test.YtpnhjkiligohnaaGreatDoorRows
import Derived.Test.YtpnhjkiligohnaaGreatDoorJ6
import Derived.Test.YtpnhjkiligohnaaGreatDoorJ7
import Derived.WalkKit
import Derived.ProofKit
import Derived.OpenShut
import Derived.JoinedCond
import Derived.Test.YtpnhjkiligohnaaGreatDoorJ9
set_option linter.unusedVariables false
set_option linter.unusedSimpArgs false
namespace Go.Proofs.YtpnhjkiligohnaaGreatDoor
open Go.ChangeShapes Go.WideShapes Go.ChangeAt Go.RowKit Go.Vm
namespace Br
set_option maxRecDepth 100000
theorem own:ownKnob Tryz.prog.godebug=none:=by kernel_rfl
theorem zzD:Tryz.prog.underlying T.zAZ=some .bool:=by kernel_rfl
theorem zLT:laidOutB Tryz.prog=true:=by kernel_rfl
theorem zNr {H:Type} (d:DataW H):1≤Rows.uptoBulk d:=by
 cases d with
 | lit l=>cases l<;>simp[Rows.uptoBulk]
 | nil=>simp[Rows.uptoBulk]
 | ptr d=>simp[Rows.uptoBulk]
 | slice elems spare=>simp[Rows.uptoBulk]
 | agg parts=>simp[Rows.uptoBulk]
 | iface t d=>simp[Rows.uptoBulk]
 | map entries=>simp[Rows.uptoBulk]
 | held h=>simp[Rows.uptoBulk]
theorem part_le {H:Type} {d:DataW H} {l:List (DataW H)} (h:d∈l):Rows.uptoBulk d≤Rows.uptoBulkAll l:=by
 induction l with
 | nil=>cases h
 | cons x r ih=>
  simp only[Rows.uptoBulkAll];cases List.mem_cons.1 h with
  | inl e=>subst e;omega
  | inr e=>have:=ih e;omega
theorem length_le {H:Type} (l:List (DataW H)):l.length≤Rows.uptoBulkAll l:=by
 induction l with
 | nil=>simp[Rows.uptoBulkAll]
 | cons x r ih=>have:=zNr x;simp only[Rows.uptoBulkAll,List.length_cons];omega
def Reads (t:TypeId) (s:Nat) {α:Type} (R:Mem→List Value→α→Prop):Prop:=
 ∀ (H:Type) (enc:TypeId×Value→H) (W:World) (fuel:Nat) (cs:List Value) (d:DataW H) (ps:List MemPlace),
  DataW.trod enc Tryz.prog W 0 (fun _=>true) true fuel t cs=some (d,ps)→Rows.uptoBulk d≤1048576→cs.length=s∧∃ x,R (zj W) cs x
def zB1 (k:IntKind) (n:Int):Prop:=(Lit.int k n).wf=true
theorem Reads.int {t:TypeId} {k:IntKind} (hu:Tryz.prog.underlying t=some (.int k)):Reads t 1 fun (_:Mem) cs (n:Int)=>cs=[.int k n]∧zB1 k n:=by
 intro H enc W fuel cs d ps h _;cases fuel with
 | zero=>simp[DataW.trod] at h
 | succ m=>
  unfold DataW.trod at h;rw[hu] at h;split at h<;>first|(simp at *; done)|skip
  rename_i k2 k1 n e1;split at h
  ·rename_i hk;cases e1;exact⟨rfl,n,by rw[hk.1],hk.2⟩
  ·cases h
theorem zLU {W:World} {b o n:Nat} {f:Option Nat} {vs:List Value} (hf:f=none) (hn:0<n) (h:W.cells? 0 ⟨b,o,f⟩ n=some vs):(zj W).row b o n=some vs:=by
 subst hf;unfold World.cells? at h;simp only[Nat.zero_le,if_true] at h;have hl:=mapM_some_length h
 have hg:∀ i,i<n→W.cell? ⟨b,o+i,none⟩=vs[i]? := fun i hi=>by
  have:=mapM_some_get h i i (by simp[hi])
  rwa [zcN] at this
 have h0:=hg 0 hn;rw[List.length_range] at hl;unfold Mem.row zj;cases hw:W.heap[b]? with
 | none=>
  simp only[World.cell?, hw] at h0;rw[List.getElem?_eq_getElem (by omega)] at h0;cases h0
 | some ob=>
  cases ob with
  | cells c e fz=>
   have hc:∀ i,i<n→c[o+i]? = vs[i]? := fun i hi=>by
    have:=hg i hi;simpa[World.cell?, hw] using this
   have hlast:=hc (n - 1) (by omega);rw[List.getElem?_eq_getElem (by omega)] at hlast;have hsz:=(Array.getElem?_eq_some_iff.1 hlast).1
   simp only;rw[if_pos (by omega)];congr 1;apply List.ext_getElem?;intro i;by_cases hi:i<n
   ·rw[List.getElem?_take,if_pos hi,List.getElem?_drop,Array.getElem?_toList,hc i hi]
   ·rw[List.getElem?_take,if_neg hi,List.getElem?_eq_none (by omega)]
  | _=>
   simp only[World.cell?, hw] at h0;rw[List.getElem?_eq_getElem (by omega)] at h0;cases h0
theorem zJC {W W':World} (h:(zj W).le (zj W')) (hos:W'.os=W.os) (ht:W'.tape=W.tape) (ho:W'.output=W.output) (hs:W.heap.size≤W'.heap.size):Below W.heap.size W W':=
 ⟨hos,ht,ho,hs,fun k hk=>by
  have:W.heap[k]? = some W.heap[k]:=Array.getElem?_eq_getElem hk;rw[this]
  exact h k _ this⟩
theorem zHm {M:Mem} {b o s:Nat} (cl:List (List Value)) (hs:0<s) (hne:cl.length≠0) (h:∀ i cs,cl[i]? = some cs→M.row b (o+i*s) s=some cs) (hl:∀ cs∈cl,cs.length=s) {n:Nat} (hn:cl.length=n) :
  M.row b o (n*s)=some cl.flatten:=by
 have hflat:cl.flatten.length=n*s:=by
  rw[List.length_flatten]
  have:cl.map List.length=List.replicate n s:=by
   apply List.ext_getElem (by simp[hn]);intro i h1 h2;simp at h1;simp[hl _ (List.getElem_mem h1)]
  rw[this];simp
 have hlast:=h (n - 1) _ (List.getElem?_eq_getElem (by omega));unfold Mem.row at h hlast ⊢;cases hM:M b with
 | none=>rw[hM] at hlast;cases hlast
 | some ob=>
  cases ob with
  | cells c e fz=>
   rw[hM] at hlast;simp only[hM] at h
   have hsz:o+(n - 1)*s+s≤c.size:=by
    simp only at hlast;split at hlast
    ·assumption
    ·cases hlast
   have hmul:n*s=(n - 1)*s+s:=by
    have:n=(n - 1)+1:=by omega
    rw[this,Nat.succ_mul];simp
   simp only;rw[if_pos (by omega)];congr 1;apply List.ext_getElem?;intro j;by_cases hj:j<n*s
   ·have hq:j / s<n:=by rw[Nat.div_lt_iff_lt_mul hs];exact hj
    have hj2:=Nat.div_add_mod j s;have hmod:=Nat.mod_lt j hs
    have h8:=h (j / s) _ (List.getElem?_eq_getElem (by omega));split at h8
    ·have h9:=congrArg (·[j % s]?) (Option.some.inj h8);simp only[List.getElem?_take,if_pos hmod,List.getElem?_drop] at h9;rw[List.getElem?_take,if_pos hj,List.getElem?_drop];have e1:o+j / s*s+j % s=o+j:=by rw[Nat.add_assoc,Nat.mul_comm,hj2]
     rw[e1] at h9;rw[h9];have h10:=zrn hl (List.getElem?_eq_getElem (show j / s<cl.length by omega))
     have h11:=congrArg (·[j % s]?) h10;simp only[List.getElem?_take,if_pos hmod,List.getElem?_drop] at h11;rw[Nat.mul_comm,hj2] at h11;exact h11.symm
    ·cases h8
   ·rw[List.getElem?_eq_none (by simp;omega),List.getElem?_eq_none (by omega)]
  | _=>rw[hM] at hlast;cases hlast
theorem pick {α β:Type} {p:Nat→α→β→Prop}:∀ {n:Nat} (_:∀ i,i<n→∃ a b,p i a b),∃ (l:List α) (r:List β),l.length=n∧r.length=n∧∀ (i:Nat) a b,l[i]? = some a→r[i]? = some b→p i a b
 | 0,_=>⟨[],[],rfl,rfl,by simp⟩
 | n+1,h=>by
  obtain⟨l,r,h1,h2,h3⟩:=pick (n:=n) fun i hi=>h i (by omega)
  obtain⟨a,b,hab⟩:=h n (by omega);refine⟨l++[a],r++[b],by simp[h1],by simp[h2],fun i a' b' ha hb=>?_⟩;by_cases hi:i<n
  ·rw[List.getElem?_append_left (by omega)] at ha hb;exact h3 i a' b' ha hb
  ·have hl:=(List.getElem?_eq_some_iff.1 ha).1;simp at hl;have:i=n:=by omega
   subst this;rw[List.getElem?_append_right (by omega)] at ha hb;simp[h1,h2] at ha hb;subst ha;subst hb;exact hab
theorem Reads.slice {t e:TypeId} {s:Nat} {α:Type} {R:Mem→List Value→α→Prop} (hu:Tryz.prog.underlying t=some (.slice e)) (hc:Tryz.prog.cellsOf e=s) (hs:0<s) (hr:Reads e s R) :
  Reads t 1 fun M cs (l:List α)=>∃ a n c,cs=[.slice a n c]∧Elems M s a n (R M) l∧n≤1048576∧n≤c:=by
 intro H enc W fuel cs d ps h hb;cases fuel with
 | zero=>simp[DataW.trod] at h
 | succ m=>
  unfold DataW.trod at h;rw[hu] at h;split at h<;>first|(simp at *; done)|skip
  ·exact⟨rfl,[],none,0,0,rfl,Elems.nil _ _ _,by omega,Nat.le_refl _⟩
  ·rename_i e' a len cap h1;cases h1;rw[hc] at h;dsimp only at h;split at h
   ·rename_i hcond;simp only[Option.bind_eq_some_iff,Option.map_eq_some_iff] at h;obtain⟨els,hels,rest,hrest,hd⟩:=h;simp only[Prod.mk.injEq] at hd;obtain⟨hd, -⟩:=hd;subst hd;simp only[Rows.uptoBulk] at hb;have hlen:=mapM_some_length hels
    rw[List.length_range] at hlen;have hle:=length_le (els.map (·.1))
    rw[List.length_map] at hle
    have hel:∀ i (hi:i<len),∃ (cs:List Value) (x:α),W.cells? 0 (a.add (i*s)) s=some cs∧cs.length=s∧R (zj W) cs x:=by
     intro i hi;have h3:=mapM_some_get hels i i (by simp[hi])
     rw[List.getElem?_eq_getElem (by omega)] at h3;obtain⟨cs,h4,h5⟩:=Option.bind_eq_some_iff.1 h3
     obtain⟨h6,x,h7⟩:=hr H enc W m cs _ _ h5 (by
      have:=part_le (List.mem_map.2 ⟨els[i]'(by omega),List.getElem_mem _,rfl⟩:(els[i]'(by omega)).1∈els.map (·.1))
      exact Nat.le_trans this (by omega))
     exact⟨cs,x,h4,h6,h7⟩
    refine⟨rfl,?_⟩;by_cases hz:len=0
    ·subst hz;exact⟨[],a,0,cap,rfl,⟨[],⟨by simp,.inl rfl⟩,rfl,rfl,by simp,by simp⟩,by omega,Nat.zero_le _⟩
    obtain⟨b,o,f⟩:=a;obtain⟨cs0,x0,h0,hl0,_⟩:=hel 0 (by omega)
    have hf:f=none:=by
     have h8:W.cells? 0 (⟨b,o,f⟩:Addr) s=some cs0:=by simpa[Addr.add] using h0
     unfold World.cells? at h8;simp only[Nat.zero_le,if_true] at h8;have h9:=mapM_some_get h8 0 0 (by simp[hs])
     rw[List.getElem?_eq_getElem (by omega)] at h9;simp only[World.cell?, Addr.add,if_true] at h9;split at h9
     ·split at h9
      ·cases h9
      ·rename_i hn;simpa using hn
     ·cases h9
    subst hf;obtain⟨cl,xl,hcl,hxl,hp⟩:=pick hel
    have hflat:cl.flatten.length=len*s:=by
     rw[List.length_flatten]
     have:cl.map List.length=List.replicate len s:=by
      apply List.ext_getElem (by simp[hcl]);intro i h1 h2;simp at h1;simp[(hp i _ _ (List.getElem?_eq_getElem h1) (List.getElem?_eq_getElem (by omega))).2.1]
     rw[this];simp
    have hrow:∀ i (hi:i<len),∀ cs,cl[i]? = some cs→(zj W).row b (o+i*s) s=some cs:=by
     intro i hi cs hc;have h8:=(hp i _ _ hc (List.getElem?_eq_getElem (by omega))).1
     rw[zcN] at h8;exact zLU rfl hs h8
    refine⟨xl,some ⟨b,o,none⟩,len,cap,rfl,⟨cl,⟨hflat,.inr ⟨b,o,rfl,zHm cl hs (by rw[hcl];omega) (fun i cs hc=>hrow i (by have:=(List.getElem?_eq_some_iff.1 hc).1;omega) cs hc) (fun cs hc=>?_) hcl⟩⟩,hcl,hxl,fun cs hc=>?_,fun i cs x hi hx=>(hp i cs x hi hx).2.2⟩,by omega,hcond.2.1⟩
    all_goals
     obtain⟨i,hi,rfl⟩:=List.mem_iff_getElem.1 hc;exact(hp i _ _ (List.getElem?_eq_getElem hi) (List.getElem?_eq_getElem (by omega))).2.1
   ·cases h
theorem zpU {H:Type} {enc:TypeId×Value→H} {W:World}:∀ {ts:List TypeId} {vs:List Value} {ds:List (DataW H)} {ps:List MemPlace},DataW.TrodAll enc Tryz.prog W 0 (fun _=>true) true ts vs ds ps→ds.length=ts.length
 | [],vs,ds,ps,h=>by obtain⟨_,rfl,_⟩:=trodAll_nil h;rfl
 | t::ts,vs,ds,ps,h=>by obtain⟨v,vs',d,ds',p,q,_,rfl,_,_,h⟩:=trodAll_cons h;simp[zpU h]
theorem zrp {H:Type} {enc:TypeId×Value→H} {W W':World} (hbel:Below W.heap.size W W') {sp:Nat→Bool}:∀ {ts:List TypeId} {vs:List Value} {ds:List (DataW H)} {ps:List MemPlace},
  DataW.TrodAll enc Tryz.prog W 0 (fun _=>true) true ts vs ds ps→(∀ t∈ts,Tryz.prog.readableRec t=true∧t<Tryz.prog.types.size)→(∀ x∈ps,x.block<W.heap.size)→(∀ x∈ps,sp x.block=true)→DataW.TrodAll enc Tryz.prog W' 0 sp true ts vs ds ps
 | [],vs,ds,ps,h,_,_,_=>by obtain⟨rfl,rfl,rfl⟩:=trodAll_nil h;exact trodAll_mk0
 | t::ts,vs,ds,ps,h,hr,hlt,hsp=>by
  obtain⟨v,vs',d,ds',p1,p2,rfl,rfl,rfl,h0,hA⟩:=trodAll_cons h;obtain⟨h1,h2⟩:=hr t (by simp)
  exact trodAll_cons_mk (WideElems.Trod_stays zLT h1 h2 h0 (fun x hx=>hbel.same (hlt x (List.mem_append_left _ hx))) (fun x hx=>hsp x (List.mem_append_left _ hx)))
   (zrp hbel hA (fun x hx=>hr x (List.mem_cons_of_mem _ hx)) (fun x hx=>hlt x (List.mem_append_right _ hx)) (fun x hx=>hsp x (List.mem_append_right _ hx)))
set_option maxRecDepth 10000 in
theorem zOn {fn:Func} {f:Nat} {s:ChangeSpec} {handsOn again fresh:Bool} (hs:∀ H (ds:List (DataW H)),ds.length=fn.params.size→(s.fn H ds).results=[.lit (.bool true)]∧(s.fn H ds).args=ds∧(s.fn H ds).vars=[])
  (hv:s.vars=[]) (hres:fn.resultTypes = #[T.zAZ]) (hread':fn.params.toList.all (fun t=>Tryz.prog.readableRec t&&decide (t<Tryz.prog.types.size))=true)
  (H:Type) (enc:TypeId×Value→H) (W:World) (args:Array Value) (ds gs:List (DataW H)) (before:List MemPlace)
  (hW:DataW.Whole enc Tryz.prog fn.params.toList s.vars false W args.toList ds gs before) (law:CallsM Tryz.prog f args.toList (zj W) fun v M'=>v = .bool true∧(zj W).le M') :
  Calls Tryz.prog f args W fun e W'=>∃ v,e = .returned v∧s.post enc Tryz.prog fn false fresh handsOn again W args v W':=by
 have hread:∀ t∈fn.params.toList,Tryz.prog.readableRec t=true∧t<Tryz.prog.types.size:=fun t ht=>by
  have:=List.all_eq_true.1 hread' t ht;simpa using this
 have hW':=hW;obtain⟨p,q,hA,hV,rfl,hfz,hnd⟩:=hW;rw[hv] at hV;obtain⟨rfl,rfl⟩:=trodVars_none hV;have hlen:ds.length=fn.params.size:=by simpa using zpU hA
 simp only[List.append_nil] at hW';obtain⟨h1,h2,h3⟩:=hs H ds hlen;have:=law.2 (fun _=>none) W (Mem.le_refl _) (fun _ _ h=>by cases h) (fun _ => .inr rfl)
 simp only[Array.toArray_toList] at this;refine this.mono fun e W' ⟨v,M',he,⟨hvt,hle⟩,hM',_,_,hos,hout,htape,hsz⟩=>?_
 subst he;subst hvt;have hbel:Below W.heap.size W W':=zJC (Mem.le_trans hle hM') hos htape hout hsz.1
 have hlt:∀ x∈p,x.block<W.heap.size:=fun x hx=>by simpa using hW'.lt x hx
 have hres':∀ (b:Nat) (sp:Nat→Bool) (hd:Bool),DataW.TrodAll enc Tryz.prog W' b sp hd fn.resultTypes.toList ((Value.bool true).resultList fn.resultTypes.size) (s.fn H (ds++[])).results []:=fun b sp hd=>by
  rw[List.append_nil,h1,hres];exact trodAll_cons_mk (shut_bool zzD _) trodAll_mk0
 have hargs':∀ sp:Nat→Bool,(∀ x∈p,sp x.block=true)→DataW.TrodAll enc Tryz.prog W' 0 sp true fn.params.toList args.toList (s.fn H (ds++[])).args p:=fun sp hsp=>by
  rw[List.append_nil,h2];exact zrp hbel hA hread hlt hsp
 have hvars':∀ sp:Nat→Bool,DataW.TrodVars enc Tryz.prog W' sp s.vars (s.fn H (ds++[])).vars []:=fun sp=>by rw[hv,List.append_nil,h3];exact rfl
 have hbelow:∀ x∈p,decide (x.block<W.heap.size)=true:=fun x hx=>decide_eq_true (hlt x hx)
 have hub:Tryz.prog.underlying T.zAZ=some .bool:=zzD;have hok:=ok_one (P:=Tryz.prog) (W':=W') (v := .bool true) hres rfl (okWide_bool_mk hub true)
 have hkept:=hbel.frame (fun x=>x∈p∧(x∈([]:List MemPlace)∨x∈p∨x∈([]:List MemPlace)));refine⟨_,rfl,ds,[],p,[],p,[],hW',hres' _ _ _,hargs' _ hbelow,hvars' _,hkept,fun _=>⟨hok,_,_,([]++p)++[],⟨[]++p,[],trodAll_append (hargs' _ (fun _ _=>rfl)) (hres' _ _ _),hvars' _,rfl,?_,?_⟩,?_⟩⟩
 ·intro b off hx;have hx':MemPlace.cell b off∈p:=by simpa using hx
  rw[hbel.frozen (p:=⟨b,off,none⟩) (hlt _ hx')];exact hfz b off (by simpa using hx')
 ·intro h;cases h
 ·intro x hx _;simpa using hx
theorem zLV {v x:Value} (hn:∀ cs,v ≠ .agg cs) (hx:v.cells.toList=[x]):v=x:=by
 unfold Value.cells at hx;split at hx
 ·exact absurd rfl (hn _)
 ·simpa using hx
theorem zJD {t:TypeId} {d:TypeDesc} (hu:Tryz.prog.underlying t=some d) (hd:(match d with | .int _ | .bool | .string | .slice _=>true|_=>false)=true) {W:World} {base:Nat} {v x:Value} (h:Value.okWide Tryz.prog W .any base t v) (hx:v.cells.toList=[x]):v=x:=by
 refine zLV (fun cs e=>?_) hx;rw[e] at h;cases d with
 | int k=>simp[Value.okWide,Cell.okWide,Cell.ok,hu] at h
 | bool=>simp[Value.okWide,Cell.okWide,Cell.ok,hu] at h
 | string=>simp[Value.okWide,Cell.okWide,Cell.ok,hu] at h
 | slice e'=>simp[Value.okWide,Cell.okWide,Cell.ok,hu] at h
 | _=>cases hd
theorem zOo {H:Type} {ds:List (DataW H)} (h:Rows.uptoSmall H (ds++[])=true):∀ d∈ds,Rows.uptoBulk d≤1048576:=fun d hd=>by
 have h1:Rows.uptoBulkAll (ds++[])≤1048576:=Zd0 h;rw[List.append_nil] at h1;exact Nat.le_trans (part_le hd) h1
end Br
end Go.Proofs.YtpnhjkiligohnaaGreatDoor
namespace Go.Proofs.YtpnhjkiligohnaaGreatDoor
open Go Go.Vm
attribute [local irreducible] Brn Ob Grow CallsM inR zay zav Mem.row Mem.cells Mem.setCells Mem.upd Go.Vm.Own zaU zbF zbE zaV New SrcOk zah NewSl Mem.textAt Mem.mapAt Mem.iterAt zak kfind Wr NewEls Elems
set_option maxRecDepth 10000
variable {M B:Mem}
def zp (P:List UInt8) (v m:Nat):Nat:=(P.getD v 0).toNat % m
def zbp (P:List UInt8) (v k:Nat):List UInt8:=(List.range k).map fun j=>P.getD (v+j) 0
structure ztx where
 kind:Nat
 node:Nat
 to:Nat
 n:Nat
 data:List UInt8
def zbl (P:List UInt8) (nodes v r:Nat):ztx×Nat:=
 match r with
 | 0=>(⟨1,zp P (v+1) nodes,zp P (v+2) 256,0,zbp P (v+4) (zp P (v+3) 64)⟩,v+4+zp P (v+3) 64)
 | 2=>(⟨3,0,0,0,[]⟩,v+1)
 | 3=>(⟨4,zp P (v+1) nodes,zp P (v+2) nodes,zp P (v+3) 256,[]⟩,v+4)
 | 4=>(⟨5,zp P (v+1) nodes,zp P (v+2) nodes,zp P (v+3) 256,zbp P (v+4) 1⟩,v+5)
 | 5=>(⟨6,zp P (v+1) nodes,zp P (v+2) nodes,zp P (v+3) 256,zbp P (v+4) 1⟩,v+5)
 | 6=>(⟨7,zp P (v+1) nodes,0,0,zbp P (v+3) (zp P (v+2) 8)⟩,v+3+zp P (v+2) 8)
 | 8=>(⟨9,zp P (v+1) nodes,0,256*zp P (v+2) 256,[]⟩,v+3)
 | 10=>(⟨11,zp P (v+1) nodes,0,zp P (v+2) 64,[]⟩,v+3)
 | 11=>(⟨12,0,0,zp P (v+1) 256,[]⟩,v+2)
 | k=>(⟨k+1,zp P (v+1) nodes,0,0,[]⟩,v+2)
def zcF (P:List UInt8) (nodes v:Nat):ztx×Nat:=zbl P nodes v (zp P v 12)
def TkAt (B M:Mem) (bt bp:Nat) (a:Option Addr) (n c:Nat) (P:List UInt8) (v:Nat):Prop:=
 B.le M∧B bt=none∧M.has bt T.int [.int .i64 (min v n:Nat)]∧B.has bp T.zl9 [.slice a n c]∧SrcOk B 1 a n (P.map z7)∧n≤1048576
@[reducible] def zOp (bt bp:Nat):Value := .func (.func F.zbk) #[] #[ptr bt,ptr bp]
theorem zbq {P:List UInt8} {v m:Nat} (h:0<m):zp P v m<m:=Nat.mod_lt _ h
theorem zw {bt bp:Nat} {a:Option Addr} {n c:Nat} {P:List UInt8} {v:Nat} (h:TkAt B M bt bp a n c P v) {m:Nat} (hm:0<m) (hm2:m≤1000000) :
  CallsM Tryz.prog F.zbk [.int .i64 m,ptr bt,ptr bp] M fun u M'=>u = .int .i64 (zp P v m:Nat)∧TkAt B M' bt bp a n c P (v+1)∧Mem.keep (fun y=>y=bt) M M':=by
 obtain⟨hle,hbt,hh,hp,hs,hn⟩:=h;have hl:=hs.maplen
 have hp':=Mem.has.le hle hp;obtain⟨w,hw⟩:∃ w:Nat,w=min v n:=⟨_,rfl⟩
 rw[←hw] at hh;refine zsp (by simp) ?_;refine zR ?_;refine on (hh.c1 rfl) ?_;refine zR ?_;refine on (hp'.c1 rfl) ?_;(conv=>whnf);refine brn (fun g=>?_) (fun g=>?_)
 ·have g':=Zd0 g;have e0:zp P v m=0:=by unfold zp;rw[List.getD_eq_getElem?_getD,List.getElem?_eq_none (by omega)];simp
  refine zR ?_;refine⟨by rw[e0];rfl,⟨hle,hbt,?_,hp,hs,hn⟩,Mem.keep_refl _ _⟩;rw[show min (v+1) n=w by omega];exact hh
 ·have g':=Zd1 g;have hv:v<n:=by omega
  have e1:w=v:=by omega
  subst e1;obtain⟨hk,b2,o2,ha2,hr2⟩:=hs.at hv;have e0:zp P w m=P[w].toNat % m:=by unfold zp;rw[List.getD_eq_getElem?_getD,List.getElem?_eq_getElem hk];rfl
  generalize P[w]=x at *;have hx:=UInt8.toNat_lt x
  (conv=>whnf);refine on (hh.c1 rfl) ?_;(conv=>whnf);refine obr (zm (by first|omega|(dsimp only;omega))) ?_;(conv=>whnf);refine on hh.cells ?_;(conv=>whnf);refine ob (by simp) ?_;obtain⟨M1,hM1⟩:∃ M1,M1=M.setCells bt T.int [.int .i64 ((w:Int)+1)]:=⟨_,rfl⟩
  have hk1:Mem.keep (fun y=>y=bt) M M1:=fun y o hy ho=>by rw[hM1];unfold Mem.setCells;rw[Mem.upd_ne _ _ hy];exact ho
  have hle1:B.le M1:=hk1.le hle (fun _ e=>e▸hbt);have hh1:M1.has bt T.int [.int .i64 ((w:Int)+1)]:=hM1▸Mem.has_setCells
  have hp1:=Mem.has.le hle1 hp;have hr1:M1.row b2 (o2+w*1) 1=some [z7 x]:=Mem.row_le hle1 hr2
  (conv=>whnf);erw [←hM1];refine on (hp1.c1 rfl) ?_;(conv=>whnf);refine on (hh1.c1 rfl) ?_;(conv=>whnf);refine obr (zm (by first|omega|(dsimp only;omega))) ?_;rw[show (w:Int)+1 - 1=w by omega];(conv=>whnf);refine ob (by first|omega|(dsimp only;omega)) ?_;(conv=>whnf);refine atp ha2 ?_;(conv=>whnf);refine on hr1 ?_;(conv=>whnf);refine ob (by omega) ?_;(conv=>whnf)
  rw[e0];refine⟨?_,⟨hle1,hbt,?_,hp,hs,hn⟩,hk1⟩
  ·rw[show IntKind.i64.wrap (x.toNat:Int)=((x.toNat:Nat):Int) by rw[IntKind.wrap_i64];omega];rfl
  ·rw[show min (w+1) n=w+1 by omega];exact hh1
end Go.Proofs.YtpnhjkiligohnaaGreatDoor
