/- Part of this proof;laid by program. -/
import Derived.Test.YtpnhjkiligohnaaGreatDoorRows
import Derived.Test.YtpnhjkiligohnaaGreatDoorJ7
import Derived.WalkKit
import Derived.ProofKit
import Derived.OpenShut
import Derived.JoinedCond
import Derived.Test.YtpnhjkiligohnaaGreatDoorJ9
import Derived.Test.YtpnhjkiligohnaaGreatDoorJ6
set_option linter.unusedVariables false
set_option linter.unusedSimpArgs false
namespace Go.Proofs.YtpnhjkiligohnaaGreatDoor
open Go.ChangeShapes Go.WideShapes Go.ChangeAt Go.RowKit Go.Vm
namespace Br
set_option maxRecDepth 100000
theorem own:ownKnob Tryz.prog.godebug=none:=by kernel_rfl
theorem zEA:Tryz.prog.underlying T.zar=some .bool:=by kernel_rfl
theorem zR2:laidOutB Tryz.prog=true:=by kernel_rfl
theorem zTD {H:Type} (d:DataW H):1≤Rows.uptoBulk d:=by
 cases d with
 | lit l=>cases l<;>simp[Rows.uptoBulk]
 | nil=>simp[Rows.uptoBulk]
 | ptr d=>simp[Rows.uptoBulk]
 | slice elems spare=>simp[Rows.uptoBulk]
 | agg parts=>simp[Rows.uptoBulk]
 | iface t d=>simp[Rows.uptoBulk]
 | map entries=>simp[Rows.uptoBulk]
 | held h=>simp[Rows.uptoBulk]
theorem part_le {H:Type} {d:DataW H} {l:List (DataW H)} (h:d∈l):Rows.uptoBulk d≤Rows.uptoBulkAll l:=by
 induction l with
 | nil=>cases h
 | cons x r ih=>
  simp only[Rows.uptoBulkAll];cases List.mem_cons.1 h with
  | inl e=>subst e;omega
  | inr e=>have:=ih e;omega
theorem zNF {H:Type} (l:List (DataW H)):l.length≤Rows.uptoBulkAll l:=by
 induction l with
 | nil=>simp[Rows.uptoBulkAll]
 | cons x r ih=>have:=zTD x;simp only[Rows.uptoBulkAll,List.length_cons];omega
def Reads (t:TypeId) (s:Nat) {α:Type} (R:Mem→List Value→α→Prop):Prop:=
 ∀ (H:Type) (enc:TypeId×Value→H) (W:World) (fuel:Nat) (cs:List Value) (d:DataW H) (ps:List MemPlace),
  DataW.trod enc Tryz.prog W 0 (fun _=>true) true fuel t cs=some (d,ps)→Rows.uptoBulk d≤1048576→cs.length=s∧∃ x,R (zq W) cs x
def zCK (k:IntKind) (n:Int):Prop:=(Lit.int k n).wf=true
theorem Reads.int {t:TypeId} {k:IntKind} (hu:Tryz.prog.underlying t=some (.int k)):Reads t 1 fun (_:Mem) cs (n:Int)=>cs=[.int k n]∧zCK k n:=by
 intro H enc W fuel cs d ps h _;cases fuel with
 | zero=>simp[DataW.trod] at h
 | succ m=>
  unfold DataW.trod at h;rw[hu] at h;split at h<;>first|(simp at *; done)|skip
  rename_i k2 k1 n e1;split at h
  ·rename_i hk;cases e1;exact⟨rfl,n,by rw[hk.1],hk.2⟩
  ·cases h
theorem zR3 {W:World} {b o n:Nat} {f:Option Nat} {vs:List Value} (hf:f=none) (hn:0<n) (h:W.cells? 0 ⟨b,o,f⟩ n=some vs):(zq W).row b o n=some vs:=by
 subst hf;unfold World.cells? at h;simp only[Nat.zero_le,if_true] at h;have hl:=mapM_some_length h
 have hg:∀ i,i<n→W.cell? ⟨b,o+i,none⟩=vs[i]? := fun i hi=>by
  have:=mapM_some_get h i i (by simp[hi])
  rwa [zef] at this
 have h0:=hg 0 hn;rw[List.length_range] at hl;unfold Mem.row zq;cases hw:W.heap[b]? with
 | none=>
  simp only[World.cell?, hw] at h0;rw[List.getElem?_eq_getElem (by omega)] at h0;cases h0
 | some ob=>
  cases ob with
  | cells c e fz=>
   have hc:∀ i,i<n→c[o+i]? = vs[i]? := fun i hi=>by
    have:=hg i hi;simpa[World.cell?, hw] using this
   have hlast:=hc (n - 1) (by omega);rw[List.getElem?_eq_getElem (by omega)] at hlast;have hsz:=(Array.getElem?_eq_some_iff.1 hlast).1
   simp only;rw[if_pos (by omega)];congr 1;apply List.ext_getElem?;intro i;by_cases hi:i<n
   ·rw[List.getElem?_take,if_pos hi,List.getElem?_drop,Array.getElem?_toList,hc i hi]
   ·rw[List.getElem?_take,if_neg hi,List.getElem?_eq_none (by omega)]
  | _=>
   simp only[World.cell?, hw] at h0;rw[List.getElem?_eq_getElem (by omega)] at h0;cases h0
theorem zPU {W W':World} (h:(zq W).le (zq W')) (hos:W'.os=W.os) (ht:W'.tape=W.tape) (ho:W'.output=W.output) (hs:W.heap.size≤W'.heap.size):Below W.heap.size W W':=
 ⟨hos,ht,ho,hs,fun k hk=>by
  have:W.heap[k]? = some W.heap[k]:=Array.getElem?_eq_getElem hk;rw[this]
  exact h k _ this⟩
theorem zNG {M:Mem} {b o s:Nat} (cl:List (List Value)) (hs:0<s) (hne:cl.length≠0) (h:∀ i cs,cl[i]? = some cs→M.row b (o+i*s) s=some cs) (hl:∀ cs∈cl,cs.length=s) {n:Nat} (hn:cl.length=n) :
  M.row b o (n*s)=some cl.flatten:=by
 have hflat:cl.flatten.length=n*s:=by
  rw[List.length_flatten]
  have:cl.map List.length=List.replicate n s:=by
   apply List.ext_getElem (by simp[hn]);intro i h1 h2;simp at h1;simp[hl _ (List.getElem_mem h1)]
  rw[this];simp
 have hlast:=h (n - 1) _ (List.getElem?_eq_getElem (by omega));unfold Mem.row at h hlast ⊢;cases hM:M b with
 | none=>rw[hM] at hlast;cases hlast
 | some ob=>
  cases ob with
  | cells c e fz=>
   rw[hM] at hlast;simp only[hM] at h
   have hsz:o+(n - 1)*s+s≤c.size:=by
    simp only at hlast;split at hlast
    ·assumption
    ·cases hlast
   have hmul:n*s=(n - 1)*s+s:=by
    have:n=(n - 1)+1:=by omega
    rw[this,Nat.succ_mul];simp
   simp only;rw[if_pos (by omega)];congr 1;apply List.ext_getElem?;intro j;by_cases hj:j<n*s
   ·have hq:j / s<n:=by rw[Nat.div_lt_iff_lt_mul hs];exact hj
    have hj2:=Nat.div_add_mod j s;have hmod:=Nat.mod_lt j hs
    have h8:=h (j / s) _ (List.getElem?_eq_getElem (by omega));split at h8
    ·have h9:=congrArg (·[j % s]?) (Option.some.inj h8);simp only[List.getElem?_take,if_pos hmod,List.getElem?_drop] at h9;rw[List.getElem?_take,if_pos hj,List.getElem?_drop];have e1:o+j / s*s+j % s=o+j:=by rw[Nat.add_assoc,Nat.mul_comm,hj2]
     rw[e1] at h9;rw[h9];have h10:=zpV hl (List.getElem?_eq_getElem (show j / s<cl.length by omega))
     have h11:=congrArg (·[j % s]?) h10;simp only[List.getElem?_take,if_pos hmod,List.getElem?_drop] at h11;rw[Nat.mul_comm,hj2] at h11;exact h11.symm
    ·cases h8
   ·rw[List.getElem?_eq_none (by simp;omega),List.getElem?_eq_none (by omega)]
  | _=>rw[hM] at hlast;cases hlast
theorem pick {α β:Type} {p:Nat→α→β→Prop}:∀ {n:Nat} (_:∀ i,i<n→∃ a b,p i a b),∃ (l:List α) (r:List β),l.length=n∧r.length=n∧∀ (i:Nat) a b,l[i]? = some a→r[i]? = some b→p i a b
 | 0,_=>⟨[],[],rfl,rfl,by simp⟩
 | n+1,h=>by
  obtain⟨l,r,h1,h2,h3⟩:=pick (n:=n) fun i hi=>h i (by omega)
  obtain⟨a,b,hab⟩:=h n (by omega);refine⟨l++[a],r++[b],by simp[h1],by simp[h2],fun i a' b' ha hb=>?_⟩;by_cases hi:i<n
  ·rw[List.getElem?_append_left (by omega)] at ha hb;exact h3 i a' b' ha hb
  ·have hl:=(List.getElem?_eq_some_iff.1 ha).1;simp at hl;have:i=n:=by omega
   subst this;rw[List.getElem?_append_right (by omega)] at ha hb;simp[h1,h2] at ha hb;subst ha;subst hb;exact hab
theorem Reads.slice {t e:TypeId} {s:Nat} {α:Type} {R:Mem→List Value→α→Prop} (hu:Tryz.prog.underlying t=some (.slice e)) (hc:Tryz.prog.cellsOf e=s) (hs:0<s) (hr:Reads e s R) :
  Reads t 1 fun M cs (l:List α)=>∃ a n c,cs=[.slice a n c]∧Elems M s a n (R M) l∧n≤1048576∧n≤c:=by
 intro H enc W fuel cs d ps h hb;cases fuel with
 | zero=>simp[DataW.trod] at h
 | succ m=>
  unfold DataW.trod at h;rw[hu] at h;split at h<;>first|(simp at *; done)|skip
  ·exact⟨rfl,[],none,0,0,rfl,Elems.nil _ _ _,by omega,Nat.le_refl _⟩
  ·rename_i e' a len cap h1;cases h1;rw[hc] at h;dsimp only at h;split at h
   ·rename_i hcond;simp only[Option.bind_eq_some_iff,Option.map_eq_some_iff] at h;obtain⟨els,hels,rest,hrest,hd⟩:=h;simp only[Prod.mk.injEq] at hd;obtain⟨hd, -⟩:=hd;subst hd;simp only[Rows.uptoBulk] at hb;have hlen:=mapM_some_length hels
    rw[List.length_range] at hlen;have hle:=zNF (els.map (·.1))
    rw[List.length_map] at hle
    have hel:∀ i (hi:i<len),∃ (cs:List Value) (x:α),W.cells? 0 (a.add (i*s)) s=some cs∧cs.length=s∧R (zq W) cs x:=by
     intro i hi;have h3:=mapM_some_get hels i i (by simp[hi])
     rw[List.getElem?_eq_getElem (by omega)] at h3;obtain⟨cs,h4,h5⟩:=Option.bind_eq_some_iff.1 h3
     obtain⟨h6,x,h7⟩:=hr H enc W m cs _ _ h5 (by
      have:=part_le (List.mem_map.2 ⟨els[i]'(by omega),List.getElem_mem _,rfl⟩:(els[i]'(by omega)).1∈els.map (·.1))
      exact Nat.le_trans this (by omega))
     exact⟨cs,x,h4,h6,h7⟩
    refine⟨rfl,?_⟩;by_cases hz:len=0
    ·subst hz;exact⟨[],a,0,cap,rfl,⟨[],⟨by simp,.inl rfl⟩,rfl,rfl,by simp,by simp⟩,by omega,Nat.zero_le _⟩
    obtain⟨b,o,f⟩:=a;obtain⟨cs0,x0,h0,hl0,_⟩:=hel 0 (by omega)
    have hf:f=none:=by
     have h8:W.cells? 0 (⟨b,o,f⟩:Addr) s=some cs0:=by simpa[Addr.add] using h0
     unfold World.cells? at h8;simp only[Nat.zero_le,if_true] at h8;have h9:=mapM_some_get h8 0 0 (by simp[hs])
     rw[List.getElem?_eq_getElem (by omega)] at h9;simp only[World.cell?, Addr.add,if_true] at h9;split at h9
     ·split at h9
      ·cases h9
      ·rename_i hn;simpa using hn
     ·cases h9
    subst hf;obtain⟨cl,xl,hcl,hxl,hp⟩:=pick hel
    have hflat:cl.flatten.length=len*s:=by
     rw[List.length_flatten]
     have:cl.map List.length=List.replicate len s:=by
      apply List.ext_getElem (by simp[hcl]);intro i h1 h2;simp at h1;simp[(hp i _ _ (List.getElem?_eq_getElem h1) (List.getElem?_eq_getElem (by omega))).2.1]
     rw[this];simp
    have hrow:∀ i (hi:i<len),∀ cs,cl[i]? = some cs→(zq W).row b (o+i*s) s=some cs:=by
     intro i hi cs hc;have h8:=(hp i _ _ hc (List.getElem?_eq_getElem (by omega))).1
     rw[zef] at h8;exact zR3 rfl hs h8
    refine⟨xl,some ⟨b,o,none⟩,len,cap,rfl,⟨cl,⟨hflat,.inr ⟨b,o,rfl,zNG cl hs (by rw[hcl];omega) (fun i cs hc=>hrow i (by have:=(List.getElem?_eq_some_iff.1 hc).1;omega) cs hc) (fun cs hc=>?_) hcl⟩⟩,hcl,hxl,fun cs hc=>?_,fun i cs x hi hx=>(hp i cs x hi hx).2.2⟩,by omega,hcond.2.1⟩
    all_goals
     obtain⟨i,hi,rfl⟩:=List.mem_iff_getElem.1 hc;exact(hp i _ _ (List.getElem?_eq_getElem hi) (List.getElem?_eq_getElem (by omega))).2.1
   ·cases h
theorem field {t:TypeId} {fs:Array Field} (hu:Tryz.prog.underlying t=some (.struct fs)) {H:Type} {enc:TypeId×Value→H} {W:World} {fuel:Nat} {cs:List Value} {d:DataW H} {ps:List MemPlace}
  (h:DataW.trod enc Tryz.prog W 0 (fun _=>true) true fuel t cs=some (d,ps)) (hb:Rows.uptoBulk d≤1048576) :
  cs.length=Tryz.prog.cellsOf t∧∀ (i:Nat) f,fs[i]? = some f→∀ (s:Nat) {α:Type} {R:Mem→List Value→α→Prop},Reads f.type s R→Tryz.prog.cellsOf f.type=s→((cs.drop f.offset).take s).length=s∧∃ x,R (zq W) ((cs.drop f.offset).take s) x:=by
 obtain⟨xs,m,rfl,hd,hl,hlen,hf⟩:=DataW.trod_struct hu h;refine⟨hl,fun i f hi s α R hr hs=>?_⟩;have h1:=hf i f hi
 have hlt:i<xs.length:=by rw[hlen];exact(Array.getElem?_eq_some_iff.1 hi).1
 rw[List.getElem?_eq_getElem hlt,hs] at h1;cases hd
 exact hr H enc W _ _ _ _ h1 (by
  have:=part_le (List.mem_map.2 ⟨xs[i],List.getElem_mem _,rfl⟩:xs[i].1∈xs.map (·.1));simp only[Rows.uptoBulk] at hb
  exact Nat.le_trans this (by omega))
def Chunks (cs:List Value):Nat→List (List Value)→Prop
 | o,[]=>cs.length=o
 | o,c::r=>(cs.drop o).take c.length=c∧Chunks cs (o+c.length) r
theorem Chunks.drop {cs:List Value}:∀ {o:Nat} {l:List (List Value)},Chunks cs o l→cs.drop o=l.flatten
 | o,[],h=>by rw[List.drop_eq_nil_iff.2 (by simp only[Chunks] at h;omega)];rfl
 | o,c::r,⟨h1,h2⟩=>by
  rw[List.flatten_cons,←h2.drop,←List.drop_drop,←List.take_append_drop c.length (cs.drop o),h1];simp
theorem Chunks.eq {cs:List Value} {l:List (List Value)} (h:Chunks cs 0 l):cs=l.flatten:=by simpa using h.drop
theorem ztS {H:Type} {enc:TypeId×Value→H} {W:World}:∀ {ts:List TypeId} {vs:List Value} {ds:List (DataW H)} {ps:List MemPlace},DataW.TrodAll enc Tryz.prog W 0 (fun _=>true) true ts vs ds ps→ds.length=ts.length
 | [],vs,ds,ps,h=>by obtain⟨_,rfl,_⟩:=trodAll_nil h;rfl
 | t::ts,vs,ds,ps,h=>by obtain⟨v,vs',d,ds',p,q,_,rfl,_,_,h⟩:=trodAll_cons h;simp[ztS h]
theorem zuZ {H:Type} {enc:TypeId×Value→H} {W W':World} (hbel:Below W.heap.size W W') {sp:Nat→Bool}:∀ {ts:List TypeId} {vs:List Value} {ds:List (DataW H)} {ps:List MemPlace},
  DataW.TrodAll enc Tryz.prog W 0 (fun _=>true) true ts vs ds ps→(∀ t∈ts,Tryz.prog.readableRec t=true∧t<Tryz.prog.types.size)→(∀ x∈ps,x.block<W.heap.size)→(∀ x∈ps,sp x.block=true)→DataW.TrodAll enc Tryz.prog W' 0 sp true ts vs ds ps
 | [],vs,ds,ps,h,_,_,_=>by obtain⟨rfl,rfl,rfl⟩:=trodAll_nil h;exact trodAll_mk0
 | t::ts,vs,ds,ps,h,hr,hlt,hsp=>by
  obtain⟨v,vs',d,ds',p1,p2,rfl,rfl,rfl,h0,hA⟩:=trodAll_cons h;obtain⟨h1,h2⟩:=hr t (by simp)
  exact trodAll_cons_mk (WideElems.Trod_stays zR2 h1 h2 h0 (fun x hx=>hbel.same (hlt x (List.mem_append_left _ hx))) (fun x hx=>hsp x (List.mem_append_left _ hx)))
   (zuZ hbel hA (fun x hx=>hr x (List.mem_cons_of_mem _ hx)) (fun x hx=>hlt x (List.mem_append_right _ hx)) (fun x hx=>hsp x (List.mem_append_right _ hx)))
set_option maxRecDepth 10000 in
theorem zVc {fn:Func} {f:Nat} {s:ChangeSpec} {handsOn again fresh:Bool} (hs:∀ H (ds:List (DataW H)),ds.length=fn.params.size→(s.fn H ds).results=[.lit (.bool true)]∧(s.fn H ds).args=ds∧(s.fn H ds).vars=[])
  (hv:s.vars=[]) (hres:fn.resultTypes = #[T.zar]) (hread':fn.params.toList.all (fun t=>Tryz.prog.readableRec t&&decide (t<Tryz.prog.types.size))=true)
  (H:Type) (enc:TypeId×Value→H) (W:World) (args:Array Value) (ds gs:List (DataW H)) (before:List MemPlace)
  (hW:DataW.Whole enc Tryz.prog fn.params.toList s.vars false W args.toList ds gs before) (law:CallsM Tryz.prog f args.toList (zq W) fun v M'=>v = .bool true∧(zq W).le M') :
  Calls Tryz.prog f args W fun e W'=>∃ v,e = .returned v∧s.post enc Tryz.prog fn false fresh handsOn again W args v W':=by
 have hread:∀ t∈fn.params.toList,Tryz.prog.readableRec t=true∧t<Tryz.prog.types.size:=fun t ht=>by
  have:=List.all_eq_true.1 hread' t ht;simpa using this
 have hW':=hW;obtain⟨p,q,hA,hV,rfl,hfz,hnd⟩:=hW;rw[hv] at hV;obtain⟨rfl,rfl⟩:=trodVars_none hV;have hlen:ds.length=fn.params.size:=by simpa using ztS hA
 simp only[List.append_nil] at hW';obtain⟨h1,h2,h3⟩:=hs H ds hlen;have:=law.2 (fun _=>none) W (Mem.le_refl _) (fun _ _ h=>by cases h) (fun _ => .inr rfl)
 simp only[Array.toArray_toList] at this;refine this.mono fun e W' ⟨v,M',he,⟨hvt,hle⟩,hM',_,_,hos,hout,htape,hsz⟩=>?_
 subst he;subst hvt;have hbel:Below W.heap.size W W':=zPU (Mem.le_trans hle hM') hos htape hout hsz.1
 have hlt:∀ x∈p,x.block<W.heap.size:=fun x hx=>by simpa using hW'.lt x hx
 have hres':∀ (b:Nat) (sp:Nat→Bool) (hd:Bool),DataW.TrodAll enc Tryz.prog W' b sp hd fn.resultTypes.toList ((Value.bool true).resultList fn.resultTypes.size) (s.fn H (ds++[])).results []:=fun b sp hd=>by
  rw[List.append_nil,h1,hres];exact trodAll_cons_mk (shut_bool zEA _) trodAll_mk0
 have hargs':∀ sp:Nat→Bool,(∀ x∈p,sp x.block=true)→DataW.TrodAll enc Tryz.prog W' 0 sp true fn.params.toList args.toList (s.fn H (ds++[])).args p:=fun sp hsp=>by
  rw[List.append_nil,h2];exact zuZ hbel hA hread hlt hsp
 have hvars':∀ sp:Nat→Bool,DataW.TrodVars enc Tryz.prog W' sp s.vars (s.fn H (ds++[])).vars []:=fun sp=>by rw[hv,List.append_nil,h3];exact rfl
 have hbelow:∀ x∈p,decide (x.block<W.heap.size)=true:=fun x hx=>decide_eq_true (hlt x hx)
 have hub:Tryz.prog.underlying T.zar=some .bool:=zEA;have hok:=ok_one (P:=Tryz.prog) (W':=W') (v := .bool true) hres rfl (okWide_bool_mk hub true)
 have hkept:=hbel.frame (fun x=>x∈p∧(x∈([]:List MemPlace)∨x∈p∨x∈([]:List MemPlace)));refine⟨_,rfl,ds,[],p,[],p,[],hW',hres' _ _ _,hargs' _ hbelow,hvars' _,hkept,fun _=>⟨hok,_,_,([]++p)++[],⟨[]++p,[],trodAll_append (hargs' _ (fun _ _=>rfl)) (hres' _ _ _),hvars' _,rfl,?_,?_⟩,?_⟩⟩
 ·intro b off hx;have hx':MemPlace.cell b off∈p:=by simpa using hx
  rw[hbel.frozen (p:=⟨b,off,none⟩) (hlt _ hx')];exact hfz b off (by simpa using hx')
 ·intro h;cases h
 ·intro x hx _;simpa using hx
theorem zUm {t:TypeId} {fs:Array Field} (hu:Tryz.prog.underlying t=some (.struct fs)) {W:World} {base:Nat} {v:Value} (h:Value.okWide Tryz.prog W .any base t v):v = .agg v.cells.toList.toArray:=by
 unfold Value.okWide at h;rw[hu] at h;obtain⟨cs,hv,_⟩:=h;rw[hv];rfl
theorem zVd {H:Type} {ds:List (DataW H)} (h:Rows.uptoSmall H (ds++[])=true):∀ d∈ds,Rows.uptoBulk d≤1048576:=fun d hd=>by
 have h1:Rows.uptoBulkAll (ds++[])≤1048576:=Zd0 h;rw[List.append_nil] at h1;exact Nat.le_trans (part_le hd) h1
end Br
end Go.Proofs.YtpnhjkiligohnaaGreatDoor
namespace Go.Proofs.YtpnhjkiligohnaaGreatDoor
open Go Go.Vm
attribute [local irreducible] Brn Ob Grow CallsM inR zbf zaW Mem.row Mem.cells Mem.setCells Mem.upd Go.Vm.Own zbO zcz zcc zbE New SrcOk zap NewSl Mem.textAt Mem.mapAt Mem.iterAt zaV kfind Wr zch Elems
set_option maxRecDepth 10000
section
variable {M B:Mem}
def tkV (P:List UInt8) (v m:Nat):Nat:=(P.getD v 0).toNat % m
def zbH (P:List UInt8) (v k:Nat):List UInt8:=(List.range k).map fun j=>P.getD (v+j) 0
structure StpR where
 kind:Nat
 node:Nat
 to:Nat
 n:Nat
 data:List UInt8
def ze7 (P:List UInt8) (nodes v r:Nat):StpR×Nat:=
 match r with
 | 0=>(⟨1,tkV P (v+1) nodes,tkV P (v+2) 256,0,zbH P (v+4) (tkV P (v+3) 64)⟩,v+4+tkV P (v+3) 64)
 | 2=>(⟨3,0,0,0,[]⟩,v+1)
 | 3=>(⟨4,tkV P (v+1) nodes,tkV P (v+2) nodes,tkV P (v+3) 256,[]⟩,v+4)
 | 4=>(⟨5,tkV P (v+1) nodes,tkV P (v+2) nodes,tkV P (v+3) 256,zbH P (v+4) 1⟩,v+5)
 | 5=>(⟨6,tkV P (v+1) nodes,tkV P (v+2) nodes,tkV P (v+3) 256,zbH P (v+4) 1⟩,v+5)
 | 6=>(⟨7,tkV P (v+1) nodes,0,0,zbH P (v+3) (tkV P (v+2) 8)⟩,v+3+tkV P (v+2) 8)
 | 8=>(⟨9,tkV P (v+1) nodes,0,256*tkV P (v+2) 256,[]⟩,v+3)
 | 10=>(⟨11,tkV P (v+1) nodes,0,tkV P (v+2) 64,[]⟩,v+3)
 | 11=>(⟨12,0,0,tkV P (v+1) 256,[]⟩,v+2)
 | k=>(⟨k+1,tkV P (v+1) nodes,0,0,[]⟩,v+2)
def zcL (P:List UInt8) (nodes v:Nat):StpR×Nat:=ze7 P nodes v (tkV P v 12)
theorem zpJ {P:List UInt8} {v m:Nat} (h:0<m):tkV P v m<m:=Nat.mod_lt _ h
end
section
variable {M B:Mem}
def zR4:Nat→Int
 | 0=>41
 | 2=>0
 | 3=>38
 | 4=>54
 | 5=>54
 | 6=>40
 | 8=>36
 | 10=>36
 | 11=>4
 | _=>32
theorem zNH:∀ (r:Nat),r<12→CallsM Tryz.prog F.zce [.int .i64 (1+(r:Nat))] M fun v M'=>v = .int .i64 (zR4 r)∧M=M'
 | 0,_|1,_|2,_|3,_|4,_|5,_|6,_|7,_|8,_|9,_|10,_|11,_=>by
  refine zzM (by simp) ?_;refine zR ?_;exact⟨rfl,rfl⟩
 | _+12,h=>by omega
theorem zPV:∀ (r:Nat),r<12→CallsM Tryz.prog F.zcQ [.int .i64 (1+(r:Nat))] M fun v M'=>v = .tuple #[.int .i64 (if r=8 then 256 else 1),.int .i64 (if r=10 then 64 else 256)]∧M=M'
 | 0,_|1,_|2,_|3,_|4,_|5,_|6,_|7,_|8,_|9,_|10,_|11,_=>by
  refine zBG (by simp) ?_;refine zR ?_;exact⟨rfl,rfl⟩
 | _+12,h=>by omega
theorem zR5:∀ (r:Nat),r<12→CallsM Tryz.prog F.zdL [.int .i64 (1+(r:Nat))] M fun v M'=>v = .int .i64 (if r=6 then 8 else 64)∧M=M'
 | 0,_|1,_|2,_|3,_|4,_|5,_|6,_|7,_|8,_|9,_|10,_|11,_=>by
  refine zDb (by simp) ?_;refine zR ?_;exact⟨rfl,rfl⟩
 | _+12,h=>by omega
@[reducible] def zPW (x:StpR) (q:Option Addr) (c:Nat):List Value:=[.int .i64 (x.kind:Nat),.int .i64 (x.node:Nat),.int .i64 (x.to:Nat),.int .i64 (x.n:Nat),.slice q x.data.length c]
theorem zI3 (P:List UInt8) (v k:Nat):zbH P v (k+1)=zbH P v k++[P.getD (v+k) 0]:=by unfold zbH;rw[List.range_succ,List.map_append];rfl
theorem zq1 (P:List UInt8) (v k:Nat):(zbH P v k).length=k:=by simp[zbH]
theorem zR6 (P:List UInt8) (v:Nat):Value.int .u8 (IntKind.u8.wrap ((tkV P v 256:Nat):Int))=zi (P.getD v 0):=by
 unfold tkV;generalize P.getD v 0=x;have h:=UInt8.toNat_lt x
 rw[Nat.mod_eq_of_lt (by omega),show IntKind.u8.wrap ((x.toNat:Nat):Int)=((x.toNat:Nat):Int) by simp[IntKind.wrap,IntKind.signed,IntKind.bits];omega];rfl
end
section
variable {M B:Mem}
def lk1 (oth:List (Nat×Nat)) (a b:Nat):List (Nat×Nat):=if b=a+1∨(a,b)∈oth then [(a,b)] else []
def zaR (oth:List (Nat×Nat)) (a k:Nat):List (Nat×Nat):=(List.range k).flatMap fun j=>lk1 oth a (a+1+j)
def zb2 (n:Nat) (oth:List (Nat×Nat)):List (Nat×Nat):=(List.range n).flatMap fun a=>zaR oth a (n - (a+1))
def za5 (n:Nat) (oth:List (Nat×Nat)) (a:Nat):List (Nat×Nat):=(List.range a).flatMap fun a=>zaR oth a (n - (a+1))
theorem zoi (n:Nat) (oth:List (Nat×Nat)) (a:Nat):za5 n oth (a+1)=za5 n oth a++zaR oth a (n - (a+1)):=by unfold za5;rw[List.range_succ,List.flatMap_append];simp
theorem zdc (oth:List (Nat×Nat)) (a k:Nat):zaR oth a (k+1)=zaR oth a k++lk1 oth a (a+1+k):=by unfold zaR;rw[List.range_succ,List.flatMap_append];simp
theorem zR7 (oth:List (Nat×Nat)) (a b:Nat):(lk1 oth a b).length≤1:=by unfold lk1;split<;>simp
theorem zsu (oth:List (Nat×Nat)) (a:Nat):∀ k,(zaR oth a k).length≤k
 | 0=>by simp[zaR]
 | k+1=>by have:=zsu oth a k;have:=zR7 oth a (a+1+k);rw[zdc,List.length_append];omega
theorem zsv (n:Nat) (oth:List (Nat×Nat)):∀ a,(za5 n oth a).length≤a*n
 | 0=>by simp[za5]
 | a+1=>by have:=zsv n oth a;have:=zsu oth a (n - (a+1));rw[zoi,List.length_append,Nat.succ_mul];omega
@[reducible] def zkv (p:Nat×Nat):List Value:=[.int .i64 (p.1:Nat),.int .i64 (p.2:Nat)]
@[reducible] def kvL (p:Nat×Nat):Value := .agg #[.int .i64 (p.1:Nat),.int .i64 (p.2:Nat)]
@[reducible] def vvB (b:Bool):Value := .bool b
theorem zJF:zBM kvL:=by
 intro a b;obtain⟨a1,a2⟩:=a;obtain⟨b1,b2⟩:=b;simp only[kvL,zkw,zbl,if_true,Prod.mk.injEq]
 (repeat' split)<;>simp<;>omega
def OthAt (M:Mem) (mb:Nat) (oth:List (Nat×Nat)):Prop:=∃ m:List ((Nat×Nat)×Bool),MapAt kvL vvB M mb m∧∀ p,zaS m p=if p∈oth then some true else none
theorem zPX {mb:Nat} {oth:List (Nat×Nat)} (hO:OthAt M mb oth) {n:Nat} (hn:n≤64) :
  CallsM Tryz.prog F.zcP [.int .i64 n,.map (some mb)] M fun v M'=>∃ q c,v = .slice q (zb2 n oth).length c∧NewSl M T.zaD 2 q (zb2 n oth).length c ((zb2 n oth).flatMap zkv) M':=by
 obtain⟨m,hM,hm⟩:=hO;refine zBD (by simp) ?_;(conv=>whnf)
 refine zgk (σ:=Nat×Mem×Option Addr×Nat×Nat) [9,5] (fun y=>[(9,.int .i64 y.1),(5,.slice y.2.2.1 y.2.2.2.1 y.2.2.2.2)]) (fun _=>[]) (fun y=>y.2.1)
  (fun|⟨a,Mc,q,k,cq⟩=>a≤n∧k=(za5 n oth a).length∧NewSl M T.zaD 2 q k cq ((za5 n oth a).flatMap zkv) Mc) (fun y=>n - y.1) ⟨0,M,none,0,0⟩ ⟨by omega,rfl,NewSl.none M _ _⟩ zS ?_
 rintro ⟨a,Mc,q,k,cq⟩ ⟨ha,hk,hN⟩;(conv=>whnf);refine brn (fun g=>?_) (fun g=>?_)
 ·have g':a<n:=by have:=Zd0 g;dsimp only at this;omega
  refine zR ?_;refine obr (zx (by first|omega|(dsimp only;omega))) ?_;(conv=>whnf)
  refine zgk (σ:=Nat×Mem×Option Addr×Nat×Nat) [7,5] (fun y=>[(7,.int .i64 ((a+1+y.1:Nat):Int)),(5,.slice y.2.2.1 y.2.2.2.1 y.2.2.2.2)]) (fun _=>[]) (fun y=>y.2.1)
   (fun|⟨j,Md,q,k,cq⟩=>a+1+j≤n∧k=(za5 n oth a++zaR oth a j).length∧NewSl M T.zaD 2 q k cq ((za5 n oth a++zaR oth a j).flatMap zkv) Md) (fun y=>n - (a+1+y.1)) ⟨0,Mc,q,k,cq⟩ ⟨by omega,by simp[zaR,hk],by simpa[zaR] using hN⟩ zS ?_
  rintro ⟨j,Md,q,k,cq⟩ ⟨hj,hk,hN⟩;have hpl:=zsv n oth a
  have hrl:=zsu oth a j;have hnn:a*n≤64*64:=Nat.mul_le_mul (by omega) hn
  rw[List.length_append] at hk;(conv=>whnf);refine brn (fun e=>?_) (fun e=>?_)
  ·have e':a+1+j<n:=by have:=Zd0 e;dsimp only at this;omega
   (conv=>whnf);refine obr (zx (by first|omega|(dsimp only;omega))) ?_;(conv=>whnf);refine brn (fun f=>?_) (fun f=>?_)
   ·have f':j=0:=by have:=Zd0 f;dsimp only at this;omega
    have hyes:a+1+j=a+1∨(a,a+1+j)∈oth := .inl (by omega);have e1:lk1 oth a (a+1+j)=[(a,a+1+j)]:=by unfold lk1;rw[if_pos hyes]
    have e2:(za5 n oth a++zaR oth a (j+1))=(za5 n oth a++zaR oth a j)++[(a,a+1+j)]:=by rw[zdc,e1,List.append_assoc]
    refine zR ?_;refine zDi M hN (a,a+1+j) rfl (by dsimp only;omega) (by dsimp only;simp[maxLen];omega) (by intro u hu;simp at hu;rcases hu with rfl|rfl<;>rfl) fun q6 c6 M6 h6 hk6=>?_
    refine zR ?_;refine obr (zx (by first|omega|(dsimp only;omega))) ?_;(conv=>whnf)
    refine⟨⟨j+1,M6,q6,k+1,c6⟩,⟨by omega,by rw[e2,List.length_append];simp[hk],by rw[e2];exact h6⟩,by dsimp only;omega,?_⟩;rw[show ((a+1+(j+1):Nat):Int)=((a+1+j:Nat):Int)+1 by omega];exact zS
   ·have f':j≠0:=by have:=Zd1 f;dsimp only at this;omega
    have hMd:=hM.mono (fun o ho=>hN.le _ _ ho);(conv=>whnf)
    refine hMd.get zJF (a,a+1+j) (fun hg=>?_) (fun x i hg=>?_)
    ·have hno:¬(a+1+j=a+1∨(a,a+1+j)∈oth):=by
      rintro (h|h)
      ·omega
      ·rw[hm,if_pos h] at hg;cases hg
     have e2:(za5 n oth a++zaR oth a (j+1))=(za5 n oth a++zaR oth a j):=by rw[zdc];unfold lk1;rw[if_neg hno,List.append_nil]
     refine zR ?_;refine obr (zx (by first|omega|(dsimp only;omega))) ?_;(conv=>whnf)
     refine⟨⟨j+1,Md,q,k,cq⟩,⟨by omega,by rw[e2,List.length_append];exact hk,by rw[e2];exact hN⟩,by dsimp only;omega,?_⟩;rw[show ((a+1+(j+1):Nat):Int)=((a+1+j:Nat):Int)+1 by omega];exact zS
    ·have hyes:a+1+j=a+1∨(a,a+1+j)∈oth:=by
      rw[hm] at hg;split at hg
      ·right;assumption
      ·cases hg
     have hx:x=true:=by rw[hm,if_pos (hyes.resolve_left (by omega))] at hg;cases hg;rfl
     subst hx;have e1:lk1 oth a (a+1+j)=[(a,a+1+j)]:=by unfold lk1;rw[if_pos hyes]
     have e2:(za5 n oth a++zaR oth a (j+1))=(za5 n oth a++zaR oth a j)++[(a,a+1+j)]:=by rw[zdc,e1,List.append_assoc]
     refine zR ?_;refine zDi M hN (a,a+1+j) rfl (by dsimp only;omega) (by dsimp only;simp[maxLen];omega) (by intro u hu;simp at hu;rcases hu with rfl|rfl<;>rfl) fun q6 c6 M6 h6 hk6=>?_
     refine zR ?_;refine obr (zx (by first|omega|(dsimp only;omega))) ?_;(conv=>whnf)
     refine⟨⟨j+1,M6,q6,k+1,c6⟩,⟨by omega,by rw[e2,List.length_append];simp[hk],by rw[e2];exact h6⟩,by dsimp only;omega,?_⟩;rw[show ((a+1+(j+1):Nat):Int)=((a+1+j:Nat):Int)+1 by omega];exact zS
  ·have e':a+1+j=n:=by have:=Zd1 e;dsimp only at this;omega
   have e2:za5 n oth (a+1)=za5 n oth a++zaR oth a j:=by rw[zoi,show n - (a+1)=j by omega]
   refine zR ?_;refine obr (zx (by first|omega|(dsimp only;omega))) ?_;(conv=>whnf)
   exact⟨⟨a+1,Md,q,k,cq⟩,⟨by omega,by rw[e2,List.length_append];exact hk,by rw[e2];exact hN⟩,by dsimp only;omega,zS⟩
 ·have g':a=n:=by have:=Zd1 g;dsimp only at this;omega
  subst g';refine zR ?_;(conv=>whnf)
  subst hk;exact⟨q,cq,rfl,hN⟩
end
section
variable {M B B0:Mem}
structure ScrR where
 nodes:Nat
 links:List (Nat×Nat)
 held:Nat
 bytes:Nat
 gaps:Nat
 disk:Nat
 seg:Nat
 win:Nat
 timer:Nat
 tries:Nat
 wait:Nat
 delay:Nat
 steps:List StpR
theorem OthAt.keep {M':Mem} {mb:Nat} {oth:List (Nat×Nat)} {S:Nat→Prop} (h:OthAt M mb oth) (hk:Mem.keep S M M') (hS:¬S mb):OthAt M' mb oth:=by
 obtain⟨m,hm,h2⟩:=h;exact⟨m,hm.mono fun o ho=>hk _ _ hS ho,h2⟩
theorem zxv {A B:Mem} {x:Nat} (h:A.le B) (hx:B x=none):A x=none:=by
 cases hA:A x with
 | none=>rfl
 | some o=>rw[h _ _ hA] at hx;cases hx
end
section
variable {M B B0:Mem}
@[reducible] def zo0 (a:Option Addr) (n c v:Nat):Value := .agg #[.slice a n c,.int .i64 (min v n:Nat)]
theorem zbd {a:Option Addr} {n c:Nat} {P:List UInt8} (hs:SrcOk M 1 a n (P.map zi)) (hn:n≤1048576) (v:Nat) {m:Nat} (hm:0<m) (hm2:m≤1000000) :
  CallsM Tryz.prog F.zC [zo0 a n c v,.int .i64 m] M fun u M'=>u = .tuple #[zo0 a n c (v+1),.int .i64 (tkV P v m:Nat)]∧M'=M:=by
 have hl:=hs.maplen;unfold zo0;obtain⟨w,hw⟩:∃ w:Nat,w=min v n:=⟨_,rfl⟩
 rw[←hw];refine zEN (by simp) ?_;(conv=>whnf);refine brn (fun g=>?_) (fun g=>?_)
 ·have g':=Zd0 g;have e0:tkV P v m=0:=by unfold tkV;rw[List.getD_eq_getElem?_getD,List.getElem?_eq_none (by omega)];simp
  (conv=>whnf);refine⟨?_,rfl⟩;rw[e0,show min (v+1) n=w by omega];rfl
 ·have g':=Zd1 g;have hv:v<n:=by omega
  have e1:w=v:=by omega
  subst e1;obtain⟨hk,b2,o2,ha2,hr2⟩:=hs.at hv;have e0:tkV P w m=P[w].toNat % m:=by unfold tkV;rw[List.getD_eq_getElem?_getD,List.getElem?_eq_getElem hk];rfl
  generalize P[w]=x at *;have hx:=UInt8.toNat_lt x
  refine zX ?_;refine⟨[1],M,Mem.le_refl _,fun d=>?_⟩;(conv=>whnf)
  refine obr (zx (by first|omega|(dsimp only;omega))) ?_;(conv=>whnf);refine ob (by first|omega|(dsimp only;omega)) ?_;(conv=>whnf);refine atp ha2 ?_;(conv=>whnf);refine on hr2 ?_;(conv=>whnf);refine ob (by omega) ?_;refine zT (Mem.le_refl M) ?_;(conv=>whnf)
  refine⟨?_,rfl⟩;rw[e0,show min (w+1) n=w+1 by omega,show IntKind.i64.wrap (x.toNat:Int)=((x.toNat:Nat):Int) by rw[IntKind.wrap_i64];omega];rfl
theorem zH9 {a:Option Addr} {n c:Nat} {P:List UInt8} (hs:SrcOk M 1 a n (P.map zi)) (hn:n≤1048576) (v:Nat) {k:Nat} (hk:k≤64) :
  CallsM Tryz.prog F.zgV [zo0 a n c v,.int .i64 k] M fun u M'=>∃ q cq,u = .tuple #[zo0 a n c (v+k),.slice q k cq]∧NewSl M T.zF 1 q k cq ((zbH P v k).map zi) M':=by
 refine zE6 (by simp) ?_;(conv=>whnf)
 refine zgk (σ:=Nat×Mem×Option Addr×Nat) [7,6,9] (fun y=>[(7,.int .i64 y.1),(6,.slice y.2.2.1 y.1 y.2.2.2)]) (fun y=>[BE.live T.zpu [SC.v (.slice a n c),SC.v (.int .i64 (min (v+y.1) n:Nat))],BE.live T.zpu [SC.v S.sn,SC.v (S.i 0)]]) (fun y=>y.2.1)
  (fun|⟨i,Mc,q,cq⟩=>i≤k∧NewSl M T.zF 1 q i cq ((zbH P v i).map zi) Mc) (fun y=>k - y.1) ⟨0,M,none,0⟩ ⟨by omega,NewSl.none _ _ _⟩ zS ?_
 rintro ⟨i,Mc,q,cq⟩ ⟨hi,hN⟩;(conv=>whnf);refine brn (fun g=>?_) (fun g=>?_)
 ·have g':i<k:=by have:=Zd0 g;dsimp only at this;omega
  (conv=>whnf);refine(zbd (hs.le hN.le) hn (v+i) (m:=256) (by decide) (by decide)).mono ?_;rintro u M5 ⟨rfl,rfl⟩;(conv=>whnf)
  refine appK _ _ hN (by first|omega|(dsimp only;omega)) (by unfold maxLen;dsimp only;omega) (by intro u hu;simp at hu;subst hu;rfl) (fun q6 c6 M6 h6 hk6=>?_);erw [show [Value.int IntKind.u8 (IntKind.u8.wrap ((tkV P (v+i) 256:Nat):Int))]=[P.getD (v+i) 0].map zi from congrArg (fun v=>[v]) (zR6 P (v+i))] at h6;rw[←List.map_append,←zI3] at h6;(conv=>whnf);refine obr (zx (by first|omega|(dsimp only;omega))) ?_;(conv=>whnf)
  exact⟨⟨i+1,M6,q6,c6⟩,⟨by omega,h6⟩,by dsimp only;omega,zS⟩
 ·have g':i=k:=by have:=Zd1 g;dsimp only at this;omega
  subst g';(conv=>whnf)
  exact⟨q,cq,rfl,hN⟩
@[reducible] def zTE (k nd to nn:Nat):Value := .agg #[.int .i64 k,.int .i64 nd,.int .i64 to,.int .i64 nn,.slice none 0 0]
theorem zIa {a:Option Addr} {n c:Nat} {P:List UInt8} (hs:SrcOk M 1 a n (P.map zi)) (hn:n≤1048576) (v kd nd to nn:Nat) {m:Nat} (hm:0<m) (hm2:m≤64) :
  CallsM Tryz.prog F.zgU [zo0 a n c v,zTE kd nd to nn,.int .i64 m] M fun u M'=>∃ q cq,u = .tuple #[zo0 a n c (v+1+tkV P v m),.agg #[.int .i64 kd,.int .i64 nd,.int .i64 to,.int .i64 nn,.slice q (tkV P v m) cq]]∧NewSl M T.zF 1 q (tkV P v m) cq ((zbH P (v+1) (tkV P v m)).map zi) M':=by
 have hr:=zpJ (P:=P) (v:=v) (m:=m) hm;refine zE0 (by simp) ?_;(conv=>whnf)
 refine(zbd hs hn v hm (by omega)).mono ?_;rintro u _ ⟨rfl,rfl⟩;(conv=>whnf)
 refine(zH9 hs hn (v+1) (k:=tkV P v m) (by omega)).mono ?_;rintro u M2 ⟨q,cq,rfl,hN⟩;(conv=>whnf)
 refine⟨[2,3],M2,Mem.le_refl _,fun d=>?_⟩;(conv=>whnf)
 refine zT (Mem.le_refl M2) ?_;(conv=>whnf)
 exact⟨q,cq,rfl,hN⟩
theorem zA3 {a:Option Addr} {n c:Nat} {P:List UInt8} (hs:SrcOk M 1 a n (P.map zi)) (hn:n≤1048576) (v kd nd nodes:Nat) (hN:0<nodes) (hN2:nodes≤64) :
  CallsM Tryz.prog F.znK [zo0 a n c v,zTE kd nd 0 0,.int .i64 nodes] M fun u M'=>∃ q cq k,k=(if kd=4 then 0 else 1)∧u = .tuple #[zo0 a n c (v+2+k),.agg #[.int .i64 kd,.int .i64 nd,.int .i64 (tkV P v nodes:Nat),.int .i64 (tkV P (v+1) 256:Nat),.slice q k cq]]∧NewSl M T.zF 1 q k cq ((zbH P (v+2) k).map zi) M':=by
 refine zE1 (by simp) ?_;(conv=>whnf)
 refine(zbd hs hn v hN (by omega)).mono ?_;rintro u _ ⟨rfl,rfl⟩;(conv=>whnf)
 refine(zbd hs hn (v+1) (m:=256) (by decide) (by decide)).mono ?_;rintro u _ ⟨rfl,rfl⟩;(conv=>whnf);refine brn (fun g=>?_) (fun g=>?_)
 ·have g':=Zd0 g;(conv=>whnf)
  refine⟨[2,3],_,Mem.le_refl _,fun d=>?_⟩;(conv=>whnf)
  refine zU ?_;(conv=>whnf)
  exact⟨none,0,0,by rw[if_pos (by omega)],rfl,NewSl.none _ _ _⟩
 ·have g':=Zd1 g;(conv=>whnf)
  refine(zH9 hs hn (v+2) (k:=1) (by omega)).mono ?_;rintro u M2 ⟨q,cq,rfl,hN⟩;(conv=>whnf)
  refine⟨[2,3],M2,Mem.le_refl _,fun d=>?_⟩;(conv=>whnf)
  refine zT (Mem.le_refl M2) ?_;(conv=>whnf)
  exact⟨q,cq,1,by rw[if_neg (by omega)],rfl,hN⟩
theorem zPY {a:Option Addr} {n c:Nat} {P:List UInt8} (hs:SrcOk M 1 a n (P.map zi)) (hn:n≤1048576) (v nodes:Nat) (hN:0<nodes) (hN2:nodes≤64) :
  CallsM Tryz.prog F.zj4 [zo0 a n c v,.int .i64 nodes] M fun u M'=>∃ q cq,u = .tuple #[zo0 a n c (zcL P nodes v).2,.agg (zPW (zcL P nodes v).1 q cq).toArray] ∧
   NewSl M T.zF 1 q (zcL P nodes v).1.data.length cq ((zcL P nodes v).1.data.map zi) M':=by
 obtain⟨r,hr0⟩:∃ r,r=tkV P v 12:=⟨_,rfl⟩
 have hr:=zpJ (P:=P) (v:=v) (m:=12) (by decide);have hst:zcL P nodes v=ze7 P nodes v r:=by unfold zcL;rw[hr0]
 rw[hst];refine zEQ (by simp) ?_;(conv=>whnf)
 refine(zbd hs hn v (m:=12) (by decide) (by decide)).mono ?_;rintro u _ ⟨rfl,rfl⟩;rw[←hr0] at hr ⊢;(conv=>whnf);refine obr (zx (by first|omega|(dsimp only;omega))) ?_;have hc:r=0∨r=1∨r=2∨r=3∨r=4∨r=5∨r=6∨r=7∨r=8∨r=9∨r=10∨r=11:=by omega
 rcases hc with rfl|rfl|rfl|rfl|rfl|rfl|rfl|rfl|rfl|rfl|rfl|rfl
 ·skip
  repeat' ((conv=>whnf);first|refine brn_t rfl ?_|refine brn_f rfl ?_|refine ob rfl ?_|refine obr rfl ?_|refine ob (by decide) ?_|refine obr (by decide) ?_|refine brn_t (by kernel_rfl) ?_|refine brn_f (by kernel_rfl) ?_|fail)
  refine(zbd hs hn (v+1) (m:=nodes) hN (by omega)).mono ?_;rintro u _ ⟨rfl,rfl⟩
  repeat' ((conv=>whnf);first|refine brn_t rfl ?_|refine brn_f rfl ?_|refine ob rfl ?_|refine obr rfl ?_|refine ob (by decide) ?_|refine obr (by decide) ?_|refine brn_t (by kernel_rfl) ?_|refine brn_f (by kernel_rfl) ?_|fail)
  refine(zbd hs hn (v+2) (m:=256) (by decide) (by decide)).mono ?_;rintro u _ ⟨rfl,rfl⟩
  repeat' ((conv=>whnf);first|refine brn_t rfl ?_|refine brn_f rfl ?_|refine ob rfl ?_|refine obr rfl ?_|refine ob (by decide) ?_|refine obr (by decide) ?_|refine brn_t (by kernel_rfl) ?_|refine brn_f (by kernel_rfl) ?_|fail)
  refine(zIa hs hn (v+3) 1 (tkV P (v+1) nodes) (tkV P (v+2) 256) 0 (m:=64) (by decide) (by decide)).mono ?_;rintro u M2 ⟨q,cq,rfl,hN⟩
  repeat' ((conv=>whnf);first|refine brn_t rfl ?_|refine brn_f rfl ?_|refine ob rfl ?_|refine obr rfl ?_|refine ob (by decide) ?_|refine obr (by decide) ?_|refine brn_t (by kernel_rfl) ?_|refine brn_f (by kernel_rfl) ?_|fail)
  exact⟨q,cq,by simp[ze7,zPW,zq1],by simpa[ze7,zq1] using hN⟩
 ·skip
  repeat' ((conv=>whnf);first|refine brn_t rfl ?_|refine brn_f rfl ?_|refine ob rfl ?_|refine obr rfl ?_|refine ob (by decide) ?_|refine obr (by decide) ?_|refine brn_t (by kernel_rfl) ?_|refine brn_f (by kernel_rfl) ?_|fail)
  refine(zbd hs hn (v+1) (m:=nodes) hN (by omega)).mono ?_;rintro u _ ⟨rfl,rfl⟩
  repeat' ((conv=>whnf);first|refine brn_t rfl ?_|refine brn_f rfl ?_|refine ob rfl ?_|refine obr rfl ?_|refine ob (by decide) ?_|refine obr (by decide) ?_|refine brn_t (by kernel_rfl) ?_|refine brn_f (by kernel_rfl) ?_|fail)
  refine⟨[1,2],_,Mem.le_refl _,fun d=>?_⟩
  repeat' ((conv=>whnf);first|refine brn_t rfl ?_|refine brn_f rfl ?_|refine ob rfl ?_|refine obr rfl ?_|refine ob (by decide) ?_|refine obr (by decide) ?_|refine brn_t (by kernel_rfl) ?_|refine brn_f (by kernel_rfl) ?_|fail)
  refine zU ?_
  repeat' ((conv=>whnf);first|refine brn_t rfl ?_|refine brn_f rfl ?_|refine ob rfl ?_|refine obr rfl ?_|refine ob (by decide) ?_|refine obr (by decide) ?_|refine brn_t (by kernel_rfl) ?_|refine brn_f (by kernel_rfl) ?_|fail)
  exact⟨none,0,rfl,NewSl.none _ _ _⟩
 ·skip
  repeat' ((conv=>whnf);first|refine brn_t rfl ?_|refine brn_f rfl ?_|refine ob rfl ?_|refine obr rfl ?_|refine ob (by decide) ?_|refine obr (by decide) ?_|refine brn_t (by kernel_rfl) ?_|refine brn_f (by kernel_rfl) ?_|fail)
  refine⟨[1,2],_,Mem.le_refl _,fun d=>?_⟩
  repeat' ((conv=>whnf);first|refine brn_t rfl ?_|refine brn_f rfl ?_|refine ob rfl ?_|refine obr rfl ?_|refine ob (by decide) ?_|refine obr (by decide) ?_|refine brn_t (by kernel_rfl) ?_|refine brn_f (by kernel_rfl) ?_|fail)
  refine zU ?_
  repeat' ((conv=>whnf);first|refine brn_t rfl ?_|refine brn_f rfl ?_|refine ob rfl ?_|refine obr rfl ?_|refine ob (by decide) ?_|refine obr (by decide) ?_|refine brn_t (by kernel_rfl) ?_|refine brn_f (by kernel_rfl) ?_|fail)
  exact⟨none,0,rfl,NewSl.none _ _ _⟩
 ·skip
  repeat' ((conv=>whnf);first|refine brn_t rfl ?_|refine brn_f rfl ?_|refine ob rfl ?_|refine obr rfl ?_|refine ob (by decide) ?_|refine obr (by decide) ?_|refine brn_t (by kernel_rfl) ?_|refine brn_f (by kernel_rfl) ?_|fail)
  refine(zbd hs hn (v+1) (m:=nodes) hN (by omega)).mono ?_;rintro u _ ⟨rfl,rfl⟩
  repeat' ((conv=>whnf);first|refine brn_t rfl ?_|refine brn_f rfl ?_|refine ob rfl ?_|refine obr rfl ?_|refine ob (by decide) ?_|refine obr (by decide) ?_|refine brn_t (by kernel_rfl) ?_|refine brn_f (by kernel_rfl) ?_|fail)
  refine(zA3 hs hn (v+2) 4 (tkV P (v+1) nodes) nodes hN hN2).mono ?_;rintro u M2 ⟨q,cq,k,hk,rfl,hN⟩;have hk':k=0:=by rw[hk];rfl
  subst hk'
  repeat' ((conv=>whnf);first|refine brn_t rfl ?_|refine brn_f rfl ?_|refine ob rfl ?_|refine obr rfl ?_|refine ob (by decide) ?_|refine obr (by decide) ?_|refine brn_t (by kernel_rfl) ?_|refine brn_f (by kernel_rfl) ?_|fail)
  exact⟨q,cq,rfl,hN⟩
 ·skip
  repeat' ((conv=>whnf);first|refine brn_t rfl ?_|refine brn_f rfl ?_|refine ob rfl ?_|refine obr rfl ?_|refine ob (by decide) ?_|refine obr (by decide) ?_|refine brn_t (by kernel_rfl) ?_|refine brn_f (by kernel_rfl) ?_|fail)
  refine(zbd hs hn (v+1) (m:=nodes) hN (by omega)).mono ?_;rintro u _ ⟨rfl,rfl⟩
  repeat' ((conv=>whnf);first|refine brn_t rfl ?_|refine brn_f rfl ?_|refine ob rfl ?_|refine obr rfl ?_|refine ob (by decide) ?_|refine obr (by decide) ?_|refine brn_t (by kernel_rfl) ?_|refine brn_f (by kernel_rfl) ?_|fail)
  refine(zA3 hs hn (v+2) 5 (tkV P (v+1) nodes) nodes hN hN2).mono ?_;rintro u M2 ⟨q,cq,k,hk,rfl,hN⟩;have hk':k=1:=by rw[hk];rfl
  subst hk'
  repeat' ((conv=>whnf);first|refine brn_t rfl ?_|refine brn_f rfl ?_|refine ob rfl ?_|refine obr rfl ?_|refine ob (by decide) ?_|refine obr (by decide) ?_|refine brn_t (by kernel_rfl) ?_|refine brn_f (by kernel_rfl) ?_|fail)
  exact⟨q,cq,rfl,hN⟩
 ·skip
  repeat' ((conv=>whnf);first|refine brn_t rfl ?_|refine brn_f rfl ?_|refine ob rfl ?_|refine obr rfl ?_|refine ob (by decide) ?_|refine obr (by decide) ?_|refine brn_t (by kernel_rfl) ?_|refine brn_f (by kernel_rfl) ?_|fail)
  refine(zbd hs hn (v+1) (m:=nodes) hN (by omega)).mono ?_;rintro u _ ⟨rfl,rfl⟩
  repeat' ((conv=>whnf);first|refine brn_t rfl ?_|refine brn_f rfl ?_|refine ob rfl ?_|refine obr rfl ?_|refine ob (by decide) ?_|refine obr (by decide) ?_|refine brn_t (by kernel_rfl) ?_|refine brn_f (by kernel_rfl) ?_|fail)
  refine(zA3 hs hn (v+2) 6 (tkV P (v+1) nodes) nodes hN hN2).mono ?_;rintro u M2 ⟨q,cq,k,hk,rfl,hN⟩;have hk':k=1:=by rw[hk];rfl
  subst hk'
  repeat' ((conv=>whnf);first|refine brn_t rfl ?_|refine brn_f rfl ?_|refine ob rfl ?_|refine obr rfl ?_|refine ob (by decide) ?_|refine obr (by decide) ?_|refine brn_t (by kernel_rfl) ?_|refine brn_f (by kernel_rfl) ?_|fail)
  exact⟨q,cq,rfl,hN⟩
 ·skip
  repeat' ((conv=>whnf);first|refine brn_t rfl ?_|refine brn_f rfl ?_|refine ob rfl ?_|refine obr rfl ?_|refine ob (by decide) ?_|refine obr (by decide) ?_|refine brn_t (by kernel_rfl) ?_|refine brn_f (by kernel_rfl) ?_|fail)
  refine(zbd hs hn (v+1) (m:=nodes) hN (by omega)).mono ?_;rintro u _ ⟨rfl,rfl⟩
  repeat' ((conv=>whnf);first|refine brn_t rfl ?_|refine brn_f rfl ?_|refine ob rfl ?_|refine obr rfl ?_|refine ob (by decide) ?_|refine obr (by decide) ?_|refine brn_t (by kernel_rfl) ?_|refine brn_f (by kernel_rfl) ?_|fail)
  refine(zIa hs hn (v+2) 7 (tkV P (v+1) nodes) 0 0 (m:=8) (by decide) (by decide)).mono ?_;rintro u M2 ⟨q,cq,rfl,hN⟩
  repeat' ((conv=>whnf);first|refine brn_t rfl ?_|refine brn_f rfl ?_|refine ob rfl ?_|refine obr rfl ?_|refine ob (by decide) ?_|refine obr (by decide) ?_|refine brn_t (by kernel_rfl) ?_|refine brn_f (by kernel_rfl) ?_|fail)
  exact⟨q,cq,by simp[ze7,zPW,zq1],by simpa[ze7,zq1] using hN⟩
 ·skip
  repeat' ((conv=>whnf);first|refine brn_t rfl ?_|refine brn_f rfl ?_|refine ob rfl ?_|refine obr rfl ?_|refine ob (by decide) ?_|refine obr (by decide) ?_|refine brn_t (by kernel_rfl) ?_|refine brn_f (by kernel_rfl) ?_|fail)
  refine(zbd hs hn (v+1) (m:=nodes) hN (by omega)).mono ?_;rintro u _ ⟨rfl,rfl⟩
  repeat' ((conv=>whnf);first|refine brn_t rfl ?_|refine brn_f rfl ?_|refine ob rfl ?_|refine obr rfl ?_|refine ob (by decide) ?_|refine obr (by decide) ?_|refine brn_t (by kernel_rfl) ?_|refine brn_f (by kernel_rfl) ?_|fail)
  refine⟨[1,2],_,Mem.le_refl _,fun d=>?_⟩
  repeat' ((conv=>whnf);first|refine brn_t rfl ?_|refine brn_f rfl ?_|refine ob rfl ?_|refine obr rfl ?_|refine ob (by decide) ?_|refine obr (by decide) ?_|refine brn_t (by kernel_rfl) ?_|refine brn_f (by kernel_rfl) ?_|fail)
  refine zU ?_
  repeat' ((conv=>whnf);first|refine brn_t rfl ?_|refine brn_f rfl ?_|refine ob rfl ?_|refine obr rfl ?_|refine ob (by decide) ?_|refine obr (by decide) ?_|refine brn_t (by kernel_rfl) ?_|refine brn_f (by kernel_rfl) ?_|fail)
  exact⟨none,0,rfl,NewSl.none _ _ _⟩
 ·skip
  repeat' ((conv=>whnf);first|refine brn_t rfl ?_|refine brn_f rfl ?_|refine ob rfl ?_|refine obr rfl ?_|refine ob (by decide) ?_|refine obr (by decide) ?_|refine brn_t (by kernel_rfl) ?_|refine brn_f (by kernel_rfl) ?_|fail)
  refine(zbd hs hn (v+1) (m:=nodes) hN (by omega)).mono ?_;rintro u _ ⟨rfl,rfl⟩
  repeat' ((conv=>whnf);first|refine brn_t rfl ?_|refine brn_f rfl ?_|refine ob rfl ?_|refine obr rfl ?_|refine ob (by decide) ?_|refine obr (by decide) ?_|refine brn_t (by kernel_rfl) ?_|refine brn_f (by kernel_rfl) ?_|fail)
  refine(zbd hs hn (v+2) (m:=256) (by decide) (by decide)).mono ?_;rintro u _ ⟨rfl,rfl⟩;have hq:=zpJ (P:=P) (v:=v+2) (m:=256) (by decide)
  refine obr (zx (by omega)) ?_
  repeat' ((conv=>whnf);first|refine brn_t rfl ?_|refine brn_f rfl ?_|refine ob rfl ?_|refine obr rfl ?_|refine ob (by decide) ?_|refine obr (by decide) ?_|refine brn_t (by kernel_rfl) ?_|refine brn_f (by kernel_rfl) ?_|fail)
  refine⟨[1,2],_,Mem.le_refl _,fun d=>?_⟩
  repeat' ((conv=>whnf);first|refine brn_t rfl ?_|refine brn_f rfl ?_|refine ob rfl ?_|refine obr rfl ?_|refine ob (by decide) ?_|refine obr (by decide) ?_|refine brn_t (by kernel_rfl) ?_|refine brn_f (by kernel_rfl) ?_|fail)
  refine zU ?_
  repeat' ((conv=>whnf);first|refine brn_t rfl ?_|refine brn_f rfl ?_|refine ob rfl ?_|refine obr rfl ?_|refine ob (by decide) ?_|refine obr (by decide) ?_|refine brn_t (by kernel_rfl) ?_|refine brn_f (by kernel_rfl) ?_|fail)
  exact⟨none,0,rfl,NewSl.none _ _ _⟩
 ·skip
  repeat' ((conv=>whnf);first|refine brn_t rfl ?_|refine brn_f rfl ?_|refine ob rfl ?_|refine obr rfl ?_|refine ob (by decide) ?_|refine obr (by decide) ?_|refine brn_t (by kernel_rfl) ?_|refine brn_f (by kernel_rfl) ?_|fail)
  refine(zbd hs hn (v+1) (m:=nodes) hN (by omega)).mono ?_;rintro u _ ⟨rfl,rfl⟩
  repeat' ((conv=>whnf);first|refine brn_t rfl ?_|refine brn_f rfl ?_|refine ob rfl ?_|refine obr rfl ?_|refine ob (by decide) ?_|refine obr (by decide) ?_|refine brn_t (by kernel_rfl) ?_|refine brn_f (by kernel_rfl) ?_|fail)
  refine⟨[1,2],_,Mem.le_refl _,fun d=>?_⟩
  repeat' ((conv=>whnf);first|refine brn_t rfl ?_|refine brn_f rfl ?_|refine ob rfl ?_|refine obr rfl ?_|refine ob (by decide) ?_|refine obr (by decide) ?_|refine brn_t (by kernel_rfl) ?_|refine brn_f (by kernel_rfl) ?_|fail)
  refine zU ?_
  repeat' ((conv=>whnf);first|refine brn_t rfl ?_|refine brn_f rfl ?_|refine ob rfl ?_|refine obr rfl ?_|refine ob (by decide) ?_|refine obr (by decide) ?_|refine brn_t (by kernel_rfl) ?_|refine brn_f (by kernel_rfl) ?_|fail)
  exact⟨none,0,rfl,NewSl.none _ _ _⟩
 ·skip
  repeat' ((conv=>whnf);first|refine brn_t rfl ?_|refine brn_f rfl ?_|refine ob rfl ?_|refine obr rfl ?_|refine ob (by decide) ?_|refine obr (by decide) ?_|refine brn_t (by kernel_rfl) ?_|refine brn_f (by kernel_rfl) ?_|fail)
  refine(zbd hs hn (v+1) (m:=nodes) hN (by omega)).mono ?_;rintro u _ ⟨rfl,rfl⟩
  repeat' ((conv=>whnf);first|refine brn_t rfl ?_|refine brn_f rfl ?_|refine ob rfl ?_|refine obr rfl ?_|refine ob (by decide) ?_|refine obr (by decide) ?_|refine brn_t (by kernel_rfl) ?_|refine brn_f (by kernel_rfl) ?_|fail)
  refine(zbd hs hn (v+2) (m:=64) (by decide) (by decide)).mono ?_;rintro u _ ⟨rfl,rfl⟩
  repeat' ((conv=>whnf);first|refine brn_t rfl ?_|refine brn_f rfl ?_|refine ob rfl ?_|refine obr rfl ?_|refine ob (by decide) ?_|refine obr (by decide) ?_|refine brn_t (by kernel_rfl) ?_|refine brn_f (by kernel_rfl) ?_|fail)
  refine⟨[1,2],_,Mem.le_refl _,fun d=>?_⟩
  repeat' ((conv=>whnf);first|refine brn_t rfl ?_|refine brn_f rfl ?_|refine ob rfl ?_|refine obr rfl ?_|refine ob (by decide) ?_|refine obr (by decide) ?_|refine brn_t (by kernel_rfl) ?_|refine brn_f (by kernel_rfl) ?_|fail)
  refine zU ?_
  repeat' ((conv=>whnf);first|refine brn_t rfl ?_|refine brn_f rfl ?_|refine ob rfl ?_|refine obr rfl ?_|refine ob (by decide) ?_|refine obr (by decide) ?_|refine brn_t (by kernel_rfl) ?_|refine brn_f (by kernel_rfl) ?_|fail)
  exact⟨none,0,rfl,NewSl.none _ _ _⟩
 ·skip
  repeat' ((conv=>whnf);first|refine brn_t rfl ?_|refine brn_f rfl ?_|refine ob rfl ?_|refine obr rfl ?_|refine ob (by decide) ?_|refine obr (by decide) ?_|refine brn_t (by kernel_rfl) ?_|refine brn_f (by kernel_rfl) ?_|fail)
  refine(zbd hs hn (v+1) (m:=256) (by decide) (by decide)).mono ?_;rintro u _ ⟨rfl,rfl⟩
  repeat' ((conv=>whnf);first|refine brn_t rfl ?_|refine brn_f rfl ?_|refine ob rfl ?_|refine obr rfl ?_|refine ob (by decide) ?_|refine obr (by decide) ?_|refine brn_t (by kernel_rfl) ?_|refine brn_f (by kernel_rfl) ?_|fail)
  refine⟨[1,2],_,Mem.le_refl _,fun d=>?_⟩
  repeat' ((conv=>whnf);first|refine brn_t rfl ?_|refine brn_f rfl ?_|refine ob rfl ?_|refine obr rfl ?_|refine ob (by decide) ?_|refine obr (by decide) ?_|refine brn_t (by kernel_rfl) ?_|refine brn_f (by kernel_rfl) ?_|fail)
  refine zU ?_
  repeat' ((conv=>whnf);first|refine brn_t rfl ?_|refine brn_f rfl ?_|refine ob rfl ?_|refine obr rfl ?_|refine ob (by decide) ?_|refine obr (by decide) ?_|refine brn_t (by kernel_rfl) ?_|refine brn_f (by kernel_rfl) ?_|fail)
  exact⟨none,0,rfl,NewSl.none _ _ _⟩
end
section
variable {M B B0:Mem}
@[reducible] def zdO (p:Int×Int):List Value:=[.int .i64 p.1,.int .i64 p.2]
@[reducible] def kvI (p:Int×Int):Value := .agg #[.int .i64 p.1,.int .i64 p.2]
@[reducible] def cst (p:Nat×Nat):Int×Int:=((p.1:Int),(p.2:Int))
theorem zNI (l:List (Nat×Nat)):(l.map cst).flatMap zdO=l.flatMap zkv:=by
 rw[List.flatMap_map]
theorem zPZ {a:Option Addr} {n c:Nat} {l:List (Int×Int)} (hs:SrcOk M 2 a n (l.flatMap zdO)) (hn:n≤1048576) (x:Int×Int) :
  CallsM Tryz.prog F.zl9 [.slice a n c,kvI x] M fun u M'=>u = .bool (decide (x∈l))∧M'=M:=by
 have hl:l.length=n:=SrcOk.flen (enc:=zdO) (s:=2) (fun _=>rfl) hs (by decide);obtain⟨x1,x2⟩:=x;refine zDc (by simp) ?_;(conv=>whnf)
 refine zgk (σ:=Nat) [5] (fun y=>[(5,.int .i64 y)]) (fun _=>[BE.live T.zaD [SC.v (.int .i64 x1),SC.v (.int .i64 x2)]]) (fun _=>M)
  (fun i=>i≤n∧(x1,x2)∉l.take i) (fun y=>n - y) 0 ⟨by omega,by simp⟩ zS ?_
 rintro i ⟨hi,hni⟩;(conv=>whnf);refine brn (fun g=>?_) (fun g=>?_)
 ·have g':i<n:=by have:=Zd0 g;omega
  obtain⟨z,hz⟩:∃ z,l[i]? = some z:=⟨_,List.getElem?_eq_getElem (by omega)⟩
  obtain⟨b,o,rfl,hrow⟩:=SrcOk.fall (enc:=zdO) (s:=2) (fun _=>rfl) hs (by decide) hz;(conv=>whnf);refine ob (by first|omega|(dsimp only;omega)) ?_;(conv=>whnf);refine on hrow ?_;obtain⟨z1,z2⟩:=z;have hmem:(z1,z2)∈l:=List.mem_of_getElem? hz
  (conv=>whnf);refine brn (fun e=>?_) (fun e=>?_)
  ·have e':z1=x1∧z2=x2:=by simp at e;omega
   (conv=>whnf);refine⟨?_,rfl⟩;rw[←e'.1,←e'.2,decide_eq_true hmem]
  ·have e':¬(z1=x1∧z2=x2):=by simp at e;omega
   (conv=>whnf);refine obr (zx (by first|omega|(dsimp only;omega))) ?_;(conv=>whnf)
   refine⟨i+1,⟨by omega,?_⟩,by omega,zS⟩;rw[List.take_add_one,hz];simp only[Option.toList,List.mem_append,List.mem_singleton,Prod.mk.injEq,not_or];exact⟨hni,fun h=>e' ⟨h.1.symm,h.2.symm⟩⟩
 ·have g':i=n:=by have:=Zd1 g;omega
  subst g';(conv=>whnf)
  refine⟨?_,rfl⟩;rw[List.take_of_length_le (by omega)] at hni;rw[decide_eq_false hni]
end
end Go.Proofs.YtpnhjkiligohnaaGreatDoor
