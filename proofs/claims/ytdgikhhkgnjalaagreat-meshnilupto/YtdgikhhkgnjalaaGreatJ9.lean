/- Part of this proof;laid by program. -/
import Derived.Test.YtdgikhhkgnjalaaGreatRows
import Derived.Test.YtdgikhhkgnjalaaGreatJ7
import Derived.WalkKit
import Derived.ProofKit
import Derived.OpenShut
import Derived.JoinedCond
import Derived.Sort.Walk0
import Derived.Shelf.Sort.Plain
import Derived.Shelf.Slices.In.SortNone
import Derived.Test.YtdgikhhkgnjalaaGreatJ8
set_option linter.unusedVariables false
set_option linter.unusedSimpArgs false
namespace Go.Proofs.YtdgikhhkgnjalaaGreat
open Go.ChangeShapes Go.WideShapes Go.ChangeAt Go.RowKit Go.Vm
namespace Br
set_option maxRecDepth 100000
theorem own:ownKnob Tryz.prog.godebug=none:=by kernel_rfl
theorem zA6:Tryz.prog.underlying T.zCp=some .bool:=by kernel_rfl
theorem zLc:laidOutB Tryz.prog=true:=by kernel_rfl
theorem zMt {H:Type} (d:DataW H):1≤Rows.uptoBulk d:=by
 cases d with
 | lit l=>cases l<;>simp[Rows.uptoBulk]
 | nil=>simp[Rows.uptoBulk]
 | ptr d=>simp[Rows.uptoBulk]
 | slice elems spare=>simp[Rows.uptoBulk]
 | agg parts=>simp[Rows.uptoBulk]
 | iface t d=>simp[Rows.uptoBulk]
 | map entries=>simp[Rows.uptoBulk]
 | held h=>simp[Rows.uptoBulk]
theorem part_le {H:Type} {d:DataW H} {l:List (DataW H)} (h:d∈l):Rows.uptoBulk d≤Rows.uptoBulkAll l:=by
 induction l with
 | nil=>cases h
 | cons x r ih=>
  simp only[Rows.uptoBulkAll]
  cases List.mem_cons.1 h with
  | inl e=>subst e;omega
  | inr e=>have:=ih e;omega
theorem zHd {H:Type} (l:List (DataW H)):l.length≤Rows.uptoBulkAll l:=by
 induction l with
 | nil=>simp[Rows.uptoBulkAll]
 | cons x r ih=>have:=zMt x;simp only[Rows.uptoBulkAll,List.length_cons];omega
def Reads (t:TypeId) (s:Nat) {α:Type} (R:Mem→List Value→α→Prop):Prop:=
 ∀ (H:Type) (enc:TypeId×Value→H) (W:World) (fuel:Nat) (cs:List Value) (d:DataW H) (ps:List MemPlace),
  DataW.trod enc Tryz.prog W 0 (fun _=>true) true fuel t cs=some (d,ps)→Rows.uptoBulk d≤1048576→cs.length=s∧∃ x,R (zk W) cs x
def zyW (k:IntKind) (n:Int):Prop:=(Lit.int k n).wf=true
theorem Reads.int {t:TypeId} {k:IntKind} (hu:Tryz.prog.underlying t=some (.int k)):Reads t 1 fun (_:Mem) cs (n:Int)=>cs=[.int k n]∧zyW k n:=by
 intro H enc W fuel cs d ps h _
 cases fuel with
 | zero=>simp[DataW.trod] at h
 | succ m=>
  unfold DataW.trod at h
  rw[hu] at h
  split at h<;>first|(simp at *; done)|skip
  rename_i k2 k1 n e1
  split at h
  ·rename_i hk
   cases e1
   exact⟨rfl,n,by rw[hk.1],hk.2⟩
  ·cases h
theorem zLd {W:World} {b o n:Nat} {f:Option Nat} {vs:List Value} (hf:f=none) (hn:0<n) (h:W.cells? 0 ⟨b,o,f⟩ n=some vs):(zk W).row b o n=some vs:=by
 subst hf
 unfold World.cells? at h
 simp only[Nat.zero_le,if_true] at h
 have hl:=mapM_some_length h
 have hg:∀ i,i<n→W.cell? ⟨b,o+i,none⟩=vs[i]? := fun i hi=>by
  have:=mapM_some_get h i i (by simp[hi])
  rwa [zc2] at this
 have h0:=hg 0 hn
 rw[List.length_range] at hl
 unfold Mem.row zk
 cases hw:W.heap[b]? with
 | none=>
  simp only[World.cell?, hw] at h0
  rw[List.getElem?_eq_getElem (by omega)] at h0
  cases h0
 | some ob=>
  cases ob with
  | cells c e fz=>
   have hc:∀ i,i<n→c[o+i]? = vs[i]? := fun i hi=>by
    have:=hg i hi
    simpa[World.cell?, hw] using this
   have hlast:=hc (n - 1) (by omega)
   rw[List.getElem?_eq_getElem (by omega)] at hlast
   have hsz:=(Array.getElem?_eq_some_iff.1 hlast).1
   simp only
   rw[if_pos (by omega)]
   congr 1
   apply List.ext_getElem?
   intro i
   by_cases hi:i<n
   ·rw[List.getElem?_take,if_pos hi,List.getElem?_drop,Array.getElem?_toList,hc i hi]
   ·rw[List.getElem?_take,if_neg hi,List.getElem?_eq_none (by omega)]
  | _=>
   simp only[World.cell?, hw] at h0
   rw[List.getElem?_eq_getElem (by omega)] at h0
   cases h0
theorem zIn {W W':World} (h:(zk W).le (zk W')) (hos:W'.os=W.os) (ht:W'.tape=W.tape) (ho:W'.output=W.output) (hs:W.heap.size≤W'.heap.size):Below W.heap.size W W':=
 ⟨hos,ht,ho,hs,fun k hk=>by
  have:W.heap[k]? = some W.heap[k]:=Array.getElem?_eq_getElem hk
  rw[this]
  exact h k _ this⟩
theorem zHe {M:Mem} {b o s:Nat} (cl:List (List Value)) (hs:0<s) (hne:cl.length≠0) (h:∀ i cs,cl[i]? = some cs→M.row b (o+i*s) s=some cs) (hl:∀ cs∈cl,cs.length=s) {n:Nat} (hn:cl.length=n) :
  M.row b o (n*s)=some cl.flatten:=by
 have hflat:cl.flatten.length=n*s:=by
  rw[List.length_flatten]
  have:cl.map List.length=List.replicate n s:=by
   apply List.ext_getElem (by simp[hn])
   intro i h1 h2
   simp at h1
   simp[hl _ (List.getElem_mem h1)]
  rw[this];simp
 have hlast:=h (n - 1) _ (List.getElem?_eq_getElem (by omega))
 unfold Mem.row at h hlast ⊢
 cases hM:M b with
 | none=>rw[hM] at hlast;cases hlast
 | some ob=>
  cases ob with
  | cells c e fz=>
   rw[hM] at hlast
   simp only[hM] at h
   have hsz:o+(n - 1)*s+s≤c.size:=by
    simp only at hlast
    split at hlast
    ·assumption
    ·cases hlast
   have hmul:n*s=(n - 1)*s+s:=by
    have:n=(n - 1)+1:=by omega
    rw[this,Nat.succ_mul];simp
   simp only
   rw[if_pos (by omega)]
   congr 1
   apply List.ext_getElem?
   intro j
   by_cases hj:j<n*s
   ·have hq:j / s<n:=by rw[Nat.div_lt_iff_lt_mul hs];exact hj
    have hj2:=Nat.div_add_mod j s
    have hmod:=Nat.mod_lt j hs
    have h8:=h (j / s) _ (List.getElem?_eq_getElem (by omega))
    split at h8
    ·have h9:=congrArg (·[j % s]?) (Option.some.inj h8)
     simp only[List.getElem?_take,if_pos hmod,List.getElem?_drop] at h9
     rw[List.getElem?_take,if_pos hj,List.getElem?_drop]
     have e1:o+j / s*s+j % s=o+j:=by rw[Nat.add_assoc,Nat.mul_comm,hj2]
     rw[e1] at h9
     rw[h9]
     have h10:=zsy hl (List.getElem?_eq_getElem (show j / s<cl.length by omega))
     have h11:=congrArg (·[j % s]?) h10
     simp only[List.getElem?_take,if_pos hmod,List.getElem?_drop] at h11
     rw[Nat.mul_comm,hj2] at h11
     exact h11.symm
    ·cases h8
   ·rw[List.getElem?_eq_none (by simp;omega),List.getElem?_eq_none (by omega)]
  | _=>rw[hM] at hlast;cases hlast
theorem pick {α β:Type} {p:Nat→α→β→Prop}:∀ {n:Nat} (_:∀ i,i<n→∃ a b,p i a b),∃ (l:List α) (r:List β),l.length=n∧r.length=n∧∀ (i:Nat) a b,l[i]? = some a→r[i]? = some b→p i a b
 | 0,_=>⟨[],[],rfl,rfl,by simp⟩
 | n+1,h=>by
  obtain⟨l,r,h1,h2,h3⟩:=pick (n:=n) fun i hi=>h i (by omega)
  obtain⟨a,b,hab⟩:=h n (by omega)
  refine⟨l++[a],r++[b],by simp[h1],by simp[h2],fun i a' b' ha hb=>?_⟩
  by_cases hi:i<n
  ·rw[List.getElem?_append_left (by omega)] at ha hb
   exact h3 i a' b' ha hb
  ·have hl:=(List.getElem?_eq_some_iff.1 ha).1
   simp at hl
   have:i=n:=by omega
   subst this
   rw[List.getElem?_append_right (by omega)] at ha hb
   simp[h1,h2] at ha hb
   subst ha;subst hb
   exact hab
theorem Reads.slice {t e:TypeId} {s:Nat} {α:Type} {R:Mem→List Value→α→Prop} (hu:Tryz.prog.underlying t=some (.slice e)) (hc:Tryz.prog.cellsOf e=s) (hs:0<s) (hr:Reads e s R) :
  Reads t 1 fun M cs (l:List α)=>∃ a n c,cs=[.slice a n c]∧Elems M s a n (R M) l∧n≤1048576∧n≤c:=by
 intro H enc W fuel cs d ps h hb
 cases fuel with
 | zero=>simp[DataW.trod] at h
 | succ m=>
  unfold DataW.trod at h
  rw[hu] at h
  split at h<;>first|(simp at *; done)|skip
  ·exact⟨rfl,[],none,0,0,rfl,Elems.nil _ _ _,by omega,Nat.le_refl _⟩
  ·rename_i e' a len cap h1
   cases h1
   rw[hc] at h
   dsimp only at h
   split at h
   ·rename_i hcond
    simp only[Option.bind_eq_some_iff,Option.map_eq_some_iff] at h
    obtain⟨els,hels,rest,hrest,hd⟩:=h
    simp only[Prod.mk.injEq] at hd
    obtain⟨hd, -⟩:=hd
    subst hd
    simp only[Rows.uptoBulk] at hb
    have hlen:=mapM_some_length hels
    rw[List.length_range] at hlen
    have hle:=zHd (els.map (·.1))
    rw[List.length_map] at hle
    have hel:∀ i (hi:i<len),∃ (cs:List Value) (x:α),W.cells? 0 (a.add (i*s)) s=some cs∧cs.length=s∧R (zk W) cs x:=by
     intro i hi
     have h3:=mapM_some_get hels i i (by simp[hi])
     rw[List.getElem?_eq_getElem (by omega)] at h3
     obtain⟨cs,h4,h5⟩:=Option.bind_eq_some_iff.1 h3
     obtain⟨h6,x,h7⟩:=hr H enc W m cs _ _ h5 (by
      have:=part_le (List.mem_map.2 ⟨els[i]'(by omega),List.getElem_mem _,rfl⟩:(els[i]'(by omega)).1∈els.map (·.1))
      exact Nat.le_trans this (by omega))
     exact⟨cs,x,h4,h6,h7⟩
    refine⟨rfl,?_⟩
    by_cases hz:len=0
    ·subst hz
     exact⟨[],a,0,cap,rfl,⟨[],⟨by simp,.inl rfl⟩,rfl,rfl,by simp,by simp⟩,by omega,Nat.zero_le _⟩
    obtain⟨b,o,f⟩:=a
    obtain⟨cs0,x0,h0,hl0,_⟩:=hel 0 (by omega)
    have hf:f=none:=by
     have h8:W.cells? 0 (⟨b,o,f⟩:Addr) s=some cs0:=by simpa[Addr.add] using h0
     unfold World.cells? at h8
     simp only[Nat.zero_le,if_true] at h8
     have h9:=mapM_some_get h8 0 0 (by simp[hs])
     rw[List.getElem?_eq_getElem (by omega)] at h9
     simp only[World.cell?, Addr.add,if_true] at h9
     split at h9
     ·split at h9
      ·cases h9
      ·rename_i hn;simpa using hn
     ·cases h9
    subst hf
    obtain⟨cl,xl,hcl,hxl,hp⟩:=pick hel
    have hflat:cl.flatten.length=len*s:=by
     rw[List.length_flatten]
     have:cl.map List.length=List.replicate len s:=by
      apply List.ext_getElem (by simp[hcl])
      intro i h1 h2
      simp at h1
      simp[(hp i _ _ (List.getElem?_eq_getElem h1) (List.getElem?_eq_getElem (by omega))).2.1]
     rw[this];simp
    have hrow:∀ i (hi:i<len),∀ cs,cl[i]? = some cs→(zk W).row b (o+i*s) s=some cs:=by
     intro i hi cs hc
     have h8:=(hp i _ _ hc (List.getElem?_eq_getElem (by omega))).1
     rw[zc2] at h8
     exact zLd rfl hs h8
    refine⟨xl,some ⟨b,o,none⟩,len,cap,rfl,⟨cl,⟨hflat,.inr ⟨b,o,rfl,zHe cl hs (by rw[hcl];omega) (fun i cs hc=>hrow i (by have:=(List.getElem?_eq_some_iff.1 hc).1;omega) cs hc) (fun cs hc=>?_) hcl⟩⟩,hcl,hxl,fun cs hc=>?_,fun i cs x hi hx=>(hp i cs x hi hx).2.2⟩,by omega,hcond.2.1⟩
    all_goals
     obtain⟨i,hi,rfl⟩:=List.mem_iff_getElem.1 hc
     exact(hp i _ _ (List.getElem?_eq_getElem hi) (List.getElem?_eq_getElem (by omega))).2.1
   ·cases h
theorem field {t:TypeId} {fs:Array Field} (hu:Tryz.prog.underlying t=some (.struct fs)) {H:Type} {enc:TypeId×Value→H} {W:World} {fuel:Nat} {cs:List Value} {d:DataW H} {ps:List MemPlace}
  (h:DataW.trod enc Tryz.prog W 0 (fun _=>true) true fuel t cs=some (d,ps)) (hb:Rows.uptoBulk d≤1048576) :
  cs.length=Tryz.prog.cellsOf t∧∀ (i:Nat) f,fs[i]? = some f→∀ (s:Nat) {α:Type} {R:Mem→List Value→α→Prop},Reads f.type s R→Tryz.prog.cellsOf f.type=s→((cs.drop f.offset).take s).length=s∧∃ x,R (zk W) ((cs.drop f.offset).take s) x:=by
 obtain⟨xs,m,rfl,hd,hl,hlen,hf⟩:=DataW.trod_struct hu h
 refine⟨hl,fun i f hi s α R hr hs=>?_⟩
 have h1:=hf i f hi
 have hlt:i<xs.length:=by rw[hlen];exact(Array.getElem?_eq_some_iff.1 hi).1
 rw[List.getElem?_eq_getElem hlt,hs] at h1
 cases hd
 exact hr H enc W _ _ _ _ h1 (by
  have:=part_le (List.mem_map.2 ⟨xs[i],List.getElem_mem _,rfl⟩:xs[i].1∈xs.map (·.1))
  simp only[Rows.uptoBulk] at hb
  exact Nat.le_trans this (by omega))
def Chunks (cs:List Value):Nat→List (List Value)→Prop
 | o,[]=>cs.length=o
 | o,c::r=>(cs.drop o).take c.length=c∧Chunks cs (o+c.length) r
theorem Chunks.drop {cs:List Value}:∀ {o:Nat} {l:List (List Value)},Chunks cs o l→cs.drop o=l.flatten
 | o,[],h=>by rw[List.drop_eq_nil_iff.2 (by simp only[Chunks] at h;omega)];rfl
 | o,c::r,⟨h1,h2⟩=>by
  rw[List.flatten_cons,←h2.drop,←List.drop_drop,←List.take_append_drop c.length (cs.drop o),h1]
  simp
theorem Chunks.eq {cs:List Value} {l:List (List Value)} (h:Chunks cs 0 l):cs=l.flatten:=by simpa using h.drop
theorem zq7 {H:Type} {enc:TypeId×Value→H} {W:World}:∀ {ts:List TypeId} {vs:List Value} {ds:List (DataW H)} {ps:List MemPlace},DataW.TrodAll enc Tryz.prog W 0 (fun _=>true) true ts vs ds ps→ds.length=ts.length
 | [],vs,ds,ps,h=>by obtain⟨_,rfl,_⟩:=trodAll_nil h;rfl
 | t::ts,vs,ds,ps,h=>by obtain⟨v,vs',d,ds',p,q,_,rfl,_,_,h⟩:=trodAll_cons h;simp[zq7 h]
theorem zsz {H:Type} {enc:TypeId×Value→H} {W W':World} (hbel:Below W.heap.size W W') {sp:Nat→Bool}:∀ {ts:List TypeId} {vs:List Value} {ds:List (DataW H)} {ps:List MemPlace},
  DataW.TrodAll enc Tryz.prog W 0 (fun _=>true) true ts vs ds ps→(∀ t∈ts,Tryz.prog.readableRec t=true∧t<Tryz.prog.types.size)→(∀ x∈ps,x.block<W.heap.size)→(∀ x∈ps,sp x.block=true)→DataW.TrodAll enc Tryz.prog W' 0 sp true ts vs ds ps
 | [],vs,ds,ps,h,_,_,_=>by obtain⟨rfl,rfl,rfl⟩:=trodAll_nil h;exact trodAll_mk0
 | t::ts,vs,ds,ps,h,hr,hlt,hsp=>by
  obtain⟨v,vs',d,ds',p1,p2,rfl,rfl,rfl,h0,hA⟩:=trodAll_cons h
  obtain⟨h1,h2⟩:=hr t (by simp)
  exact trodAll_cons_mk (WideElems.Trod_stays zLc h1 h2 h0 (fun x hx=>hbel.same (hlt x (List.mem_append_left _ hx))) (fun x hx=>hsp x (List.mem_append_left _ hx)))
   (zsz hbel hA (fun x hx=>hr x (List.mem_cons_of_mem _ hx)) (fun x hx=>hlt x (List.mem_append_right _ hx)) (fun x hx=>hsp x (List.mem_append_right _ hx)))
set_option maxRecDepth 10000 in
theorem zNu {fn:Func} {f:Nat} {s:ChangeSpec} {handsOn again fresh:Bool} (hs:∀ H (ds:List (DataW H)),ds.length=fn.params.size→(s.fn H ds).results=[.lit (.bool true)]∧(s.fn H ds).args=ds∧(s.fn H ds).vars=[])
  (hv:s.vars=[]) (hres:fn.resultTypes = #[T.zCp]) (hread':fn.params.toList.all (fun t=>Tryz.prog.readableRec t&&decide (t<Tryz.prog.types.size))=true)
  (H:Type) (enc:TypeId×Value→H) (W:World) (args:Array Value) (ds gs:List (DataW H)) (before:List MemPlace)
  (hW:DataW.Whole enc Tryz.prog fn.params.toList s.vars false W args.toList ds gs before) (law:CallsM Tryz.prog f args.toList (zk W) fun v M'=>v = .bool true∧(zk W).le M') :
  Calls Tryz.prog f args W fun e W'=>∃ v,e = .returned v∧s.post enc Tryz.prog fn false fresh handsOn again W args v W':=by
 have hread:∀ t∈fn.params.toList,Tryz.prog.readableRec t=true∧t<Tryz.prog.types.size:=fun t ht=>by
  have:=List.all_eq_true.1 hread' t ht
  simpa using this
 have hW':=hW
 obtain⟨p,q,hA,hV,rfl,hfz,hnd⟩:=hW
 rw[hv] at hV
 obtain⟨rfl,rfl⟩:=trodVars_none hV
 have hlen:ds.length=fn.params.size:=by simpa using zq7 hA
 simp only[List.append_nil] at hW'
 obtain⟨h1,h2,h3⟩:=hs H ds hlen
 have:=law.2 (fun _=>none) W (Mem.le_refl _) (fun _ _ h=>by cases h) (fun _ => .inr rfl)
 simp only[Array.toArray_toList] at this
 refine this.mono fun e W' ⟨v,M',he,⟨hvt,hle⟩,hM',_,_,hos,hout,htape,hsz⟩=>?_
 subst he;subst hvt
 have hbel:Below W.heap.size W W':=zIn (Mem.le_trans hle hM') hos htape hout hsz.1
 have hlt:∀ x∈p,x.block<W.heap.size:=fun x hx=>by simpa using hW'.lt x hx
 have hres':∀ (b:Nat) (sp:Nat→Bool) (hd:Bool),DataW.TrodAll enc Tryz.prog W' b sp hd fn.resultTypes.toList ((Value.bool true).resultList fn.resultTypes.size) (s.fn H (ds++[])).results []:=fun b sp hd=>by
  rw[List.append_nil,h1,hres]
  exact trodAll_cons_mk (shut_bool zA6 _) trodAll_mk0
 have hargs':∀ sp:Nat→Bool,(∀ x∈p,sp x.block=true)→DataW.TrodAll enc Tryz.prog W' 0 sp true fn.params.toList args.toList (s.fn H (ds++[])).args p:=fun sp hsp=>by
  rw[List.append_nil,h2]
  exact zsz hbel hA hread hlt hsp
 have hvars':∀ sp:Nat→Bool,DataW.TrodVars enc Tryz.prog W' sp s.vars (s.fn H (ds++[])).vars []:=fun sp=>by rw[hv,List.append_nil,h3];exact rfl
 have hbelow:∀ x∈p,decide (x.block<W.heap.size)=true:=fun x hx=>decide_eq_true (hlt x hx)
 have hub:Tryz.prog.underlying T.zCp=some .bool:=zA6
 have hok:=ok_one (P:=Tryz.prog) (W':=W') (v := .bool true) hres rfl (okWide_bool_mk hub true)
 have hkept:=hbel.frame (fun x=>x∈p∧(x∈([]:List MemPlace)∨x∈p∨x∈([]:List MemPlace)))
 refine⟨_,rfl,ds,[],p,[],p,[],hW',hres' _ _ _,hargs' _ hbelow,hvars' _,hkept,fun _=>⟨hok,_,_,([]++p)++[],⟨[]++p,[],trodAll_append (hargs' _ (fun _ _=>rfl)) (hres' _ _ _),hvars' _,rfl,?_,?_⟩,?_⟩⟩
 ·intro b off hx
  have hx':MemPlace.cell b off∈p:=by simpa using hx
  rw[hbel.frozen (p:=⟨b,off,none⟩) (hlt _ hx')]
  exact hfz b off (by simpa using hx')
 ·intro h;cases h
 ·intro x hx _
  simpa using hx
theorem zEK {t:TypeId} {fs:Array Field} (hu:Tryz.prog.underlying t=some (.struct fs)) {W:World} {base:Nat} {v:Value} (h:Value.okWide Tryz.prog W .any base t v):v = .agg v.cells.toList.toArray:=by
 unfold Value.okWide at h
 rw[hu] at h
 obtain⟨cs,hv,_⟩:=h
 rw[hv]
 rfl
theorem zNv {H:Type} {ds:List (DataW H)} (h:Rows.uptoSmall H (ds++[])=true):∀ d∈ds,Rows.uptoBulk d≤1048576:=fun d hd=>by
 have h1:Rows.uptoBulkAll (ds++[])≤1048576:=Zd0 h
 rw[List.append_nil] at h1
 exact Nat.le_trans (part_le hd) h1
end Br
end Go.Proofs.YtdgikhhkgnjalaaGreat
namespace Go.Proofs.YtdgikhhkgnjalaaGreat
open Go Go.Vm
attribute [local irreducible] Brn Ob Grow CallsM inR ziE zfC Mem.row Mem.cells Mem.setCells Mem.upd Go.Vm.Own zi5 zn6 zna zkg New SrcOk zap NewSl Mem.textAt Mem.mapAt Mem.iterAt zd0 kfind Wr znA Elems
set_option maxRecDepth 10000
open Br
theorem zyX:Reads T.int 1 fun (_:Mem) cs (n:Int)=>cs=[.int .i64 n]∧zyW .i64 n:=Reads.int (by kernel_rfl)
theorem zLe:Reads T.zzV 1 fun (_:Mem) cs (n:Int)=>cs=[.int .u8 n]∧zyW .u8 n:=Reads.int (by kernel_rfl)
theorem zHf {α:Type} {M:Mem} {a:Option Addr} {n:Nat} {R:List Value→α→Prop} {l:List α} {β:Type} (f:β→Value) (h:Elems M 1 a n R l) (hR:∀ cs x,R cs x→∃ y,cs=[f y]):∃ l':List β,SrcOk M 1 a n (l'.map f):=by
 unfold Elems at h
 obtain⟨css,h1,h2,h3,h4,h5⟩:=h
 have:∃ l':List β,css.flatten=l'.map f:=by
  clear h1 h4
  induction css generalizing l n with
  | nil=>exact⟨[],rfl⟩
  | cons cs r ih=>
   match l,h3 with
   | [],h3=>simp at h2 h3;omega
   | x::l,h3=>
    obtain⟨y,hy⟩:=hR cs x (h5 0 cs x rfl rfl)
    obtain⟨l',hl'⟩:=ih (n:=n - 1) (l:=l) (by simp at h2;omega) (by simp at h3;omega) (fun i c z hi hz=>h5 (i+1) c z (by simpa using hi) (by simpa using hz))
    exact⟨y::l',by simp[hy,hl']⟩
 obtain⟨l',e⟩:=this
 exact⟨l',e▸h1⟩
theorem zLf {n:Int} (h:zyW .u8 n):Value.int .u8 n=zn5 (UInt8.ofNat n.toNat):=by
 have:=bounds_u8 h
 simp only[zn5]
 congr 1
 simp
 omega
theorem zIo:Reads T.zA5 1 fun M cs (l:List UInt8)=>∃ a n c,cs=[.slice a n c]∧SrcOk M 1 a n (l.map zn5)∧n≤1048576∧n≤c:=fun H enc W fuel cs d ps h hb=>by
 obtain⟨h1,l,a,n,c,h2,h3,h4⟩:=Reads.slice (t:=T.zA5) (e:=T.zzV) (by kernel_rfl) (by kernel_rfl) (by decide) zLe H enc W fuel cs d ps h hb
 obtain⟨l',h5⟩:=zHf zn5 h3 (fun cs x hx=>⟨_,hx.1.trans (by rw[zLf hx.2])⟩)
 exact⟨h1,l',a,n,c,h2,h5,h4⟩
theorem zLg:Reads T.zEJ 5 fun _ cs (x:(Int×Int×Int×Int)×Option Addr×Nat×Nat)=>cs=[.int .i64 x.1.1,.int .i64 x.1.2.1,.int .i64 x.1.2.2.1,.int .i64 x.1.2.2.2,.slice x.2.1 x.2.2.1 x.2.2.2]:=fun H enc W fuel cs d ps h hb=>by
 obtain⟨hl,hf⟩:=field Tryz.underlying24 h hb
 replace hl:cs.length=5:=hl.trans (by kernel_rfl)
 obtain⟨-, n0,h0, -⟩:=hf 0 _ rfl 1 zyX (by kernel_rfl)
 obtain⟨-, n1,h1, -⟩:=hf 1 _ rfl 1 zyX (by kernel_rfl)
 obtain⟨-, n2,h2, -⟩:=hf 2 _ rfl 1 zyX (by kernel_rfl)
 obtain⟨-, n3,h3, -⟩:=hf 3 _ rfl 1 zyX (by kernel_rfl)
 obtain⟨-, l,a,n,c,h4, -, -, -⟩:=hf 4 _ rfl 1 zIo (by kernel_rfl)
 exact⟨hl,((n0,n1,n2,n3),a,n,c),(show Chunks cs 0 [[_],[_],[_],[_],[_]] from ⟨h0,h1,h2,h3,h4,hl⟩).eq⟩
end Go.Proofs.YtdgikhhkgnjalaaGreat
namespace Go.Proofs.YtdgikhhkgnjalaaGreat
open Go Go.Vm
def bl (b:ByteArray):List UInt8:=b.data.toList
def zNw (a b:ByteArray):Bool:=Op.bytesLess a.toList b.toList
structure FileR where
 name:ByteArray
 safe:ByteArray
 tail:ByteArray
def FileR.all (f:FileR):ByteArray:=f.safe++f.tail
structure zyY where
 limit:Int
 l:List FileR
 left:Int
 down:Bool
def zD5 (L:List FileR):Prop:=L.Pairwise fun x y=>zNw x.name y.name=true
def zNx (L:List FileR) (n:ByteArray):Option FileR:=L.find? fun f=>decide (f.name=n)
def zNy (L:List FileR):Nat:=(L.map fun f=>f.safe.size+f.tail.size).sum
structure zOD (D:zyY):Prop where
 sort:zD5 D.l
 len:D.l.length≤64
 used:zNy D.l≤1048576
 limit:0≤D.limit∧D.limit≤1048576
 left : -1≤D.left∧D.left≤9223372036854775807
end Go.Proofs.YtdgikhhkgnjalaaGreat
namespace Go.Proofs.YtdgikhhkgnjalaaGreat
open Go Go.Vm
attribute [local irreducible] Brn Ob Grow CallsM inR ziE zfC Mem.row Mem.cells Mem.setCells Mem.upd Go.Vm.Own zi5 zn6 zna zkg New SrcOk zap NewSl Mem.textAt Mem.mapAt Mem.iterAt zd0 kfind Wr znA Elems
set_option maxRecDepth 10000
section
@[reducible] def zN0 (k:ByteArray):Value := .string k
structure FX where
 f:Nat
 a:Option Addr
 c:Nat
 p:List UInt8
 safe:Nat
@[reducible] def fxV (x:FX):Value:=ptr x.f
structure zN1 (M:Mem) (x:FX):Prop where
 self:M.has x.f T.zDv [.slice x.a x.p.length x.c,.int .i64 x.safe]
 row:Wr M T.zzV 1 x.a x.p.length x.c (x.p.map zn5)
def FX.own (x:FX):Nat→Prop:=fun y=>y=x.f∨blk x.a y
def zMu (x y:FX):Prop:=∀ z,x.own z→¬y.own z
abbrev FsT:=List (ByteArray×FX)
structure DAt (M:Mem) (p b:Nat) (D:zyY) (es:FsT):Prop where
 self:M.has p T.zDu [.int .i64 D.limit,.map (some b),.int .i64 D.left,.bool D.down]
 map:zNt zN0 fxV M b es
 ents:∀ q∈es,zN1 M q.2
 apart:es.Pairwise fun x y=>zMu x.2 y.2
def zEL (p b:Nat) (es:FsT):Nat→Prop:=fun y=>y=p∨y=b∨∃ q∈es,q.2.own y
variable {M:Mem} {p b:Nat} {D:zyY} {es:FsT}
def cont (f:FileR):List UInt8×Nat:=(bl f.all,f.safe.size)
structure zN2 (es:FsT) (L:List FileR):Prop where
 sort:zD5 L
 nodup:(es.map (·.1)).Nodup
 same:∀ n,(zMr es n).map (fun x=>(x.p,x.safe))=(zNx L n).map cont
end
section
variable {M:Mem} {p b:Nat} {D:zyY} {es:FsT}
structure zOw (M M':Mem) (p b:Nat) (es es':FsT) (D':zyY):Prop where
 at':DAt M' p b D' es'
 rel:zN2 es' D'.l
 keep:Mem.keep (zEL p b es) M M'
 own:∀ y,zEL p b es' y→zEL p b es y∨M y=none
theorem Wr.newSl {E:TypeId} {s:Nat} {a:Option Addr} {n c:Nat} {L:List Value} (h:Wr M E s a n c L):NewSl (M.minus (blk a)) E s a n c L M:=by
 unfold Wr at h
 obtain⟨h1,h2,h3⟩:=h
 exact newSl_iff.2 ⟨Mem.minus_le _ _,h1,h2,h3.imp id fun ⟨b,cs,ha,hh,hr⟩=>⟨b,cs,ha,Mem.minus_in ⟨_,ha,rfl⟩,hh,hr⟩⟩
end
section
variable {M:Mem}
theorem zD7 (base size:Int):CallsM Tryz.prog F.zcC [.int .i64 base,.int .i64 size] M fun v M'=>∃ B1 B2,v = .func (.func F.zhY) #[] #[.pointer (some ⟨B1,0,none⟩),.pointer (some ⟨B2,0,none⟩)] ∧
  M'.has B1 T.int [.int .i64 size]∧M'.has B2 T.int [.int .i64 base]∧M.le M':=by
 refine zz2 (by simp) ?_
 refine zR ?_
 refine new (fun b1 hb1=>?_)
 replace hb1:M b1=none:=hb1
 (conv=>whnf)
 refine new (fun b2 hb2=>?_)
 replace hb2:(M.setCells b1 T.int [.int .i64 size]) b2=none:=hb2
 refine zR ?_
 have hle1:M.le (M.setCells b1 T.int [.int .i64 size]):=Mem.le_setCells hb1
 have hle2:(M.setCells b1 T.int [.int .i64 size]).le ((M.setCells b1 T.int [.int .i64 size]).setCells b2 T.int [.int .i64 base]):=Mem.le_setCells hb2
 exact⟨b1,b2,rfl,Mem.has.le hle2 Mem.has_setCells,Mem.has_setCells,Mem.le_trans hle1 hle2⟩
def IU (b1:Nat) (out:List Int) (M:Mem):Prop:=∃ a c,M.has b1 T.zbR [.slice a out.length c]∧Wr M T.int 1 a out.length c (out.map (Value.int .i64))∧(out=[]→a=none∧c=0)
theorem zLh (x:Int):∀ u∈[Value.int .i64 x],u.oneCell'=true:=fun u hu=>by simp at hu;subst hu;rfl
theorem under_nil:CallsM Tryz.prog F.zaE [.pointer none] M fun v M'=>v = .slice none 0 0∧M=M':=by
 refine zkq (by simp) ?_
 repeat' ((conv=>whnf);first|refine⟨?_,True.intro⟩|refine⟨?_,?_,True.intro⟩|refine brn_t rfl ?_|refine brn_f rfl ?_|refine ob rfl ?_|refine ob (by decide) ?_|refine grow_same (Mem.le_refl _) ?_|refine ob (Mem.le_refl _) ?_|refine⟨_,Mem.le_refl _,?_⟩|fail)
 exact⟨rfl,rfl⟩
set_option maxHeartbeats 1000000 in
theorem zIp {p:Nat} {sz:Value} {base un:Int} {al:Value} (h:M.has p T.zma [sz,.int .i64 base,al,.int .i64 un]) (hu : -9223372036854775808≤un∧un<9223372036854775808) :
  CallsM Tryz.prog F.zaE [.pointer (some ⟨p,0,none⟩)] M fun v M'=>∃ a c,v = .slice a (zbz base (z9 un)).length c∧NewSl M T.int 1 a (zbz base (z9 un)).length c ((zbz base (z9 un)).map (Value.int .i64)) M'∧(zbz base (z9 un)=[]→a=none∧c=0):=by
 refine zkq (by simp) ?_
 repeat' ((conv=>whnf);first|refine⟨?_,True.intro⟩|refine⟨?_,?_,True.intro⟩|refine brn_t rfl ?_|refine brn_f rfl ?_|refine ob rfl ?_|refine ob (by decide) ?_|refine grow_same (Mem.le_refl _) ?_|refine ob (Mem.le_refl _) ?_|refine⟨_,Mem.le_refl _,?_⟩|fail)
 refine on (h.c1 rfl) ?_
 refine zR ?_
 refine on (h.c1 rfl) ?_
 refine zR ?_
 refine(zD7 base un).mono ?_
 rintro v M1 ⟨B1,B2,rfl,hB1,hB2,hle1⟩
 (conv=>whnf);refine⟨rfl,?_⟩
 (conv=>whnf);refine new (fun b1 hb1=>?_)
 replace hb1:M1 b1=none:=hb1
 have hle2:M1.le (M1.setCells b1 T.zbR [.slice none 0 0]):=Mem.le_setCells hb1
 have h1b1:=Mem.has_setCells (M:=M1) (b:=b1) (E:=T.zbR) (l:=[.slice none 0 0])
 obtain⟨M3,hM3⟩:∃ M3,M3=M1.setCells b1 T.zbR [.slice none 0 0]:=⟨_,rfl⟩
 rw[←hM3] at hle2 h1b1
 obtain⟨M0,hM0⟩:∃ M0:Mem,M0=M3.minus (fun y=>y≠b1):=⟨_,rfl⟩
 have h01:M0 b1=M3 b1:=by rw[hM0];unfold Mem.minus;rw[if_neg (by simp)]
 (conv=>whnf)
 erw [←hM3]
 refine zHb (zD4 (A:=M1) hB1 hB2 hu) (by kernel_rfl) rfl hle2 (fun _=>rfl) (IU b1) M0 (hM0▸Mem.minus_le _ _) (fun b hb=>?_) ⟨none,0,?_,?_,fun _=>⟨rfl,rfl⟩⟩ ?_ ?_
 ·rw[hM0]
  refine Mem.minus_in (fun e=>?_)
  rw[e] at hb;exact hb hb1
 ·unfold Mem.has at h1b1 ⊢; rw[h01];exact h1b1
 ·unfold Wr;exact⟨rfl,Nat.le_refl _,.inl ⟨rfl,rfl⟩⟩
 ·rintro pre x Mb Mx Mc ⟨a2,c2,ho1,ho2,ho3⟩ hlt ⟨hx1,hx2⟩ hfr hle4 hle5
  have g1:Mc.has b1 T.zbR [.slice a2 pre.length c2]:=Mem.has.le hle4 ho1
  have g3:=ho2.le hle4
  have hN:z9 un≤128:=by unfold z9;omega
  refine zR ?_
  refine⟨rfl,?_⟩
  refine zR ?_
  refine on (g1.c1 rfl) ?_
  refine zR ?_
  refine appK (Mc.minus (blk a2)) _ (Wr.newSl g3) (by omega) (by simp[maxLen];omega) (zLh x) fun a4 c4 M4 hN4 hk4=>?_
  have hb1n:¬blk a2 b1:=fun ⟨q,hq,e⟩=>by
   obtain⟨cs,hh⟩:=g3.block hq
   rw[e] at hh
   exact absurd (hh.inj g1).1 (by decide)
  have k1:M4.has b1 T.zbR [.slice a2 pre.length c2]:=hk4 _ _ hb1n g1
  have k3:=hN4.wr
  have hb4:∀ q,a4=some q→q.block≠b1:=fun q hq e=>by
   obtain⟨cs,hh⟩:=k3.block hq
   rw[e] at hh;exact absurd (hh.inj k1).1 (by decide)
  refine zR ?_
  refine on k1.cells ?_
  (conv=>whnf);refine ob (by simp) ?_
  have hk5:Mem.keep (fun y=>y=b1) M4 (M4.setCells b1 T.zbR [.slice a4 (pre.length+1) c4]):=fun y o hy ho=>by
   unfold Mem.setCells;rw[Mem.upd_ne _ _ hy];exact ho
  have m1:(M4.setCells b1 T.zbR [.slice a4 (pre.length+1) c4]).has b1 T.zbR [.slice a4 (pre.length+1) c4]:=Mem.has_setCells
  obtain⟨M5,hM5⟩:∃ M5,M5=M4.setCells b1 T.zbR [.slice a4 (pre.length+1) c4]:=⟨_,rfl⟩
  rw[←hM5] at hk5 m1
  (conv=>whnf)
  refine⟨rfl,M5,⟨a4,c4,?_,?_,fun h=>by simp at h⟩,hM5▸Mem.le_refl _⟩
  ·rw[List.length_append];exact m1
  ·rw[List.length_append,List.map_append]
   refine k3.mono fun q o hq ho=>hk5 _ _ (hb4 q hq) ho
 ·rintro xs Mb Mc hD ⟨a2,c2,ho1,ho2,ho3⟩ hdj hle4 hle5
  have g1:Mc.has b1 T.zbR [.slice a2 xs.length c2]:=Mem.has.le hle4 ho1
  refine zR ?_
  refine on (g1.c1 rfl) ?_
  refine zR ?_
  subst hD
  refine⟨a2,c2,rfl,?_,ho3⟩
  refine newSl_iff.2 ⟨Mem.le_trans hle1 hle5,?_⟩
  unfold Wr at ho2
  obtain⟨w1,w2,w3⟩:=ho2
  refine⟨w1,w2,w3.imp id fun ⟨b,cs,ha,hh,hr⟩=>⟨b,cs,ha,?_,hh.le hle4,hr⟩⟩
  cases e:M b with
  | none=>rfl
  | some o=>
   have:=hdj b (by rw[hle1 _ _ e];simp)
   unfold Mem.has at hh;rw[hh] at this;cases this
end
end Go.Proofs.YtdgikhhkgnjalaaGreat
