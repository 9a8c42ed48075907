/- Part of this proof;laid by program. -/
import Derived.Test.YtdogcflaekkdkaaGreatRows
import Derived.Test.YtdogcflaekkdkaaGreatJ6
import Derived.Test.YtdogcflaekkdkaaGreatJ7
import Derived.WalkKit
import Derived.ProofKit
import Derived.OpenShut
import Derived.JoinedCond
set_option linter.unusedVariables false
set_option linter.unusedSimpArgs false
namespace Go.Proofs.YtdogcflaekkdkaaGreat
open Go.ChangeShapes Go.WideShapes Go.ChangeAt Go.RowKit Go.Vm
namespace Br
set_option maxRecDepth 100000
theorem own:ownKnob Tryz.prog.godebug=none:=by kernel_rfl
theorem zy4:Tryz.prog.underlying T.zAA=some .bool:=by kernel_rfl
theorem zIW:laidOutB Tryz.prog=true:=by kernel_rfl
theorem part_le {H:Type} {d:DataW H} {l:List (DataW H)} (h:d∈l):Rows.uptoBulk d≤Rows.uptoBulkAll l:=by
 induction l with
 | nil=>cases h
 | cons x r ih=>
  simp only[Rows.uptoBulkAll]
  cases List.mem_cons.1 h with
  | inl e=>subst e;omega
  | inr e=>have:=ih e;omega
def Reads (t:TypeId) (s:Nat) {α:Type} (R:Mem→List Value→α→Prop):Prop:=
 ∀ (H:Type) (enc:TypeId×Value→H) (W:World) (fuel:Nat) (cs:List Value) (d:DataW H) (ps:List MemPlace),
  DataW.trod enc Tryz.prog W 0 (fun _=>true) true fuel t cs=some (d,ps)→Rows.uptoBulk d≤1048576→cs.length=s∧∃ x,R (zk W) cs x
def zFE (k:IntKind) (n:Int):Prop:=(Lit.int k n).wf=true
theorem Reads.int {t:TypeId} {k:IntKind} (hu:Tryz.prog.underlying t=some (.int k)):Reads t 1 fun (_:Mem) cs (n:Int)=>cs=[.int k n]∧zFE k n:=by
 intro H enc W fuel cs d ps h _
 cases fuel with
 | zero=>simp[DataW.trod] at h
 | succ m=>
  unfold DataW.trod at h
  rw[hu] at h
  split at h<;>first|(simp at *; done)|skip
  rename_i k2 k1 n e1
  split at h
  ·rename_i hk
   cases e1
   exact⟨rfl,n,by rw[hk.1],hk.2⟩
  ·cases h
theorem zGK {W W':World} (h:(zk W).le (zk W')) (hos:W'.os=W.os) (ht:W'.tape=W.tape) (ho:W'.output=W.output) (hs:W.heap.size≤W'.heap.size):Below W.heap.size W W':=
 ⟨hos,ht,ho,hs,fun k hk=>by
  have:W.heap[k]? = some W.heap[k]:=Array.getElem?_eq_getElem hk
  rw[this]
  exact h k _ this⟩
theorem field {t:TypeId} {fs:Array Field} (hu:Tryz.prog.underlying t=some (.struct fs)) {H:Type} {enc:TypeId×Value→H} {W:World} {fuel:Nat} {cs:List Value} {d:DataW H} {ps:List MemPlace}
  (h:DataW.trod enc Tryz.prog W 0 (fun _=>true) true fuel t cs=some (d,ps)) (hb:Rows.uptoBulk d≤1048576) :
  cs.length=Tryz.prog.cellsOf t∧∀ (i:Nat) f,fs[i]? = some f→∀ (s:Nat) {α:Type} {R:Mem→List Value→α→Prop},Reads f.type s R→Tryz.prog.cellsOf f.type=s→((cs.drop f.offset).take s).length=s∧∃ x,R (zk W) ((cs.drop f.offset).take s) x:=by
 obtain⟨xs,m,rfl,hd,hl,hlen,hf⟩:=DataW.trod_struct hu h
 refine⟨hl,fun i f hi s α R hr hs=>?_⟩
 have h1:=hf i f hi
 have hlt:i<xs.length:=by rw[hlen];exact(Array.getElem?_eq_some_iff.1 hi).1
 rw[List.getElem?_eq_getElem hlt,hs] at h1
 cases hd
 exact hr H enc W _ _ _ _ h1 (by
  have:=part_le (List.mem_map.2 ⟨xs[i],List.getElem_mem _,rfl⟩:xs[i].1∈xs.map (·.1))
  simp only[Rows.uptoBulk] at hb
  exact Nat.le_trans this (by omega))
def Chunks (cs:List Value):Nat→List (List Value)→Prop
 | o,[]=>cs.length=o
 | o,c::r=>(cs.drop o).take c.length=c∧Chunks cs (o+c.length) r
theorem Chunks.drop {cs:List Value}:∀ {o:Nat} {l:List (List Value)},Chunks cs o l→cs.drop o=l.flatten
 | o,[],h=>by rw[List.drop_eq_nil_iff.2 (by simp only[Chunks] at h;omega)];rfl
 | o,c::r,⟨h1,h2⟩=>by
  rw[List.flatten_cons,←h2.drop,←List.drop_drop,←List.take_append_drop c.length (cs.drop o),h1]
  simp
theorem Chunks.eq {cs:List Value} {l:List (List Value)} (h:Chunks cs 0 l):cs=l.flatten:=by simpa using h.drop
theorem zqz {H:Type} {enc:TypeId×Value→H} {W:World}:∀ {ts:List TypeId} {vs:List Value} {ds:List (DataW H)} {ps:List MemPlace},DataW.TrodAll enc Tryz.prog W 0 (fun _=>true) true ts vs ds ps→ds.length=ts.length
 | [],vs,ds,ps,h=>by obtain⟨_,rfl,_⟩:=trodAll_nil h;rfl
 | t::ts,vs,ds,ps,h=>by obtain⟨v,vs',d,ds',p,q,_,rfl,_,_,h⟩:=trodAll_cons h;simp[zqz h]
theorem zrZ {H:Type} {enc:TypeId×Value→H} {W W':World} (hbel:Below W.heap.size W W') {sp:Nat→Bool}:∀ {ts:List TypeId} {vs:List Value} {ds:List (DataW H)} {ps:List MemPlace},
  DataW.TrodAll enc Tryz.prog W 0 (fun _=>true) true ts vs ds ps→(∀ t∈ts,Tryz.prog.readableRec t=true∧t<Tryz.prog.types.size)→(∀ x∈ps,x.block<W.heap.size)→(∀ x∈ps,sp x.block=true)→DataW.TrodAll enc Tryz.prog W' 0 sp true ts vs ds ps
 | [],vs,ds,ps,h,_,_,_=>by obtain⟨rfl,rfl,rfl⟩:=trodAll_nil h;exact trodAll_mk0
 | t::ts,vs,ds,ps,h,hr,hlt,hsp=>by
  obtain⟨v,vs',d,ds',p1,p2,rfl,rfl,rfl,h0,hA⟩:=trodAll_cons h
  obtain⟨h1,h2⟩:=hr t (by simp)
  exact trodAll_cons_mk (WideElems.Trod_stays zIW h1 h2 h0 (fun x hx=>hbel.same (hlt x (List.mem_append_left _ hx))) (fun x hx=>hsp x (List.mem_append_left _ hx)))
   (zrZ hbel hA (fun x hx=>hr x (List.mem_cons_of_mem _ hx)) (fun x hx=>hlt x (List.mem_append_right _ hx)) (fun x hx=>hsp x (List.mem_append_right _ hx)))
set_option maxRecDepth 10000 in
theorem zKP {fn:Func} {f:Nat} {s:ChangeSpec} {handsOn again fresh:Bool} (hs:∀ H (ds:List (DataW H)),ds.length=fn.params.size→(s.fn H ds).results=[.lit (.bool true)]∧(s.fn H ds).args=ds∧(s.fn H ds).vars=[])
  (hv:s.vars=[]) (hres:fn.resultTypes = #[T.zAA]) (hread':fn.params.toList.all (fun t=>Tryz.prog.readableRec t&&decide (t<Tryz.prog.types.size))=true)
  (H:Type) (enc:TypeId×Value→H) (W:World) (args:Array Value) (ds gs:List (DataW H)) (before:List MemPlace)
  (hW:DataW.Whole enc Tryz.prog fn.params.toList s.vars false W args.toList ds gs before) (law:CallsM Tryz.prog f args.toList (zk W) fun v M'=>v = .bool true∧(zk W).le M') :
  Calls Tryz.prog f args W fun e W'=>∃ v,e = .returned v∧s.post enc Tryz.prog fn false fresh handsOn again W args v W':=by
 have hread:∀ t∈fn.params.toList,Tryz.prog.readableRec t=true∧t<Tryz.prog.types.size:=fun t ht=>by
  have:=List.all_eq_true.1 hread' t ht
  simpa using this
 have hW':=hW
 obtain⟨p,q,hA,hV,rfl,hfz,hnd⟩:=hW
 rw[hv] at hV
 obtain⟨rfl,rfl⟩:=trodVars_none hV
 have hlen:ds.length=fn.params.size:=by simpa using zqz hA
 simp only[List.append_nil] at hW'
 obtain⟨h1,h2,h3⟩:=hs H ds hlen
 have:=law.2 (fun _=>none) W (Mem.le_refl _) (fun _ _ h=>by cases h) (fun _ => .inr rfl)
 simp only[Array.toArray_toList] at this
 refine this.mono fun e W' ⟨v,M',he,⟨hvt,hle⟩,hM',_,_,hos,hout,htape,hsz⟩=>?_
 subst he;subst hvt
 have hbel:Below W.heap.size W W':=zGK (Mem.le_trans hle hM') hos htape hout hsz.1
 have hlt:∀ x∈p,x.block<W.heap.size:=fun x hx=>by simpa using hW'.lt x hx
 have hres':∀ (b:Nat) (sp:Nat→Bool) (hd:Bool),DataW.TrodAll enc Tryz.prog W' b sp hd fn.resultTypes.toList ((Value.bool true).resultList fn.resultTypes.size) (s.fn H (ds++[])).results []:=fun b sp hd=>by
  rw[List.append_nil,h1,hres]
  exact trodAll_cons_mk (shut_bool zy4 _) trodAll_mk0
 have hargs':∀ sp:Nat→Bool,(∀ x∈p,sp x.block=true)→DataW.TrodAll enc Tryz.prog W' 0 sp true fn.params.toList args.toList (s.fn H (ds++[])).args p:=fun sp hsp=>by
  rw[List.append_nil,h2]
  exact zrZ hbel hA hread hlt hsp
 have hvars':∀ sp:Nat→Bool,DataW.TrodVars enc Tryz.prog W' sp s.vars (s.fn H (ds++[])).vars []:=fun sp=>by rw[hv,List.append_nil,h3];exact rfl
 have hbelow:∀ x∈p,decide (x.block<W.heap.size)=true:=fun x hx=>decide_eq_true (hlt x hx)
 have hub:Tryz.prog.underlying T.zAA=some .bool:=zy4
 have hok:=ok_one (P:=Tryz.prog) (W':=W') (v := .bool true) hres rfl (okWide_bool_mk hub true)
 have hkept:=hbel.frame (fun x=>x∈p∧(x∈([]:List MemPlace)∨x∈p∨x∈([]:List MemPlace)))
 refine⟨_,rfl,ds,[],p,[],p,[],hW',hres' _ _ _,hargs' _ hbelow,hvars' _,hkept,fun _=>⟨hok,_,_,([]++p)++[],⟨[]++p,[],trodAll_append (hargs' _ (fun _ _=>rfl)) (hres' _ _ _),hvars' _,rfl,?_,?_⟩,?_⟩⟩
 ·intro b off hx
  have hx':MemPlace.cell b off∈p:=by simpa using hx
  rw[hbel.frozen (p:=⟨b,off,none⟩) (hlt _ hx')]
  exact hfz b off (by simpa using hx')
 ·intro h;cases h
 ·intro x hx _
  simpa using hx
theorem zDo {t:TypeId} {fs:Array Field} (hu:Tryz.prog.underlying t=some (.struct fs)) {W:World} {base:Nat} {v:Value} (h:Value.okWide Tryz.prog W .any base t v):v = .agg v.cells.toList.toArray:=by
 unfold Value.okWide at h
 rw[hu] at h
 obtain⟨cs,hv,_⟩:=h
 rw[hv]
 rfl
theorem zKQ {H:Type} {ds:List (DataW H)} (h:Rows.uptoSmall H (ds++[])=true):∀ d∈ds,Rows.uptoBulk d≤1048576:=fun d hd=>by
 have h1:Rows.uptoBulkAll (ds++[])≤1048576:=Zd0 h
 rw[List.append_nil] at h1
 exact Nat.le_trans (part_le hd) h1
end Br
end Go.Proofs.YtdogcflaekkdkaaGreat
namespace Go.Proofs.YtdogcflaekkdkaaGreat
open Go Go.Vm
attribute [local irreducible] Brn Ob Grow CallsM inR zh4 zfz Mem.row Mem.cells Mem.setCells Mem.upd Go.Vm.Own ziw znx zmE zjF New ziu zaq NewSl Mem.textAt Mem.mapAt Mem.iterAt zd5 kfind Wr zm5 zpq
set_option maxRecDepth 10000
open Br
theorem zjP:Reads T.int 1 fun (_:Mem) cs (n:Int)=>cs=[.int .i64 n]∧zFE .i64 n:=Reads.int (by kernel_rfl)
theorem zGL:Reads T.zBR 3 fun (_:Mem) cs (q:Int×Int×Int)=>cs=[.int .i64 q.1,.int .i64 q.2.1,.int .i64 q.2.2]:=fun H enc W fuel cs d ps h hb=>by
 obtain⟨hl,hf⟩:=field Tryz.underlying23 h hb
 replace hl:cs.length=3:=hl.trans (by kernel_rfl)
 obtain⟨-, n0,h0, -⟩:=hf 0 _ rfl 1 zjP (by kernel_rfl)
 obtain⟨-, n1,h1, -⟩:=hf 1 _ rfl 1 zjP (by kernel_rfl)
 obtain⟨-, n2,h2, -⟩:=hf 2 _ rfl 1 zjP (by kernel_rfl)
 exact⟨hl,⟨n0,n1,n2⟩,(show Chunks cs 0 [[_],[_],[_]] from ⟨h0,h1,h2,hl⟩).eq⟩
theorem zIX:Reads T.zxQ 10 fun (_:Mem) cs (x:(Int×Int×Int)×Int×Int×Int×Int×Int×Int×Int)=>cs=[.int .i64 x.1.1,.int .i64 x.1.2.1,.int .i64 x.1.2.2,.int .i64 x.2.1,.int .i64 x.2.2.1,.int .i64 x.2.2.2.1,.int .i64 x.2.2.2.2.1,.int .i64 x.2.2.2.2.2.1,.int .i64 x.2.2.2.2.2.2.1,.int .i64 x.2.2.2.2.2.2.2]:=fun H enc W fuel cs d ps h hb=>by
 obtain⟨hl,hf⟩:=field Tryz.underlying25 h hb
 replace hl:cs.length=10:=hl.trans (by kernel_rfl)
 obtain⟨-, q,h0⟩:=hf 0 _ rfl 3 zGL (by kernel_rfl)
 obtain⟨-, n1,h1, -⟩:=hf 1 _ rfl 1 zjP (by kernel_rfl)
 obtain⟨-, n2,h2, -⟩:=hf 2 _ rfl 1 zjP (by kernel_rfl)
 obtain⟨-, n3,h3, -⟩:=hf 3 _ rfl 1 zjP (by kernel_rfl)
 obtain⟨-, n4,h4, -⟩:=hf 4 _ rfl 1 zjP (by kernel_rfl)
 obtain⟨-, n5,h5, -⟩:=hf 5 _ rfl 1 zjP (by kernel_rfl)
 obtain⟨-, n6,h6, -⟩:=hf 6 _ rfl 1 zjP (by kernel_rfl)
 obtain⟨-, n7,h7, -⟩:=hf 7 _ rfl 1 zjP (by kernel_rfl)
 exact⟨hl,(q,n1,n2,n3,n4,n5,n6,n7),(show Chunks cs 0 [[_,_,_],[_],[_],[_],[_],[_],[_],[_]] from ⟨h0,h1,h2,h3,h4,h5,h6,h7,hl⟩).eq⟩
end Go.Proofs.YtdogcflaekkdkaaGreat
namespace Go.Proofs.YtdogcflaekkdkaaGreat
set_option linter.unusedSimpArgs false
open Go Go.Vm
attribute [local irreducible] Brn Ob Grow CallsM inR zh4 zfz Mem.row Mem.cells Mem.setCells Mem.upd Go.Vm.Own ziw znx zmE zjF New ziu zaq NewSl Mem.textAt Mem.mapAt Mem.iterAt zd5 kfind Wr zm5 zpq
set_option maxRecDepth 10000
variable {M M':Mem}
def okN (x a b:Int):Bool:=decide (a≤x∧x≤b)
theorem zm6 (x a b:Int):okN x a b=(decide (x≥a)&&decide (x≤b)):=by unfold okN;simp
def okQ (a b c:Int):Bool:=okN a 0 256&&(okN b 0 1048576&&okN c 0 256)
def okS (q:Bool) (d s w t r i y:Int):Bool:=q&&(okN d 1 1048576&&(okN s 16 1048576&&(okN w 1 63&&(okN t 1 64&&(okN r 1 64&&(okN i 1 64&&okN y 0 64))))))
def no1 (b:Bool):Int:=match b with|true=>0|false=>1
theorem zoF (x a b:Int):CallsM Tryz.prog F.zab [.int .i64 x,.int .i64 a,.int .i64 b] M fun v M'=>v = .bool (okN x a b)∧M=M':=by
 refine zDh (by simp) ?_
 (conv=>whnf);refine brn (fun h=>?_) (fun h=>?_)
 all_goals (conv=>whnf)
 ·exact⟨by rw[zm6];have:=Zd0 h;simp_all,rfl⟩
 ·exact⟨by rw[zm6];have:=Zd1 h;simp_all;omega,rfl⟩
theorem zoG (x a b:Int):CallsM Tryz.prog F.zC [.int .i64 x,.int .i64 a,.int .i64 b] M fun v M'=>v = .bool (okN x a b)∧M=M':=by
 refine zwO (by simp) ?_
 (conv=>whnf);refine brn (fun h=>?_) (fun h=>?_)
 all_goals (conv=>whnf)
 ·exact⟨by rw[zm6];have:=Zd0 h;simp_all,rfl⟩
 ·exact⟨by rw[zm6];have:=Zd1 h;simp_all;omega,rfl⟩
theorem zwT (x b:Int):CallsM Tryz.prog F.zam [.int .i64 x,.int .i64 b] M fun v M'=>v = .bool (okN x 0 b)∧M=M':=by
 refine zB0 (by simp) ?_
 (conv=>whnf);refine brn (fun h=>?_) (fun h=>?_)
 all_goals (conv=>whnf)
 ·exact⟨by rw[zm6];have:=Zd0 h;simp_all,rfl⟩
 ·exact⟨by rw[zm6];have:=Zd1 h;simp_all;omega,rfl⟩
theorem zwU (x b:Int):CallsM Tryz.prog F.zau [.int .i64 x,.int .i64 b] M fun v M'=>v = .bool (okN x 0 b)∧M=M':=by
 refine zwP (by simp) ?_
 (conv=>whnf);refine brn (fun h=>?_) (fun h=>?_)
 all_goals (conv=>whnf)
 ·exact⟨by rw[zm6];have:=Zd0 h;simp_all,rfl⟩
 ·exact⟨by rw[zm6];have:=Zd1 h;simp_all;omega,rfl⟩
theorem zIY (n:Int) (h:okN n 0 256=true):CallsM Tryz.prog F.zf3 [.int .i64 n] M fun v M'=>∃ q,v = .tuple #[.pointer q,.int .i64 0]∧M.le M':=by
 have h':=Zd0 h
 refine zB1 (by simp) ?_
 (conv=>whnf);refine brn_f (decide_eq_false (by omega)) ?_
 (conv=>whnf);refine brn_f (decide_eq_false (by omega)) ?_
 (conv=>whnf);refine new (fun b hb=>?_)
 (conv=>whnf);refine new (fun p hp=>?_)
 (conv=>whnf)
 exact⟨_,rfl,Mem.le_trans (Mem.le_upd hb) (Mem.le_setCells hp)⟩
theorem zIZ (a b c:Int):CallsM Tryz.prog F.zc6 [.int .i64 0,.agg #[.int .i64 a,.int .i64 b,.int .i64 c]] M fun v M'=>∃ q,v = .tuple #[.pointer q,.int .i64 (no1 (okQ a b c))]∧M.le M':=by
 have e0:okN 0 0 63=true:=rfl
 refine zAE (by simp) ?_
 refine zR ?_
 refine(zwT _ _).mono ?_
 rintro v _ ⟨rfl,rfl⟩
 (conv=>whnf);refine brn (fun g=>?_) (fun g=>?_)
 ·(conv=>whnf)
  have e:okQ a b c=false:=by simp_all [okQ]
  refine zR ?_
  exact⟨_,by rw[e];rfl,Mem.le_refl _⟩
 (conv=>whnf);refine(zwT _ _).mono ?_
 rintro v _ ⟨rfl,rfl⟩
 (conv=>whnf);refine brn (fun g=>?_) (fun g=>?_)
 ·(conv=>whnf)
  have e:okQ a b c=false:=by simp_all [okQ]
  refine zR ?_
  exact⟨_,by rw[e];rfl,Mem.le_refl _⟩
 (conv=>whnf);refine(zwT _ _).mono ?_
 rintro v _ ⟨rfl,rfl⟩
 (conv=>whnf);refine brn (fun g=>?_) (fun g=>?_)
 ·(conv=>whnf)
  have e:okQ a b c=false:=by simp_all [okQ]
  refine zR ?_
  exact⟨_,by rw[e];rfl,Mem.le_refl _⟩
 (conv=>whnf);refine(zwT _ _).mono ?_
 rintro v _ ⟨rfl,rfl⟩
 (conv=>whnf);refine brn (fun g=>?_) (fun g=>?_)
 ·(conv=>whnf)
  have e:okQ a b c=false:=by simp_all [okQ]
  refine zR ?_
  exact⟨_,by rw[e];rfl,Mem.le_refl _⟩
 have e:okQ a b c=true:=by simp_all [okQ]
 have e1:okN c 0 256=true:=by simp_all [okQ]
 refine zR ?_
 refine(zIY c e1).mono ?_
 rintro v M1 ⟨q,rfl,hle⟩
 (conv=>whnf);refine new (fun x hx=>?_)
 (conv=>whnf);refine new (fun p hp=>?_)
 (conv=>whnf)
 exact⟨_,by rw[e];rfl,Mem.le_trans hle (Mem.le_trans (Mem.le_upd hx) (Mem.le_setCells hp))⟩
@[reducible] def zGM (a b c d s w t r i y:Int):Value := .agg #[.int .i64 a,.int .i64 b,.int .i64 c,.int .i64 d,.int .i64 s,.int .i64 w,.int .i64 t,.int .i64 r,.int .i64 i,.int .i64 y]
theorem zGN (a b c d s w t r i y:Int):CallsM Tryz.prog F.zda [zGM a b c d s w t r i y] M fun v M'=>v = .int .i64 (no1 (okS (okQ a b c) d s w t r i y))∧M.le M':=by
 refine zzc (by simp) ?_
 refine zR ?_
 refine(zIZ a b c).mono ?_
 rintro v M1 ⟨q,rfl,hle⟩
 refine zR ?_
 refine brn (fun g=>?_) (fun g=>?_)
 ·have e:okQ a b c=false:=by cases hq:okQ a b c<;>simp_all [no1]
  refine zR ?_
  exact⟨by rw[e];rfl,hle⟩
 have e:okQ a b c=true:=by cases hq:okQ a b c<;>simp_all [no1]
 rw[e]
 refine zR ?_
 refine(zoF _ _ _).mono ?_
 rintro v _ ⟨rfl,rfl⟩
 (conv=>whnf);refine brn (fun g=>?_) (fun g=>?_)
 ·(conv=>whnf)
  have e:okS true d s w t r i y=false:=by simp_all [okS]
  refine zR ?_
  exact⟨by rw[e];rfl,hle⟩
 (conv=>whnf);refine(zoF _ _ _).mono ?_
 rintro v _ ⟨rfl,rfl⟩
 (conv=>whnf);refine brn (fun g=>?_) (fun g=>?_)
 ·(conv=>whnf)
  have e:okS true d s w t r i y=false:=by simp_all [okS]
  refine zR ?_
  exact⟨by rw[e];rfl,hle⟩
 (conv=>whnf);refine(zoF _ _ _).mono ?_
 rintro v _ ⟨rfl,rfl⟩
 (conv=>whnf);refine brn (fun g=>?_) (fun g=>?_)
 ·(conv=>whnf)
  have e:okS true d s w t r i y=false:=by simp_all [okS]
  refine zR ?_
  exact⟨by rw[e];rfl,hle⟩
 (conv=>whnf);refine(zoF _ _ _).mono ?_
 rintro v _ ⟨rfl,rfl⟩
 (conv=>whnf);refine brn (fun g=>?_) (fun g=>?_)
 ·(conv=>whnf)
  have e:okS true d s w t r i y=false:=by simp_all [okS]
  refine zR ?_
  exact⟨by rw[e];rfl,hle⟩
 (conv=>whnf);refine(zoF _ _ _).mono ?_
 rintro v _ ⟨rfl,rfl⟩
 (conv=>whnf);refine brn (fun g=>?_) (fun g=>?_)
 ·(conv=>whnf)
  have e:okS true d s w t r i y=false:=by simp_all [okS]
  refine zR ?_
  exact⟨by rw[e];rfl,hle⟩
 (conv=>whnf);refine(zoF _ _ _).mono ?_
 rintro v _ ⟨rfl,rfl⟩
 (conv=>whnf);refine brn (fun g=>?_) (fun g=>?_)
 ·(conv=>whnf)
  have e:okS true d s w t r i y=false:=by simp_all [okS]
  refine zR ?_
  exact⟨by rw[e];rfl,hle⟩
 (conv=>whnf);refine(zoF _ _ _).mono ?_
 rintro v _ ⟨rfl,rfl⟩
 (conv=>whnf);refine brn (fun g=>?_) (fun g=>?_)
 ·(conv=>whnf)
  have e:okS true d s w t r i y=false:=by simp_all [okS]
  refine zR ?_
  exact⟨by rw[e];rfl,hle⟩
 have e:okS true d s w t r i y=true:=by simp_all [okS]
 refine zR ?_
 exact⟨by rw[e];rfl,hle⟩
theorem zI0 (a b c:Int):CallsM Tryz.prog F.zmG [.int .i64 0,.agg #[.int .i64 a,.int .i64 b,.int .i64 c]] M fun v M'=>∃ x y z u:Int,v = .tuple #[.agg #[.int .i64 0,.int .i64 x,.int .i64 y,.int .i64 z,.int .i64 0,.slice none 0 0,.slice none 0 0,.int .i64 u,.slice none 0 0],.int .i64 (no1 (okQ a b c))]∧M=M':=by
 have e0:okN 0 0 63=true:=rfl
 refine zAF (by simp) ?_
 refine zR ?_
 refine(zwU _ _).mono ?_
 rintro v _ ⟨rfl,rfl⟩
 (conv=>whnf);refine brn (fun g=>?_) (fun g=>?_)
 ·(conv=>whnf)
  have e:okQ a b c=false:=by simp_all [okQ]
  refine zR ?_
  exact⟨_,_,_,_,by rw[e];rfl,rfl⟩
 (conv=>whnf);refine(zwU _ _).mono ?_
 rintro v _ ⟨rfl,rfl⟩
 (conv=>whnf);refine brn (fun g=>?_) (fun g=>?_)
 ·(conv=>whnf)
  have e:okQ a b c=false:=by simp_all [okQ]
  refine zR ?_
  exact⟨_,_,_,_,by rw[e];rfl,rfl⟩
 (conv=>whnf);refine(zwU _ _).mono ?_
 rintro v _ ⟨rfl,rfl⟩
 (conv=>whnf);refine brn (fun g=>?_) (fun g=>?_)
 ·(conv=>whnf)
  have e:okQ a b c=false:=by simp_all [okQ]
  refine zR ?_
  exact⟨_,_,_,_,by rw[e];rfl,rfl⟩
 (conv=>whnf);refine(zwU _ _).mono ?_
 rintro v _ ⟨rfl,rfl⟩
 (conv=>whnf);refine brn (fun g=>?_) (fun g=>?_)
 ·(conv=>whnf)
  have e:okQ a b c=false:=by simp_all [okQ]
  refine zR ?_
  exact⟨_,_,_,_,by rw[e];rfl,rfl⟩
 have e:okQ a b c=true:=by simp_all [okQ]
 refine zR ?_
 exact⟨_,_,_,_,by rw[e];rfl,rfl⟩
theorem zFF (a b c d s w t r i y:Int):CallsM Tryz.prog F.zj1 [zGM a b c d s w t r i y] M fun v M'=>v = .int .i64 (no1 (okS (okQ a b c) d s w t r i y))∧M=M':=by
 refine zxR (by simp) ?_
 refine zR ?_
 refine(zI0 a b c).mono ?_
 rintro v _ ⟨x1,x2,x3,x4,rfl,rfl⟩
 obtain⟨q,hq⟩:∃ q,q=okQ a b c:=⟨_,rfl⟩
 rw[←hq]
 refine zR ?_
 (conv=>whnf);refine brn (fun g=>?_) (fun g=>?_)
 ·(conv=>whnf)
  have e:okS q d s w t r i y=false:=by cases q<;>simp_all [okS,no1]
  refine zR ?_
  exact⟨by rw[e];rfl,rfl⟩
 (conv=>whnf);refine(zoG _ _ _).mono ?_
 rintro v _ ⟨rfl,rfl⟩
 (conv=>whnf);refine brn (fun g=>?_) (fun g=>?_)
 ·(conv=>whnf)
  have e:okS q d s w t r i y=false:=by cases q<;>simp_all [okS,no1]
  refine zR ?_
  exact⟨by rw[e];rfl,rfl⟩
 (conv=>whnf);refine(zoG _ _ _).mono ?_
 rintro v _ ⟨rfl,rfl⟩
 (conv=>whnf);refine brn (fun g=>?_) (fun g=>?_)
 ·(conv=>whnf)
  have e:okS q d s w t r i y=false:=by cases q<;>simp_all [okS,no1]
  refine zR ?_
  exact⟨by rw[e];rfl,rfl⟩
 (conv=>whnf);refine(zoG _ _ _).mono ?_
 rintro v _ ⟨rfl,rfl⟩
 (conv=>whnf);refine brn (fun g=>?_) (fun g=>?_)
 ·(conv=>whnf)
  have e:okS q d s w t r i y=false:=by cases q<;>simp_all [okS,no1]
  refine zR ?_
  exact⟨by rw[e];rfl,rfl⟩
 (conv=>whnf);refine(zoG _ _ _).mono ?_
 rintro v _ ⟨rfl,rfl⟩
 (conv=>whnf);refine brn (fun g=>?_) (fun g=>?_)
 ·(conv=>whnf)
  have e:okS q d s w t r i y=false:=by cases q<;>simp_all [okS,no1]
  refine zR ?_
  exact⟨by rw[e];rfl,rfl⟩
 (conv=>whnf);refine(zoG _ _ _).mono ?_
 rintro v _ ⟨rfl,rfl⟩
 (conv=>whnf);refine brn (fun g=>?_) (fun g=>?_)
 ·(conv=>whnf)
  have e:okS q d s w t r i y=false:=by cases q<;>simp_all [okS,no1]
  refine zR ?_
  exact⟨by rw[e];rfl,rfl⟩
 (conv=>whnf);refine(zoG _ _ _).mono ?_
 rintro v _ ⟨rfl,rfl⟩
 (conv=>whnf);refine brn (fun g=>?_) (fun g=>?_)
 ·(conv=>whnf)
  have e:okS q d s w t r i y=false:=by cases q<;>simp_all [okS,no1]
  refine zR ?_
  exact⟨by rw[e];rfl,rfl⟩
 (conv=>whnf);refine(zoG _ _ _).mono ?_
 rintro v _ ⟨rfl,rfl⟩
 (conv=>whnf);refine brn (fun g=>?_) (fun g=>?_)
 ·(conv=>whnf)
  have e:okS q d s w t r i y=false:=by cases q<;>simp_all [okS,no1]
  refine zR ?_
  exact⟨by rw[e];rfl,rfl⟩
 have e:okS q d s w t r i y=true:=by cases q<;>simp_all [okS,no1]
 refine zR ?_
 exact⟨by rw[e];rfl,rfl⟩
end Go.Proofs.YtdogcflaekkdkaaGreat
