/- Part. -/
import Derived.Test.YtlgbofpennelhaaGreatJ2
import Derived.Test.YtlgbofpennelhaaGreatProg
set_option linter.all false
set_option maxHeartbeats 0
namespace Go.Vm
open Go.RowKit
section
variable {P:Program} {β:List Nat} {F:Mem} {w0:World} {n:Nat} {s:St} {a:Act} {w:World}
theorem Rel.move (R:Rel β F w0 n s a w) {F2:Mem} {w':World} (hs:∀ (b:Nat) o,w.heap[b]? = some o→F b=none→w'.heap[b]? = some o) (hF2:F2.le (zk w')) (hsup:∀ b,F b=none→F2 b=none)
  (hnd:(∀ d∈a.defers,∃ D:Nat,d={ target := .collected D,args := #[] }∧w0.heap.size≤D∧F2 D=some (.deferred (some [])))∧(a.defers.map Deferred.target).Nodup) (e1:w'.os=w.os) (e2:w'.output=w.output) (e3:w'.tape=w.tape)
  (e4:w.heap.size≤w'.heap.size∧w.drawn≤w'.drawn):Rel β F2 w0 n s a w':=by
 refine⟨⟨fun b o hb=>hs b o (R.rd.M b o hb) ((R.dj b).resolve_left (by simp_all)),fun j T cs hj=>?_,R.rd.gone⟩,R.fr,R.len,hF2,fun b=>(R.dj b).imp id (hsup b),fun j T cs hj b hb=>?_,R.dist,hnd,R.sz,e1.trans R.os,e2.trans R.out,e3.trans R.tape,⟨Yz R.grow.1 e4.1,Yz R.grow.2 e4.2⟩⟩
 ·obtain⟨b,vs,h1,h2,h3⟩:=R.rd.live j T cs hj;exact⟨b,vs,h1,h2,hs b _ h3 (R.own j T cs hj b h1).2⟩
 ·obtain⟨h1,h2⟩:=R.own j T cs hj b hb;exact⟨h1,hsup b h2⟩
def Mem.join (M N:Mem):Mem:=fun b=>match M b with|some o=>some o|none=>N b
theorem Mem.le_join (M N:Mem):M.le (M.join N):=fun b o h=>by simp[Mem.join,h]
theorem Mem.join_le {M N X:Mem} (h:M.le X) (k:N.le X):(M.join N).le X:=fun b o hb=>by
 unfold Mem.join at hb;cases e:M b with
 | some z=>rw[e] at hb;simp at hb;subst hb;exact h b _ e
 | none=>rw[e] at hb;exact k b o hb
theorem Mem.le_join2 {M N:Mem} (h:∀ b,N b≠none→M b=none):N.le (M.join N):=fun b o hb=>by
 have:=h b (by simp_all);simp[Mem.join,this,hb]
theorem Rel.more (R:Rel β F w0 n s a w) {Mx:Mem} (hMx:Mx.le (zk w)) (hfr:∀ b,Mx b≠none→F b=none∧∀ (j:Nat) (T:TypeId) (cs:List SC),s.bx[j]? = some (.live T cs)→β[j]? ≠ some b):Rel β F w0 n { s with M:=s.M.join Mx } a w:=by
 refine⟨⟨Mem.join_le R.rd.M hMx,R.rd.live,R.rd.gone⟩,R.fr,R.len,R.Fle,fun b=>?_,fun j T cs hj b hb=>?_,R.dist,R.nd,R.sz,R.os,R.out,R.tape,R.grow⟩
 ·by_cases e:Mx b=none
  ·rcases R.dj b with h|h
   ·left;simp[Mem.join,h,e]
   ·exact .inr h
  ·simp_all
 ·obtain⟨h1,h2⟩:=R.own j T cs hj b hb;refine⟨?_,h2⟩;cases e:Mx b with
  | none=>simp[Mem.join,h1,e]
  | some o=>grind
theorem Rel.puts:∀ (ps:List Nat) (vs:List Value) (s:St) (a:Act),(∀ p∈ps,p<n)→Rel β F w0 n s a w →
  Rel β F w0 n { s with fr:=zzw ps vs s.fr } { tmps:=(ps.zip vs).foldl (fun t p=>t.setIfInBounds p.1 p.2) a.tmps,defers:=a.defers } w
 | [],_,s,a,_,R=>R
 | _::_,[],s,a,_,R=>R
 | p::ps,v::vs,s,a,hp,R=>Rel.puts ps vs { s with fr:=(p,zkP v)::s.fr } { a with tmps:=a.tmps.setIfInBounds p v } (fun q hq=>hp q (by simp[hq])) (Rel.put R (d:=some p) (fun e he=>by simp_all) (.inr (zh3 β v)))
theorem WLe.alloc (W:World) (o:Obj):WLe W (W.alloc o):=⟨rfl,rfl,rfl,Yd _,by simp,fun k o' h=>(Below.heap_alloc W o k (Y7.1 h).1).trans h⟩
theorem WLe.trans {A B C:World} (h:WLe A B) (k:WLe B C):WLe A C:=⟨k.os.trans h.os,k.output.trans h.output,k.tape.trans h.tape,Yz h.drawn k.drawn,Yz h.size k.size,fun i o e=>k.same i o (h.same i o e)⟩
theorem zxt {kf:Nat→List Nat} {g:Operand} {ps:Array Tmp} {ca cb:Code} {ra rb:zbN} (hra:res P n kf ca=some ra) (hrb:res P n kf cb=some rb) (hda:noD ca=true) (hdb:noD cb=true) (hps:∀ p∈ps.toList,p<n)
  {K:Exit→St→Prop} {Q:Exit→Act→World→Prop} (R:Rel β F w0 n s a w) (h:vc P (.rfun g ps.toList ra rb) K s)
  (hK:∀ F' β' s' a' w',K .normal s'→F.le F'→Rel β' F' w0 n s' a' w'→Q .normal a' w'):(Code.rangeFunc g ps ca cb).wpIn Fence.wide 0 P Q a w:=by
 obtain⟨sv,v,hk,hv,he⟩:=zl R.fr h;unfold zBq at hk;split at hk
 case h_2=>simp_all
 rename_i gf fst lb;obtain⟨hfst,hk⟩:=hk;obtain⟨s',hk,R,hfr'⟩:=zlW _ _ _ R hk;obtain⟨hen,hgone,α,encs,A,N,PM,D,I,hit,hA,hlen,⟨M0,hM0,hAM0,hI0⟩,hround,hdone⟩:=hk;have hfst0:fst = #[]:=Array.eq_empty_of_size_eq_zero (Ya9 hfst)
 subst hfst0;simp[SV.val,SC.val] at hv;subst hv
 have hgn:∀ (j:Nat) T cs,s'.bx[j]? ≠ some (.live T cs):=fun j T cs hj=>by
  rw[Yaz] at hgone;have:=hgone _ (Yao hj)
  cases this
 refine wpIn_rangeFunc fun fn hfn=>?_
 obtain⟨n1,hn1⟩:=oI w.heap.size;obtain⟨rec,hrec⟩:∃ rec:LoopState→Option Code→Loop,rec=fun st pe=>{ state:=st,pending:=pe,fn,tmps:=a.tmps,params:=ps,assign:=ca,body:=cb,defers:=w.heap.size }:=⟨_,rfl⟩
 obtain⟨W1,hW1⟩:∃ W1,(w.alloc (.deferred (some []))).alloc (.loop (rec .ready none))=W1:=⟨_,rfl⟩
 have hle1:WLe w W1:=hW1▸(WLe.alloc w _).trans (WLe.alloc _ _)
 have hL1:W1.heap[n1+1]? = some (.loop (rec .ready none)):=by
  rw[←hW1,hn1];have:=World.alloc_heap_new (w.alloc (.deferred (some []))) (.loop (rec .ready none));rwa [World.size_alloc] at this
 have hK1:W1.heap[n1]? = some (.deferred (some [])):=by
  rw[←hW1,hn1];exact(Below.heap_alloc _ _ _ oS).trans (World.alloc_heap_new w _)
 have hnew:∀ (b:Nat) (o:Obj),w.heap[b]? = some o→b≠n1∧b≠n1+1:=fun b o hb=>by grind
 obtain⟨F1,hF1⟩:∃ F1:World→Mem,F1=fun W b=>if b=n1∨b=n1+1 then zk W b else (F.join A) b:=⟨_,rfl⟩
 have hFA:(F.join A).le (zk w):=Mem.join_le R.Fle (Yc hA R.rd.M)
 have hF1le:∀ W:World,(F.join A).le (zk W)→(F1 W).le (zk W):=fun W hW b o hb=>by
  rw[hF1] at hb;dsimp only at hb;split at hb
  ·exact hb
  ·exact hW b o hb
 have hF1n:∀ W b,b≠n1→b≠n1+1→F1 W b=(F.join A) b:=fun W b h1 h2=>by grind
 have hF1d:∀ W,F1 W n1=zk W n1:=fun W=>by grind
 have hF1l:∀ W,F1 W (n1+1)=zk W (n1+1):=fun W=>by grind
 have hFn:∀ b o,(F.join A) b=some o→b≠n1∧b≠n1+1:=fun b o hb=>hnew b o (hFA b o hb)
 have hF1ge:∀ W,(F.join A).le (F1 W):=fun W b o hb=>by grind
 obtain⟨J,hJ⟩:∃ J:List α→World→Prop,J=fun pre W=>(∃ M,I pre M∧Rel β (F1 W) w0 n ⟨s'.fr,s'.bx,M⟩ { a with defers:=[] } W)∧W.heap[n1+1]? = some (.loop (rec .ready none))∧W.heap[n1]? = some (.deferred (some [])):=⟨_,rfl⟩
 refine⟨n1+1,[{ target := .collected n1,args := #[] }],W1,{ target := .fn (.func gf) lb,args := #[.func (.yield (n1+1)) #[] #[]] },W1,gf,
  #[.func (.yield (n1+1)) #[] #[]]++lb,W1,?_,?_,fun _ _=>trivial,?_,fun h=>(by cases h),?_⟩
 ·rw[←hW1,hrec,hn1];exact run_enterLoop_outer _ _ _ _ _
 ·simp only[resolve,he];simp[go_sem]
 ·simp[invoke,go_sem,zhn hen]
 have hlb:lb.toList.toArray=lb:=by simp
 have hAW1:A.le (zk W1):=fun b o hb=>hle1.same b o (R.rd.M b o (hA b o hb))
 have key:=hit (n1+1) J W1 hAW1 ?_ ?_
 ·rw[hlb] at key;refine key.mono ?_;rintro e W2 ⟨⟨v,rfl⟩,xs,Wp,hD,hJx,hle⟩;rw[hJ] at hJx;obtain⟨⟨M,hIx,Rx⟩,hl,hk⟩:=hJx;have hdj:∀ b,M b=none∨F1 Wp b=none:=Rx.dj
  have hl2:=hle.same _ _ hl;have hk2:=hle.same _ _ hk
  have hrun:=run_endLoop (P:=P) hl2 (by grind);obtain⟨W4,hW4⟩:=oI (W2.putObj (n1+1) (.loop { rec .ready none with state := .exhausted }));rw[←hW4] at hrun;refine⟨none,W4,by grind,?_⟩;have h4:∀ (b:Nat),b≠n1+1→W4.heap[b]? = W2.heap[b]? := fun b hb=>by rw[hW4];exact Ycj hb
  have hdisj:∀ b,A b≠none→M b=none:=fun b hb=>by
   obtain⟨o,ho⟩:=Yba.1 hb;have hw:=R.rd.M b o (hA b o ho)
   refine(hdj b).resolve_right ?_;rw[hF1n _ b (hnew b o hw).1 (hnew b o hw).2];cases hf:F b with
   | some z=>simp[Mem.join,hf]
   | none=>simp[Mem.join,hf,ho]
  have hmem:∀ (b:Nat) (o:Obj),M b=some o→b≠n1+1∧Wp.heap[b]? = some o:=fun b o hb=>by
   have h5:=Rx.rd.M b o hb;refine⟨fun e=>?_,h5⟩;subst e;have:=(hdj (n1+1)).resolve_left (by rw[hb];simp)
   rw[hF1l] at this;rw[show zk Wp (n1+1)=_ from hl] at this;cases this
  have hFp:(F.join A).le (zk Wp):=fun b o hb=>Rx.Fle b o (hF1ge Wp b o hb)
  have hML:M.le (zk W4):=fun b o hb=>by
   obtain⟨h5,h6⟩:=hmem b o hb;show W4.heap[b]? = _
   rw[h4 b h5];exact hle.same b o h6
  have hFL:(F.join A).le (zk W4):=fun b o hb=>by
   show W4.heap[b]? = _;rw[h4 b (hFn b o hb).2];exact hle.same b o (hFp b o hb)
  have hFF:F.le (F.join A):=Mem.le_join F A
  have hAFd:∀ b,A b≠none→F b=none:=fun b hb=>by
   obtain⟨o,ho⟩:=Yba.1 hb;exact(R.dj b).resolve_left (by rw[hA b o ho];simp)
  have hAJ:A.le (F.join A):=Mem.le_join2 hAFd
  have hFd:F n1=none:=by
   cases e:F n1 with
   | none=>rfl
   | some o=>exact absurd rfl (hFn n1 o (hFF n1 o e)).1
  obtain⟨F',hF'⟩:∃ F':Mem,F'=F.upd n1 (.deferred (some [])):=⟨_,rfl⟩
  have hFle':F.le F':=fun b o hb=>by
   rw[hF',Yh _ _ (hFn b o (hFF b o hb)).1];exact hb
  refine hK F' β ⟨s'.fr,s'.bx,M.join A⟩ _ W4 (hdone xs M (M.join A) hD hIx hdisj (Mem.le_join _ _) (Mem.le_join2 hdisj)) hFle' ?_;refine⟨⟨Mem.join_le hML (Yc hAJ hFL),fun j T cs hj=>absurd hj (hgn j T cs),R.rd.gone⟩,Rx.fr,R.len,fun b o hb=>?_,fun b=>?_,fun j T cs hj=>absurd hj (hgn j T cs),fun i j Ti ci Tj cj hi=>absurd hi (hgn i Ti ci),?_,R.sz,?_,?_,?_,?_⟩
  ·rw[hF'] at hb;by_cases e:b=n1
   ·subst e;rw[Yam] at hb;cases hb;show W4.heap[b]? = _
    rw[h4 b oM];exact hk2
   ·rw[Yh _ _ e] at hb;exact hFL b o (hFF b o hb)
  ·rw[hF'];by_cases e:b=n1
   ·subst e;left
    have h5:M b=none:=by
     cases e:M b with
     | none=>rfl
     | some o=>
      have:=(hdj b).resolve_left (by rw[e];simp);rw[hF1d] at this;rw[show zk Wp b=_ from hk] at this;cases this
    have h6:A b=none:=by
     cases e:A b with
     | none=>rfl
     | some o=>exact absurd rfl (hFn b o (hAJ b o e)).1
    simp[Mem.join,h5,h6]
   ·rw[Yh _ _ e];cases e1:F b with
    | none=>simp
    | some o=>
     left;have h7:=hFn b o (hFF b o e1)
     have h5:M b=none:=(hdj b).resolve_right (by rw[hF1n _ b h7.1 h7.2,hFF b o e1];simp)
     have h6:A b=none:=by
      cases e2:A b with
      | none=>rfl
      | some o2=>rw[hAFd b (by rw[e2];simp)] at e1;cases e1
     simp[Mem.join,h5,h6]
  ·refine⟨fun d hd=>?_,?_⟩
   ·simp only[Yby,Yaa,Yp] at hd;rcases hd with rfl|hd
    ·exact⟨n1,rfl,by rw[hn1];exact R.grow.1,by rw[hF',Yam]⟩
    ·obtain⟨D',h1,h2,h3⟩:=R.nd.1 d hd;exact⟨D',h1,h2,hFle' _ _ h3⟩
   ·simp only[Yby,Yaa,Yq,Yau];refine⟨fun hm=>?_,R.nd.2⟩;obtain⟨d,hd,e⟩:=Yj.1 hm;obtain⟨D',h1,h2,h3⟩:=R.nd.1 d hd;rw[h1] at e;simp at e;subst e;rw[hFd] at h3;cases h3
  ·rw[hW4];exact hle.os.trans Rx.os
  ·rw[hW4];exact hle.output.trans Rx.out
  ·rw[hW4];exact hle.tape.trans Rx.tape
  ·rw[hW4];exact⟨by rw[show (W2.putObj (n1+1) (.loop { rec .ready none with state := .exhausted })).heap.size=W2.heap.size by simp];exact Yz Rx.grow.1 hle.size,Yz Rx.grow.2 hle.drawn⟩
 ·
  intro pre x Wp W Mx hJp hle hAW hlt hPM hMxW hfresh;rw[hJ] at hJp;obtain⟨⟨M,hI,Rp⟩,hl,hk⟩:=hJp;have hlW:=hle.same _ _ hl
  have hkW:=hle.same _ _ hk;have hy:=run_yield (P:=P) (args:=(encs x).toArray) hlW (by grind)
  rw[hrec] at hy;have hFp:(F.join A).le (zk Wp):=fun b o hb=>Rp.Fle b o (hF1ge Wp b o hb)
  have hFW:(F.join A).le (zk W):=fun b o hb=>hle.same b o (hFp b o hb)
  have R1:Rel β (F1 W) w0 n ⟨s'.fr,s'.bx,M⟩ { a with defers:=[] } W:=by
   refine Rp.move (fun b o hb _=>hle.same b o hb) (hF1le W hFW) (fun b hb=>?_) oS hle.os hle.output hle.tape ⟨hle.size,hle.drawn⟩;by_cases e:b=n1
   ·subst e;rw[hF1d] at hb;rw[show zk Wp b=_ from hk] at hb;cases hb
   by_cases e2:b=n1+1
   ·subst e2;rw[hF1l] at hb;rw[show zk Wp (n1+1)=_ from hl] at hb;cases hb
   rw[hF1n _ b e e2] at hb ⊢; exact hb
  have hfb:∀ b,Mx b≠none→Wp.heap[b]? = none:=fun b hb=>by grind
  have hMf:∀ b,Mx b≠none→M b=none∧A b=none:=fun b hb=>by
   have h1:=hfb b hb;refine⟨?_,?_⟩
   ·cases e:M b with
    | none=>rfl
    | some o=>rw[Rp.rd.M b o e |> (fun h:Wp.heap[b]? = some o=>h)] at h1;cases h1
   ·cases e:A b with
    | none=>rfl
    | some o=>
     have:(F.join A) b≠none:=by
      cases e1:F b with
      | some z=>simp[Mem.join,e1]
      | none=>simp[Mem.join,e1,e]
     obtain⟨o2,ho2⟩:=Yba.1 this;have h2:Wp.heap[b]? = some o2:=hFp b o2 ho2
     rw[h2] at h1;cases h1
  have hFx:∀ b,Mx b≠none→F1 W b=none:=fun b hb=>by
   have h1:=hfb b hb;by_cases e:b=n1
   ·grind
   by_cases e2:b=n1+1
   ·grind
   rw[hF1n _ b e e2];cases e3:(F.join A) b with
   | none=>rfl
   | some o=>have h2:Wp.heap[b]? = some o:=hFp b o e3;rw[h2] at h1;cases h1
  have R2:=(Rel.more R1 hMxW (fun b hb=>⟨hFx b hb,fun j T cs hj=>absurd hj (hgn j T cs)⟩)).puts ps.toList (encs x) _ _ hps
  have htm:(ps.zip (encs x).toArray).foldl (fun t (p:Nat×Value)=>t.setIfInBounds p.1 p.2) a.tmps=(ps.toList.zip (encs x)).foldl (fun t p=>t.setIfInBounds p.1 p.2) a.tmps:=by
   rw[←Array.foldl_toList,Array.toList_zip]
  have hv:=hround pre x M Mx (M.join Mx) hI hlt hPM hMf (Mem.le_join _ _) (Mem.le_join2 fun b hb=>(hMf b hb).1);refine⟨fn,_,ca,cb,hy,roundIn_of_wpIn hfn ?_⟩;have htm2:(ps.zip (encs x).toArray).foldl (fun tmps x=>match x with|(t,a)=>tmps.setIfInBounds t a) a.tmps=(ps.toList.zip (encs x)).foldl (fun t p=>t.setIfInBounds p.1 p.2) a.tmps:=htm
  rw[htm2];refine ztN (F:=F1 W) (w0:=w0) ca ra hra hda _ _ β _ _ W (fun _ _ h=>h) (fun _ _ _ h=>h) R2 hv ?_;rintro e β2 t a2 W2 ⟨rfl,hb⟩ R4;have hl2:W2.heap[n1+1]? = some (.loop (rec .ready none)):=R4.Fle _ _ (by rw[hF1l];exact hlW)
  have hk2:W2.heap[n1]? = some (.deferred (some [])):=R4.Fle _ _ (by rw[hF1d];exact hkW);obtain⟨W3,hW3⟩:=oI (W2.putObj (n1+1) (.loop { rec .ready none with state := .busy }));have h3:∀ (b:Nat),b≠n1+1→W3.heap[b]? = W2.heap[b]? := fun b hb=>by rw[hW3];exact Ycj hb
  have hl3:W3.heap[n1+1]? = some (.loop { rec .ready none with state := .busy }):=hW3▸World.putObj_heap_same (Y7.1 hl2).1;have hF2:(F.join A).le (zk W2):=fun b o hb=>R4.Fle b o (hF1ge W b o hb)
  have hF3:(F.join A).le (zk W3):=fun b o hb=>by show W3.heap[b]? = _;rw[h3 b (hFn b o hb).2];exact hF2 b o hb
  have hsz3:W3.heap.size=W2.heap.size:=by rw[hW3];simp
  have R5:Rel β2 (F1 W3) w0 n t a2 W3:=by
   refine R4.move (fun b o hb hF=>?_) (hF1le W3 hF3) (fun b hb=>?_) ⟨fun d hd=>?_,R4.nd.2⟩ (by rw[hW3];rfl) (by rw[hW3];rfl) (by rw[hW3];rfl) ⟨by omega,by rw[hW3];exact Yd _⟩
   ·rw[h3 b (fun e=>by subst e;rw[hF1l,show zk W (n1+1)=_ from hlW] at hF;cases hF)];exact hb
   ·by_cases e:b=n1
    ·subst e;rw[hF1d,show zk W b=_ from hkW] at hb;cases hb
    by_cases e2:b=n1+1
    ·subst e2;rw[hF1l,show zk W (n1+1)=_ from hlW] at hb;cases hb
    rw[hF1n _ b e e2] at hb ⊢; exact hb
   ·obtain⟨D',h5,h6,h7⟩:=R4.nd.1 d hd;refine⟨D',h5,h6,?_⟩;by_cases e:D'=n1
    ·subst e;rw[hF1d];show W3.heap[D']? = _;rw[h3 D' oM];exact hk2
    by_cases e2:D'=n1+1
    ·subst e2;rw[hF1l,show zk W (n1+1)=_ from hlW] at h7;cases h7
    rw[hF1n _ D' e e2] at h7 ⊢; exact h7
  refine⟨W3,by rw[hW3];exact run_beginRound hl2 (by rw[hrec]),?_⟩;refine ztN (F:=F1 W3) (w0:=w0) cb rb hrb hdb _ _ β2 _ _ W3 (fun _ _ h=>h) (fun _ _ _ h=>h) R5 hb ?_;rintro e β3 t' a3 W4 ⟨rfl,M2,hI2,hM2⟩ R6;have hl4:W4.heap[n1+1]? = some (.loop { rec .ready none with state := .busy }):=R6.Fle _ _ (by rw[hF1l];exact hl3)
  have hk4:W4.heap[n1]? = some (.deferred (some [])):=R6.Fle _ _ (by rw[hF1d];show W3.heap[n1]? = _;rw[h3 n1 oM];exact hk2);have hr:=run_endRound (P:=P) none hl4
  obtain⟨W5,hW5⟩:=oI (W4.putObj (n1+1) (.loop (rec .ready none)));have hr2:(Instr.endRound (n1+1) none).run P W4 = .ok (.bool true) W5:=by rw[hW5,hr];simp[hrec]
  have h5:∀ (b:Nat),b≠n1+1→W5.heap[b]? = W4.heap[b]? := fun b hb=>by rw[hW5];exact Ycj hb
  have hl5:W5.heap[n1+1]? = some (.loop (rec .ready none)):=hW5▸World.putObj_heap_same (Y7.1 hl4).1;have hF4:(F.join A).le (zk W4):=fun b o hb=>R6.Fle b o (hF1ge W3 b o hb)
  have hF5:(F.join A).le (zk W5):=fun b o hb=>by show W5.heap[b]? = _;rw[h5 b (hFn b o hb).2];exact hF4 b o hb
  have hsz5:W5.heap.size=W4.heap.size:=by rw[hW5];simp
  have hMn:∀ b o,M2 b=some o→b≠n1∧b≠n1+1∧(F.join A) b=none:=fun b o hb=>by
   have h6:=(R6.dj b).resolve_left (by rw[hM2 b o hb];simp);have e1:b≠n1:=fun e=>by subst e;rw[hF1d] at h6;rw[show zk W3 b=_ from (h3 b oM).trans hk2] at h6;cases h6
   have e2:b≠n1+1:=fun e=>by subst e;rw[hF1l,show zk W3 (n1+1)=_ from hl3] at h6;cases h6
   rw[hF1n _ b e1 e2] at h6;exact⟨e1,e2,h6⟩
  refine⟨_,W5,hr2,rfl,?_,fun b o hb=>?_⟩
  ·rw[hJ];refine⟨⟨M2,hI2,⟨⟨fun b o hb=>?_,fun j T cs hj=>absurd hj (hgn j T cs),R.rd.gone⟩,Rp.fr,R.len,hF1le W5 hF5,fun b=>?_,fun j T cs hj=>absurd hj (hgn j T cs),fun i j Ti ci Tj cj hi=>absurd hi (hgn i Ti ci),by simp,Rp.sz,?_,?_,?_,?_⟩⟩,hl5,?_⟩
   ·show W5.heap[b]? = _;rw[h5 b (hMn b o hb).2.1];exact R6.rd.M b o (hM2 b o hb)
   ·show M2 b=none∨_;cases e:M2 b with
    | none=>simp
    | some o=>grind
   ·rw[hW5];exact R6.os
   ·rw[hW5];exact R6.out
   ·rw[hW5];exact R6.tape
   ·rw[hsz5];exact⟨R6.grow.1,by rw[hW5];exact R6.grow.2⟩
   ·grind
  ·have:(F.join A) b≠none:=by
    cases e1:F b with
    | some z=>simp[Mem.join,e1]
    | none=>simp[Mem.join,e1,hb]
   have hAF:F b=none:=(R.dj b).resolve_left (by rw[hA b o hb];simp);exact hF5 b o (by simp[Mem.join,hAF,hb])
 ·
  rw[hJ];refine⟨⟨M0,hI0,⟨⟨fun b o hb=>hle1.same b o (R.rd.M b o (hM0 b o hb)),fun j T cs hj=>absurd hj (hgn j T cs),R.rd.gone⟩,R.fr,R.len,hF1le W1 (fun b o hb=>hle1.same b o (hFA b o hb)),fun b=>?_,fun j T cs hj=>absurd hj (hgn j T cs),fun i j Ti ci Tj cj hi=>absurd hi (hgn i Ti ci),by simp,R.sz,hle1.os.trans R.os,hle1.output.trans R.out,hle1.tape.trans R.tape,⟨Yz R.grow.1 hle1.size,Yz R.grow.2 hle1.drawn⟩⟩⟩,hL1,hK1⟩;show M0 b=none∨_
  cases e:M0 b with
  | none=>simp
  | some o=>
   right;have hw:=R.rd.M b o (hM0 b o e)
   rw[hF1n _ b (hnew b o hw).1 (hnew b o hw).2];have h1:F b=none:=(R.dj b).resolve_left (by rw[hM0 b o e];simp)
   have h2:A b=none:=by
    cases e2:A b with
    | none=>rfl
    | some z=>rw[hAM0 b (by rw[e2];simp)] at e;cases e
   simp[Mem.join,h1,h2]
end
theorem zDF {P:Program} {w0:World} {n:Nat} {kf:Nat→List Nat}:∀ (c:Code) (r:zbN),res P n kf c=some r →
  ∀ (K:Exit→St→Prop) (Q:Exit→Act→World→Prop) (β:List Nat) (F:Mem) (s:St) (a:Act) (w:World),Rel β F w0 n s a w→vc P r K s →
  (∀ e F' β' s' a' w',K e s'→F.le F'→Rel β' F' w0 n s' a' w'→Q e a' w')→c.wp P Q a w:=by
 intro c
 induction c with
 | skip=>
  intro r hr K Q β F s a w R h hK;simp[res] at hr;subst hr;exact wp_skip (hK _ _ _ _ _ _ h (Ya _) R)
 | region id ops draw=>
  intro r hr K Q β F s a w R h hK;simp only[res] at hr;cases draw with
  | false=>
   simp only[Ye] at hr;obtain⟨l,hl,rfl⟩:=hr;exact wp_region_list (zho ops.toList 0 l β s a w hl R h fun β' s' a' w' hk R'=>hK _ _ _ _ _ _ (by rw[zlQ] at hk;exact hk) (Ya _) (R'.kill _))
  | true=>
   simp only at hr;split at hr
   ·rename_i hc;simp only[Yl] at hc;obtain⟨hm,hns⟩:=hc;simp only[Ye] at hr;obtain⟨t,ht,rfl⟩:=hr
    have R1:Rel (β++[]) F w0 n s a { w with drawn:=w.drawn+1 }:=by
     rw[Yt];exact⟨⟨R.rd.M,R.rd.live,R.rd.gone⟩,R.fr,R.len,R.Fle,R.dj,R.own,R.dist,R.nd,R.sz,R.os,R.out,R.tape,⟨R.grow.1,Nat.le_succ_of_le R.grow.2⟩⟩
    have main:∀ (bx0:List BE) (X:Mem),(∀ (j:Nat) T cs,bx0[j]? = some (.live T cs)→s.bx[j]? = some (.live T cs))→(∀ (j:Nat) b,bx0[j]? = some (.gone b)→β[j]? = some b)→X.le s.M→zcC P X bx0 t s (fun s'=>s'.killK (kf id) fun s''=>K .normal s'')→(Code.region id ops true).wp P Q a w:=by
     intro bx0 X hl hg hX hv;refine wp_mono (Q:=fun e a w=>e = .normal∧∃ β' s',K .normal s'∧Rel β' F w0 n s' a w) ?_ (fun e a w ⟨he,β',s',hk,R'⟩=>by subst he;exact hK _ _ _ _ _ _ hk (Ya _) R')
     refine wp_region_any hm (zlZ _ _ _ _ (zpR hns (fun c a w h=>by cases h.1) (bx0:=bx0) (β0:=β) hg
      (fun j T cs hj=>R.lv j T cs (hl j T cs hj)) ops.size X (fun Y=>Y=X) (fun Y hY=>by rw[hY];exact Ya _) rfl true _ t [] s a _ ht ?_ R1 (fun _=>⟨Yc hX R1.rd.M,fun j T cs hj=>R.rd.live j T cs (hl j T cs hj),hg⟩) hv ?_))
     ·intro j o ho hl;exfalso;simp only[Ycs,Array.getElem?_replicate] at hl;split at hl<;>simp at hl
     ·intro β' s' a' w' hk R';rw[zlQ] at hk;exact⟨rfl,β',_,hk,R'.kill _⟩
    simp only[vc,zzv] at h;cases hn:zjz t with
    | true=>
     rw[hn] at h;dsimp only at h;cases hst:zoN t with
     | true=>
      rw[hst] at h;obtain⟨ks,X,hX,hv⟩:=h;refine main (dim ks (fun j=>β.getD j 0) 0 s.bx) X (fun j T cs hj=>?_) (fun j b hj=>?_) hX (hv _)
      ·obtain⟨e,h1,h2|h2⟩:=zlw hj
       ·rw[h1,h2]
       ·cases h2
      ·obtain⟨e,h1,h2|h2⟩:=zlw hj
       ·subst h2;exact R.rd.gone j b h1
       ·cases h2
        have hb:∃ b,β[j]? = some b:=by
         cases e with
         | live T cs=>obtain⟨b,vs,h3, -⟩:=R.lv j T cs h1;exact⟨b,h3⟩
         | gone b=>exact⟨b,R.rd.gone j b h1⟩
        obtain⟨b,hb⟩:=hb;rw[Yap,Ys,hb];rfl
     | false=>
      rw[hst] at h;obtain⟨X,hX,hv⟩:=h;exact main s.bx X (fun _ _ _ h=>h) (fun j b hj=>R.rd.gone j b hj) hX hv
    | false=>
     rw[hn] at h;exact main s.bx s.M (fun _ _ _ h=>h) (fun j b hj=>R.rd.gone j b hj) (Ya _) h
   ·cases hr
 | seq x y ihx ihy=>
  intro r hr K Q β F s a w R h hK;simp only[res] at hr;split at hr
  ·rename_i rx ry hx hy;simp at hr;subst hr;refine wp_seq (ihx rx hx _ _ β F s a w R h ?_);intro e F' β' s' a' w' hk hF R';cases e<;>first|exact ihy ry hy _ _ β' F' s' a' w' R' hk (fun e F2 β2 s2 a2 w2 hk2 hF2 R2=>hK e F2 β2 s2 a2 w2 hk2 (Yc hF hF2) R2)|exact hK _ _ _ _ _ _ hk hF R'
  ·cases hr
 | cond c x y ihx ihy=>
  intro r hr K Q β F s a w R h hK;simp only[res] at hr;split at hr
  ·rename_i rx ry hx hy;simp at hr;subst hr;obtain⟨sv,v,hk,hv,he⟩:=zl R.fr h;obtain⟨b,rfl,h1,h2⟩:=zkr hk hv;refine wp_cond he ?_;cases b with
   | true=>grind
   | false=>grind
  ·cases hr
 | block id x ih=>
  intro r hr K Q β F s a w R h hK;simp only[res,Ye] at hr;obtain⟨rx,hx,rfl⟩:=hr;refine wp_block (ih rx hx _ _ β F s a w R h ?_);intro e F' β' s' a' w' hk hF R';cases e with
  | exit i=>
   simp only[zvr] at hk;simp only[Exit.inBlock];split at hk
   ·rename_i hi;rw[if_pos (Ya9 hi)];exact hK _ _ _ _ _ _ hk hF R'
   ·rename_i hi;rw[if_neg (Ydx hi)];exact hK _ _ _ _ _ _ hk hF R'
  | _=>exact hK _ _ _ _ _ _ hk hF R'
 | loop x ih=>
  intro r hr K Q β F s a w R h hK;simp only[res,Ye] at hr;obtain⟨rx,hx,rfl⟩:=hr;obtain⟨s1,h,R⟩:=zvy R h;obtain⟨I,⟨m0,t0,hI0,hs0⟩,hround⟩:=h
  let J:Act→World→Nat→Prop:=fun a w m=>∃ t β F',I m t∧F.le F'∧Rel β F' w0 n t a w
  have hJ0:∃ m,J a w m:=⟨m0,t0,_,F,hI0,Ya _,R.sub hs0⟩
  classical
  refine wp_loop (fun a w=>∃ m,J a w m) (fun a w=>if h:∃ m,J a w m then Classical.choose (zeM h) else 0) hJ0 ?_;intro a1 w1 hJ;have hmin:=(Yc5 (zeM hJ)).1
  obtain⟨t,β1,F1,hI,hF1,R1⟩:=hmin;refine ih rx hx _ _ β1 F1 t a1 w1 R1 (hround _ t hI) ?_;intro e F' β' s' a' w' hk hF2 R';have hF:=Yc hF1 hF2
  cases e with
  | normal=>
   obtain⟨m',t',hlt,hI',hs'⟩:=hk;have hJ':J a' w' m':=⟨t',_,F',hI',hF,R'.sub hs'⟩
   refine⟨⟨m',hJ'⟩,?_⟩;rw[dif_pos hJ,dif_pos ⟨m',hJ'⟩];exact Nat.lt_of_le_of_lt ((Yc5 (zeM (p:=J a' w') ⟨m',hJ'⟩)).2 _ hJ') hlt
  | _=>exact hK _ _ _ _ _ _ hk hF R'
 | exit id=>
  intro r hr K Q β F s a w R h hK;simp[res] at hr;subst hr;exact wp_exit (hK _ _ _ _ _ _ h (Ya _) R)
 | ret=>
  intro r hr K Q β F s a w R h hK;simp[res] at hr;subst hr;exact wp_ret (hK _ _ _ _ _ _ h (Ya _) R)
 | scope x ih=>
  intro r hr K Q β F s a w R h hK;simp only[res,Ye] at hr;obtain⟨rx,hx,rfl⟩:=hr;refine wp_scope_straight (ih rx hx _ _ β F s a w R h ?_);intro e F' β' s' a' w' hk hF R';cases e with
  | goto l=>assumption
  | _=>exact hK _ _ _ _ _ _ hk hF R'
 | label l=>
  intro r hr K Q β F s a w R h hK;simp[res] at hr;subst hr;exact wp_label (hK _ _ _ _ _ _ h (Ya _) R)
 | rangeFunc g ps x y _ _=>
  intro r hr K Q β F s a w R h hK;simp only[res] at hr;split at hr
  ·rename_i rx ry hx hy;split at hr
   ·rename_i hc;simp only[Y3] at hr;subst hr;simp only[Yl] at hc;obtain⟨⟨⟨⟨-, -⟩,hdx⟩,hdy⟩,hps⟩:=hc;rw[Yaz] at hps;exact(wpIn_wide (n:=0)).1 (zxt hx hy hdx hdy (fun p hp=>Zd0 (hps p hp)) R h (fun F' β' s' a' w'=>hK .normal F' β' s' a' w'))
   ·cases hr
  ·cases hr
 | _=>intro r hr;simp[res] at hr
theorem zvD:∀ (i:Nat) (args:List Value) (d:Nat) (sv:SV),lk (zrl i args) d=some sv→∃ v,args[d - i]? = some v∧i≤d∧sv=zkP v
 | i,v::r,d,sv,h=>by
  simp only[zrl,lk] at h;split at h
  ·simp_all
  ·obtain⟨u,h1,h2,h3⟩:=zvD (i+1) r d sv h;refine⟨u,?_,by omega,h3⟩;have:d - i=(d - (i+1))+1:=by omega
   rw[this];simpa using h1
section
variable {P:Program} {β:List Nat} {F:Mem} {w0:World} {n:Nat} {a:Act} {w:World}
def zjM (tmps:Array Value):ResultVar→Sem Value
 | .tmp t=>pure (tmps.getD t undef)
 | .cell a t=>do loadVar t (←asAddr (tmps.getD a undef))
theorem zxu {s:St} (R:Rel β F w0 n s a w) {r:ResultVar} {rr:zgm} (hr:zls P r=some rr) {k:Value→St→Prop} (h:zu5 rr s k) :
  ∃ v s',k v s'∧Rel β F w0 n s' a w∧(zjM a.tmps r).run P w = .ok v w:=by
 cases r with
 | tmp t=>
  simp[zls] at hr;subst hr;simp only[zu5] at h;obtain⟨sv,v,hk,hv,he⟩:=zl (x := .tmp t) R.fr h;obtain⟨s',hk',R',_⟩:=zek R hv hk;exact⟨v,s',hk',R',by simp only[zjM,Y6];rw[←he];rfl⟩
 | cell x T=>
  simp only[zls,Yn] at hr;obtain⟨g,hg,m,hm,hr⟩:=hr;split at hr
  ·rename_i hgm;simp at hr;subst hr;simp only[zu5] at h
   have fin:∀ {cs:List SC} {us:List Value} {b o:Nat} {c:Array Value} {e:TypeId} {fz:Nat×Nat},mkv g cs (fun sv=>zkR sv s k)→zY β cs=some us→a.eval (.tmp x) = .pointer (some ⟨b,o,none⟩) →
     w.heap[b]? = some (.cells c e fz)→o+m≤c.size→us=(c.toList.drop o).take m→∃ v s',k v s'∧Rel β F w0 n s' a w∧(zjM a.tmps (.cell x T)).run P w = .ok v w:=by
    intro cs us b o c e fz hmk hu hp hh hle hus;obtain⟨sv,hk,hor⟩:=ziw hmk hu;have hp':a.tmps.getD x undef = .pointer (some ⟨b,o,none⟩):=hp
    rcases hor with ⟨rfl,hv⟩|⟨rfl,u,hu',hv⟩
    ·obtain⟨s',hk',R',_⟩:=zek R hv hk;refine⟨_,s',hk',R',?_⟩;simp only[zjM,Yo,hp',asAddr,Y6,Yk];rw[zhk hg hm hh hle,hus]
    ·obtain⟨s',hk',R',_⟩:=zek R hv hk;refine⟨_,s',hk',R',?_⟩;simp only[zjM,Yo,hp',asAddr,Y6,Yk];rw[zhl (v:=u) hg ?_];rw[zg9 hh];have h1:m=1:=by simpa using hgm
     subst h1;rw[hus] at hu';have:=congrArg (·[0]?) hu'
     simpa using this
   rcases R.rd.evP R.fr h with ⟨j,o,T',cs,b,vs,hj,hk,hb,hvs,hp⟩|⟨b,o,hk,hp⟩
   ·obtain⟨l,hl0,hk⟩:=zal hk;obtain⟨hle,rfl⟩:=zjb hl0;obtain⟨b',vs',hb',hvs',hh⟩:=R.rd.live j T' cs hj;rw[hb] at hb';cases hb';rw[hvs] at hvs';cases hvs';have hl:=zb1 hvs
    exact fin hk (ze1 _ (ze2 _ hvs)) hp hh oE oS
   ·obtain⟨vs,hrow,hk⟩:=zal hk;obtain⟨c,e,fz,hh,hle,hvs⟩:=zjI R.rd.M hrow;exact fin hk (zeh β vs) hp hh hle hvs
  ·cases hr
theorem zpT:∀ {rs:List ResultVar} {rrs:List zgm} {s:St} {k:List Value→St→Prop},rs.mapM (zls P)=some rrs→Rel β F w0 n s a w→zzy rrs s k →
  ∃ vs s',k vs s'∧Rel β F w0 n s' a w∧vs.length=rs.length∧(rs.mapM (zjM a.tmps)).run P w = .ok vs w
 | [],rrs,s,k,hr,R,h=>by simp at hr;subst hr;exact⟨[],s,h,R,rfl,rfl⟩
 | r::rs,rrs,s,k,hr,R,h=>by
  simp only[List.mapM_cons,Option.bind_eq_bind,Yn] at hr;obtain⟨x,hx,xs,hxs,he⟩:=hr;simp at he;subst he;obtain⟨v,s1,hk,R1,h1⟩:=zxu R hx h;obtain⟨vs,s2,hk2,R2,hl,h2⟩:=zpT hxs R1 hk;exact⟨v::vs,s2,hk2,R2,by simp[hl],by simp_all⟩
theorem zzK {fn:Func} {rrs:List zgm} {s:St} {R':Value→Mem→Prop} (hr:zlt P fn=some rrs) (R:Rel β F w0 n s a w) (h:zzz rrs s R') :
  ∃ v s',R' v s'.M∧Rel β F w0 n s' a w∧(results fn a.tmps).run P w = .ok v w:=by
 have hr':fn.results.toList.mapM (zls P)=some rrs:=hr;obtain⟨vs,s',hk,R2,hl,hrun⟩:=zpT hr' R h
 have e:results fn a.tmps=(do
   let vs ←fn.results.mapM (zjM a.tmps)
   pure (if h:vs.size=1 then vs[0] else .tuple vs)):=by
  unfold results;congr 1
 have hrun2:(results fn a.tmps).run P w = .ok (znG vs) w:=by
  rw[e,Array.mapM_eq_mapM_toList];simp only[Yo,Sem.run_map,hrun,Yk,Y6];clear hl hrun
  match vs with
  | [v]=>simp[znG]
  | []=>simp[znG]
  | v::u::r=>simp[znG]
 have hk':R' (znG vs) s'.M:=by
  obtain⟨fr,bx,M⟩:=s'
  match vs,hk with
  | [v],hk=>exact hk
  | [],hk=>exact hk
  | _::_::_,hk=>exact hk
 exact⟨_,s',hk',R2,hrun2⟩
end
theorem znR {P:Program} {fn:Func} {w0:World} {F:Mem} {tmps:Array Value} {R:Ending→World→Prop}:∀ (ds:List Deferred) (w:World),
  (∀ d∈ds,∃ D:Nat,d={ target := .collected D,args := #[] }∧w0.heap.size≤D∧F D=some (.deferred (some [])))→(∀ d∈ds,∀ D:Nat,d={ target := .collected D,args := #[] }→w.heap[D]? = some (.deferred (some []))) →
  (ds.map Deferred.target).Nodup→(∀ w':World,(∀ (b:Nat) o,w.heap[b]? = some o→(∀ d∈ds,d.target ≠ .collected b)→w'.heap[b]? = some o)→w'.os=w.os→w'.output=w.output→w'.tape=w.tape→w'.heap.size=w.heap.size→w'.drawn=w.drawn →
   LeavesIn Fence.wide 0 P fn tmps R [] .returning w')→LeavesInM Fence.wide 0 P fn tmps R ds .returning w
 | [],w,_,_,_,hk=>hk w (fun _ _ h _=>h) rfl rfl rfl rfl rfl
 | d::ds,w,hnd,hw,hdup,hk=>by
  obtain⟨D,rfl,h1,h2⟩:=hnd d oS;have h3:=hw _ (Yc1 ..) D rfl
  rw[Yq,Yau] at hdup;have hne:∀ d∈ds,d.target ≠ .collected D:=fun d hd e=>hdup.1 (Yj.2 ⟨d,hd,e⟩)
  refine⟨by simp,.inl ⟨D,_,rfl,run_takeDeferred h3,?_⟩⟩;refine znR (w0:=w0) (F:=F) ds _ (fun d hd=>hnd d (by simp[hd])) (fun d hd D' e=>?_) hdup.2 (fun w' hs e1 e2 e3 e4 e5=>?_)
  ·have hDD:D'≠D:=fun e2=>hne d hd (by rw[e,e2])
   rw[Ycj hDD];exact hw d (by simp[hd]) D' e
  ·refine hk w' (fun b o hb hno=>hs b o ?_ fun d hd=>hno d (by simp[hd])) e1 e2 e3 (by simp_all) e5;have:b≠D:=fun e=>hno _ (Yc1 ..) (by rw[e])
   rw[Ycj this];exact hb
theorem zDG {P:Program} {kf:Nat→List Nat} {f:Nat} {fn:Func} {c:Code} {r:zbN} {rs:List zgm} {args:List Value} {M:Mem} {R:Value→Mem→Prop}
  (hf:P.funcs[f]? = some fn) (hb:fn.body=some c) (hr:res P fn.ntmps kf c=some r) (hrs:zlt P fn=some rs) (hn:args.length≤fn.ntmps) (hen:zdZ P f=true)
  (h:vfn P r rs args M R):CallsM P f args M R:=by
 refine⟨hen,fun F w hM hF hd=>?_⟩;unfold vfn at h;rw[zbW] at h;refine(callsIn_wide (n:=0)).1 (callsIn_of_wp_marks hf hb trivial (wpIn_wide.2 ?_) rfl)
 have R0:Rel [] F w fn.ntmps { fr:=zrl 0 args,bx:=[],M:=M } { tmps:=args.toArray++Array.replicate (fn.ntmps - args.toArray.size) undef,defers:=[] } w:=by
  refine⟨⟨hM,by simp,by simp⟩,?_,rfl,hF,hd,by simp,by simp,by simp,by simp;omega,rfl,rfl,rfl,⟨Yd _,Yd _⟩⟩;intro d sv hd;obtain⟨v,h1,h2,rfl⟩:=zvD 0 args d sv hd;refine .inr ⟨v,zh3 _ v,?_⟩;simp only[Ycr] at h1;have hlt:=(Yu.1 h1).1
  rw[Ycv (by simpa using hlt)];simpa using h1
 have out:∀ {F':Mem} {β':List Nat} {s':St} {a':Act} {w':World},zzz rs s' R→F.le F'→Rel β' F' w fn.ntmps s' a' w' →
   LeavesInM Fence.wide 0 P fn a'.tmps (fun e w''=>∃ v M',e = .returned v∧R v M'∧M'.le (zk w'')∧F.le (zk w'')∧M'.disj F∧w''.os=w.os∧w''.output=w.output∧w''.tape=w.tape∧w.heap.size≤w''.heap.size∧w.drawn≤w''.drawn) a'.defers .returning w':=by
  intro F' β' s' a' w' hk hFF R';refine znR (w0:=w) (F:=F') a'.defers w' R'.nd.1 (fun d hd D e=>?_) R'.nd.2 (fun w2 hs e1 e2 e3 e4 e5=>?_)
  ·obtain⟨D',h1,h2,h3⟩:=R'.nd.1 d hd;rw[e] at h1;simp at h1;subst h1;exact R'.Fle _ _ h3
  ·have R2:Rel β' F w fn.ntmps s' { a' with defers:=[] } w2:=by
    have R1:Rel β' F' w fn.ntmps s' { a' with defers:=[] } w':=⟨R'.rd,R'.fr,R'.len,R'.Fle,R'.dj,R'.own,R'.dist,by simp,R'.sz,R'.os,R'.out,R'.tape,R'.grow⟩
    refine R1.move (fun b o hb hF0=>hs b o hb fun d hd e=>?_) (fun b o hb=>?_) (fun b hb=>?_) oS e1 e2 e3 ⟨by omega,by omega⟩
    ·obtain⟨D',h1,h2,h3⟩:=R'.nd.1 d hd;rw[h1] at e;simp at e;subst e;rw[h3] at hF0;cases hF0
    ·refine hs b o (R'.Fle b o (hFF b o hb)) fun d hd e=>?_
     obtain⟨D',h1,h2,h3⟩:=R'.nd.1 d hd;rw[h1] at e;simp at e;subst e;have:=(Y7.1 (show w.heap[D']? = some o from hF D' o hb)).1
     omega
    ·cases e:F b with
     | none=>rfl
     | some o=>rw[hFF b o e] at hb;cases hb
   obtain⟨v,s2,h1,R3,hrun⟩:=zzK hrs R2 hk;exact⟨v,hrun,v,s2.M,rfl,h1,R3.rd.M,R3.Fle,R3.dj,R3.os,R3.out,R3.tape,R3.grow⟩
 refine zDF c r hr _ _ [] F _ _ w R0 h ?_;intro e F' β' s' a' w' hk hFF R';cases e with
 | normal=>exact out hk hFF R'
 | ret=>exact out hk hFF R'
 | _=>exact hk.elim
theorem zzL {P:Program} {kf:Nat→List Nat} {f:Nat} {fn:Func} {r:zbN} {rs:List zgm} {args:List Value} {M:Mem} {R:Value→Mem→Prop}
  (hf:P.funcs[f]? = some fn) (hr:fn.body.bind (res P fn.ntmps kf)=some r) (hrs:zlt P fn=some rs) (hn:args.length≤fn.ntmps) (hen:zdZ P f=true)
  (h:vfn P r rs args M R):CallsM P f args M R:=by
 obtain⟨c,hb,hr⟩:=Yn.1 hr;exact zDG hf hb hr hrs hn hen h
end Go.Vm
namespace Go.Vm.S
open Go.Vm
@[reducible] def rg (a:Nat):Nat→List Nat|0=>[]|n+1=>a::rg (a+1) n
@[reducible] instance (n:Nat):OfNat Operand n:=⟨.tmp n⟩
@[reducible] def q (a b:zbN):zbN := .seq a b
@[reducible] def p (l:List zaZ) (k:List Nat):zbN := .ops l k
@[reducible] def w (o:zaZ) (t:DTree):DTree := .take o t
@[reducible] def A (o:zaZ) (n:Bool) (t m:DTree):DTree := .alt o n t m
@[reducible] def c (x:Operand) (a b:zbN):zbN := .cond x a b
@[reducible] def pn:Operand := .const (.pointer none)
@[reducible] def kt:Operand := .const (.bool true)
@[reducible] def kg:Operand := .const (.bool false)
@[reducible] def ib (d:Nat) (b:BinOp) (x y:Operand):zaZ:=⟨some d,.ibin b x y,none,false⟩
@[reducible] def ln (d:Nat) (x:Operand):zaZ:=⟨some d,.len x,none,false⟩
@[reducible] def nk (d:Nat) (x:Operand):zaZ:=⟨some d,.nilck x,none,false⟩
@[reducible] def pk (d:Nat) (x y z:Operand):zaZ:=⟨some d,.pick x y z,none,false⟩
@[reducible] def ia (d n:Nat) (x y:Operand):zaZ:=⟨some d,.iaddr n x y,none,false⟩
@[reducible] def pe (l:List zaZ):zbN := .ops l []
@[reducible] def de (t:DTree):zbN := .draw t []
@[reducible] def gm (g d:Nat) (x:Operand):zaZ:=⟨some d,.mov x,some (g,true),false⟩
@[reducible] def z:Nat→List Value→List Value|0,l=>l|n+1,l => .int .i64 0::z n l
@[reducible] def FO (P:Program) (f n:Nat) (c:zbN) (r:List zgm):Prop:=∀ {args:List Value} {M:Mem} {R:Value→Mem→Prop},args.length≤n→vfn P c r args M R→CallsM P f args M R
def kz:Code→zbN→List (Nat×List Nat)
 | .seq a b,.seq c d=>kz a c++kz b d
 | .cond _ a b,.cond _ c d=>kz a c++kz b d
 | .block _ a,.block _ c=>kz a c
 | .loop a,.loop c=>kz a c
 | .scope a,.scope c=>kz a c
 | .rangeFunc _ _ a b,.rfun _ _ c d=>kz a c++kz b d
 | .region i _ _,.ops _ l=>[(i,l)]
 | .region i _ _,.draw _ l=>[(i,l)]
 | _,_=>[]
def kq (b:Option Code) (r:zbN) (i:Nat):List Nat:=match b with|some b=>(((kz b r).find? (fun x=>Nat.beq x.1 i)).map (fun x=>x.2)).getD []|none=>[]
theorem fk {P:Program} {f n:Nat} {fn:Func} {r:zbN} {rs:List zgm} (hf:P.funcs[f]? = some fn) (hr:fn.body.bind (res P fn.ntmps (kq fn.body r))=some r:=by kernel_rfl) (hrs:zlt P fn=some rs:=by kernel_rfl) (hn:fn.ntmps=n:=by kernel_rfl) (hen:zdZ P f=true:=by kernel_rfl):FO P f n r rs:=fun h h'=>zzL hf hr hrs (hn▸h) hen h'
theorem gk {P:Program} {f n:Nat} {fn:Func} {r:zbN} {rs:List zgm} (hf:P.funcs[f]? = some fn) (hr:fn.body.bind (res P fn.ntmps fun _=>[])=some r:=by kernel_rfl) (hrs:zlt P fn=some rs:=by kernel_rfl) (hn:fn.ntmps=n:=by kernel_rfl) (hen:zdZ P f=true:=by kernel_rfl):FO P f n r rs:=fun h h'=>zzL hf hr hrs (hn▸h) hen h'
def mT (o:Operand):Nat:=match o with | .tmp t=>1 <<< t|_=>0
def mD (o:Oper):Nat:=match o.dst with|some d=>1 <<< d|none=>0
def mU (l:List Oper) (o:Oper):Nat:=o.op.operands.toList.foldl (fun s x=>s ||| mT x) (match o.guard with|some (j,_)=>(match l[j]? with|some p=>mD p|none=>0)|none=>0)
def mX (a b:Nat):Nat:=a - (a &&& b)
def rgn (l:List Oper) (out:Nat):Nat:=
 let d:=l.foldl (fun s o=>s ||| mD o) 0
 l.foldl (fun s o=>s ||| mX (mU l o) d) (l.foldr (fun o s=>mX s (mD o) ||| mU l o) out)
def zIf:Nat→(Nat→Nat)→Nat→Nat
 | 0,_,x=>x
 | n+1,f,x=>let z:=f x ||| x;bif Nat.beq z x then x else zIf n f z
def lkm:List (Nat×Nat)→Nat→Nat
 | [],_=>0
 | (a,b)::r,i=>bif Nat.beq a i then b else lkm r i
def lvm (rets:Nat):Code→List (Nat×Nat)→Nat→Nat×List (Nat×Nat)
 | .region id ops _,_,out=>(rgn ops.toList out,[(id,mX (ops.toList.foldl (fun s o=>s ||| (mU ops.toList o ||| mD o)) 0) out)])
 | .seq a b,e,out=>let y:=lvm rets b e out;let x:=lvm rets a e y.1;(x.1,x.2++y.2)
 | .cond c a b,e,out=>let x:=lvm rets a e out;let y:=lvm rets b e out;(mT c ||| (x.1 ||| y.1),x.2++y.2)
 | .block id a,e,out=>lvm rets a ((id,out)::e) out
 | .loop a,e,_=>let x:=zIf 9 (fun x=>(lvm rets a e x).1) 0;(x,(lvm rets a e x).2)
 | .exit id,e,_=>(lkm e id,[])
 | .ret,_,_=>(rets,[])
 | .rangeFunc f _ a b,e,out=>let y:=lvm rets b e out;let x:=lvm rets a e y.1;(mT f ||| (x.1 ||| out),x.2++y.2)
 | .scope a,e,out=>lvm rets a e out
 | _,_,out=>(out,[])
def btm:Nat→Nat→Nat→List Nat
 | 0,_,_=>[]
 | n+1,i,m=>bif Nat.beq (m % 2) 1 then i::btm n (i+1) (m / 2) else btm n (i+1) (m / 2)
def rtm (fn:Func):Nat:=fn.results.toList.foldl (fun s r=>s ||| (1 <<< (match r with | .tmp t=>t | .cell a _=>a))) 0
def klm (fn:Func):List (Nat×Nat):=match fn.body with
 | some c=>(lvm (rtm fn) c [] (rtm fn)).2
 | none=>[]
structure KX (fn:Func) where
 k:List (Nat×Nat)
 h:klm fn=k
def tfL (ops:List Oper) (o:Oper):Bool:=match o.dst with
 | some d=>ops.all fun o=>match o.op with
  | .call { callee := .builtin .append,args,.. }=>(match args.toList with|[s,_] => !zoP d s|_=>false)
  | op=>op.operands.toList.all fun x => !zoP d x
 | none=>false
def kkL (P:Program) (K:TypeId):Option KK:=match P.underlying K with
 | some (.int _)=>some .int
 | some .string=>some .str
 | some (.struct fs)=>some (.agg fs.toList.length)
 | some (.array n _)=>some (.agg n)
 | _=>none
def rpL (P:Program) (ops:List Oper) (o:Oper):Option ROp:=match o.op with
 | .buildSlice T n l=>(match P.underlying T with
  | some (.slice E)=>(zdJ P E).bind fun z=>(zac P E).bind fun sz=>some (.mkSl (tfL ops o) E n ((List.replicate n z).flatten) (l.toList.map fun (i,x)=>(i*sz,sz,x)))
  | _=>none)
 | .binOp b T x y _=>(match P.underlying T with
  | some (.struct _)=>(zac P T).map fun n => .aeq b n x y
  | some (.array n _)=>some (.aeq b n x y)
  | _=>zo P ops o)
 | .lookup T x key ok=>(match P.underlying T with
  | some (.map K E)=>(kkL P K).bind fun kk=>(zeroVal P E).map fun z => .mget kk ok z x key
  | _=>none)
 | .mapUpdate T x key v=>(match P.underlying T with
  | some (.map K _)=>(kkL P K).map fun kk => .mset kk x key v
  | _=>none)
 | .insert T x key v=>(match P.underlying T with
  | some (.map K _)=>(kkL P K).map fun kk => .mset kk x key v
  | _=>none)
 | .call { callee := .builtin .delete,args,argTypes }=>(match args.toList,argTypes.toList with
  | [x,y],[T,_]=>(match P.underlying T with
   | some (.map K _)=>(kkL P K).map fun kk => .mdel kk x y
   | _=>none)
  | _,_=>none)
 | _=>zo P ops o
def roL (P:Program) (ops:List Oper) (j:Nat) (o:Oper):Option zaZ:=
 (rpL P ops o).bind fun r=>(zh0 ops o.guard).bind fun g=>some { dst:=o.dst,op:=r,guard:=g,sp:=zyv ops j }
def rsL (P:Program) (ops:List Oper):Nat→List Oper→Option (List zaZ)
 | _,[]=>some []
 | j,o::r=>(roL P ops j o).bind fun x=>(rsL P ops (j+1) r).bind fun xs=>some (x::xs)
def raL (P:Program) (ops:List Oper) (i:Nat):Option zaZ:=(ops[i]?).bind fun o=>roL P ops i o
def tkL (P:Program) (ops:List Oper):Nat→Nat→DTree→Option DTree
 | 0,_,t=>some t
 | n+1,i,t=>(raL P ops i).bind fun o=>(tkL P ops n (i+1) t).bind fun t'=>some (.take o t')
def dhL (P:Program) (ops:List Oper):Nat→List Nat→Option (DTree×List Nat)
 | 0,_=>none
 | _,[]=>some (.done,[])
 | k+1,x::r=>match x % 4 with
  | 0=>(dhL P ops k r).bind fun y=>(tkL P ops (x / 512+1) (x / 4 % 128) y.1).bind fun t=>some (t,y.2)
  | 3=>some (match x with|3 => .done|_ => .none,r)
  | b=>(dhL P ops k r).bind fun y=>(match y.2 with|[]=>some (DTree.none,[])|z=>dhL P ops k z).bind fun m=>(raL P ops (x / 4)).bind fun o=>some (.alt o (Nat.beq b 2) y.1 m.1,m.2)
def lkL:List (Nat×List Nat)→Nat→List Nat
 | [],_=>[]
 | (a,b)::r,i=>bif Nat.beq a i then b else lkL r i
def rcL (P:Program) (kf:Nat→List Nat) (H:List (Nat×List Nat)):Code→Option zbN
 | .skip=>some .skip
 | .region id ops draw=>match draw with
  | false=>(rsL P ops.toList 0 ops.toList).map fun l => .ops l (kf id)
  | true=>(dhL P ops.toList 999 (lkL H id)).map fun t => .draw t.1 (kf id)
 | .seq a b=>(rcL P kf H a).bind fun x=>(rcL P kf H b).bind fun y=>some (.seq x y)
 | .cond c a b=>(rcL P kf H a).bind fun x=>(rcL P kf H b).bind fun y=>some (.cond c x y)
 | .block id a=>(rcL P kf H a).map (.block id)
 | .loop a=>(rcL P kf H a).map .loop
 | .exit id=>some (.exit id)
 | .ret=>some .ret
 | .scope a=>(rcL P kf H a).map .scope
 | .rangeFunc g ps a b=>(rcL P kf H a).bind fun x=>(rcL P kf H b).bind fun y=>some (.rfun g ps.toList x y)
 | .label _=>some .skip
 | _=>none
theorem be0:(⟨⟨[]⟩⟩:ByteArray)=ByteArray.empty:=rfl
theorem u80 (n:Nat) (h:n<2 ^ 8):(⟨⟨⟨n,h⟩⟩⟩:UInt8)=UInt8.ofNat n:=UInt8.eq_of_toBitVec_eq (BitVec.eq_of_toNat_eq (Ybj h).symm)
structure TH (P:Program) (fn:Func) (k:List (Nat×Nat)) (H:List (Nat×List Nat)) where
 c:zbN
 r:List zgm
 hc:fn.body.bind (rcL P (fun i=>btm fn.ntmps 0 (lkm k i)) H)=some c
 hr:zlt P fn=some r
def tH (P:Program) (fn:Func) (H:List (Nat×List Nat):=[]) (K:KX fn:=by
 refine⟨?k,?h⟩
 case h=>conv=>lhs;reduce) (X:TH P fn K.k H:=by
 refine⟨?c,?r,?h,?g⟩
 case h=>conv=>lhs;reduce;try simp only[be0,u80,UInt8.reduceOfNat,Int.reduceOfNat,Int.reduceNegSucc]
 case g=>conv=>lhs;reduce):TH P fn K.k H:=X
theorem fh {P:Program} {f n:Nat} {fn:Func} {k:List (Nat×Nat)} {H:List (Nat×List Nat)} (hf:P.funcs[f]? = some fn) (X:TH P fn k H) (hc:fn.body.bind (res P fn.ntmps fun i=>btm fn.ntmps 0 (lkm k i))=some X.c:=by kernel_rfl) (hn:fn.ntmps=n:=by kernel_rfl) (hen:zdZ P f=true:=by kernel_rfl):FO P f n X.c X.r:=fun h h'=>zzL hf hc X.hr (hn▸h) hen h'
@[reducible] def t (n:Nat):Operand := .tmp n
@[reducible] def k (n:Int):Operand := .const (.int .i64 n)
@[reducible] def kb (b:Bool):Operand := .const (.bool b)
@[reducible] def fn (n:Nat):Operand := .func n
@[reducible] def i (n:Int):Value := .int .i64 n
@[reducible] def u (n:Int):Value := .int .u8 n
@[reducible] def sn:Value := .slice none 0 0
@[reducible] def o (d:Nat) (x:ROp):zaZ:=⟨some d,x,none,false⟩
@[reducible] def e (x:ROp):zaZ:=⟨none,x,none,false⟩
@[reducible] def os (d:Nat) (x:ROp):zaZ:=⟨some d,x,none,true⟩
@[reducible] def gt (g:Nat) (d:Nat) (x:ROp):zaZ:=⟨some d,x,some (g,true),false⟩
@[reducible] def gf (g:Nat) (d:Nat) (x:ROp):zaZ:=⟨some d,x,some (g,false),false⟩
@[reducible] def st (n:Nat) (p x:Operand):zaZ:=⟨none,.store n p x,none,false⟩
@[reducible] def ad (d:Nat) (x y:Operand):zaZ:=⟨some d,.ibin .add x y,none,false⟩
@[reducible] def mv (d:Nat) (x:Operand):zaZ:=⟨some d,.mov x,none,false⟩
@[reducible] def fa (d:Nat) (n:Nat) (p:Operand):zaZ:=⟨some d,.faddr n p,none,false⟩
@[reducible] def l1 (d:Nat) (p:Operand):zaZ:=⟨some d,.load false 1 p,none,false⟩
@[reducible] def la (d:Nat) (n:Nat) (p:Operand):zaZ:=⟨some d,.load true n p,none,false⟩
@[reducible] def ca (d:Nat) (g:Nat) (l:List Operand):zaZ:=⟨some d,.call (.func g) l,none,false⟩
@[reducible] def ex (d:Nat) (x:Operand) (j:Nat):zaZ:=⟨some d,.extract x j,none,false⟩
end Go.Vm.S
namespace Go.Proofs.YtlgbofpennelhaaGreat
end Go.Proofs.YtlgbofpennelhaaGreat
namespace Go.Vm
theorem brn {x:Bool} {A B:Prop} (h:x=true→A) (h':x=false→B):Brn x A B:=⟨h,h'⟩
theorem brn_t {x:Bool} {A B:Prop} (hx:x=true) (h:A):Brn x A B:=⟨fun _=>h,fun e=>absurd (hx.symm.trans e) oS⟩
theorem brn_f {x:Bool} {A B:Prop} (hx:x=false) (h:B):Brn x A B:=⟨fun e=>absurd (hx.symm.trans e) oS,fun _=>h⟩
theorem ob {p A:Prop} (h:p) (h':A):Ob p A:=⟨h,h'⟩
theorem obr {k:IntKind} {r:Int} {K:SV→Prop} (h:inR k r) (h':K (.int k r)):ObR k r K:=⟨by rw[show k.wrap r=r from h];exact h'⟩
theorem obw {k:IntKind} {r:Int} {K:SV→Prop} (h':K (.int k (k.wrap r))):ObR k r K:=⟨h'⟩
theorem grow_same {X M:Mem} {A:Mem→Prop} (h:X.le M) (h':A X):Grow X M A:=⟨X,fun _ _ h=>h,h,h'⟩
theorem zJs {X M:Mem} {A:Mem→Prop} (X':Mem) (h:X.le X') (h2:X'.le M) (h':A X'):Grow X M A:=⟨X',h,h2,h'⟩
theorem on {α:Type} {x:Option α} {l:α} {k:α→Prop} (h:x=some l) (h':k l):onO x k:=by subst h;exact h'
theorem atp {a:Option Addr} {b o:Nat} {k:Nat→Nat→Prop} (h:a=some ⟨b,o,none⟩) (h':k b o):atO a k:=by subst h;exact h'
theorem CallsM.mono {P:Program} {f:Nat} {args:List Value} {M:Mem} {R R':Value→Mem→Prop} (h:CallsM P f args M R) (hr:∀ v M',R v M'→R' v M'):CallsM P f args M R':=
 ⟨h.1,fun F w h1 h2 h3=>(h.2 F w h1 h2 h3).mono fun _ _ ⟨v,M',he,hk,hx⟩=>⟨v,M',he,hr v M' hk,hx⟩⟩
theorem zJt {σ:Type} {body:(Exit→St→Prop)→St→Prop} {Q:Exit→St→Prop} {s:St} (st:σ→St) (inv:σ→Prop) (μ:σ→Nat) (x0:σ) (h0:inv x0) (hs:(st x0).sub s)
  (h:∀ x,inv x→body (zoO Q fun s'=>∃ y,inv y∧μ y<μ x∧(st y).sub s') (st x)):zF body Q s:=
 ⟨fun m t=>∃ x,inv x∧μ x=m∧t=st x,⟨_,_,⟨x0,h0,rfl,rfl⟩,hs⟩,fun m t ⟨x,hx,hm,ht⟩=>by
  subst hm;subst ht
  have e:(fun s'=>∃ m' t',m'<μ x∧(∃ y,inv y∧μ y=m'∧t'=st y)∧t'.sub s')=fun s'=>∃ y,inv y∧μ y<μ x∧(st y).sub s':=by
   funext s';apply propext;constructor
   ·grind
   ·grind
  rw[e]
  exact h x hx⟩
theorem loop {σ:Type} {body:(Exit→St→Prop)→St→Prop} {Q:Exit→St→Prop} {s:St} (st:σ→St) (inv:σ→Prop) (μ:σ→Nat) (x0:σ) (h0:inv x0) (hs:(st x0).sub s)
  (h:∀ x,inv x→body (zoO Q fun s'=>∃ y,inv y∧μ y<μ x∧(st y).sub s') (st x)):zI body Q s := .inl (zJt st inv μ x0 h0 hs h)
theorem zak {σ:Type} {body:(Exit→St→Prop)→St→Prop} {Q:Exit→St→Prop} {fr0:List (Nat×SV)} {bx0:List BE} {M0:Mem} (keys:List Nat) (fr:σ→List (Nat×SV)) (bx:σ→List BE) (mem:σ→Mem) (inv:σ→Prop) (μ:σ→Nat) (x0:σ) (h0:inv x0)
  (hs:St.sub ⟨fr x0++zf2 keys fr0,bx x0,mem x0⟩ ⟨fr0,bx0,M0⟩)
  (h:∀ x,inv x→body (zoO Q fun s'=>∃ y,inv y∧μ y<μ x∧St.sub ⟨fr y++zf2 keys fr0,bx y,mem y⟩ s') ⟨fr x++zf2 keys fr0,bx x,mem x⟩):zI body Q ⟨fr0,bx0,M0⟩:=
 loop (fun x=>⟨fr x++zf2 keys fr0,bx x,mem x⟩) inv μ x0 h0 hs h
theorem zem {σ:Type} {body:(Exit→St→Prop)→St→Prop} {Q:Exit→St→Prop} {fr0:List (Nat×SV)} {bx0:List BE} {M0:Mem} (keys:List Nat) (fr:σ→List (Nat×SV)) (inv:σ→Prop) (μ:σ→Nat) (x0:σ) (h0:inv x0)
  (hs:St.sub ⟨fr x0++zf2 keys fr0,bx0,M0⟩ ⟨fr0,bx0,M0⟩)
  (h:∀ x,inv x→body (zoO Q fun s'=>∃ y,inv y∧μ y<μ x∧St.sub ⟨fr y++zf2 keys fr0,bx0,M0⟩ s') ⟨fr x++zf2 keys fr0,bx0,M0⟩):zI body Q ⟨fr0,bx0,M0⟩:=
 loop (fun x=>⟨fr x++zf2 keys fr0,bx0,M0⟩) inv μ x0 h0 hs h
theorem app {E:TypeId} {size bytes:Nat} {a:Option Addr} {n c m:Nat} {news:List Value} {M:Mem} {k:Option Addr→Nat→Mem→Prop} (M0:Mem) (L:List Value) (hown:Own M0 E size a n c L M)
  (h1:(n+m)*bytes≤140737488355328) (h2:n+m≤maxLen) (h3:∀ u∈news,u.oneCell'=true) (hk:∀ a' c' M',Own M0 E size a' (n+m) c' (L++news) M'→k a' c' M'):zZ E size bytes a n c m news M k:=
 ⟨h1,h2,h3,.inl ⟨M0,L,hown,fun a' c' M' _ ho=>hk a' c' M' ho⟩⟩
theorem zb2 {M:Mem} {size:Nat} {a:Option Addr} {n:Nat} {k:List Value→Prop} {vs:List Value} (h:SrcOk M size a n vs) (hk:k vs):zaj M size a n k:=⟨vs,h,hk⟩
theorem zsD {M:Mem} {a:Option Addr} {n:Nat} {k:SV→Prop} {bs:List UInt8} (h:SrcOk M 1 a n (bs.map zc)) (hk:k (.c (.v (.string ⟨bs.toArray⟩)))):zam M a n k:=⟨bs,h,hk⟩
theorem new {M:Mem} {k:Nat→Prop} (h:∀ b,M b=none→k b):New M k:=h
theorem Mem.le_setCells {M:Mem} {b:Nat} {E:TypeId} {l:List Value} (h:M b=none):M.le (M.setCells b E l):=fun c o hc=>by
 have hne:c≠b:=fun e=>by simp_all
 simpa[Mem.setCells,Yh _ _ hne] using hc
theorem Own.none (M:Mem) (E:TypeId) (size:Nat):Own M E size none 0 0 [] M:=⟨by simp,Yd _,.inl ⟨rfl,rfl,rfl⟩⟩
theorem Own.lit {M:Mem} {b:Nat} (h:M b=Option.none) (E:TypeId) (size n:Nat) (L:List Value) (hl:L.length=n*size):Own M E size (some ⟨b,0,Option.none⟩) n n L (M.setCells b E L):=
 ⟨hl,Yd _,.inr ⟨b,L,rfl,h,rfl,hl,by grind⟩⟩
theorem Own.base {M0:Mem} {E:TypeId} {size:Nat} {a:Option Addr} {n c:Nat} {L:List Value} {M:Mem} (h:Own M0 E size a n c L M):M0.le M:=by
 obtain⟨_,_,⟨_,_,rfl⟩|⟨b,cs,_,hb,rfl,_,_⟩⟩:=h
 ·exact Ya _
 ·exact Mem.le_setCells hb
theorem Own.src {M0:Mem} {E:TypeId} {size:Nat} {a:Option Addr} {n c:Nat} {L:List Value} {M:Mem} (h:Own M0 E size a n c L M):SrcOk M size a n L:=by
 obtain⟨hl,hc,⟨rfl,rfl,rfl⟩|⟨b,cs,rfl,hb,rfl,hcl,ht⟩⟩:=h
 ·refine⟨hl,.inl ?_⟩;have:n=0:=by omega
  subst this;simpa using hl
 ·refine⟨hl,.inr ⟨b,0,rfl,?_⟩⟩;have:n*size≤c*size:=Ybr _ hc
  simp only[Mem.row,Mem.setCells,Yam];rw[if_pos oE];simp[ht]
theorem Mem.row_le {A M:Mem} (h:A.le M) {b o n:Nat} {vs:List Value} (hr:A.row b o n=some vs):M.row b o n=some vs:=by
 unfold Mem.row at hr ⊢;cases hA:A b with
 | none=>simp_all
 | some x=>rw[hA] at hr;rw[h b x hA];exact hr
theorem SrcOk.le {A M:Mem} (h:A.le M) {size:Nat} {a:Option Addr} {n:Nat} {vs:List Value} (hs:SrcOk A size a n vs):SrcOk M size a n vs:=by
 obtain⟨hl,h1|⟨b,o,ha,h2⟩⟩:=hs
 ·exact⟨hl,.inl h1⟩
 ·exact⟨hl,.inr ⟨b,o,ha,Mem.row_le h h2⟩⟩
theorem SrcOk.elem {M:Mem} {s:Nat} {a:Option Addr} {n:Nat} {vs:List Value} (h:SrcOk M s a n vs) {j:Nat} (hj:j<n) (hs:0<s) :
  ∃ b o,a=some ⟨b,o,Option.none⟩∧∀ p m,p+m≤s→M.row b (o+j*s+p) m=some ((vs.drop (j*s+p)).take m):=by
 obtain⟨hl,h⟩:=h;have hle:(j+1)*s≤n*s:=Ybr _ hj
 rw[Ydp] at hle;rcases h with rfl|⟨b,o,rfl,hr⟩
 ·grind
 ·refine⟨b,o,rfl,fun p m hpm=>?_⟩;unfold Mem.row at hr ⊢;split at hr
  ·rename_i c e fz hM;split at hr
   ·simp only[Y3] at hr;rw[if_pos oM,←hr];congr 1;rw[Ycm,Ybo,Yb0];rw[Ybg oM];congr 2;omega
   ·cases hr
  ·cases hr
theorem SrcOk.get {M:Mem} {a:Option Addr} {n:Nat} {vs:List Value} (h:SrcOk M 1 a n vs) {j:Nat} {v:Value} (hv:vs[j]? = some v):∃ b o,a=some ⟨b,o,Option.none⟩∧M.row b (o+j*1) 1=some [v]:=by
 have hl:=h.1;have hj:=(Yu.1 hv).1
 obtain⟨b,o,h1,h2⟩:=h.elem (j:=j) oM oM;refine⟨b,o,h1,?_⟩;have:=h2 0 1 oM
 simp only[Ybx] at this;rw[Yb hj] at hv;have hv:=Yb2 hv
 rw[this,Ybi,Y2 hj,hv];simp
theorem inR_i64 {n:Int} (h : -9223372036854775808≤n∧n≤9223372036854775807):inR .i64 n:=by
 unfold inR;rw[IntKind.wrap_i64];omega
end Go.Vm
namespace Go.Vm
theorem Mem.row_upd_ne {M:Mem} {b c:Nat} {x:Obj} (h:c≠b) (o n:Nat):(M.upd b x).row c o n=M.row c o n:=by simp[Mem.row,Mem.upd,h]
theorem Mem.row_cells {M:Mem} {b:Nat} {E:TypeId} {l:List Value} {o n:Nat} (h:o+n≤l.length):(M.setCells b E l).row b o n=some ((l.drop o).take n):=by
 simp[Mem.row,Mem.setCells,Mem.upd,h]
theorem Mem.cells_setCells {M:Mem} {b:Nat} {E:TypeId} {l:List Value}:(M.setCells b E l).cells b=some (E,l):=by simp[Mem.cells,Mem.setCells,Mem.upd]
theorem Mem.le_upd {M:Mem} {b:Nat} {x:Obj} (h:M b=none):M.le (M.upd b x):=fun c o hc=>by
 have hne:c≠b:=fun e=>by simp_all
 simpa[Mem.upd,hne] using hc
theorem Mem.upd_upd (M:Mem) (b:Nat) (x y:Obj):(M.upd b x).upd b y=M.upd b y:=by funext c;simp only[Mem.upd];split<;>rfl
theorem Mem.setCells_setCells (M:Mem) (b:Nat) (E E':TypeId) (l l':List Value):(M.setCells b E l).setCells b E' l'=M.setCells b E' l':=Mem.upd_upd ..
def Mem.has (M:Mem) (b:Nat) (E:TypeId) (l:List Value):Prop:=M b=some (.cells l.toArray E (0,0))
theorem Mem.has.cells {M:Mem} {b:Nat} {E:TypeId} {l:List Value} (h:M.has b E l):M.cells b=some (E,l):=by unfold Mem.has at h;simp[Mem.cells,h]
theorem Mem.has.row {M:Mem} {b:Nat} {E:TypeId} {l:List Value} (h:M.has b E l) {o n:Nat} (hn:o+n≤l.length):M.row b o n=some ((l.drop o).take n):=by unfold Mem.has at h;simp[Mem.row,h,hn]
theorem Mem.has.le {A M:Mem} (hle:A.le M) {b:Nat} {E:TypeId} {l:List Value} (h:A.has b E l):M.has b E l:=hle _ _ h
theorem Mem.has_setCells {M:Mem} {b:Nat} {E:TypeId} {l:List Value}:(M.setCells b E l).has b E l:=by simp[Mem.has,Mem.setCells,Mem.upd]
def NewSl (M:Mem) (E:TypeId) (size:Nat) (a:Option Addr) (n c:Nat) (L:List Value) (M':Mem):Prop:=∃ M0,M.le M0∧Own M0 E size a n c L M'
theorem Own.new {M:Mem} {E:TypeId} {size:Nat} {a:Option Addr} {n c:Nat} {L:List Value} {M':Mem} (h:Own M E size a n c L M'):NewSl M E size a n c L M':=⟨M,Ya _,h⟩
theorem NewSl.none (M:Mem) (E:TypeId) (size:Nat):NewSl M E size none 0 0 [] M:=(Own.none M E size).new
theorem NewSl.lit {M:Mem} {b:Nat} (h:M b=Option.none) (E:TypeId) (size n:Nat) (L:List Value) (hl:L.length=n*size):NewSl M E size (some ⟨b,0,Option.none⟩) n n L (M.setCells b E L):=(Own.lit h E size n L hl).new
theorem NewSl.le {M:Mem} {E:TypeId} {size:Nat} {a:Option Addr} {n c:Nat} {L:List Value} {M':Mem} (h:NewSl M E size a n c L M'):M.le M':=by
 obtain⟨M0,h0,h1⟩:=h;exact Yc h0 h1.base
theorem NewSl.src {M:Mem} {E:TypeId} {size:Nat} {a:Option Addr} {n c:Nat} {L:List Value} {M':Mem} (h:NewSl M E size a n c L M'):SrcOk M' size a n L:=by
 obtain⟨M0,h0,h1⟩:=h;exact h1.src
theorem NewSl.mono {A M:Mem} {E:TypeId} {size:Nat} {a:Option Addr} {n c:Nat} {L:List Value} {M':Mem} (h:NewSl M E size a n c L M') (hA:A.le M):NewSl A E size a n c L M':=by
 obtain⟨M0,h0,h1⟩:=h;exact⟨M0,Yc hA h0,h1⟩
theorem zb8 {E:TypeId} {size bytes:Nat} {a:Option Addr} {n c m:Nat} {news:List Value} {M:Mem} {k:Option Addr→Nat→Mem→Prop} (M0:Mem) (L:List Value) (hown:NewSl M0 E size a n c L M)
  (h1:(n+m)*bytes≤140737488355328) (h2:n+m≤maxLen) (h3:∀ u∈news,u.oneCell'=true) (hk:∀ a' c' M',NewSl M0 E size a' (n+m) c' (L++news) M'→k a' c' M'):zZ E size bytes a n c m news M k:=by
 obtain⟨M1,h0,h⟩:=hown;exact app M1 L h h1 h2 h3 fun a' c' M' ho=>hk a' c' M' ⟨M1,h0,ho⟩
theorem SrcOk.nil (M:Mem) (size:Nat):SrcOk M size none 0 []:=⟨by simp,.inl rfl⟩
theorem SrcOk.len {M:Mem} {size:Nat} {a:Option Addr} {n:Nat} {l:List Value} (h:SrcOk M size a n l):l.length=n*size:=h.1
theorem SrcOk.upd {M:Mem} {size:Nat} {a:Option Addr} {n:Nat} {l:List Value} (h:SrcOk M size a n l) {b:Nat} {x:Obj} (hb:∀ p,a=some p→p.block≠b):SrcOk (M.upd b x) size a n l:=by
 obtain⟨hl,h1|⟨c,o,ha,h2⟩⟩:=h
 ·exact⟨hl,.inl h1⟩
 ·have:=hb _ ha;exact⟨hl,.inr ⟨c,o,ha,by rw[Mem.row_upd_ne this];exact h2⟩⟩
def Mem.keep (S:Nat→Prop) (M M':Mem):Prop:=∀ b o,¬S b→M b=some o→M' b=some o
theorem Mem.keep_refl (S:Nat→Prop) (M:Mem):Mem.keep S M M:=fun _ _ _ h=>h
theorem Mem.keep_of_le {S:Nat→Prop} {M M':Mem} (h:M.le M'):Mem.keep S M M':=fun b o _ hb=>h b o hb
theorem Mem.keep_trans {S:Nat→Prop} {A B C:Mem} (h:Mem.keep S A B) (h':Mem.keep S B C):Mem.keep S A C:=fun b o hn hb=>h' b o hn (h b o hn hb)
theorem Mem.keep_mono {S T:Nat→Prop} {A B:Mem} (h:Mem.keep S A B) (hST:∀ b,S b→T b):Mem.keep T A B:=fun b o hn hb=>h b o (fun h=>hn (hST b h)) hb
theorem Mem.keep_upd {S:Nat→Prop} (M:Mem) {b:Nat} (x:Obj) (hb:S b):Mem.keep S M (M.upd b x):=fun c o hn hc=>by
 have hne:c≠b:=fun e=>by simp_all
 simpa[Mem.upd,hne] using hc
theorem Mem.keep.le {S:Nat→Prop} {M0 M M':Mem} (h:Mem.keep S M M') (h0:M0.le M) (hS:∀ b,S b→M0 b=none):M0.le M':=fun b o hb=>h b o (fun hs=>by simp_all) (h0 b o hb)
end Go.Vm
namespace Go.Vm
theorem SrcOk.at {α:Type} {M:Mem} {a:Option Addr} {n:Nat} {l:List α} {f:α→Value} (h:SrcOk M 1 a n (l.map f)) {i:Nat} (hi:i<n) :
  ∃ (hl:i<l.length) (b o:Nat),a=some ⟨b,o,Option.none⟩∧M.row b (o+i*1) 1=some [f l[i]]:=by
 have hl:l.length=n:=by simpa using h.1
 obtain⟨b,o,h1,h2⟩:=h.get (j:=i) (v:=f (l[i]'oM)) (by simp_all);exact⟨by omega,b,o,h1,h2⟩
theorem SrcOk.maplen {α:Type} {M:Mem} {a:Option Addr} {n:Nat} {l:List α} {f:α→Value} (h:SrcOk M 1 a n (l.map f)):l.length=n:=by simpa using h.1
end Go.Vm
namespace Go.Vm
theorem znc {α β:Type} {f:α→β} {l:List α} {i:Nat} (h:i<l.length):(l.take (i+1)).map f=(l.take i).map f++[f l[i]]:=by
 rw[Y1,Yb h,Yv];rfl
theorem newSl_iff {M:Mem} {E:TypeId} {s:Nat} {a:Option Addr} {n c:Nat} {L:List Value} {M':Mem} :
  NewSl M E s a n c L M'↔M.le M'∧L.length=n*s∧n≤c∧((a=Option.none∧c=0)∨∃ b cs,a=some ⟨b,0,Option.none⟩∧M b=Option.none∧M'.has b E cs∧cs.length=c*s∧cs.take (n*s)=L):=by
 constructor
 ·intro h;refine⟨h.le,?_⟩;obtain⟨M0,h0,h1,h2,h3⟩:=h;refine⟨h1,h2,?_⟩;rcases h3 with ⟨ha,hc,_⟩|⟨b,cs,ha,hb,rfl,hl,ht⟩
  ·simp_all
  ·refine .inr ⟨b,cs,ha,?_,Mem.has_setCells,hl,ht⟩;cases hx:M b with
   | none=>rfl
   | some x=>rw[h0 b x hx] at hb;cases hb
 ·rintro ⟨hle,h1,h2,⟨ha,hc⟩|⟨b,cs,ha,hb,hh,hl,ht⟩⟩
  ·exact⟨M',hle,h1,h2,.inl ⟨ha,hc,rfl⟩⟩
  ·refine⟨fun x=>if x=b then none else M' x,fun x o hx=>?_,h1,h2,.inr ⟨b,cs,ha,by simp,?_,hl,ht⟩⟩
   ·have hne:x≠b:=fun e=>by simp_all
    simp only[if_neg hne];exact hle x o hx
   ·funext x;simp only[Mem.setCells,Mem.upd];split
    ·rename_i e;subst e;exact hh
    ·rfl
theorem NewSl.up {M:Mem} {E:TypeId} {s:Nat} {a:Option Addr} {n c:Nat} {L:List Value} {M1 M2:Mem} (h:NewSl M E s a n c L M1) (hle:M1.le M2):NewSl M E s a n c L M2:=by
 rw[newSl_iff] at h ⊢;obtain⟨h0,h1,h2,h3⟩:=h;exact⟨Yc h0 hle,h1,h2,h3.imp id fun ⟨b,cs,ha,hb,hh,hr⟩=>⟨b,cs,ha,hb,hle _ _ hh,hr⟩⟩
theorem NewSl.keep {M:Mem} {E:TypeId} {s:Nat} {a:Option Addr} {n c:Nat} {L:List Value} {M1 M2:Mem} {S:Nat→Prop} (h:NewSl M E s a n c L M1) (hk:Mem.keep S M1 M2) (hS:∀ b,S b→M b=Option.none) (ha:∀ p,a=some p→¬S p.block):NewSl M E s a n c L M2:=by
 rw[newSl_iff] at h ⊢;obtain⟨h0,h1,h2,h3⟩:=h;exact⟨hk.le h0 hS,h1,h2,h3.imp id fun ⟨b,cs,hab,hb,hh,hr⟩=>⟨b,cs,hab,hb,hk _ _ (ha _ hab) hh,hr⟩⟩
end Go.Vm
namespace Go.Vm
def Mem.empty:Mem:=fun _=>none
theorem Mem.empty_le (M:Mem):Mem.empty.le M:=fun _ _ h=>by cases h
end Go.Vm
namespace Go.Vm
theorem Mem.has.c1 {M:Mem} {b:Nat} {E:TypeId} {l:List Value} (h:M.has b E l) {o:Nat} {v:Value} (hv:l[o]? = some v):M.row b o 1=some [v]:=by
 have hl:=(Yu.1 hv).1;rw[h.row oM,Y2 hl];have:=(Yu.1 hv).2
 simp[this]
end Go.Vm
namespace Go.Vm
theorem NewSl.block {M:Mem} {E:TypeId} {s:Nat} {a:Option Addr} {n c:Nat} {L:List Value} {M':Mem} (h:NewSl M E s a n c L M') {q:Addr} (ha:a=some q):M q.block=Option.none∧∃ cs,M'.has q.block E cs:=by
 rw[newSl_iff] at h;obtain⟨_,_,_,⟨h3,_⟩|⟨b,cs,hab,hb,hh,_⟩⟩:=h
 ·simp_all
 ·grind
theorem Mem.has.inj {M:Mem} {b:Nat} {E E':TypeId} {l l':List Value} (h:M.has b E l) (h':M.has b E' l'):E=E'∧l=l':=by
 unfold Mem.has at h h';rw[h] at h';simp at h';exact⟨h'.2,h'.1⟩
def Wr (M:Mem) (E:TypeId) (s:Nat) (a:Option Addr) (n c:Nat) (L:List Value):Prop:=
 L.length=n*s∧n≤c∧((a=Option.none∧c=0)∨∃ b cs,a=some ⟨b,0,Option.none⟩∧M.has b E cs∧cs.length=c*s∧cs.take (n*s)=L)
theorem NewSl.wr {M:Mem} {E:TypeId} {s:Nat} {a:Option Addr} {n c:Nat} {L:List Value} {M':Mem} (h:NewSl M E s a n c L M'):Wr M' E s a n c L:=by
 rw[newSl_iff] at h;obtain⟨_,h1,h2,h3⟩:=h;exact⟨h1,h2,h3.imp id fun ⟨b,cs,ha,_,hr⟩=>⟨b,cs,ha,hr⟩⟩
theorem Wr.mono {M M':Mem} {E:TypeId} {s:Nat} {a:Option Addr} {n c:Nat} {L:List Value} (h:Wr M E s a n c L) (hk:∀ p o,a=some p→M p.block=some o→M' p.block=some o):Wr M' E s a n c L:=by
 obtain⟨h1,h2,h3⟩:=h;exact⟨h1,h2,h3.imp id fun ⟨b,cs,ha,hh,hr⟩=>⟨b,cs,ha,hk _ _ ha hh,hr⟩⟩
theorem Wr.le {M M':Mem} {E:TypeId} {s:Nat} {a:Option Addr} {n c:Nat} {L:List Value} (h:Wr M E s a n c L) (hle:M.le M'):Wr M' E s a n c L:=h.mono fun _ _ _=>hle _ _
theorem Wr.src {M:Mem} {E:TypeId} {s:Nat} {a:Option Addr} {n c:Nat} {L:List Value} (h:Wr M E s a n c L):SrcOk M s a n L:=by
 obtain⟨h1,h2,⟨ha,hc⟩|⟨b,cs,ha,hh,hl,ht⟩⟩:=h
 ·refine⟨h1,.inl ?_⟩;have:n=0:=by omega
  subst this;simpa using h1
 ·refine⟨h1,.inr ⟨b,0,ha,?_⟩⟩;have:n*s≤c*s:=Ybr _ h2
  rw[hh.row oM];simp[ht]
def Elems {α:Type} (M:Mem) (s:Nat) (a:Option Addr) (n:Nat) (R:List Value→α→Prop) (l:List α):Prop:=
 ∃ css:List (List Value),SrcOk M s a n css.flatten∧css.length=n∧l.length=n∧(∀ cs∈css,cs.length=s)∧∀ (i:Nat) cs x,css[i]? = some cs→l[i]? = some x→R cs x
theorem Elems.len {α:Type} {M:Mem} {s:Nat} {a:Option Addr} {n:Nat} {R:List Value→α→Prop} {l:List α} (h:Elems M s a n R l):l.length=n:=by
 obtain⟨_,_,_,h,_⟩:=h;exact h
theorem Elems.imp {α:Type} {M M':Mem} {s:Nat} {a:Option Addr} {n:Nat} {R R':List Value→α→Prop} {l:List α} (h:Elems M s a n R l) (hle:M.le M') (hR:∀ cs x,x∈l→R cs x→R' cs x):Elems M' s a n R' l:=by
 obtain⟨css,h1,h2,h3,h4,h5⟩:=h;exact⟨css,h1.le hle,h2,h3,h4,fun i cs x hi hx=>hR _ _ (Yao hx) (h5 i cs x hi hx)⟩
theorem ziP {α:Type} {s:Nat}:∀ {css:List (List α)} (_:∀ cs∈css,cs.length=s) {i:Nat} {cs:List α} (_:css[i]? = some cs),(css.flatten.drop (i*s)).take s=cs
 | [],_,i,cs,hi=>by grind
 | c::r,h,0,cs,hi=>by simp_all
 | c::r,h,i+1,cs,hi=>by
  have hc:c.length=s:=h c oS;simp only[List.flatten_cons];rw[Ydp,Nat.add_comm,←Ybo,show (c++r.flatten).drop s=r.flatten by simp_all];exact ziP (fun cs hcs=>h cs (Yak _ hcs)) (by simp_all)
theorem Elems.at {α:Type} {M:Mem} {s:Nat} {a:Option Addr} {n:Nat} {R:List Value→α→Prop} {l:List α} (h:Elems M s a n R l) (hs:0<s) {i:Nat} (hi:i<n) :
  ∃ (hl:i<l.length) (b o:Nat) (cs:List Value),a=some ⟨b,o,Option.none⟩∧(∀ p m,p+m≤s→M.row b (o+i*s+p) m=some ((cs.drop p).take m))∧M.row b (o+i*s) s=some cs∧cs.length=s∧R cs l[i]:=by
 obtain⟨css,h1,h2,h3,h4,h5⟩:=h;obtain⟨b,o,ha,hr⟩:=h1.elem hi hs;have hcs:css[i]? = some (css[i]'oM):=Yb oM
 have hlen:(css[i]'oM).length=s:=h4 _ (Yai _)
 have key:∀ p m,p+m≤s→M.row b (o+i*s+p) m=some (((css[i]'oM).drop p).take m):=by
  intro p m hpm;rw[hr p m hpm,←ziP h4 hcs,Ycm,Ybo,Yb0];congr 2;omega
 refine⟨by omega,b,o,css[i]'oM,ha,key,?_,hlen,h5 i _ _ hcs (Yb oM)⟩;have:=key 0 s oM
 rw[Ybx] at this;rw[this,Ycn,Yf oM]
theorem Elems.nil {α:Type} (M:Mem) (s:Nat) (R:List Value→α→Prop):Elems M s Option.none 0 R []:=⟨[],SrcOk.nil M s,rfl,rfl,by simp,by simp⟩
def NewEls {α:Type} (M:Mem) (E:TypeId) (s:Nat) (a:Option Addr) (n c:Nat) (R:List Value→α→Prop) (l:List α) (M':Mem):Prop:=
 ∃ css:List (List Value),NewSl M E s a n c css.flatten M'∧css.length=n∧l.length=n∧(∀ cs∈css,cs.length=s)∧∀ (i:Nat) cs x,css[i]? = some cs→l[i]? = some x→R cs x
theorem NewEls.elems {α:Type} {M:Mem} {E:TypeId} {s:Nat} {a:Option Addr} {n c:Nat} {R:List Value→α→Prop} {l:List α} {M':Mem} (h:NewEls M E s a n c R l M'):Elems M' s a n R l:=by
 obtain⟨css,h1,hr⟩:=h;exact⟨css,h1.src,hr⟩
theorem NewEls.le {α:Type} {M:Mem} {E:TypeId} {s:Nat} {a:Option Addr} {n c:Nat} {R:List Value→α→Prop} {l:List α} {M':Mem} (h:NewEls M E s a n c R l M'):M.le M':=by
 obtain⟨css,h1,hr⟩:=h;exact h1.le
theorem NewEls.len {α:Type} {M:Mem} {E:TypeId} {s:Nat} {a:Option Addr} {n c:Nat} {R:List Value→α→Prop} {l:List α} {M':Mem} (h:NewEls M E s a n c R l M'):l.length=n:=h.elems.len
theorem NewEls.block {α:Type} {M:Mem} {E:TypeId} {s:Nat} {a:Option Addr} {n c:Nat} {R:List Value→α→Prop} {l:List α} {M':Mem} (h:NewEls M E s a n c R l M') {q:Addr} (ha:a=some q):M q.block=Option.none∧∃ cs,M'.has q.block E cs:=by
 obtain⟨css,h1,_⟩:=h;exact h1.block ha
theorem NewEls.nil {α:Type} (M:Mem) (E:TypeId) (s:Nat) (R:List Value→α→Prop):NewEls M E s Option.none 0 0 R [] M:=⟨[],NewSl.none M E s,rfl,rfl,by simp,by simp⟩
theorem NewEls.imp {α:Type} {M:Mem} {E:TypeId} {s:Nat} {a:Option Addr} {n c:Nat} {R R':List Value→α→Prop} {l:List α} {M':Mem} (h:NewEls M E s a n c R l M') (hR:∀ cs x,x∈l→R cs x→R' cs x):NewEls M E s a n c R' l M':=by
 obtain⟨css,h1,h2,h3,h4,h5⟩:=h;exact⟨css,h1,h2,h3,h4,fun i cs x hi hx=>hR _ _ (Yao hx) (h5 i cs x hi hx)⟩
theorem NewEls.up {α:Type} {M:Mem} {E:TypeId} {s:Nat} {a:Option Addr} {n c:Nat} {R:List Value→α→Prop} {l:List α} {M1 M2:Mem} (h:NewEls M E s a n c R l M1) (hle:M1.le M2):NewEls M E s a n c R l M2:=by
 obtain⟨css,h1,hr⟩:=h;exact⟨css,h1.up hle,hr⟩
theorem NewEls.keep {α:Type} {M:Mem} {E:TypeId} {s:Nat} {a:Option Addr} {n c:Nat} {R:List Value→α→Prop} {l:List α} {M1 M2:Mem} {S:Nat→Prop} (h:NewEls M E s a n c R l M1) (hk:Mem.keep S M1 M2) (hS:∀ b,S b→M b=Option.none) (ha:∀ p,a=some p→¬S p.block):NewEls M E s a n c R l M2:=by
 obtain⟨css,h1,hr⟩:=h;exact⟨css,h1.keep hk hS ha,hr⟩
theorem NewEls.mono {α:Type} {A M:Mem} {E:TypeId} {s:Nat} {a:Option Addr} {n c:Nat} {R:List Value→α→Prop} {l:List α} {M':Mem} (h:NewEls M E s a n c R l M') (hA:A.le M):NewEls A E s a n c R l M':=by
 obtain⟨css,h1,hr⟩:=h;exact⟨css,h1.mono hA,hr⟩
def blk (a:Option Addr):Nat→Prop:=fun x=>∃ q,a=some q∧q.block=x
theorem ziQ {E:TypeId} {size bytes:Nat} {a:Option Addr} {n c m:Nat} {news:List Value} {M:Mem} {k:Option Addr→Nat→Mem→Prop} (M0:Mem) (L:List Value) (hown:NewSl M0 E size a n c L M)
  (h1:(n+m)*bytes≤140737488355328) (h2:n+m≤maxLen) (h3:∀ u∈news,u.oneCell'=true) (hk:∀ a' c' M',NewSl M0 E size a' (n+m) c' (L++news) M'→Mem.keep (blk a) M M'→k a' c' M'):zZ E size bytes a n c m news M k:=by
 rw[newSl_iff] at hown;obtain⟨h0,h4,h5,⟨ha,hc⟩|⟨b,cs,ha,hb,hh,hl,ht⟩⟩:=hown
 ·refine app M L ⟨h4,h5,.inl ⟨ha,hc,rfl⟩⟩ h1 h2 h3 fun a' c' M' ho=>hk a' c' M' ⟨M,h0,ho⟩ (Mem.keep_of_le ho.base)
 ·refine app (fun x=>if x=b then Option.none else M x) L ⟨h4,h5,.inr ⟨b,cs,ha,by simp,?_,hl,ht⟩⟩ h1 h2 h3 fun a' c' M' ho=>hk a' c' M' ⟨_,?_,ho⟩ ?_
  ·funext x;simp only[Mem.setCells,Mem.upd];split
   ·rename_i e;subst e;exact hh
   ·rfl
  ·intro x o hx;have hne:x≠b:=fun e=>by simp_all
   simp only[if_neg hne];exact h0 x o hx
  ·intro x o hn hx;have hne:x≠b:=fun e=>hn ⟨_,ha,e.symm⟩
   exact ho.base x o (by simp_all)
theorem zKH {α:Type} {E:TypeId} {s bytes:Nat} {a:Option Addr} {n c:Nat} {news:List Value} {M:Mem} {k:Option Addr→Nat→Mem→Prop} {R:List Value→α→Prop} {l:List α} (M0:Mem) (hown:NewEls M0 E s a n c R l M) (x:α) (hx:R news x)
  (hl:news.length=s) (h1:(n+1)*bytes≤140737488355328) (h2:n+1≤maxLen) (h3:∀ u∈news,u.oneCell'=true) (hk:∀ a' c' M',NewEls M0 E s a' (n+1) c' R (l++[x]) M'→Mem.keep (blk a) M M'→k a' c' M'):zZ E s bytes a n c 1 news M k:=by
 obtain⟨css,h0,h4,h5,h6,h7⟩:=hown;refine ziQ M0 _ h0 h1 h2 h3 fun a' c' M' hn hkp=>hk a' c' M' ⟨css++[news],by simp_all,by grind,by grind,?_,?_⟩ hkp
 ·grind
 ·intro i cs y hi hy;by_cases hlt:i<css.length
  ·rw[Yag hlt] at hi;rw[Yag oM] at hy;exact h7 i cs y hi hy
  ·rw[Yan oM] at hi;rw[Yan oM] at hy
   have e:i - css.length=0:=by
    have:=(Yu.1 hi).1;simp at this;omega
   rw[e] at hi;rw[show i - l.length=0 by omega] at hy;simp at hi hy;rw[←hi,←hy];exact hx
end Go.Vm
namespace Go.Vm
open Classical in
noncomputable def Mem.minus (M:Mem) (S:Nat→Prop):Mem:=fun x=>if S x then none else M x
theorem Mem.minus_le (M:Mem) (S:Nat→Prop):(M.minus S).le M:=fun b o h=>by unfold Mem.minus at h;split at h;cases h;exact h
theorem Mem.keep_minus {M M':Mem} {S:Nat→Prop}:Mem.keep S M M'↔(M.minus S).le M':=by
 constructor
 ·intro h b o hb;unfold Mem.minus at hb;split at hb
  ·grind
  ·exact h b o ‹_› hb
 ·intro h b o hn hb;exact h b o (by unfold Mem.minus;rw[if_neg hn];exact hb)
theorem Mem.le_minus {M0 M:Mem} {S:Nat→Prop} (h:M0.le M) (hS:∀ b,S b→M0 b=none):M0.le (M.minus S):=fun b o hb=>by
 unfold Mem.minus;rw[if_neg (fun hs=>by simp_all)];exact h b o hb
theorem Mem.minus_none {M:Mem} {S:Nat→Prop} {b:Nat} (h:M.minus S b=none):S b∨M b=none:=by
 unfold Mem.minus at h;split at h
 ·simp_all
 ·simp_all
theorem Mem.minus_in {M:Mem} {S:Nat→Prop} {b:Nat} (h:S b):M.minus S b=none:=by unfold Mem.minus;rw[if_pos h]
end Go.Vm
namespace Go.Vm
theorem Wr.block {M:Mem} {E:TypeId} {s:Nat} {a:Option Addr} {n c:Nat} {L:List Value} (h:Wr M E s a n c L) {q:Addr} (ha:a=some q):∃ cs,M.has q.block E cs:=by
 obtain⟨_,_,⟨h3,_⟩|⟨b,cs,hab,hh,_⟩⟩:=h
 ·simp_all
 ·grind
end Go.Vm
namespace Go.Vm
theorem Mem.row_minus {M:Mem} {S:Nat→Prop} {b o n:Nat} {vs:List Value} (h:M.row b o n=some vs) (hb:¬S b):(M.minus S).row b o n=some vs:=by
 unfold Mem.row at h ⊢;have:M.minus S b=M b:=by unfold Mem.minus;rw[if_neg hb]
 rw[this];exact h
theorem SrcOk.minus {M:Mem} {S:Nat→Prop} {size:Nat} {a:Option Addr} {n:Nat} {l:List Value} (h:SrcOk M size a n l) (hb:∀ q,a=some q→¬S q.block):SrcOk (M.minus S) size a n l:=by
 obtain⟨hl,h1|⟨c,o,ha,h2⟩⟩:=h
 ·exact⟨hl,.inl h1⟩
 ·exact⟨hl,.inr ⟨c,o,ha,Mem.row_minus h2 (hb _ ha)⟩⟩
theorem SrcOk.lit {M:Mem} {b:Nat} {E:TypeId} {size n:Nat} {l:List Value} (hl:l.length=n*size):SrcOk (M.setCells b E l) size (some ⟨b,0,Option.none⟩) n l:=
 ⟨hl,.inr ⟨b,0,rfl,by rw[Mem.row_cells oM,←hl];simp⟩⟩
theorem splice_one {α:Type} (l:List α) (o:Nat) (v:α) (h:o<l.length):zd l o [v]=l.set o v:=by
 unfold zd;rw[List.set_eq_take_append_cons_drop,if_pos h];simp
end Go.Vm
namespace Go.Vm
theorem Mem.textAt_setCells {M:Mem} {b:Nat} {E:TypeId} {l:List Value}:(M.setCells b E l).textAt b=some (.cells l.toArray E (l.length,l.length+1)):=by
 simp[Mem.textAt,Mem.setCells,Mem.upd]
theorem Mem.row_obj {M:Mem} {b:Nat} {E:TypeId} {l:List Value} {fz:Nat×Nat} {o n:Nat} (hb:M b=some (.cells l.toArray E fz)) (h:o+n≤l.length):M.row b o n=some ((l.drop o).take n):=by
 simp[Mem.row,hb,h]
end Go.Vm
namespace Go.Vm
theorem Mem.has.src {M:Mem} {b:Nat} {E:TypeId} {l:List Value} (h:M.has b E l) {size n:Nat} (hl:l.length=n*size):SrcOk M size (some ⟨b,0,Option.none⟩) n l:=
 ⟨hl,.inr ⟨b,0,rfl,by rw[h.row oM,←hl];simp⟩⟩
end Go.Vm
namespace Go.Vm
theorem Wr.store1 {α:Type} {f:α→Value} {M:Mem} {E:TypeId} {a:Option Addr} {n c:Nat} {L:List α} (h:Wr M E 1 a n c (L.map f)) {j:Nat} (hj:j<n) :
  ∃ b cs,a=some ⟨b,0,Option.none⟩∧M.cells b=some (E,cs)∧0+j*1+1≤cs.length∧∀ v,Wr (M.setCells b E (zd cs (0+j*1) [f v])) E 1 a n c ((L.set j v).map f)∧Mem.keep (blk a) M (M.setCells b E (zd cs (0+j*1) [f v])):=by
 obtain⟨h1,h2,⟨ha,hc⟩|⟨b,cs,ha,hh,hl,ht⟩⟩:=h
 ·omega
 ·refine⟨b,cs,ha,hh.cells,by omega,fun v=>⟨⟨by simp_all,h2,.inr ⟨b,_,ha,Mem.has_setCells,?_,?_⟩⟩,?_⟩⟩
  ·rw[splice_one _ _ _ oM];simpa using hl
  ·rw[splice_one _ _ _ oM];simp only[Yap,Ybi] at ht ⊢;rw[List.take_set,ht,List.map_set]
  ·intro x o hx hM;have hne:x≠b:=fun e=>hx ⟨_,ha,e.symm⟩
   unfold Mem.setCells;rw[Yh _ _ hne];exact hM
theorem Wr.maplen {α:Type} {f:α→Value} {M:Mem} {E:TypeId} {a:Option Addr} {n c:Nat} {L:List α} (h:Wr M E 1 a n c (L.map f)):L.length=n:=by simpa using h.1
end Go.Vm
namespace Go.Vm
theorem Mem.has.upd {M:Mem} {p b:Nat} {E:TypeId} {l:List Value} (h:M.has p E l) (hne:p≠b) (o:Obj):(M.upd b o).has p E l:=by
 unfold Mem.has at *; rw[Yh _ _ hne];exact h
end Go.Vm
namespace Go.Vm
theorem SrcOk.sub {M:Mem} {s:Nat} {a:Option Addr} {n:Nat} {vs:List Value} (h:SrcOk M s a n vs) {lo hi c:Nat} (h1:lo≤hi) (h2:hi≤n) (hc:n≤c) (hs:0<s):SrcOk M s (subA a lo c s) (hi - lo) ((vs.drop (lo*s)).take ((hi - lo)*s)):=by
 have hl:=h.1;have hm:(hi - lo)*s+lo*s=hi*s:=by rw[←Ycq];congr 1;omega
 have hm2:hi*s≤n*s:=Ybr _ h2;refine⟨by grind,?_⟩;by_cases hz:hi - lo=0
 ·simp_all
 right;rcases h.2 with h3|⟨b,o,ha,hr⟩
 ·subst h3;have:1*s≤n*s:=Ybr _ oM
  simp at hl;omega
 ·refine⟨b,o+lo*s,?_,?_⟩
  ·unfold subA;rw[if_neg oM,ha];simp[zb7]
  ·unfold Mem.row at hr ⊢;split at hr
   ·split at hr
    ·rename_i hle;have:=Yb2 hr
     rw[if_pos oM,←this,Ycm,Ybo,Yb0,Ybg oM]
    ·grind
   ·grind
theorem SrcOk.subm {α:Type} {f:α→Value} {M:Mem} {a:Option Addr} {n:Nat} {l:List α} (h:SrcOk M 1 a n (l.map f)) {lo hi c:Nat} (h1:lo≤hi) (h2:hi≤n) (hc:n≤c):SrcOk M 1 (subA a lo c 1) (hi - lo) (((l.drop lo).take (hi - lo)).map f):=by
 have:=h.sub (lo:=lo) (hi:=hi) h1 h2 hc oD;simpa[List.map_take,List.map_drop] using this
end Go.Vm
namespace Go.Vm
theorem zaA (l:List UInt8):∀ u∈l.map zc,u.oneCell'=true:=fun u hu=>by
 obtain⟨b,_,rfl⟩:=Yj.1 hu;rfl
theorem zR {A B:Prop} (a:A) (k:A→B:=by intro a;(repeat' (first|refine⟨?_,True.intro⟩|refine Go.Vm.brn_t rfl ?_|refine Go.Vm.brn_f rfl ?_|refine Go.Vm.ob rfl ?_|refine Go.Vm.ob oD ?_|refine Go.Vm.obr rfl ?_|refine Go.Vm.grow_same (Go.Vm.Mem.le_refl _) ?_|refine Go.Vm.ob (Go.Vm.Mem.le_refl _) ?_|refine⟨_,Go.Vm.Mem.le_refl _,?_⟩|fail));exact a):B:=k a
theorem zM {P:Program} {f:Nat} {args:List Value} {M:Mem} {R R':Value→Mem→Prop} {B:Prop} (h:CallsM P f args M R) (a:∀ v M',R v M'→R' v M') (k:CallsM P f args M R'→B:=by intro a;refine Go.Vm.zR ?_;exact a):B:=k (h.mono a)
theorem zN {P:Program} {f:Nat} {args:List Value} {M:Mem} {R:Value→Mem→Prop} {A B:Prop} (h:CallsM P f args M R) (a:A) (k:(∀ R':Value→Mem→Prop,(∀ v M',R v M'→R' v M')→CallsM P f args M R')→A→B:=by intro h a;refine Go.Vm.zR ?_;refine h _ ?_;rintro v _ ⟨rfl,rfl⟩;refine Go.Vm.zR ?_;exact a):B:=k (fun _ hr=>h.mono hr) a
theorem zQ {p A B:Prop} (h:p) (a:A) (k:p→(Nat→A)→B:=by intro h a;(repeat' ((conv=>whnf);first|refine⟨?_,True.intro⟩|refine Go.Vm.brn_t rfl ?_|refine Go.Vm.brn_f rfl ?_|refine Go.Vm.ob rfl ?_|refine Go.Vm.ob (by decide) ?_|refine Go.Vm.obr rfl ?_|refine Go.Vm.grow_same (Go.Vm.Mem.le_refl _) ?_|refine Go.Vm.ob (Go.Vm.Mem.le_refl _) ?_|refine Go.Vm.on (Go.Vm.Mem.has.c1 h rfl) ?_|refine⟨_,Go.Vm.Mem.le_refl _,?_⟩|refine Go.Vm.obr (Go.Vm.inR_i64 (by first|omega|(dsimp only;omega))) ?_|refine Go.Vm.ob (by first|omega|(dsimp only;omega)) ?_|fail));exact a 0):B:=k h fun _=>a
theorem zJ {P:Program} {f:Nat} {args:List Value} {M:Mem} {R:Value→Mem→Prop} {A B:Prop} (h:CallsM P f args M R) (a:A) (k:(∀ R':Value→Mem→Prop,(∀ v M',R v M'→R' v M')→CallsM P f args M R')→A→B:=by intro h a;refine Go.Vm.zR ?_;refine h _ ?_;rintro v _ ⟨rfl,rfl⟩;exact a):B:=k (fun _ hr=>h.mono hr) a
theorem zP {A B:Prop} (a:A) (k:(Nat→A)→B:=by intro a;refine Go.Vm.zR ?_;(conv=>whnf);(first|refine Go.Vm.obr (Go.Vm.inR_i64 (by first|omega|(dsimp only;omega))) ?_|refine Go.Vm.ob (by first|omega|(dsimp only;omega)) ?_);(conv=>whnf);exact a 0):B:=k fun _=>a
theorem zV {A B:Prop} (a:A) (k:(Nat→A)→B:=by intro a;refine Go.Vm.zR ?_;(conv=>whnf);(first|refine Go.Vm.obr (Go.Vm.inR_i64 (by first|omega|(dsimp only;omega))) ?_|refine Go.Vm.ob (by first|omega|(dsimp only;omega)) ?_);refine Go.Vm.zR ?_;exact a 0):B:=k fun _=>a
theorem zK {p A B:Prop} (h:p) (a:A) (k:p→(Nat→A)→B:=by intro h a;refine Go.Vm.zR ?_;(conv=>whnf);refine Go.Vm.on (Go.Vm.Mem.has.c1 h rfl) ?_;(conv=>whnf);exact a 0):B:=k h fun _=>a
theorem zW {p A B:Prop} (h:p) (a:A) (k:p→(Nat→A)→B:=by intro h a;refine Go.Vm.zR ?_;(conv=>whnf);refine Go.Vm.on (Go.Vm.Mem.has.c1 h rfl) ?_;refine Go.Vm.zR ?_;exact a 0):B:=k h fun _=>a
theorem zT {p A B:Prop} (h:p) (a:A) (k:p→A→B:=by intro h a;(repeat' (first|refine Go.Vm.ob rfl ?_|refine Go.Vm.grow_same h ?_|refine Go.Vm.ob h ?_|refine⟨?_,True.intro⟩|fail));exact a):B:=k h a
theorem zU {A B:Prop} (a:A) (k:A→B:=by intro a;(repeat' (first|refine Go.Vm.ob rfl ?_|refine Go.Vm.grow_same (Go.Vm.Mem.le_refl _) ?_|refine Go.Vm.ob (Go.Vm.Mem.le_refl _) ?_|refine⟨?_,True.intro⟩|fail));exact a):B:=k a
theorem zL {p A B:Prop} (h:p) (a:A) (k:p→A→B:=by intro h a;(repeat' (first|refine⟨?_,True.intro⟩|refine Go.Vm.brn_t rfl ?_|refine Go.Vm.brn_f rfl ?_|refine Go.Vm.ob rfl ?_|refine Go.Vm.ob oD ?_|refine Go.Vm.obr rfl ?_|refine Go.Vm.grow_same (Go.Vm.Mem.le_refl _) ?_|refine Go.Vm.ob (Go.Vm.Mem.le_refl _) ?_|refine Go.Vm.on (Go.Vm.Mem.has.c1 h rfl) ?_|refine⟨_,Go.Vm.Mem.le_refl _,?_⟩|fail));exact a):B:=k h a
theorem zLX {p A B:Prop} (h:p) (a:A) (k:p→A→B:=by intro h a;(repeat' (first|refine⟨?_,True.intro⟩|refine Go.Vm.brn_t rfl ?_|refine Go.Vm.brn_f rfl ?_|refine Go.Vm.ob rfl ?_|refine Go.Vm.ob oD ?_|refine Go.Vm.obr rfl ?_|refine Go.Vm.grow_same (Go.Vm.Mem.le_refl _) ?_|refine Go.Vm.ob (Go.Vm.Mem.le_refl _) ?_|refine Go.Vm.on (Go.Vm.Mem.has.c1 h rfl) ?_|fail));exact a):B:=k h a
theorem zS {t s:St} (h1:zu3 s.fr t.fr:=by repeat' first|exact True.intro|refine⟨rfl,?_⟩) (h2:zu4 s.bx t.bx:=by repeat' first|exact True.intro|refine⟨rfl,?_⟩) (h3:t.M.le s.M:=by exact Go.Vm.Mem.le_refl _) (h4:t.wf=true:=by rfl):t.sub s:=⟨h1,h2,h3,h4⟩
end Go.Vm
def Yg := @Go.Vm.Mem.has_setCells
def Yw := @Go.Vm.Mem.le_setCells
def Yab := @Go.Vm.Mem.minus_le
def Yac := @Go.Vm.Mem.keep_trans
def Yad := @Go.Vm.Mem.keep_upd
def Yaq := @Go.Vm.Mem.minus_in
def Yas := @Go.Vm.Mem.keep_refl
def Yaw := @Go.Vm.NewSl.none
def Ya8 := @Go.Vm.Mem.le_upd
def Ybc := @Go.Vm.NewSl.lit
def Ybh := @Go.Vm.SrcOk.nil
def Ybs := @Go.Vm.Mem.le_minus
def Ybt := @Go.Vm.Mem.keep_of_le
def Ycc := @Go.Vm.Mem.keep_minus
def Ycg := @Go.Vm.Mem.row_le
def Yc6 := @Go.Vm.Mem.empty_le
